/-
  No cell of these rows narrows 'for every input' (looked for: loops, veiled, ifaces, maps, wideKeys, modest, calm, conditions, laid).
  DERIVED. THE GIVEN ROWS OF THIS SEAT. 10 by the template 'for every input the law returns true; each argument reads behind the call as it read before'; 0 by the template 'total and deterministic' (their statements: YtlnigofbpnehlaaTotals.lean).
  GIVEN WITH THE SEED: the statements are not yours to turn. If you find one false, say at which input.
  Laid BY PROGRAM, IN A SANDBOX (cutbox-rows.mjs): the forced cells as the released guide's own fill.sh prints them over the translation 1ae201980914e671… (all of the seat's roots in one cut). By AI agents, Wed Nov 11 2026. No macro, syntax, notation, axiom, sorry.
-/
import Derived.Test.YtlnigofbpnehlaaChecked
import GoSem.Claim
import GoSem.ClaimJoined
import GoSem.ClaimMapViews
import Derived.JoinedTies
import Derived.KernelRfl
namespace Go.Proofs.Ytlnigofbpnehlaa
/- THE CELL 'sum', in the pinned program and in every row, IS THE sha256 OF THE DUMP (.gsa) THAT YtlnigofbpnehlaaProg.lean LOADS. Nothing in Lean hashes anything: it is a label: what it is worth is what the hold of that sum in a sandbox is worth. -/
noncomputable def Try.pinned : Pinned := { name := "ytlnigofbpnehlaa", sum := "1ae201980914e67160cbbda55b8dda4a0786fdc1cc398147d7f4ae5b48ae54bd", checked := Try.checked }
namespace Rows
def none {H : Type} : Left H := { results := [], args := [] }

/-- 'palisadelaw20.VintcOnce': WHATEVER THE INPUT: true; the input reads as it did. -/
def vintcOnceSpec : ChangeSpec := { name := "vintcOnce", fn := fun _ => fun
  | [d1, d2] => { results := [.lit (.bool true)], args := [d1, d2] }
  | _ => none }
def vintcOnceRow : OpenClaim := { program := "ytlnigofbpnehlaa", sum := "1ae201980914e67160cbbda55b8dda4a0786fdc1cc398147d7f4ae5b48ae54bd", func := "palisade/palisadelaw20.VintcOnce", spec := "vintcOnce", unfollowed := true, recurses := true, apart := false }
def VintcOnceSaid : Prop := vintcOnceRow.holds Try.pinned (OpenSpec.ofChange vintcOnceSpec)

/-- ITS FALSE NEIGHBOUR: 'it returns false'. Refute it at one input. -/
def vintcOnceWrong : ChangeSpec := { name := "vintcOnce", fn := fun _ => fun
  | [d1, d2] => { results := [.lit (.bool false)], args := [d1, d2] }
  | _ => none }
def VintcOnceWrongFalsely : Prop := vintcOnceRow.holds Try.pinned (OpenSpec.ofChange vintcOnceWrong)

/-- 'palisadelaw20.VintcGreatest': WHATEVER THE INPUT: true; the input reads as it did. -/
def vintcGreatestSpec : ChangeSpec := { name := "vintcGreatest", fn := fun _ => fun
  | [d1, d2, d3] => { results := [.lit (.bool true)], args := [d1, d2, d3] }
  | _ => none }
def vintcGreatestRow : OpenClaim := { program := "ytlnigofbpnehlaa", sum := "1ae201980914e67160cbbda55b8dda4a0786fdc1cc398147d7f4ae5b48ae54bd", func := "palisade/palisadelaw20.VintcGreatest", spec := "vintcGreatest", unfollowed := true, recurses := true, apart := false }
def VintcGreatestSaid : Prop := vintcGreatestRow.holds Try.pinned (OpenSpec.ofChange vintcGreatestSpec)

/-- ITS FALSE NEIGHBOUR: 'it returns false'. Refute it at one input. -/
def vintcGreatestWrong : ChangeSpec := { name := "vintcGreatest", fn := fun _ => fun
  | [d1, d2, d3] => { results := [.lit (.bool false)], args := [d1, d2, d3] }
  | _ => none }
def VintcGreatestWrongFalsely : Prop := vintcGreatestRow.holds Try.pinned (OpenSpec.ofChange vintcGreatestWrong)

/-- 'palisadelaw20.VintcNobody': WHATEVER THE INPUT: true; the input reads as it did. -/
def vintcNobodySpec : ChangeSpec := { name := "vintcNobody", fn := fun _ => fun
  | [d] => { results := [.lit (.bool true)], args := [d] }
  | _ => none }
def vintcNobodyRow : OpenClaim := { program := "ytlnigofbpnehlaa", sum := "1ae201980914e67160cbbda55b8dda4a0786fdc1cc398147d7f4ae5b48ae54bd", func := "palisade/palisadelaw20.VintcNobody", spec := "vintcNobody", unfollowed := true, recurses := true, apart := false }
def VintcNobodySaid : Prop := vintcNobodyRow.holds Try.pinned (OpenSpec.ofChange vintcNobodySpec)

/-- ITS FALSE NEIGHBOUR: 'it returns false'. Refute it at one input. -/
def vintcNobodyWrong : ChangeSpec := { name := "vintcNobody", fn := fun _ => fun
  | [d] => { results := [.lit (.bool false)], args := [d] }
  | _ => none }
def VintcNobodyWrongFalsely : Prop := vintcNobodyRow.holds Try.pinned (OpenSpec.ofChange vintcNobodyWrong)

/-- 'palisadelaw20.VintcPlays': WHATEVER THE INPUT: true; the input reads as it did. -/
def vintcPlaysSpec : ChangeSpec := { name := "vintcPlays", fn := fun _ => fun
  | [d1, d2] => { results := [.lit (.bool true)], args := [d1, d2] }
  | _ => none }
def vintcPlaysRow : OpenClaim := { program := "ytlnigofbpnehlaa", sum := "1ae201980914e67160cbbda55b8dda4a0786fdc1cc398147d7f4ae5b48ae54bd", func := "palisade/palisadelaw20.VintcPlays", spec := "vintcPlays", unfollowed := true, recurses := true, apart := false }
def VintcPlaysSaid : Prop := vintcPlaysRow.holds Try.pinned (OpenSpec.ofChange vintcPlaysSpec)

/-- ITS FALSE NEIGHBOUR: 'it returns false'. Refute it at one input. -/
def vintcPlaysWrong : ChangeSpec := { name := "vintcPlays", fn := fun _ => fun
  | [d1, d2] => { results := [.lit (.bool false)], args := [d1, d2] }
  | _ => none }
def VintcPlaysWrongFalsely : Prop := vintcPlaysRow.holds Try.pinned (OpenSpec.ofChange vintcPlaysWrong)

/-- 'palisadelaw12.DiskBack': WHATEVER THE INPUT: true; the input reads as it did. -/
def diskBackSpec : ChangeSpec := { name := "diskBack", fn := fun _ => fun
  | [d1, d2, d3] => { results := [.lit (.bool true)], args := [d1, d2, d3] }
  | _ => none }
def diskBackRow : OpenClaim := { program := "ytlnigofbpnehlaa", sum := "1ae201980914e67160cbbda55b8dda4a0786fdc1cc398147d7f4ae5b48ae54bd", func := "palisade/palisadelaw12.DiskBack", spec := "diskBack", unfollowed := true, recurses := true, apart := false }
def DiskBackSaid : Prop := diskBackRow.holds Try.pinned (OpenSpec.ofChange diskBackSpec)

/-- ITS FALSE NEIGHBOUR: 'it returns false'. Refute it at one input. -/
def diskBackWrong : ChangeSpec := { name := "diskBack", fn := fun _ => fun
  | [d1, d2, d3] => { results := [.lit (.bool false)], args := [d1, d2, d3] }
  | _ => none }
def DiskBackWrongFalsely : Prop := diskBackRow.holds Try.pinned (OpenSpec.ofChange diskBackWrong)

/-- 'palisadelaw12.DiskOrder': WHATEVER THE INPUT: true; the input reads as it did. -/
def diskOrderSpec : ChangeSpec := { name := "diskOrder", fn := fun _ => fun
  | [d] => { results := [.lit (.bool true)], args := [d] }
  | _ => none }
def diskOrderRow : OpenClaim := { program := "ytlnigofbpnehlaa", sum := "1ae201980914e67160cbbda55b8dda4a0786fdc1cc398147d7f4ae5b48ae54bd", func := "palisade/palisadelaw12.DiskOrder", spec := "diskOrder", unfollowed := true, recurses := true, apart := false }
def DiskOrderSaid : Prop := diskOrderRow.holds Try.pinned (OpenSpec.ofChange diskOrderSpec)

/-- ITS FALSE NEIGHBOUR: 'it returns false'. Refute it at one input. -/
def diskOrderWrong : ChangeSpec := { name := "diskOrder", fn := fun _ => fun
  | [d] => { results := [.lit (.bool false)], args := [d] }
  | _ => none }
def DiskOrderWrongFalsely : Prop := diskOrderRow.holds Try.pinned (OpenSpec.ofChange diskOrderWrong)

/-- 'palisadelaw12.DiskPlays': WHATEVER THE INPUT: true; the input reads as it did. -/
def diskPlaysSpec : ChangeSpec := { name := "diskPlays", fn := fun _ => fun
  | [d1, d2] => { results := [.lit (.bool true)], args := [d1, d2] }
  | _ => none }
def diskPlaysRow : OpenClaim := { program := "ytlnigofbpnehlaa", sum := "1ae201980914e67160cbbda55b8dda4a0786fdc1cc398147d7f4ae5b48ae54bd", func := "palisade/palisadelaw12.DiskPlays", spec := "diskPlays", unfollowed := true, recurses := true, apart := false }
def DiskPlaysSaid : Prop := diskPlaysRow.holds Try.pinned (OpenSpec.ofChange diskPlaysSpec)

/-- ITS FALSE NEIGHBOUR: 'it returns false'. Refute it at one input. -/
def diskPlaysWrong : ChangeSpec := { name := "diskPlays", fn := fun _ => fun
  | [d1, d2] => { results := [.lit (.bool false)], args := [d1, d2] }
  | _ => none }
def DiskPlaysWrongFalsely : Prop := diskPlaysRow.holds Try.pinned (OpenSpec.ofChange diskPlaysWrong)

/-- 'palisadelaw12.DiskNobody': WHATEVER THE INPUT: true; the input reads as it did. -/
def diskNobodySpec : ChangeSpec := { name := "diskNobody", fn := fun _ => fun
  | [d] => { results := [.lit (.bool true)], args := [d] }
  | _ => none }
def diskNobodyRow : OpenClaim := { program := "ytlnigofbpnehlaa", sum := "1ae201980914e67160cbbda55b8dda4a0786fdc1cc398147d7f4ae5b48ae54bd", func := "palisade/palisadelaw12.DiskNobody", spec := "diskNobody", unfollowed := true, recurses := true, apart := false }
def DiskNobodySaid : Prop := diskNobodyRow.holds Try.pinned (OpenSpec.ofChange diskNobodySpec)

/-- ITS FALSE NEIGHBOUR: 'it returns false'. Refute it at one input. -/
def diskNobodyWrong : ChangeSpec := { name := "diskNobody", fn := fun _ => fun
  | [d] => { results := [.lit (.bool false)], args := [d] }
  | _ => none }
def DiskNobodyWrongFalsely : Prop := diskNobodyRow.holds Try.pinned (OpenSpec.ofChange diskNobodyWrong)

/-- 'palisadelaw23.RingNobody': WHATEVER THE INPUT: true; the input reads as it did. -/
def ringNobodySpec : ChangeSpec := { name := "ringNobody", fn := fun _ => fun
  | [d] => { results := [.lit (.bool true)], args := [d] }
  | _ => none }
def ringNobodyRow : OpenClaim := { program := "ytlnigofbpnehlaa", sum := "1ae201980914e67160cbbda55b8dda4a0786fdc1cc398147d7f4ae5b48ae54bd", func := "palisade/palisadelaw23.RingNobody", spec := "ringNobody", unfollowed := true, recurses := true, apart := false }
def RingNobodySaid : Prop := ringNobodyRow.holds Try.pinned (OpenSpec.ofChange ringNobodySpec)

/-- ITS FALSE NEIGHBOUR: 'it returns false'. Refute it at one input. -/
def ringNobodyWrong : ChangeSpec := { name := "ringNobody", fn := fun _ => fun
  | [d] => { results := [.lit (.bool false)], args := [d] }
  | _ => none }
def RingNobodyWrongFalsely : Prop := ringNobodyRow.holds Try.pinned (OpenSpec.ofChange ringNobodyWrong)

/-- 'palisadelaw23.RingEnds': WHATEVER THE INPUT: true; the input reads as it did. -/
def ringEndsSpec : ChangeSpec := { name := "ringEnds", fn := fun _ => fun
  | [d1, d2, d3] => { results := [.lit (.bool true)], args := [d1, d2, d3] }
  | _ => none }
def ringEndsRow : OpenClaim := { program := "ytlnigofbpnehlaa", sum := "1ae201980914e67160cbbda55b8dda4a0786fdc1cc398147d7f4ae5b48ae54bd", func := "palisade/palisadelaw23.RingEnds", spec := "ringEnds", unfollowed := true, recurses := true, apart := false }
def RingEndsSaid : Prop := ringEndsRow.holds Try.pinned (OpenSpec.ofChange ringEndsSpec)

/-- ITS FALSE NEIGHBOUR: 'it returns false'. Refute it at one input. -/
def ringEndsWrong : ChangeSpec := { name := "ringEnds", fn := fun _ => fun
  | [d1, d2, d3] => { results := [.lit (.bool false)], args := [d1, d2, d3] }
  | _ => none }
def RingEndsWrongFalsely : Prop := ringEndsRow.holds Try.pinned (OpenSpec.ofChange ringEndsWrong)

/- THE SECOND FORM. 'bulk': how many values and letters a reading holds, each counted each time it is reached (what is shared counts as often as it is met; a slice's spare places count too). A statement '..UptoSaid' is the law's where the arguments, and the package variables that the reading takes, are together of bulk at most 1048576: NARROWER than '..Said'. Prove '..Said' where nothing that the law and all that it calls make is longer than what came in: it says more and counts as full. Else prove '..UptoSaid'. A law counts once. -/
mutual
def uptoBulk {H : Type} : DataW H → Nat
  | .lit (.string bytes) => bytes.length + 1
  | .lit _ => 1
  | .nil => 1
  | .ptr d => uptoBulk d + 1
  | .slice elems spare => uptoBulkAll elems + uptoBulkAll spare + 1
  | .agg parts => uptoBulkAll parts + 1
  | .iface _ d => uptoBulk d + 1
  | .map entries => uptoBulkEntries entries + 1
  | .held _ => 1
def uptoBulkAll {H : Type} : List (DataW H) → Nat
  | [] => 0
  | d :: r => uptoBulk d + uptoBulkAll r
def uptoBulkEntries {H : Type} : List (Lit × DataW H) → Nat
  | [] => 0
  | x :: r => uptoBulkEntry x + uptoBulkEntries r
def uptoBulkEntry {H : Type} : Lit × DataW H → Nat
  | (.string bytes, d) => bytes.length + uptoBulk d + 1
  | (_, d) => uptoBulk d + 1
 end
def uptoSmall : (H : Type) → List (DataW H) → Bool := fun _ ds => decide (uptoBulkAll ds ≤ 1048576)
def OpenSpec.upto (s : _root_.Go.ChangeSpec) : _root_.Go.OpenSpec := { _root_.Go.OpenSpec.ofChange s with cond := some uptoSmall }

/-- 'palisadelaw20.VintcOnce', WHERE WHAT IT READS IS OF BULK AT MOST 1048576: true; the input reads as it did. -/
def vintcOnceUptoRow : OpenClaim := { program := "ytlnigofbpnehlaa", sum := "1ae201980914e67160cbbda55b8dda4a0786fdc1cc398147d7f4ae5b48ae54bd", func := "palisade/palisadelaw20.VintcOnce", spec := "vintcOnce", unfollowed := true, recurses := true, apart := false, narrowed := true }
def VintcOnceUptoSaid : Prop := vintcOnceUptoRow.holds Try.pinned (OpenSpec.upto vintcOnceSpec)

/-- 'palisadelaw20.VintcGreatest', WHERE WHAT IT READS IS OF BULK AT MOST 1048576: true; the input reads as it did. -/
def vintcGreatestUptoRow : OpenClaim := { program := "ytlnigofbpnehlaa", sum := "1ae201980914e67160cbbda55b8dda4a0786fdc1cc398147d7f4ae5b48ae54bd", func := "palisade/palisadelaw20.VintcGreatest", spec := "vintcGreatest", unfollowed := true, recurses := true, apart := false, narrowed := true }
def VintcGreatestUptoSaid : Prop := vintcGreatestUptoRow.holds Try.pinned (OpenSpec.upto vintcGreatestSpec)

/-- 'palisadelaw20.VintcNobody', WHERE WHAT IT READS IS OF BULK AT MOST 1048576: true; the input reads as it did. -/
def vintcNobodyUptoRow : OpenClaim := { program := "ytlnigofbpnehlaa", sum := "1ae201980914e67160cbbda55b8dda4a0786fdc1cc398147d7f4ae5b48ae54bd", func := "palisade/palisadelaw20.VintcNobody", spec := "vintcNobody", unfollowed := true, recurses := true, apart := false, narrowed := true }
def VintcNobodyUptoSaid : Prop := vintcNobodyUptoRow.holds Try.pinned (OpenSpec.upto vintcNobodySpec)

/-- 'palisadelaw20.VintcPlays', WHERE WHAT IT READS IS OF BULK AT MOST 1048576: true; the input reads as it did. -/
def vintcPlaysUptoRow : OpenClaim := { program := "ytlnigofbpnehlaa", sum := "1ae201980914e67160cbbda55b8dda4a0786fdc1cc398147d7f4ae5b48ae54bd", func := "palisade/palisadelaw20.VintcPlays", spec := "vintcPlays", unfollowed := true, recurses := true, apart := false, narrowed := true }
def VintcPlaysUptoSaid : Prop := vintcPlaysUptoRow.holds Try.pinned (OpenSpec.upto vintcPlaysSpec)

/-- 'palisadelaw12.DiskBack', WHERE WHAT IT READS IS OF BULK AT MOST 1048576: true; the input reads as it did. -/
def diskBackUptoRow : OpenClaim := { program := "ytlnigofbpnehlaa", sum := "1ae201980914e67160cbbda55b8dda4a0786fdc1cc398147d7f4ae5b48ae54bd", func := "palisade/palisadelaw12.DiskBack", spec := "diskBack", unfollowed := true, recurses := true, apart := false, narrowed := true }
def DiskBackUptoSaid : Prop := diskBackUptoRow.holds Try.pinned (OpenSpec.upto diskBackSpec)

/-- 'palisadelaw12.DiskOrder', WHERE WHAT IT READS IS OF BULK AT MOST 1048576: true; the input reads as it did. -/
def diskOrderUptoRow : OpenClaim := { program := "ytlnigofbpnehlaa", sum := "1ae201980914e67160cbbda55b8dda4a0786fdc1cc398147d7f4ae5b48ae54bd", func := "palisade/palisadelaw12.DiskOrder", spec := "diskOrder", unfollowed := true, recurses := true, apart := false, narrowed := true }
def DiskOrderUptoSaid : Prop := diskOrderUptoRow.holds Try.pinned (OpenSpec.upto diskOrderSpec)

/-- 'palisadelaw12.DiskPlays', WHERE WHAT IT READS IS OF BULK AT MOST 1048576: true; the input reads as it did. -/
def diskPlaysUptoRow : OpenClaim := { program := "ytlnigofbpnehlaa", sum := "1ae201980914e67160cbbda55b8dda4a0786fdc1cc398147d7f4ae5b48ae54bd", func := "palisade/palisadelaw12.DiskPlays", spec := "diskPlays", unfollowed := true, recurses := true, apart := false, narrowed := true }
def DiskPlaysUptoSaid : Prop := diskPlaysUptoRow.holds Try.pinned (OpenSpec.upto diskPlaysSpec)

/-- 'palisadelaw12.DiskNobody', WHERE WHAT IT READS IS OF BULK AT MOST 1048576: true; the input reads as it did. -/
def diskNobodyUptoRow : OpenClaim := { program := "ytlnigofbpnehlaa", sum := "1ae201980914e67160cbbda55b8dda4a0786fdc1cc398147d7f4ae5b48ae54bd", func := "palisade/palisadelaw12.DiskNobody", spec := "diskNobody", unfollowed := true, recurses := true, apart := false, narrowed := true }
def DiskNobodyUptoSaid : Prop := diskNobodyUptoRow.holds Try.pinned (OpenSpec.upto diskNobodySpec)

/-- 'palisadelaw23.RingNobody', WHERE WHAT IT READS IS OF BULK AT MOST 1048576: true; the input reads as it did. -/
def ringNobodyUptoRow : OpenClaim := { program := "ytlnigofbpnehlaa", sum := "1ae201980914e67160cbbda55b8dda4a0786fdc1cc398147d7f4ae5b48ae54bd", func := "palisade/palisadelaw23.RingNobody", spec := "ringNobody", unfollowed := true, recurses := true, apart := false, narrowed := true }
def RingNobodyUptoSaid : Prop := ringNobodyUptoRow.holds Try.pinned (OpenSpec.upto ringNobodySpec)

/-- 'palisadelaw23.RingEnds', WHERE WHAT IT READS IS OF BULK AT MOST 1048576: true; the input reads as it did. -/
def ringEndsUptoRow : OpenClaim := { program := "ytlnigofbpnehlaa", sum := "1ae201980914e67160cbbda55b8dda4a0786fdc1cc398147d7f4ae5b48ae54bd", func := "palisade/palisadelaw23.RingEnds", spec := "ringEnds", unfollowed := true, recurses := true, apart := false, narrowed := true }
def RingEndsUptoSaid : Prop := ringEndsUptoRow.holds Try.pinned (OpenSpec.upto ringEndsSpec)

end Rows
end Go.Proofs.Ytlnigofbpnehlaa
