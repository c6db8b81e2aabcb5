/- The library functions of this seat: their numbers, and that they are the library's. PRINTED by lay.py. -/
import Derived.Test.YtgigbjieppllgaaLiftS
import Derived.Test.YtgigbjieppllgaaProg
import Derived.KernelRfl
set_option linter.unusedVariables false
set_option maxRecDepth 100000
namespace Go.Fn
open Go.Lift Go.Shelf Go.Proofs

def lays189_ren : Ren :=
{
  f := fun x =>
    match x with
    | 189 => 15
    | 125 => 23
    | 257 => 22
    | 128 => 40
    | 129 => 41
    | 294 => 31
    | 295 => 32
    | 296 => 33
    | 297 => 34
    | 298 => 35
    | 299 => 36
    | 216 => 37
    | 300 => 38
    | 301 => 39
    | 328 => 50
    | 329 => 51
    | 330 => 52
    | 331 => 53
    | 332 => 54
    | 215 => 55
    | 343 => 70
    | n => n,
  t := fun x =>
    match x with
    | 28 => 29
    | 3 => 3
    | 46 => 58
    | 0 => 0
    | 51 => 63
    | 53 => 27
    | 4 => 4
    | 183 => 97
    | 182 => 96
    | 131 => 102
    | 5 => 5
    | 9 => 9
    | 218 => 115
    | 222 => 119
    | 228 => 143
    | 229 => 144
    | n => n,
  g := fun x =>
    x }

theorem lays189 : Lays.n189 Go.Proofs.Try.prog lays189_ren :=
{ mixed := Eq.refl true, f125 := Eq.trans Go.Proofs.Try.func23 (by kernel_rfl),
  f128 := Eq.trans Go.Proofs.Try.func40 (by kernel_rfl),
  f129 := Eq.trans Go.Proofs.Try.func41 (by kernel_rfl),
  f189 := Eq.trans Go.Proofs.Try.func15 (by kernel_rfl),
  f215 := Eq.trans Go.Proofs.Try.func55 (by kernel_rfl),
  f216 := Eq.trans Go.Proofs.Try.func37 (by kernel_rfl),
  f257 := Eq.trans Go.Proofs.Try.func22 (by kernel_rfl),
  f294 := Eq.trans Go.Proofs.Try.func31 (by kernel_rfl),
  f295 := Eq.trans Go.Proofs.Try.func32 (by kernel_rfl),
  f296 := Eq.trans Go.Proofs.Try.func33 (by kernel_rfl),
  f297 := Eq.trans Go.Proofs.Try.func34 (by kernel_rfl),
  f298 := Eq.trans Go.Proofs.Try.func35 (by kernel_rfl),
  f299 := Eq.trans Go.Proofs.Try.func36 (by kernel_rfl),
  f300 := Eq.trans Go.Proofs.Try.func38 (by kernel_rfl),
  f301 := Eq.trans Go.Proofs.Try.func39 (by kernel_rfl),
  f328 := Eq.trans Go.Proofs.Try.func50 (by kernel_rfl),
  f329 := Eq.trans Go.Proofs.Try.func51 (by kernel_rfl),
  f330 := Eq.trans Go.Proofs.Try.func52 (by kernel_rfl),
  f331 := Eq.trans Go.Proofs.Try.func53 (by kernel_rfl),
  f332 := Eq.trans Go.Proofs.Try.func54 (by kernel_rfl),
  f343 := Eq.trans Go.Proofs.Try.func70 (by kernel_rfl), t0 := Go.Proofs.Try.underlying0,
  a0 := Go.Proofs.Try.isAgg0, z0 := Go.Proofs.Try.sizeOf0, v0 := Go.Proofs.Try.zeroValue0, t3 := Go.Proofs.Try.underlying3, a3 := Go.Proofs.Try.isAgg3, z3 := Go.Proofs.Try.sizeOf3,
  v3 := Go.Proofs.Try.zeroValue3, t4 := Go.Proofs.Try.underlying4, a4 := Go.Proofs.Try.isAgg4, z4 := Go.Proofs.Try.sizeOf4, v4 := Go.Proofs.Try.zeroValue4,
  t5 := Go.Proofs.Try.underlying5, a5 := Go.Proofs.Try.isAgg5, z5 := Go.Proofs.Try.sizeOf5, v5 := Go.Proofs.Try.zeroValue5, t9 := Go.Proofs.Try.underlying9,
  a9 := Go.Proofs.Try.isAgg9, z9 := Go.Proofs.Try.sizeOf9, v9 := Go.Proofs.Try.zeroValue9, t28 := Go.Proofs.Try.underlying29, a28 := Go.Proofs.Try.isAgg29,
  z28 := Go.Proofs.Try.sizeOf29, v28 := Go.Proofs.Try.zeroValue29, t46 := Go.Proofs.Try.underlying58, a46 := Go.Proofs.Try.isAgg58, z46 := Go.Proofs.Try.sizeOf58,
  v46 := Go.Proofs.Try.zeroValue58, t51 := Go.Proofs.Try.underlying63, a51 := Go.Proofs.Try.isAgg63, z51 := Go.Proofs.Try.sizeOf63, v51 := Go.Proofs.Try.zeroValue63,
  t53 := Go.Proofs.Try.underlying27, a53 := Go.Proofs.Try.isAgg27, z53 := Go.Proofs.Try.sizeOf27, v53 := Go.Proofs.Try.zeroValue27, t131 := Go.Proofs.Try.underlying102,
  a131 := Go.Proofs.Try.isAgg102, z131 := Go.Proofs.Try.sizeOf102, v131 := Go.Proofs.Try.zeroValue102, t182 := Go.Proofs.Try.underlying96, a182 := Go.Proofs.Try.isAgg96,
  z182 := Go.Proofs.Try.sizeOf96, v182 := Go.Proofs.Try.zeroValue96, t183 := Go.Proofs.Try.underlying97, a183 := Go.Proofs.Try.isAgg97, z183 := Go.Proofs.Try.sizeOf97,
  v183 := Go.Proofs.Try.zeroValue97, t218 := Go.Proofs.Try.underlying115, a218 := Go.Proofs.Try.isAgg115, z218 := Go.Proofs.Try.sizeOf115,
  v218 := Go.Proofs.Try.zeroValue115, t222 := Go.Proofs.Try.underlying119, a222 := Go.Proofs.Try.isAgg119, z222 := Go.Proofs.Try.sizeOf119,
  v222 := Go.Proofs.Try.zeroValue119, t228 := Go.Proofs.Try.underlying143, a228 := Go.Proofs.Try.isAgg143, z228 := Go.Proofs.Try.sizeOf143,
  v228 := Go.Proofs.Try.zeroValue143, t229 := Go.Proofs.Try.underlying144, a229 := Go.Proofs.Try.isAgg144, z229 := Go.Proofs.Try.sizeOf144,
  v229 := Go.Proofs.Try.zeroValue144 }

end Go.Fn
