/- The library functions of this seat: their numbers, and that they are the library's. PRINTED by lay.py. -/
import Derived.Test.YtgigbjieppllgaaDoorLiftT
import Derived.Shelf.LaysM
import Derived.Test.YtgigbjieppllgaaDoorProg
import Derived.KernelRfl
set_option linter.unusedVariables false
set_option maxRecDepth 100000
namespace Go.Fn
open Go.Lift Go.Shelf Go.Proofs

def lays157_ren : Ren :=
{
  f := fun x =>
    match x with
    | 157 => 8
    | 229 => 21
    | 199 => 22
    | 261 => 37
    | 311 => 49
    | 312 => 50
    | n => n,
  t := fun x =>
    match x with
    | 9 => 9
    | 31 => 31
    | 3 => 3
    | 5 => 5
    | 4 => 4
    | 119 => 44
    | 0 => 0
    | 40 => 46
    | 152 => 73
    | 21 => 21
    | 154 => 75
    | 51 => 22
    | 141 => 77
    | 196 => 91
    | 193 => 88
    | 198 => 94
    | 49 => 92
    | 194 => 89
    | 201 => 97
    | 226 => 107
    | 46 => 62
    | 227 => 108
    | n => n,
  g := fun x =>
    match x with
    | 0 => 0
    | 6 => 1
    | n => n }

def lays171_ren : Ren :=
{
  f := fun x =>
    match x with
    | 171 => 7
    | 243 => 20
    | 246 => 36
    | 283 => 45
    | 284 => 46
    | 285 => 47
    | 286 => 48
    | 129 => 57
    | 317 => 56
    | 318 => 58
    | 319 => 59
    | 320 => 60
    | 337 => 62
    | 338 => 63
    | n => n,
  t := fun x =>
    match x with
    | 3 => 3
    | 9 => 9
    | 2 => 2
    | 4 => 4
    | 171 => 83
    | 0 => 0
    | 53 => 64
    | 37 => 50
    | 5 => 5
    | 173 => 86
    | 212 => 104
    | 51 => 22
    | 20 => 20
    | 213 => 105
    | 46 => 62
    | 232 => 110
    | 233 => 111
    | n => n,
  g := fun x =>
    match x with
    | 17 => 2
    | 18 => 4
    | 19 => 5
    | n => n }

def lays156_ren : Ren :=
{
  f := fun x =>
    match x with
    | 156 => 10
    | 165 => 24
    | 166 => 25
    | 169 => 26
    | 240 => 39
    | 241 => 40
    | 276 => 51
    | 277 => 52
    | n => n,
  t := fun x =>
    match x with
    | 31 => 31
    | 9 => 9
    | 3 => 3
    | 4 => 4
    | 0 => 0
    | 20 => 20
    | 72 => 52
    | 76 => 56
    | 70 => 49
    | 37 => 50
    | 75 => 55
    | 127 => 79
    | 164 => 99
    | 5 => 5
    | 80 => 58
    | n => n,
  g := fun x =>
    x }

theorem lays157 : Lays.n157 Go.Proofs.Tryd.prog lays157_ren :=
{ mixed := Eq.refl true, f157 := Eq.trans Go.Proofs.Tryd.func8 (by kernel_rfl),
  f199 := Eq.trans Go.Proofs.Tryd.func22 (by kernel_rfl),
  f229 := Eq.trans Go.Proofs.Tryd.func21 (by kernel_rfl),
  f261 := Eq.trans Go.Proofs.Tryd.func37 (by kernel_rfl),
  f311 := Eq.trans Go.Proofs.Tryd.func49 (by kernel_rfl),
  f312 := Eq.trans Go.Proofs.Tryd.func50 (by kernel_rfl), t0 := Go.Proofs.Tryd.underlying0,
  a0 := Go.Proofs.Tryd.isAgg0, z0 := Go.Proofs.Tryd.sizeOf0, v0 := Go.Proofs.Tryd.zeroValue0, t3 := Go.Proofs.Tryd.underlying3, a3 := Go.Proofs.Tryd.isAgg3,
  z3 := Go.Proofs.Tryd.sizeOf3, v3 := Go.Proofs.Tryd.zeroValue3, t4 := Go.Proofs.Tryd.underlying4, a4 := Go.Proofs.Tryd.isAgg4, z4 := Go.Proofs.Tryd.sizeOf4,
  v4 := Go.Proofs.Tryd.zeroValue4, t5 := Go.Proofs.Tryd.underlying5, a5 := Go.Proofs.Tryd.isAgg5, z5 := Go.Proofs.Tryd.sizeOf5, v5 := Go.Proofs.Tryd.zeroValue5,
  t9 := Go.Proofs.Tryd.underlying9, a9 := Go.Proofs.Tryd.isAgg9, z9 := Go.Proofs.Tryd.sizeOf9, v9 := Go.Proofs.Tryd.zeroValue9, t21 := Go.Proofs.Tryd.underlying21,
  a21 := Go.Proofs.Tryd.isAgg21, z21 := Go.Proofs.Tryd.sizeOf21, v21 := Go.Proofs.Tryd.zeroValue21, t31 := Go.Proofs.Tryd.underlying31, a31 := Go.Proofs.Tryd.isAgg31,
  z31 := Go.Proofs.Tryd.sizeOf31, v31 := Go.Proofs.Tryd.zeroValue31, t40 := Go.Proofs.Tryd.underlying46, a40 := Go.Proofs.Tryd.isAgg46, z40 := Go.Proofs.Tryd.sizeOf46,
  v40 := Go.Proofs.Tryd.zeroValue46, t46 := Go.Proofs.Tryd.underlying62, a46 := Go.Proofs.Tryd.isAgg62, z46 := Go.Proofs.Tryd.sizeOf62, v46 := Go.Proofs.Tryd.zeroValue62,
  t49 := Go.Proofs.Tryd.underlying92, a49 := Go.Proofs.Tryd.isAgg92, z49 := Go.Proofs.Tryd.sizeOf92, v49 := Go.Proofs.Tryd.zeroValue92,
  t51 := Go.Proofs.Tryd.underlying22, a51 := Go.Proofs.Tryd.isAgg22, z51 := Go.Proofs.Tryd.sizeOf22, v51 := Go.Proofs.Tryd.zeroValue22,
  t119 := Go.Proofs.Tryd.underlying44, a119 := Go.Proofs.Tryd.isAgg44, z119 := Go.Proofs.Tryd.sizeOf44, t141 := Go.Proofs.Tryd.underlying77,
  a141 := Go.Proofs.Tryd.isAgg77, z141 := Go.Proofs.Tryd.sizeOf77, v141 := Go.Proofs.Tryd.zeroValue77, t152 := Go.Proofs.Tryd.underlying73,
  a152 := Go.Proofs.Tryd.isAgg73, z152 := Go.Proofs.Tryd.sizeOf73, v152 := Go.Proofs.Tryd.zeroValue73, t154 := Go.Proofs.Tryd.underlying75,
  a154 := Go.Proofs.Tryd.isAgg75, z154 := Go.Proofs.Tryd.sizeOf75, v154 := Go.Proofs.Tryd.zeroValue75, t193 := Go.Proofs.Tryd.underlying88,
  a193 := Go.Proofs.Tryd.isAgg88, z193 := Go.Proofs.Tryd.sizeOf88, v193 := Go.Proofs.Tryd.zeroValue88, t194 := Go.Proofs.Tryd.underlying89,
  a194 := Go.Proofs.Tryd.isAgg89, z194 := Go.Proofs.Tryd.sizeOf89, v194 := Go.Proofs.Tryd.zeroValue89, t196 := Go.Proofs.Tryd.underlying91,
  a196 := Go.Proofs.Tryd.isAgg91, z196 := Go.Proofs.Tryd.sizeOf91, v196 := Go.Proofs.Tryd.zeroValue91, t198 := Go.Proofs.Tryd.underlying94,
  a198 := Go.Proofs.Tryd.isAgg94, z198 := Go.Proofs.Tryd.sizeOf94, v198 := Go.Proofs.Tryd.zeroValue94, t201 := Go.Proofs.Tryd.underlying97,
  a201 := Go.Proofs.Tryd.isAgg97, z201 := Go.Proofs.Tryd.sizeOf97, v201 := Go.Proofs.Tryd.zeroValue97, t226 := Go.Proofs.Tryd.underlying107,
  a226 := Go.Proofs.Tryd.isAgg107, z226 := Go.Proofs.Tryd.sizeOf107, v226 := Go.Proofs.Tryd.zeroValue107, t227 := Go.Proofs.Tryd.underlying108,
  a227 := Go.Proofs.Tryd.isAgg108, z227 := Go.Proofs.Tryd.sizeOf108, v227 := Go.Proofs.Tryd.zeroValue108, g0 := (by kernel_rfl),
  g6 := (by kernel_rfl) }

theorem lays171 : LaysM.n171 Go.Proofs.Tryd.prog lays171_ren :=
{ mixed := Eq.refl true, f129 := Eq.trans Go.Proofs.Tryd.func57 (by kernel_rfl),
  f171 := Eq.trans Go.Proofs.Tryd.func7 (by kernel_rfl),
  f243 := Eq.trans Go.Proofs.Tryd.func20 (by kernel_rfl),
  f246 := Eq.trans Go.Proofs.Tryd.func36 (by kernel_rfl),
  f283 := Eq.trans Go.Proofs.Tryd.func45 (by kernel_rfl),
  f284 := Eq.trans Go.Proofs.Tryd.func46 (by kernel_rfl),
  f285 := Eq.trans Go.Proofs.Tryd.func47 (by kernel_rfl),
  f286 := Eq.trans Go.Proofs.Tryd.func48 (by kernel_rfl),
  f317 := Eq.trans Go.Proofs.Tryd.func56 (by kernel_rfl),
  f318 := Eq.trans Go.Proofs.Tryd.func58 (by kernel_rfl),
  f319 := Eq.trans Go.Proofs.Tryd.func59 (by kernel_rfl),
  f320 := Eq.trans Go.Proofs.Tryd.func60 (by kernel_rfl),
  f337 := Eq.trans Go.Proofs.Tryd.func62 (by kernel_rfl),
  f338 := Eq.trans Go.Proofs.Tryd.func63 (by kernel_rfl), t0 := Go.Proofs.Tryd.underlying0,
  a0 := Go.Proofs.Tryd.isAgg0, z0 := Go.Proofs.Tryd.sizeOf0, v0 := Go.Proofs.Tryd.zeroValue0, t2 := Go.Proofs.Tryd.underlying2, a2 := Go.Proofs.Tryd.isAgg2,
  z2 := Go.Proofs.Tryd.sizeOf2, v2 := Go.Proofs.Tryd.zeroValue2, t3 := Go.Proofs.Tryd.underlying3, a3 := Go.Proofs.Tryd.isAgg3, z3 := Go.Proofs.Tryd.sizeOf3,
  v3 := Go.Proofs.Tryd.zeroValue3, t4 := Go.Proofs.Tryd.underlying4, a4 := Go.Proofs.Tryd.isAgg4, z4 := Go.Proofs.Tryd.sizeOf4, v4 := Go.Proofs.Tryd.zeroValue4,
  t5 := Go.Proofs.Tryd.underlying5, a5 := Go.Proofs.Tryd.isAgg5, z5 := Go.Proofs.Tryd.sizeOf5, v5 := Go.Proofs.Tryd.zeroValue5, t9 := Go.Proofs.Tryd.underlying9,
  a9 := Go.Proofs.Tryd.isAgg9, z9 := Go.Proofs.Tryd.sizeOf9, v9 := Go.Proofs.Tryd.zeroValue9, t20 := Go.Proofs.Tryd.underlying20, a20 := Go.Proofs.Tryd.isAgg20,
  z20 := Go.Proofs.Tryd.sizeOf20, v20 := Go.Proofs.Tryd.zeroValue20, t37 := Go.Proofs.Tryd.underlying50, a37 := Go.Proofs.Tryd.isAgg50, z37 := Go.Proofs.Tryd.sizeOf50,
  v37 := Go.Proofs.Tryd.zeroValue50, t46 := Go.Proofs.Tryd.underlying62, a46 := Go.Proofs.Tryd.isAgg62, z46 := Go.Proofs.Tryd.sizeOf62, v46 := Go.Proofs.Tryd.zeroValue62,
  t51 := Go.Proofs.Tryd.underlying22, a51 := Go.Proofs.Tryd.isAgg22, z51 := Go.Proofs.Tryd.sizeOf22, v51 := Go.Proofs.Tryd.zeroValue22,
  t53 := Go.Proofs.Tryd.underlying64, a53 := Go.Proofs.Tryd.isAgg64, z53 := Go.Proofs.Tryd.sizeOf64, v53 := Go.Proofs.Tryd.zeroValue64,
  t171 := Go.Proofs.Tryd.underlying83, a171 := Go.Proofs.Tryd.isAgg83, z171 := Go.Proofs.Tryd.sizeOf83, v171 := Go.Proofs.Tryd.zeroValue83,
  t173 := Go.Proofs.Tryd.underlying86, a173 := Go.Proofs.Tryd.isAgg86, z173 := Go.Proofs.Tryd.sizeOf86, v173 := Go.Proofs.Tryd.zeroValue86,
  t212 := Go.Proofs.Tryd.underlying104, a212 := Go.Proofs.Tryd.isAgg104, z212 := Go.Proofs.Tryd.sizeOf104, v212 := Go.Proofs.Tryd.zeroValue104,
  t213 := Go.Proofs.Tryd.underlying105, a213 := Go.Proofs.Tryd.isAgg105, z213 := Go.Proofs.Tryd.sizeOf105, t232 := Go.Proofs.Tryd.underlying110,
  a232 := Go.Proofs.Tryd.isAgg110, z232 := Go.Proofs.Tryd.sizeOf110, v232 := Go.Proofs.Tryd.zeroValue110, t233 := Go.Proofs.Tryd.underlying111,
  a233 := Go.Proofs.Tryd.isAgg111, z233 := Go.Proofs.Tryd.sizeOf111, v233 := Go.Proofs.Tryd.zeroValue111,
  g17 := (by kernel_rfl), g18 := (by kernel_rfl),
  g19 := (by kernel_rfl), i0 := Eq.refl (some (some (Value.tuple #[]), 1, 0)),
  i2 := Eq.refl (some (some (Value.int IntKind.i64 0), 1, 8)),
  i3 := Eq.refl (some (some (Value.int IntKind.i64 0), 1, 8)), i4 := Eq.refl (some (some (Value.bool false), 1, 1)),
  i5 := Eq.refl (some (some (Value.int IntKind.u8 0), 1, 1)),
  i9 := Eq.refl (some (some (Value.string { data := #[] }), 1, 16)), i20 := Eq.refl (some (some Value.nilIface, 1, 16)),
  i37 := Eq.refl (some (some (Value.slice none 0 0), 1, 24)),
  i46 := Eq.refl (some (some (Value.int IntKind.u64 0), 1, 8)),
  i51 := Eq.refl (some (some (Value.int IntKind.u32 0), 1, 4)),
  i53 := Eq.refl (some (some (Value.int IntKind.u64 0), 1, 8)),
  i171 :=
    Eq.refl
      (some
        (some
            (Value.agg
              #[Value.int IntKind.u8 0, Value.int IntKind.u8 0, Value.int IntKind.u8 0, Value.int IntKind.u8 0,
                Value.int IntKind.u8 0, Value.int IntKind.u8 0, Value.int IntKind.u8 0, Value.int IntKind.u8 0,
                Value.int IntKind.u8 0, Value.int IntKind.u8 0, Value.int IntKind.u8 0, Value.int IntKind.u8 0,
                Value.int IntKind.u8 0, Value.int IntKind.u8 0, Value.int IntKind.u8 0, Value.int IntKind.u8 0,
                Value.int IntKind.u8 0, Value.int IntKind.u8 0, Value.int IntKind.u8 0, Value.int IntKind.u8 0,
                Value.int IntKind.u8 0, Value.int IntKind.u8 0, Value.int IntKind.u8 0, Value.int IntKind.u8 0]),
          24, 24)),
  i173 := Eq.refl (some (some (Value.tuple #[Value.slice none 0 0, Value.string { data := #[] }]), 1, 0)),
  i212 :=
    Eq.refl
      (some
        (some
            (Value.agg
              #[Value.int IntKind.u64 0, Value.int IntKind.u64 0, Value.int IntKind.u64 0, Value.int IntKind.u64 0,
                Value.int IntKind.u64 0, Value.int IntKind.u64 0, Value.int IntKind.u64 0, Value.int IntKind.u64 0,
                Value.int IntKind.u64 0, Value.int IntKind.u64 0, Value.int IntKind.u64 0, Value.int IntKind.u64 0,
                Value.int IntKind.u64 0, Value.int IntKind.u64 0, Value.int IntKind.u64 0, Value.int IntKind.u64 0,
                Value.int IntKind.u64 0, Value.int IntKind.u64 0, Value.int IntKind.u64 0, Value.int IntKind.u64 0]),
          20, 160)),
  i232 :=
    Eq.refl
      (some
        (some
            (Value.agg
              #[Value.int IntKind.u8 0, Value.int IntKind.u8 0, Value.int IntKind.u8 0, Value.int IntKind.u8 0,
                Value.int IntKind.u8 0, Value.int IntKind.u8 0, Value.int IntKind.u8 0, Value.int IntKind.u8 0,
                Value.int IntKind.u8 0, Value.int IntKind.u8 0, Value.int IntKind.u8 0, Value.int IntKind.u8 0,
                Value.int IntKind.u8 0, Value.int IntKind.u8 0, Value.int IntKind.u8 0, Value.int IntKind.u8 0,
                Value.int IntKind.u8 0, Value.int IntKind.u8 0, Value.int IntKind.u8 0, Value.int IntKind.u8 0,
                Value.int IntKind.u8 0, Value.int IntKind.u8 0, Value.int IntKind.u8 0, Value.int IntKind.u8 0,
                Value.int IntKind.u8 0, Value.int IntKind.u8 0, Value.int IntKind.u8 0, Value.int IntKind.u8 0,
                Value.int IntKind.u8 0, Value.int IntKind.u8 0, Value.int IntKind.u8 0, Value.int IntKind.u8 0]),
          32, 32)),
  i233 :=
    Eq.refl
      (some
        (some
            (Value.agg
              (let y :=
                  let y :=
                    let y :=
                      let y :=
                        [Value.int IntKind.u8 0, Value.int IntKind.u8 0, Value.int IntKind.u8 0,
                          Value.int IntKind.u8 0];
                      Value.int IntKind.u8 0 ::
                        Value.int IntKind.u8 0 :: Value.int IntKind.u8 0 :: Value.int IntKind.u8 0 :: y;
                    let y :=
                      Value.int IntKind.u8 0 ::
                        Value.int IntKind.u8 0 :: Value.int IntKind.u8 0 :: Value.int IntKind.u8 0 :: y;
                    Value.int IntKind.u8 0 ::
                      Value.int IntKind.u8 0 :: Value.int IntKind.u8 0 :: Value.int IntKind.u8 0 :: y;
                  let y :=
                    let y :=
                      Value.int IntKind.u8 0 ::
                        Value.int IntKind.u8 0 :: Value.int IntKind.u8 0 :: Value.int IntKind.u8 0 :: y;
                    Value.int IntKind.u8 0 ::
                      Value.int IntKind.u8 0 :: Value.int IntKind.u8 0 :: Value.int IntKind.u8 0 :: y;
                  let y :=
                    Value.int IntKind.u8 0 ::
                      Value.int IntKind.u8 0 :: Value.int IntKind.u8 0 :: Value.int IntKind.u8 0 :: y;
                  Value.int IntKind.u8 0 ::
                    Value.int IntKind.u8 0 :: Value.int IntKind.u8 0 :: Value.int IntKind.u8 0 :: y;
                let y :=
                  let y :=
                    let y :=
                      Value.int IntKind.u8 0 ::
                        Value.int IntKind.u8 0 :: Value.int IntKind.u8 0 :: Value.int IntKind.u8 0 :: y;
                    Value.int IntKind.u8 0 ::
                      Value.int IntKind.u8 0 :: Value.int IntKind.u8 0 :: Value.int IntKind.u8 0 :: y;
                  let y :=
                    Value.int IntKind.u8 0 ::
                      Value.int IntKind.u8 0 :: Value.int IntKind.u8 0 :: Value.int IntKind.u8 0 :: y;
                  Value.int IntKind.u8 0 ::
                    Value.int IntKind.u8 0 :: Value.int IntKind.u8 0 :: Value.int IntKind.u8 0 :: y;
                let y :=
                  let y :=
                    Value.int IntKind.u8 0 ::
                      Value.int IntKind.u8 0 :: Value.int IntKind.u8 0 :: Value.int IntKind.u8 0 :: y;
                  Value.int IntKind.u8 0 ::
                    Value.int IntKind.u8 0 :: Value.int IntKind.u8 0 :: Value.int IntKind.u8 0 :: y;
                let y :=
                  Value.int IntKind.u8 0 ::
                    Value.int IntKind.u8 0 :: Value.int IntKind.u8 0 :: Value.int IntKind.u8 0 :: y;
                Value.int IntKind.u8 0 ::
                  Value.int IntKind.u8 0 :: Value.int IntKind.u8 0 :: Value.int IntKind.u8 0 :: y).toArray),
          64, 64)),
  m17 := (by kernel_rfl), m18 := (by kernel_rfl),
  m19 := (by kernel_rfl) }

theorem lays156 : Lays.n156 Go.Proofs.Tryd.prog lays156_ren :=
{ mixed := Eq.refl true, f156 := Eq.trans Go.Proofs.Tryd.func10 (by kernel_rfl),
  f165 := Eq.trans Go.Proofs.Tryd.func24 (by kernel_rfl),
  f166 := Eq.trans Go.Proofs.Tryd.func25 (by kernel_rfl),
  f169 := Eq.trans Go.Proofs.Tryd.func26 (by kernel_rfl),
  f240 := Eq.trans Go.Proofs.Tryd.func39 (by kernel_rfl),
  f241 := Eq.trans Go.Proofs.Tryd.func40 (by kernel_rfl),
  f276 := Eq.trans Go.Proofs.Tryd.func51 (by kernel_rfl),
  f277 := Eq.trans Go.Proofs.Tryd.func52 (by kernel_rfl), t0 := Go.Proofs.Tryd.underlying0,
  a0 := Go.Proofs.Tryd.isAgg0, z0 := Go.Proofs.Tryd.sizeOf0, v0 := Go.Proofs.Tryd.zeroValue0, t3 := Go.Proofs.Tryd.underlying3, a3 := Go.Proofs.Tryd.isAgg3,
  z3 := Go.Proofs.Tryd.sizeOf3, v3 := Go.Proofs.Tryd.zeroValue3, t4 := Go.Proofs.Tryd.underlying4, a4 := Go.Proofs.Tryd.isAgg4, z4 := Go.Proofs.Tryd.sizeOf4,
  v4 := Go.Proofs.Tryd.zeroValue4, t9 := Go.Proofs.Tryd.underlying9, a9 := Go.Proofs.Tryd.isAgg9, z9 := Go.Proofs.Tryd.sizeOf9, v9 := Go.Proofs.Tryd.zeroValue9,
  t20 := Go.Proofs.Tryd.underlying20, a20 := Go.Proofs.Tryd.isAgg20, z20 := Go.Proofs.Tryd.sizeOf20, v20 := Go.Proofs.Tryd.zeroValue20,
  t31 := Go.Proofs.Tryd.underlying31, a31 := Go.Proofs.Tryd.isAgg31, z31 := Go.Proofs.Tryd.sizeOf31, v31 := Go.Proofs.Tryd.zeroValue31,
  t37 := Go.Proofs.Tryd.underlying50, a37 := Go.Proofs.Tryd.isAgg50, z37 := Go.Proofs.Tryd.sizeOf50, v37 := Go.Proofs.Tryd.zeroValue50,
  t70 := Go.Proofs.Tryd.underlying49, a70 := Go.Proofs.Tryd.isAgg49, z70 := Go.Proofs.Tryd.sizeOf49, v70 := Go.Proofs.Tryd.zeroValue49,
  t72 := Go.Proofs.Tryd.underlying52, a72 := Go.Proofs.Tryd.isAgg52, z72 := Go.Proofs.Tryd.sizeOf52, v72 := Go.Proofs.Tryd.zeroValue52,
  t75 := Go.Proofs.Tryd.underlying55, a75 := Go.Proofs.Tryd.isAgg55, z75 := Go.Proofs.Tryd.sizeOf55, v75 := Go.Proofs.Tryd.zeroValue55,
  t76 := Go.Proofs.Tryd.underlying56, a76 := Go.Proofs.Tryd.isAgg56, z76 := Go.Proofs.Tryd.sizeOf56, v76 := Go.Proofs.Tryd.zeroValue56,
  t127 := Go.Proofs.Tryd.underlying79, a127 := Go.Proofs.Tryd.isAgg79, z127 := Go.Proofs.Tryd.sizeOf79, v127 := Go.Proofs.Tryd.zeroValue79,
  t164 := Go.Proofs.Tryd.underlying99, a164 := Go.Proofs.Tryd.isAgg99, z164 := Go.Proofs.Tryd.sizeOf99, v164 := Go.Proofs.Tryd.zeroValue99 }

theorem extra_lays156 : Builder.Extra Go.Proofs.Tryd.prog lays156_ren where
  sizeBuilder := by kernel_rfl
  liesBuilder := by kernel_rfl
  t5 := Go.Proofs.Tryd.underlying5
  a5 := Go.Proofs.Tryd.isAgg5
  z5 := Go.Proofs.Tryd.sizeOf5
  v5 := Go.Proofs.Tryd.zeroValue5
  infoByte := by kernel_rfl
  cellsByte := by kernel_rfl
  sizeByte := by kernel_rfl
  neB5 := by decide

end Go.Fn
