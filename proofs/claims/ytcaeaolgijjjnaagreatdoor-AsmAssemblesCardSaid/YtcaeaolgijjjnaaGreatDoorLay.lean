/- The library functions of this seat: their numbers, and that they are the library's. PRINTED by lay.py. -/
import Derived.Test.YtcaeaolgijjjnaaGreatDoorLc
import Derived.Shelf.LaysM
import Derived.Test.YtcaeaolgijjjnaaGreatDoorProg
import Derived.KernelRfl
set_option linter.unusedSimpArgs false
set_option linter.unusedVariables false

set_option linter.unusedVariables false
set_option maxRecDepth 100000
namespace Go.Fn
open Go.Lift Go.Shelf Go.Proofs

def lays157_ren : Ren :=
{
  f := fun x =>
    match x with
    | 157 => 19
    | 229 => 37
    | 199 => 38
    | 261 => 69
    | 311 => 94
    | 312 => 95
    | n => n,
  t := fun x =>
    match x with
    | 9 => 9
    | 31 => 66
    | 3 => 3
    | 5 => 5
    | 4 => 4
    | 119 => 96
    | 0 => 0
    | 40 => 98
    | 152 => 146
    | 21 => 21
    | 154 => 148
    | 51 => 31
    | 141 => 150
    | 196 => 172
    | 193 => 169
    | 198 => 175
    | 49 => 173
    | 194 => 170
    | 201 => 178
    | 226 => 205
    | 46 => 139
    | 227 => 206
    | n => n,
  g := fun x =>
    match x with
    | 0 => 1
    | 6 => 2
    | n => n }

def lays171_ren : Ren :=
{
  f := fun x =>
    match x with
    | 171 => 18
    | 243 => 36
    | 246 => 68
    | 283 => 90
    | 284 => 91
    | 285 => 92
    | 286 => 93
    | 129 => 121
    | 317 => 120
    | 318 => 122
    | 319 => 123
    | 320 => 124
    | 337 => 136
    | 338 => 137
    | n => n,
  t := fun x =>
    match x with
    | 3 => 3
    | 9 => 9
    | 2 => 2
    | 4 => 4
    | 171 => 164
    | 0 => 0
    | 53 => 22
    | 37 => 34
    | 5 => 5
    | 173 => 167
    | 212 => 202
    | 51 => 31
    | 20 => 20
    | 213 => 203
    | 46 => 139
    | 232 => 219
    | 233 => 220
    | n => n,
  g := fun x =>
    match x with
    | 17 => 3
    | 18 => 5
    | 19 => 6
    | n => n }

def lays156_ren : Ren :=
{
  f := fun x =>
    match x with
    | 156 => 21
    | 165 => 40
    | 166 => 41
    | 169 => 42
    | 240 => 71
    | 241 => 72
    | 276 => 96
    | 277 => 97
    | n => n,
  t := fun x =>
    match x with
    | 31 => 66
    | 9 => 9
    | 3 => 3
    | 4 => 4
    | 0 => 0
    | 20 => 20
    | 72 => 103
    | 76 => 105
    | 70 => 101
    | 37 => 34
    | 75 => 40
    | 127 => 152
    | 164 => 74
    | 5 => 5
    | 80 => 107
    | n => n,
  g := fun x =>
    x }

def lays146_ren : Ren :=
{
  f := fun x =>
    match x with
    | 146 => 45
    | 221 => 74
    | 268 => 102
    | 138 => 103
    | 143 => 104
    | 195 => 126
    | 197 => 127
    | 218 => 128
    | 219 => 105
    | 260 => 139
    | 217 => 125
    | 225 => 101
    | 224 => 100
    | 267 => 129
    | 266 => 138
    | 314 => 140
    | n => n,
  t := fun x =>
    match x with
    | 9 => 9
    | 31 => 66
    | 3 => 3
    | 4 => 4
    | 0 => 0
    | 105 => 207
    | 21 => 21
    | 5 => 5
    | 46 => 139
    | 119 => 96
    | 139 => 223
    | 138 => 222
    | 146 => 197
    | 51 => 31
    | n => n,
  g := fun x =>
    match x with
    | 1 => 4
    | 3 => 7
    | 4 => 8
    | n => n }

def lays145_ren : Ren :=
{
  f := fun x =>
    match x with
    | 145 => 46
    | 220 => 75
    | 219 => 105
    | 217 => 125
    | 225 => 101
    | 224 => 100
    | 267 => 129
    | 266 => 138
    | 314 => 140
    | n => n,
  t := fun x =>
    match x with
    | 9 => 9
    | 4 => 4
    | 59 => 110
    | 3 => 3
    | 5 => 5
    | 46 => 139
    | 146 => 197
    | 51 => 31
    | n => n,
  g := fun x =>
    match x with
    | 1 => 4
    | n => n }

def lays137_ren : Ren :=
{
  f := fun x =>
    match x with
    | 137 => 98
    | 217 => 125
    | 266 => 138
    | n => n,
  t := fun x =>
    match x with
    | 9 => 9
    | 5 => 5
    | 3 => 3
    | n => n,
  g := fun x =>
    x }

def lays160_ren : Ren :=
{
  f := fun x =>
    match x with
    | 160 => 79
    | 232 => 108
    | 231 => 107
    | 227 => 109
    | 234 => 111
    | 233 => 110
    | 236 => 113
    | 235 => 112
    | 228 => 131
    | 271 => 132
    | 151 => 44
    | 197 => 127
    | 120 => 142
    | 152 => 73
    | 260 => 139
    | 137 => 98
    | 119 => 99
    | 224 => 100
    | 225 => 101
    | 217 => 125
    | 266 => 138
    | n => n,
  t := fun x =>
    match x with
    | 9 => 9
    | 4 => 4
    | 3 => 3
    | 5 => 5
    | 117 => 190
    | 116 => 189
    | 0 => 0
    | 124 => 193
    | 21 => 21
    | 105 => 207
    | 46 => 139
    | 119 => 96
    | 139 => 223
    | 138 => 222
    | n => n,
  g := fun x =>
    match x with
    | 3 => 7
    | 4 => 8
    | n => n }

def lays172_ren : Ren :=
{
  f := fun x =>
    match x with
    | 172 => 115
    | 244 => 134
    | 245 => 135
    | 247 => 143
    | 279 => 144
    | 280 => 145
    | 281 => 146
    | 282 => 147
    | 287 => 148
    | 316 => 149
    | 171 => 18
    | 205 => 150
    | 321 => 151
    | 322 => 152
    | 243 => 36
    | 246 => 68
    | 283 => 90
    | 284 => 91
    | 285 => 92
    | 286 => 93
    | 129 => 121
    | 317 => 120
    | 318 => 122
    | 319 => 123
    | 320 => 124
    | 337 => 136
    | 338 => 137
    | n => n,
  t := fun x =>
    match x with
    | 9 => 9
    | 3 => 3
    | 75 => 40
    | 76 => 105
    | 4 => 4
    | 5 => 5
    | 167 => 213
    | 37 => 34
    | 0 => 0
    | 85 => 214
    | 2 => 2
    | 168 => 216
    | 53 => 22
    | 175 => 224
    | 46 => 139
    | 210 => 228
    | 127 => 152
    | 145 => 233
    | 143 => 231
    | 21 => 21
    | 171 => 164
    | 173 => 167
    | 212 => 202
    | 51 => 31
    | 20 => 20
    | 213 => 203
    | 232 => 219
    | 233 => 220
    | 80 => 107
    | n => n,
  g := fun x =>
    match x with
    | 15 => 9
    | 16 => 10
    | 17 => 3
    | 18 => 5
    | 19 => 6
    | n => n }

def lays229_ren : Ren :=
{
  f := fun x =>
    match x with
    | 229 => 37
    | n => n,
  t := fun x =>
    match x with
    | 9 => 9
    | 40 => 98
    | 31 => 66
    | 152 => 146
    | 3 => 3
    | 0 => 0
    | 4 => 4
    | 21 => 21
    | 154 => 148
    | n => n,
  g := fun x =>
    x }

theorem lays157 : Lays.n157 Go.Proofs.Tryz.prog lays157_ren :=
{ mixed := Eq.refl true, f157 := Eq.trans Go.Proofs.Tryz.func19 (by kernel_rfl),
  f199 := Eq.trans Go.Proofs.Tryz.func38 (by kernel_rfl),
  f229 := Eq.trans Go.Proofs.Tryz.func37 (by kernel_rfl),
  f261 := Eq.trans Go.Proofs.Tryz.func69 (by kernel_rfl),
  f311 := Eq.trans Go.Proofs.Tryz.func94 (by kernel_rfl),
  f312 := Eq.trans Go.Proofs.Tryz.func95 (by kernel_rfl), t0 := Go.Proofs.Tryz.underlying0,
  a0 := Go.Proofs.Tryz.isAgg0, z0 := Go.Proofs.Tryz.sizeOf0, v0 := Go.Proofs.Tryz.zeroValue0, t3 := Go.Proofs.Tryz.underlying3, a3 := Go.Proofs.Tryz.isAgg3,
  z3 := Go.Proofs.Tryz.sizeOf3, v3 := Go.Proofs.Tryz.zeroValue3, t4 := Go.Proofs.Tryz.underlying4, a4 := Go.Proofs.Tryz.isAgg4, z4 := Go.Proofs.Tryz.sizeOf4,
  v4 := Go.Proofs.Tryz.zeroValue4, t5 := Go.Proofs.Tryz.underlying5, a5 := Go.Proofs.Tryz.isAgg5, z5 := Go.Proofs.Tryz.sizeOf5, v5 := Go.Proofs.Tryz.zeroValue5,
  t9 := Go.Proofs.Tryz.underlying9, a9 := Go.Proofs.Tryz.isAgg9, z9 := Go.Proofs.Tryz.sizeOf9, v9 := Go.Proofs.Tryz.zeroValue9, t21 := Go.Proofs.Tryz.underlying21,
  a21 := Go.Proofs.Tryz.isAgg21, z21 := Go.Proofs.Tryz.sizeOf21, v21 := Go.Proofs.Tryz.zeroValue21, t31 := Go.Proofs.Tryz.underlying66, a31 := Go.Proofs.Tryz.isAgg66,
  z31 := Go.Proofs.Tryz.sizeOf66, v31 := Go.Proofs.Tryz.zeroValue66, t40 := Go.Proofs.Tryz.underlying98, a40 := Go.Proofs.Tryz.isAgg98, z40 := Go.Proofs.Tryz.sizeOf98,
  v40 := Go.Proofs.Tryz.zeroValue98, t46 := Go.Proofs.Tryz.underlying139, a46 := Go.Proofs.Tryz.isAgg139, z46 := Go.Proofs.Tryz.sizeOf139,
  v46 := Go.Proofs.Tryz.zeroValue139, t49 := Go.Proofs.Tryz.underlying173, a49 := Go.Proofs.Tryz.isAgg173, z49 := Go.Proofs.Tryz.sizeOf173,
  v49 := Go.Proofs.Tryz.zeroValue173, t51 := Go.Proofs.Tryz.underlying31, a51 := Go.Proofs.Tryz.isAgg31, z51 := Go.Proofs.Tryz.sizeOf31,
  v51 := Go.Proofs.Tryz.zeroValue31, t119 := Go.Proofs.Tryz.underlying96, a119 := Go.Proofs.Tryz.isAgg96, z119 := Go.Proofs.Tryz.sizeOf96,
  t141 := Go.Proofs.Tryz.underlying150, a141 := Go.Proofs.Tryz.isAgg150, z141 := Go.Proofs.Tryz.sizeOf150, v141 := Go.Proofs.Tryz.zeroValue150,
  t152 := Go.Proofs.Tryz.underlying146, a152 := Go.Proofs.Tryz.isAgg146, z152 := Go.Proofs.Tryz.sizeOf146, v152 := Go.Proofs.Tryz.zeroValue146,
  t154 := Go.Proofs.Tryz.underlying148, a154 := Go.Proofs.Tryz.isAgg148, z154 := Go.Proofs.Tryz.sizeOf148, v154 := Go.Proofs.Tryz.zeroValue148,
  t193 := Go.Proofs.Tryz.underlying169, a193 := Go.Proofs.Tryz.isAgg169, z193 := Go.Proofs.Tryz.sizeOf169, v193 := Go.Proofs.Tryz.zeroValue169,
  t194 := Go.Proofs.Tryz.underlying170, a194 := Go.Proofs.Tryz.isAgg170, z194 := Go.Proofs.Tryz.sizeOf170, v194 := Go.Proofs.Tryz.zeroValue170,
  t196 := Go.Proofs.Tryz.underlying172, a196 := Go.Proofs.Tryz.isAgg172, z196 := Go.Proofs.Tryz.sizeOf172, v196 := Go.Proofs.Tryz.zeroValue172,
  t198 := Go.Proofs.Tryz.underlying175, a198 := Go.Proofs.Tryz.isAgg175, z198 := Go.Proofs.Tryz.sizeOf175, v198 := Go.Proofs.Tryz.zeroValue175,
  t201 := Go.Proofs.Tryz.underlying178, a201 := Go.Proofs.Tryz.isAgg178, z201 := Go.Proofs.Tryz.sizeOf178, v201 := Go.Proofs.Tryz.zeroValue178,
  t226 := Go.Proofs.Tryz.underlying205, a226 := Go.Proofs.Tryz.isAgg205, z226 := Go.Proofs.Tryz.sizeOf205, v226 := Go.Proofs.Tryz.zeroValue205,
  t227 := Go.Proofs.Tryz.underlying206, a227 := Go.Proofs.Tryz.isAgg206, z227 := Go.Proofs.Tryz.sizeOf206, v227 := Go.Proofs.Tryz.zeroValue206,
  g0 := (by kernel_rfl), g6 := (by kernel_rfl) }

theorem lays171 : LaysM.n171 Go.Proofs.Tryz.prog lays171_ren :=
{ mixed := Eq.refl true, f129 := Eq.trans Go.Proofs.Tryz.func121 (by kernel_rfl),
  f171 := Eq.trans Go.Proofs.Tryz.func18 (by kernel_rfl),
  f243 := Eq.trans Go.Proofs.Tryz.func36 (by kernel_rfl),
  f246 := Eq.trans Go.Proofs.Tryz.func68 (by kernel_rfl),
  f283 := Eq.trans Go.Proofs.Tryz.func90 (by kernel_rfl),
  f284 := Eq.trans Go.Proofs.Tryz.func91 (by kernel_rfl),
  f285 := Eq.trans Go.Proofs.Tryz.func92 (by kernel_rfl),
  f286 := Eq.trans Go.Proofs.Tryz.func93 (by kernel_rfl),
  f317 := Eq.trans Go.Proofs.Tryz.func120 (by kernel_rfl),
  f318 := Eq.trans Go.Proofs.Tryz.func122 (by kernel_rfl),
  f319 := Eq.trans Go.Proofs.Tryz.func123 (by kernel_rfl),
  f320 := Eq.trans Go.Proofs.Tryz.func124 (by kernel_rfl),
  f337 := Eq.trans Go.Proofs.Tryz.func136 (by kernel_rfl),
  f338 := Eq.trans Go.Proofs.Tryz.func137 (by kernel_rfl), t0 := Go.Proofs.Tryz.underlying0,
  a0 := Go.Proofs.Tryz.isAgg0, z0 := Go.Proofs.Tryz.sizeOf0, v0 := Go.Proofs.Tryz.zeroValue0, t2 := Go.Proofs.Tryz.underlying2, a2 := Go.Proofs.Tryz.isAgg2,
  z2 := Go.Proofs.Tryz.sizeOf2, v2 := Go.Proofs.Tryz.zeroValue2, t3 := Go.Proofs.Tryz.underlying3, a3 := Go.Proofs.Tryz.isAgg3, z3 := Go.Proofs.Tryz.sizeOf3,
  v3 := Go.Proofs.Tryz.zeroValue3, t4 := Go.Proofs.Tryz.underlying4, a4 := Go.Proofs.Tryz.isAgg4, z4 := Go.Proofs.Tryz.sizeOf4, v4 := Go.Proofs.Tryz.zeroValue4,
  t5 := Go.Proofs.Tryz.underlying5, a5 := Go.Proofs.Tryz.isAgg5, z5 := Go.Proofs.Tryz.sizeOf5, v5 := Go.Proofs.Tryz.zeroValue5, t9 := Go.Proofs.Tryz.underlying9,
  a9 := Go.Proofs.Tryz.isAgg9, z9 := Go.Proofs.Tryz.sizeOf9, v9 := Go.Proofs.Tryz.zeroValue9, t20 := Go.Proofs.Tryz.underlying20, a20 := Go.Proofs.Tryz.isAgg20,
  z20 := Go.Proofs.Tryz.sizeOf20, v20 := Go.Proofs.Tryz.zeroValue20, t37 := Go.Proofs.Tryz.underlying34, a37 := Go.Proofs.Tryz.isAgg34, z37 := Go.Proofs.Tryz.sizeOf34,
  v37 := Go.Proofs.Tryz.zeroValue34, t46 := Go.Proofs.Tryz.underlying139, a46 := Go.Proofs.Tryz.isAgg139, z46 := Go.Proofs.Tryz.sizeOf139,
  v46 := Go.Proofs.Tryz.zeroValue139, t51 := Go.Proofs.Tryz.underlying31, a51 := Go.Proofs.Tryz.isAgg31, z51 := Go.Proofs.Tryz.sizeOf31,
  v51 := Go.Proofs.Tryz.zeroValue31, t53 := Go.Proofs.Tryz.underlying22, a53 := Go.Proofs.Tryz.isAgg22, z53 := Go.Proofs.Tryz.sizeOf22, v53 := Go.Proofs.Tryz.zeroValue22,
  t171 := Go.Proofs.Tryz.underlying164, a171 := Go.Proofs.Tryz.isAgg164, z171 := Go.Proofs.Tryz.sizeOf164, v171 := Go.Proofs.Tryz.zeroValue164,
  t173 := Go.Proofs.Tryz.underlying167, a173 := Go.Proofs.Tryz.isAgg167, z173 := Go.Proofs.Tryz.sizeOf167, v173 := Go.Proofs.Tryz.zeroValue167,
  t212 := Go.Proofs.Tryz.underlying202, a212 := Go.Proofs.Tryz.isAgg202, z212 := Go.Proofs.Tryz.sizeOf202, v212 := Go.Proofs.Tryz.zeroValue202,
  t213 := Go.Proofs.Tryz.underlying203, a213 := Go.Proofs.Tryz.isAgg203, z213 := Go.Proofs.Tryz.sizeOf203, t232 := Go.Proofs.Tryz.underlying219,
  a232 := Go.Proofs.Tryz.isAgg219, z232 := Go.Proofs.Tryz.sizeOf219, v232 := Go.Proofs.Tryz.zeroValue219, t233 := Go.Proofs.Tryz.underlying220,
  a233 := Go.Proofs.Tryz.isAgg220, z233 := Go.Proofs.Tryz.sizeOf220, v233 := Go.Proofs.Tryz.zeroValue220,
  g17 := (by kernel_rfl), g18 := (by kernel_rfl),
  g19 := (by kernel_rfl), i0 := Eq.refl (some (some (Value.tuple #[]), 1, 0)),
  i2 := Eq.refl (some (some (Value.int IntKind.i64 0), 1, 8)),
  i3 := Eq.refl (some (some (Value.int IntKind.i64 0), 1, 8)), i4 := Eq.refl (some (some (Value.bool false), 1, 1)),
  i5 := Eq.refl (some (some (Value.int IntKind.u8 0), 1, 1)),
  i9 := Eq.refl (some (some (Value.string { data := #[] }), 1, 16)), i20 := Eq.refl (some (some Value.nilIface, 1, 16)),
  i37 := Eq.refl (some (some (Value.slice none 0 0), 1, 24)),
  i46 := Eq.refl (some (some (Value.int IntKind.u64 0), 1, 8)),
  i51 := Eq.refl (some (some (Value.int IntKind.u32 0), 1, 4)),
  i53 := Eq.refl (some (some (Value.int IntKind.u64 0), 1, 8)),
  i171 :=
    Eq.refl
      (some
        (some
            (Value.agg
              #[Value.int IntKind.u8 0, Value.int IntKind.u8 0, Value.int IntKind.u8 0, Value.int IntKind.u8 0,
                Value.int IntKind.u8 0, Value.int IntKind.u8 0, Value.int IntKind.u8 0, Value.int IntKind.u8 0,
                Value.int IntKind.u8 0, Value.int IntKind.u8 0, Value.int IntKind.u8 0, Value.int IntKind.u8 0,
                Value.int IntKind.u8 0, Value.int IntKind.u8 0, Value.int IntKind.u8 0, Value.int IntKind.u8 0,
                Value.int IntKind.u8 0, Value.int IntKind.u8 0, Value.int IntKind.u8 0, Value.int IntKind.u8 0,
                Value.int IntKind.u8 0, Value.int IntKind.u8 0, Value.int IntKind.u8 0, Value.int IntKind.u8 0]),
          24, 24)),
  i173 := Eq.refl (some (some (Value.tuple #[Value.slice none 0 0, Value.string { data := #[] }]), 1, 0)),
  i212 :=
    Eq.refl
      (some
        (some
            (Value.agg
              #[Value.int IntKind.u64 0, Value.int IntKind.u64 0, Value.int IntKind.u64 0, Value.int IntKind.u64 0,
                Value.int IntKind.u64 0, Value.int IntKind.u64 0, Value.int IntKind.u64 0, Value.int IntKind.u64 0,
                Value.int IntKind.u64 0, Value.int IntKind.u64 0, Value.int IntKind.u64 0, Value.int IntKind.u64 0,
                Value.int IntKind.u64 0, Value.int IntKind.u64 0, Value.int IntKind.u64 0, Value.int IntKind.u64 0,
                Value.int IntKind.u64 0, Value.int IntKind.u64 0, Value.int IntKind.u64 0, Value.int IntKind.u64 0]),
          20, 160)),
  i232 :=
    Eq.refl
      (some
        (some
            (Value.agg
              #[Value.int IntKind.u8 0, Value.int IntKind.u8 0, Value.int IntKind.u8 0, Value.int IntKind.u8 0,
                Value.int IntKind.u8 0, Value.int IntKind.u8 0, Value.int IntKind.u8 0, Value.int IntKind.u8 0,
                Value.int IntKind.u8 0, Value.int IntKind.u8 0, Value.int IntKind.u8 0, Value.int IntKind.u8 0,
                Value.int IntKind.u8 0, Value.int IntKind.u8 0, Value.int IntKind.u8 0, Value.int IntKind.u8 0,
                Value.int IntKind.u8 0, Value.int IntKind.u8 0, Value.int IntKind.u8 0, Value.int IntKind.u8 0,
                Value.int IntKind.u8 0, Value.int IntKind.u8 0, Value.int IntKind.u8 0, Value.int IntKind.u8 0,
                Value.int IntKind.u8 0, Value.int IntKind.u8 0, Value.int IntKind.u8 0, Value.int IntKind.u8 0,
                Value.int IntKind.u8 0, Value.int IntKind.u8 0, Value.int IntKind.u8 0, Value.int IntKind.u8 0]),
          32, 32)),
  i233 :=
    Eq.refl
      (some
        (some
            (Value.agg
              (let y :=
                  let y :=
                    let y :=
                      let y :=
                        [Value.int IntKind.u8 0, Value.int IntKind.u8 0, Value.int IntKind.u8 0,
                          Value.int IntKind.u8 0];
                      Value.int IntKind.u8 0 ::
                        Value.int IntKind.u8 0 :: Value.int IntKind.u8 0 :: Value.int IntKind.u8 0 :: y;
                    let y :=
                      Value.int IntKind.u8 0 ::
                        Value.int IntKind.u8 0 :: Value.int IntKind.u8 0 :: Value.int IntKind.u8 0 :: y;
                    Value.int IntKind.u8 0 ::
                      Value.int IntKind.u8 0 :: Value.int IntKind.u8 0 :: Value.int IntKind.u8 0 :: y;
                  let y :=
                    let y :=
                      Value.int IntKind.u8 0 ::
                        Value.int IntKind.u8 0 :: Value.int IntKind.u8 0 :: Value.int IntKind.u8 0 :: y;
                    Value.int IntKind.u8 0 ::
                      Value.int IntKind.u8 0 :: Value.int IntKind.u8 0 :: Value.int IntKind.u8 0 :: y;
                  let y :=
                    Value.int IntKind.u8 0 ::
                      Value.int IntKind.u8 0 :: Value.int IntKind.u8 0 :: Value.int IntKind.u8 0 :: y;
                  Value.int IntKind.u8 0 ::
                    Value.int IntKind.u8 0 :: Value.int IntKind.u8 0 :: Value.int IntKind.u8 0 :: y;
                let y :=
                  let y :=
                    let y :=
                      Value.int IntKind.u8 0 ::
                        Value.int IntKind.u8 0 :: Value.int IntKind.u8 0 :: Value.int IntKind.u8 0 :: y;
                    Value.int IntKind.u8 0 ::
                      Value.int IntKind.u8 0 :: Value.int IntKind.u8 0 :: Value.int IntKind.u8 0 :: y;
                  let y :=
                    Value.int IntKind.u8 0 ::
                      Value.int IntKind.u8 0 :: Value.int IntKind.u8 0 :: Value.int IntKind.u8 0 :: y;
                  Value.int IntKind.u8 0 ::
                    Value.int IntKind.u8 0 :: Value.int IntKind.u8 0 :: Value.int IntKind.u8 0 :: y;
                let y :=
                  let y :=
                    Value.int IntKind.u8 0 ::
                      Value.int IntKind.u8 0 :: Value.int IntKind.u8 0 :: Value.int IntKind.u8 0 :: y;
                  Value.int IntKind.u8 0 ::
                    Value.int IntKind.u8 0 :: Value.int IntKind.u8 0 :: Value.int IntKind.u8 0 :: y;
                let y :=
                  Value.int IntKind.u8 0 ::
                    Value.int IntKind.u8 0 :: Value.int IntKind.u8 0 :: Value.int IntKind.u8 0 :: y;
                Value.int IntKind.u8 0 ::
                  Value.int IntKind.u8 0 :: Value.int IntKind.u8 0 :: Value.int IntKind.u8 0 :: y).toArray),
          64, 64)),
  m17 := (by kernel_rfl), m18 := (by kernel_rfl),
  m19 := (by kernel_rfl) }

theorem lays156 : Lays.n156 Go.Proofs.Tryz.prog lays156_ren :=
{ mixed := Eq.refl true, f156 := Eq.trans Go.Proofs.Tryz.func21 (by kernel_rfl),
  f165 := Eq.trans Go.Proofs.Tryz.func40 (by kernel_rfl),
  f166 := Eq.trans Go.Proofs.Tryz.func41 (by kernel_rfl),
  f169 := Eq.trans Go.Proofs.Tryz.func42 (by kernel_rfl),
  f240 := Eq.trans Go.Proofs.Tryz.func71 (by kernel_rfl),
  f241 := Eq.trans Go.Proofs.Tryz.func72 (by kernel_rfl),
  f276 := Eq.trans Go.Proofs.Tryz.func96 (by kernel_rfl),
  f277 := Eq.trans Go.Proofs.Tryz.func97 (by kernel_rfl), t0 := Go.Proofs.Tryz.underlying0,
  a0 := Go.Proofs.Tryz.isAgg0, z0 := Go.Proofs.Tryz.sizeOf0, v0 := Go.Proofs.Tryz.zeroValue0, t3 := Go.Proofs.Tryz.underlying3, a3 := Go.Proofs.Tryz.isAgg3,
  z3 := Go.Proofs.Tryz.sizeOf3, v3 := Go.Proofs.Tryz.zeroValue3, t4 := Go.Proofs.Tryz.underlying4, a4 := Go.Proofs.Tryz.isAgg4, z4 := Go.Proofs.Tryz.sizeOf4,
  v4 := Go.Proofs.Tryz.zeroValue4, t9 := Go.Proofs.Tryz.underlying9, a9 := Go.Proofs.Tryz.isAgg9, z9 := Go.Proofs.Tryz.sizeOf9, v9 := Go.Proofs.Tryz.zeroValue9,
  t20 := Go.Proofs.Tryz.underlying20, a20 := Go.Proofs.Tryz.isAgg20, z20 := Go.Proofs.Tryz.sizeOf20, v20 := Go.Proofs.Tryz.zeroValue20,
  t31 := Go.Proofs.Tryz.underlying66, a31 := Go.Proofs.Tryz.isAgg66, z31 := Go.Proofs.Tryz.sizeOf66, v31 := Go.Proofs.Tryz.zeroValue66,
  t37 := Go.Proofs.Tryz.underlying34, a37 := Go.Proofs.Tryz.isAgg34, z37 := Go.Proofs.Tryz.sizeOf34, v37 := Go.Proofs.Tryz.zeroValue34,
  t70 := Go.Proofs.Tryz.underlying101, a70 := Go.Proofs.Tryz.isAgg101, z70 := Go.Proofs.Tryz.sizeOf101, v70 := Go.Proofs.Tryz.zeroValue101,
  t72 := Go.Proofs.Tryz.underlying103, a72 := Go.Proofs.Tryz.isAgg103, z72 := Go.Proofs.Tryz.sizeOf103, v72 := Go.Proofs.Tryz.zeroValue103,
  t75 := Go.Proofs.Tryz.underlying40, a75 := Go.Proofs.Tryz.isAgg40, z75 := Go.Proofs.Tryz.sizeOf40, v75 := Go.Proofs.Tryz.zeroValue40,
  t76 := Go.Proofs.Tryz.underlying105, a76 := Go.Proofs.Tryz.isAgg105, z76 := Go.Proofs.Tryz.sizeOf105, v76 := Go.Proofs.Tryz.zeroValue105,
  t127 := Go.Proofs.Tryz.underlying152, a127 := Go.Proofs.Tryz.isAgg152, z127 := Go.Proofs.Tryz.sizeOf152, v127 := Go.Proofs.Tryz.zeroValue152,
  t164 := Go.Proofs.Tryz.underlying74, a164 := Go.Proofs.Tryz.isAgg74, z164 := Go.Proofs.Tryz.sizeOf74, v164 := Go.Proofs.Tryz.zeroValue74 }

theorem lays146 : Lays.n146 Go.Proofs.Tryz.prog lays146_ren :=
{ mixed := Eq.refl true, f138 := Eq.trans Go.Proofs.Tryz.func103 (by kernel_rfl),
  f143 := Eq.trans Go.Proofs.Tryz.func104 (by kernel_rfl),
  f146 := Eq.trans Go.Proofs.Tryz.func45 (by kernel_rfl),
  f195 := Eq.trans Go.Proofs.Tryz.func126 (by kernel_rfl),
  f197 := Eq.trans Go.Proofs.Tryz.func127 (by kernel_rfl),
  f217 := Eq.trans Go.Proofs.Tryz.func125 (by kernel_rfl),
  f218 := Eq.trans Go.Proofs.Tryz.func128 (by kernel_rfl),
  f219 := Eq.trans Go.Proofs.Tryz.func105 (by kernel_rfl),
  f221 := Eq.trans Go.Proofs.Tryz.func74 (by kernel_rfl),
  f224 := Eq.trans Go.Proofs.Tryz.func100 (by kernel_rfl),
  f225 := Eq.trans Go.Proofs.Tryz.func101 (by kernel_rfl),
  f260 := Eq.trans Go.Proofs.Tryz.func139 (by kernel_rfl),
  f266 := Eq.trans Go.Proofs.Tryz.func138 (by kernel_rfl),
  f267 := Eq.trans Go.Proofs.Tryz.func129 (by kernel_rfl),
  f268 := Eq.trans Go.Proofs.Tryz.func102 (by kernel_rfl),
  f314 := Eq.trans Go.Proofs.Tryz.func140 (by kernel_rfl), t0 := Go.Proofs.Tryz.underlying0,
  a0 := Go.Proofs.Tryz.isAgg0, z0 := Go.Proofs.Tryz.sizeOf0, v0 := Go.Proofs.Tryz.zeroValue0, t3 := Go.Proofs.Tryz.underlying3, a3 := Go.Proofs.Tryz.isAgg3,
  z3 := Go.Proofs.Tryz.sizeOf3, v3 := Go.Proofs.Tryz.zeroValue3, t4 := Go.Proofs.Tryz.underlying4, a4 := Go.Proofs.Tryz.isAgg4, z4 := Go.Proofs.Tryz.sizeOf4,
  v4 := Go.Proofs.Tryz.zeroValue4, t5 := Go.Proofs.Tryz.underlying5, a5 := Go.Proofs.Tryz.isAgg5, z5 := Go.Proofs.Tryz.sizeOf5, v5 := Go.Proofs.Tryz.zeroValue5,
  t9 := Go.Proofs.Tryz.underlying9, a9 := Go.Proofs.Tryz.isAgg9, z9 := Go.Proofs.Tryz.sizeOf9, v9 := Go.Proofs.Tryz.zeroValue9, t21 := Go.Proofs.Tryz.underlying21,
  a21 := Go.Proofs.Tryz.isAgg21, z21 := Go.Proofs.Tryz.sizeOf21, v21 := Go.Proofs.Tryz.zeroValue21, t31 := Go.Proofs.Tryz.underlying66, a31 := Go.Proofs.Tryz.isAgg66,
  z31 := Go.Proofs.Tryz.sizeOf66, v31 := Go.Proofs.Tryz.zeroValue66, t46 := Go.Proofs.Tryz.underlying139, a46 := Go.Proofs.Tryz.isAgg139, z46 := Go.Proofs.Tryz.sizeOf139,
  v46 := Go.Proofs.Tryz.zeroValue139, t51 := Go.Proofs.Tryz.underlying31, a51 := Go.Proofs.Tryz.isAgg31, z51 := Go.Proofs.Tryz.sizeOf31,
  v51 := Go.Proofs.Tryz.zeroValue31, t105 := Go.Proofs.Tryz.underlying207, a105 := Go.Proofs.Tryz.isAgg207, z105 := Go.Proofs.Tryz.sizeOf207,
  v105 := Go.Proofs.Tryz.zeroValue207, t119 := Go.Proofs.Tryz.underlying96, a119 := Go.Proofs.Tryz.isAgg96, z119 := Go.Proofs.Tryz.sizeOf96,
  t138 := Go.Proofs.Tryz.underlying222, a138 := Go.Proofs.Tryz.isAgg222, z138 := Go.Proofs.Tryz.sizeOf222, v138 := Go.Proofs.Tryz.zeroValue222,
  t139 := Go.Proofs.Tryz.underlying223, a139 := Go.Proofs.Tryz.isAgg223, z139 := Go.Proofs.Tryz.sizeOf223, v139 := Go.Proofs.Tryz.zeroValue223,
  t146 := Go.Proofs.Tryz.underlying197, a146 := Go.Proofs.Tryz.isAgg197, z146 := Go.Proofs.Tryz.sizeOf197, v146 := Go.Proofs.Tryz.zeroValue197,
  g1 := (by kernel_rfl), g3 := (by kernel_rfl),
  g4 := (by kernel_rfl) }

theorem lays145 : Lays.n145 Go.Proofs.Tryz.prog lays145_ren :=
{ mixed := Eq.refl true, f145 := Eq.trans Go.Proofs.Tryz.func46 (by kernel_rfl),
  f217 := Eq.trans Go.Proofs.Tryz.func125 (by kernel_rfl),
  f219 := Eq.trans Go.Proofs.Tryz.func105 (by kernel_rfl),
  f220 := Eq.trans Go.Proofs.Tryz.func75 (by kernel_rfl),
  f224 := Eq.trans Go.Proofs.Tryz.func100 (by kernel_rfl),
  f225 := Eq.trans Go.Proofs.Tryz.func101 (by kernel_rfl),
  f266 := Eq.trans Go.Proofs.Tryz.func138 (by kernel_rfl),
  f267 := Eq.trans Go.Proofs.Tryz.func129 (by kernel_rfl),
  f314 := Eq.trans Go.Proofs.Tryz.func140 (by kernel_rfl), t3 := Go.Proofs.Tryz.underlying3,
  a3 := Go.Proofs.Tryz.isAgg3, z3 := Go.Proofs.Tryz.sizeOf3, v3 := Go.Proofs.Tryz.zeroValue3, t4 := Go.Proofs.Tryz.underlying4, a4 := Go.Proofs.Tryz.isAgg4,
  z4 := Go.Proofs.Tryz.sizeOf4, v4 := Go.Proofs.Tryz.zeroValue4, t5 := Go.Proofs.Tryz.underlying5, a5 := Go.Proofs.Tryz.isAgg5, z5 := Go.Proofs.Tryz.sizeOf5,
  v5 := Go.Proofs.Tryz.zeroValue5, t9 := Go.Proofs.Tryz.underlying9, a9 := Go.Proofs.Tryz.isAgg9, z9 := Go.Proofs.Tryz.sizeOf9, v9 := Go.Proofs.Tryz.zeroValue9,
  t46 := Go.Proofs.Tryz.underlying139, a46 := Go.Proofs.Tryz.isAgg139, z46 := Go.Proofs.Tryz.sizeOf139, v46 := Go.Proofs.Tryz.zeroValue139,
  t51 := Go.Proofs.Tryz.underlying31, a51 := Go.Proofs.Tryz.isAgg31, z51 := Go.Proofs.Tryz.sizeOf31, v51 := Go.Proofs.Tryz.zeroValue31,
  t59 := Go.Proofs.Tryz.underlying110, a59 := Go.Proofs.Tryz.isAgg110, z59 := Go.Proofs.Tryz.sizeOf110, v59 := Go.Proofs.Tryz.zeroValue110,
  t146 := Go.Proofs.Tryz.underlying197, a146 := Go.Proofs.Tryz.isAgg197, z146 := Go.Proofs.Tryz.sizeOf197, v146 := Go.Proofs.Tryz.zeroValue197,
  g1 := (by kernel_rfl) }

theorem lays137 : Lays.n137 Go.Proofs.Tryz.prog lays137_ren :=
{ mixed := Eq.refl true, f137 := Eq.trans Go.Proofs.Tryz.func98 (by kernel_rfl),
  f217 := Eq.trans Go.Proofs.Tryz.func125 (by kernel_rfl),
  f266 := Eq.trans Go.Proofs.Tryz.func138 (by kernel_rfl), t3 := Go.Proofs.Tryz.underlying3,
  a3 := Go.Proofs.Tryz.isAgg3, z3 := Go.Proofs.Tryz.sizeOf3, v3 := Go.Proofs.Tryz.zeroValue3, t5 := Go.Proofs.Tryz.underlying5, a5 := Go.Proofs.Tryz.isAgg5,
  z5 := Go.Proofs.Tryz.sizeOf5, v5 := Go.Proofs.Tryz.zeroValue5, t9 := Go.Proofs.Tryz.underlying9, a9 := Go.Proofs.Tryz.isAgg9, z9 := Go.Proofs.Tryz.sizeOf9,
  v9 := Go.Proofs.Tryz.zeroValue9 }

theorem lays160 : Lays.n160 Go.Proofs.Tryz.prog lays160_ren :=
{ mixed := Eq.refl true, f119 := Eq.trans Go.Proofs.Tryz.func99 (by kernel_rfl),
  f120 := Eq.trans Go.Proofs.Tryz.func142 (by kernel_rfl),
  f137 := Eq.trans Go.Proofs.Tryz.func98 (by kernel_rfl),
  f151 := Eq.trans Go.Proofs.Tryz.func44 (by kernel_rfl),
  f152 := Eq.trans Go.Proofs.Tryz.func73 (by kernel_rfl),
  f160 := Eq.trans Go.Proofs.Tryz.func79 (by kernel_rfl),
  f197 := Eq.trans Go.Proofs.Tryz.func127 (by kernel_rfl),
  f217 := Eq.trans Go.Proofs.Tryz.func125 (by kernel_rfl),
  f224 := Eq.trans Go.Proofs.Tryz.func100 (by kernel_rfl),
  f225 := Eq.trans Go.Proofs.Tryz.func101 (by kernel_rfl),
  f227 := Eq.trans Go.Proofs.Tryz.func109 (by kernel_rfl),
  f228 := Eq.trans Go.Proofs.Tryz.func131 (by kernel_rfl),
  f231 := Eq.trans Go.Proofs.Tryz.func107 (by kernel_rfl),
  f232 := Eq.trans Go.Proofs.Tryz.func108 (by kernel_rfl),
  f233 := Eq.trans Go.Proofs.Tryz.func110 (by kernel_rfl),
  f234 := Eq.trans Go.Proofs.Tryz.func111 (by kernel_rfl),
  f235 := Eq.trans Go.Proofs.Tryz.func112 (by kernel_rfl),
  f236 := Eq.trans Go.Proofs.Tryz.func113 (by kernel_rfl),
  f260 := Eq.trans Go.Proofs.Tryz.func139 (by kernel_rfl),
  f266 := Eq.trans Go.Proofs.Tryz.func138 (by kernel_rfl),
  f271 := Eq.trans Go.Proofs.Tryz.func132 (by kernel_rfl), t0 := Go.Proofs.Tryz.underlying0,
  a0 := Go.Proofs.Tryz.isAgg0, z0 := Go.Proofs.Tryz.sizeOf0, v0 := Go.Proofs.Tryz.zeroValue0, t3 := Go.Proofs.Tryz.underlying3, a3 := Go.Proofs.Tryz.isAgg3,
  z3 := Go.Proofs.Tryz.sizeOf3, v3 := Go.Proofs.Tryz.zeroValue3, t4 := Go.Proofs.Tryz.underlying4, a4 := Go.Proofs.Tryz.isAgg4, z4 := Go.Proofs.Tryz.sizeOf4,
  v4 := Go.Proofs.Tryz.zeroValue4, t5 := Go.Proofs.Tryz.underlying5, a5 := Go.Proofs.Tryz.isAgg5, z5 := Go.Proofs.Tryz.sizeOf5, v5 := Go.Proofs.Tryz.zeroValue5,
  t9 := Go.Proofs.Tryz.underlying9, a9 := Go.Proofs.Tryz.isAgg9, z9 := Go.Proofs.Tryz.sizeOf9, v9 := Go.Proofs.Tryz.zeroValue9, t21 := Go.Proofs.Tryz.underlying21,
  a21 := Go.Proofs.Tryz.isAgg21, z21 := Go.Proofs.Tryz.sizeOf21, v21 := Go.Proofs.Tryz.zeroValue21, t46 := Go.Proofs.Tryz.underlying139, a46 := Go.Proofs.Tryz.isAgg139,
  z46 := Go.Proofs.Tryz.sizeOf139, v46 := Go.Proofs.Tryz.zeroValue139, t105 := Go.Proofs.Tryz.underlying207, a105 := Go.Proofs.Tryz.isAgg207,
  z105 := Go.Proofs.Tryz.sizeOf207, v105 := Go.Proofs.Tryz.zeroValue207, t116 := Go.Proofs.Tryz.underlying189, a116 := Go.Proofs.Tryz.isAgg189,
  z116 := Go.Proofs.Tryz.sizeOf189, t117 := Go.Proofs.Tryz.underlying190, a117 := Go.Proofs.Tryz.isAgg190, z117 := Go.Proofs.Tryz.sizeOf190,
  v117 := Go.Proofs.Tryz.zeroValue190, t119 := Go.Proofs.Tryz.underlying96, a119 := Go.Proofs.Tryz.isAgg96, z119 := Go.Proofs.Tryz.sizeOf96,
  t124 := Go.Proofs.Tryz.underlying193, a124 := Go.Proofs.Tryz.isAgg193, z124 := Go.Proofs.Tryz.sizeOf193, v124 := Go.Proofs.Tryz.zeroValue193,
  t138 := Go.Proofs.Tryz.underlying222, a138 := Go.Proofs.Tryz.isAgg222, z138 := Go.Proofs.Tryz.sizeOf222, v138 := Go.Proofs.Tryz.zeroValue222,
  t139 := Go.Proofs.Tryz.underlying223, a139 := Go.Proofs.Tryz.isAgg223, z139 := Go.Proofs.Tryz.sizeOf223, v139 := Go.Proofs.Tryz.zeroValue223,
  g3 := (by kernel_rfl), g4 := (by kernel_rfl) }

theorem lays172 : Lays.n172 Go.Proofs.Tryz.prog lays172_ren :=
{ mixed := Eq.refl true, f129 := Eq.trans Go.Proofs.Tryz.func121 (by kernel_rfl),
  f171 := Eq.trans Go.Proofs.Tryz.func18 (by kernel_rfl),
  f172 := Eq.trans Go.Proofs.Tryz.func115 (by kernel_rfl),
  f205 := Eq.trans Go.Proofs.Tryz.func150 (by kernel_rfl),
  f243 := Eq.trans Go.Proofs.Tryz.func36 (by kernel_rfl),
  f244 := Eq.trans Go.Proofs.Tryz.func134 (by kernel_rfl),
  f245 := Eq.trans Go.Proofs.Tryz.func135 (by kernel_rfl),
  f246 := Eq.trans Go.Proofs.Tryz.func68 (by kernel_rfl),
  f247 := Eq.trans Go.Proofs.Tryz.func143 (by kernel_rfl),
  f279 := Eq.trans Go.Proofs.Tryz.func144 (by kernel_rfl),
  f280 := Eq.trans Go.Proofs.Tryz.func145 (by kernel_rfl),
  f281 := Eq.trans Go.Proofs.Tryz.func146 (by kernel_rfl),
  f282 := Eq.trans Go.Proofs.Tryz.func147 (by kernel_rfl),
  f283 := Eq.trans Go.Proofs.Tryz.func90 (by kernel_rfl),
  f284 := Eq.trans Go.Proofs.Tryz.func91 (by kernel_rfl),
  f285 := Eq.trans Go.Proofs.Tryz.func92 (by kernel_rfl),
  f286 := Eq.trans Go.Proofs.Tryz.func93 (by kernel_rfl),
  f287 := Eq.trans Go.Proofs.Tryz.func148 (by kernel_rfl),
  f316 := Eq.trans Go.Proofs.Tryz.func149 (by kernel_rfl),
  f317 := Eq.trans Go.Proofs.Tryz.func120 (by kernel_rfl),
  f318 := Eq.trans Go.Proofs.Tryz.func122 (by kernel_rfl),
  f319 := Eq.trans Go.Proofs.Tryz.func123 (by kernel_rfl),
  f320 := Eq.trans Go.Proofs.Tryz.func124 (by kernel_rfl),
  f321 := Eq.trans Go.Proofs.Tryz.func151 (by kernel_rfl),
  f322 := Eq.trans Go.Proofs.Tryz.func152 (by kernel_rfl),
  f337 := Eq.trans Go.Proofs.Tryz.func136 (by kernel_rfl),
  f338 := Eq.trans Go.Proofs.Tryz.func137 (by kernel_rfl), t0 := Go.Proofs.Tryz.underlying0,
  a0 := Go.Proofs.Tryz.isAgg0, z0 := Go.Proofs.Tryz.sizeOf0, v0 := Go.Proofs.Tryz.zeroValue0, t2 := Go.Proofs.Tryz.underlying2, a2 := Go.Proofs.Tryz.isAgg2,
  z2 := Go.Proofs.Tryz.sizeOf2, v2 := Go.Proofs.Tryz.zeroValue2, t3 := Go.Proofs.Tryz.underlying3, a3 := Go.Proofs.Tryz.isAgg3, z3 := Go.Proofs.Tryz.sizeOf3,
  v3 := Go.Proofs.Tryz.zeroValue3, t4 := Go.Proofs.Tryz.underlying4, a4 := Go.Proofs.Tryz.isAgg4, z4 := Go.Proofs.Tryz.sizeOf4, v4 := Go.Proofs.Tryz.zeroValue4,
  t5 := Go.Proofs.Tryz.underlying5, a5 := Go.Proofs.Tryz.isAgg5, z5 := Go.Proofs.Tryz.sizeOf5, v5 := Go.Proofs.Tryz.zeroValue5, t9 := Go.Proofs.Tryz.underlying9,
  a9 := Go.Proofs.Tryz.isAgg9, z9 := Go.Proofs.Tryz.sizeOf9, v9 := Go.Proofs.Tryz.zeroValue9, t20 := Go.Proofs.Tryz.underlying20, a20 := Go.Proofs.Tryz.isAgg20,
  z20 := Go.Proofs.Tryz.sizeOf20, v20 := Go.Proofs.Tryz.zeroValue20, t21 := Go.Proofs.Tryz.underlying21, a21 := Go.Proofs.Tryz.isAgg21, z21 := Go.Proofs.Tryz.sizeOf21,
  v21 := Go.Proofs.Tryz.zeroValue21, t37 := Go.Proofs.Tryz.underlying34, a37 := Go.Proofs.Tryz.isAgg34, z37 := Go.Proofs.Tryz.sizeOf34, v37 := Go.Proofs.Tryz.zeroValue34,
  t46 := Go.Proofs.Tryz.underlying139, a46 := Go.Proofs.Tryz.isAgg139, z46 := Go.Proofs.Tryz.sizeOf139, v46 := Go.Proofs.Tryz.zeroValue139,
  t51 := Go.Proofs.Tryz.underlying31, a51 := Go.Proofs.Tryz.isAgg31, z51 := Go.Proofs.Tryz.sizeOf31, v51 := Go.Proofs.Tryz.zeroValue31,
  t53 := Go.Proofs.Tryz.underlying22, a53 := Go.Proofs.Tryz.isAgg22, z53 := Go.Proofs.Tryz.sizeOf22, v53 := Go.Proofs.Tryz.zeroValue22,
  t75 := Go.Proofs.Tryz.underlying40, a75 := Go.Proofs.Tryz.isAgg40, z75 := Go.Proofs.Tryz.sizeOf40, v75 := Go.Proofs.Tryz.zeroValue40,
  t76 := Go.Proofs.Tryz.underlying105, a76 := Go.Proofs.Tryz.isAgg105, z76 := Go.Proofs.Tryz.sizeOf105, v76 := Go.Proofs.Tryz.zeroValue105,
  t85 := Go.Proofs.Tryz.underlying214, a85 := Go.Proofs.Tryz.isAgg214, z85 := Go.Proofs.Tryz.sizeOf214, v85 := Go.Proofs.Tryz.zeroValue214,
  t127 := Go.Proofs.Tryz.underlying152, a127 := Go.Proofs.Tryz.isAgg152, z127 := Go.Proofs.Tryz.sizeOf152, v127 := Go.Proofs.Tryz.zeroValue152,
  t143 := Go.Proofs.Tryz.underlying231, a143 := Go.Proofs.Tryz.isAgg231, z143 := Go.Proofs.Tryz.sizeOf231, v143 := Go.Proofs.Tryz.zeroValue231,
  t145 := Go.Proofs.Tryz.underlying233, a145 := Go.Proofs.Tryz.isAgg233, z145 := Go.Proofs.Tryz.sizeOf233, v145 := Go.Proofs.Tryz.zeroValue233,
  t167 := Go.Proofs.Tryz.underlying213, a167 := Go.Proofs.Tryz.isAgg213, z167 := Go.Proofs.Tryz.sizeOf213, v167 := Go.Proofs.Tryz.zeroValue213,
  t168 := Go.Proofs.Tryz.underlying216, a168 := Go.Proofs.Tryz.isAgg216, z168 := Go.Proofs.Tryz.sizeOf216, v168 := Go.Proofs.Tryz.zeroValue216,
  t171 := Go.Proofs.Tryz.underlying164, a171 := Go.Proofs.Tryz.isAgg164, z171 := Go.Proofs.Tryz.sizeOf164, v171 := Go.Proofs.Tryz.zeroValue164,
  t173 := Go.Proofs.Tryz.underlying167, a173 := Go.Proofs.Tryz.isAgg167, z173 := Go.Proofs.Tryz.sizeOf167, v173 := Go.Proofs.Tryz.zeroValue167,
  t175 := Go.Proofs.Tryz.underlying224, a175 := Go.Proofs.Tryz.isAgg224, z175 := Go.Proofs.Tryz.sizeOf224, v175 := Go.Proofs.Tryz.zeroValue224,
  t210 := Go.Proofs.Tryz.underlying228, a210 := Go.Proofs.Tryz.isAgg228, z210 := Go.Proofs.Tryz.sizeOf228, v210 := Go.Proofs.Tryz.zeroValue228,
  t212 := Go.Proofs.Tryz.underlying202, a212 := Go.Proofs.Tryz.isAgg202, z212 := Go.Proofs.Tryz.sizeOf202, v212 := Go.Proofs.Tryz.zeroValue202,
  t213 := Go.Proofs.Tryz.underlying203, a213 := Go.Proofs.Tryz.isAgg203, z213 := Go.Proofs.Tryz.sizeOf203, t232 := Go.Proofs.Tryz.underlying219,
  a232 := Go.Proofs.Tryz.isAgg219, z232 := Go.Proofs.Tryz.sizeOf219, v232 := Go.Proofs.Tryz.zeroValue219, t233 := Go.Proofs.Tryz.underlying220,
  a233 := Go.Proofs.Tryz.isAgg220, z233 := Go.Proofs.Tryz.sizeOf220, v233 := Go.Proofs.Tryz.zeroValue220,
  g15 := (by kernel_rfl), g16 := (by kernel_rfl),
  g17 := (by kernel_rfl), g18 := (by kernel_rfl),
  g19 := (by kernel_rfl) }

theorem lays229 : Lays.n229 Go.Proofs.Tryz.prog lays229_ren :=
{ mixed := Eq.refl true, f229 := Eq.trans Go.Proofs.Tryz.func37 (by kernel_rfl),
  t0 := Go.Proofs.Tryz.underlying0, a0 := Go.Proofs.Tryz.isAgg0, z0 := Go.Proofs.Tryz.sizeOf0, v0 := Go.Proofs.Tryz.zeroValue0, t3 := Go.Proofs.Tryz.underlying3,
  a3 := Go.Proofs.Tryz.isAgg3, z3 := Go.Proofs.Tryz.sizeOf3, v3 := Go.Proofs.Tryz.zeroValue3, t4 := Go.Proofs.Tryz.underlying4, a4 := Go.Proofs.Tryz.isAgg4,
  z4 := Go.Proofs.Tryz.sizeOf4, v4 := Go.Proofs.Tryz.zeroValue4, t9 := Go.Proofs.Tryz.underlying9, a9 := Go.Proofs.Tryz.isAgg9, z9 := Go.Proofs.Tryz.sizeOf9,
  v9 := Go.Proofs.Tryz.zeroValue9, t21 := Go.Proofs.Tryz.underlying21, a21 := Go.Proofs.Tryz.isAgg21, z21 := Go.Proofs.Tryz.sizeOf21, v21 := Go.Proofs.Tryz.zeroValue21,
  t31 := Go.Proofs.Tryz.underlying66, a31 := Go.Proofs.Tryz.isAgg66, z31 := Go.Proofs.Tryz.sizeOf66, v31 := Go.Proofs.Tryz.zeroValue66,
  t40 := Go.Proofs.Tryz.underlying98, a40 := Go.Proofs.Tryz.isAgg98, z40 := Go.Proofs.Tryz.sizeOf98, v40 := Go.Proofs.Tryz.zeroValue98,
  t152 := Go.Proofs.Tryz.underlying146, a152 := Go.Proofs.Tryz.isAgg146, z152 := Go.Proofs.Tryz.sizeOf146, v152 := Go.Proofs.Tryz.zeroValue146,
  t154 := Go.Proofs.Tryz.underlying148, a154 := Go.Proofs.Tryz.isAgg148, z154 := Go.Proofs.Tryz.sizeOf148, v154 := Go.Proofs.Tryz.zeroValue148 }

theorem extra_lays156 : Builder.Extra Go.Proofs.Tryz.prog lays156_ren where
  sizeBuilder := by kernel_rfl
  liesBuilder := by kernel_rfl
  t5 := Go.Proofs.Tryz.underlying5
  a5 := Go.Proofs.Tryz.isAgg5
  z5 := Go.Proofs.Tryz.sizeOf5
  v5 := Go.Proofs.Tryz.zeroValue5
  infoByte := by kernel_rfl
  cellsByte := by kernel_rfl
  sizeByte := by kernel_rfl
  neB5 := by decide

end Go.Fn
