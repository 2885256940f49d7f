/- Contracts of strconv and strings at every argument: Atoi, Itoa, Cut, Split, IndexByte (the laid facts were printed by the kit's tool for contracts of the shelf). -/
import Derived.Test.YtjbnffclpebkkaaDoorFault
import Derived.Shelf.Small.Strs
import Derived.Shelf.Strconv.Itoa3
import Derived.Shelf.Strconv.ErrVarAll
import Derived.Shelf.Strings.Cut
import Derived.Shelf.Strings.Split
import Derived.Lib.SplitLaws
import Derived.Lib.AtoiAllCases
import Derived.Lib.ItoaLen
import Derived.Lib.SmallJoins
set_option linter.unusedVariables false
namespace Go.Proofs
open Go.Shelf
def Tryd.lays137_ren : Go.Shelf.Ren := ⟨fun | 137 => 56 | 217 => 77 | 266 => 96 | n => n, fun | 9 => 9 | 5 => 5 | 3 => 3 | n => n, fun | n => n⟩
theorem Tryd.lays137 : Go.Proofs.Lays.n137 Tryd.prog Tryd.lays137_ren := {
  mixed := by kernel_rfl
  f137 := Tryd.func56.trans (congrArg some (by kernel_rfl))
  f217 := Tryd.func77.trans (congrArg some (by kernel_rfl))
  f266 := Tryd.func96.trans (congrArg some (by kernel_rfl))
  t3 := Tryd.underlying3
  a3 := Tryd.isAgg3
  z3 := Tryd.sizeOf3
  v3 := Tryd.zeroValue3
  t5 := Tryd.underlying5
  a5 := Tryd.isAgg5
  z5 := Tryd.sizeOf5
  v5 := Tryd.zeroValue5
  t9 := Tryd.underlying9
  a9 := Tryd.isAgg9
  z9 := Tryd.sizeOf9
  v9 := Tryd.zeroValue9 }
def Tryd.laysM171_ren : Go.Shelf.Ren := ⟨fun | 171 => 49 | 243 => 74 | 246 => 91 | 283 => 114 | 284 => 115 | 285 => 116 | 286 => 117 | 129 => 134 | 317 => 133 | 318 => 135 | 319 => 136 | 320 => 137 | 337 => 154 | 338 => 155 | n => n, fun | 3 => 3 | 9 => 9 | 2 => 2 | 4 => 4 | 171 => 161 | 0 => 0 | 53 => 151 | 37 => 95 | 5 => 5 | 173 => 164 | 212 => 182 | 51 => 155 | 20 => 20 | 213 => 183 | 46 => 156 | 232 => 209 | 233 => 210 | n => n, fun | 17 => 3 | 18 => 6 | 19 => 7 | n => n⟩
theorem Tryd.laysM171 : Go.Proofs.LaysM.n171 Tryd.prog Tryd.laysM171_ren := {
  mixed := by kernel_rfl
  f129 := Tryd.func134.trans (congrArg some (by kernel_rfl))
  f171 := Tryd.func49.trans (congrArg some (by kernel_rfl))
  f243 := Tryd.func74.trans (congrArg some (by kernel_rfl))
  f246 := Tryd.func91.trans (congrArg some (by kernel_rfl))
  f283 := Tryd.func114.trans (congrArg some (by kernel_rfl))
  f284 := Tryd.func115.trans (congrArg some (by kernel_rfl))
  f285 := Tryd.func116.trans (congrArg some (by kernel_rfl))
  f286 := Tryd.func117.trans (congrArg some (by kernel_rfl))
  f317 := Tryd.func133.trans (congrArg some (by kernel_rfl))
  f318 := Tryd.func135.trans (congrArg some (by kernel_rfl))
  f319 := Tryd.func136.trans (congrArg some (by kernel_rfl))
  f320 := Tryd.func137.trans (congrArg some (by kernel_rfl))
  f337 := Tryd.func154.trans (congrArg some (by kernel_rfl))
  f338 := Tryd.func155.trans (congrArg some (by kernel_rfl))
  t0 := Tryd.underlying0
  a0 := Tryd.isAgg0
  z0 := Tryd.sizeOf0
  v0 := Tryd.zeroValue0
  t2 := Tryd.underlying2
  a2 := Tryd.isAgg2
  z2 := Tryd.sizeOf2
  v2 := Tryd.zeroValue2
  t3 := Tryd.underlying3
  a3 := Tryd.isAgg3
  z3 := Tryd.sizeOf3
  v3 := Tryd.zeroValue3
  t4 := Tryd.underlying4
  a4 := Tryd.isAgg4
  z4 := Tryd.sizeOf4
  v4 := Tryd.zeroValue4
  t5 := Tryd.underlying5
  a5 := Tryd.isAgg5
  z5 := Tryd.sizeOf5
  v5 := Tryd.zeroValue5
  t9 := Tryd.underlying9
  a9 := Tryd.isAgg9
  z9 := Tryd.sizeOf9
  v9 := Tryd.zeroValue9
  t20 := Tryd.underlying20
  a20 := Tryd.isAgg20
  z20 := Tryd.sizeOf20
  v20 := Tryd.zeroValue20
  t37 := Tryd.underlying95
  a37 := Tryd.isAgg95
  z37 := Tryd.sizeOf95
  v37 := Tryd.zeroValue95
  t46 := Tryd.underlying156
  a46 := Tryd.isAgg156
  z46 := Tryd.sizeOf156
  v46 := Tryd.zeroValue156
  t51 := Tryd.underlying155
  a51 := Tryd.isAgg155
  z51 := Tryd.sizeOf155
  v51 := Tryd.zeroValue155
  t53 := Tryd.underlying151
  a53 := Tryd.isAgg151
  z53 := Tryd.sizeOf151
  v53 := Tryd.zeroValue151
  t171 := Tryd.underlying161
  a171 := Tryd.isAgg161
  z171 := Tryd.sizeOf161
  v171 := Tryd.zeroValue161
  t173 := Tryd.underlying164
  a173 := Tryd.isAgg164
  z173 := Tryd.sizeOf164
  v173 := Tryd.zeroValue164
  t212 := Tryd.underlying182
  a212 := Tryd.isAgg182
  z212 := Tryd.sizeOf182
  v212 := Tryd.zeroValue182
  t213 := Tryd.underlying183
  a213 := Tryd.isAgg183
  z213 := Tryd.sizeOf183
  t232 := Tryd.underlying209
  a232 := Tryd.isAgg209
  z232 := Tryd.sizeOf209
  v232 := Tryd.zeroValue209
  t233 := Tryd.underlying210
  a233 := Tryd.isAgg210
  z233 := Tryd.sizeOf210
  v233 := Tryd.zeroValue210
  g17 := by kernel_rfl
  g18 := by kernel_rfl
  g19 := by kernel_rfl
  i0 := by kernel_rfl
  i2 := by kernel_rfl
  i3 := by kernel_rfl
  i4 := by kernel_rfl
  i5 := by kernel_rfl
  i9 := by kernel_rfl
  i20 := by kernel_rfl
  i37 := by kernel_rfl
  i46 := by kernel_rfl
  i51 := by kernel_rfl
  i53 := by kernel_rfl
  i171 := by kernel_rfl
  i173 := by kernel_rfl
  i212 := by kernel_rfl
  i232 := by kernel_rfl
  i233 := by kernel_rfl
  m17 := by kernel_rfl
  m18 := by kernel_rfl
  m19 := by kernel_rfl }
def Tryd.laysC172_ren : Go.Shelf.Ren := ⟨fun | 172 => 58 | 244 => 78 | 245 => 79 | 247 => 97 | 279 => 98 | 280 => 99 | 281 => 100 | 282 => 101 | 287 => 124 | 316 => 125 | 171 => 49 | 205 => 126 | 321 => 140 | 322 => 141 | 243 => 74 | 246 => 91 | 283 => 114 | 284 => 115 | 285 => 116 | 286 => 117 | 129 => 134 | 317 => 133 | 318 => 135 | 319 => 136 | 320 => 137 | 337 => 154 | 338 => 155 | n => n, fun | 9 => 9 | 3 => 3 | 75 => 99 | 76 => 100 | 4 => 4 | 5 => 5 | 167 => 141 | 37 => 95 | 0 => 0 | 85 => 142 | 2 => 2 | 168 => 144 | 53 => 151 | 175 => 170 | 46 => 156 | 210 => 173 | 127 => 127 | 145 => 190 | 143 => 188 | 21 => 21 | 171 => 161 | 173 => 164 | 212 => 182 | 51 => 155 | 20 => 20 | 213 => 183 | 232 => 209 | 233 => 210 | 80 => 103 | n => n, fun | 15 => 1 | 16 => 2 | 17 => 3 | 18 => 6 | 19 => 7 | n => n⟩
theorem Tryd.laysC172 : Go.Proofs.LaysC.n172 Tryd.prog Tryd.laysC172_ren := {
  mixed := by kernel_rfl
  f129 := Tryd.func134.trans (congrArg some (by kernel_rfl))
  f171 := Tryd.func49.trans (congrArg some (by kernel_rfl))
  f172 := Tryd.func58.trans (congrArg some (by kernel_rfl))
  f205 := Tryd.func126.trans (congrArg some (by kernel_rfl))
  f243 := Tryd.func74.trans (congrArg some (by kernel_rfl))
  f244 := Tryd.func78.trans (congrArg some (by kernel_rfl))
  f245 := Tryd.func79.trans (congrArg some (by kernel_rfl))
  f246 := Tryd.func91.trans (congrArg some (by kernel_rfl))
  f247 := Tryd.func97.trans (congrArg some (by kernel_rfl))
  f279 := Tryd.func98.trans (congrArg some (by kernel_rfl))
  f280 := Tryd.func99.trans (congrArg some (by kernel_rfl))
  f281 := Tryd.func100.trans (congrArg some (by kernel_rfl))
  f282 := Tryd.func101.trans (congrArg some (by kernel_rfl))
  f283 := Tryd.func114.trans (congrArg some (by kernel_rfl))
  f284 := Tryd.func115.trans (congrArg some (by kernel_rfl))
  f285 := Tryd.func116.trans (congrArg some (by kernel_rfl))
  f286 := Tryd.func117.trans (congrArg some (by kernel_rfl))
  f287 := Tryd.func124.trans (congrArg some (by kernel_rfl))
  f316 := Tryd.func125.trans (congrArg some (by kernel_rfl))
  f317 := Tryd.func133.trans (congrArg some (by kernel_rfl))
  f318 := Tryd.func135.trans (congrArg some (by kernel_rfl))
  f319 := Tryd.func136.trans (congrArg some (by kernel_rfl))
  f320 := Tryd.func137.trans (congrArg some (by kernel_rfl))
  f321 := Tryd.func140.trans (congrArg some (by kernel_rfl))
  f322 := Tryd.func141.trans (congrArg some (by kernel_rfl))
  f337 := Tryd.func154.trans (congrArg some (by kernel_rfl))
  f338 := Tryd.func155.trans (congrArg some (by kernel_rfl))
  t0 := Tryd.underlying0
  a0 := Tryd.isAgg0
  z0 := Tryd.sizeOf0
  v0 := Tryd.zeroValue0
  t2 := Tryd.underlying2
  a2 := Tryd.isAgg2
  z2 := Tryd.sizeOf2
  v2 := Tryd.zeroValue2
  t3 := Tryd.underlying3
  a3 := Tryd.isAgg3
  z3 := Tryd.sizeOf3
  v3 := Tryd.zeroValue3
  t4 := Tryd.underlying4
  a4 := Tryd.isAgg4
  z4 := Tryd.sizeOf4
  v4 := Tryd.zeroValue4
  t5 := Tryd.underlying5
  a5 := Tryd.isAgg5
  z5 := Tryd.sizeOf5
  v5 := Tryd.zeroValue5
  t9 := Tryd.underlying9
  a9 := Tryd.isAgg9
  z9 := Tryd.sizeOf9
  v9 := Tryd.zeroValue9
  t20 := Tryd.underlying20
  a20 := Tryd.isAgg20
  z20 := Tryd.sizeOf20
  v20 := Tryd.zeroValue20
  t21 := Tryd.underlying21
  a21 := Tryd.isAgg21
  z21 := Tryd.sizeOf21
  v21 := Tryd.zeroValue21
  t37 := Tryd.underlying95
  a37 := Tryd.isAgg95
  z37 := Tryd.sizeOf95
  v37 := Tryd.zeroValue95
  t46 := Tryd.underlying156
  a46 := Tryd.isAgg156
  z46 := Tryd.sizeOf156
  v46 := Tryd.zeroValue156
  t51 := Tryd.underlying155
  a51 := Tryd.isAgg155
  z51 := Tryd.sizeOf155
  v51 := Tryd.zeroValue155
  t53 := Tryd.underlying151
  a53 := Tryd.isAgg151
  z53 := Tryd.sizeOf151
  v53 := Tryd.zeroValue151
  t75 := Tryd.underlying99
  a75 := Tryd.isAgg99
  z75 := Tryd.sizeOf99
  v75 := Tryd.zeroValue99
  t76 := Tryd.underlying100
  a76 := Tryd.isAgg100
  z76 := Tryd.sizeOf100
  v76 := Tryd.zeroValue100
  t85 := Tryd.underlying142
  a85 := Tryd.isAgg142
  z85 := Tryd.sizeOf142
  v85 := Tryd.zeroValue142
  t127 := Tryd.underlying127
  a127 := Tryd.isAgg127
  z127 := Tryd.sizeOf127
  v127 := Tryd.zeroValue127
  t143 := Tryd.underlying188
  a143 := Tryd.isAgg188
  z143 := Tryd.sizeOf188
  v143 := Tryd.zeroValue188
  t145 := Tryd.underlying190
  a145 := Tryd.isAgg190
  z145 := Tryd.sizeOf190
  v145 := Tryd.zeroValue190
  t167 := Tryd.underlying141
  a167 := Tryd.isAgg141
  z167 := Tryd.sizeOf141
  v167 := Tryd.zeroValue141
  t168 := Tryd.underlying144
  a168 := Tryd.isAgg144
  z168 := Tryd.sizeOf144
  v168 := Tryd.zeroValue144
  t171 := Tryd.underlying161
  a171 := Tryd.isAgg161
  z171 := Tryd.sizeOf161
  v171 := Tryd.zeroValue161
  t173 := Tryd.underlying164
  a173 := Tryd.isAgg164
  z173 := Tryd.sizeOf164
  v173 := Tryd.zeroValue164
  t175 := Tryd.underlying170
  a175 := Tryd.isAgg170
  z175 := Tryd.sizeOf170
  v175 := Tryd.zeroValue170
  t210 := Tryd.underlying173
  a210 := Tryd.isAgg173
  z210 := Tryd.sizeOf173
  v210 := Tryd.zeroValue173
  t212 := Tryd.underlying182
  a212 := Tryd.isAgg182
  z212 := Tryd.sizeOf182
  v212 := Tryd.zeroValue182
  t213 := Tryd.underlying183
  a213 := Tryd.isAgg183
  z213 := Tryd.sizeOf183
  t232 := Tryd.underlying209
  a232 := Tryd.isAgg209
  z232 := Tryd.sizeOf209
  v232 := Tryd.zeroValue209
  t233 := Tryd.underlying210
  a233 := Tryd.isAgg210
  z233 := Tryd.sizeOf210
  v233 := Tryd.zeroValue210
  g15 := by kernel_rfl
  g16 := by kernel_rfl
  g17 := by kernel_rfl
  g18 := by kernel_rfl
  g19 := by kernel_rfl
  t80 := Tryd.underlying103
  a80 := Tryd.isAgg103
  z80 := Tryd.sizeOf103
  v80 := Tryd.zeroValue103
  i0 := by kernel_rfl
  i2 := by kernel_rfl
  i3 := by kernel_rfl
  i4 := by kernel_rfl
  i5 := by kernel_rfl
  i9 := by kernel_rfl
  i20 := by kernel_rfl
  i21 := by kernel_rfl
  i37 := by kernel_rfl
  i46 := by kernel_rfl
  i51 := by kernel_rfl
  i53 := by kernel_rfl
  i75 := by kernel_rfl
  i76 := by kernel_rfl
  i80 := by kernel_rfl
  i85 := by kernel_rfl
  i127 := by kernel_rfl
  i143 := by kernel_rfl
  i145 := by kernel_rfl
  i167 := by kernel_rfl
  i168 := by kernel_rfl
  i171 := by kernel_rfl
  i173 := by kernel_rfl
  i175 := by kernel_rfl
  i210 := by kernel_rfl
  i212 := by kernel_rfl
  i232 := by kernel_rfl
  i233 := by kernel_rfl
  m15 := by kernel_rfl
  m16 := by kernel_rfl
  m17 := by kernel_rfl
  m18 := by kernel_rfl
  m19 := by kernel_rfl
  c0 := by kernel_rfl
  c2 := by kernel_rfl
  c3 := by kernel_rfl
  c4 := by kernel_rfl
  c5 := by kernel_rfl
  c9 := by kernel_rfl
  c20 := by kernel_rfl
  c21 := by kernel_rfl
  c37 := by kernel_rfl
  c46 := by kernel_rfl
  c51 := by kernel_rfl
  c53 := by kernel_rfl
  c75 := by kernel_rfl
  c76 := by kernel_rfl
  c80 := by kernel_rfl
  c85 := by kernel_rfl
  c127 := by kernel_rfl
  c143 := by kernel_rfl
  c145 := by kernel_rfl
  c167 := by kernel_rfl
  c168 := by kernel_rfl
  c171 := by kernel_rfl
  c173 := by kernel_rfl
  c175 := by kernel_rfl
  c210 := by kernel_rfl
  c212 := by kernel_rfl
  c213 := by kernel_rfl
  c232 := by kernel_rfl
  c233 := by kernel_rfl }
def Tryd.lays145_ren : Go.Shelf.Ren := ⟨fun | 145 => 52 | 220 => 75 | 219 => 92 | 217 => 77 | 225 => 118 | 224 => 119 | 267 => 120 | 266 => 96 | 314 => 138 | n => n, fun | 9 => 9 | 4 => 4 | 59 => 104 | 3 => 3 | 5 => 5 | 46 => 156 | 146 => 185 | 51 => 155 | n => n, fun | 1 => 0 | n => n⟩
theorem Tryd.lays145 : Go.Proofs.Lays.n145 Tryd.prog Tryd.lays145_ren := {
  mixed := by kernel_rfl
  f145 := Tryd.func52.trans (congrArg some (by kernel_rfl))
  f217 := Tryd.func77.trans (congrArg some (by kernel_rfl))
  f219 := Tryd.func92.trans (congrArg some (by kernel_rfl))
  f220 := Tryd.func75.trans (congrArg some (by kernel_rfl))
  f224 := Tryd.func119.trans (congrArg some (by kernel_rfl))
  f225 := Tryd.func118.trans (congrArg some (by kernel_rfl))
  f266 := Tryd.func96.trans (congrArg some (by kernel_rfl))
  f267 := Tryd.func120.trans (congrArg some (by kernel_rfl))
  f314 := Tryd.func138.trans (congrArg some (by kernel_rfl))
  t3 := Tryd.underlying3
  a3 := Tryd.isAgg3
  z3 := Tryd.sizeOf3
  v3 := Tryd.zeroValue3
  t4 := Tryd.underlying4
  a4 := Tryd.isAgg4
  z4 := Tryd.sizeOf4
  v4 := Tryd.zeroValue4
  t5 := Tryd.underlying5
  a5 := Tryd.isAgg5
  z5 := Tryd.sizeOf5
  v5 := Tryd.zeroValue5
  t9 := Tryd.underlying9
  a9 := Tryd.isAgg9
  z9 := Tryd.sizeOf9
  v9 := Tryd.zeroValue9
  t46 := Tryd.underlying156
  a46 := Tryd.isAgg156
  z46 := Tryd.sizeOf156
  v46 := Tryd.zeroValue156
  t51 := Tryd.underlying155
  a51 := Tryd.isAgg155
  z51 := Tryd.sizeOf155
  v51 := Tryd.zeroValue155
  t59 := Tryd.underlying104
  a59 := Tryd.isAgg104
  z59 := Tryd.sizeOf104
  v59 := Tryd.zeroValue104
  t146 := Tryd.underlying185
  a146 := Tryd.isAgg185
  z146 := Tryd.sizeOf185
  v146 := Tryd.zeroValue185
  g1 := by kernel_rfl }
def Tryd.lays146_ren : Go.Shelf.Ren := ⟨fun | 146 => 53 | 221 => 76 | 268 => 93 | 138 => 94 | 143 => 95 | 195 => 121 | 197 => 122 | 218 => 123 | 219 => 92 | 260 => 139 | 217 => 77 | 225 => 118 | 224 => 119 | 267 => 120 | 266 => 96 | 314 => 138 | n => n, fun | 9 => 9 | 31 => 83 | 3 => 3 | 4 => 4 | 0 => 0 | 105 => 168 | 21 => 21 | 5 => 5 | 46 => 156 | 119 => 202 | 139 => 205 | 138 => 204 | 146 => 185 | 51 => 155 | n => n, fun | 1 => 0 | 3 => 4 | 4 => 5 | n => n⟩
theorem Tryd.lays146 : Go.Proofs.Lays.n146 Tryd.prog Tryd.lays146_ren := {
  mixed := by kernel_rfl
  f138 := Tryd.func94.trans (congrArg some (by kernel_rfl))
  f143 := Tryd.func95.trans (congrArg some (by kernel_rfl))
  f146 := Tryd.func53.trans (congrArg some (by kernel_rfl))
  f195 := Tryd.func121.trans (congrArg some (by kernel_rfl))
  f197 := Tryd.func122.trans (congrArg some (by kernel_rfl))
  f217 := Tryd.func77.trans (congrArg some (by kernel_rfl))
  f218 := Tryd.func123.trans (congrArg some (by kernel_rfl))
  f219 := Tryd.func92.trans (congrArg some (by kernel_rfl))
  f221 := Tryd.func76.trans (congrArg some (by kernel_rfl))
  f224 := Tryd.func119.trans (congrArg some (by kernel_rfl))
  f225 := Tryd.func118.trans (congrArg some (by kernel_rfl))
  f260 := Tryd.func139.trans (congrArg some (by kernel_rfl))
  f266 := Tryd.func96.trans (congrArg some (by kernel_rfl))
  f267 := Tryd.func120.trans (congrArg some (by kernel_rfl))
  f268 := Tryd.func93.trans (congrArg some (by kernel_rfl))
  f314 := Tryd.func138.trans (congrArg some (by kernel_rfl))
  t0 := Tryd.underlying0
  a0 := Tryd.isAgg0
  z0 := Tryd.sizeOf0
  v0 := Tryd.zeroValue0
  t3 := Tryd.underlying3
  a3 := Tryd.isAgg3
  z3 := Tryd.sizeOf3
  v3 := Tryd.zeroValue3
  t4 := Tryd.underlying4
  a4 := Tryd.isAgg4
  z4 := Tryd.sizeOf4
  v4 := Tryd.zeroValue4
  t5 := Tryd.underlying5
  a5 := Tryd.isAgg5
  z5 := Tryd.sizeOf5
  v5 := Tryd.zeroValue5
  t9 := Tryd.underlying9
  a9 := Tryd.isAgg9
  z9 := Tryd.sizeOf9
  v9 := Tryd.zeroValue9
  t21 := Tryd.underlying21
  a21 := Tryd.isAgg21
  z21 := Tryd.sizeOf21
  v21 := Tryd.zeroValue21
  t31 := Tryd.underlying83
  a31 := Tryd.isAgg83
  z31 := Tryd.sizeOf83
  v31 := Tryd.zeroValue83
  t46 := Tryd.underlying156
  a46 := Tryd.isAgg156
  z46 := Tryd.sizeOf156
  v46 := Tryd.zeroValue156
  t51 := Tryd.underlying155
  a51 := Tryd.isAgg155
  z51 := Tryd.sizeOf155
  v51 := Tryd.zeroValue155
  t105 := Tryd.underlying168
  a105 := Tryd.isAgg168
  z105 := Tryd.sizeOf168
  v105 := Tryd.zeroValue168
  t119 := Tryd.underlying202
  a119 := Tryd.isAgg202
  z119 := Tryd.sizeOf202
  t138 := Tryd.underlying204
  a138 := Tryd.isAgg204
  z138 := Tryd.sizeOf204
  v138 := Tryd.zeroValue204
  t139 := Tryd.underlying205
  a139 := Tryd.isAgg205
  z139 := Tryd.sizeOf205
  v139 := Tryd.zeroValue205
  t146 := Tryd.underlying185
  a146 := Tryd.isAgg185
  z146 := Tryd.sizeOf185
  v146 := Tryd.zeroValue185
  g1 := by kernel_rfl
  g3 := by kernel_rfl
  g4 := by kernel_rfl }
end Go.Proofs
namespace Go.Proofs.YtjbnffclpebkkaaDoor
open Go Go.RowKit
/-- What the functions of Go's library read of package-level variables. -/
structure LibOK (W : World) : Prop where
  pow : Lib.TabIs Tryd.prog W "internal/strconv.uint64pow10" .u64 Lib.pow10Tab
  max : ∃ m : Int, W.cell? ⟨0, 0, none⟩ = some (.int .i64 m)
  syn : ∃ tp p, W.var? Tryd.prog "strconv.ErrSyntax" = some #[.iface tp p]
  rng : ∃ tp p, W.var? Tryd.prog "strconv.ErrRange" = some #[.iface tp p]
def GG (h : Nat → Option Obj) : Prop := ∀ W : World, (∀ b o, h b = some o → W.heap[b]? = some o) → LibOK W
theorem GG_stays : AE.Stays GG := fun h h' hh hg W hW => hg W fun b o hb => hW b o (hh b o hb)
theorem grew_of_below {W W' : World} (h : Below W.heap.size W W') : AE.Grew W W' := ⟨h.os, h.tape, h.output, h.size, h.block⟩

/-- The number that Atoi returns, and whether without an error. -/
def atV (s : ByteArray) : Int := match Lib.atoiAll s.data.toList with | .ok v => v | .range => Lib.atoiSat s.data.toList | _ => 0
def atOk (s : ByteArray) : Bool := match Lib.atoiAll s.data.toList with | .ok _ => true | _ => false

theorem atoi_yes (s : ByteArray) (hs : s.size ≤ 281474976710656) (h : atOk s = true) (n : Int) (hn : n = atV s) : AE.ACallG GG Tryd.prog 58 [] [.v (.string s)] [] (.t [.v (.int .i64 n), .v .nilIface]) := by
  refine AE.ACallG.of_new (args := [.string s]) (enters Tryd.func58 rfl rfl) (.t _ fun c hc => by simp at hc; rcases hc with rfl | rfl <;> exact .v _) (fun _ _ _ h => by simp at h) fun W h0 hW hG => ?_
  have hv : Lib.atoiAll s.data.toList = .ok n := by
    rw [hn]; unfold atOk at h; unfold atV
    split at h
    · rename_i v hv; rw [hv]
    · cases h
  refine (Any.strconv_Atoi_ok Tryd.laysC172 s (by omega) n hv W).mono ?_
  rintro e w' ⟨rfl, hw⟩
  refine ⟨_, rfl, ?_, fun E' _ => .t _ _ [_, _] rfl fun i c u hc hu => ?_⟩
  · rcases hw with rfl | ⟨t, rfl⟩
    · exact AE.Grew.refl _
    · exact grew_of_below (Joins.below_bytesWorld _ _ _ _ (Nat.le_refl _))
  · match i with
    | 0 => simp at hc hu; subst hc; subst hu; exact .v _ _ rfl
    | 1 => simp at hc hu; subst hc; subst hu; exact .v _ _ rfl
    | i + 2 => simp at hc
theorem atoi_no (s : ByteArray) (hs : s.size ≤ 281474976710656) (h : atOk s = false) (n : Int) (hn : n = atV s) : AE.ACallG GG Tryd.prog 58 [] [.v (.string s)] [] (.t [.v (.int .i64 n), .ni]) := by
  refine AE.ACallG.of_new (args := [.string s]) (enters Tryd.func58 rfl rfl) (.t _ fun c hc => by simp at hc; rcases hc with rfl | rfl; exact .v _; exact .ni) (fun _ _ _ h => by simp at h) fun W h0 hW hG => ?_
  have hL := hG W hW
  have key : ∀ (m : Int) (N : Nat) (w' : World) (e : Ending), e = .returned (.tuple #[.int .i64 m, .iface 144 (.pointer (some ⟨N, 0, none⟩))]) → Below W.heap.size W w' → m = n → ∃ v, e = .returned v ∧ AE.Grew W w' ∧ ∀ E' : AE.Env, (∀ b o, W.heap.size ≤ b → w'.heap[b]? = some o → E'.h b = some o) → AE.RAV E' true (.t [.v (.int .i64 n), .ni]) v := by
    rintro m N w' e rfl hb rfl
    refine ⟨_, rfl, grew_of_below hb, fun E' _ => .t _ _ [_, _] rfl fun i c u hc hu => ?_⟩
    match i with
    | 0 => simp at hc hu; subst hc; subst hu; exact .v _ _ rfl
    | 1 => simp at hc hu; subst hc; subst hu; exact .ni _ _ _
    | i + 2 => simp at hc
  unfold atOk at h
  unfold atV at hn
  rcases hq : Lib.atoiAll s.data.toList with v | _ | _
  · rw [hq] at h; cases h
  · rw [hq] at hn
    obtain ⟨tp, p, hv⟩ := hL.syn
    refine (Any.strconv_Atoi_syntax_var Tryd.laysC172 s hs hq tp p W hv).mono ?_
    rintro e w' ⟨N, he, _, _, hb⟩
    exact key _ N w' e he hb hn.symm
  · rw [hq] at hn
    obtain ⟨tp, p, hv⟩ := hL.rng
    refine (Any.strconv_Atoi_range_var Tryd.laysC172 s hs hq tp p W hv).mono ?_
    rintro e w' ⟨N, he, _, _, hb⟩
    exact key _ N w' e he hb hn.symm
theorem atV_bounds (s : ByteArray) : -9223372036854775808 ≤ atV s ∧ atV s ≤ 9223372036854775807 := by
  unfold atV
  split
  · rename_i v hv; exact Lib.atoiAll_bounds hv
  · exact Lib.atoiSat_bounds _
  · omega

theorem itoa_ok (n : Int) (h0 : -9223372036854775808 ≤ n) (h1 : n ≤ 9223372036854775807) (s : ByteArray) (hs : s = dec n) : AE.ACallG GG Tryd.prog 49 [] [.v (.int .i64 n)] [] (.v (.string s)) := by
  refine AE.ACallG.of_calls (args := [.int .i64 n]) (enters Tryd.func49 rfl rfl) rfl (fun _ _ _ h => by simp at h) fun W h0' hW hG => (Any.strconv_Itoa Tryd.laysM171 n h0 h1 W (hG W hW).pow).mono ?_
  rintro e w' ⟨rfl, k, os, rfl⟩
  refine ⟨by rw [hs, dec_eq], ⟨rfl, rfl, rfl, ?_, fun b hb => ?_⟩⟩
  · show _ ≤ (W.heap ++ os).size
    simp
  · show (W.heap ++ os)[b]? = _
    rw [Array.getElem?_append_left hb]
theorem dec_few (n : Int) (h0 : -9223372036854775808 ≤ n) (h1 : n ≤ 9223372036854775807) : (dec n).size ≤ 100 := by
  rw [dec_eq]
  have := Lib.itoa_length_le n h0 h1
  show (Lib.itoa n).toArray.size ≤ 100
  simp; omega

theorem cut_ok (s : ByteArray) (hs : s.size < 4294967281) (a b : ByteArray) (c : Bool) (ha : a = ⟨(Lib.cut s.data.toList [10]).1.toArray⟩) (hb : b = ⟨(Lib.cut s.data.toList [10]).2.1.toArray⟩) (hc : c = (Lib.cut s.data.toList [10]).2.2) :
    AE.ACallG GG Tryd.prog 52 [] [.v (.string s), .v (.string ⟨⟨[10]⟩⟩)] [] (.t [.v (.string a), .v (.string b), .b c]) := by
  refine AE.ACallG.of_new (args := [.string s, .string ⟨⟨[10]⟩⟩]) (enters Tryd.func52 rfl rfl) (.t _ fun c hc => by simp at hc; rcases hc with rfl | rfl | rfl; exact .v _; exact .v _; exact .b _) (fun _ _ _ h => by simp at h) fun W h0 hW hG => ?_
  obtain ⟨m, hm⟩ := (hG W hW).max
  refine (Any.strings_Cut Tryd.lays145 s ⟨⟨[10]⟩⟩ m W hs hm).mono ?_
  rintro e w' ⟨rfl, n, rfl⟩
  refine ⟨_, rfl, ⟨rfl, rfl, rfl, Nat.le_refl _, fun _ _ => rfl⟩, fun E' _ => .t _ _ [_, _, _] rfl fun i c' u hc' hu => ?_⟩
  match i with
  | 0 => simp at hc' hu; subst hc'; subst hu; rw [ha]; exact .v _ _ rfl
  | 1 => simp at hc' hu; subst hc'; subst hu; rw [hb]; exact .v _ _ rfl
  | 2 => simp at hc' hu; subst hc'; subst hu; rw [hc]; exact .b _ _
  | i + 3 => simp at hc'

theorem indexByte_ok (s : ByteArray) (k : Int) (hk : k = Lib.indexByte s.data.toList 10) : AE.ACall Tryd.prog 56 [] [.v (.string s), .v (.int .u8 10)] [] (.v (.int .i64 k)) := by
  refine AE.ACall.of_calls (args := [.string s, .int .u8 10]) (enters Tryd.func56 rfl rfl) rfl (fun _ _ _ h => by simp at h) fun W => (Any.strings_IndexByte Tryd.lays137 s 10 W).mono ?_
  rintro e w' ⟨rfl, rfl⟩
  exact ⟨by rw [hk]; rfl, AE.Grew.refl _⟩

theorem pcs_ex : ∃ g : ByteArray → List ByteArray, ∀ s, g s = Lib.splitB ⟨⟨[32]⟩⟩ 0 (Lib.countB s ⟨⟨[32]⟩⟩) s := ⟨_, fun _ => rfl⟩
/-- The pieces between the blanks. -/
noncomputable def pcs : ByteArray → List ByteArray := pcs_ex.choose
theorem pcs_eq (s : ByteArray) : pcs s = Lib.splitB ⟨⟨[32]⟩⟩ 0 (Lib.countB s ⟨⟨[32]⟩⟩) s := pcs_ex.choose_spec s
theorem sl_ex : ∃ g : List ByteArray → List (List AE.AV), ∀ l, g l = l.map fun w => [.v (.string w)] := ⟨_, fun _ => rfl⟩
/-- Strings as elements. -/
noncomputable def sl : List ByteArray → List (List AE.AV) := sl_ex.choose
theorem sl_eq (l : List ByteArray) : sl l = l.map fun w => [.v (.string w)] := sl_ex.choose_spec l
theorem sl_len (l : List ByteArray) : (sl l).length = l.length := by simp [sl_eq]
theorem sl_get (l : List ByteArray) (i : Nat) (w : ByteArray) (h : l[i]? = some w) : (sl l)[i]? = some [.v (.string w)] := by simp [sl_eq, h]

theorem split_ok (s : ByteArray) (hs : s.size < 4294967281) (es : List (List AE.AV)) (he : es = sl (pcs s)) : AE.ACallG GG Tryd.prog 53 [] [.v (.string s), .v (.string ⟨⟨[32]⟩⟩)] [] (.l 1 es) := by
  refine AE.ACallG.of_new (args := [.string s, .string ⟨⟨[32]⟩⟩]) (enters Tryd.func53 rfl rfl) (.l _ _) (fun _ _ _ h => by simp at h) fun W h0 hW hG => ?_
  obtain ⟨m, hm⟩ := (hG W hW).max
  have h1 : 1 ≤ (⟨⟨[32]⟩⟩ : ByteArray).size := by decide
  have hlen := Lib.splitB_all ⟨⟨[32]⟩⟩ h1 0 _ s rfl
  have hcl := Lib.countB_le ⟨⟨[32]⟩⟩ h1 _ s (Nat.le_refl _)
  refine (Any.strings_Split Tryd.lays146 (by kernel_rfl) s ⟨⟨[32]⟩⟩ m W hs hm h1).mono ?_
  rintro e w' ⟨rfl, rfl⟩
  have hes : es.length = Lib.countB s ⟨⟨[32]⟩⟩ + 1 := by rw [he, sl_len, pcs_eq, hlen]
  refine ⟨_, rfl, ⟨rfl, rfl, rfl, by simp, fun b hb => by simp only [World.alloc]; rw [Array.getElem?_push_lt hb, Array.getElem?_eq_getElem hb]⟩, fun E' hE' => ?_⟩
  have hb := hE' W.heap.size _ (Nat.le_refl _) (show (W.alloc (.cells ((Lib.splitB ⟨⟨[32]⟩⟩ 0 (Lib.countB s ⟨⟨[32]⟩⟩) s).map Value.string).toArray 9)).heap[W.heap.size]? = _ from by simp only [World.alloc]; rw [Array.getElem?_push_size])
  show AE.RAV E' true (.l 1 es) (.slice (some ⟨W.heap.size, 0, none⟩) (Lib.countB s ⟨⟨[32]⟩⟩ + 1) (Lib.countB s ⟨⟨[32]⟩⟩ + 1))
  rw [← hes]
  refine .l _ 1 es W.heap.size 0 es.length _ 9 _ hb (fun e hm => ?_) (by simp [hlen, hes]) (Nat.le_refl _) (by rw [hes]; simp only [maxLen]; omega) (fun i u hi hu => ?_) (fun i j e x u h2 h3 h4 => ?_)
  · rw [he, sl_eq] at hm
    obtain ⟨w, _, rfl⟩ := List.mem_map.1 hm
    rfl
  · simp only [List.getElem?_toArray, List.getElem?_map] at hu
    obtain ⟨w, _, rfl⟩ := Option.map_eq_some_iff.1 hu
    rfl
  · rw [he, sl_eq, List.getElem?_map, pcs_eq] at h2
    obtain ⟨w, hw, rfl⟩ := Option.map_eq_some_iff.1 h2
    match j with
    | 0 =>
      simp at h3
      subst h3
      simp only [List.getElem?_toArray, List.getElem?_map] at h4
      rw [show 0 + i * 1 + 0 = i by omega, hw] at h4
      simp at h4
      subst h4
      exact .v _ _ rfl
    | j + 1 => simp at h3
end Go.Proofs.YtjbnffclpebkkaaDoor
