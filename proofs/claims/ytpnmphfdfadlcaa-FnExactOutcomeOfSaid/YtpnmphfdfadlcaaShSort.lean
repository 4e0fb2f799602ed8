/-
  Contracts of the library laid at this program, in plain words (written by the shelf's own command). No condition.
-/
import Derived.Shelf.Sort.Plain
import Derived.Ground.NamesProg
import Derived.Test.YtpnmphfdfadlcaaProg
namespace Go.Proofs.Ytpnmphfdfadlcaa
open Go.Proofs Go.Shelf
def Try.lays189_ren : Go.Shelf.Ren := ⟨fun | 189 => 203 | 125 => 224 | 257 => 223 | 128 => 240 | 129 => 241 | 294 => 231 | 295 => 232 | 296 => 233 | 297 => 234 | 298 => 235 | 299 => 236 | 216 => 237 | 300 => 238 | 301 => 239 | 328 => 244 | 329 => 245 | 330 => 246 | 331 => 247 | 332 => 248 | 215 => 249 | 343 => 251 | n => n, fun | 28 => 36 | 3 => 3 | 46 => 111 | 0 => 0 | 51 => 170 | 53 => 172 | 4 => 4 | 183 => 222 | 182 => 221 | 131 => 194 | 5 => 5 | 9 => 9 | 218 => 229 | 222 => 233 | 228 => 236 | 229 => 237 | n => n, fun | n => n⟩
theorem Try.lays189 : Go.Proofs.Lays.n189 Try.prog Try.lays189_ren := {
  mixed := by kernel_rfl
  f125 := Try.func224.trans (congrArg some (by kernel_rfl))
  f128 := Try.func240.trans (congrArg some (by kernel_rfl))
  f129 := Try.func241.trans (congrArg some (by kernel_rfl))
  f189 := Try.func203.trans (congrArg some (by kernel_rfl))
  f215 := Try.func249.trans (congrArg some (by kernel_rfl))
  f216 := Try.func237.trans (congrArg some (by kernel_rfl))
  f257 := Try.func223.trans (congrArg some (by kernel_rfl))
  f294 := Try.func231.trans (congrArg some (by kernel_rfl))
  f295 := Try.func232.trans (congrArg some (by kernel_rfl))
  f296 := Try.func233.trans (congrArg some (by kernel_rfl))
  f297 := Try.func234.trans (congrArg some (by kernel_rfl))
  f298 := Try.func235.trans (congrArg some (by kernel_rfl))
  f299 := Try.func236.trans (congrArg some (by kernel_rfl))
  f300 := Try.func238.trans (congrArg some (by kernel_rfl))
  f301 := Try.func239.trans (congrArg some (by kernel_rfl))
  f328 := Try.func244.trans (congrArg some (by kernel_rfl))
  f329 := Try.func245.trans (congrArg some (by kernel_rfl))
  f330 := Try.func246.trans (congrArg some (by kernel_rfl))
  f331 := Try.func247.trans (congrArg some (by kernel_rfl))
  f332 := Try.func248.trans (congrArg some (by kernel_rfl))
  f343 := Try.func251.trans (congrArg some (by kernel_rfl))
  t0 := Try.underlying0
  a0 := Try.isAgg0
  z0 := Try.sizeOf0
  v0 := Try.zeroValue0
  t3 := Try.underlying3
  a3 := Try.isAgg3
  z3 := Try.sizeOf3
  v3 := Try.zeroValue3
  t4 := Try.underlying4
  a4 := Try.isAgg4
  z4 := Try.sizeOf4
  v4 := Try.zeroValue4
  t5 := Try.underlying5
  a5 := Try.isAgg5
  z5 := Try.sizeOf5
  v5 := Try.zeroValue5
  t9 := Try.underlying9
  a9 := Try.isAgg9
  z9 := Try.sizeOf9
  v9 := Try.zeroValue9
  t28 := Try.underlying36
  a28 := Try.isAgg36
  z28 := Try.sizeOf36
  v28 := Try.zeroValue36
  t46 := Try.underlying111
  a46 := Try.isAgg111
  z46 := Try.sizeOf111
  v46 := Try.zeroValue111
  t51 := Try.underlying170
  a51 := Try.isAgg170
  z51 := Try.sizeOf170
  v51 := Try.zeroValue170
  t53 := Try.underlying172
  a53 := Try.isAgg172
  z53 := Try.sizeOf172
  v53 := Try.zeroValue172
  t131 := Try.underlying194
  a131 := Try.isAgg194
  z131 := Try.sizeOf194
  v131 := Try.zeroValue194
  t182 := Try.underlying221
  a182 := Try.isAgg221
  z182 := Try.sizeOf221
  v182 := Try.zeroValue221
  t183 := Try.underlying222
  a183 := Try.isAgg222
  z183 := Try.sizeOf222
  v183 := Try.zeroValue222
  t218 := Try.underlying229
  a218 := Try.isAgg229
  z218 := Try.sizeOf229
  v218 := Try.zeroValue229
  t222 := Try.underlying233
  a222 := Try.isAgg233
  z222 := Try.sizeOf233
  v222 := Try.zeroValue233
  t228 := Try.underlying236
  a228 := Try.isAgg236
  z228 := Try.sizeOf236
  v228 := Try.zeroValue236
  t229 := Try.underlying237
  a229 := Try.isAgg237
  z229 := Try.sizeOf237
  v229 := Try.zeroValue237 }
end Go.Proofs.Ytpnmphfdfadlcaa
