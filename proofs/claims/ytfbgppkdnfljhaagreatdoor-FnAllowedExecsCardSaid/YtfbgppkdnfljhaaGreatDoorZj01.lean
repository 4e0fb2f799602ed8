/-
  Contracts of the library laid at this program, in plain words (written by the shelf's own command). No condition.
-/
import Derived.Shelf.Sort.Plain
import Derived.Ground.NamesProg
import Derived.Test.YtfbgppkdnfljhaaGreatDoorProg
set_option maxHeartbeats 6400000
set_option maxRecDepth 100000
namespace Go.Proofs.YtfbgppkdnfljhaaGreatDoor
open Go.Proofs Go.Shelf
def Tryz.lays189_ren:Go.Shelf.Ren:=⟨fun | 189=>129 | 125=>173 | 257=>172 | 128=>229 | 129=>230 | 294=>220 | 295=>221 | 296=>222 | 297=>223 | 298=>224 | 299=>225 | 216=>226 | 300=>227 | 301=>228 | 328=>262 | 329=>263 | 330=>264 | 331=>265 | 332=>266 | 215=>267 | 343=>284 | n=>n,fun | 28=>57 | 3=>3 | 46=>204 | 0=>0 | 51=>239 | 53=>241 | 4=>4 | 183=>233 | 182=>232 | 131=>55 | 5=>5 | 9=>9 | 218=>254 | 222=>258 | 228=>271 | 229=>272 | n=>n,fun | n=>n⟩
theorem Tryz.lays189:Go.Proofs.Lays.n189 Tryz.prog Tryz.lays189_ren:={
 mixed:=by kernel_rfl
 f125:=Tryz.func173.trans (congrArg some (by kernel_rfl))
 f128:=Tryz.func229.trans (congrArg some (by kernel_rfl))
 f129:=Tryz.func230.trans (congrArg some (by kernel_rfl))
 f189:=Tryz.func129.trans (congrArg some (by kernel_rfl))
 f215:=Tryz.func267.trans (congrArg some (by kernel_rfl))
 f216:=Tryz.func226.trans (congrArg some (by kernel_rfl))
 f257:=Tryz.func172.trans (congrArg some (by kernel_rfl))
 f294:=Tryz.func220.trans (congrArg some (by kernel_rfl))
 f295:=Tryz.func221.trans (congrArg some (by kernel_rfl))
 f296:=Tryz.func222.trans (congrArg some (by kernel_rfl))
 f297:=Tryz.func223.trans (congrArg some (by kernel_rfl))
 f298:=Tryz.func224.trans (congrArg some (by kernel_rfl))
 f299:=Tryz.func225.trans (congrArg some (by kernel_rfl))
 f300:=Tryz.func227.trans (congrArg some (by kernel_rfl))
 f301:=Tryz.func228.trans (congrArg some (by kernel_rfl))
 f328:=Tryz.func262.trans (congrArg some (by kernel_rfl))
 f329:=Tryz.func263.trans (congrArg some (by kernel_rfl))
 f330:=Tryz.func264.trans (congrArg some (by kernel_rfl))
 f331:=Tryz.func265.trans (congrArg some (by kernel_rfl))
 f332:=Tryz.func266.trans (congrArg some (by kernel_rfl))
 f343:=Tryz.func284.trans (congrArg some (by kernel_rfl))
 t0:=Tryz.underlying0
 a0:=Tryz.isAgg0
 z0:=Tryz.sizeOf0
 v0:=Tryz.zeroValue0
 t3:=Tryz.underlying3
 a3:=Tryz.isAgg3
 z3:=Tryz.sizeOf3
 v3:=Tryz.zeroValue3
 t4:=Tryz.underlying4
 a4:=Tryz.isAgg4
 z4:=Tryz.sizeOf4
 v4:=Tryz.zeroValue4
 t5:=Tryz.underlying5
 a5:=Tryz.isAgg5
 z5:=Tryz.sizeOf5
 v5:=Tryz.zeroValue5
 t9:=Tryz.underlying9
 a9:=Tryz.isAgg9
 z9:=Tryz.sizeOf9
 v9:=Tryz.zeroValue9
 t28:=Tryz.underlying57
 a28:=Tryz.isAgg57
 z28:=Tryz.sizeOf57
 v28:=Tryz.zeroValue57
 t46:=Tryz.underlying204
 a46:=Tryz.isAgg204
 z46:=Tryz.sizeOf204
 v46:=Tryz.zeroValue204
 t51:=Tryz.underlying239
 a51:=Tryz.isAgg239
 z51:=Tryz.sizeOf239
 v51:=Tryz.zeroValue239
 t53:=Tryz.underlying241
 a53:=Tryz.isAgg241
 z53:=Tryz.sizeOf241
 v53:=Tryz.zeroValue241
 t131:=Tryz.underlying55
 a131:=Tryz.isAgg55
 z131:=Tryz.sizeOf55
 v131:=Tryz.zeroValue55
 t182:=Tryz.underlying232
 a182:=Tryz.isAgg232
 z182:=Tryz.sizeOf232
 v182:=Tryz.zeroValue232
 t183:=Tryz.underlying233
 a183:=Tryz.isAgg233
 z183:=Tryz.sizeOf233
 v183:=Tryz.zeroValue233
 t218:=Tryz.underlying254
 a218:=Tryz.isAgg254
 z218:=Tryz.sizeOf254
 v218:=Tryz.zeroValue254
 t222:=Tryz.underlying258
 a222:=Tryz.isAgg258
 z222:=Tryz.sizeOf258
 v222:=Tryz.zeroValue258
 t228:=Tryz.underlying271
 a228:=Tryz.isAgg271
 z228:=Tryz.sizeOf271
 v228:=Tryz.zeroValue271
 t229:=Tryz.underlying272
 a229:=Tryz.isAgg272
 z229:=Tryz.sizeOf272
 v229:=Tryz.zeroValue272 }
end Go.Proofs.YtfbgppkdnfljhaaGreatDoor