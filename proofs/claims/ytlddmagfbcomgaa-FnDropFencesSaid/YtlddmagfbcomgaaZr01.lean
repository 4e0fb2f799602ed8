/-
  Contracts of the library laid at this program, in plain words (written by the shelf's own command). No condition.
-/
import Derived.Shelf.SlSortCmp.Whole1
import Derived.Ground.SlsfProg
import Derived.Test.YtlddmagfbcomgaaProg
set_option maxHeartbeats 6400000
set_option maxRecDepth 100000
namespace Go.Proofs.Ytlddmagfbcomgaa
open Go.Proofs Go.Shelf
def Try.laysSF_ren:Go.Shelf.Ren:=⟨fun | 6=>54 | 15=>62 | 14=>61 | 28=>74 | 29=>75 | 20=>66 | 21=>67 | 22=>68 | 23=>69 | 24=>70 | 25=>71 | 26=>72 | 27=>73 | 46=>77 | 47=>78 | 48=>79 | 49=>80 | 50=>81 | 57=>82 | n=>n,fun | 22=>30 | 24=>43 | 25=>89 | 3=>3 | 39=>95 | 0=>0 | 53=>108 | 55=>110 | 4=>4 | 46=>101 | 45=>100 | 50=>105 | 5=>5 | 9=>9 | 66=>112 | 70=>116 | 76=>118 | 77=>119 | n=>n,fun | n=>n⟩
theorem Try.laysSF:Go.Proofs.SlLaysF.n6 Try.prog Try.laysSF_ren:={
 mixed:=by kernel_rfl
 f6:=⟨Try.f54.name,by decide,Try.func54.trans (congrArg some (by kernel_rfl))⟩
 f14:=⟨Try.f61.name,by decide,Try.func61.trans (congrArg some (by kernel_rfl))⟩
 f15:=Try.func62.trans (congrArg some (by kernel_rfl))
 f20:=⟨Try.f66.name,by decide,Try.func66.trans (congrArg some (by kernel_rfl))⟩
 f21:=⟨Try.f67.name,by decide,Try.func67.trans (congrArg some (by kernel_rfl))⟩
 f22:=⟨Try.f68.name,by decide,Try.func68.trans (congrArg some (by kernel_rfl))⟩
 f23:=⟨Try.f69.name,by decide,Try.func69.trans (congrArg some (by kernel_rfl))⟩
 f24:=⟨Try.f70.name,by decide,Try.func70.trans (congrArg some (by kernel_rfl))⟩
 f25:=⟨Try.f71.name,by decide,Try.func71.trans (congrArg some (by kernel_rfl))⟩
 f26:=⟨Try.f72.name,by decide,Try.func72.trans (congrArg some (by kernel_rfl))⟩
 f27:=⟨Try.f73.name,by decide,Try.func73.trans (congrArg some (by kernel_rfl))⟩
 f28:=Try.func74.trans (congrArg some (by kernel_rfl))
 f29:=Try.func75.trans (congrArg some (by kernel_rfl))
 f46:=⟨Try.f77.name,by decide,Try.func77.trans (congrArg some (by kernel_rfl))⟩
 f47:=Try.func78.trans (congrArg some (by kernel_rfl))
 f48:=Try.func79.trans (congrArg some (by kernel_rfl))
 f49:=⟨Try.f80.name,by decide,Try.func80.trans (congrArg some (by kernel_rfl))⟩
 f50:=⟨Try.f81.name,by decide,Try.func81.trans (congrArg some (by kernel_rfl))⟩
 f57:=⟨Try.f82.name,by decide,Try.func82.trans (congrArg some (by kernel_rfl))⟩
 t0:=Try.underlying0
 a0:=Try.isAgg0
 z0:=Try.sizeOf0
 v0:=Try.zeroValue0
 t3:=Try.underlying3
 a3:=Try.isAgg3
 z3:=Try.sizeOf3
 v3:=Try.zeroValue3
 t4:=Try.underlying4
 a4:=Try.isAgg4
 z4:=Try.sizeOf4
 v4:=Try.zeroValue4
 t5:=Try.underlying5
 a5:=Try.isAgg5
 z5:=Try.sizeOf5
 v5:=Try.zeroValue5
 t9:=Try.underlying9
 a9:=Try.isAgg9
 z9:=Try.sizeOf9
 v9:=Try.zeroValue9
 t22:=Try.underlying30
 a22:=Try.isAgg30
 z22:=Try.sizeOf30
 v22:=Try.zeroValue30
 a24:=Try.isAgg43
 z24:=Try.sizeOf43
 t25:=Try.underlying89
 a25:=Try.isAgg89
 z25:=Try.sizeOf89
 v25:=Try.zeroValue89
 t39:=Try.underlying95
 a39:=Try.isAgg95
 z39:=Try.sizeOf95
 v39:=Try.zeroValue95
 t45:=Try.underlying100
 a45:=Try.isAgg100
 z45:=Try.sizeOf100
 v45:=Try.zeroValue100
 t46:=Try.underlying101
 a46:=Try.isAgg101
 z46:=Try.sizeOf101
 v46:=Try.zeroValue101
 t50:=Try.underlying105
 a50:=Try.isAgg105
 z50:=Try.sizeOf105
 v50:=Try.zeroValue105
 t53:=Try.underlying108
 a53:=Try.isAgg108
 z53:=Try.sizeOf108
 v53:=Try.zeroValue108
 t55:=Try.underlying110
 a55:=Try.isAgg110
 z55:=Try.sizeOf110
 v55:=Try.zeroValue110
 t66:=Try.underlying112
 a66:=Try.isAgg112
 z66:=Try.sizeOf112
 v66:=Try.zeroValue112
 t70:=Try.underlying116
 a70:=Try.isAgg116
 z70:=Try.sizeOf116
 v70:=Try.zeroValue116
 t76:=Try.underlying118
 a76:=Try.isAgg118
 z76:=Try.sizeOf118
 v76:=Try.zeroValue118
 t77:=Try.underlying119
 a77:=Try.isAgg119
 z77:=Try.sizeOf119
 v77:=Try.zeroValue119 }
end Go.Proofs.Ytlddmagfbcomgaa