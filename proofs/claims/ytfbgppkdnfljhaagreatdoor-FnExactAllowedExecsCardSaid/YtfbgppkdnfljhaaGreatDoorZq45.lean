/-
  Models that are changed. Condition: not too many numbers were taken.
-/
import Derived.Test.YtfbgppkdnfljhaaGreatDoorZq42
import Derived.Test.YtfbgppkdnfljhaaGreatDoorZq43
set_option maxHeartbeats 6400000
set_option maxRecDepth 100000
namespace Go.Proofs.YtfbgppkdnfljhaaGreatDoor
open Go.RowKit
end Go.Proofs.YtfbgppkdnfljhaaGreatDoor
namespace Go.Proofs.YtfbgppkdnfljhaaGreatDoor
open Go.RowKit
theorem LocR.setOwn {α:Type} {E:El α} {T:TypeId} {lo hi base:Nat} {w:World} {v:Value} {xs:List α} {φ:World→Prop} (h:LocR T lo hi w φ) (ho:Own E T w base v xs) {g:Nat} (hg:v.ownBlock=some g) (j:Nat) (u:Value):LocR T lo hi (w.setCell ⟨g,j,none⟩ u) φ:=
 h.step (by simp) fun k ob _ _ h5 h6=>(heap_setCell_other w ⟨g,j,none⟩ k u (fun e=>by
  obtain ⟨a,ha⟩:=ho.typed hg
  have e2:k=g:=e
  rw [e2,ha] at h5
  exact h6 a _ (Option.some.inj h5).symm)).trans h5
end Go.Proofs.YtfbgppkdnfljhaaGreatDoor