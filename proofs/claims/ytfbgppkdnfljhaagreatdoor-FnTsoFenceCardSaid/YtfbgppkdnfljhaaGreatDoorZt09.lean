/-
  The laws' own functions on expressions of relations: copy. No condition but bounds on sizes.
-/
import Derived.Test.YtfbgppkdnfljhaaGreatDoorZt04
import Derived.Test.YtfbgppkdnfljhaaGreatDoorZt06
import Derived.Test.YtfbgppkdnfljhaaGreatDoorZt07
set_option maxHeartbeats 6400000
set_option maxRecDepth 100000
namespace Go.Proofs.YtfbgppkdnfljhaaGreatDoor
open Go.RowKit
end Go.Proofs.YtfbgppkdnfljhaaGreatDoor
namespace Go.Proofs.YtfbgppkdnfljhaaGreatDoor
open Go.RowKit
def Re.wt:Re→Nat
 | .mk _ p ks=>p.size+(ks.length+(ks.attach.map fun ⟨k,_⟩=>k.wt).sum)
termination_by c=>SizeOf.sizeOf c
decreasing_by
 have:=List.sizeOf_lt_of_mem ‹_›
 simp;omega
def wtR (ks:List Re):Nat:=(ks.map fun k=>k.wt+1).sum
theorem Re.wt_eq (c:Re):c.wt=c.nm.size+wtR c.kids:=by
 cases c with
 | mk o p ks =>
  rw [Re.wt,Re.kids,Re.nm]
  congr 1
  have:(ks.attach.map fun k=>k.1.wt)=ks.map fun k=>k.wt:=by
   rw [List.attach_map_val (l:=ks) (f:=fun k=>k.wt)]
  show ks.length+(ks.attach.map fun k=>k.1.wt).sum=_
  rw [this]
  unfold wtR
  clear this
  induction ks with
  | nil=>rfl
  | cons k ks ih=>simp;omega
theorem descR_le_wtR:∀ ks:List Re,descR ks≤wtR ks:=Re.all (by
 intro ks ih
 unfold descR wtR
 induction ks with
 | nil=>simp
 | cons k ks ih2 =>
  simp only [List.map_cons,List.sum_cons]
  have h1:=ih k (by simp)
  have h2:=ih2 (fun c hc=>ih c (by simp [hc]))
  rw [Re.desc_eq,Re.wt_eq];omega)
end Go.Proofs.YtfbgppkdnfljhaaGreatDoor
namespace Go.Proofs.YtfbgppkdnfljhaaGreatDoor
open Go.RowKit
theorem Tryz.infoRel:(Tryz.prog.info? 52).map (fun i=>(i.zero,i.size,i.bytes))=some (some (.agg #[.int .i64 0, .string ⟨#[]⟩, .slice none 0 0]),3,48):=by kernel_rfl
end Go.Proofs.YtfbgppkdnfljhaaGreatDoor