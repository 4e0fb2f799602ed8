/-
  The relation of an expression, in the program and in the reference. Condition: the candidate is one of a valid program, the expression is valid.
-/
import Derived.Test.YtfbgppkdnfljhaaDoorZx11
import Derived.Test.YtfbgppkdnfljhaaDoorZx12
import Derived.Test.YtfbgppkdnfljhaaDoorZx00
import Derived.Test.YtfbgppkdnfljhaaDoorZx10
import Derived.Test.YtfbgppkdnfljhaaDoorZx09
import Derived.Test.YtfbgppkdnfljhaaDoorZx13
import Derived.Test.YtfbgppkdnfljhaaDoorZx06
set_option maxHeartbeats 6400000
set_option maxRecDepth 100000
namespace Go.Proofs.YtfbgppkdnfljhaaDoor
open Go.RowKit
end Go.Proofs.YtfbgppkdnfljhaaDoor
namespace Go.Proofs.YtfbgppkdnfljhaaDoor
open Go.RowKit
end Go.Proofs.YtfbgppkdnfljhaaDoor
namespace Go.Proofs.YtfbgppkdnfljhaaDoor
open Go.RowKit
end Go.Proofs.YtfbgppkdnfljhaaDoor
namespace Go.Proofs.YtfbgppkdnfljhaaDoor
open Go.RowKit
end Go.Proofs.YtfbgppkdnfljhaaDoor
namespace Go.Proofs.YtfbgppkdnfljhaaDoor
open Go.RowKit
end Go.Proofs.YtfbgppkdnfljhaaDoor
namespace Go.Proofs.YtfbgppkdnfljhaaDoor
open Go.RowKit
end Go.Proofs.YtfbgppkdnfljhaaDoor
namespace Go.Proofs.YtfbgppkdnfljhaaDoor
open Go.RowKit
theorem bytes_inj {a b:ByteArray} (h:a.toList=b.toList):a=b:=by
 rw [ByteArray.toList_eq,ByteArray.toList_eq] at h
 cases a;cases b;simp_all
theorem name_at {nm:ByteArray} (hn:isName nm=true):nameTab[nameId nm]? = some nm:=by
 unfold isName at hn
 have hlt:nameId nm < nameTab.length:=List.findIdx_lt_length.2 (by simpa using (List.any_eq_true.1 hn):∃ x∈nameTab,(nm.toList==x.toList)=true)
 have h1:(nm.toList==(nameTab[nameId nm]'hlt).toList)=true:=List.findIdx_getElem (xs:=nameTab) (p:=fun s:ByteArray=>nm.toList==s.toList) (w:=hlt)
 have h2:nm=nameTab[nameId nm]'hlt:=bytes_inj (beq_iff_eq.1 h1)
 rw [List.getElem?_eq_getElem hlt]
 exact congrArg some h2.symm
end Go.Proofs.YtfbgppkdnfljhaaDoor
namespace Go.Proofs.YtfbgppkdnfljhaaDoor
open Go.RowKit
end Go.Proofs.YtfbgppkdnfljhaaDoor
namespace Go.Proofs.YtfbgppkdnfljhaaDoor
open Go.RowKit
end Go.Proofs.YtfbgppkdnfljhaaDoor
namespace Go.Proofs.YtfbgppkdnfljhaaDoor
open Go.RowKit
theorem node_cases {c:Re} (h:nodeE c=true):(c.op=1∧isName c.nm=true)∨((c.op=6∨c.op=7)∧∃ k,c.kids=[k])∨((c.op=2∨c.op=3∨c.op=4∨c.op=5)∧∃ k k',c.kids=[k,k']):=by
 unfold nodeE nodeO at h
 simp only [Bool.and_eq_true,beq_iff_eq] at h
 obtain ⟨h1,h2, -⟩:=h
 unfold kidsO at h1
 split at h1
 ·rename_i e
  exact .inl ⟨e,by rw [← h2];simp [e]⟩
 ·split at h1
  ·rename_i e
   refine .inr (.inr ⟨e, ?_⟩)
   match hk:c.kids,h1 with
   | [k,k'],_=>exact ⟨k,k',rfl⟩
   | [],h1=>simp at h1
   | [_],h1=>simp at h1
   | _ :: _ :: _ :: _,h1=>simp at h1;omega
  ·split at h1
   ·rename_i e
    refine .inr (.inl ⟨e, ?_⟩)
    match hk:c.kids,h1 with
    | [k],_=>exact ⟨k,rfl⟩
    | [],h1=>simp at h1
    | _ :: _ :: _,h1=>simp at h1;omega
   ·omega
end Go.Proofs.YtfbgppkdnfljhaaDoor