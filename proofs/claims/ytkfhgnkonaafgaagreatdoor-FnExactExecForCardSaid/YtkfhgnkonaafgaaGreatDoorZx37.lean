/-
  What a mutation of an expression asks: the expression's parts, opened and built again; the copy's region. No condition.
-/
import Derived.Test.YtkfhgnkonaafgaaGreatDoorZx35
import Derived.Test.YtkfhgnkonaafgaaGreatDoorZx25
import Derived.Test.YtkfhgnkonaafgaaGreatDoorZx04
import Derived.Test.YtkfhgnkonaafgaaGreatDoorZx30
import Derived.Test.YtkfhgnkonaafgaaGreatDoorZx05
import Derived.Test.YtkfhgnkonaafgaaGreatDoorZx15
import Derived.Test.YtkfhgnkonaafgaaGreatDoorZx18
import Derived.Test.YtkfhgnkonaafgaaGreatDoorZx19
import Derived.Test.YtkfhgnkonaafgaaGreatDoorZx29
set_option maxHeartbeats 6400000
set_option maxRecDepth 100000
namespace Go.Proofs.YtkfhgnkonaafgaaGreatDoor
open Go.RowKit
end Go.Proofs.YtkfhgnkonaafgaaGreatDoor
namespace Go.Proofs.YtkfhgnkonaafgaaGreatDoor
open Go.RowKit
def PhiM (d:Dd) (W:World) (u:Us) (r:Ru):Prop:=u.kind=r.kind∧u.op=r.e.op∧u.nm=r.e.nm∧OwnR 75 W (fun q=>d.lo≤q∧q < d.hi) u.s r.e.kids
abbrev OwnM (w:World) (base:Nat) (v:Value) (m:List Ru):Prop:=OwnF UsE 77 Rany PhiM w base v m
theorem OwnR.keepT {T:TypeId} {w w':World} {S:Nat→Prop} {s:Slc} {ks:List Re} (h:OwnR T w S s ks) (hk:∀ q a,S q→w.heap[q]? = some (.cells a T (0,0))→w'.heap[q]? = some (.cells a T (0,0))):OwnR T w' S s ks:=by
 induction h with
 | nil=>exact .nil
 | node C h1 h2 h3 h4 h5 h6 h7 h8 ih =>
  rename_i S g n cap us ks
  refine .node C h1 ?_ h3 h4 h5 h6 h7 (fun i u k hu hkk=>ih i u k hu hkk (fun q a hq1 hq2=>hk q a (h4 i q hq1) hq2))
  refine ⟨h2.1, ?_⟩
  rcases h2.2 with ⟨hn,_⟩ | ⟨g',cap',cur,hv,hb1,hgg,rest⟩
  ·simp at hn
  ·simp only [Value.slice.injEq,Option.some.injEq,Addr.mk.injEq,and_true] at hv
   obtain ⟨rfl,rfl,rfl⟩:=hv
   exact .inr ⟨g,cap,cur,rfl,hb1,hk g cur h3 hgg,rest⟩
theorem OwnR.loc {U T:TypeId} (hT:U≠T) {lo hi:Nat} {w:World} {s:Slc} {ks:List Re} (h:OwnR U w (fun q=>lo≤q∧q < hi) s ks) (hb:hi≤w.heap.size):LocR T lo hi w (fun W=>OwnR U W (fun q=>lo≤q∧q < hi) s ks):=
 ⟨h,hb,fun w' k=>h.keepT fun q a hq he=>k q _ hq.1 hq.2 he (fun a' fz e=>by simp at e;exact hT e.2.1)⟩
theorem OwnR.locM {lo hi:Nat} {w:World} {s:Slc} {r:Ru} (h:OwnR 75 w (fun q=>lo≤q∧q < hi) s r.e.kids) (hb:hi≤w.heap.size):LocR 77 lo hi w (fun W=>PhiM ⟨lo,hi,[]⟩ W ⟨r.kind,r.e.op,r.e.nm,s⟩ r):=
 (h.loc (T:=77) (by decide) hb).map fun _ h=>⟨rfl,rfl,rfl,h⟩
theorem OwnM.rep {w:World} {base:Nat} {a:Option Addr} {n c:Nat} {m:List Ru} (h:OwnM w base (.slice a n c) m):RepM base w ⟨a,n,c⟩ m:=by
 obtain ⟨us,ds,h⟩:=h
 refine ⟨us,h.lu,h.own.rep, ?_,fun i u r hu hr => ?_⟩
 ·rcases h.own.shape with ⟨h1,h0⟩ | ⟨g,cap,h1,h2,_⟩
  ·exact .inl h0
  ·simp only [Value.slice.injEq] at h1;exact .inr fun b o e=>by rw [h1.1] at e;simp at e;rw [← e.1];exact h2
 ·obtain ⟨d,hd⟩:=get_of_lt (xs:=ds) (k:=i) (by rw [h.ld,← h.lu];exact (List.getElem?_eq_some_iff.1 hu).1)
  obtain ⟨r1,r2⟩:=h.rows i u d r hu hd hr
  obtain ⟨e1,e2,e3,e4⟩:=r2.now
  exact ⟨e1,e2,e3,e4.rep fun q hq=>Nat.le_trans r1 hq.1⟩
theorem OwnM.len {w:World} {base:Nat} {a:Option Addr} {n c:Nat} {m:List Ru} (h:OwnM w base (.slice a n c) m):m.length=n:=by
 have:=h.rep.open.1;simpa using this.symm
end Go.Proofs.YtkfhgnkonaafgaaGreatDoor
namespace Go.Proofs.YtkfhgnkonaafgaaGreatDoor
open Go.RowKit
end Go.Proofs.YtkfhgnkonaafgaaGreatDoor
namespace Go.Proofs.YtkfhgnkonaafgaaGreatDoor
open Go.RowKit
section
variable {w WB A0 W : World} {b : Nat} {a : Option Addr} {c : Nat} {xs : List Int} {p2 : Int} {b5 : Nat} {o : Int} {nm : ByteArray} {v : Slc} {us : List Rs} {ks : List Re} {C : Nat → Nat → Prop} {c3 c4 c5 : Bool}
    {pp o1 : Int} {n1 : ByteArray} {s1 : Slc} {ks1 : List Re} {S1 : Nat → Prop} {G : Nat} {v' : Slc}
end
end Go.Proofs.YtkfhgnkonaafgaaGreatDoor