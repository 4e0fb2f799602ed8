/-
  Expressions in memory that a call made: every part in a block of its own. No condition.
-/
import Derived.Test.YtfbgppkdnfljhaaDoorZn06
import Derived.Test.YtfbgppkdnfljhaaDoorZn05
import Derived.Test.YtfbgppkdnfljhaaDoorZn04
import Derived.Test.YtfbgppkdnfljhaaDoorZn00
set_option maxHeartbeats 6400000
set_option maxRecDepth 100000
namespace Go.Proofs.YtfbgppkdnfljhaaDoor
section
variable {es es' : List Ev}
end
end Go.Proofs.YtfbgppkdnfljhaaDoor
namespace Go.Proofs.YtfbgppkdnfljhaaDoor
open Go.RowKit
end Go.Proofs.YtfbgppkdnfljhaaDoor
namespace Go.Proofs.YtfbgppkdnfljhaaDoor
open Go.RowKit
inductive OwnR (T:TypeId) (w:World):(Nat→Prop)→Slc→List Re→Prop
 | nil {S:Nat→Prop}:OwnR T w S ⟨none,0,0⟩ []
 | node {S:Nat→Prop} {g n cap:Nat} {us:List Rs} {ks:List Re} (C:Nat→Nat→Prop) (h1:us.length=ks.length) (h2:Own RsE T w 0 (.slice (some ⟨g,0,none⟩) n cap) us) (h3:S g)
  (h4:∀ i q,C i q→S q) (h5:∀ i,¬ C i g) (h6:∀ i j q,C i q→C j q→i=j)
  (h7:∀ (i:Nat) (u:Rs) (k:Re),us[i]? = some u→ks[i]? = some k→u.op=k.op∧u.nm=k.nm)
  (h8:∀ (i:Nat) (u:Rs) (k:Re),us[i]? = some u→ks[i]? = some k→OwnR T w (C i) u.s k.kids) :
  OwnR T w S ⟨some ⟨g,0,none⟩,n,cap⟩ ks
theorem OwnR.keep {T:TypeId} {w w':World} {S:Nat→Prop} {s:Slc} {ks:List Re} (h:OwnR T w S s ks) (hk:∀ q,S q→q < w.heap.size→w'.heap[q]? = w.heap[q]?):OwnR T w' S s ks:=by
 induction h with
 | nil=>exact .nil
 | node C h1 h2 h3 h4 h5 h6 h7 h8 ih =>
  rename_i S g n cap us ks
  have hg:=World.ownsRow.lt h2 g rfl
  refine .node C h1 ?_ h3 h4 h5 h6 h7 (fun i u k hu hkk=>ih i u k hu hkk (fun q hq1 hq2=>hk q (h4 i q hq1) hq2))
  refine ⟨h2.1, ?_⟩
  rcases h2.2 with ⟨hn,_⟩ | ⟨g',cap',cur,hv,hb1,hgg,rest⟩
  ·simp at hn
  ·simp only [Value.slice.injEq,Option.some.injEq,Addr.mk.injEq,and_true] at hv
   obtain ⟨rfl,rfl,rfl⟩:=hv
   exact .inr ⟨g,cap,cur,rfl,hb1,(hk g h3 hg.2).trans hgg,rest⟩
theorem OwnR.bel {T:TypeId} {w w':World} {S:Nat→Prop} {s:Slc} {ks:List Re} (h:OwnR T w S s ks) (hb:Below w.heap.size w w'):OwnR T w' S s ks:=h.keep fun q _ hq=>hb.block q hq
theorem OwnR.set {T:TypeId} {w:World} {S:Nat→Prop} {s:Slc} {ks:List Re} (h:OwnR T w S s ks) {g:Nat} (hg:¬ S g) (j:Nat) (u:Value):OwnR T (w.setCell ⟨g,j,none⟩ u) S s ks:=
 h.keep fun q hq _=>heap_setCell_other w ⟨g,j,none⟩ q u (show q≠g from fun e=>hg (e ▸ hq))
theorem OwnR.wide {T:TypeId} {w:World} {S S':Nat→Prop} {s:Slc} {ks:List Re} (h:OwnR T w S s ks) (hs:∀ q,S q→S' q):OwnR T w S' s ks:=by
 cases h with
 | nil=>exact .nil
 | node C h1 h2 h3 h4 h5 h6 h7 h8=>exact .node C h1 h2 (hs _ h3) (fun i q hq=>hs q (h4 i q hq)) h5 h6 h7 h8
theorem OwnR.rep {T:TypeId} {w:World} {S:Nat→Prop} {s:Slc} {ks:List Re} {lo:Nat} (h:OwnR T w S s ks) (hl:∀ q,S q→lo≤q):RepRk lo w s ks:=by
 induction h with
 | nil=>exact RepRk.nil _ _
 | node C h1 h2 h3 h4 h5 h6 h7 h8 ih =>
  rename_i S g n cap us ks
  have hn:=h2.len
  subst hn
  refine ⟨us,h1,h2.rep, .inr fun b o e => ?_,fun i u k hu hkk => ?_⟩
  ·simp only [Option.some.injEq,Addr.mk.injEq,and_true] at e;rw [← e.1];exact hl g h3
  ·have hr:=ih i u k hu hkk (fun q hq=>hl q (h4 i q hq))
   obtain ⟨e1,e2⟩:=h7 i u k hu hkk
   have e:=hr.cond u.op u.nm
   rw [e1,e2,Re.eta] at e
   rw [← e1,← e2] at e
   exact e
theorem OwnR.one {T:TypeId} {w:World} {S S':Nat→Prop} {s:Slc} {ks:List Re} (h:OwnR T w S s ks) (hS:∀ q,S q→q < w.heap.size) (hs:∀ q,S q→S' q) (hg:S' w.heap.size) (o:Int) (p:ByteArray) :
 OwnR T (w.alloc (.cells #[.int .i64 o, .string p, .slice s.a s.n s.cap] T)) S' ⟨some ⟨w.heap.size,0,none⟩,1,1⟩ [.mk o p ks]:=by
 refine .node (us:=[⟨o,p,s⟩]) (fun i q=>i=0∧S q) rfl ?_ hg (fun i q hq=>hs q hq.2) (fun i hq=>by have:=hS _ hq.2;omega) (fun i j q a b=>by omega) ?_ ?_
 ·exact ⟨rfl, .inr ⟨w.heap.size,1,#[.int .i64 o, .string p, .slice s.a s.n s.cap],rfl,Nat.zero_le _,heap_alloc_new w _,Nat.le_refl _,by unfold maxLen;omega,rfl,rfl⟩⟩
 ·intro i u k hu hk
  cases i with
  | zero=>simp at hu hk;subst hu;subst hk;exact ⟨rfl,rfl⟩
  | succ i=>simp at hu
 ·intro i u k hu hk
  cases i with
  | zero=>simp at hu hk;subst hu;subst hk;exact ((h.bel (belowAlloc w _)).wide fun q hq=>⟨rfl,hq⟩)
  | succ i=>simp at hu
theorem OwnR.two {T:TypeId} {w:World} {S1 S2 S':Nat→Prop} {s s':Slc} {ks ks':List Re} (h:OwnR T w S1 s ks) (h':OwnR T w S2 s' ks') (hS1:∀ q,S1 q→q < w.heap.size) (hS2:∀ q,S2 q→q < w.heap.size) (hd:∀ q,S1 q→S2 q→False) (hs1:∀ q,S1 q→S' q) (hs2:∀ q,S2 q→S' q) (hg:S' w.heap.size) (o o':Int) (p p':ByteArray) :
 OwnR T (w.alloc (.cells #[.int .i64 o, .string p, .slice s.a s.n s.cap, .int .i64 o', .string p', .slice s'.a s'.n s'.cap] T)) S' ⟨some ⟨w.heap.size,0,none⟩,2,2⟩ [.mk o p ks, .mk o' p' ks']:=by
 refine .node (us:=[⟨o,p,s⟩,⟨o',p',s'⟩]) (fun i q=>(i=0∧S1 q)∨(i=1∧S2 q)) rfl ?_ hg (fun i q hq => ?_) (fun i hq => ?_) (fun i j q a b => ?_) ?_ ?_
 ·exact ⟨rfl, .inr ⟨w.heap.size,2,_,rfl,Nat.zero_le _,heap_alloc_new w _,Nat.le_refl _,by unfold maxLen;omega,rfl,rfl⟩⟩
 ·rcases hq with ⟨_,hq⟩ | ⟨_,hq⟩
  ·exact hs1 q hq
  ·exact hs2 q hq
 ·rcases hq with ⟨_,hq⟩ | ⟨_,hq⟩
  ·have:=hS1 _ hq;omega
  ·have:=hS2 _ hq;omega
 ·rcases a with ⟨a,a2⟩ | ⟨a,a2⟩ <;> rcases b with ⟨b,b2⟩ | ⟨b,b2⟩
  ·omega
  ·exact (hd q a2 b2).elim
  ·exact (hd q b2 a2).elim
  ·omega
 ·intro i u k hu hk
  match i,hu,hk with
  | 0,hu,hk=>simp at hu hk;subst hu;subst hk;exact ⟨rfl,rfl⟩
  | 1,hu,hk=>simp at hu hk;subst hu;subst hk;exact ⟨rfl,rfl⟩
  | i+2,hu,hk=>simp at hu
 ·intro i u k hu hk
  match i,hu,hk with
  | 0,hu,hk=>simp at hu hk;subst hu;subst hk;exact (h.bel (belowAlloc w _)).wide fun q hq => .inl ⟨rfl,hq⟩
  | 1,hu,hk=>simp at hu hk;subst hu;subst hk;exact (h'.bel (belowAlloc w _)).wide fun q hq => .inr ⟨rfl,hq⟩
  | i+2,hu,hk=>simp at hu
def Made' (w w':World) (q:Nat):Prop:=w.heap.size≤q∧q < w'.heap.size
def RetPR (w:World) (r:Re × Int) (e:Ending) (w':World):Prop:=
 ∃ (o:Int) (nm:ByteArray) (ks:List Re) (s:Slc),r.1 = .mk o nm ks∧e = .returned (.tuple #[.agg #[.int .i64 o, .string nm, .slice s.a s.n s.cap], .int .i64 r.2])∧OwnR 38 w' (Made' w w') s ks∧Below w.heap.size w w'
end Go.Proofs.YtfbgppkdnfljhaaDoor