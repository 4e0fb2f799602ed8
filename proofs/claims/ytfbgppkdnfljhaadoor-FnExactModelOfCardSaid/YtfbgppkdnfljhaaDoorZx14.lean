/-
  The laws' marking of expressions of relations. Condition: bounds on sizes.
-/
import Derived.Test.YtfbgppkdnfljhaaDoorZx08
import Derived.Test.YtfbgppkdnfljhaaDoorZx10
import Derived.Test.YtfbgppkdnfljhaaDoorZx00
import Derived.Test.YtfbgppkdnfljhaaDoorZx09
import Derived.Deep.LoopGhost
set_option maxHeartbeats 6400000
set_option maxRecDepth 100000
namespace Go.Proofs.YtfbgppkdnfljhaaDoor
open Go.RowKit
def poB (L:List Ev) (i k:Nat):Bool:=match L[i]?,L[k]? with
 | some a,some b=>decide (0≤a.t)&&((a.t==b.t)&&decide (a.i < b.i))
 | _,_=>false
def delF (n:Nat) (c po:Nat→Nat→Bool):Nat→Nat→Bool:=fAnd po (fInv (fOr (fComp n c c) (fComp n (fComp n c (fClo n (fOr c po))) c)))
def delays (p:List (List Ins)):List Int:=relOf (evAll p).length (delF (evAll p).length (confB (evAll p)) (poB (evAll p)))
end Go.Proofs.YtfbgppkdnfljhaaDoor
namespace Go.Proofs.YtfbgppkdnfljhaaDoor
open Go.RowKit
theorem Own.rs {T:TypeId} {w:World} {base g n cap:Nat} {xs:List Rs} (h:Own RsE T w base (.slice (some ⟨g,0,none⟩) n cap) xs) {k:Nat} {x:Rs} (hx:xs[k]? = some x) :
 g < w.heap.size∧w.cell? ⟨g,k * 3,none⟩=some (.int .i64 x.op)∧w.cell? ⟨g,k * 3+1,none⟩=some (.string x.nm) ∧
  w.cell? ⟨g,k * 3+2,none⟩=some (.slice x.s.a x.s.n x.s.cap)∧∀ j,w.frozen? ⟨g,j,none⟩=false:=
 ⟨(World.ownsRow.lt h g rfl).2,h.cell hx (j:=0) rfl,h.cell hx (j:=1) rfl,h.cell hx (j:=2) rfl,fun j=>h.frozen j⟩
end Go.Proofs.YtfbgppkdnfljhaaDoor
namespace Go.Proofs.YtfbgppkdnfljhaaDoor
open Go.RowKit
inductive OwnR (T:TypeId) (w:World):(Nat→Prop)→Slc→List Re→Prop
 | nil {S:Nat→Prop}:OwnR T w S ⟨none,0,0⟩ []
 | node {S:Nat→Prop} {g n cap:Nat} {us:List Rs} {ks:List Re} (C:Nat→Nat→Prop) (h1:us.length=ks.length) (h2:Own RsE T w 0 (.slice (some ⟨g,0,none⟩) n cap) us) (h3:S g)
  (h4:∀ i q,C i q→S q) (h5:∀ i,¬ C i g) (h6:∀ i j q,C i q→C j q→i=j)
  (h7:∀ (i:Nat) (u:Rs) (k:Re),us[i]? = some u→ks[i]? = some k→u.op=k.op∧u.nm=k.nm)
  (h8:∀ (i:Nat) (u:Rs) (k:Re),us[i]? = some u→ks[i]? = some k→OwnR T w (C i) u.s k.kids) :
  OwnR T w S ⟨some ⟨g,0,none⟩,n,cap⟩ ks
theorem OwnR.keep {T:TypeId} {w w':World} {S:Nat→Prop} {s:Slc} {ks:List Re} (h:OwnR T w S s ks) (hk:∀ q,S q→q < w.heap.size→w'.heap[q]? = w.heap[q]?):OwnR T w' S s ks:=by
 induction h with
 | nil=>exact .nil
 | node C h1 h2 h3 h4 h5 h6 h7 h8 ih =>
  rename_i S g n cap us ks
  have hg:=World.ownsRow.lt h2 g rfl
  refine .node C h1 ?_ h3 h4 h5 h6 h7 (fun i u k hu hkk=>ih i u k hu hkk (fun q hq1 hq2=>hk q (h4 i q hq1) hq2))
  refine ⟨h2.1, ?_⟩
  rcases h2.2 with ⟨hn,_⟩ | ⟨g',cap',cur,hv,hb1,hgg,rest⟩
  ·simp at hn
  ·simp only [Value.slice.injEq,Option.some.injEq,Addr.mk.injEq,and_true] at hv
   obtain ⟨rfl,rfl,rfl⟩:=hv
   exact .inr ⟨g,cap,cur,rfl,hb1,(hk g h3 hg.2).trans hgg,rest⟩
theorem OwnR.bel {T:TypeId} {w w':World} {S:Nat→Prop} {s:Slc} {ks:List Re} (h:OwnR T w S s ks) (hb:Below w.heap.size w w'):OwnR T w' S s ks:=h.keep fun q _ hq=>hb.block q hq
theorem OwnR.set {T:TypeId} {w:World} {S:Nat→Prop} {s:Slc} {ks:List Re} (h:OwnR T w S s ks) {g:Nat} (hg:¬ S g) (j:Nat) (u:Value):OwnR T (w.setCell ⟨g,j,none⟩ u) S s ks:=
 h.keep fun q hq _=>heap_setCell_other w ⟨g,j,none⟩ q u (show q≠g from fun e=>hg (e ▸ hq))
theorem OwnR.wide {T:TypeId} {w:World} {S S':Nat→Prop} {s:Slc} {ks:List Re} (h:OwnR T w S s ks) (hs:∀ q,S q→S' q):OwnR T w S' s ks:=by
 cases h with
 | nil=>exact .nil
 | node C h1 h2 h3 h4 h5 h6 h7 h8=>exact .node C h1 h2 (hs _ h3) (fun i q hq=>hs q (h4 i q hq)) h5 h6 h7 h8
theorem OwnR.rep {T:TypeId} {w:World} {S:Nat→Prop} {s:Slc} {ks:List Re} {lo:Nat} (h:OwnR T w S s ks) (hl:∀ q,S q→lo≤q):RepRk lo w s ks:=by
 induction h with
 | nil=>exact RepRk.nil _ _
 | node C h1 h2 h3 h4 h5 h6 h7 h8 ih =>
  rename_i S g n cap us ks
  have hn:=h2.len
  subst hn
  refine ⟨us,h1,h2.rep, .inr fun b o e => ?_,fun i u k hu hkk => ?_⟩
  ·simp only [Option.some.injEq,Addr.mk.injEq,and_true] at e;rw [← e.1];exact hl g h3
  ·have hr:=ih i u k hu hkk (fun q hq=>hl q (h4 i q hq))
   obtain ⟨e1,e2⟩:=h7 i u k hu hkk
   have e:=hr.cond u.op u.nm
   rw [e1,e2,Re.eta] at e
   rw [← e1,← e2] at e
   exact e
theorem OwnR.one {T:TypeId} {w:World} {S S':Nat→Prop} {s:Slc} {ks:List Re} (h:OwnR T w S s ks) (hS:∀ q,S q→q < w.heap.size) (hs:∀ q,S q→S' q) (hg:S' w.heap.size) (o:Int) (p:ByteArray) :
 OwnR T (w.alloc (.cells #[.int .i64 o, .string p, .slice s.a s.n s.cap] T)) S' ⟨some ⟨w.heap.size,0,none⟩,1,1⟩ [.mk o p ks]:=by
 refine .node (us:=[⟨o,p,s⟩]) (fun i q=>i=0∧S q) rfl ?_ hg (fun i q hq=>hs q hq.2) (fun i hq=>by have:=hS _ hq.2;omega) (fun i j q a b=>by omega) ?_ ?_
 ·exact ⟨rfl, .inr ⟨w.heap.size,1,#[.int .i64 o, .string p, .slice s.a s.n s.cap],rfl,Nat.zero_le _,heap_alloc_new w _,Nat.le_refl _,by unfold maxLen;omega,rfl,rfl⟩⟩
 ·intro i u k hu hk
  cases i with
  | zero=>simp at hu hk;subst hu;subst hk;exact ⟨rfl,rfl⟩
  | succ i=>simp at hu
 ·intro i u k hu hk
  cases i with
  | zero=>simp at hu hk;subst hu;subst hk;exact ((h.bel (belowAlloc w _)).wide fun q hq=>⟨rfl,hq⟩)
  | succ i=>simp at hu
theorem OwnR.two {T:TypeId} {w:World} {S1 S2 S':Nat→Prop} {s s':Slc} {ks ks':List Re} (h:OwnR T w S1 s ks) (h':OwnR T w S2 s' ks') (hS1:∀ q,S1 q→q < w.heap.size) (hS2:∀ q,S2 q→q < w.heap.size) (hd:∀ q,S1 q→S2 q→False) (hs1:∀ q,S1 q→S' q) (hs2:∀ q,S2 q→S' q) (hg:S' w.heap.size) (o o':Int) (p p':ByteArray) :
 OwnR T (w.alloc (.cells #[.int .i64 o, .string p, .slice s.a s.n s.cap, .int .i64 o', .string p', .slice s'.a s'.n s'.cap] T)) S' ⟨some ⟨w.heap.size,0,none⟩,2,2⟩ [.mk o p ks, .mk o' p' ks']:=by
 refine .node (us:=[⟨o,p,s⟩,⟨o',p',s'⟩]) (fun i q=>(i=0∧S1 q)∨(i=1∧S2 q)) rfl ?_ hg (fun i q hq => ?_) (fun i hq => ?_) (fun i j q a b => ?_) ?_ ?_
 ·exact ⟨rfl, .inr ⟨w.heap.size,2,_,rfl,Nat.zero_le _,heap_alloc_new w _,Nat.le_refl _,by unfold maxLen;omega,rfl,rfl⟩⟩
 ·rcases hq with ⟨_,hq⟩ | ⟨_,hq⟩
  ·exact hs1 q hq
  ·exact hs2 q hq
 ·rcases hq with ⟨_,hq⟩ | ⟨_,hq⟩
  ·have:=hS1 _ hq;omega
  ·have:=hS2 _ hq;omega
 ·rcases a with ⟨a,a2⟩ | ⟨a,a2⟩ <;> rcases b with ⟨b,b2⟩ | ⟨b,b2⟩
  ·omega
  ·exact (hd q a2 b2).elim
  ·exact (hd q b2 a2).elim
  ·omega
 ·intro i u k hu hk
  match i,hu,hk with
  | 0,hu,hk=>simp at hu hk;subst hu;subst hk;exact ⟨rfl,rfl⟩
  | 1,hu,hk=>simp at hu hk;subst hu;subst hk;exact ⟨rfl,rfl⟩
  | i+2,hu,hk=>simp at hu
 ·intro i u k hu hk
  match i,hu,hk with
  | 0,hu,hk=>simp at hu hk;subst hu;subst hk;exact (h.bel (belowAlloc w _)).wide fun q hq => .inl ⟨rfl,hq⟩
  | 1,hu,hk=>simp at hu hk;subst hu;subst hk;exact (h'.bel (belowAlloc w _)).wide fun q hq => .inr ⟨rfl,hq⟩
  | i+2,hu,hk=>simp at hu
def Made' (w w':World) (q:Nat):Prop:=w.heap.size≤q∧q < w'.heap.size
def RetPR (w:World) (r:Re × Int) (e:Ending) (w':World):Prop:=
 ∃ (o:Int) (nm:ByteArray) (ks:List Re) (s:Slc),r.1 = .mk o nm ks∧e = .returned (.tuple #[.agg #[.int .i64 o, .string nm, .slice s.a s.n s.cap], .int .i64 r.2])∧OwnR 38 w' (Made' w w') s ks∧Below w.heap.size w w'
end Go.Proofs.YtfbgppkdnfljhaaDoor
namespace Go.Proofs.YtfbgppkdnfljhaaDoor
open Go.RowKit
inductive MkR:Int→List Re→Int→Prop
 | nil {m:Int}:MkR m [] m
 | cons {m m1 m2:Int} {ks rest:List Re} (h1:MkR (m+1+1) ks m1) (h2:MkR m1 rest m2):MkR m (.mk m (mtB (m+1)) ks :: rest) m2
theorem MkR.snoc {m m1 m2:Int} {xs ks:List Re} (h:MkR m xs m1) (h1:MkR (m1+1+1) ks m2):MkR m (xs++[.mk m1 (mtB (m1+1)) ks]) m2:=by
 induction h with
 | nil=>exact .cons h1 .nil
 | cons a b _ ih2=>exact .cons a (ih2 h1)
theorem descR_cons (k:Re) (rest:List Re):descR (k :: rest)=descR k.kids+1+descR rest:=by
 show ((k :: rest).map fun k=>k.desc+1).sum=_
 rw [List.map_cons,List.sum_cons,Re.desc_eq];rfl
theorem MkR.le {m m':Int} {xs:List Re} (h:MkR m xs m'):m'=m+2 * (descR xs:Nat):=by
 induction h with
 | nil=>simp [descR]
 | cons a b iha ihb =>
  rw [descR_cons]
  simp only [Re.kids]
  omega
theorem MkR.pos {m q:Int} {xs:List Re} (h:MkR m xs q):m≤q:=by have:=h.le;omega
structure Turn (S:Nat→Prop) (w w':World):Prop where
 os:w'.os=w.os
 tape:w'.tape=w.tape
 output:w'.output=w.output
 size:w.heap.size≤w'.heap.size
 block:∀ k,k < w.heap.size→¬ S k→w'.heap[k]? = w.heap[k]?
theorem Turn.refl (S:Nat→Prop) (w:World):Turn S w w:=⟨rfl,rfl,rfl,Nat.le_refl _,fun _ _ _=>rfl⟩
theorem Turn.trans {S:Nat→Prop} {a b c:World} (h:Turn S a b) (k:Turn S b c):Turn S a c:=
 ⟨k.os.trans h.os,k.tape.trans h.tape,k.output.trans h.output,Nat.le_trans h.size k.size,fun q hq hs=>(k.block q (Nat.lt_of_lt_of_le hq h.size) hs).trans (h.block q hq hs)⟩
theorem Turn.weak {S S':Nat→Prop} {w w':World} (h:Turn S w w') (hs:∀ q,S q→S' q):Turn S' w w':=⟨h.os,h.tape,h.output,h.size,fun q hq hn=>h.block q hq fun e=>hn (hs q e)⟩
theorem Turn.of_below {S:Nat→Prop} {w w':World} (h:Below w.heap.size w w'):Turn S w w':=⟨h.os,h.tape,h.output,h.size,fun q hq _=>h.block q hq⟩
theorem Turn.put {S:Nat→Prop} {w:World} {g:Nat} (hg:S g) (j:Nat) (u:Value):Turn S w (w.setCell ⟨g,j,none⟩ u):=
 ⟨rfl,rfl,rfl,by simp,fun q _ hn=>heap_setCell_other w ⟨g,j,none⟩ q u (show q≠g from fun e=>hn (e ▸ hg))⟩
theorem Turn.below {S:Nat→Prop} {w w':World} (h:Turn S w w') {B:Nat} (hs:∀ q,S q→B≤q) (hB:B≤w.heap.size):Below B w w':=
 ⟨h.os,h.tape,h.output,h.size,fun q hq=>h.block q (by omega) fun e=>by have:=hs q e;omega⟩
theorem Turn.own {α:Type} {E:El α} {T:TypeId} {S:Nat→Prop} {w w':World} (h:Turn S w w') {base:Nat} {v:Value} {xs:List α} (ho:Own E T w base v xs) (hn:∀ q,v.ownBlock=some q→¬ S q):Own E T w' base v xs:=by
 refine ⟨ho.1, ?_⟩
 rcases ho.2 with hv | ⟨g,cap,cur,rfl,hb1,hgg,rest⟩
 ·exact .inl hv
 ·exact .inr ⟨g,cap,cur,rfl,hb1,(h.block g (Array.getElem?_eq_some_iff.1 hgg).1 (hn g rfl)).trans hgg,rest⟩
structure MkSr (T:TypeId) (w0 wr:World) (S:Nat→Prop) (g n cap:Nat) (C:Nat→Nat→Prop) (ks:List Re) (m:Int) (i:Nat) (q:Int) (us:List Rs) (xs:List Re):Prop where
 ul:us.length=n
 xl:xs.length=n
 own:Own RsE T wr 0 (.slice (some ⟨g,0,none⟩) n cap) us
 fld:∀ (j:Nat) (u:Rs) (k:Re),us[j]? = some u→xs[j]? = some k→u.op=k.op∧u.nm=k.nm
 kid:∀ (j:Nat) (u:Rs) (k:Re),us[j]? = some u→xs[j]? = some k→OwnR T wr (C j) u.s k.kids
 mkd:MkR m (xs.take i) q
 ds:descR (xs.take i)=descR (ks.take i)
 dr:xs.drop i=ks.drop i
 out:Turn S w0 wr
theorem set_split {β:Type} (L:List β) (i:Nat) (c:β) (j:Nat) (v:β) (hv:(L.set i c)[j]? = some v):(j=i∧v=c)∨(j≠i∧L[j]? = some v):=by
 rw [List.getElem?_set] at hv
 by_cases e:i=j
 ·subst e
  rw [if_pos rfl] at hv
  split at hv
  ·simp at hv;exact .inl ⟨rfl,hv.symm⟩
  ·simp at hv
 ·rw [if_neg e] at hv;exact .inr ⟨fun h=>e h.symm,hv⟩
theorem MkSr.step {T:TypeId} {w0 wr w3 w2:World} {S:Nat→Prop} {g n cap:Nat} {C:Nat→Nat→Prop} {ks:List Re} {m:Int} {i:Nat} {q q2:Int} {us:List Rs} {xs:List Re} (h:MkSr T w0 wr S g n cap C ks m i q us xs)
 (c3:S g) (c4:∀ i q,C i q→S q) (c5:∀ i,¬ C i g) (c6:∀ i j q,C i q→C j q→i=j) {x:Re} (hx:ks[i]? = some x) {u:Rs} (hu:us[i]? = some u) {ks2:List Re}
 (ho3:Own RsE T w3 0 (.slice (some ⟨g,0,none⟩) n cap) (us.set i ⟨q,mtB (q+1),u.s⟩)) (ht3:Turn (fun b=>b=g) wr w3)
 (hmk:MkR (q+1+1) ks2 q2) (hds:descR ks2=descR x.kids) (hown:OwnR T w2 (C i) u.s ks2) (hout:Turn (C i) w3 w2) :
 MkSr T w0 w2 S g n cap C ks m (i+1) q2 (us.set i ⟨q,mtB (q+1),u.s⟩) (xs.set i (.mk q (mtB (q+1)) ks2)):=by
 have hiu:i < us.length:=(List.getElem?_eq_some_iff.1 hu).1
 have hix:i < xs.length:=by rw [h.xl,← h.ul];exact hiu
 refine ⟨by rw [List.length_set];exact h.ul,by rw [List.length_set];exact h.xl, ?_, ?_, ?_, ?_, ?_, ?_, ?_⟩
 ·exact hout.own ho3 (fun b hb=>by simp [Value.ownBlock] at hb;subst hb;exact c5 i)
 ·intro j v k hv hk
  rcases set_split us _ _ j v hv with ⟨e1,e2⟩ | ⟨e1,e2⟩
  ·rcases set_split xs _ _ j k hk with ⟨e3,e4⟩ | ⟨e3,e4⟩
   ·rw [e2,e4];exact ⟨rfl,rfl⟩
   ·exact absurd e1 e3
  ·rcases set_split xs _ _ j k hk with ⟨e3,e4⟩ | ⟨e3,e4⟩
   ·exact absurd e3 e1
   ·exact h.fld j v k e2 e4
 ·intro j v k hv hk
  rcases set_split us _ _ j v hv with ⟨e1,e2⟩ | ⟨e1,e2⟩
  ·rcases set_split xs _ _ j k hk with ⟨e3,e4⟩ | ⟨e3,e4⟩
   ·rw [e1,e2,e4];exact hown
   ·exact absurd e1 e3
  ·rcases set_split xs _ _ j k hk with ⟨e3,e4⟩ | ⟨e3,e4⟩
   ·exact absurd e3 e1
   ·refine ((h.kid j v k e2 e4).keep (fun b hb1 hb2=>ht3.block b hb2 (fun e=>c5 j (e ▸ hb1)))).keep (fun b hb1 hb2=>hout.block b hb2 (fun e=>e1 (c6 j i b hb1 e)))
 ·rw [List.take_add_one,List.getElem?_set,if_pos rfl,if_pos hix,List.take_set_of_le (Nat.le_refl _)]
  exact h.mkd.snoc hmk
 ·have e:(xs.set i (.mk q (mtB (q+1)) ks2))[i]? = some (.mk q (mtB (q+1)) ks2):=by rw [List.getElem?_set,if_pos rfl,if_pos hix]
  rw [descR_take_succ e,descR_take_succ hx,List.take_set_of_le (Nat.le_refl _),h.ds,← hds]
  rfl
 ·rw [List.drop_set_of_lt (Nat.lt_succ_self _)]
  have:=congrArg (List.drop 1) h.dr
  simpa [List.drop_drop] using this
 ·exact h.out.trans ((ht3.weak (fun b e=>e ▸ c3)).trans (hout.weak (c4 i)))
end Go.Proofs.YtfbgppkdnfljhaaDoor
namespace Go.Proofs.YtfbgppkdnfljhaaDoor
open Go.RowKit
def RetMr (T:TypeId) (S:Nat→Prop) (s:Slc) (ks:List Re) (m:Int) (w:World) (e:Ending) (w':World):Prop:=
 ∃ (q:Int) (xs:List Re),e = .returned (.int .i64 q)∧MkR m xs q∧descR xs=descR ks∧OwnR T w' S s xs∧Turn S w w'
def MarkR (ks:List Re):Prop:=∀ (S:Nat→Prop) (a:Option Addr) (n c:Nat) (m:Int) (w:World),OwnR 38 w S ⟨a,n,c⟩ ks→0≤m→m+2 * (descR ks:Nat)≤1000000000 →
 Calls Tryd.prog 25 #[.slice a n c, .int .i64 m] w (RetMr 38 S ⟨a,n,c⟩ ks m w)
theorem markR_any:∀ ks,MarkR ks:=Re.all (by
 intro ks ih S a n c m w h hm0 hm1
 cases h with
 | nil =>
  go_enter Tryd.func25,Tryd.ntmps25
  go_wp2_with fail
  go_loopw [1,5] (fun q i wr=>i = .int .i64 0∧q = .int .i64 m∧wr=w) (fun _ i _=>(intOf i).toNat)
  case atStart=>exact ⟨rfl,rfl,rfl⟩
  case round =>
   obtain ⟨rfl,rfl,rfl⟩:=hrel
   go_wp2_with fail
   go_ret
   exact ⟨m,[],rfl, .nil,rfl, .nil,Turn.refl _ _⟩
 | node C h1 h2 h3 h4 h5 h6 h7 h8 =>
  rename_i g us
  have hn:=h2.len
  have hcap:us.length≤c∧c≤maxLen:=by
   rcases h2.shape with ⟨he, -⟩ | ⟨g',c',he, -, -,h9,h10⟩
   ·simp at he
   ·simp only [Value.slice.injEq] at he
    obtain ⟨-, -,rfl⟩:=he
    exact ⟨h9,h10⟩
  have hnb:n≤9223372036854775807:=by have:=hcap.2;unfold maxLen at this;omega
  have ST:=hide (show MkSr 38 w w S g n c C ks m 0 m us ks from ⟨hn.symm,by rw [hn,h1],h2,h7,h8, .nil,rfl,rfl,Turn.refl _ _⟩)
  have IH:=hide ih
  have HD:=hide (fun i x hx=>descR_kid (ks:=ks) (k:=i) (x:=x) hx)
  have HKL:Hid (ks.length=n):=hide (by rw [hn,h1])
  have H3:=hide h3;have H4:=hide h4;have H5:=hide h5;have H6:=hide h6
  clear h1 h2 h7 h8 hn hcap ih h3 h4 h5 h6
  go_enter Tryd.func25,Tryd.ntmps25
  go_wp2_with fail
  go_loopw [1,5] (fun q i wr => ∃ (k:Nat) (p:Int) (vs:List Rs) (xs:List Re),k≤n∧i = .int .i64 k∧q = .int .i64 p∧Hid (MkSr 38 w wr S g n c C ks m k p vs xs)) (fun _ i _=>n - (intOf i).toNat)
  case atStart=>exact ⟨0,m,us,ks,Nat.zero_le _,rfl,rfl,ST⟩
  case round =>
   obtain ⟨k,p,vs,xs,hk,rfl,rfl,HS⟩:=hrel
   have hp:=HS.out.mkd.le
   rw [HS.out.ds] at hp
   by_cases hlt:k < n
   ·obtain ⟨x,hx⟩:=get_of_lt (xs:=ks) (k:=k) (by rw [HKL.out];exact hlt)
    obtain ⟨u,hu⟩:=get_of_lt (xs:=vs) (k:=k) (by rw [HS.out.ul];exact hlt)
    have hlt':=nat_of_lt hlt
    have hxx:xs[k]? = some x:=by
     have:=congrArg (fun l=>l[0]?) HS.out.dr
     simpa [List.getElem?_drop,hx] using this
    have hdk:=HD.out k x hx
    have hkid:=HS.out.kid k u x hu hxx
    obtain ⟨hgl,f0,f1,f2,hfr⟩:=HS.out.own.rs hu
    have hp0:0≤p:=by omega
    have hpb:p+2 * ((descR x.kids:Nat):Int)+2≤1000000000:=by omega
    obtain ⟨uo,un,⟨sa,sn,sc⟩⟩:=u
    have HC:=hide (fun W hW=>IH.out x (List.mem_of_getElem? hx) (C k) sa sn sc (p+1+1) W hW (by omega) (by omega))
    have HKID:=hide hkid
    have HT:=hide (fun W=>markText_any (p+1) W (by omega) (by omega))
    have HX:=hide hx;have HU:=hide hu
    clear hx hu hxx hdk hkid hp
    go_wp2_with fail
    (with_reducible refine (HT.out _).mono ?_);rintro e w1 ⟨rfl,hb1⟩
    have HO1:=hide ((HS.out.own.set (i:=k) (j:=0) ⟨p,un,⟨sa,sn,sc⟩⟩ (u:=.int .i64 p) (by decide) HU.out rfl).below hb1)
    have HU1:=hide (get_set_self HU.out (⟨p,un,⟨sa,sn,sc⟩⟩:Rs))
    have HT1:=hide ((Turn.put (S:=fun b=>b=g) (w:=wr) rfl (k * 3) (.int .i64 p)).trans (Turn.of_below hb1))
    simp only [RsE] at HO1
    obtain ⟨hgl1,e0,e1,e2,efr⟩:=HO1.out.rs HU1.out
    have HO2:=hide (HO1.out.set (i:=k) (j:=1) ⟨p,mtB (p+1),⟨sa,sn,sc⟩⟩ (u:=.string (mtB (p+1))) (by decide) HU1.out rfl)
    simp only [List.set_set] at HO2
    have HT2:=hide (HT1.out.trans (Turn.put (S:=fun b=>b=g) (w:=w1) rfl (k * 3+1) (.string (mtB (p+1)))))
    have HC2:=hide (HC.out _ (HKID.out.keep fun b hb1 hb2=>HT2.out.block b hb2 (fun e=>H5.out k (e ▸ hb1))))
    clear hb1 HC HKID HT HT1 f0 f1 f2 hgl hfr
    go_wp2_with fail
    (with_reducible refine HC2.out.mono ?_);rintro e w2 ⟨q2,ks2,rfl,hmk,hds,hown,hout⟩
    have HST:=hide (HS.out.step H3.out H4.out H5.out H6.out HX.out HU.out HO2.out HT2.out hmk hds hown hout)
    clear hmk hds hown hout HC2 HO1 HO2 HT2
    go_wp2_with fail
    go_roundw
    case rel=>exact ⟨k+1,q2,_,_,by omega,by go_num,rfl,HST⟩
    case measure=>simp [intOf];omega
   ·have e:k=n:=by omega
    subst e
    go_wp2_with fail
    go_ret
    refine ⟨p,xs,rfl, ?_, ?_, ?_,HS.out.out⟩
    ·have:=HS.out.mkd
     rwa [List.take_of_length_le (by rw [HS.out.xl];exact Nat.le_refl _)] at this
    ·have:=HS.out.ds
     rwa [List.take_of_length_le (by rw [HS.out.xl];exact Nat.le_refl _),List.take_of_length_le (by rw [HKL.out];exact Nat.le_refl _)] at this
    ·exact .node C (by rw [HS.out.ul,HS.out.xl]) HS.out.own H3.out H4.out H5.out H6.out HS.out.fld HS.out.kid)
def HeldR (xs:List Re):Prop:=∀ (a:Option Addr) (n c:Nat) (m q:Int) (w:World),RepRk 0 w ⟨a,n,c⟩ xs→MkR m xs q→0≤m→q≤1000000000 →
 Calls Tryd.prog 26 #[.slice a n c, .int .i64 m] w fun e w'=>e = .returned (.int .i64 q)∧Below w.heap.size w w'
theorem heldR_any:∀ xs,HeldR xs:=Re.all (by
 intro xs ih a n c m q w h hmk hm0 hq1
 obtain ⟨e1,hc1,hc2,hc3⟩:=h.open
 simp only at e1 hc1 hc2 hc3
 have HX:=hide h;have HM:=hide hmk;have IH:=hide ih
 have HL:=hide e1.symm
 rw [HL.out] at hc1 hc2
 clear h hmk ih e1
 go_enter Tryd.func26,Tryd.ntmps26
 go_wp2_with fail
 go_loopw [1,5] (fun v i wr => ∃ (k:Nat) (p:Int),k≤n∧i = .int .i64 k∧v = .int .i64 p∧0≤p∧Hid (MkR p (xs.drop k) q)∧Hid (Below w.heap.size w wr)) (fun _ i _=>n - (intOf i).toNat)
 case atStart=>exact ⟨0,m,Nat.zero_le _,rfl,rfl,hm0,hide (by simpa using HM.out),hide (Below.refl _ _)⟩
 case round =>
  obtain ⟨k,p,hk,rfl,rfl,hp0,HD,HB⟩:=hrel
  by_cases hlt:k < n
  ·obtain ⟨x,hx⟩:=get_of_lt (xs:=xs) (k:=k) (by rw [HL.out];exact hlt)
   have hlt':=nat_of_lt hlt
   have hd:xs.drop k=x :: xs.drop (k+1):=by
    rw [List.drop_eq_getElem_cons (by rw [HL.out];exact hlt)]
    congr 1
    exact (List.getElem?_eq_some_iff.1 hx).2
   obtain ⟨b,o,s,rfl,hbl,i0,i1,i2,i5⟩:=(HX.out.below HB.out).kid hx
   have hD:=HD.out
   rw [hd] at hD
   have hxm:=List.mem_of_getElem? hx
   cases hD with
   | cons g1 g2 =>
    rename_i m1 ks
    have hp1:=g1.pos;have hp2:=g2.pos
    have HC:=hide (fun W h=>IH.out _ hxm s.a s.n s.cap _ _ W h g1 (by omega) (by omega))
    have HI5:=hide i5
    have HT:=hide (fun W=>markText_any (p+1) W (by omega) (by omega))
    have G2:=hide g2
    simp only [Re.op,Re.nm] at i0 i1 i2
    have I2:=hide i1
    have I3:=hide i2
    clear hx hd hxm i5 g1 g2
    have hmn:¬ m1 < 0:=by omega
    have hss:((mtB (p+1)).toList==(mtB (p+1)).toList)=true:=by simp
    go_wp2_with fail
    -- reg name
    refine wp_region_inv3 (n:=7) (by kernel_rfl) rfl (by kernel_rfl) (by kernel_rfl) (fun A ls a' W => ∃ (x21 x22 x23 x24 x25 x26 x27:Value),a'=putAll A [(21,x21),(22,x22),(23,x23),(24,x24),(25,x25),(26,x26),(27,x27)]∧Vd ls 0 [] x21 (.slice (some ⟨b,o,none⟩) n c)∧Vd ls 1 [] x22 (.int .i64 k)∧Vd ls 2 [] x23 (.pointer (some ⟨b,o+k * 3,none⟩))∧Vd ls 3 [] x24 (.pointer (some ⟨b,o+k * 3+1,none⟩))∧Vd ls 4 [] x25 (.string (mtB (p+1)))∧Vd ls 5 [] x26 (.int .i64 (p+1))∧Vd ls 6 [] x27 (.string (mtB (p+1)))∧Below wr.heap.size wr W) ?r0 ?rs ?re
    case r0 =>
     exact ⟨u21,u22,u23,u24,u25,u26,u27,by simp only [putAll,Act.put,List.setIfInBounds_toArray,List.set_cons_succ,List.set_cons_zero],Vd.start,Vd.start,Vd.start,Vd.start,Vd.start,Vd.start,Vd.start,by exact (Below.refl _ _).drew⟩
    case rs =>
     rintro ls a' W hs hnl ⟨x21,x22,x23,x24,x25,x26,x27,ha,cv0,cv1,cv2,cv3,cv4,cv5,cv6,hJ⟩ k o hkn mc K hK
     simp only [putAll,Act.put,List.setIfInBounds_toArray,List.set_cons_succ,List.set_cons_zero] at ha
     subst ha
     have hkc:k=0∨k=1∨k=2∨k=3∨k=4∨k=5∨k=6:=by omega
     have hop:=mc.op
     have haf:=mc.after
     rcases hkc with rfl | rfl | rfl | rfl | rfl | rfl | rfl
     ·simp at hop;subst hop;simp [Region.binds] at haf
      go_simp
      exact hK _ _ ⟨_,_,_,_,_,_,_,by simp only [putAll,Act.put,List.setIfInBounds_toArray,List.set_cons_succ,List.set_cons_zero],Vd.same (by simp),cv1.set (by decide),cv2.set (by decide),cv3.set (by decide),cv4.set (by decide),cv5.set (by decide),cv6.set (by decide),by exact hJ⟩
     ·simp at hop;subst hop;simp [Region.binds] at haf
      go_simp
      exact hK _ _ ⟨_,_,_,_,_,_,_,by simp only [putAll,Act.put,List.setIfInBounds_toArray,List.set_cons_succ,List.set_cons_zero],cv0.set (by decide),Vd.same (by simp),cv2.set (by decide),cv3.set (by decide),cv4.set (by decide),cv5.set (by decide),cv6.set (by decide),by exact hJ⟩
     ·simp at hop;subst hop;simp [Region.binds] at haf
      obtain rfl:=(cv0.get (by simp [haf])).symm
      obtain rfl:=(cv1.get (by simp [haf])).symm
      go_simp
      exact hK _ _ ⟨_,_,_,_,_,_,_,by simp only [putAll,Act.put,List.setIfInBounds_toArray,List.set_cons_succ,List.set_cons_zero],cv0.set (by decide),cv1.set (by decide),Vd.same (by simp),cv3.set (by decide),cv4.set (by decide),cv5.set (by decide),cv6.set (by decide),by exact hJ⟩
     ·simp at hop;subst hop;simp [Region.binds] at haf
      obtain rfl:=(cv2.get (by simp [haf])).symm
      go_simp
      exact hK _ _ ⟨_,_,_,_,_,_,_,by simp only [putAll,Act.put,List.setIfInBounds_toArray,List.set_cons_succ,List.set_cons_zero],cv0.set (by decide),cv1.set (by decide),cv2.set (by decide),Vd.same (by simp),cv4.set (by decide),cv5.set (by decide),cv6.set (by decide),by exact hJ⟩
     ·simp at hop;subst hop;simp [Region.binds] at haf
      obtain rfl:=(cv3.get (by simp [haf])).symm
      have cw:=(hJ.cell (p:=⟨b,o+k * 3+1,none⟩) hbl).trans I2.out
      have cwl:=lt_of_cell cw
      go_simp
      exact hK _ _ ⟨_,_,_,_,_,_,_,by simp only [putAll,Act.put,List.setIfInBounds_toArray,List.set_cons_succ,List.set_cons_zero],cv0.set (by decide),cv1.set (by decide),cv2.set (by decide),cv3.set (by decide),Vd.same (by simp),cv5.set (by decide),cv6.set (by decide),by exact hJ⟩
     ·simp at hop;subst hop;simp [Region.binds] at haf
      go_simp
      exact hK _ _ ⟨_,_,_,_,_,_,_,by simp only [putAll,Act.put,List.setIfInBounds_toArray,List.set_cons_succ,List.set_cons_zero],cv0.set (by decide),cv1.set (by decide),cv2.set (by decide),cv3.set (by decide),cv4.set (by decide),Vd.same (by simp),cv6.set (by decide),by exact hJ⟩
     ·simp at hop;subst hop;simp [Region.binds] at haf
      obtain rfl:=(cv5.get (by simp [haf])).symm
      go_simp
      go_at_call 24
      (with_reducible refine (HT.out W).mono ?_);rintro e u ⟨rfl,hb⟩
      exact hK _ _ ⟨_,_,_,_,_,_,_,by simp only [putAll,Act.put,List.setIfInBounds_toArray,List.set_cons_succ,List.set_cons_zero],cv0.set (by decide),cv1.set (by decide),cv2.set (by decide),cv3.set (by decide),cv4.set (by decide),cv5.set (by decide),Vd.same (by simp),by exact hJ.trans (hb.mono hJ.size)⟩
    case re =>
     rintro ls a' W hall ⟨x21,x22,x23,x24,x25,x26,x27,ha,cv0,cv1,cv2,cv3,cv4,cv5,cv6,hJ⟩ o hop
     simp only [putAll,Act.put,List.setIfInBounds_toArray,List.set_cons_succ,List.set_cons_zero] at ha
     subst ha
     simp at hop;subst hop
     obtain rfl:=(cv0.get (hall 0 (by decide))).symm
     obtain rfl:=(cv1.get (hall 1 (by decide))).symm
     obtain rfl:=(cv2.get (hall 2 (by decide))).symm
     obtain rfl:=(cv3.get (hall 3 (by decide))).symm
     obtain rfl:=(cv4.get (hall 4 (by decide))).symm
     obtain rfl:=(cv5.get (hall 5 (by decide))).symm
     obtain rfl:=(cv6.get (hall 6 (by decide))).symm
     go_simp
     have c2:=(hJ.cell (p:=⟨b,o+k * 3+2,none⟩) hbl).trans I3.out
     have cl2:=lt_of_cell c2
     have HC2:=hide (HC.out W (HI5.out.below hJ))
     have HB2:=hide (HB.out.trans (hJ.mono HB.out.size))
     clear hJ HC
     go_wp2_with fail
     (with_reducible refine HC2.out.mono ?_);rintro e w3 ⟨rfl,hb3⟩
     have HB3:=hide (HB2.out.trans (hb3.mono HB2.out.size))
     clear hb3 HC2
     go_wp2_with fail
     go_roundw
     case rel=>exact ⟨k+1,m1,by omega,by go_num,rfl,by omega,G2,HB3⟩
     case measure=>simp [intOf];omega
    -- end name
  ·have e:k=n:=by omega
   subst e
   have hD:=HD.out
   rw [List.drop_of_length_le (by rw [HL.out];exact Nat.le_refl _)] at hD
   cases hD
   have HBX:=HB
   go_wp2_with fail
   go_ret
   exact ⟨rfl,HBX.out⟩)
end Go.Proofs.YtfbgppkdnfljhaaDoor