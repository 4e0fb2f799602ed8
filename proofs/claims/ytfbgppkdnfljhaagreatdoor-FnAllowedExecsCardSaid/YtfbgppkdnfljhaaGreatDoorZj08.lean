/-
  Words for the walks of exact laws: facts about the blocks of a range. No condition.
-/
import Derived.Test.YtfbgppkdnfljhaaGreatDoorZj04
import Derived.Test.YtfbgppkdnfljhaaGreatDoorZj05
import Derived.Deep.RegionHeld3
import Derived.Deep.DeepCutAuto
import Derived.Deep.LoopGhost
set_option maxHeartbeats 6400000
set_option maxRecDepth 100000
namespace Go.Proofs.YtfbgppkdnfljhaaGreatDoor
open Go.RowKit
theorem belowAlloc (w:World) (o:Obj):Below w.heap.size w (w.alloc o):=(Below.refl _ _).alloc (Nat.le_refl _) o
theorem ocell {b:Nat} {W w1:World} (h:Outside b (b+1) W w1):(∀ g o,g < W.heap.size→g≠b→w1.cell? ⟨g,o,none⟩=W.cell? ⟨g,o,none⟩)∧(∀ g o,g < W.heap.size→g≠b→w1.frozen? ⟨g,o,none⟩=W.frozen? ⟨g,o,none⟩):=by
 refine ⟨fun g o hg hne=>cell_of_block (h.block g hg (by omega)) o,fun g o hg hne => ?_⟩
 have:=h.block g hg (by omega)
 unfold World.frozen?
 rw [this]
theorem Outside.setNew {lo hi:Nat} {w w':World} (h:Outside lo hi w w') {g:Nat} (hg:w.heap.size≤g) (j:Nat) (v:Value):Outside lo hi w (w'.setCell ⟨g,j,none⟩ v):=
 ⟨h.os,h.tape,h.output,by simpa using h.size,fun k hk hlh=>(heap_setCell_other w' ⟨g,j,none⟩ k v (fun e=>by simp at e;omega)).trans (h.block k hk hlh)⟩
theorem Outside.allocNew {lo hi:Nat} {w w':World} (h:Outside lo hi w w') (o:Obj):Outside lo hi w (w'.alloc o):=h.trans (Outside.of_below (belowAlloc _ _))
theorem Rd.setNew {w:World} {b:Nat} {a:Option Addr} {c:Nat} {xs:List Int} {p:Int} (h:Rd w b a c xs p) {g:Nat} (hg:b < g) (j:Nat) (v:Value):Rd (w.setCell ⟨g,j,none⟩ v) b a c xs p:=
 h.keep (B:=b+1) ((Below.refl _ _).setCell (show b+1≤g from hg) v) (Nat.lt_succ_self _)
theorem Rd.allocNew {w:World} {b:Nat} {a:Option Addr} {c:Nat} {xs:List Int} {p:Int} (h:Rd w b a c xs p) (o:Obj):Rd (w.alloc o) b a c xs p:=
 h.keep (belowAlloc w o) h.lt
theorem rep_lit (w:World) (ys:List Int) (T:TypeId) (h:ys.length≤100):Rep IntE (w.alloc (.cells (ys.map (Value.int .i64)).toArray T)) (.slice (some ⟨w.heap.size,0,none⟩) ys.length ys.length) ys:=by
 refine ⟨_,_,rfl,Nat.le_refl _,by unfold maxLen;omega,fun i x hx=>⟨w.heap.size,0,rfl,fun j u hu => ?_⟩⟩
 rw [cell_of_row _ _ _ _ T (0,0) (heap_alloc_new w _)]
 have hj:j=0:=by have:=(List.getElem?_eq_some_iff.1 hu).1;simp [IntE] at this;omega
 subst hj
 simp [IntE] at hu
 simp [IntE,hx,hu]
theorem pow_pos2 (d:Nat):(1:Int)≤2 ^ d:=by
 induction d with
 | zero=>simp
 | succ d ih=>rw [Int.pow_succ];omega
end Go.Proofs.YtfbgppkdnfljhaaGreatDoor
namespace Go.Proofs.YtfbgppkdnfljhaaGreatDoor
open Go.RowKit
theorem numLit3 (b:Nat) (a:Option Addr) (c:Nat) (xs:List Int) (p:Int) (y0 y1 y2:Int) (w':World) (G:Nat) (hG:w'.heap.size=G) (hb:b < G) (h:Rd (w'.alloc (.cells #[.int .i64 y0, .int .i64 y1, .int .i64 y2] 3)) b a c xs p) (hp:p≤1000000000) :
 Calls Tryz.prog 107 #[.pointer (some ⟨b,0,none⟩), .slice (some ⟨G,0,none⟩) 3 3] (w'.alloc (.cells #[.int .i64 y0, .int .i64 y1, .int .i64 y2] 3)) (RetRd (w'.alloc (.cells #[.int .i64 y0, .int .i64 y1, .int .i64 y2] 3)) b a c xs p 1 (OneOf [y0,y1,y2])):=by
 subst hG
 exact num_any b a c xs p (Value.slice (some (Addr.mk w'.heap.size 0 none)) 3 3) [y0,y1,y2] _ h hp (rep_lit w' [y0,y1,y2] 3 (by simp)) (by simp) (by simp) (by intro g o e;simp at e;omega)
theorem numLit5 (b:Nat) (a:Option Addr) (c:Nat) (xs:List Int) (p:Int) (y0 y1 y2 y3 y4:Int) (w':World) (G:Nat) (hG:w'.heap.size=G) (hb:b < G) (h:Rd (w'.alloc (.cells #[.int .i64 y0, .int .i64 y1, .int .i64 y2, .int .i64 y3, .int .i64 y4] 3)) b a c xs p) (hp:p≤1000000000) :
 Calls Tryz.prog 107 #[.pointer (some ⟨b,0,none⟩), .slice (some ⟨G,0,none⟩) 5 5] (w'.alloc (.cells #[.int .i64 y0, .int .i64 y1, .int .i64 y2, .int .i64 y3, .int .i64 y4] 3)) (RetRd (w'.alloc (.cells #[.int .i64 y0, .int .i64 y1, .int .i64 y2, .int .i64 y3, .int .i64 y4] 3)) b a c xs p 1 (OneOf [y0,y1,y2,y3,y4])):=by
 subst hG
 exact num_any b a c xs p (Value.slice (some (Addr.mk w'.heap.size 0 none)) 5 5) [y0,y1,y2,y3,y4] _ h hp (rep_lit w' [y0,y1,y2,y3,y4] 3 (by simp)) (by simp) (by simp) (by intro g o e;simp at e;omega)
end Go.Proofs.YtfbgppkdnfljhaaGreatDoor
namespace Go.Proofs.YtfbgppkdnfljhaaGreatDoor
open Go.RowKit
end Go.Proofs.YtfbgppkdnfljhaaGreatDoor
namespace Go.Proofs.YtfbgppkdnfljhaaGreatDoor
open Go.RowKit
def RetOpen (w:World) (e:Ending) (w':World):Prop:=∃ (B:Nat) (a:Option Addr) (c:Nat) (xs:List Int),e = .returned (.pointer (some ⟨B,0,none⟩))∧Rd w' B a c xs 0∧w.heap.size≤B∧Below w.heap.size w w'
theorem Rep.take {w:World} {a:Option Addr} {n c:Nat} {xs:List Int} (h:Rep ByteE w (.slice a n c) xs) {k:Nat} (hk:k≤xs.length):Rep ByteE w (.slice a k c) (xs.take k):=by
 obtain ⟨a',c',hv,h1,h2,h3⟩:=h
 simp only [Value.slice.injEq] at hv
 obtain ⟨rfl,rfl,rfl⟩:=hv
 refine ⟨a,c,by rw [List.length_take,Nat.min_eq_left hk],by rw [List.length_take];omega,h2,fun i x hx => ?_⟩
 rw [List.getElem?_take] at hx
 split at hx
 ·exact h3 i x hx
 ·cases hx
theorem rep_lt {w:World} {a:Option Addr} {n c:Nat} {xs:List Int} (h:Rep ByteE w (.slice a n c) xs) (g o:Nat) (hne:xs≠[]) (e:a=some ⟨g,o,none⟩):g < w.heap.size:=by
 cases xs with
 | nil=>exact absurd rfl hne
 | cons x xs =>
  obtain ⟨b,o',hb,hlt, -⟩:=h.byte (k:=0) (x:=x) rfl
  rw [e] at hb
  simp only [Option.some.injEq,Addr.mk.injEq,and_true] at hb
  omega
theorem l17Open_any (v:Value) (xs:List Int) (w:World) (hx:Rep ByteE w v xs) (hb:∀ x∈xs,0≤x∧x≤255) :
 Calls Tryz.prog 51 #[v] w (RetOpen w):=by
 obtain ⟨a,c,rfl,hc1,hc2,hc3,hx⟩:=hx.open
 have HX:=hide hx;clear hx
 by_cases hl:xs.length > 2000
 ·have hT:=hide (HX.out.take (k:=2000) (by omega))
  have hlt:(2000:Int) < (xs.length:Int):=by omega
  have hc4:2000≤c:=by omega
  have htl:(xs.take 2000).length=2000:=by rw [List.length_take];omega
  have HTL:=hide htl;clear htl
  generalize hn:xs.length=n at *
  clear hn
  go_enter Tryz.func51,Tryz.ntmps51
  go_wp2_with fail
  go_ret
  have h2:Rd (w.alloc (.cells #[.slice a 2000 c, .int .i64 0] 143)) w.heap.size a c (xs.take 2000) 0:=
   ⟨by simp,by rw [HTL.out];simp [go_sem],by simp [go_sem],by simp [go_sem],by rw [HTL.out];exact hT.out.below ((Below.refl _ _).alloc (Nat.le_refl _) _),fun g o hne e=>rep_lt hT.out g o hne e,fun x hx=>hb x (List.mem_of_mem_take hx),by omega⟩
  exact ⟨w.heap.size,a,c,_,rfl,h2,Nat.le_refl _,(Below.refl _ _).alloc (Nat.le_refl _) _⟩
 ·have hge:decide ((xs.length:Int) > 2000)=false:=decide_eq_false (by omega)
  clear hl
  have HXR:=hide (fun g o hne e=>rep_lt HX.out g o hne e)
  generalize hn:xs.length=n at *
  have H:=hide hn;clear hn
  go_enter Tryz.func51,Tryz.ntmps51
  go_wp2_with fail
  go_ret
  have h2:Rd (w.alloc (.cells #[.slice a n c, .int .i64 0] 143)) w.heap.size a c xs 0:=
   ⟨by simp,by rw [H.out];simp [go_sem],by simp [go_sem],by simp [go_sem],by rw [H.out];exact HX.out.below ((Below.refl _ _).alloc (Nat.le_refl _) _),HXR.out,hb,by omega⟩
  exact ⟨w.heap.size,a,c,_,rfl,h2,Nat.le_refl _,(Below.refl _ _).alloc (Nat.le_refl _) _⟩
end Go.Proofs.YtfbgppkdnfljhaaGreatDoor
namespace Go.Proofs.YtfbgppkdnfljhaaGreatDoor
open Go.RowKit
theorem below_of_outside {b:Nat} {w w':World} {B:Nat} (h:Outside b (b+1) w w') (hB:B≤b) (hB2:B≤w.heap.size):Below B w w':=h.below hB hB2
end Go.Proofs.YtfbgppkdnfljhaaGreatDoor
namespace Go.Proofs.YtfbgppkdnfljhaaGreatDoor
open Go.RowKit
inductive OwnR (T:TypeId) (w:World):(Nat→Prop)→Slc→List Re→Prop
 | nil {S:Nat→Prop}:OwnR T w S ⟨none,0,0⟩ []
 | node {S:Nat→Prop} {g n cap:Nat} {us:List Rs} {ks:List Re} (C:Nat→Nat→Prop) (h1:us.length=ks.length) (h2:Own RsE T w 0 (.slice (some ⟨g,0,none⟩) n cap) us) (h3:S g)
  (h4:∀ i q,C i q→S q) (h5:∀ i,¬ C i g) (h6:∀ i j q,C i q→C j q→i=j)
  (h7:∀ (i:Nat) (u:Rs) (k:Re),us[i]? = some u→ks[i]? = some k→u.op=k.op∧u.nm=k.nm)
  (h8:∀ (i:Nat) (u:Rs) (k:Re),us[i]? = some u→ks[i]? = some k→OwnR T w (C i) u.s k.kids) :
  OwnR T w S ⟨some ⟨g,0,none⟩,n,cap⟩ ks
theorem OwnR.keep {T:TypeId} {w w':World} {S:Nat→Prop} {s:Slc} {ks:List Re} (h:OwnR T w S s ks) (hk:∀ q,S q→q < w.heap.size→w'.heap[q]? = w.heap[q]?):OwnR T w' S s ks:=by
 induction h with
 | nil=>exact .nil
 | node C h1 h2 h3 h4 h5 h6 h7 h8 ih =>
  rename_i S g n cap us ks
  have hg:=World.ownsRow.lt h2 g rfl
  refine .node C h1 ?_ h3 h4 h5 h6 h7 (fun i u k hu hkk=>ih i u k hu hkk (fun q hq1 hq2=>hk q (h4 i q hq1) hq2))
  refine ⟨h2.1, ?_⟩
  rcases h2.2 with ⟨hn,_⟩ | ⟨g',cap',cur,hv,hb1,hgg,rest⟩
  ·simp at hn
  ·simp only [Value.slice.injEq,Option.some.injEq,Addr.mk.injEq,and_true] at hv
   obtain ⟨rfl,rfl,rfl⟩:=hv
   exact .inr ⟨g,cap,cur,rfl,hb1,(hk g h3 hg.2).trans hgg,rest⟩
theorem OwnR.bel {T:TypeId} {w w':World} {S:Nat→Prop} {s:Slc} {ks:List Re} (h:OwnR T w S s ks) (hb:Below w.heap.size w w'):OwnR T w' S s ks:=h.keep fun q _ hq=>hb.block q hq
theorem OwnR.set {T:TypeId} {w:World} {S:Nat→Prop} {s:Slc} {ks:List Re} (h:OwnR T w S s ks) {g:Nat} (hg:¬ S g) (j:Nat) (u:Value):OwnR T (w.setCell ⟨g,j,none⟩ u) S s ks:=
 h.keep fun q hq _=>heap_setCell_other w ⟨g,j,none⟩ q u (show q≠g from fun e=>hg (e ▸ hq))
theorem OwnR.wide {T:TypeId} {w:World} {S S':Nat→Prop} {s:Slc} {ks:List Re} (h:OwnR T w S s ks) (hs:∀ q,S q→S' q):OwnR T w S' s ks:=by
 cases h with
 | nil=>exact .nil
 | node C h1 h2 h3 h4 h5 h6 h7 h8=>exact .node C h1 h2 (hs _ h3) (fun i q hq=>hs q (h4 i q hq)) h5 h6 h7 h8
theorem OwnR.rep {T:TypeId} {w:World} {S:Nat→Prop} {s:Slc} {ks:List Re} {lo:Nat} (h:OwnR T w S s ks) (hl:∀ q,S q→lo≤q):RepRk lo w s ks:=by
 induction h with
 | nil=>exact RepRk.nil _ _
 | node C h1 h2 h3 h4 h5 h6 h7 h8 ih =>
  rename_i S g n cap us ks
  have hn:=h2.len
  subst hn
  refine ⟨us,h1,h2.rep, .inr fun b o e => ?_,fun i u k hu hkk => ?_⟩
  ·simp only [Option.some.injEq,Addr.mk.injEq,and_true] at e;rw [← e.1];exact hl g h3
  ·have hr:=ih i u k hu hkk (fun q hq=>hl q (h4 i q hq))
   obtain ⟨e1,e2⟩:=h7 i u k hu hkk
   have e:=hr.cond u.op u.nm
   rw [e1,e2,Re.eta] at e
   rw [← e1,← e2] at e
   exact e
theorem OwnR.one {T:TypeId} {w:World} {S S':Nat→Prop} {s:Slc} {ks:List Re} (h:OwnR T w S s ks) (hS:∀ q,S q→q < w.heap.size) (hs:∀ q,S q→S' q) (hg:S' w.heap.size) (o:Int) (p:ByteArray) :
 OwnR T (w.alloc (.cells #[.int .i64 o, .string p, .slice s.a s.n s.cap] T)) S' ⟨some ⟨w.heap.size,0,none⟩,1,1⟩ [.mk o p ks]:=by
 refine .node (us:=[⟨o,p,s⟩]) (fun i q=>i=0∧S q) rfl ?_ hg (fun i q hq=>hs q hq.2) (fun i hq=>by have:=hS _ hq.2;omega) (fun i j q a b=>by omega) ?_ ?_
 ·exact ⟨rfl, .inr ⟨w.heap.size,1,#[.int .i64 o, .string p, .slice s.a s.n s.cap],rfl,Nat.zero_le _,heap_alloc_new w _,Nat.le_refl _,by unfold maxLen;omega,rfl,rfl⟩⟩
 ·intro i u k hu hk
  cases i with
  | zero=>simp at hu hk;subst hu;subst hk;exact ⟨rfl,rfl⟩
  | succ i=>simp at hu
 ·intro i u k hu hk
  cases i with
  | zero=>simp at hu hk;subst hu;subst hk;exact ((h.bel (belowAlloc w _)).wide fun q hq=>⟨rfl,hq⟩)
  | succ i=>simp at hu
theorem OwnR.two {T:TypeId} {w:World} {S1 S2 S':Nat→Prop} {s s':Slc} {ks ks':List Re} (h:OwnR T w S1 s ks) (h':OwnR T w S2 s' ks') (hS1:∀ q,S1 q→q < w.heap.size) (hS2:∀ q,S2 q→q < w.heap.size) (hd:∀ q,S1 q→S2 q→False) (hs1:∀ q,S1 q→S' q) (hs2:∀ q,S2 q→S' q) (hg:S' w.heap.size) (o o':Int) (p p':ByteArray) :
 OwnR T (w.alloc (.cells #[.int .i64 o, .string p, .slice s.a s.n s.cap, .int .i64 o', .string p', .slice s'.a s'.n s'.cap] T)) S' ⟨some ⟨w.heap.size,0,none⟩,2,2⟩ [.mk o p ks, .mk o' p' ks']:=by
 refine .node (us:=[⟨o,p,s⟩,⟨o',p',s'⟩]) (fun i q=>(i=0∧S1 q)∨(i=1∧S2 q)) rfl ?_ hg (fun i q hq => ?_) (fun i hq => ?_) (fun i j q a b => ?_) ?_ ?_
 ·exact ⟨rfl, .inr ⟨w.heap.size,2,_,rfl,Nat.zero_le _,heap_alloc_new w _,Nat.le_refl _,by unfold maxLen;omega,rfl,rfl⟩⟩
 ·rcases hq with ⟨_,hq⟩ | ⟨_,hq⟩
  ·exact hs1 q hq
  ·exact hs2 q hq
 ·rcases hq with ⟨_,hq⟩ | ⟨_,hq⟩
  ·have:=hS1 _ hq;omega
  ·have:=hS2 _ hq;omega
 ·rcases a with ⟨a,a2⟩ | ⟨a,a2⟩ <;> rcases b with ⟨b,b2⟩ | ⟨b,b2⟩
  ·omega
  ·exact (hd q a2 b2).elim
  ·exact (hd q b2 a2).elim
  ·omega
 ·intro i u k hu hk
  match i,hu,hk with
  | 0,hu,hk=>simp at hu hk;subst hu;subst hk;exact ⟨rfl,rfl⟩
  | 1,hu,hk=>simp at hu hk;subst hu;subst hk;exact ⟨rfl,rfl⟩
  | i+2,hu,hk=>simp at hu
 ·intro i u k hu hk
  match i,hu,hk with
  | 0,hu,hk=>simp at hu hk;subst hu;subst hk;exact (h.bel (belowAlloc w _)).wide fun q hq => .inl ⟨rfl,hq⟩
  | 1,hu,hk=>simp at hu hk;subst hu;subst hk;exact (h'.bel (belowAlloc w _)).wide fun q hq => .inr ⟨rfl,hq⟩
  | i+2,hu,hk=>simp at hu
def Made' (w w':World) (q:Nat):Prop:=w.heap.size≤q∧q < w'.heap.size
def RetPR (w:World) (r:Re × Int) (e:Ending) (w':World):Prop:=
 ∃ (o:Int) (nm:ByteArray) (ks:List Re) (s:Slc),r.1 = .mk o nm ks∧e = .returned (.tuple #[.agg #[.int .i64 o, .string nm, .slice s.a s.n s.cap], .int .i64 r.2])∧OwnR 52 w' (Made' w w') s ks∧Below w.heap.size w w'
end Go.Proofs.YtfbgppkdnfljhaaGreatDoor
namespace Go.Proofs.YtfbgppkdnfljhaaGreatDoor
open Go.RowKit
end Go.Proofs.YtfbgppkdnfljhaaGreatDoor
namespace Go.Proofs.YtfbgppkdnfljhaaGreatDoor
open Go.RowKit
end Go.Proofs.YtfbgppkdnfljhaaGreatDoor
namespace Go.Proofs.YtfbgppkdnfljhaaGreatDoor
open Go.RowKit
structure Same (lo hi:Nat) (w w':World):Prop where
 os:w'.os=w.os
 tape:w'.tape=w.tape
 output:w'.output=w.output
 size:w.heap.size≤w'.heap.size
 block:∀ k,lo≤k→k < hi→w'.heap[k]? = w.heap[k]?
theorem Same.ofBelow {lo hi:Nat} {w w':World} (h:Below w.heap.size w w') (hh:hi≤w.heap.size):Same lo hi w w':=⟨h.os,h.tape,h.output,h.size,fun k _ h2=>h.block k (by omega)⟩
theorem Same.trans {lo hi:Nat} {a b c:World} (h:Same lo hi a b) (k:Same lo hi b c):Same lo hi a c:=⟨k.os.trans h.os,k.tape.trans h.tape,k.output.trans h.output,Nat.le_trans h.size k.size,fun q h1 h2=>(k.block q h1 h2).trans (h.block q h1 h2)⟩
def cut (hi:Nat) (w:World):World:={ w with heap:=w.heap.extract 0 hi }
end Go.Proofs.YtfbgppkdnfljhaaGreatDoor