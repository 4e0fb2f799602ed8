/-
  Words for the walks of exact laws: facts about the blocks of a range. No condition.
-/
import Derived.Test.YtkfhgnkonaafgaaGreatDoorZs05
import Derived.Test.YtkfhgnkonaafgaaGreatDoorZs06
import Derived.Deep.RegionHeld3
import Derived.Deep.DeepCutAuto
import Derived.Test.YtkfhgnkonaafgaaGreatDoorZs04
import Derived.Test.YtkfhgnkonaafgaaGreatDoorZs07
import Derived.Deep.LoopGhost
set_option maxHeartbeats 6400000
set_option maxRecDepth 100000
namespace Go.Proofs.YtkfhgnkonaafgaaGreatDoor
open Go.RowKit
theorem belowAlloc (w:World) (o:Obj):Below w.heap.size w (w.alloc o):=(Below.refl _ _).alloc (Nat.le_refl _) o
theorem ocell {b:Nat} {W w1:World} (h:Outside b (b+1) W w1):(∀ g o,g < W.heap.size→g≠b→w1.cell? ⟨g,o,none⟩=W.cell? ⟨g,o,none⟩)∧(∀ g o,g < W.heap.size→g≠b→w1.frozen? ⟨g,o,none⟩=W.frozen? ⟨g,o,none⟩):=by
 refine ⟨fun g o hg hne=>cell_of_block (h.block g hg (by omega)) o,fun g o hg hne => ?_⟩
 have:=h.block g hg (by omega)
 unfold World.frozen?
 rw [this]
theorem Outside.setNew {lo hi:Nat} {w w':World} (h:Outside lo hi w w') {g:Nat} (hg:w.heap.size≤g) (j:Nat) (v:Value):Outside lo hi w (w'.setCell ⟨g,j,none⟩ v):=
 ⟨h.os,h.tape,h.output,by simpa using h.size,fun k hk hlh=>(heap_setCell_other w' ⟨g,j,none⟩ k v (fun e=>by simp at e;omega)).trans (h.block k hk hlh)⟩
theorem Outside.allocNew {lo hi:Nat} {w w':World} (h:Outside lo hi w w') (o:Obj):Outside lo hi w (w'.alloc o):=h.trans (Outside.of_below (belowAlloc _ _))
theorem Rd.setNew {w:World} {b:Nat} {a:Option Addr} {c:Nat} {xs:List Int} {p:Int} (h:Rd w b a c xs p) {g:Nat} (hg:b < g) (j:Nat) (v:Value):Rd (w.setCell ⟨g,j,none⟩ v) b a c xs p:=
 h.keep (B:=b+1) ((Below.refl _ _).setCell (show b+1≤g from hg) v) (Nat.lt_succ_self _)
theorem Rd.allocNew {w:World} {b:Nat} {a:Option Addr} {c:Nat} {xs:List Int} {p:Int} (h:Rd w b a c xs p) (o:Obj):Rd (w.alloc o) b a c xs p:=
 h.keep (belowAlloc w o) h.lt
theorem rep_lit (w:World) (ys:List Int) (T:TypeId) (h:ys.length≤100):Rep IntE (w.alloc (.cells (ys.map (Value.int .i64)).toArray T)) (.slice (some ⟨w.heap.size,0,none⟩) ys.length ys.length) ys:=by
 refine ⟨_,_,rfl,Nat.le_refl _,by unfold maxLen;omega,fun i x hx=>⟨w.heap.size,0,rfl,fun j u hu => ?_⟩⟩
 rw [cell_of_row _ _ _ _ T (0,0) (heap_alloc_new w _)]
 have hj:j=0:=by have:=(List.getElem?_eq_some_iff.1 hu).1;simp [IntE] at this;omega
 subst hj
 simp [IntE] at hu
 simp [IntE,hx,hu]
theorem pow_pos2 (d:Nat):(1:Int)≤2 ^ d:=by
 induction d with
 | zero=>simp
 | succ d ih=>rw [Int.pow_succ];omega
end Go.Proofs.YtkfhgnkonaafgaaGreatDoor
namespace Go.Proofs.YtkfhgnkonaafgaaGreatDoor
open Go.RowKit
theorem numLit3 (b:Nat) (a:Option Addr) (c:Nat) (xs:List Int) (p:Int) (y0 y1 y2:Int) (w':World) (G:Nat) (hG:w'.heap.size=G) (hb:b < G) (h:Rd (w'.alloc (.cells #[.int .i64 y0, .int .i64 y1, .int .i64 y2] 3)) b a c xs p) (hp:p≤1000000000) :
 Calls Tryz.prog 130 #[.pointer (some ⟨b,0,none⟩), .slice (some ⟨G,0,none⟩) 3 3] (w'.alloc (.cells #[.int .i64 y0, .int .i64 y1, .int .i64 y2] 3)) (RetRd (w'.alloc (.cells #[.int .i64 y0, .int .i64 y1, .int .i64 y2] 3)) b a c xs p 1 (OneOf [y0,y1,y2])):=by
 subst hG
 exact num_any b a c xs p (Value.slice (some (Addr.mk w'.heap.size 0 none)) 3 3) [y0,y1,y2] _ h hp (rep_lit w' [y0,y1,y2] 3 (by simp)) (by simp) (by simp) (by intro g o e;simp at e;omega)
theorem numLit5 (b:Nat) (a:Option Addr) (c:Nat) (xs:List Int) (p:Int) (y0 y1 y2 y3 y4:Int) (w':World) (G:Nat) (hG:w'.heap.size=G) (hb:b < G) (h:Rd (w'.alloc (.cells #[.int .i64 y0, .int .i64 y1, .int .i64 y2, .int .i64 y3, .int .i64 y4] 3)) b a c xs p) (hp:p≤1000000000) :
 Calls Tryz.prog 130 #[.pointer (some ⟨b,0,none⟩), .slice (some ⟨G,0,none⟩) 5 5] (w'.alloc (.cells #[.int .i64 y0, .int .i64 y1, .int .i64 y2, .int .i64 y3, .int .i64 y4] 3)) (RetRd (w'.alloc (.cells #[.int .i64 y0, .int .i64 y1, .int .i64 y2, .int .i64 y3, .int .i64 y4] 3)) b a c xs p 1 (OneOf [y0,y1,y2,y3,y4])):=by
 subst hG
 exact num_any b a c xs p (Value.slice (some (Addr.mk w'.heap.size 0 none)) 5 5) [y0,y1,y2,y3,y4] _ h hp (rep_lit w' [y0,y1,y2,y3,y4] 3 (by simp)) (by simp) (by simp) (by intro g o e;simp at e;omega)
end Go.Proofs.YtkfhgnkonaafgaaGreatDoor
namespace Go.Proofs.YtkfhgnkonaafgaaGreatDoor
open Go.RowKit
end Go.Proofs.YtkfhgnkonaafgaaGreatDoor
namespace Go.Proofs.YtkfhgnkonaafgaaGreatDoor
open Go.RowKit
def RetOpen (w:World) (e:Ending) (w':World):Prop:=∃ (B:Nat) (a:Option Addr) (c:Nat) (xs:List Int),e = .returned (.pointer (some ⟨B,0,none⟩))∧Rd w' B a c xs 0∧w.heap.size≤B∧Below w.heap.size w w'
theorem Rep.take {w:World} {a:Option Addr} {n c:Nat} {xs:List Int} (h:Rep ByteE w (.slice a n c) xs) {k:Nat} (hk:k≤xs.length):Rep ByteE w (.slice a k c) (xs.take k):=by
 obtain ⟨a',c',hv,h1,h2,h3⟩:=h
 simp only [Value.slice.injEq] at hv
 obtain ⟨rfl,rfl,rfl⟩:=hv
 refine ⟨a,c,by rw [List.length_take,Nat.min_eq_left hk],by rw [List.length_take];omega,h2,fun i x hx => ?_⟩
 rw [List.getElem?_take] at hx
 split at hx
 ·exact h3 i x hx
 ·cases hx
theorem rep_lt {w:World} {a:Option Addr} {n c:Nat} {xs:List Int} (h:Rep ByteE w (.slice a n c) xs) (g o:Nat) (hne:xs≠[]) (e:a=some ⟨g,o,none⟩):g < w.heap.size:=by
 cases xs with
 | nil=>exact absurd rfl hne
 | cons x xs =>
  obtain ⟨b,o',hb,hlt, -⟩:=h.byte (k:=0) (x:=x) rfl
  rw [e] at hb
  simp only [Option.some.injEq,Addr.mk.injEq,and_true] at hb
  omega
theorem l17Open_any (v:Value) (xs:List Int) (w:World) (hx:Rep ByteE w v xs) (hb:∀ x∈xs,0≤x∧x≤255) :
 Calls Tryz.prog 89 #[v] w (RetOpen w):=by
 obtain ⟨a,c,rfl,hc1,hc2,hc3,hx⟩:=hx.open
 have HX:=hide hx;clear hx
 by_cases hl:xs.length > 2000
 ·have hT:=hide (HX.out.take (k:=2000) (by omega))
  have hlt:(2000:Int) < (xs.length:Int):=by omega
  have hc4:2000≤c:=by omega
  have htl:(xs.take 2000).length=2000:=by rw [List.length_take];omega
  have HTL:=hide htl;clear htl
  generalize hn:xs.length=n at *
  clear hn
  go_enter Tryz.func89,Tryz.ntmps89
  go_wp2_with fail
  go_ret
  have h2:Rd (w.alloc (.cells #[.slice a 2000 c, .int .i64 0] 162)) w.heap.size a c (xs.take 2000) 0:=
   ⟨by simp,by rw [HTL.out];simp [go_sem],by simp [go_sem],by simp [go_sem],by rw [HTL.out];exact hT.out.below ((Below.refl _ _).alloc (Nat.le_refl _) _),fun g o hne e=>rep_lt hT.out g o hne e,fun x hx=>hb x (List.mem_of_mem_take hx),by omega⟩
  exact ⟨w.heap.size,a,c,_,rfl,h2,Nat.le_refl _,(Below.refl _ _).alloc (Nat.le_refl _) _⟩
 ·have hge:decide ((xs.length:Int) > 2000)=false:=decide_eq_false (by omega)
  clear hl
  have HXR:=hide (fun g o hne e=>rep_lt HX.out g o hne e)
  generalize hn:xs.length=n at *
  have H:=hide hn;clear hn
  go_enter Tryz.func89,Tryz.ntmps89
  go_wp2_with fail
  go_ret
  have h2:Rd (w.alloc (.cells #[.slice a n c, .int .i64 0] 162)) w.heap.size a c xs 0:=
   ⟨by simp,by rw [H.out];simp [go_sem],by simp [go_sem],by simp [go_sem],by rw [H.out];exact HX.out.below ((Below.refl _ _).alloc (Nat.le_refl _) _),HXR.out,hb,by omega⟩
  exact ⟨w.heap.size,a,c,_,rfl,h2,Nat.le_refl _,(Below.refl _ _).alloc (Nat.le_refl _) _⟩
end Go.Proofs.YtkfhgnkonaafgaaGreatDoor
namespace Go.Proofs.YtkfhgnkonaafgaaGreatDoor
open Go.RowKit
theorem below_of_outside {b:Nat} {w w':World} {B:Nat} (h:Outside b (b+1) w w') (hB:B≤b) (hB2:B≤w.heap.size):Below B w w':=h.below hB hB2
end Go.Proofs.YtkfhgnkonaafgaaGreatDoor
namespace Go.Proofs.YtkfhgnkonaafgaaGreatDoor
open Go.RowKit
inductive OwnR (T:TypeId) (w:World):(Nat→Prop)→Slc→List Re→Prop
 | nil {S:Nat→Prop}:OwnR T w S ⟨none,0,0⟩ []
 | node {S:Nat→Prop} {g n cap:Nat} {us:List Rs} {ks:List Re} (C:Nat→Nat→Prop) (h1:us.length=ks.length) (h2:Own RsE T w 0 (.slice (some ⟨g,0,none⟩) n cap) us) (h3:S g)
  (h4:∀ i q,C i q→S q) (h5:∀ i,¬ C i g) (h6:∀ i j q,C i q→C j q→i=j)
  (h7:∀ (i:Nat) (u:Rs) (k:Re),us[i]? = some u→ks[i]? = some k→u.op=k.op∧u.nm=k.nm)
  (h8:∀ (i:Nat) (u:Rs) (k:Re),us[i]? = some u→ks[i]? = some k→OwnR T w (C i) u.s k.kids) :
  OwnR T w S ⟨some ⟨g,0,none⟩,n,cap⟩ ks
theorem OwnR.keep {T:TypeId} {w w':World} {S:Nat→Prop} {s:Slc} {ks:List Re} (h:OwnR T w S s ks) (hk:∀ q,S q→q < w.heap.size→w'.heap[q]? = w.heap[q]?):OwnR T w' S s ks:=by
 induction h with
 | nil=>exact .nil
 | node C h1 h2 h3 h4 h5 h6 h7 h8 ih =>
  rename_i S g n cap us ks
  have hg:=World.ownsRow.lt h2 g rfl
  refine .node C h1 ?_ h3 h4 h5 h6 h7 (fun i u k hu hkk=>ih i u k hu hkk (fun q hq1 hq2=>hk q (h4 i q hq1) hq2))
  refine ⟨h2.1, ?_⟩
  rcases h2.2 with ⟨hn,_⟩ | ⟨g',cap',cur,hv,hb1,hgg,rest⟩
  ·simp at hn
  ·simp only [Value.slice.injEq,Option.some.injEq,Addr.mk.injEq,and_true] at hv
   obtain ⟨rfl,rfl,rfl⟩:=hv
   exact .inr ⟨g,cap,cur,rfl,hb1,(hk g h3 hg.2).trans hgg,rest⟩
theorem OwnR.bel {T:TypeId} {w w':World} {S:Nat→Prop} {s:Slc} {ks:List Re} (h:OwnR T w S s ks) (hb:Below w.heap.size w w'):OwnR T w' S s ks:=h.keep fun q _ hq=>hb.block q hq
theorem OwnR.set {T:TypeId} {w:World} {S:Nat→Prop} {s:Slc} {ks:List Re} (h:OwnR T w S s ks) {g:Nat} (hg:¬ S g) (j:Nat) (u:Value):OwnR T (w.setCell ⟨g,j,none⟩ u) S s ks:=
 h.keep fun q hq _=>heap_setCell_other w ⟨g,j,none⟩ q u (show q≠g from fun e=>hg (e ▸ hq))
theorem OwnR.wide {T:TypeId} {w:World} {S S':Nat→Prop} {s:Slc} {ks:List Re} (h:OwnR T w S s ks) (hs:∀ q,S q→S' q):OwnR T w S' s ks:=by
 cases h with
 | nil=>exact .nil
 | node C h1 h2 h3 h4 h5 h6 h7 h8=>exact .node C h1 h2 (hs _ h3) (fun i q hq=>hs q (h4 i q hq)) h5 h6 h7 h8
theorem OwnR.rep {T:TypeId} {w:World} {S:Nat→Prop} {s:Slc} {ks:List Re} {lo:Nat} (h:OwnR T w S s ks) (hl:∀ q,S q→lo≤q):RepRk lo w s ks:=by
 induction h with
 | nil=>exact RepRk.nil _ _
 | node C h1 h2 h3 h4 h5 h6 h7 h8 ih =>
  rename_i S g n cap us ks
  have hn:=h2.len
  subst hn
  refine ⟨us,h1,h2.rep, .inr fun b o e => ?_,fun i u k hu hkk => ?_⟩
  ·simp only [Option.some.injEq,Addr.mk.injEq,and_true] at e;rw [← e.1];exact hl g h3
  ·have hr:=ih i u k hu hkk (fun q hq=>hl q (h4 i q hq))
   obtain ⟨e1,e2⟩:=h7 i u k hu hkk
   have e:=hr.cond u.op u.nm
   rw [e1,e2,Re.eta] at e
   rw [← e1,← e2] at e
   exact e
theorem OwnR.one {T:TypeId} {w:World} {S S':Nat→Prop} {s:Slc} {ks:List Re} (h:OwnR T w S s ks) (hS:∀ q,S q→q < w.heap.size) (hs:∀ q,S q→S' q) (hg:S' w.heap.size) (o:Int) (p:ByteArray) :
 OwnR T (w.alloc (.cells #[.int .i64 o, .string p, .slice s.a s.n s.cap] T)) S' ⟨some ⟨w.heap.size,0,none⟩,1,1⟩ [.mk o p ks]:=by
 refine .node (us:=[⟨o,p,s⟩]) (fun i q=>i=0∧S q) rfl ?_ hg (fun i q hq=>hs q hq.2) (fun i hq=>by have:=hS _ hq.2;omega) (fun i j q a b=>by omega) ?_ ?_
 ·exact ⟨rfl, .inr ⟨w.heap.size,1,#[.int .i64 o, .string p, .slice s.a s.n s.cap],rfl,Nat.zero_le _,heap_alloc_new w _,Nat.le_refl _,by unfold maxLen;omega,rfl,rfl⟩⟩
 ·intro i u k hu hk
  cases i with
  | zero=>simp at hu hk;subst hu;subst hk;exact ⟨rfl,rfl⟩
  | succ i=>simp at hu
 ·intro i u k hu hk
  cases i with
  | zero=>simp at hu hk;subst hu;subst hk;exact ((h.bel (belowAlloc w _)).wide fun q hq=>⟨rfl,hq⟩)
  | succ i=>simp at hu
theorem OwnR.two {T:TypeId} {w:World} {S1 S2 S':Nat→Prop} {s s':Slc} {ks ks':List Re} (h:OwnR T w S1 s ks) (h':OwnR T w S2 s' ks') (hS1:∀ q,S1 q→q < w.heap.size) (hS2:∀ q,S2 q→q < w.heap.size) (hd:∀ q,S1 q→S2 q→False) (hs1:∀ q,S1 q→S' q) (hs2:∀ q,S2 q→S' q) (hg:S' w.heap.size) (o o':Int) (p p':ByteArray) :
 OwnR T (w.alloc (.cells #[.int .i64 o, .string p, .slice s.a s.n s.cap, .int .i64 o', .string p', .slice s'.a s'.n s'.cap] T)) S' ⟨some ⟨w.heap.size,0,none⟩,2,2⟩ [.mk o p ks, .mk o' p' ks']:=by
 refine .node (us:=[⟨o,p,s⟩,⟨o',p',s'⟩]) (fun i q=>(i=0∧S1 q)∨(i=1∧S2 q)) rfl ?_ hg (fun i q hq => ?_) (fun i hq => ?_) (fun i j q a b => ?_) ?_ ?_
 ·exact ⟨rfl, .inr ⟨w.heap.size,2,_,rfl,Nat.zero_le _,heap_alloc_new w _,Nat.le_refl _,by unfold maxLen;omega,rfl,rfl⟩⟩
 ·rcases hq with ⟨_,hq⟩ | ⟨_,hq⟩
  ·exact hs1 q hq
  ·exact hs2 q hq
 ·rcases hq with ⟨_,hq⟩ | ⟨_,hq⟩
  ·have:=hS1 _ hq;omega
  ·have:=hS2 _ hq;omega
 ·rcases a with ⟨a,a2⟩ | ⟨a,a2⟩ <;> rcases b with ⟨b,b2⟩ | ⟨b,b2⟩
  ·omega
  ·exact (hd q a2 b2).elim
  ·exact (hd q b2 a2).elim
  ·omega
 ·intro i u k hu hk
  match i,hu,hk with
  | 0,hu,hk=>simp at hu hk;subst hu;subst hk;exact ⟨rfl,rfl⟩
  | 1,hu,hk=>simp at hu hk;subst hu;subst hk;exact ⟨rfl,rfl⟩
  | i+2,hu,hk=>simp at hu
 ·intro i u k hu hk
  match i,hu,hk with
  | 0,hu,hk=>simp at hu hk;subst hu;subst hk;exact (h.bel (belowAlloc w _)).wide fun q hq => .inl ⟨rfl,hq⟩
  | 1,hu,hk=>simp at hu hk;subst hu;subst hk;exact (h'.bel (belowAlloc w _)).wide fun q hq => .inr ⟨rfl,hq⟩
  | i+2,hu,hk=>simp at hu
def Made' (w w':World) (q:Nat):Prop:=w.heap.size≤q∧q < w'.heap.size
def RetPR (w:World) (r:Re × Int) (e:Ending) (w':World):Prop:=
 ∃ (o:Int) (nm:ByteArray) (ks:List Re) (s:Slc),r.1 = .mk o nm ks∧e = .returned (.tuple #[.agg #[.int .i64 o, .string nm, .slice s.a s.n s.cap], .int .i64 r.2])∧OwnR 75 w' (Made' w w') s ks∧Below w.heap.size w w'
end Go.Proofs.YtkfhgnkonaafgaaGreatDoor
namespace Go.Proofs.YtkfhgnkonaafgaaGreatDoor
open Go.RowKit
def TestsN_i_OutcomeValid_1 (f:Int→Bool):Prop:=∀ (x:Int) (w:World),Calls Tryz.prog 74 #[.int .i64 x] w fun e w'=>e = .returned (.bool (f x))∧Below w.heap.size w w'
theorem IndexFuncN_i_OutcomeValid_1 (v:Value) (xs:List Int) (f:Int→Bool) (w:World) (hx:Rep IntE w v xs) (hf:TestsN_i_OutcomeValid_1 f) :
 Calls Tryz.prog 118 #[v, .func (.func 74) #[] #[]] w fun e w'=>(∃ q:Int,e = .returned (.int .i64 q)∧IdxOf f xs q)∧Below w.heap.size w w':=by
 obtain ⟨a,c,rfl,hc1,hc2,hc3,hx⟩:=hx.open
 have HX:=hide hx;clear hx
 have HF:=hide hf;clear hf
 generalize hn:xs.length=n at *
 have H:=hide hn;clear hn
 go_enter Tryz.func118,Tryz.ntmps118
 go_wp2_with fail
 go_loopw [8] (fun i wr => ∃ t:Nat,t≤n∧i = .int .i64 t∧Hid (∀ x∈xs.take t,f x=false)∧Below w.heap.size w wr) (fun i _=>n - (intOf i).toNat)
 case atStart=>exact ⟨0,Nat.zero_le _,rfl,hide (by simp),Below.refl _ _⟩
 case round =>
  obtain ⟨t,ht,rfl,hno,hb⟩:=hrel
  by_cases hlt:t < n
  ·obtain ⟨x,hxk⟩:=get_of_lt (xs:=xs) (k:=t) (by rw [H.out];exact hlt)
   obtain ⟨b,o,rfl,hbl,i0⟩:=(HX.out.below hb).int hxk
   have hlt':=nat_of_lt hlt
   have X:=hide hxk;clear hxk
   generalize hfx:f x=fx
   have FX:=hide hfx;clear hfx
   have hcall:=HF.out x
   rw [FX.out] at hcall
   have HC:=hide hcall;clear hcall
   cases fx
   ·have NO:Hid (∀ x∈xs.take (t+1),f x=false):=hide (none_succ hno.out X.out FX.out)
    go_wp2_with fail
    (with_reducible refine (HC.out _).mono ?_);rintro e w2 ⟨rfl,hb2⟩
    go_wp2_with fail
    go_roundw
    case rel=>exact ⟨t+1,by omega,by go_num,NO,hb.trans (hb2.mono hb.size)⟩
    case measure=>simp [intOf];omega
   ·go_wp2_with fail
    (with_reducible refine (HC.out _).mono ?_);rintro e w2 ⟨rfl,hb2⟩
    go_wp2_with fail
    go_ret
    exact ⟨⟨_,rfl, .inr ⟨t,x,rfl,X.out,FX.out,hno.out⟩⟩,hb.trans (hb2.mono hb.size)⟩
  ·go_wp2_with fail
   go_ret
   refine ⟨⟨_,rfl, .inl ⟨rfl, ?_⟩⟩,hb⟩
   have h:=hno.out
   rwa [List.take_of_length_le (by rw [H.out];omega)] at h
theorem ContainsFuncN_i_OutcomeValid_1 (v:Value) (xs:List Int) (f:Int→Bool) (w:World) (hx:Rep IntE w v xs) (hf:TestsN_i_OutcomeValid_1 f) :
 Calls Tryz.prog 73 #[v, .func (.func 74) #[] #[]] w fun e w'=>e = .returned (.bool (xs.any f))∧Below w.heap.size w w':=by
 have HI:=hide (IndexFuncN_i_OutcomeValid_1 v xs f w hx hf)
 obtain ⟨a,c,rfl, -⟩:=hx.open
 clear hx hf
 go_enter Tryz.func73,Tryz.ntmps73
 go_wp2_with fail
 (with_reducible refine HI.out.mono ?_);rintro e w1 ⟨⟨q,rfl,hq⟩,hb1⟩
 have E:Hid (decide (0≤q)=xs.any f):=hide hq.any
 clear hq
 go_wp2_with fail
 go_ret
 exact ⟨by rw [← E.out];rfl,hb1⟩
theorem OutcomeValid_1:TestsN_i_OutcomeValid_1 (fun x => !inB x 0 3):=by
 intro x w
 have HC:=hide (fun w'=>within_any x 0 3 w')
 show Calls _ _ _ _ fun e w'=>e = .returned (.bool (!inB x 0 3))∧_
 generalize inB x 0 3=R at *
 go_enter Tryz.func74,Tryz.ntmps74
 go_wp2_with (go_at_call 75;(with_reducible refine (HC.out _).mono ?_);rintro e w1 ⟨rfl,rfl⟩)
 go_ret
 exact ⟨rfl,Below.refl _ _⟩
def outValid (p:List (List Ins)) (o:List Int):Bool:=progValid p&&(decide (o.length=3 * p.length+3)&&o.all fun x=>inB x 0 3)
theorem OutcomeValid_any (v v':Value) (p:List (List Ins)) (o:List Int) (w:World) (hp:RepP w v p) (ho:Rep IntE w v' o) (hl:p.flatten.length≤1048576) (hpl:p.length≤1048576) :
 Calls Tryz.prog 41 #[v,v'] w fun e w'=>e = .returned (.bool (outValid p o))∧Below w.heap.size w w':=by
 have HP:=hide hp;have HO:=hide ho
 have HV:=hide (ProgramValid_any v p w hp hl)
 have HC:=hide (fun w' h=>ContainsFuncN_i_OutcomeValid_1 v' o _ w' h OutcomeValid_1)
 obtain ⟨a,c,rfl,hc1,hc2,hc3, -⟩:=hp.open
 obtain ⟨a',c',rfl,hc1',hc2',hc3', -⟩:=ho.open
 have E:Hid (outValid p o=(progValid p&&(decide (o.length=3 * p.length+3)&&o.all fun x=>inB x 0 3))):=hide rfl
 have EA:Hid ((o.any fun x => !inB x 0 3) = !(o.all fun x=>inB x 0 3)):=hide (by rw [List.not_all_eq_any_not])
 clear hp ho
 generalize outValid p o=R at *
 generalize progValid p=b at *
 generalize (o.any fun x => !inB x 0 3)=A at *
 generalize (o.all fun x=>inB x 0 3)=D at *
 generalize p.length=n at *
 generalize o.length=m at *
 cases b
 ·obtain rfl:R=false:=by rw [E.out];rfl
  go_enter Tryz.func41,Tryz.ntmps41
  go_wp2_with fail
  (with_reducible refine HV.out.mono ?_);rintro e w1 ⟨rfl,hb1⟩
  go_wp2_with fail
  go_ret
  exact ⟨rfl,hb1⟩
 ·by_cases hm:m=3 * n+3
  ·have E2:Hid (R = !A):=hide (by rw [E.out,EA.out,hm];simp)
   have hm':((m:Int)==3 * (n:Int)+2+1)=true:=by simp;omega
   clear hm
   go_enter Tryz.func41,Tryz.ntmps41
   go_wp2_with fail
   (with_reducible refine HV.out.mono ?_);rintro e w1 ⟨rfl,hb1⟩
   go_wp2_with fail
   (with_reducible refine (HC.out _ (HO.out.below hb1)).mono ?_);rintro e w2 ⟨rfl,hb2⟩
   go_wp2_with fail
   go_ret
   exact ⟨by rw [E2.out];rfl,hb1.trans (hb2.mono hb1.size)⟩
  ·obtain rfl:R=false:=by rw [E.out];simp [hm]
   have hm':((m:Int)==3 * (n:Int)+2+1)=false:=by simp;omega
   clear hm
   go_enter Tryz.func41,Tryz.ntmps41
   go_wp2_with fail
   (with_reducible refine HV.out.mono ?_);rintro e w1 ⟨rfl,hb1⟩
   go_wp2_with fail
   go_ret
   exact ⟨rfl,hb1⟩
end Go.Proofs.YtkfhgnkonaafgaaGreatDoor
namespace Go.Proofs.YtkfhgnkonaafgaaGreatDoor
open Go.RowKit
theorem eqClo_any (v v':Value) (xs ys:List Int) (w:World) (hx:Rep IntE w v xs) (hy:Rep IntE w v' ys) :
 Calls Tryz.prog 88 #[v,v'] w fun e w'=>e = .returned (.bool (decide (xs=ys)))∧Below w.heap.size w w':=by
 have H:=hide (EqualN_any v v' xs ys w hx hy)
 clear hx hy
 generalize decide (xs=ys)=D at *
 go_enter Tryz.func88,Tryz.ntmps88
 go_wp2_with (go_at_call 44;(with_reducible refine H.out.mono ?_);rintro e w1 ⟨rfl,hb1⟩)
 go_ret
 exact ⟨rfl,hb1⟩
def RetCmp (w:World) (base:Nat) (n:Nat) (l:List (Slc × List Int)) (e:Ending) (w':World):Prop:=
 ∃ v r,e = .returned v∧Own PrE 24 w' base v r∧CI l n l.length r∧(∀ x∈l,Own IntE 3 w' base x.1.v x.2)∧KpT [24] base w w'
theorem rows_kp {w w':World} {base:Nat} {l:List (Slc × List Int)} (h:∀ x∈l,Own IntE 3 w base x.1.v x.2) (k:KpT [24] base w w'):∀ x∈l,Own IntE 3 w' base x.1.v x.2:=fun x hx=>(LocT.own (B:=base) (L:=[24]) (h x hx) (by decide)).keep w' k
def CmpIn (w:World) (base g c0 n:Nat) (l:List (Slc × List Int)) (m j kk:Nat) (wr:World):Prop:=
 ∃ c,Own PrE 24 wr base (.slice (some ⟨g,0,none⟩) m c0) c∧c.length=m∧c.drop j=l.drop j∧CI l n (j+1) (c.take kk)∧(∀ x∈c,x∈l)∧KpT [24] base w wr
theorem Compact_any (base g c0 n:Nat) (l:List (Slc × List Int)) (w:World) (ho:Own PrE 24 w base (.slice (some ⟨g,0,none⟩) l.length c0) l) (hr:∀ x∈l,Own IntE 3 w base x.1.v x.2)
 (hn:∀ x∈l,x.2.length=n) (hs:l.Pairwise fun a b=>lexO a.2 b.2≠1) (hl:l.length≤68719476736) :
 Calls Tryz.prog 87 #[.slice (some ⟨g,0,none⟩) l.length c0, .func (.func 88) #[] #[]] w (RetCmp w base n l):=by
 have HR:=hide hr;have HN:=hide hn;have HS:=hide hs;have HO:=hide ho
 have hcap:l.length≤c0:=by
  rcases ho.shape with ⟨e,_⟩ | ⟨g',cap',e,_,_,h5,_⟩
  ·simp at e
  ·simp only [Value.slice.injEq] at e;omega
 have hgl:=World.ownsRow.lt ho g rfl
 clear hr hn hs ho
 obtain ⟨m,hm⟩:∃ m,m=l.length:=⟨_,rfl⟩
 rw [← hm] at HO hcap hl ⊢
 have HM:=hide hm
 clear hm
 by_cases h2:m < 2
 ·have F:Hid (RetCmp w base n l (.returned (.slice (some ⟨g,0,none⟩) m c0)) w):=hide (by
   refine ⟨_,l,rfl,by rw [HM.out] at HO ⊢;exact HO.out, ?_,HR.out, .refl _ _ _⟩
   match l,HM.out,HN.out with
   | [],_,_=>exact ⟨⟨fun o h=>by simp at h, .nil⟩,fun o=>by simp,fun x hx=>by simp at hx,fun x hx=>hx⟩
   | [x],_,h=>exact CI.start rfl (h x (by simp))
   | x :: y :: l',h,_=>simp at h;omega)
  have h2':(m:Int) < 2:=by omega
  go_enter Tryz.func87,Tryz.ntmps87
  go_wp2_with fail
  go_ret
  exact F.out
 ·have h2':¬ (m:Int) < 2:=by omega
  go_enter Tryz.func87,Tryz.ntmps87
  go_wp2_with fail
  have HC1:Hid (CI l n 1 (l.take 1)):=hide (by
   obtain ⟨x,hx⟩:=get_of_lt (xs:=l) (k:=0) (by rw [← HM.out];omega)
   have:=CI.start hx (HN.out x (List.mem_of_getElem? hx))
   rwa [show l.take 1=[x] by cases l with | nil=>simp at hx | cons z l=>simp at hx;simp [hx]])
  go_loopw [5] (fun i wr => ∃ q:Nat,q+1≤m∧i = .int .i64 ((q+1:Nat):Int)∧CI l n (q+1) (l.take (q+1))∧Below w.heap.size w wr) (fun i _=>m - (intOf i).toNat)
  case atStart=>exact ⟨0,by omega,rfl,HC1.out,Below.refl _ _⟩
  case round =>
   obtain ⟨q,hq,rfl,hci,hbl⟩:=hrel
   have CI0:=hide hci;have BL:=hide hbl
   have HO1:=hide (HO.out.below hbl)
   have HR1:=hide (fun x hx=>(HR.out x hx).below hbl)
   clear hci
   by_cases hlt:q+1 < m
   ·have hlt':=nat_of_lt hlt
    have hltq:(q:Int) < (m:Int):=by omega
    obtain ⟨⟨⟨xa,xn,xk⟩,xo⟩,hx⟩:=get_of_lt (xs:=l) (k:=q+1) (by rw [← HM.out];exact hlt)
    obtain ⟨⟨⟨ya,yn,yk⟩,yo⟩,hy⟩:=get_of_lt (xs:=l) (k:=q) (by rw [← HM.out];omega)
    have x0:wr.cell? ⟨g,(q+1) * 1+0,none⟩=some (.slice xa xn xk):=HO1.out.cell hx (j:=0) rfl
    have y0:wr.cell? ⟨g,q * 1+0,none⟩=some (.slice ya yn yk):=HO1.out.cell hy (j:=0) rfl
    rw [Nat.mul_one,Nat.add_zero] at x0 y0
    have xl:=lt_of_cell x0
    have HE:=hide (fun X:BW wr=>eqClo_any (.slice xa xn xk) (.slice ya yn yk) xo yo X.val ((HR1.out _ (List.mem_of_getElem? hx)).rep.below X.prop) ((HR1.out _ (List.mem_of_getElem? hy)).rep.below X.prop))
    have HXE:=hide hx;have HYE:=hide hy
    clear hx hy hbl
    by_cases he:xo=yo
    ·simp only [he,decide_true] at HE
     go_wp2_with fail
     refine wp_region_bw (by kernel_rfl) (by kernel_rfl) ?_
     repeat (go_big_quiet_step ((go_at_call 88;(with_reducible exact Calls.bw (HE.out _)))))
     refine wpQuiet_nil ?_
     intro w1 hw1
     subst he
     have CI1:=hide (CI0.out.same (by omega) HXE.out HYE.out rfl)
     have B1:=hide (BL.out.trans (hw1.mono BL.out.size))
     have HOW:=hide (HO.out.below B1.out)
     have hqc:q+1 < c0:=by omega
     have hqe:(c0==q+1)=false:=by simp;omega
     have hqe2:¬ c0=q+1:=by omega
     clear hw1 HE x0 y0 xl
     go_wp2_with fail
     go_loopw [5,7] (fun a b wr => ∃ kk z:Nat,q+2+z≤m∧1≤kk∧kk≤q+1+z∧a = .int .i64 (kk:Int)∧b = .int .i64 ((z+1:Nat):Int)∧CmpIn w base g c0 n l m (q+1+z) kk wr) (fun _ b _=>m - (intOf b).toNat)
     case atStart=>exact ⟨q+1,0,by omega,by omega,by omega,rfl,rfl,l,HOW.out,HM.out.symm,rfl,CI1.out,(fun x hx=>hx), .of_below B1.out⟩
     case round =>
      obtain ⟨kk,z,hz,hk1,hkz,rfl,rfl,c,hoc,hcl,hdr,hci,hsub,hkp⟩:=hrel
      have OC:=hide hoc;have CL:=hide hcl;have DR:=hide hdr;have CIz:=hide hci;have SB:=hide hsub;have KP:=hide hkp
      have RW:=hide (rows_kp HR.out hkp)
      clear hcl hdr hci hsub hkp
      by_cases hlt2:q+2+z < m
      ·have hl3:z+1 < m - (q+1):=by omega
       have hl4:z < m - (q+1):=by omega
       have hl5:((z:Int)+1) < ((m - (q+1):Nat):Int):=by omega
       have hl6:(z:Int) < ((m - (q+1):Nat):Int):=by omega
       have hkm:kk < m:=by omega
       have hkm2:(kk:Int) < (m:Int):=by omega
       obtain ⟨⟨⟨xa,xn,xk⟩,xo⟩,hx⟩:=get_of_lt (xs:=l) (k:=q+2+z) (by rw [← HM.out];exact hlt2)
       obtain ⟨⟨⟨ya,yn,yk⟩,yo⟩,hy⟩:=get_of_lt (xs:=l) (k:=q+1+z) (by rw [← HM.out];omega)
       have hcx:c[q+2+z]? = some (⟨xa,xn,xk⟩,xo):=by
        have:=congrArg (fun t=>t[1]?) DR.out
        simp only [List.getElem?_drop] at this
        rw [show q+2+z=q+1+z+1 by omega] at hx ⊢
        exact this.trans hx
       have hcy:c[q+1+z]? = some (⟨ya,yn,yk⟩,yo):=by
        have:=congrArg (fun t=>t[0]?) DR.out
        simp only [List.getElem?_drop,Nat.add_zero] at this
        exact this.trans hy
       have x0:wr.cell? ⟨g,(q+2+z) * 1+0,none⟩=some (.slice xa xn xk):=hoc.cell hcx (j:=0) rfl
       have y0:wr.cell? ⟨g,(q+1+z) * 1+0,none⟩=some (.slice ya yn yk):=hoc.cell hcy (j:=0) rfl
       rw [Nat.mul_one,Nat.add_zero,show q+2+z=q+1+(z+1) by omega] at x0
       rw [Nat.mul_one,Nat.add_zero] at y0
       have xl:=lt_of_cell x0
       have HE:=hide (fun X:BW wr=>eqClo_any (.slice xa xn xk) (.slice ya yn yk) xo yo X.val ((RW.out _ (List.mem_of_getElem? hx)).rep.below X.prop) ((RW.out _ (List.mem_of_getElem? hy)).rep.below X.prop))
       have HXE:=hide hx;have HYE:=hide hy;have HCX:=hide hcx
       have hd1:c.drop (q+1+(z+1))=l.drop (q+1+(z+1)):=by
        have:=congrArg (List.drop 1) DR.out
        rw [List.drop_drop,List.drop_drop] at this
        exact this
       have HD1:=hide hd1
       clear hx hy hcx hcy hd1 hoc
       by_cases he:xo=yo
       ·simp only [he,decide_true] at HE
        go_wp2_with fail
        refine wp_region_bw (by kernel_rfl) (by kernel_rfl) ?_
        repeat (go_big_quiet_step ((go_at_call 88;(with_reducible exact Calls.bw (HE.out _)))))
        refine wpQuiet_nil ?_
        intro w2 hw2
        subst he
        have HF:Hid (CmpIn w base g c0 n l m (q+1+(z+1)) kk w2):=hide ⟨c,OC.out.below hw2,CL.out,HD1.out,by
         have:=CIz.out.same (by omega) (x:=(⟨xa,xn,xk⟩,xo)) (y:=(⟨ya,yn,yk⟩,xo)) (by rw [show q+1+z+1=q+2+z by omega];exact HXE.out) (by rw [Nat.add_sub_cancel];exact HYE.out) rfl
         exact this,SB.out,KP.out.trans (.of_below hw2)⟩
        clear hw2
        go_wp2_with fail
        go_roundw
        case rel=>exact ⟨kk,z+1,by omega,hk1,by omega,rfl,by go_num,HF.out⟩
        case measure=>simp [intOf];omega
       ·have hed:decide (xo=yo)=false:=by simpa using he
        rw [hed] at HE
        go_wp2_with fail
        refine wp_region_bw (by kernel_rfl) (by kernel_rfl) ?_
        repeat (go_big_quiet_step ((go_at_call 88;(with_reducible exact Calls.bw (HE.out _)))))
        refine wpQuiet_nil ?_
        intro w2 hw2
        have OC2:=hide (OC.out.below hw2)
        have x2:=(hw2.cell (p:=⟨g,q+1+(z+1),none⟩) xl).trans x0
        have hfz:=OC2.out.frozen
        have xl2:=lt_of_cell x2
        obtain ⟨⟨⟨ka,kn,kc⟩,ko⟩,hck⟩:=get_of_lt (xs:=c) (k:=kk) (by rw [CL.out];exact hkm)
        have k0:w2.cell? ⟨g,kk * 1+0,none⟩=some (.slice ka kn kc):=OC2.out.cell hck (j:=0) rfl
        rw [Nat.mul_one,Nat.add_zero] at k0
        have hset:=OC2.out.set (i:=kk) (j:=0) (x:=(⟨ka,kn,kc⟩,ko)) (⟨xa,xn,xk⟩,xo) (u:=.slice xa xn xk) (by decide) hck rfl
        have KP2:=hide ((KP.out.trans (.of_below hw2)).trans (KpT.setT (T:=24) (L:=[24]) (B:=base) (g:=g) (j:=kk) (w:=w2) (by obtain ⟨a,ha⟩:=OC2.out.typeT (g:=g) rfl;exact ⟨a,ha⟩) (by simp) hgl.1 (.slice xa xn xk)))
        simp only [PrE,Nat.mul_one,Nat.add_zero] at hset
        have HSET:=hide hset
        have CIn:=hide (CIz.out.more (by omega) (x:=(⟨xa,xn,xk⟩,xo)) (y:=(⟨ya,yn,yk⟩,yo)) (by rw [show q+1+z+1=q+2+z by omega];exact HXE.out) (by rw [Nat.add_sub_cancel];exact HYE.out) HS.out HN.out he)
        have HKL:Hid (kk < c.length):=hide (by rw [CL.out];exact hkm)
        have HF:Hid (CmpIn w base g c0 n l m (q+1+(z+1)) (kk+1) (w2.setCell ⟨g,kk,none⟩ (.slice xa xn xk))):=hide (by
         refine ⟨c.set kk (⟨xa,xn,xk⟩,xo),HSET.out,by rw [List.length_set];exact CL.out, ?_, ?_,fun y hy => ?_,KP2.out⟩
         ·rw [List.drop_set_of_lt (by omega)];exact HD1.out
         ·have e:(c.set kk (⟨xa,xn,xk⟩,xo)).take (kk+1)=c.take kk++[(⟨xa,xn,xk⟩,xo)]:=by
           rw [List.take_add_one,List.take_set_of_le (Nat.le_refl _),List.getElem?_set_self HKL.out]
           rfl
          rw [e];exact CIn.out
         ·rcases List.mem_or_eq_of_mem_set hy with h | h
          ·exact SB.out y h
          ·rw [h];exact List.mem_of_getElem? HXE.out)
        clear hw2 hset hck HE x0 y0 xl
        go_wp2_with fail
        go_roundw
        case rel=>exact ⟨kk+1,z+1,by omega,by omega,by omega,by go_num,by go_num,HF.out⟩
        case measure=>simp [intOf];omega
      ·have hzm:q+2+z=m:=by omega
       have hl3:¬ z+1 < m - (q+1):=by omega
       have hl5:¬ ((z:Int)+1) < ((m - (q+1):Nat):Int):=by omega
       have hkm:kk < m:=by omega
       have hkm2:(kk:Int) < (m:Int):=by omega
       have hkc:(c0==kk)=false:=by simp;omega
       have hkc2:¬ c0=kk:=by omega
       clear hoc
       go_wp2_with (refine wpList_clear PrE 24 (⟨none,0,0⟩,[]) Tryz.infoIntSM rfl Tryz.underlying27 base g m c0 kk _ c OC.out hkm rfl _ rfl (by simp [PrE];rfl) ?_;intro w3 ho3 hgr3)
       have hkl:(c.take kk).length=kk:=by rw [List.length_take,CL.out];omega
       have hcut:=ho3.cut (i:=kk) (by omega)
       rw [List.take_left' hkl] at hcut
       have K3:KpT [24] base w w3:=KP.out.trans (.grown OC.out (by simp) (Nat.le_refl _) hgr3)
       have F:Hid (RetCmp w base n l (.returned (.slice (some ⟨g,0,none⟩) kk c0)) w3):=hide ⟨_,c.take kk,rfl,hcut,by
        have:=CIz.out
        rw [show q+1+z+1=l.length by rw [← HM.out];omega] at this
        exact this,rows_kp HR.out K3,K3⟩
       clear hcut K3 ho3 hgr3
       go_ret
       exact F.out
    ·have hed:decide (xo=yo)=false:=by simpa using he
     rw [hed] at HE
     go_wp2_with fail
     refine wp_region_bw (by kernel_rfl) (by kernel_rfl) ?_
     repeat (go_big_quiet_step ((go_at_call 88;(with_reducible exact Calls.bw (HE.out _)))))
     refine wpQuiet_nil ?_
     intro w1 hw1
     have CI1:Hid (CI l n (q+1+1) (l.take (q+1+1))):=hide (by
      have:=CI0.out.more (by omega) HXE.out HYE.out HS.out HN.out he
      rwa [List.take_add_one (i:=q+1),HXE.out])
     have BL1:=hide (BL.out.trans (hw1.mono BL.out.size))
     clear hw1
     go_wp2_with fail
     go_roundw
     case rel=>exact ⟨q+1,by omega,by go_num,CI1.out,BL1.out⟩
     case measure=>simp [intOf];omega
   ·have E:Hid (q+1=m):=hide (by omega)
    have F:Hid (RetCmp w base n l (.returned (.slice (some ⟨g,0,none⟩) m c0)) wr):=hide (by
     refine ⟨_,l,rfl,HO1.out, ?_,HR1.out, .of_below BL.out⟩
     have:=CI0.out
     rw [E.out,HM.out,List.take_length] at this
     exact this)
    go_wp2_with fail
    go_ret
    exact F.out
end Go.Proofs.YtkfhgnkonaafgaaGreatDoor
namespace Go.Proofs.YtkfhgnkonaafgaaGreatDoor
open Go.RowKit
end Go.Proofs.YtkfhgnkonaafgaaGreatDoor
namespace Go.Proofs.YtkfhgnkonaafgaaGreatDoor
open Go.RowKit
end Go.Proofs.YtkfhgnkonaafgaaGreatDoor
namespace Go.Proofs.YtkfhgnkonaafgaaGreatDoor
open Go.RowKit
structure Same (lo hi:Nat) (w w':World):Prop where
 os:w'.os=w.os
 tape:w'.tape=w.tape
 output:w'.output=w.output
 size:w.heap.size≤w'.heap.size
 block:∀ k,lo≤k→k < hi→w'.heap[k]? = w.heap[k]?
theorem Same.ofBelow {lo hi:Nat} {w w':World} (h:Below w.heap.size w w') (hh:hi≤w.heap.size):Same lo hi w w':=⟨h.os,h.tape,h.output,h.size,fun k _ h2=>h.block k (by omega)⟩
theorem Same.trans {lo hi:Nat} {a b c:World} (h:Same lo hi a b) (k:Same lo hi b c):Same lo hi a c:=⟨k.os.trans h.os,k.tape.trans h.tape,k.output.trans h.output,Nat.le_trans h.size k.size,fun q h1 h2=>(k.block q h1 h2).trans (h.block q h1 h2)⟩
def cut (hi:Nat) (w:World):World:={ w with heap:=w.heap.extract 0 hi }
end Go.Proofs.YtkfhgnkonaafgaaGreatDoor