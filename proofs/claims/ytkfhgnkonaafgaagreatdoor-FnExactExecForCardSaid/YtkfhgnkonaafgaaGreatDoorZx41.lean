/-
  The laws' copies of models, each part in a block of its own. Condition: bounds on sizes.
-/
import Derived.Test.YtkfhgnkonaafgaaGreatDoorZx39
import Derived.Test.YtkfhgnkonaafgaaGreatDoorZx40
import Derived.Test.YtkfhgnkonaafgaaGreatDoorZx08
import Derived.Test.YtkfhgnkonaafgaaGreatDoorZx25
set_option maxHeartbeats 6400000
set_option maxRecDepth 100000
namespace Go.Proofs.YtkfhgnkonaafgaaGreatDoor
open Go.RowKit
end Go.Proofs.YtkfhgnkonaafgaaGreatDoor
namespace Go.Proofs.YtkfhgnkonaafgaaGreatDoor
open Go.RowKit
theorem LocR.setOwn {α:Type} {E:El α} {T:TypeId} {lo hi base:Nat} {w:World} {v:Value} {xs:List α} {φ:World→Prop} (h:LocR T lo hi w φ) (ho:Own E T w base v xs) {g:Nat} (hg:v.ownBlock=some g) (j:Nat) (u:Value):LocR T lo hi (w.setCell ⟨g,j,none⟩ u) φ:=
 h.step (by simp) fun k ob _ _ h5 h6=>(heap_setCell_other w ⟨g,j,none⟩ k u (fun e=>by
  obtain ⟨a,ha⟩:=ho.typed hg
  have e2:k=g:=e
  rw [e2,ha] at h5
  exact h6 a _ (Option.some.inj h5).symm)).trans h5
end Go.Proofs.YtkfhgnkonaafgaaGreatDoor
namespace Go.Proofs.YtkfhgnkonaafgaaGreatDoor
open Go.RowKit
def RetRkO (w:World) (xs:List Re) (e:Ending) (w':World):Prop:=∃ s:Slc,e = .returned (.slice s.a s.n s.cap)∧OwnR 75 w' (Made' w w') s xs∧Below w.heap.size w w'
def RetReO (w:World) (o:Int) (p:ByteArray) (xs:List Re) (e:Ending) (w':World):Prop:=∃ s:Slc,e = .returned (.agg #[.int .i64 o, .string p, .slice s.a s.n s.cap])∧OwnR 75 w' (Made' w w') s xs∧Below w.heap.size w w'
def ToRkO (xs:List Re):Prop:=∀ (a:Option Addr) (n c:Nat) (w:World),RepRk 0 w ⟨a,n,c⟩ xs→descR xs≤1048576 →
 Calls Tryz.prog 117 #[.slice a n c] w (RetRkO w xs)
theorem toRel_ofO {xs:List Re} (H:ToRkO xs) (o:Int) (p:ByteArray) (a:Option Addr) (n c:Nat) (w:World) (h:RepRk 0 w ⟨a,n,c⟩ xs) (hl:descR xs≤1048576) :
 Calls Tryz.prog 72 #[.agg #[.int .i64 o, .string p, .slice a n c]] w (RetReO w o p xs):=by
 have HH:=hide h
 have HT:=hide (fun w' h'=>H a n c w' h' hl)
 clear h H
 go_enter Tryz.func72,Tryz.ntmps72
 go_wp2_with fail
 (with_reducible refine (HT.out _ (HH.out.below ((((Below.refl _ _).alloc (Nat.le_refl _) _).alloc (by simp) _).alloc (by simp;omega) _))).mono ?_);rintro e w1 ⟨s,rfl,hs,hb1⟩
 obtain ⟨hc1,hf1⟩:=bcell hb1
 have HS:=hide hs;have HB:=hide hb1
 clear hs hb1
 go_wp2_with fail
 have hsz:w.heap.size+3≤w1.heap.size:=by have:=HB.out.size;simp at this;omega
 refine bodyPost_ret (v:=.agg #[.int .i64 o, .string p, .slice s.a s.n s.cap]) (by simp [results,Tryz.results72,go_sem,hc1]) rfl ⟨s,rfl, ?_, ?_⟩
 ·have h:=HS.out
  have e:(((w.alloc (.cells #[.int .i64 o, .string p, .slice a n c] 62)).alloc (.cells #[.int .i64 0, .string ⟨#[]⟩, .slice none 0 0] 75)).alloc (.cells #[.int .i64 o, .string p, .slice none 0 0] 75)).heap.size=w.heap.size+1+1+1:=by simp
  unfold Made' at h
  rw [e] at h
  exact ((((h.set (by omega) _ _).set (by omega) _ _).set (by omega) _ _).set (by omega) _ _).wide (fun q hq=>by unfold Made';simp;omega)
 ·have h0:=(((Below.refl w.heap.size w).alloc (Nat.le_refl _) (.cells #[.int .i64 o, .string p, .slice a n c] 62)).alloc (by simp) (.cells #[.int .i64 0, .string ⟨#[]⟩, .slice none 0 0] 75)).alloc (by simp;omega) (.cells #[.int .i64 o, .string p, .slice none 0 0] 75)
  exact ((((h0.trans (HB.out.mono h0.size)).setCell (by simp;omega) _).setCell (by simp) _).setCell (by simp) _).setCell (by simp) _
structure CpR (wr:World) (B:Nat) (us:List Rs) (ds:List Dd) (xs:List Re) (k:Nat):Prop where
 lu:us.length=k
 ld:ds.length=k
 pw:ds.Pairwise fun a b=>a.hi≤b.lo
 hi:∀ d∈ds,B≤d.lo∧d.hi≤wr.heap.size
 row:∀ (i:Nat) (u:Rs) (d:Dd) (x:Re),us[i]? = some u→ds[i]? = some d→xs[i]? = some x→u.op=x.op∧u.nm=x.nm∧OwnR 75 wr (fun q=>d.lo≤q∧q < d.hi) u.s x.kids
theorem CpR.set {wr:World} {B:Nat} {us:List Rs} {ds:List Dd} {xs:List Re} {k:Nat} (h:CpR wr B us ds xs k) {g:Nat} (hg:g < B) (j:Nat) (v:Value):CpR (wr.setCell ⟨g,j,none⟩ v) B us ds xs k:=
 ⟨h.lu,h.ld,h.pw,fun d hd=>by simpa using h.hi d hd,fun i u d x h1 h2 h3=>⟨(h.row i u d x h1 h2 h3).1,(h.row i u d x h1 h2 h3).2.1,(h.row i u d x h1 h2 h3).2.2.set (fun e=>by have:=(h.hi d (List.mem_of_getElem? h2)).1;omega) j v⟩⟩
theorem CpR.snoc {wr w2:World} {B:Nat} {us:List Rs} {ds:List Dd} {xs:List Re} {k:Nat} (h:CpR wr B us ds xs k) {x:Re} (hx:xs[k]? = some x) {s:Slc} (hB:B≤wr.heap.size) (hb:Below wr.heap.size wr w2) (ho:OwnR 75 w2 (Made' wr w2) s x.kids):CpR w2 B (us++[⟨x.op,x.nm,s⟩]) (ds++[⟨wr.heap.size,w2.heap.size,[]⟩]) xs (k+1):=by
 refine ⟨by simp [h.lu],by simp [h.ld],List.pairwise_append.2 ⟨h.pw,by simp,fun a ha b hb'=>by simp at hb';subst hb';exact (h.hi a ha).2⟩,fun d hd => ?_,fun i u d y h1 h2 h3 => ?_⟩
 ·rcases List.mem_append.1 hd with hd | hd
  ·have:=h.hi d hd;have:=hb.size;omega
  ·simp at hd;subst hd;exact ⟨hB,Nat.le_refl _⟩
 ·by_cases hi:i < k
  ·rw [List.getElem?_append_left (by rw [h.lu];exact hi)] at h1
   rw [List.getElem?_append_left (by rw [h.ld];exact hi)] at h2
   obtain ⟨a,b,c⟩:=h.row i u d y h1 h2 h3
   exact ⟨a,b,c.bel hb⟩
  ·have hi2:i=k:=by
    have:=(List.getElem?_eq_some_iff.1 h1).1
    simp [h.lu] at this;omega
   subst hi2
   rw [List.getElem?_append_right (by rw [h.lu];omega),h.lu,Nat.sub_self] at h1
   rw [List.getElem?_append_right (by rw [h.ld];omega),h.ld,Nat.sub_self] at h2
   rw [hx] at h3
   simp at h1 h2 h3
   subst h1;subst h2;subst h3
   exact ⟨rfl,rfl,ho⟩
theorem CpR.own {wr:World} {B g n:Nat} {us:List Rs} {ds:List Dd} {xs:List Re} {S:Nat→Prop} (h:CpR wr B us ds xs n) (hn:xs.length=n) (ho:Own RsE 75 wr g (.slice (some ⟨g,0,none⟩) n n) us) (hg:g < B) (hS:S g) (hS2:∀ q,B≤q→q < wr.heap.size→S q):OwnR 75 wr S ⟨some ⟨g,0,none⟩,n,n⟩ xs:=by
 refine .node (us:=us) (fun i q => ∃ d,ds[i]? = some d∧d.lo≤q∧q < d.hi) (by rw [h.lu,hn]) (ho.mono (Nat.zero_le _)) hS ?_ ?_ ?_ ?_ ?_
 ·rintro i q ⟨d,hd,h1,h2⟩
  have:=h.hi d (List.mem_of_getElem? hd)
  exact hS2 q (by omega) (by omega)
 ·rintro i ⟨d,hd,h1,h2⟩
  have:=h.hi d (List.mem_of_getElem? hd)
  omega
 ·rintro i j q ⟨d,hd,h1,h2⟩ ⟨d',hd',h3,h4⟩
  obtain ⟨l1,rfl⟩:=List.getElem?_eq_some_iff.1 hd
  obtain ⟨l2,rfl⟩:=List.getElem?_eq_some_iff.1 hd'
  rcases Nat.lt_trichotomy i j with hij | hij | hij
  ·have:=List.pairwise_iff_getElem.1 h.pw i j l1 l2 hij;omega
  ·exact hij
  ·have:=List.pairwise_iff_getElem.1 h.pw j i l2 l1 hij;omega
 ·intro i u k hu hk
  obtain ⟨d,hd⟩:=get_of_lt (xs:=ds) (k:=i) (by rw [h.ld,← h.lu];exact (List.getElem?_eq_some_iff.1 hu).1)
  exact ⟨(h.row i u d k hu hd hk).1,(h.row i u d k hu hd hk).2.1⟩
 ·intro i u k hu hk
  obtain ⟨d,hd⟩:=get_of_lt (xs:=ds) (k:=i) (by rw [h.ld,← h.lu];exact (List.getElem?_eq_some_iff.1 hu).1)
  exact (h.row i u d k hu hd hk).2.2.wide fun q hq=>⟨d,hd,hq⟩
theorem toRkO_any:∀ xs,ToRkO xs:=Re.all (by
 intro xs ih a n c w hx hl
 obtain ⟨e1,hc1,hc2,hc3⟩:=hx.open
 simp only at e1 hc1 hc2 hc3
 have HX:=hide hx;have IH:=hide ih
 clear hx ih
 have H:=hide e1.symm
 clear e1
 rw [H.out] at hc1 hc2
 have hn:n≤1048576:=by have:=length_le_descR xs;rw [H.out] at this;omega
 go_enter Tryz.func117,Tryz.ntmps117
 go_wp2_with (at_make;refine wpList_make RsE 75 ⟨0,⟨#[]⟩,⟨none,0,0⟩⟩ Tryz.infoRel rfl Tryz.underlying73 n (by decide) (by omega) rfl _ _ rfl rfl rfl ?_;intro w1 hown hgr)
 have hb1:=below_of_grown hgr
 go_loopw [4] (fun i wr => ∃ (k:Nat) (us:List Rs) (ds:List Dd),k≤n∧i = .int .i64 k∧Own RsE 75 wr w.heap.size (.slice (some ⟨w.heap.size,0,none⟩) n n) (us++List.replicate (n - k) ⟨0,⟨#[]⟩,⟨none,0,0⟩⟩)∧Hid (CpR wr (w.heap.size+1) us ds xs k)∧Below w.heap.size w wr) (fun i _=>n - (intOf i).toNat)
 case atStart=>exact ⟨0,[],[],Nat.zero_le _,rfl,by simpa using hown,hide ⟨rfl,rfl, .nil,fun d hd=>by simp at hd,fun i u d x h=>by simp at h⟩,hb1⟩
 case round =>
  obtain ⟨k,us,ds,hk,rfl,ho,R,hb⟩:=hrel
  have U:=hide R.out.lu
  by_cases hlt:k < n
  ·obtain ⟨x,hxk⟩:=get_of_lt (xs:=xs) (k:=k) (by rw [H.out];exact hlt)
   obtain ⟨b,o,s,rfl,hbl,i0,i1,i2,i5⟩:=(HX.out.below hb).kid hxk
   have hlt':=nat_of_lt hlt
   have HC:=hide (fun w' h=>toRel_ofO (IH.out x (List.mem_of_getElem? hxk)) x.op x.nm s.a s.n s.cap w' h (by have:=descR_kid hxk;omega))
   have hz:(us++List.replicate (n - k) (⟨0,⟨#[]⟩,⟨none,0,0⟩⟩:Rs))[k]? = some ⟨0,⟨#[]⟩,⟨none,0,0⟩⟩:=by
    rw [List.getElem?_append_right (by rw [U.out];omega),U.out,Nat.sub_self,List.getElem?_replicate,if_pos (by omega)]
   have X:=hide hxk;have HZ:=hide hz;have I5:=hide i5
   clear hxk hz i5
   go_wp2_with fail
   (with_reducible refine (HC.out _ I5.out).mono ?_);rintro e w2 ⟨s',rfl,hs',hb2⟩
   obtain ⟨hgl,f0,f1,f2,hfr⟩:=(ho.below hb2).rs HZ.out
   have ho2:=(ho.below hb2).setRs HZ.out ⟨x.op,x.nm,s'⟩
   have hset:(us++List.replicate (n - k) (⟨0,⟨#[]⟩,⟨none,0,0⟩⟩:Rs)).set k ⟨x.op,x.nm,s'⟩=(us++[⟨x.op,x.nm,s'⟩])++List.replicate (n - (k+1)) ⟨0,⟨#[]⟩,⟨none,0,0⟩⟩:=by
    rw [List.set_append_right _ _ (by rw [U.out];omega),U.out,Nat.sub_self,show n - k=(n - (k+1))+1 by omega,List.replicate_succ,List.set_cons_zero];simp
   rw [hset] at ho2
   clear hset
   have hgw:w.heap.size < wr.heap.size:=by have:=(World.ownsRow.lt ho _ rfl).2;exact this
   have HO2:=hide ho2
   have R2:=hide (R.out.snoc X.out hgw hb2 hs')
   clear ho2 hs'
   have hb3:=hb.trans (hb2.mono hb.size)
   go_wp2_with fail
   go_roundw
   case rel =>
    refine ⟨k+1,_,_,by omega,by go_num,HO2.out,hide (((R2.out.set (by omega) _ _).set (by omega) _ _).set (by omega) _ _),((hb3.setCell (Nat.le_refl _) _).setCell (Nat.le_refl _) _).setCell (Nat.le_refl _) _⟩
   case measure=>simp [intOf];omega
  ·have e:k=n:=by omega
   subst e
   have HO:=hide ho;clear ho
   go_wp2_with fail
   go_ret
   have ho:=HO.out
   rw [Nat.sub_self,List.replicate_zero,List.append_nil] at ho
   have hgw:w.heap.size < wr.heap.size:=(World.ownsRow.lt ho _ rfl).2
   exact ⟨⟨some ⟨w.heap.size,0,none⟩,k,k⟩,rfl,R.out.own H.out ho (Nat.lt_succ_self _) ⟨Nat.le_refl _,hgw⟩ (fun q h1 h2=>⟨by omega,h2⟩),hb⟩)
theorem toRelExpr_anyO (o:Int) (p:ByteArray) (xs:List Re) (a:Option Addr) (n c:Nat) (w:World) (h:RepRk 0 w ⟨a,n,c⟩ xs) (hl:descR xs≤1048576) :
 Calls Tryz.prog 72 #[.agg #[.int .i64 o, .string p, .slice a n c]] w (RetReO w o p xs):=toRel_ofO (toRkO_any xs) o p a n c w h hl
end Go.Proofs.YtkfhgnkonaafgaaGreatDoor
namespace Go.Proofs.YtkfhgnkonaafgaaGreatDoor
open Go.RowKit
def RetRuO (w:World) (k o:Int) (p:ByteArray) (xs:List Re) (e:Ending) (w':World):Prop:=∃ s:Slc,e = .returned (.agg #[.int .i64 k, .int .i64 o, .string p, .slice s.a s.n s.cap])∧OwnR 75 w' (Made' w w') s xs∧Below w.heap.size w w'
def RetMO (w:World) (m:List Ru) (e:Ending) (w':World):Prop:=∃ s:Slc,e = .returned (.slice s.a s.n s.cap)∧OwnMD w' w.heap.size (.slice s.a s.n s.cap) m∧Below w.heap.size w w'
theorem toRule_anyO (k o:Int) (p:ByteArray) (xs:List Re) (a:Option Addr) (n c:Nat) (w:World) (h:RepRk 0 w ⟨a,n,c⟩ xs) (hl:descR xs≤1048576) :
 Calls Tryz.prog 40 #[.agg #[.int .i64 k, .int .i64 o, .string p, .slice a n c]] w (RetRuO w k o p xs):=by
 have HH:=hide h
 have HT:=hide (fun w' h'=>toRelExpr_anyO o p xs a n c w' h' hl)
 clear h
 go_enter Tryz.func40,Tryz.ntmps40
 go_wp2_with fail
 (with_reducible refine (HT.out _ (HH.out.below ((((Below.refl _ _).alloc (Nat.le_refl _) _).alloc (by simp) _).alloc (by simp;omega) _))).mono ?_);rintro e w1 ⟨s,rfl,hs,hb1⟩
 obtain ⟨hc1,hf1⟩:=bcell hb1
 have HS:=hide hs;have HB:=hide hb1
 clear hs hb1
 go_wp2_with fail
 have hsz:w.heap.size+3≤w1.heap.size:=by have:=HB.out.size;simp at this;omega
 refine bodyPost_ret (v:=.agg #[.int .i64 k, .int .i64 o, .string p, .slice s.a s.n s.cap]) (by simp [results,Tryz.results40,go_sem,hc1]) rfl ⟨s,rfl, ?_, ?_⟩
 ·have h:=HS.out
  have e:(((w.alloc (.cells #[.int .i64 k, .int .i64 o, .string p, .slice a n c] 64)).alloc (.cells #[.int .i64 0, .int .i64 0, .string ⟨#[]⟩, .slice none 0 0] 77)).alloc (.cells #[.int .i64 k, .int .i64 0, .string ⟨#[]⟩, .slice none 0 0] 77)).heap.size=w.heap.size+1+1+1:=by simp
  unfold Made' at h
  rw [e] at h
  exact (((((((h.set (by omega) _ _).set (by omega) _ _).set (by omega) _ _).set (by omega) _ _).set (by omega) _ _).set (by omega) _ _).set (by omega) _ _).wide (fun q hq=>by unfold Made';simp;omega)
 ·have h0:=(((Below.refl w.heap.size w).alloc (Nat.le_refl _) (.cells #[.int .i64 k, .int .i64 o, .string p, .slice a n c] 64)).alloc (by simp) (.cells #[.int .i64 0, .int .i64 0, .string ⟨#[]⟩, .slice none 0 0] 77)).alloc (by simp;omega) (.cells #[.int .i64 k, .int .i64 0, .string ⟨#[]⟩, .slice none 0 0] 77)
  exact (((((((h0.trans (HB.out.mono h0.size)).setCell (show w.heap.size≤w.heap.size+1+1 by omega) _).setCell (show w.heap.size≤w.heap.size+1+1 by omega) _).setCell (show w.heap.size≤w.heap.size+1+1 by omega) _).setCell (show w.heap.size≤w.heap.size+1 by omega) _).setCell (show w.heap.size≤w.heap.size+1 by omega) _).setCell (show w.heap.size≤w.heap.size+1 by omega) _).setCell (show w.heap.size≤w.heap.size+1 by omega) _
structure CpM (wr:World) (B:Nat) (us:List Us) (ds:List Dd) (m:List Ru) (k:Nat):Prop where
 lu:us.length=k
 ld:ds.length=k
 pw:ds.Pairwise Rlt
 hi:∀ d∈ds,B≤d.lo∧d.hi≤wr.heap.size
 row:∀ (i:Nat) (u:Us) (d:Dd) (x:Ru),us[i]? = some u→ds[i]? = some d→m[i]? = some x→LocR 77 d.lo d.hi wr (fun W=>PhiM d W u x)
theorem CpM.set {wr:World} {B base:Nat} {us xs:List Us} {ds:List Dd} {m:List Ru} {k:Nat} {v:Value} (h:CpM wr B us ds m k) (ho:Own UsE 77 wr base v xs) {g:Nat} (hg:v.ownBlock=some g) (j:Nat) (u:Value):CpM (wr.setCell ⟨g,j,none⟩ u) B us ds m k:=
 ⟨h.lu,h.ld,h.pw,fun d hd=>by simpa using h.hi d hd,fun i u' d x h1 h2 h3=>(h.row i u' d x h1 h2 h3).setOwn ho hg j u⟩
theorem CpM.set4 {wr:World} {B base g n cap:Nat} {us xs:List Us} {ds:List Dd} {m:List Ru} {k k':Nat} (h:CpM wr B us ds m k) (ho:Own UsE 77 wr base (.slice (some ⟨g,0,none⟩) n cap) xs) {z:Us} (hz:xs[k']? = some z) (x:Us) :
 CpM ((((wr.setCell ⟨g,k' * 4,none⟩ (.int .i64 x.kind)).setCell ⟨g,k' * 4+1,none⟩ (.int .i64 x.op)).setCell ⟨g,k' * 4+2,none⟩ (.string x.nm)).setCell ⟨g,k' * 4+3,none⟩ (.slice x.s.a x.s.n x.s.cap)) B us ds m k:=by
 have h0:=ho.set (i:=k') (j:=0) ⟨x.kind,z.op,z.nm,z.s⟩ (u:=.int .i64 x.kind) (by decide) hz rfl
 have h1:=h0.set (i:=k') (j:=1) ⟨x.kind,x.op,z.nm,z.s⟩ (u:=.int .i64 x.op) (by decide) (get_set_self hz _) rfl
 have h2:=h1.set (i:=k') (j:=2) ⟨x.kind,x.op,x.nm,z.s⟩ (u:=.string x.nm) (by decide) (get_set_self (get_set_self hz _) _) rfl
 have a0:=h.set ho (g:=g) rfl (k' * 4) (.int .i64 x.kind)
 have a1:=a0.set h0 (g:=g) rfl (k' * 4+1) (.int .i64 x.op)
 have a2:=a1.set h1 (g:=g) rfl (k' * 4+2) (.string x.nm)
 exact a2.set h2 (g:=g) rfl (k' * 4+3) (.slice x.s.a x.s.n x.s.cap)
theorem CpM.snoc {wr w2:World} {B:Nat} {us:List Us} {ds:List Dd} {m:List Ru} {k:Nat} (h:CpM wr B us ds m k) {x:Ru} (hx:m[k]? = some x) {s:Slc} (hB:B≤wr.heap.size) (hb:Below wr.heap.size wr w2) (ho:OwnR 75 w2 (Made' wr w2) s x.e.kids):CpM w2 B (us++[⟨x.kind,x.e.op,x.e.nm,s⟩]) (ds++[⟨wr.heap.size,w2.heap.size,[]⟩]) m (k+1):=by
 refine ⟨by simp [h.lu],by simp [h.ld],List.pairwise_append.2 ⟨h.pw,by simp,fun a ha b hb'=>by simp at hb';subst hb';exact (h.hi a ha).2⟩,fun d hd => ?_,fun i u d y h1 h2 h3 => ?_⟩
 ·rcases List.mem_append.1 hd with hd | hd
  ·have:=h.hi d hd;have:=hb.size;omega
  ·simp at hd;subst hd;exact ⟨hB,Nat.le_refl _⟩
 ·by_cases hi:i < k
  ·rw [List.getElem?_append_left (by rw [h.lu];exact hi)] at h1
   rw [List.getElem?_append_left (by rw [h.ld];exact hi)] at h2
   exact (h.row i u d y h1 h2 h3).below hb
  ·have hi2:i=k:=by
    have:=(List.getElem?_eq_some_iff.1 h1).1
    simp [h.lu] at this;omega
   subst hi2
   rw [List.getElem?_append_right (by rw [h.lu];omega),h.lu,Nat.sub_self] at h1
   rw [List.getElem?_append_right (by rw [h.ld];omega),h.ld,Nat.sub_self] at h2
   rw [hx] at h3
   simp at h1 h2 h3
   subst h1;subst h2;subst h3
   exact OwnR.locM (lo:=wr.heap.size) (hi:=w2.heap.size) (r:=x) ho (Nat.le_refl _)
theorem toRuleS_anyO (m:List Ru) (a:Option Addr) (n c:Nat) (w:World) (hx:RepM 0 w ⟨a,n,c⟩ m) (hl:wtM m≤1048576) :
 Calls Tryz.prog 10 #[.slice a n c] w (RetMO w m):=by
 obtain ⟨e1,hc1,hc2,hc3⟩:=hx.open
 simp only at e1 hc1 hc2 hc3
 have HX:=hide hx
 clear hx
 have H:=hide e1.symm
 clear e1
 rw [H.out] at hc1 hc2
 have hn:n≤1048576:=by have:=length_le_wtM m;rw [H.out] at this;omega
 go_enter Tryz.func10,Tryz.ntmps10
 go_wp2_with (at_make;refine wpList_make UsE 77 ⟨0,0,⟨#[]⟩,⟨none,0,0⟩⟩ Tryz.infoRule rfl Tryz.underlying34 n (by decide) (by omega) rfl _ _ rfl rfl rfl ?_;intro w1 hown hgr)
 have hb1:=below_of_grown hgr
 go_loopw [4] (fun i wr => ∃ (k:Nat) (us:List Us) (ds:List Dd),k≤n∧i = .int .i64 k∧Own UsE 77 wr w.heap.size (.slice (some ⟨w.heap.size,0,none⟩) n n) (us++List.replicate (n - k) ⟨0,0,⟨#[]⟩,⟨none,0,0⟩⟩)∧Hid (CpM wr (w.heap.size+1) us ds m k)∧Below w.heap.size w wr) (fun i _=>n - (intOf i).toNat)
 case atStart=>exact ⟨0,[],[],Nat.zero_le _,rfl,by simpa using hown,hide ⟨rfl,rfl, .nil,fun d hd=>by simp at hd,fun i u d x h=>by simp at h⟩,hb1⟩
 case round =>
  obtain ⟨k,us,ds,hk,rfl,ho,R,hb⟩:=hrel
  have U:=hide R.out.lu
  by_cases hlt:k < n
  ·obtain ⟨x,hxk⟩:=get_of_lt (xs:=m) (k:=k) (by rw [H.out];exact hlt)
   obtain ⟨b,o,s,rfl,hbl,i0,i1,i2,i3,i5⟩:=(HX.out.below hb).row hxk
   have hlt':=nat_of_lt hlt
   have hdl:descR x.e.kids≤1048576:=by have h1:=wtM_mem (List.mem_of_getElem? hxk);have h2:=descR_le_wtR x.e.kids;omega
   have HC:=hide (fun w' h=>toRule_anyO x.kind x.e.op x.e.nm x.e.kids s.a s.n s.cap w' h hdl)
   have hz:(us++List.replicate (n - k) (⟨0,0,⟨#[]⟩,⟨none,0,0⟩⟩:Us))[k]? = some ⟨0,0,⟨#[]⟩,⟨none,0,0⟩⟩:=by
    rw [List.getElem?_append_right (by rw [U.out];omega),U.out,Nat.sub_self,List.getElem?_replicate,if_pos (by omega)]
   have X:=hide hxk;have HZ:=hide hz;have I5:=hide i5
   clear hxk hz i5 hdl
   go_wp2_with fail
   (with_reducible refine (HC.out _ I5.out).mono ?_);rintro e w2 ⟨s',rfl,hs',hb2⟩
   obtain ⟨hgl,f0,f1,f2,f3,hfr⟩:=(ho.below hb2).usr HZ.out
   have ho2:=(ho.below hb2).setUs HZ.out ⟨x.kind,x.e.op,x.e.nm,s'⟩
   have hset:(us++List.replicate (n - k) (⟨0,0,⟨#[]⟩,⟨none,0,0⟩⟩:Us)).set k ⟨x.kind,x.e.op,x.e.nm,s'⟩=(us++[⟨x.kind,x.e.op,x.e.nm,s'⟩])++List.replicate (n - (k+1)) ⟨0,0,⟨#[]⟩,⟨none,0,0⟩⟩:=by
    rw [List.set_append_right _ _ (by rw [U.out];omega),U.out,Nat.sub_self,show n - k=(n - (k+1))+1 by omega,List.replicate_succ,List.set_cons_zero];simp
   rw [hset] at ho2
   clear hset
   have hgw:w.heap.size < wr.heap.size:=by have:=(World.ownsRow.lt ho _ rfl).2;exact this
   have HO2:=hide ho2
   have R2:=hide ((R.out.snoc X.out hgw hb2 hs').set4 (ho.below hb2) HZ.out ⟨x.kind,x.e.op,x.e.nm,s'⟩)
   clear ho2 hs'
   have hb3:=hb.trans (hb2.mono hb.size)
   go_wp2_with fail
   go_roundw
   case rel =>
    refine ⟨k+1,_,_,by omega,by go_num,HO2.out,R2,(((hb3.setCell (Nat.le_refl _) _).setCell (Nat.le_refl _) _).setCell (Nat.le_refl _) _).setCell (Nat.le_refl _) _⟩
   case measure=>simp [intOf];omega
  ·have e:k=n:=by omega
   subst e
   have HO:=hide ho;clear ho
   go_wp2_with fail
   go_ret
   have ho:=HO.out
   rw [Nat.sub_self,List.replicate_zero,List.append_nil] at ho
   exact ⟨⟨some ⟨w.heap.size,0,none⟩,k,k⟩,rfl,⟨us,ds,by rw [U.out,H.out],by rw [R.out.ld,H.out],R.out.pw,ho,fun i u d x h1 h2 h3=>⟨by have:=(R.out.hi d (List.mem_of_getElem? h2)).1;omega,R.out.row i u d x h1 h2 h3⟩⟩,hb⟩
end Go.Proofs.YtkfhgnkonaafgaaGreatDoor