/-
  FnExactAllowedExecs: for every input the law returns true and the input reads afterwards as it read before; the tied card. Condition: none beyond the row's own (the listed variable starts as the program's text lays it, which the card ties).
-/
import Derived.Test.YtfbgppkdnfljhaaGreatDoorZq09
import Derived.Test.YtfbgppkdnfljhaaGreatDoorZq20
import Derived.Test.YtfbgppkdnfljhaaGreatDoorZq46
import Derived.Test.YtfbgppkdnfljhaaGreatDoorZq45
import Derived.Test.YtfbgppkdnfljhaaGreatDoorZq38
import Derived.Test.YtfbgppkdnfljhaaGreatDoorZq41
import Derived.Test.YtfbgppkdnfljhaaGreatDoorZq06
import Derived.Test.YtfbgppkdnfljhaaGreatDoorZq26
import Derived.Test.YtfbgppkdnfljhaaGreatDoorZq07
import Derived.Test.YtfbgppkdnfljhaaGreatDoorTie
import Derived.Test.YtfbgppkdnfljhaaGreatDoorCards
import Derived.SevenTiedAt
set_option maxHeartbeats 6400000
set_option maxRecDepth 100000
namespace Go.Proofs.YtfbgppkdnfljhaaGreatDoor
open Go.RowKit
def RetRkO (w:World) (xs:List Re) (e:Ending) (w':World):Prop:=∃ s:Slc,e = .returned (.slice s.a s.n s.cap)∧OwnR 52 w' (Made' w w') s xs∧Below w.heap.size w w'
def RetReO (w:World) (o:Int) (p:ByteArray) (xs:List Re) (e:Ending) (w':World):Prop:=∃ s:Slc,e = .returned (.agg #[.int .i64 o, .string p, .slice s.a s.n s.cap])∧OwnR 52 w' (Made' w w') s xs∧Below w.heap.size w w'
def ToRkO (xs:List Re):Prop:=∀ (a:Option Addr) (n c:Nat) (w:World),RepRk 0 w ⟨a,n,c⟩ xs→descR xs≤1048576 →
 Calls Tryz.prog 144 #[.slice a n c] w (RetRkO w xs)
theorem toRel_ofO {xs:List Re} (H:ToRkO xs) (o:Int) (p:ByteArray) (a:Option Addr) (n c:Nat) (w:World) (h:RepRk 0 w ⟨a,n,c⟩ xs) (hl:descR xs≤1048576) :
 Calls Tryz.prog 88 #[.agg #[.int .i64 o, .string p, .slice a n c]] w (RetReO w o p xs):=by
 have HH:=hide h
 have HT:=hide (fun w' h'=>H a n c w' h' hl)
 clear h H
 go_enter Tryz.func88,Tryz.ntmps88
 go_wp2_with fail
 (with_reducible refine (HT.out _ (HH.out.below ((((Below.refl _ _).alloc (Nat.le_refl _) _).alloc (by simp) _).alloc (by simp;omega) _))).mono ?_);rintro e w1 ⟨s,rfl,hs,hb1⟩
 obtain ⟨hc1,hf1⟩:=bcell hb1
 have HS:=hide hs;have HB:=hide hb1
 clear hs hb1
 go_wp2_with fail
 have hsz:w.heap.size+3≤w1.heap.size:=by have:=HB.out.size;simp at this;omega
 refine bodyPost_ret (v:=.agg #[.int .i64 o, .string p, .slice s.a s.n s.cap]) (by simp [results,Tryz.results88,go_sem,hc1]) rfl ⟨s,rfl, ?_, ?_⟩
 ·have h:=HS.out
  have e:(((w.alloc (.cells #[.int .i64 o, .string p, .slice a n c] 69)).alloc (.cells #[.int .i64 0, .string ⟨#[]⟩, .slice none 0 0] 52)).alloc (.cells #[.int .i64 o, .string p, .slice none 0 0] 52)).heap.size=w.heap.size+1+1+1:=by simp
  unfold Made' at h
  rw [e] at h
  exact ((((h.set (by omega) _ _).set (by omega) _ _).set (by omega) _ _).set (by omega) _ _).wide (fun q hq=>by unfold Made';simp;omega)
 ·have h0:=(((Below.refl w.heap.size w).alloc (Nat.le_refl _) (.cells #[.int .i64 o, .string p, .slice a n c] 69)).alloc (by simp) (.cells #[.int .i64 0, .string ⟨#[]⟩, .slice none 0 0] 52)).alloc (by simp;omega) (.cells #[.int .i64 o, .string p, .slice none 0 0] 52)
  exact ((((h0.trans (HB.out.mono h0.size)).setCell (by simp;omega) _).setCell (by simp) _).setCell (by simp) _).setCell (by simp) _
structure CpR (wr:World) (B:Nat) (us:List Rs) (ds:List Dd) (xs:List Re) (k:Nat):Prop where
 lu:us.length=k
 ld:ds.length=k
 pw:ds.Pairwise fun a b=>a.hi≤b.lo
 hi:∀ d∈ds,B≤d.lo∧d.hi≤wr.heap.size
 row:∀ (i:Nat) (u:Rs) (d:Dd) (x:Re),us[i]? = some u→ds[i]? = some d→xs[i]? = some x→u.op=x.op∧u.nm=x.nm∧OwnR 52 wr (fun q=>d.lo≤q∧q < d.hi) u.s x.kids
theorem CpR.set {wr:World} {B:Nat} {us:List Rs} {ds:List Dd} {xs:List Re} {k:Nat} (h:CpR wr B us ds xs k) {g:Nat} (hg:g < B) (j:Nat) (v:Value):CpR (wr.setCell ⟨g,j,none⟩ v) B us ds xs k:=
 ⟨h.lu,h.ld,h.pw,fun d hd=>by simpa using h.hi d hd,fun i u d x h1 h2 h3=>⟨(h.row i u d x h1 h2 h3).1,(h.row i u d x h1 h2 h3).2.1,(h.row i u d x h1 h2 h3).2.2.set (fun e=>by have:=(h.hi d (List.mem_of_getElem? h2)).1;omega) j v⟩⟩
theorem CpR.snoc {wr w2:World} {B:Nat} {us:List Rs} {ds:List Dd} {xs:List Re} {k:Nat} (h:CpR wr B us ds xs k) {x:Re} (hx:xs[k]? = some x) {s:Slc} (hB:B≤wr.heap.size) (hb:Below wr.heap.size wr w2) (ho:OwnR 52 w2 (Made' wr w2) s x.kids):CpR w2 B (us++[⟨x.op,x.nm,s⟩]) (ds++[⟨wr.heap.size,w2.heap.size,[]⟩]) xs (k+1):=by
 refine ⟨by simp [h.lu],by simp [h.ld],List.pairwise_append.2 ⟨h.pw,by simp,fun a ha b hb'=>by simp at hb';subst hb';exact (h.hi a ha).2⟩,fun d hd => ?_,fun i u d y h1 h2 h3 => ?_⟩
 ·rcases List.mem_append.1 hd with hd | hd
  ·have:=h.hi d hd;have:=hb.size;omega
  ·simp at hd;subst hd;exact ⟨hB,Nat.le_refl _⟩
 ·by_cases hi:i < k
  ·rw [List.getElem?_append_left (by rw [h.lu];exact hi)] at h1
   rw [List.getElem?_append_left (by rw [h.ld];exact hi)] at h2
   obtain ⟨a,b,c⟩:=h.row i u d y h1 h2 h3
   exact ⟨a,b,c.bel hb⟩
  ·have hi2:i=k:=by
    have:=(List.getElem?_eq_some_iff.1 h1).1
    simp [h.lu] at this;omega
   subst hi2
   rw [List.getElem?_append_right (by rw [h.lu];omega),h.lu,Nat.sub_self] at h1
   rw [List.getElem?_append_right (by rw [h.ld];omega),h.ld,Nat.sub_self] at h2
   rw [hx] at h3
   simp at h1 h2 h3
   subst h1;subst h2;subst h3
   exact ⟨rfl,rfl,ho⟩
theorem CpR.own {wr:World} {B g n:Nat} {us:List Rs} {ds:List Dd} {xs:List Re} {S:Nat→Prop} (h:CpR wr B us ds xs n) (hn:xs.length=n) (ho:Own RsE 52 wr g (.slice (some ⟨g,0,none⟩) n n) us) (hg:g < B) (hS:S g) (hS2:∀ q,B≤q→q < wr.heap.size→S q):OwnR 52 wr S ⟨some ⟨g,0,none⟩,n,n⟩ xs:=by
 refine .node (us:=us) (fun i q => ∃ d,ds[i]? = some d∧d.lo≤q∧q < d.hi) (by rw [h.lu,hn]) (ho.mono (Nat.zero_le _)) hS ?_ ?_ ?_ ?_ ?_
 ·rintro i q ⟨d,hd,h1,h2⟩
  have:=h.hi d (List.mem_of_getElem? hd)
  exact hS2 q (by omega) (by omega)
 ·rintro i ⟨d,hd,h1,h2⟩
  have:=h.hi d (List.mem_of_getElem? hd)
  omega
 ·rintro i j q ⟨d,hd,h1,h2⟩ ⟨d',hd',h3,h4⟩
  obtain ⟨l1,rfl⟩:=List.getElem?_eq_some_iff.1 hd
  obtain ⟨l2,rfl⟩:=List.getElem?_eq_some_iff.1 hd'
  rcases Nat.lt_trichotomy i j with hij | hij | hij
  ·have:=List.pairwise_iff_getElem.1 h.pw i j l1 l2 hij;omega
  ·exact hij
  ·have:=List.pairwise_iff_getElem.1 h.pw j i l2 l1 hij;omega
 ·intro i u k hu hk
  obtain ⟨d,hd⟩:=get_of_lt (xs:=ds) (k:=i) (by rw [h.ld,← h.lu];exact (List.getElem?_eq_some_iff.1 hu).1)
  exact ⟨(h.row i u d k hu hd hk).1,(h.row i u d k hu hd hk).2.1⟩
 ·intro i u k hu hk
  obtain ⟨d,hd⟩:=get_of_lt (xs:=ds) (k:=i) (by rw [h.ld,← h.lu];exact (List.getElem?_eq_some_iff.1 hu).1)
  exact (h.row i u d k hu hd hk).2.2.wide fun q hq=>⟨d,hd,hq⟩
theorem toRkO_any:∀ xs,ToRkO xs:=Re.all (by
 intro xs ih a n c w hx hl
 obtain ⟨e1,hc1,hc2,hc3⟩:=hx.open
 simp only at e1 hc1 hc2 hc3
 have HX:=hide hx;have IH:=hide ih
 clear hx ih
 have H:=hide e1.symm
 clear e1
 rw [H.out] at hc1 hc2
 have hn:n≤1048576:=by have:=length_le_descR xs;rw [H.out] at this;omega
 go_enter Tryz.func144,Tryz.ntmps144
 go_wp2_with (at_make;refine wpList_make RsE 52 ⟨0,⟨#[]⟩,⟨none,0,0⟩⟩ Tryz.infoRel rfl Tryz.underlying50 n (by decide) (by omega) rfl _ _ rfl rfl rfl ?_;intro w1 hown hgr)
 have hb1:=below_of_grown hgr
 go_loopw [4] (fun i wr => ∃ (k:Nat) (us:List Rs) (ds:List Dd),k≤n∧i = .int .i64 k∧Own RsE 52 wr w.heap.size (.slice (some ⟨w.heap.size,0,none⟩) n n) (us++List.replicate (n - k) ⟨0,⟨#[]⟩,⟨none,0,0⟩⟩)∧Hid (CpR wr (w.heap.size+1) us ds xs k)∧Below w.heap.size w wr) (fun i _=>n - (intOf i).toNat)
 case atStart=>exact ⟨0,[],[],Nat.zero_le _,rfl,by simpa using hown,hide ⟨rfl,rfl, .nil,fun d hd=>by simp at hd,fun i u d x h=>by simp at h⟩,hb1⟩
 case round =>
  obtain ⟨k,us,ds,hk,rfl,ho,R,hb⟩:=hrel
  have U:=hide R.out.lu
  by_cases hlt:k < n
  ·obtain ⟨x,hxk⟩:=get_of_lt (xs:=xs) (k:=k) (by rw [H.out];exact hlt)
   obtain ⟨b,o,s,rfl,hbl,i0,i1,i2,i5⟩:=(HX.out.below hb).kid hxk
   have hlt':=nat_of_lt hlt
   have HC:=hide (fun w' h=>toRel_ofO (IH.out x (List.mem_of_getElem? hxk)) x.op x.nm s.a s.n s.cap w' h (by have:=descR_kid hxk;omega))
   have hz:(us++List.replicate (n - k) (⟨0,⟨#[]⟩,⟨none,0,0⟩⟩:Rs))[k]? = some ⟨0,⟨#[]⟩,⟨none,0,0⟩⟩:=by
    rw [List.getElem?_append_right (by rw [U.out];omega),U.out,Nat.sub_self,List.getElem?_replicate,if_pos (by omega)]
   have X:=hide hxk;have HZ:=hide hz;have I5:=hide i5
   clear hxk hz i5
   go_wp2_with fail
   (with_reducible refine (HC.out _ I5.out).mono ?_);rintro e w2 ⟨s',rfl,hs',hb2⟩
   obtain ⟨hgl,f0,f1,f2,hfr⟩:=(ho.below hb2).rs HZ.out
   have ho2:=(ho.below hb2).setRs HZ.out ⟨x.op,x.nm,s'⟩
   have hset:(us++List.replicate (n - k) (⟨0,⟨#[]⟩,⟨none,0,0⟩⟩:Rs)).set k ⟨x.op,x.nm,s'⟩=(us++[⟨x.op,x.nm,s'⟩])++List.replicate (n - (k+1)) ⟨0,⟨#[]⟩,⟨none,0,0⟩⟩:=by
    rw [List.set_append_right _ _ (by rw [U.out];omega),U.out,Nat.sub_self,show n - k=(n - (k+1))+1 by omega,List.replicate_succ,List.set_cons_zero];simp
   rw [hset] at ho2
   clear hset
   have hgw:w.heap.size < wr.heap.size:=by have:=(World.ownsRow.lt ho _ rfl).2;exact this
   have HO2:=hide ho2
   have R2:=hide (R.out.snoc X.out hgw hb2 hs')
   clear ho2 hs'
   have hb3:=hb.trans (hb2.mono hb.size)
   go_wp2_with fail
   go_roundw
   case rel =>
    refine ⟨k+1,_,_,by omega,by go_num,HO2.out,hide (((R2.out.set (by omega) _ _).set (by omega) _ _).set (by omega) _ _),((hb3.setCell (Nat.le_refl _) _).setCell (Nat.le_refl _) _).setCell (Nat.le_refl _) _⟩
   case measure=>simp [intOf];omega
  ·have e:k=n:=by omega
   subst e
   have HO:=hide ho;clear ho
   go_wp2_with fail
   go_ret
   have ho:=HO.out
   rw [Nat.sub_self,List.replicate_zero,List.append_nil] at ho
   have hgw:w.heap.size < wr.heap.size:=(World.ownsRow.lt ho _ rfl).2
   exact ⟨⟨some ⟨w.heap.size,0,none⟩,k,k⟩,rfl,R.out.own H.out ho (Nat.lt_succ_self _) ⟨Nat.le_refl _,hgw⟩ (fun q h1 h2=>⟨by omega,h2⟩),hb⟩)
theorem toRelExpr_anyO (o:Int) (p:ByteArray) (xs:List Re) (a:Option Addr) (n c:Nat) (w:World) (h:RepRk 0 w ⟨a,n,c⟩ xs) (hl:descR xs≤1048576) :
 Calls Tryz.prog 88 #[.agg #[.int .i64 o, .string p, .slice a n c]] w (RetReO w o p xs):=toRel_ofO (toRkO_any xs) o p a n c w h hl
end Go.Proofs.YtfbgppkdnfljhaaGreatDoor
namespace Go.Proofs.YtfbgppkdnfljhaaGreatDoor
open Go.RowKit
def RetRuO (w:World) (k o:Int) (p:ByteArray) (xs:List Re) (e:Ending) (w':World):Prop:=∃ s:Slc,e = .returned (.agg #[.int .i64 k, .int .i64 o, .string p, .slice s.a s.n s.cap])∧OwnR 52 w' (Made' w w') s xs∧Below w.heap.size w w'
def RetMO (w:World) (m:List Ru) (e:Ending) (w':World):Prop:=∃ s:Slc,e = .returned (.slice s.a s.n s.cap)∧OwnMD w' w.heap.size (.slice s.a s.n s.cap) m∧Below w.heap.size w w'
theorem toRule_anyO (k o:Int) (p:ByteArray) (xs:List Re) (a:Option Addr) (n c:Nat) (w:World) (h:RepRk 0 w ⟨a,n,c⟩ xs) (hl:descR xs≤1048576) :
 Calls Tryz.prog 35 #[.agg #[.int .i64 k, .int .i64 o, .string p, .slice a n c]] w (RetRuO w k o p xs):=by
 have HH:=hide h
 have HT:=hide (fun w' h'=>toRelExpr_anyO o p xs a n c w' h' hl)
 clear h
 go_enter Tryz.func35,Tryz.ntmps35
 go_wp2_with fail
 (with_reducible refine (HT.out _ (HH.out.below ((((Below.refl _ _).alloc (Nat.le_refl _) _).alloc (by simp) _).alloc (by simp;omega) _))).mono ?_);rintro e w1 ⟨s,rfl,hs,hb1⟩
 obtain ⟨hc1,hf1⟩:=bcell hb1
 have HS:=hide hs;have HB:=hide hb1
 clear hs hb1
 go_wp2_with fail
 have hsz:w.heap.size+3≤w1.heap.size:=by have:=HB.out.size;simp at this;omega
 refine bodyPost_ret (v:=.agg #[.int .i64 k, .int .i64 o, .string p, .slice s.a s.n s.cap]) (by simp [results,Tryz.results35,go_sem,hc1]) rfl ⟨s,rfl, ?_, ?_⟩
 ·have h:=HS.out
  have e:(((w.alloc (.cells #[.int .i64 k, .int .i64 o, .string p, .slice a n c] 71)).alloc (.cells #[.int .i64 0, .int .i64 0, .string ⟨#[]⟩, .slice none 0 0] 54)).alloc (.cells #[.int .i64 k, .int .i64 0, .string ⟨#[]⟩, .slice none 0 0] 54)).heap.size=w.heap.size+1+1+1:=by simp
  unfold Made' at h
  rw [e] at h
  exact (((((((h.set (by omega) _ _).set (by omega) _ _).set (by omega) _ _).set (by omega) _ _).set (by omega) _ _).set (by omega) _ _).set (by omega) _ _).wide (fun q hq=>by unfold Made';simp;omega)
 ·have h0:=(((Below.refl w.heap.size w).alloc (Nat.le_refl _) (.cells #[.int .i64 k, .int .i64 o, .string p, .slice a n c] 71)).alloc (by simp) (.cells #[.int .i64 0, .int .i64 0, .string ⟨#[]⟩, .slice none 0 0] 54)).alloc (by simp;omega) (.cells #[.int .i64 k, .int .i64 0, .string ⟨#[]⟩, .slice none 0 0] 54)
  exact (((((((h0.trans (HB.out.mono h0.size)).setCell (show w.heap.size≤w.heap.size+1+1 by omega) _).setCell (show w.heap.size≤w.heap.size+1+1 by omega) _).setCell (show w.heap.size≤w.heap.size+1+1 by omega) _).setCell (show w.heap.size≤w.heap.size+1 by omega) _).setCell (show w.heap.size≤w.heap.size+1 by omega) _).setCell (show w.heap.size≤w.heap.size+1 by omega) _).setCell (show w.heap.size≤w.heap.size+1 by omega) _
structure CpM (wr:World) (B:Nat) (us:List Us) (ds:List Dd) (m:List Ru) (k:Nat):Prop where
 lu:us.length=k
 ld:ds.length=k
 pw:ds.Pairwise Rlt
 hi:∀ d∈ds,B≤d.lo∧d.hi≤wr.heap.size
 row:∀ (i:Nat) (u:Us) (d:Dd) (x:Ru),us[i]? = some u→ds[i]? = some d→m[i]? = some x→LocR 54 d.lo d.hi wr (fun W=>PhiM d W u x)
theorem CpM.set {wr:World} {B base:Nat} {us xs:List Us} {ds:List Dd} {m:List Ru} {k:Nat} {v:Value} (h:CpM wr B us ds m k) (ho:Own UsE 54 wr base v xs) {g:Nat} (hg:v.ownBlock=some g) (j:Nat) (u:Value):CpM (wr.setCell ⟨g,j,none⟩ u) B us ds m k:=
 ⟨h.lu,h.ld,h.pw,fun d hd=>by simpa using h.hi d hd,fun i u' d x h1 h2 h3=>(h.row i u' d x h1 h2 h3).setOwn ho hg j u⟩
theorem CpM.set4 {wr:World} {B base g n cap:Nat} {us xs:List Us} {ds:List Dd} {m:List Ru} {k k':Nat} (h:CpM wr B us ds m k) (ho:Own UsE 54 wr base (.slice (some ⟨g,0,none⟩) n cap) xs) {z:Us} (hz:xs[k']? = some z) (x:Us) :
 CpM ((((wr.setCell ⟨g,k' * 4,none⟩ (.int .i64 x.kind)).setCell ⟨g,k' * 4+1,none⟩ (.int .i64 x.op)).setCell ⟨g,k' * 4+2,none⟩ (.string x.nm)).setCell ⟨g,k' * 4+3,none⟩ (.slice x.s.a x.s.n x.s.cap)) B us ds m k:=by
 have h0:=ho.set (i:=k') (j:=0) ⟨x.kind,z.op,z.nm,z.s⟩ (u:=.int .i64 x.kind) (by decide) hz rfl
 have h1:=h0.set (i:=k') (j:=1) ⟨x.kind,x.op,z.nm,z.s⟩ (u:=.int .i64 x.op) (by decide) (get_set_self hz _) rfl
 have h2:=h1.set (i:=k') (j:=2) ⟨x.kind,x.op,x.nm,z.s⟩ (u:=.string x.nm) (by decide) (get_set_self (get_set_self hz _) _) rfl
 have a0:=h.set ho (g:=g) rfl (k' * 4) (.int .i64 x.kind)
 have a1:=a0.set h0 (g:=g) rfl (k' * 4+1) (.int .i64 x.op)
 have a2:=a1.set h1 (g:=g) rfl (k' * 4+2) (.string x.nm)
 exact a2.set h2 (g:=g) rfl (k' * 4+3) (.slice x.s.a x.s.n x.s.cap)
theorem CpM.snoc {wr w2:World} {B:Nat} {us:List Us} {ds:List Dd} {m:List Ru} {k:Nat} (h:CpM wr B us ds m k) {x:Ru} (hx:m[k]? = some x) {s:Slc} (hB:B≤wr.heap.size) (hb:Below wr.heap.size wr w2) (ho:OwnR 52 w2 (Made' wr w2) s x.e.kids):CpM w2 B (us++[⟨x.kind,x.e.op,x.e.nm,s⟩]) (ds++[⟨wr.heap.size,w2.heap.size,[]⟩]) m (k+1):=by
 refine ⟨by simp [h.lu],by simp [h.ld],List.pairwise_append.2 ⟨h.pw,by simp,fun a ha b hb'=>by simp at hb';subst hb';exact (h.hi a ha).2⟩,fun d hd => ?_,fun i u d y h1 h2 h3 => ?_⟩
 ·rcases List.mem_append.1 hd with hd | hd
  ·have:=h.hi d hd;have:=hb.size;omega
  ·simp at hd;subst hd;exact ⟨hB,Nat.le_refl _⟩
 ·by_cases hi:i < k
  ·rw [List.getElem?_append_left (by rw [h.lu];exact hi)] at h1
   rw [List.getElem?_append_left (by rw [h.ld];exact hi)] at h2
   exact (h.row i u d y h1 h2 h3).below hb
  ·have hi2:i=k:=by
    have:=(List.getElem?_eq_some_iff.1 h1).1
    simp [h.lu] at this;omega
   subst hi2
   rw [List.getElem?_append_right (by rw [h.lu];omega),h.lu,Nat.sub_self] at h1
   rw [List.getElem?_append_right (by rw [h.ld];omega),h.ld,Nat.sub_self] at h2
   rw [hx] at h3
   simp at h1 h2 h3
   subst h1;subst h2;subst h3
   exact OwnR.locM (lo:=wr.heap.size) (hi:=w2.heap.size) (r:=x) ho (Nat.le_refl _)
theorem toRuleS_anyO (m:List Ru) (a:Option Addr) (n c:Nat) (w:World) (hx:RepM 0 w ⟨a,n,c⟩ m) (hl:wtM m≤1048576) :
 Calls Tryz.prog 11 #[.slice a n c] w (RetMO w m):=by
 obtain ⟨e1,hc1,hc2,hc3⟩:=hx.open
 simp only at e1 hc1 hc2 hc3
 have HX:=hide hx
 clear hx
 have H:=hide e1.symm
 clear e1
 rw [H.out] at hc1 hc2
 have hn:n≤1048576:=by have:=length_le_wtM m;rw [H.out] at this;omega
 go_enter Tryz.func11,Tryz.ntmps11
 go_wp2_with (at_make;refine wpList_make UsE 54 ⟨0,0,⟨#[]⟩,⟨none,0,0⟩⟩ Tryz.infoRule rfl Tryz.underlying30 n (by decide) (by omega) rfl _ _ rfl rfl rfl ?_;intro w1 hown hgr)
 have hb1:=below_of_grown hgr
 go_loopw [4] (fun i wr => ∃ (k:Nat) (us:List Us) (ds:List Dd),k≤n∧i = .int .i64 k∧Own UsE 54 wr w.heap.size (.slice (some ⟨w.heap.size,0,none⟩) n n) (us++List.replicate (n - k) ⟨0,0,⟨#[]⟩,⟨none,0,0⟩⟩)∧Hid (CpM wr (w.heap.size+1) us ds m k)∧Below w.heap.size w wr) (fun i _=>n - (intOf i).toNat)
 case atStart=>exact ⟨0,[],[],Nat.zero_le _,rfl,by simpa using hown,hide ⟨rfl,rfl, .nil,fun d hd=>by simp at hd,fun i u d x h=>by simp at h⟩,hb1⟩
 case round =>
  obtain ⟨k,us,ds,hk,rfl,ho,R,hb⟩:=hrel
  have U:=hide R.out.lu
  by_cases hlt:k < n
  ·obtain ⟨x,hxk⟩:=get_of_lt (xs:=m) (k:=k) (by rw [H.out];exact hlt)
   obtain ⟨b,o,s,rfl,hbl,i0,i1,i2,i3,i5⟩:=(HX.out.below hb).row hxk
   have hlt':=nat_of_lt hlt
   have hdl:descR x.e.kids≤1048576:=by have h1:=wtM_mem (List.mem_of_getElem? hxk);have h2:=descR_le_wtR x.e.kids;omega
   have HC:=hide (fun w' h=>toRule_anyO x.kind x.e.op x.e.nm x.e.kids s.a s.n s.cap w' h hdl)
   have hz:(us++List.replicate (n - k) (⟨0,0,⟨#[]⟩,⟨none,0,0⟩⟩:Us))[k]? = some ⟨0,0,⟨#[]⟩,⟨none,0,0⟩⟩:=by
    rw [List.getElem?_append_right (by rw [U.out];omega),U.out,Nat.sub_self,List.getElem?_replicate,if_pos (by omega)]
   have X:=hide hxk;have HZ:=hide hz;have I5:=hide i5
   clear hxk hz i5 hdl
   go_wp2_with fail
   (with_reducible refine (HC.out _ I5.out).mono ?_);rintro e w2 ⟨s',rfl,hs',hb2⟩
   obtain ⟨hgl,f0,f1,f2,f3,hfr⟩:=(ho.below hb2).usr HZ.out
   have ho2:=(ho.below hb2).setUs HZ.out ⟨x.kind,x.e.op,x.e.nm,s'⟩
   have hset:(us++List.replicate (n - k) (⟨0,0,⟨#[]⟩,⟨none,0,0⟩⟩:Us)).set k ⟨x.kind,x.e.op,x.e.nm,s'⟩=(us++[⟨x.kind,x.e.op,x.e.nm,s'⟩])++List.replicate (n - (k+1)) ⟨0,0,⟨#[]⟩,⟨none,0,0⟩⟩:=by
    rw [List.set_append_right _ _ (by rw [U.out];omega),U.out,Nat.sub_self,show n - k=(n - (k+1))+1 by omega,List.replicate_succ,List.set_cons_zero];simp
   rw [hset] at ho2
   clear hset
   have hgw:w.heap.size < wr.heap.size:=by have:=(World.ownsRow.lt ho _ rfl).2;exact this
   have HO2:=hide ho2
   have R2:=hide ((R.out.snoc X.out hgw hb2 hs').set4 (ho.below hb2) HZ.out ⟨x.kind,x.e.op,x.e.nm,s'⟩)
   clear ho2 hs'
   have hb3:=hb.trans (hb2.mono hb.size)
   go_wp2_with fail
   go_roundw
   case rel =>
    refine ⟨k+1,_,_,by omega,by go_num,HO2.out,R2,(((hb3.setCell (Nat.le_refl _) _).setCell (Nat.le_refl _) _).setCell (Nat.le_refl _) _).setCell (Nat.le_refl _) _⟩
   case measure=>simp [intOf];omega
  ·have e:k=n:=by omega
   subst e
   have HO:=hide ho;clear ho
   go_wp2_with fail
   go_ret
   have ho:=HO.out
   rw [Nat.sub_self,List.replicate_zero,List.append_nil] at ho
   exact ⟨⟨some ⟨w.heap.size,0,none⟩,k,k⟩,rfl,⟨us,ds,by rw [U.out,H.out],by rw [R.out.ld,H.out],R.out.pw,ho,fun i u d x h1 h2 h3=>⟨by have:=(R.out.hi d (List.mem_of_getElem? h2)).1;omega,R.out.row i u d x h1 h2 h3⟩⟩,hb⟩
end Go.Proofs.YtfbgppkdnfljhaaGreatDoor
namespace Go.Proofs.YtfbgppkdnfljhaaGreatDoor
open Go.RowKit
theorem szMm_le (m:List Ru) (l:Int) (h:¬ szMm m l < 0) (hl:l≤1048576):wtM m≤1048576:=by
 unfold szMm at h
 split at h <;> omega
theorem lawFnExactAllowedExecs (v:Value) (p:List (List Ins)) (a:Option Addr) (n c:Nat) (m:List Ru) (w:World) (hp:RepP w v p) (hm:RepM 0 w ⟨a,n,c⟩ m) (hnm:∀ r∈m,NmOk r.e) (hg:Glob w) :
 Calls Tryz.prog 3 #[v, .slice a n c] w fun e w'=>e = .returned (.bool true)∧Below w.heap.size w w':=by
 have HP:=hide (fun W (hb:Below w.heap.size w W)=>hp.below hb)
 have HM:=hide (fun W (hb:Below w.heap.size w W)=>hm.below hb)
 have HG:=hide (fun W (hb:Below w.heap.size w W)=>hg.below hb)
 have HZ0:=hide (szInstrSS_any v p 1048576 w hp (by omega) (by omega))
 have HS:=hide (fun l W (hb:Below w.heap.size w W) h0 h1=>szRuleS_any m a n c l W (hm.below hb) hnm h0 h1)
 have LE0:=hide (szPP_le2 p 1048576)
 have LE1:=hide (szMm_le m)
 obtain ⟨pa,pc,rfl, -, -, -, -⟩:=hp.open
 clear hp hm hnm hg
 generalize hpn:p.length=pn at *
 have HPN:=hide hpn;clear hpn
 generalize szPP p 1048576=Z0 at *
 by_cases hz0:Z0 < 0
 ·have hz0':decide (Z0 < 0)=true:=decide_eq_true hz0
  go_enter Tryz.func3,Tryz.ntmps3
  go_wp2_with fail
  (with_reducible refine HZ0.out.mono ?_);rintro e w1 ⟨rfl,hb1⟩
  go_wp2_with fail
  go_ret
  exact ⟨rfl,hb1⟩
 have hz0':decide (Z0 < 0)=false:=decide_eq_false hz0
 obtain ⟨⟨hz1,hz2⟩,hpl,hpf,hpr⟩:=LE0.out hz0 (by omega)
 have HS1:=hide (fun W hb=>HS.out Z0 W hb hz1 hz2)
 have LE2:=hide (fun h=>LE1.out Z0 h hz2)
 clear HS LE1 LE0
 generalize szMm m Z0=Z1 at *
 by_cases hz3:Z1 < 0
 ·have hz3':decide (Z1 < 0)=true:=decide_eq_true hz3
  go_enter Tryz.func3,Tryz.ntmps3
  go_wp2_with fail
  (with_reducible refine HZ0.out.mono ?_);rintro e w1 ⟨rfl,hb1⟩
  go_wp2_with fail
  (with_reducible refine (HS1.out w1 hb1).mono ?_);rintro e w2 ⟨rfl,hb2⟩
  go_wp2_with fail
  go_ret
  exact ⟨rfl,hb1.trans (hb2.mono hb1.size)⟩
 have hz3':decide (Z1 < 0)=false:=decide_eq_false hz3
 have hmw:=LE2.out hz3
 have HTP:=hide (fun W hb=>toInstrSS_any _ p W (HP.out W hb) (by rw [HPN.out];exact hpl) hpr)
 have HTM:=hide (fun W hb=>toRuleS_anyO m a n c W (HM.out W hb) hmw)
 have HSA:=hide (fun pv a n c W h1 h2=>sAllowedExecs_any pv a n c p m W h1 h2 hpf (by rw [HPN.out];exact hpl) hmw)
 have HIA:=hide (fun pv a n c W h1 h2 h3=>AllowedExecs_anyO pv a n c p m W h1 h2 hpf h3)
 have HEP:=hide (fun x y W h1 h2=>eqInstrSS_any x y p p W h1 h2)
 have HEM:=hide (fun a a' n c n' c' W h1 h2=>eqRuleS_any m m a a' n c n' c' true W h1 h2 (by simp))
 have hsum:sumN (p.map List.length)≤1048576:=by rw [sumN_flatten];exact hpf
 have HMP:=hide (fun x w0 W base h1 h2=>markInstrSS_any x p 1 w0 W base h1 h2 (by omega) (by rw [HPN.out];exact hpl) (by omega) (by omega))
 have hdsc:dscM m≤3145728:=by have:=dscM_wt m;omega
 have HMM:=hide (fun a n c (k:Int) W base us ds HH h1 h2 h5 (h3:0≤k) (h4:k≤100000000)=>markRuleS_any m base a n c k W us ds HH h1 h2 h5 h3 (by omega))
 obtain ⟨hod,hwx⟩:=allowV_few p m
 have HMX:=hide (fun a n c W base h1=>markExecS_any (allowV p m) base a n c 1 W h1 hod (by omega) (by omega))
 have HHX:=hide (fun a n c W h1=>heldExecS_any (allowV p m) a n c 1 W h1 (by omega) (by omega))
 have HEX:=hide (fun a a' n c n' c' W h1 h2=>eqExecS_same (allowV p m) a a' n c n' c' W h1 h2)
 have hdd:decide (p=p)=true:=decide_eq_true rfl
 rw [hdd] at HEP
 clear hdd hod hdsc hmw hpl hpf hpr hz1 hz2 LE2
 generalize sumN (p.map List.length)=SP at *
 generalize hX:allowV p m=X at *
 clear hX
 generalize wXs X=WX at *
 have hwn:¬ ((1:Int)+WX < 0):=by omega
 go_enter Tryz.func3,Tryz.ntmps3
 go_wp2_with fail
 (with_reducible refine HZ0.out.mono ?_);rintro e w1 ⟨rfl,hb1⟩
 go_wp2_with fail
 (with_reducible refine (HS1.out w1 hb1).mono ?_);rintro e w2 ⟨rfl,hb2⟩
 have H2:=hide (hb1.trans (hb2.mono hb1.size))
 clear hb1 hb2 HZ0 HS1
 go_wp2_with fail
 (with_reducible refine (HTP.out w2 H2.out).mono ?_);rintro e w3 ⟨v3,rfl,o3,hb3⟩
 have H3:=hide (H2.out.trans (hb3.mono H2.out.size))
 have O3:=hide o3.rep
 clear hb3 o3
 go_wp2_with fail
 (with_reducible refine (HTM.out w3 H3.out).mono ?_);rintro e w4 ⟨⟨s1,s2,s3⟩,rfl,o4,hb4⟩
 have H4:=hide (H3.out.trans (hb4.mono H3.out.size))
 have HSC:=hide (HSA.out v3 s1 s2 s3 w4 (O3.out.below hb4) (o4.weak.rep.low (Nat.zero_le _)))
 clear hb4 o4 O3
 go_wp2_with fail
 (with_reducible refine HSC.out.mono ?_);rintro e w5 ⟨⟨t1,t2,t3⟩,rfl,o5,hb5⟩
 have H5:=hide (H4.out.trans (hb5.mono H4.out.size))
 have T5:=hide (RowsX.repXs o5)
 clear hb5 o5 HSC
 go_wp2_with fail
 (with_reducible refine (HTP.out w5 H5.out).mono ?_);rintro e w6 ⟨v6,rfl,o6,hb6⟩
 have OP6:=hide o6
 have K6:=hide hb6
 obtain ⟨⟨x1,x2,x3⟩,rfl⟩:=own2_slc o6
 have H6:=hide (H5.out.trans (hb6.mono H5.out.size))
 clear hb6 o6
 go_wp2_with fail
 (with_reducible refine (HTM.out w6 H6.out).mono ?_);rintro e w7 ⟨⟨y1,y2,y3⟩,rfl,o7,hb7⟩
 have OM7:=hide o7
 obtain ⟨usm,dsm,hU7⟩:=id o7
 have OMU7:=hide hU7
 have HGH:=hide (fun g hg=>(World.ownsRow.lt hU7.own g hg).2)
 have HLE:=hide (fun d hd=>hU7.hi d hd)
 clear hU7
 have P7:=hide hb7
 have K7:=hide (K6.out.trans (hb7.mono K6.out.size))
 have H7:=hide (H5.out.trans (K7.out.mono H5.out.size))
 have HIC:=hide (HIA.out _ y1 y2 y3 w7 (OP6.out.rep.below hb7) (o7.weak.rep.low (Nat.zero_le _)) (HG.out w7 H7.out))
 clear hb7 o7
 go_wp2_with fail
 (with_reducible refine HIC.out.mono ?_);rintro e w8 ⟨⟨g1,g2,g3⟩,rfl,o8,hb8⟩
 have OX8:=hide o8
 have P8:=hide (P7.out.trans (hb8.mono P7.out.size))
 have M8:=hide hb8
 have K8:=hide (K7.out.trans (hb8.mono K7.out.size))
 have HEC:=hide (HEX.out g1 t1 g2 g3 t2 t3 w8 (RowsX.repXs (RowsXo.weak o8)) (T5.out.below K8.out))
 clear hb8 o8 HIC
 go_wp2_with fail
 (with_reducible refine HEC.out.mono ?_);rintro e w9 ⟨rfl,hb9⟩
 have OX9:=hide (OwnF.below OX8.out hb9)
 have P9:=hide (P8.out.trans (hb9.mono P8.out.size))
 have M9:=hide (M8.out.trans (hb9.mono M8.out.size))
 have K9:=hide (K8.out.trans (hb9.mono K8.out.size))
 have H9:=hide (H5.out.trans (K9.out.mono H5.out.size))
 clear hb9 HEC OX8 K8 P8 M8
 go_wp2_with fail
 (with_reducible refine (HTP.out w9 H9.out).mono ?_);rintro e w10 ⟨v10,rfl,o10,hb10⟩
 have OX10:=hide (OwnF.below OX9.out hb10)
 have P10:=hide (P9.out.trans (hb10.mono P9.out.size))
 have M10:=hide (M9.out.trans (hb10.mono M9.out.size))
 have K10:=hide (K9.out.trans (hb10.mono K9.out.size))
 have HEC:=hide (HEP.out _ v10 w10 (OP6.out.rep.below P10.out) o10.rep)
 clear hb10 o10 OX9 K9 P9 M9 H9
 go_wp2_with fail
 (with_reducible refine HEC.out.mono ?_);rintro e w11 ⟨rfl,hb11⟩
 have OX11:=hide (OwnF.below OX10.out hb11)
 have P11:=hide (P10.out.trans (hb11.mono P10.out.size))
 have M11:=hide (M10.out.trans (hb11.mono M10.out.size))
 have K11:=hide (K10.out.trans (hb11.mono K10.out.size))
 have H11:=hide (H5.out.trans (K11.out.mono H5.out.size))
 clear hb11 HEC OX10 K10 P10 M10
 go_wp2_with fail
 (with_reducible refine (HTM.out w11 H11.out).mono ?_);rintro e w12 ⟨⟨q1,q2,q3⟩,rfl,o12,hb12⟩
 have OX12:=hide (OwnF.below OX11.out hb12)
 have P12:=hide (P11.out.trans (hb12.mono P11.out.size))
 have M12:=hide (M11.out.trans (hb12.mono M11.out.size))
 have K12:=hide (K11.out.trans (hb12.mono K11.out.size))
 have HEC:=hide (HEM.out y1 q1 y2 y3 q2 q3 w12 ((OM7.out.weak.rep.low (Nat.zero_le _)).below M12.out) (o12.weak.rep.low (Nat.zero_le _)))
 clear hb12 o12 OX11 K11 P11 M11 H11
 go_wp2_with fail
 (with_reducible refine HEC.out.mono ?_);rintro e w13 ⟨rfl,hb13⟩
 have OX13:=hide (OwnF.below OX12.out hb13)
 have P13:=hide (P12.out.trans (hb13.mono P12.out.size))
 have M13:=hide (M12.out.trans (hb13.mono M12.out.size))
 have K13:=hide (K12.out.trans (hb13.mono K12.out.size))
 have HKP:=hide (HMP.out _ w6 w13 w5.heap.size OP6.out P13.out)
 clear hb13 HEC OX12 K12 P12 M12
 go_wp2_with fail
 (with_reducible refine HKP.out.mono ?_);rintro e w14 ⟨rfl, -,ht14⟩
 have hs67:=P7.out.size
 have hs56:=K6.out.size
 have OMU13:=hide (OMU7.out.below M13.out)
 have OMU14:=hide (OMU13.out.outsA ht14 (Nat.le_refl _))
 have OX14:=hide (RowsXo.outs OX13.out ht14 hs67)
 have K14:=hide (K13.out.trans (ht14.below (Nat.le_refl _) K13.out.size))
 have HKM:=hide (HMM.out y1 y2 y3 (1+4 * SP) w14 w6.heap.size usm dsm w7.heap.size OMU14.out HGH.out HLE.out (by omega) (by omega))
 clear ht14 HKP OX13 K13 OMU13 OMU14 OMU7 M13 P13
 go_wp2_with fail
 (with_reducible refine HKM.out.mono ?_);rintro e w15 ⟨q15,xs15,rfl,hmk, -, -,ht15⟩
 have hq15:=hmk.pos
 have hqn:¬ q15 < 0:=by omega
 have hqd:decide (q15 < 0)=false:=decide_eq_false hqn
 have OX15:=hide (RowsXo.outs OX14.out ht15.outside (Nat.le_refl _))
 have K15:=hide (K14.out.trans (ht15.below (fun q hq=>by omega) K14.out.size))
 have HEC:=hide (HEX.out g1 t1 g2 g3 t2 t3 w15 (RowsX.repXs (RowsXo.weak OX15.out)) (T5.out.below K15.out))
 clear ht15 hmk HKM OX14 K14
 go_wp2_with fail
 (with_reducible refine HEC.out.mono ?_);rintro e w16 ⟨rfl,hb16⟩
 have OX16:=hide (OwnF.below OX15.out hb16)
 have K16:=hide (K15.out.trans (hb16.mono K15.out.size))
 have HKX:=hide (HMX.out g1 g2 g3 w16 w7.heap.size OX16.out)
 clear hb16 HEC OX15 K15
 go_wp2_with fail
 (with_reducible refine HKX.out.mono ?_);rintro e w17 ⟨rfl,hr17,ht17⟩
 have K17:=hide (K16.out.trans (ht17.below (fun q hq=>by omega) K16.out.size))
 have R17:=hide hr17
 have HH17:=hide (HHX.out g1 g2 g3 w17 hr17)
 have H17:=hide (H5.out.trans (K17.out.mono H5.out.size))
 clear ht17 hr17 HKX OX16 K16
 go_wp2_with fail
 (with_reducible refine HH17.out.mono ?_);rintro e w17' ⟨rfl,rfl⟩
 go_wp2_with fail
 (with_reducible refine (HTP.out w17 H17.out).mono ?_);rintro e w18 ⟨v18,rfl,o18,hb18⟩
 have O18:=hide o18.rep
 have J18:=hide hb18
 have H18:=hide (H17.out.trans (hb18.mono H17.out.size))
 clear hb18 o18
 go_wp2_with fail
 (with_reducible refine (HTM.out w18 H18.out).mono ?_);rintro e w19 ⟨⟨r1,r2,r3⟩,rfl,o19,hb19⟩
 have J19:=hide (J18.out.trans (hb19.mono J18.out.size))
 have H19:=hide (H18.out.trans (hb19.mono H18.out.size))
 have HIC:=hide (HIA.out v18 r1 r2 r3 w19 (O18.out.below hb19) (o19.weak.rep.low (Nat.zero_le _)) (HG.out w19 H19.out))
 clear hb19 o19 O18
 go_wp2_with fail
 (with_reducible refine HIC.out.mono ?_);rintro e w20 ⟨⟨h1,h2,h3⟩,rfl,o20,hb20⟩
 have J20:=hide (J19.out.trans (hb20.mono J19.out.size))
 have K20:=hide (K17.out.trans (J20.out.mono K17.out.size))
 have HEC:=hide (HEX.out h1 t1 h2 h3 t2 t3 w20 (RowsX.repXs (RowsXo.weak o20)) (T5.out.below K20.out))
 clear hb20 o20 HIC
 go_wp2_with fail
 (with_reducible refine HEC.out.mono ?_);rintro e w21 ⟨rfl,hb21⟩
 have J21:=hide (J20.out.trans (hb21.mono J20.out.size))
 have H21:=hide (H17.out.trans (J21.out.mono H17.out.size))
 have HH21:=hide (HHX.out g1 g2 g3 w21 (R17.out.below J21.out))
 clear hb21 HEC
 go_wp2_with fail
 (with_reducible refine HH21.out.mono ?_);rintro e w22 ⟨rfl,rfl⟩
 go_wp2_with fail
 go_ret
 exact ⟨rfl,H21.out⟩
end Go.Proofs.YtfbgppkdnfljhaaGreatDoor
namespace Go.Proofs.YtfbgppkdnfljhaaGreatDoor
open Go Go.RowKit Go.ChangeShapes Go.WideShapes Go.ChangeAt
open Go.ChangeMaps (open_string)
theorem fnExactAllowedExecs_reads:∀ t∈Tryz.f3.params.toList,Tryz.prog.readableRec t=true∧t < Tryz.prog.types.size:=by
 intro t ht
 have:t=22∨t=23:=by simpa [Tryz.params3] using ht
 rcases this with rfl | rfl
 ·exact ⟨by kernel_rfl,of_decide_eq_true (by kernel_rfl)⟩
 ·exact ⟨by kernel_rfl,of_decide_eq_true (by kernel_rfl)⟩
theorem fnExactAllowedExecs_lifted (os:Os) (started:os.Started) (H:Type) (enc:TypeId × Value→H) :
 ReturnsInHanded {} Tryz.checked os 3 .any (fun w args=>(Rows.fnExactAllowedExecsSpec.pre enc Tryz.prog Tryz.f3 [] false w args∧laidMetH Tryz.prog laidL w)∧sizedMet enc Tryz.prog Tryz.f3 (OpenSpec.ofChange Rows.fnExactAllowedExecsSpec) false w args)
  (Rows.fnExactAllowedExecsSpec.post enc Tryz.prog Tryz.f3 false true false false):=by
 refine returnsInHanded_of_change_and (C:=Tryz.checked) (X:=fun w _=>laidMetH Tryz.prog laidL w) (fun _ _ _ hh h=>h.of_heap hh) Tryz.own started (by kernel_rfl) Tryz.func3
  (ChangeSpec.witness_shaped (enc:=enc) (C:=Tryz.checked) (os:=os) (X:=fun w _=>laidMetH Tryz.prog laidL w) false (World.doorLaid Tryz.prog 14 os) #[.slice none 0 0, .slice none 0 0] 8 rfl (World.shaped_of_RefB (by kernel_rfl) (by kernel_rfl)) (by kernel_rfl) (by kernel_rfl) (by kernel_rfl) (door_met os _)) ?_
 intro W base args ds gs before hval0 hW _ _ hL _
 have hval:∀ (j:Nat) t v,Tryz.f3.params[j]? = some t→args[j]? = some v→Value.okWide Tryz.prog W .any base t v:=hval0
 have hW':=hW
 obtain ⟨p,q,hA0,hV,rfl,hfz,hnd⟩:=hW
 have hA:DataW.TrodAll enc Tryz.prog W 0 (fun _=>true) true Tryz.f3.params.toList args.toList ds p:=hA0
 rw [Tryz.params3] at hA hval
 obtain ⟨v0,v1,d0,d1,p0,p1,rfl,rfl,rfl,h0,h1⟩:=trodAll_two hA
 obtain ⟨g1,rfl⟩:∃ g1,gs=[g1]:=by
  match gs,hV with
  | [g1],_=>exact ⟨g1,rfl⟩
  | [],h=>exact h.elim
  | _ :: _ :: _,⟨_,_,_,_,_,_,_,_,_,_,h,_⟩=>exact h.elim
 obtain ⟨P0,hP0⟩:=progR_of_trod (okWide_slice Tryz.underlying22 (hval 0 22 v0 rfl rfl)) h0
 obtain ⟨ma,mn,mc,M0,rfl,hM0,hN0⟩:=model_of_trod (okWide_slice Tryz.underlying23 (hval 1 23 v1 rfl rfl)) h1
 refine (lawFnExactAllowedExecs v0 P0 ma mn mc M0 W hP0 hM0 hN0 (glob_of_laid hL)).mono fun e W' ⟨he,hb⟩ => ?_
 exact ⟨_,he,post_lawV Tryz.laidOut fnExactAllowedExecs_reads (by kernel_rfl) rfl (by kernel_rfl) Tryz.underlying4 hW' hb⟩
theorem fnExactAllowedExecs_named:Tryz.prog.funcNamed Rows.fnExactAllowedExecsRow.func=some 3:=by kernel_rfl
theorem fnExactAllowedExecs_closed:joinedFacts Tryz.prog 3 Tryz.f3 Rows.fnExactAllowedExecsSpec Rows.fnExactAllowedExecsRow=true:=by kernel_rfl
theorem fnExactAllowedExecs_inst:Func.isInstance Tryz.prog Tryz.f3 Rows.fnExactAllowedExecsRow.origin Rows.fnExactAllowedExecsRow.targs:=of_decide_eq_true (by kernel_rfl)
theorem fnExactAllowedExecs_wrap:Func.isWrapper Tryz.prog Tryz.f3 Rows.fnExactAllowedExecsRow.wrapper Rows.fnExactAllowedExecsRow.mainSum:=by unfold Func.isWrapper;first | (rw [if_pos (by decide +kernel)];kernel_rfl) | (rw [if_neg (by decide +kernel)];exact ⟨rfl,rfl⟩)
theorem fnExactAllowedExecs_wf:Rows.fnExactAllowedExecsRow.wfByText (OpenSpec.ofChange Rows.fnExactAllowedExecsSpec)=true:=by kernel_rfl
theorem fnExactAllowedExecs_main:Tryz.prog.mainIs=some (Rows.fnExactAllowedExecsCard.stood.harness.1,Rows.fnExactAllowedExecsCard.stood.harness.2.toList):=by kernel_rfl
theorem fnExactAllowedExecs_looks:false=Tryz.prog.looks []:=by kernel_rfl
theorem fnExactAllowedExecs_goes:false=Rows.fnExactAllowedExecsRow.goesBy Tryz.prog:=by kernel_rfl
theorem fnExactAllowedExecs_row:Rows.FnExactAllowedExecsSaid:=
 OpenClaim.holds_of_wide 3 Tryz.f3 rfl rfl rfl rfl rfl rfl rfl ⟨rfl,rfl,rfl,rfl,rfl⟩ rfl rfl rfl rfl rfl fnExactAllowedExecs_named Tryz.func3 fnExactAllowedExecs_closed fnExactAllowedExecs_inst fnExactAllowedExecs_wrap
  (fun os started H enc _=>fnExactAllowedExecs_lifted os started H enc)
theorem fnExactAllowedExecs_holds:Rows.FnExactAllowedExecsCardSaid:=
 Claim7.holds_tied_plain_at .later [] [.widerDeep] true Rows.fnExactAllowedExecsCard.stood.harness false
  fnExactAllowedExecs_row (fun _ h=>by cases h) fnExactAllowedExecs_wf (fun _ h=>by cases h) fnExactAllowedExecs_row_tie rfl ⟨rfl,rfl⟩ fnExactAllowedExecs_main rfl
  (fun f fn hf hfn=>by
   obtain rfl:f=3:=Option.some.inj (fnExactAllowedExecs_named.symm.trans hf) |>.symm
   obtain rfl:fn=Tryz.f3:=(Option.some.inj (Tryz.func3.symm.trans hfn)).symm
   exact ⟨fnExactAllowedExecs_looks,fun j t ht=>by
    rw [Tryz.params3] at ht
    have hm:t∈[22,23]:=by simpa using Array.mem_of_getElem? ht
    have hall:([22,23].all fun u => !Tryz.prog.wantsStandIn u)=true:=by kernel_rfl
    exact (show Tryz.prog.wantsStandIn t=false by simpa using List.all_eq_true.1 hall t hm)⟩)
  fnExactAllowedExecs_goes
end Go.Proofs.YtfbgppkdnfljhaaGreatDoor