/-
  FnModelSorted: for every input the law returns true and the input reads afterwards as it read before; the tied card. Condition: none beyond the row's own (the listed variable starts as the program's text lays it, which the card ties).
-/
import Derived.Test.YtkfhgnkonaafgaaGreatDoorZs38
import Derived.Test.YtkfhgnkonaafgaaGreatDoorZs39
import Derived.Test.YtkfhgnkonaafgaaGreatDoorZs26
import Derived.Test.YtkfhgnkonaafgaaGreatDoorZs35
import Derived.Test.YtkfhgnkonaafgaaGreatDoorZs37
import Derived.Test.YtkfhgnkonaafgaaGreatDoorZs10
import Derived.Test.YtkfhgnkonaafgaaGreatDoorZs07
import Derived.Test.YtkfhgnkonaafgaaGreatDoorZs16
import Derived.Test.YtkfhgnkonaafgaaGreatDoorTie
import Derived.Test.YtkfhgnkonaafgaaGreatDoorCards
import Derived.SevenTiedAt
set_option maxHeartbeats 6400000
set_option maxRecDepth 100000
namespace Go.Proofs.YtkfhgnkonaafgaaGreatDoor
open Go.RowKit
theorem OwnFU.outside {α β:Type} {E:El α} {T:TypeId} {R:Dd→Dd→Prop} {φ:Dd→World→α→β→Prop} {us:List α} {ds:List Dd} {w w':World} {base b:Nat} {v:Value} {xs:List β} (h:OwnFU E T R φ us ds w base v xs) (ho:Outside b (b+1) w w') (hb:b < base):OwnFU E T R φ us ds w' base v xs:=
 ⟨h.lu,h.ld,h.pw,ho.ownHi h.own hb,fun i u d x h1 h2 h3=>by
  obtain ⟨r1,r2⟩:=h.rows i u d x h1 h2 h3
  exact ⟨r1,r2.step ho.size fun k ob hk1 hk2 hk3 _=>(ho.block k (Array.getElem?_eq_some_iff.1 hk3).1 (by omega)).trans hk3⟩⟩
theorem OwnM.outs {w w':World} {base b:Nat} {v:Value} {m:List Ru} (h:OwnM w base v m) (ho:Outside b (b+1) w w') (hb:b < base):OwnM w' base v m:=by
 obtain ⟨us,ds,h⟩:=h
 exact ⟨us,ds,h.outside ho hb⟩
theorem wtM_append (m m':List Ru):wtM (m++m')=wtM m+wtM m':=by simp [wtM]
theorem wtM_one (r:Ru):wtM [r]=r.e.nm.size+wtR r.e.kids+1:=by simp [wtM]
theorem l7Models_any (w:World):Calls Tryz.prog 134 #[] w (RetOwn StrE 9 w textsM):=by
 go_enter Tryz.func134,Tryz.ntmps134
 go_wp2
 go_ret
 exact ⟨_,rfl,Own.lit (E:=StrE) (Nat.le_refl _) textsM _ 7 rfl rfl (by decide),(Below.refl _ _).alloc (Nat.le_refl _) _⟩
def QR (lo:Nat) (v:Value) (w:World):Prop:=∃ m,OwnM w lo v m∧1≤m.length∧m.length≤5∧wtM m≤100000
theorem l7Rules_any (b:Nat) (a:Option Addr) (c:Nat) (xs:List Int) (p:Int) (w:World) (hr:Rd w b a c xs p) (hp:p≤800000000) :
 Calls Tryz.prog 93 #[.pointer (some ⟨b,0,none⟩)] w (RetRd w b a c xs p 300 (QR w.heap.size)):=by
 have HP:=hide (fun (p:Int) n w' h hp (hn:n≤100) (hn0:0≤n)=>pick_any b a c xs p n w' h hp (by omega) (by omega))
 have HDR:Hid (∀ (p:Int) (W:World),Rd W b a c xs p→p≤850000000→Calls Tryz.prog 136 #[.pointer (some ⟨b,0,none⟩), .int .i64 3] W (RetRd W b a c xs p 75 (QE W.heap.size 258))):=hide (fun p W h hp=>l7Draw_any b a c xs 3 (by omega) p W h (by simp;omega))
 have HL:=hide l7Models_any
 have HPM:=hide (fun (x:ByteArray) (m:List Ru) (hg:GoodM x m) (W:World)=>sParseModel_ok x m hg W)
 have HR:=hide hr
 have hlt:=hr.lt
 clear hr
 go_enter Tryz.func93,Tryz.ntmps93
 go_wp2_with fail
 (with_reducible refine (HL.out _).mono ?_);rintro e w1 ⟨v1,rfl,ho1,hb1⟩
 rcases ho1.shape with ⟨-,h0⟩ | ⟨g1,c1,rfl,hg1,hgl1,hc1, -⟩
 ·simp [textsM] at h0
 simp only [show textsM.length=7 from rfl] at ho1 hc1 ⊢
 have HO1:=hide ho1
 have R1:=hide (HR.out.keep hb1 hlt)
 have O1:=hide (Outside.of_below (lo:=b) (hi:=b+1) hb1)
 have hs1:=hb1.size
 clear ho1 hb1
 go_wp2_with fail
 (with_reducible refine (HP.out p 3 _ R1.out (by omega) (by omega) (by omega)).mono ?_);rintro e w2 ⟨v2,p2,rfl,⟨q,rfl,hq0,hqn⟩,hp2,hr2,ho2⟩
 have hs2:=ho2.size
 have R2:=hide hr2
 have O2:=hide (O1.out.trans ho2)
 have HO2:=hide (ho2.ownHi HO1.out (show b < w.heap.size from hlt))
 clear hr2 ho2 hqn
 by_cases hq:0 < q
 ·have hq':decide (0 < q)=true:=decide_eq_true hq
  go_wp2_with fail
  (with_reducible refine (HP.out p2 7 _ R2.out (by omega) (by omega) (by omega)).mono ?_);rintro e w3 ⟨v3,p3,rfl,⟨y,rfl,hy0,hyn⟩,hp3,hr3,ho3⟩
  have hyn:=hyn (by omega)
  obtain ⟨y,rfl⟩:∃ y':Nat,y=(y':Int):=⟨y.toNat,by omega⟩
  obtain ⟨x,hx⟩:=get_of_lt (xs:=textsM) (k:=y) (show y < 7 by omega)
  have cx:=(ho3.ownHi HO2.out (show b < w.heap.size from hlt)).cell (j:=0) (u:=.string x) hx rfl
  simp only [StrE,Nat.mul_one,Nat.add_zero] at cx
  have cl:=lt_of_cell cx
  obtain ⟨m,hg⟩:=textsM_good x (List.mem_of_getElem? hx)
  have hmo:=hg.ok
  have hmw:=hg.wt
  have HPX:=hide (HPM.out x m hg)
  have hs3:=ho3.size
  have R3:=hide hr3
  have O3:=hide (O2.out.trans ho3)
  clear hr3 ho3 hx hg
  go_wp2_with fail
  (with_reducible refine (HPX.out _).mono ?_);rintro e w4 ⟨v4,rfl,ho4,hb4⟩
  have HO4:=hide (OwnF.mono ho4 (show w.heap.size≤w3.heap.size by omega))
  have R4:=hide (R3.out.keep hb4 (by omega))
  have O4:=hide (O3.out.trans (Outside.of_below hb4))
  clear ho4 hb4 cx cl
  go_wp2_with fail
  unfold modelOk at hmo
  simp only [Bool.and_eq_true,decide_eq_true_eq] at hmo
  refine bodyPost_ret (v:=v4) (by simp [results,Tryz.results93,go_sem, *]) rfl ⟨_,p3,rfl,⟨m,HO4.out,hmo.1,hmo.2.1,hmw⟩,by omega,R4.out,O4.out⟩
 ·have hq':decide (0 < q)=false:=decide_eq_false hq
  obtain rfl:q=0:=by omega
  have R2a:=hide (R2.out.allocNew (.cells #[] 77))
  have O2a:=hide (O2.out.allocNew (.cells #[] 77))
  have HOa:=hide (OwnF.empty (E:=UsE) (R:=Rany) (φ:=PhiM) 77 w2 (show w.heap.size≤w2.heap.size by omega))
  go_wp2_with fail
  (with_reducible refine (HP.out p2 2 _ R2a.out (by omega) (by omega) (by omega)).mono ?_);rintro e w3 ⟨v3,p3,rfl,⟨y,rfl,hy0,hyn⟩,hp3,hr3,ho3⟩
  have hyn:=hyn (by omega)
  have R3:=hide hr3
  have O3:=hide (O2a.out.trans ho3)
  have HO3:=hide (OwnM.outs HOa.out ho3 hlt)
  clear hr3 ho3
  go_wp2_with fail
  go_loopw [6,7] (fun v i wr => ∃ (j:Nat) (pp:Int) (s6:Slc) (m:List Ru),i = .int .i64 j∧j≤2∧v = .slice s6.a s6.n s6.cap∧OwnM wr w.heap.size (.slice s6.a s6.n s6.cap) m∧1≤m.length+j∧m.length+j≤2∧wtM m≤300 * m.length∧Rd wr b a c xs pp∧pp≤p+3+76 * m.length∧Outside b (b+1) w wr) (fun _ i _=>(intOf i).toNat)
  case atStart=>exact ⟨(1+y).toNat,p3,⟨some ⟨w2.heap.size,0,none⟩,0,0⟩,[],by go_num,by omega,rfl,HO3.out,by simp;omega,by simp;omega,by simp [wtM],R3.out,by simp;omega,O3.out⟩
  case round =>
   obtain ⟨j,pp,s6,m,rfl,hj,rfl,hom,hm1,hm2,hwt,hrr,hpp,hoo⟩:=hrel
   have HOM:=hide hom;have RR:=hide hrr;have OO:=hide hoo
   have hso:=hoo.size
   clear hom hrr hoo
   by_cases hlj:0 < j
   ·have hlj':decide (0 < j)=true:=decide_eq_true hlj
    go_wp2_with fail
    (with_reducible refine (HP.out pp 3 _ RR.out (by omega) (by omega) (by omega)).mono ?_);rintro e w5 ⟨v5,p5,rfl,⟨k,rfl,hk0,hkn⟩,hp5,hr5,ho5⟩
    have hkn:=hkn (by omega)
    have R5:=hide hr5
    have O5:=hide (OO.out.trans ho5)
    have HO5:=hide (OwnM.outs HOM.out ho5 hlt)
    have hs5:=ho5.size
    clear hr5 ho5
    go_wp2_with fail
    (with_reducible refine (HDR.out p5 _ R5.out (by omega)).mono ?_);rintro e w6 ⟨v6,p6,rfl,⟨o1,n1,s1,k1,S1,rfl,hk1,hS1,hn1,hd1⟩,hp6,hr6,ho6⟩
    have hs6:=ho6.size
    have R6:=hide hr6
    have O6:=hide (O5.out.trans ho6)
    obtain ⟨us,ds,hU⟩:=OwnM.outs HO5.out ho6 hlt
    have hlu:us.length≤68719476736:=by have:=hU.lu;omega
    have HU:=hide hU
    have HU2:=hide (hU.below (belowAlloc w6 (.cells #[.int .i64 (1+k), .int .i64 o1, .string n1, .slice s1.a s1.n s1.cap] 77)))
    have HN:=hide (OwnR.locM (lo:=w5.heap.size) (hi:=w6.heap.size) (r:=⟨1+k, .mk o1 n1 k1⟩) ((hk1.wide hS1).bel (belowAlloc w6 (.cells #[.int .i64 (1+k), .int .i64 o1, .string n1, .slice s1.a s1.n s1.cap] 77))) (by simp))
    clear hk1 hS1 hr6 ho6 hU
    go_wp2_with (at_builtin;refine wpList_app UsE 77 Tryz.infoRule rfl Tryz.underlying34 w.heap.size _ us ⟨1+k,o1,n1,s1⟩ HU2.out.own (by decide) hlu (by simp;omega) rfl _ _ rfl rfl w6.heap.size 0 1 rfl news_alloc ?_;intro v' w8 ho8 hgr8)
    have hm8:=OwnM.app (r:=⟨1+k, .mk o1 n1 k1⟩) (s:=s1) HU2.out HN.out (by omega) ho8 hgr8
    have hbs:=fun q e=>(World.ownsRow.lt HU.out.own q e).1
    obtain ⟨s8,rfl, -⟩:=hm8.toSlc
    go_roundw
    case rel=>exact ⟨j - 1,p6,s8,m++[⟨1+k, .mk o1 n1 k1⟩],by go_num,by omega,rfl,hm8,by simp;omega,by simp;omega,by rw [wtM_append,wtM_one];simp [Re.nm,Re.kids];omega,R6.out.keep (B:=w.heap.size) (((Below.refl w.heap.size w6).alloc (by omega) _).grown hgr8 (by simp;omega) hbs) hlt,by simp;omega,(O6.out.allocNew _).grownNew hgr8 hbs⟩
    case measure=>simp [intOf];omega
   ·have hlj':decide (0 < j)=false:=decide_eq_false hlj
    obtain rfl:j=0:=by omega
    go_wp2_with fail
    refine bodyPost_ret (v:=.slice s6.a s6.n s6.cap) (by simp [results,Tryz.results93,go_sem, *]) rfl ⟨_,pp,rfl,⟨m,HOM.out,by omega,by omega,by omega⟩,by omega,RR.out,OO.out⟩
end Go.Proofs.YtkfhgnkonaafgaaGreatDoor
namespace Go.Proofs.YtkfhgnkonaafgaaGreatDoor
open Go.RowKit
theorem LocR.setOwn {α:Type} {E:El α} {T:TypeId} {lo hi base:Nat} {w:World} {v:Value} {xs:List α} {φ:World→Prop} (h:LocR T lo hi w φ) (ho:Own E T w base v xs) {g:Nat} (hg:v.ownBlock=some g) (j:Nat) (u:Value):LocR T lo hi (w.setCell ⟨g,j,none⟩ u) φ:=
 h.step (by simp) fun k ob _ _ h5 h6=>(heap_setCell_other w ⟨g,j,none⟩ k u (fun e=>by
  obtain ⟨a,ha⟩:=ho.typed hg
  have e2:k=g:=e
  rw [e2,ha] at h5
  exact h6 a _ (Option.some.inj h5).symm)).trans h5
theorem OwnR.setOwn {α:Type} {E:El α} {U T:TypeId} (hT:U≠T) {w:World} {base:Nat} {v:Value} {xs:List α} {S:Nat→Prop} {s:Slc} {ks:List Re} (h:OwnR U w S s ks) (ho:Own E T w base v xs) {g:Nat} (hg:v.ownBlock=some g) (j:Nat) (u:Value):OwnR U (w.setCell ⟨g,j,none⟩ u) S s ks:=
 h.keepT fun q a _ hq=>(heap_setCell_other w ⟨g,j,none⟩ q u (fun e=>by
  obtain ⟨a',ha⟩:=ho.typed hg
  have e2:q=g:=e
  rw [e2,ha] at hq
  simp at hq;exact hT hq.2.symm)).trans hq
theorem Own.raise {α:Type} {E:El α} {T:TypeId} {w:World} {base base' g n cap:Nat} {xs:List α} (h:Own E T w base (.slice (some ⟨g,0,none⟩) n cap) xs) (hb:base'≤g):Own E T w base' (.slice (some ⟨g,0,none⟩) n cap) xs:=by
 refine ⟨h.1, ?_⟩
 rcases h.2 with ⟨hn,_⟩ | ⟨g',cap',cur,hv,hb1,rest⟩
 ·simp at hn
 ·have e:g=g':=by simp at hv;exact hv.1
  exact .inr ⟨g',cap',cur,hv,by omega,rest⟩
theorem OwnFU.set0 {w w':World} {base:Nat} {v:Value} {u0 u':Us} {ut:List Us} {d0 d':Dd} {dt:List Dd} {r0 r':Ru} {mt:List Ru} (h:OwnFU UsE 77 Rany PhiM (u0 :: ut) (d0 :: dt) w base v (r0 :: mt))
 (ho:Own UsE 77 w' base v (u' :: ut)) (hb:base≤d'.lo) (hn:LocR 77 d'.lo d'.hi w' (fun W=>PhiM d' W u' r')) (hk:∀ (lo hi:Nat) (φ:World→Prop),LocR 77 lo hi w φ→LocR 77 lo hi w' φ):OwnFU UsE 77 Rany PhiM (u' :: ut) (d' :: dt) w' base v (r' :: mt):=by
 refine ⟨h.lu,h.ld,List.pairwise_cons.2 ⟨fun _ _=>trivial,(List.pairwise_cons.1 h.pw).2⟩,ho,fun i u d x h1 h2 h3 => ?_⟩
 cases i with
 | zero=>simp at h1 h2 h3;subst h1;subst h2;subst h3;exact ⟨hb,hn⟩
 | succ i =>
  obtain ⟨q1,q2⟩:=h.rows (i+1) u d x (by simpa using h1) (by simpa using h2) (by simpa using h3)
  exact ⟨q1,hk _ _ _ q2⟩
theorem wtM_cons (r:Ru) (m:List Ru):wtM (r :: m)=r.e.nm.size+wtR r.e.kids+1+wtM m:=by simp [wtM]
def QA (lo:Nat) (v:Value) (w:World):Prop:=∃ m,OwnM w lo v m∧m.length≤6∧wtM m≤900000
theorem l7MutateAll_any (b:Nat) (a:Option Addr) (c:Nat) (xs:List Int) (p:Int) (v1:Slc) (m:List Ru) (lo:Nat) (w:World) (hr:Rd w b a c xs p) (hp:p≤700000000)
 (hm:OwnM w lo (.slice v1.a v1.n v1.cap) m) (hlo:b < lo) (hlo2:lo≤w.heap.size) (hl1:1≤m.length) (hl5:m.length≤5) (hw:wtM m≤100000) :
 Calls Tryz.prog 92 #[.pointer (some ⟨b,0,none⟩), .slice v1.a v1.n v1.cap] w (RetRd w b a c xs p 40 (QA lo)):=by
 obtain ⟨us,ds,hU⟩:=hm
 cases m with
 | nil=>simp at hl1
 | cons r0 mt =>
 cases us with
 | nil=>have:=hU.lu;simp at this
 | cons u0 ut =>
 cases ds with
 | nil=>have:=hU.ld;simp at this
 | cons d0 dt =>
 have HREP:=hide (hU.own.rep.below (belowAlloc w (.cells #[] 77)))
 have HU:=hide (hU.below (belowAlloc w (.cells #[] 77)))
 have hlu:=hU.lu
 have HR:=hide (hr.allocNew (.cells #[] 77))
 have HP:=hide (fun (p:Int) n w' h hp (hn:n≤100) (hn0:0≤n)=>pick_any b a c xs p n w' h hp (by omega) (by omega))
 have hlt:b < w.heap.size:=by omega
 obtain ⟨n,hn⟩:∃ n,mt.length+1=n:=⟨_,rfl⟩
 simp only [List.length_cons] at hlu hl5
 clear hU hr hl1
 go_enter Tryz.func92,Tryz.ntmps92
 go_wp2_with (at_builtin;refine wpList_appS UsE 77 Tryz.infoRule rfl Tryz.underlying34 w.heap.size _ [] (u0 :: ut) _ (Own.empty _ w (Nat.le_refl _)) HREP.out (by decide) (by simp;omega) (by simp) rfl _ _ rfl rfl rfl ?_;intro v' w1 ho1 hgr1)
 rcases ho1.shape with ⟨-,h0⟩ | ⟨g,cap,rfl,hg,hgl,hcap,hcap2⟩
 ·simp at h0
 simp only [List.nil_append,List.length_cons] at ho1 hcap ⊢
 rw [show ut.length+1=n by omega] at ho1 hcap ⊢
 have hbs:∀ q,(Value.slice (some ⟨w.heap.size,0,none⟩) 0 0).ownBlock=some q→w.heap.size≤q:=fun q e=>by
  have:w.heap.size=q:=by simpa [Value.ownBlock] using e
  omega
 have hB1:=((Below.refl w.heap.size w).alloc (Nat.le_refl _) (.cells #[] 77)).grown hgr1 (by simp) hbs
 have hs1:=hB1.size
 have HU1:Hid (OwnFU UsE 77 Rany PhiM (u0 :: ut) (d0 :: dt) w1 lo (.slice (some ⟨g,0,none⟩) n cap) (r0 :: mt)):=hide ⟨HU.out.lu,HU.out.ld,HU.out.pw,ho1.mono hlo2,fun i u d x h1 h2 h3=>⟨(HU.out.rows i u d x h1 h2 h3).1,(HU.out.rows i u d x h1 h2 h3).2.grown (Own.empty (E:=UsE) 77 w (Nat.le_refl _)) hgr1⟩⟩
 have R1:=hide (HR.out.keep (B:=w.heap.size) ((Below.refl w.heap.size (w.alloc (.cells #[] 77))).grown hgr1 (by simp) hbs) hlt)
 have O1:=hide (Outside.of_below (lo:=b) (hi:=b+1) hB1)
 clear ho1 hgr1 hB1 hbs
 (with_reducible refine (HP.out p 24 _ R1.out (by omega) (by omega) (by omega)).mono ?_);rintro e w2 ⟨v2,p2,rfl,⟨q,rfl,hq0,hqn⟩,hp2,hr2,ho2⟩
 have hs2:=ho2.size
 have R2:=hide hr2
 have O2:=hide (O1.out.trans ho2)
 have HU2:=hide (HU1.out.outside ho2 hlo)
 clear hr2 ho2 hqn
 have hgb:b < g:=by omega
 have hn1:1≤n:=by omega
 have hn0:0 < n:=by omega
 have hni:(0:Int) < (n:Int):=by omega
 rw [wtM_cons] at hw
 obtain ⟨hd0,hL0⟩:=HU2.out.rows 0 u0 d0 r0 rfl rfl rfl
 obtain ⟨e0,e1,e2,hO0⟩:=hL0.now
 have E0:=hide e0
 have hnmz:u0.nm.size=r0.e.nm.size:=by rw [e2]
 clear e0 e1 e2
 by_cases hq0:q=0
 ·subst hq0
  have HN:=hide (fun (p:Int) (w':World) (hb:b < w'.heap.size) h hp=>num_any b a c xs p (Value.slice (some (Addr.mk w'.heap.size 0 none)) 3 3) [0,4,2] (w'.alloc (.cells #[.int .i64 0, .int .i64 4, .int .i64 2] 3)) h hp (rep_lit w' [0,4,2] 3 (by decide)) (by decide) (by decide) (by intro g o e;simp at e;omega))
  go_wp2_with fail
  (with_reducible refine (HN.out p2 w2 (by omega) (R2.out.allocNew _) (by omega)).mono ?_);rintro e w3 ⟨v3,p3,rfl,⟨yo,hyo,rfl⟩,hp3,hr3,hoN⟩
  have ho3:=(Outside.of_below (lo:=b) (hi:=b+1) (belowAlloc w2 (.cells #[.int .i64 0, .int .i64 4, .int .i64 2] 3))).trans hoN
  have hU3:=HU2.out.outside ho3 hlo
  obtain ⟨gl,g0,g1,g2,g3,gf⟩:=hU3.own.usr (k:=0) (x:=u0) rfl
  simp only [Nat.zero_mul,Nat.zero_add] at g0 g1 g2 g3
  have ho4:=hU3.own.set (i:=0) (j:=0) (x:=u0) ⟨yo,u0.op,u0.nm,u0.s⟩ (u:=.int .i64 yo) (by decide) rfl rfl
  simp only [Nat.zero_mul,Nat.add_zero,List.set_cons_zero] at ho4
  have hU4:=hU3.set0 (d':=d0) (r':=⟨yo,r0.e⟩) ho4 hd0 (((hU3.rows 0 u0 d0 r0 rfl rfl rfl).2.setOwn hU3.own rfl 0 (.int .i64 yo)).map fun W h=>⟨rfl,h.2.1,h.2.2.1,h.2.2.2⟩) (fun lo hi φ h=>h.setOwn hU3.own rfl 0 _)
  have HU4:=hide hU4
  have R3:=hide hr3
  have O3:=hide (O2.out.trans ho3)
  clear hoN ho3 hr3 hU3 hU4 ho4 hL0 hO0
  go_wp2_with fail
  refine bodyPost_ret (v:=.slice (some ⟨g,0,none⟩) n cap) (by simp [results,Tryz.results92,go_sem, *]) rfl ⟨_,p3,rfl,⟨_,⟨_,_,HU4.out⟩,by simp;omega,by rw [wtM_cons];simp only;omega⟩,by omega,R3.out.setNew hgb _ _,O3.out.setNew hg _ _⟩
 ·have hq0':(q==0)=false:=by simp [hq0]
  by_cases hq1:q=1
  ·subst hq1
   have hS0:∀ q,(d0.lo≤q∧q < d0.hi)→q≠b∧q < w2.heap.size:=fun q hq=>⟨by omega,by have:=hL0.le;omega⟩
   have HM:=hide (l7Mutate_any b a c xs p2 u0.op u0.nm u0.s r0.e.kids _ w2 R2.out (by omega) hO0 hS0 (by omega) (by omega))
   obtain ⟨gl,g0,g1,g2,g3,gf⟩:=HU2.out.own.usr (k:=0) (x:=u0) rfl
   simp only [Nat.zero_mul,Nat.zero_add] at g0 g1 g2 g3
   go_wp2_with fail
   (with_reducible refine HM.out.mono ?_);rintro e w3 ⟨v3,p3,rfl,⟨o5,n5,s5,k5,S5,rfl,hk5,hS5,hw5⟩,hp3,hr3,ho3⟩
   have hU3:=HU2.out.outside ho3 hlo
   obtain ⟨gl,g0,g1,g2,g3,gf⟩:=hU3.own.usr (k:=0) (x:=u0) rfl
   simp only [Nat.zero_mul,Nat.zero_add] at g0 g1 g2 g3
   have hs3:=ho3.size
   have ho4:=hU3.own.set (i:=0) (j:=1) (x:=u0) ⟨u0.kind,o5,u0.nm,u0.s⟩ (u:=.int .i64 o5) (by decide) rfl rfl
   simp only [Nat.zero_mul,Nat.zero_add,List.set_cons_zero] at ho4
   have ho5:=ho4.set (i:=0) (j:=2) ⟨u0.kind,o5,n5,u0.s⟩ (u:=.string n5) (by decide) rfl rfl
   simp only [Nat.zero_mul,Nat.zero_add,List.set_cons_zero] at ho5
   have ho6:=ho5.set (i:=0) (j:=3) ⟨u0.kind,o5,n5,s5⟩ (u:=.slice s5.a s5.n s5.cap) (by decide) rfl rfl
   simp only [Nat.zero_mul,Nat.zero_add,List.set_cons_zero] at ho6
   have hw6:=((((hk5.wide (S':=fun q=>lo≤q∧q < w3.heap.size) fun q hq=>by have:=hS5 q hq;omega).setOwn (T:=77) (by decide) hU3.own rfl 1 (.int .i64 o5)).setOwn (T:=77) (by decide) ho4 rfl 2 (.string n5)).setOwn (T:=77) (by decide) ho5 rfl 3 (.slice s5.a s5.n s5.cap))
   have hU4:=hU3.set0 (d':=⟨lo,w3.heap.size,[]⟩) (r':=⟨r0.kind, .mk o5 n5 k5⟩) ho6 (Nat.le_refl _) ((hw6.loc (T:=77) (by decide) (by simp)).map fun W h=>⟨E0.out,rfl,rfl,h⟩) (fun lo hi φ h=>((h.setOwn hU3.own rfl 1 _).setOwn ho4 rfl 2 _).setOwn ho5 rfl 3 _)
   have HU4:=hide hU4
   have R3:=hide hr3
   have O3:=hide (O2.out.trans ho3)
   have hw7:(n5.size:Int)+wtR k5≤200200:=by omega
   clear ho3 hr3 hU3 hU4 ho4 ho5 ho6 hw6 hk5 hS5 hw5 hL0 hO0
   go_wp2_with fail
   refine bodyPost_ret (v:=.slice (some ⟨g,0,none⟩) n cap) (by simp [results,Tryz.results92,go_sem, *]) rfl ⟨_,p3,rfl,⟨_,⟨_,_,HU4.out⟩,by simp;omega,by rw [wtM_cons];simp only [Re.nm,Re.kids];omega⟩,by omega,((R3.out.setNew hgb _ _).setNew hgb _ _).setNew hgb _ _,((O3.out.setNew hg _ _).setNew hg _ _).setNew hg _ _⟩
  ·have hq1':(q==1)=false:=by simp [hq1]
   by_cases hq2:q=2
   ·subst hq2
    have HE:=hide (OwnF.empty (E:=UsE) (R:=Rany) (φ:=PhiM) 77 w2 (show lo≤w2.heap.size by omega))
    clear hL0 hO0
    go_wp2_with fail
    refine bodyPost_ret (v:=.slice (some ⟨w2.heap.size,0,none⟩) 0 0) (by simp [results,Tryz.results92,go_sem, *]) rfl ⟨_,p2,rfl,⟨[],HE.out,by simp,by simp [wtM]⟩,by omega,R2.out.allocNew _,O2.out.allocNew _⟩
   ·have hq2':(q==2)=false:=by simp [hq2]
    by_cases hq3:q=3
    ·subst hq3
     clear hL0 hO0
     go_wp2_with fail
     go_loopw [5] (fun v wr => ∃ (g' n' cap':Nat) (ut':List Us) (dt':List Dd) (mt':List Ru),v = .slice (some ⟨g',0,none⟩) n' cap'∧mt'.length+1=n'∧OwnFU UsE 77 Rany PhiM (u0 :: ut') (d0 :: dt') wr lo (.slice (some ⟨g',0,none⟩) n' cap') (r0 :: mt')∧w.heap.size≤g'∧n'≤6∧wtM (r0 :: mt')≤100000 * n'∧Rd wr b a c xs p2∧Outside b (b+1) w wr) (fun v _=>6 - (match v with | .slice _ n _=>n | _=>0))
     case atStart=>exact ⟨g,n,cap,ut,dt,mt,rfl,hn,HU2.out,hg,by omega,by rw [wtM_cons];omega,R2.out,O2.out⟩
     case round =>
      obtain ⟨g',n',cap',ut',dt',mt',rfl,hn',hU,hg',hn6,hwt,hrr,hoo⟩:=hrel
      have hsr:=hoo.size
      by_cases hlt6:n'≤5
      ·have hlt6':(n':Int)≤5:=by omega
       have hni':(0:Int) < (n':Int):=by omega
       obtain ⟨gl,g0,g1,g2,g3,gf⟩:=hU.own.usr (k:=0) (x:=u0) rfl
       simp only [Nat.zero_mul,Nat.zero_add] at g0 g1 g2 g3
       have hll:(u0 :: ut').length≤68719476736:=by have:=hU.lu;simp only [List.length_cons] at this ⊢;omega
       have HUa:=hide (hU.below (belowAlloc wr (.cells #[.int .i64 u0.kind, .int .i64 u0.op, .string u0.nm, .slice u0.s.a u0.s.n u0.s.cap] 77)))
       have RR:=hide hrr;have OO:=hide hoo
       have hbs:∀ q,(Value.slice (some ⟨g',0,none⟩) n' cap').ownBlock=some q→w.heap.size≤q:=fun q e=>by simp [Value.ownBlock] at e;omega
       clear hU hrr hoo
       go_wp2_with (at_builtin;refine wpList_app UsE 77 Tryz.infoRule rfl Tryz.underlying34 w.heap.size _ (u0 :: ut') ⟨u0.kind,u0.op,u0.nm,u0.s⟩ (HUa.out.own.raise hg') (by decide) hll (by simp;omega) rfl _ _ rfl rfl wr.heap.size 0 1 rfl news_alloc ?_;intro v' w8 ho8 hgr8)
       have hq8:=(HUa.out.rows 0 u0 d0 r0 rfl rfl rfl)
       have hU8:=OwnFU.app (d:=d0) (x:=r0) HUa.out (ho8.mono hlo2) hgr8 hq8.1 hq8.2 (fun _ _=>trivial)
       rcases ho8.shape with ⟨-,h0⟩ | ⟨g8,cap8,rfl,hg8,hgl8,hcap8,hcap82⟩
       ·simp at h0
       have hul:=hU8.lu
       simp only [List.length_append,List.length_cons,List.length_nil,List.cons_append] at hU8 hul ⊢
       go_roundw
       case rel=>exact ⟨g8,_,cap8,ut'++[⟨u0.kind,u0.op,u0.nm,u0.s⟩],dt'++[d0],mt'++[r0],rfl,by simp;omega,hU8,hg8,by omega,by rw [show r0 :: (mt'++[r0])=(r0 :: mt')++[r0] from rfl,wtM_append,wtM_one];omega,RR.out.keep (B:=w.heap.size) (((Below.refl w.heap.size wr).alloc (by omega) _).grown hgr8 (by simp;omega) hbs) hlt,(OO.out.allocNew _).grownNew hgr8 hbs⟩
       case measure=>simp;omega
      ·have hlt6':¬ (n':Int)≤5:=by omega
       have HUf:=hide hU;have RR:=hide hrr;have OO:=hide hoo
       clear hU hrr hoo
       go_wp2_with fail
       refine bodyPost_ret (v:=.slice (some ⟨g',0,none⟩) n' cap') (by simp [results,Tryz.results92,go_sem, *]) rfl ⟨_,p2,rfl,⟨_,⟨_,_,HUf.out⟩,by simp;omega,by omega⟩,by omega,RR.out,OO.out⟩
    ·have hq3':(q==3)=false:=by simp [hq3]
     clear hL0 hO0
     go_wp2_with fail
     refine bodyPost_ret (v:=.slice (some ⟨g,0,none⟩) n cap) (by simp [results,Tryz.results92,go_sem, *]) rfl ⟨_,p2,rfl,⟨_,⟨_,_,HU2.out⟩,by simp;omega,by rw [wtM_cons];omega⟩,by omega,R2.out,O2.out⟩
end Go.Proofs.YtkfhgnkonaafgaaGreatDoor
namespace Go.Proofs.YtkfhgnkonaafgaaGreatDoor
open Go.RowKit
def RetPMo (w:World) (e:Ending) (w':World):Prop:=∃ (vp:Value) (s:Slc) (P:List (List Ins)) (m:List Ru),e = .returned (.tuple #[vp, .slice s.a s.n s.cap])∧RepP w' vp P∧P.length≤5∧(∀ r∈P,r.length≤9) ∧
 OwnM w' w.heap.size (.slice s.a s.n s.cap) m∧m.length≤6∧wtM m≤900000∧Below w.heap.size w w'
theorem DrawAllowedExecs_any (v:Value) (xs0:List Int) (w:World) (hx:Rep ByteE w v xs0) (hb:∀ x∈xs0,0≤x∧x≤255) :
 Calls Tryz.prog 54 #[v] w (RetPMo w):=by
 have HO:=hide (l17Open_any v xs0 w hx hb)
 clear hx hb
 go_enter Tryz.func54,Tryz.ntmps54
 go_wp2_with fail
 (with_reducible refine HO.out.mono ?_);rintro e w1 ⟨b,a,c,xs,rfl,hr1,hbs,hb1⟩
 have R1:=hide hr1;have HB1:=hide hb1
 have hlt:=hr1.lt
 have hs1:=hb1.size
 have HSM:=hide (l8Small_any b a c xs 0 w1 hr1 (by omega))
 clear hr1 hb1 HO
 go_wp2_with fail
 (with_reducible refine HSM.out.mono ?_);rintro e w2 ⟨v2,p2,rfl,⟨P,hP,hPl,hPr⟩,hp2,hr2,ho2⟩
 have R2:=hide hr2;have HB2:=hide (HB1.out.trans (below_of_outside ho2 hbs HB1.out.size))
 have hs2:=ho2.size
 have HMU:=hide (l1Mutate_any b a c xs p2 v2 P w2 hr2 (by omega) hP.rep hPl hPr)
 clear hr2 ho2 R1 HB1 HSM hP hPl hPr
 go_wp2_with fail
 (with_reducible refine HMU.out.mono ?_);rintro e w3 ⟨v3,p3,rfl,hQ3,hp3,hr3,ho3⟩
 have R3:=hide hr3;have HB3:=hide (HB2.out.trans (below_of_outside ho3 hbs HB2.out.size))
 have hs3:=ho3.size
 have HQ3:=hide hQ3
 have HRU:=hide (l7Rules_any b a c xs p3 w3 hr3 (by omega))
 clear hr3 ho3 R2 HB2 HMU hQ3
 go_wp2_with fail
 (with_reducible refine HRU.out.mono ?_);rintro e w4 ⟨v4,p4,rfl,⟨m,hm,hm1,hm5,hmw⟩,hp4,hr4,ho4⟩
 have HB4:=hide (HB3.out.trans (below_of_outside ho4 hbs HB3.out.size))
 have hs4:=ho4.size
 obtain ⟨s4,rfl, -⟩:=hm.toSlc
 have HMA:=hide (l7MutateAll_any b a c xs p4 s4 m w3.heap.size w4 hr4 (by omega) hm (by omega) (by omega) hm1 hm5 hmw)
 have HP4:=hide (HQ3.out.outside ho4 (show b < w2.heap.size by omega))
 clear hr4 ho4 R3 HB3 HRU hm HQ3
 go_wp2_with fail
 (with_reducible refine HMA.out.mono ?_);rintro e w5 ⟨v5,p5,rfl,⟨m',hm',hml',hmw'⟩,hp5,hr5,ho5⟩
 have HB5:=hide (HB4.out.trans (below_of_outside ho5 hbs HB4.out.size))
 obtain ⟨P',hP',hPl',hPr'⟩:=(HP4.out.outside ho5 (show b < w2.heap.size by omega)).open
 have HP5:=hide hP'
 obtain ⟨s5,rfl, -⟩:=hm'.toSlc
 have HM5:=hide (OwnF.mono hm' (show w.heap.size≤w3.heap.size by omega))
 clear hr5 ho5 HB4 HMA hm' HP4 hP'
 go_wp2_with fail
 refine bodyPost_ret (v:=.tuple #[v3, .slice s5.a s5.n s5.cap]) (by simp [results,Tryz.results54,go_sem, *]) rfl ⟨v3,s5,P',m',rfl,HP5.out,hPl',hPr',HM5.out,hml',hmw',HB5.out⟩
end Go.Proofs.YtkfhgnkonaafgaaGreatDoor
namespace Go.Proofs.YtkfhgnkonaafgaaGreatDoor
open Go.RowKit
theorem sorted_found {p:List (List Ins)} {m:List Ru} {o:List Int} (h:o∈outsM p m):(execForV p m o).isSome=true:=by
 unfold outsM at h
 rw [(putsM_ok p (allowV p m)).2.1] at h
 obtain ⟨x,hx,rfl⟩:=List.mem_map.1 h
 obtain ⟨hp,hok,hv⟩:=allowV_ok hx
 have hm:modelOk m=true:=by
  unfold allowV at hx
  split at hx
  ·rename_i q;exact q.2
  ·simp at hx
 unfold execForV
 rw [if_pos ⟨outL_valid hok hv,hm⟩]
 unfold findX
 rw [List.find?_isSome]
 exact ⟨x,hx,by simp⟩
theorem DrawModelOutcomes_any (v:Value) (xs:List Int) (w:World) (hx:Rep ByteE w v xs) (hb:∀ x∈xs,0≤x∧x≤255):Calls Tryz.prog 27 #[v] w (RetPMo w):=by
 have HD:=hide (DrawAllowedExecs_any v xs w hx hb)
 obtain ⟨a0,c0,rfl, -, -, -, -⟩:=hx.open
 clear hx hb
 generalize xs.length=n at *
 go_enter Tryz.func27,Tryz.ntmps27
 go_wp2_with fail
 (with_reducible refine HD.out.mono ?_);rintro e w1 ⟨vp,s,P,m,rfl,hrest⟩
 have HR:=hide hrest
 clear hrest
 go_wp2_with fail
 refine bodyPost_ret (v:=.tuple #[vp, .slice s.a s.n s.cap]) (by simp [results,Tryz.results27,go_sem]) rfl ⟨vp,s,P,m,rfl,HR.out⟩
theorem lawFnModelSorted (v:Value) (xs:List Int) (w:World) (h:Rep ByteE w v xs∧∀ x∈xs,0≤x∧x≤255) (hg:Glob w) :
 Calls Tryz.prog 5 #[v] w fun e w'=>e = .returned (.bool true)∧Below w.heap.size w w':=by
 obtain ⟨hx,hb⟩:=h
 have HD:=hide (DrawModelOutcomes_any v xs w hx hb)
 obtain ⟨a0,c0,rfl, -,hm0, -, -⟩:=hx.open
 have HG:=hide hg
 clear hx hb hg
 generalize xs.length=n at *
 by_cases hl:(n:Int) > 1048576
 ·go_enter Tryz.func5,Tryz.ntmps5
  go_wp2_with fail
  go_ret
  exact ⟨rfl,Below.refl _ _⟩
 have hl':decide ((n:Int) > 1048576)=false:=decide_eq_false hl
 go_enter Tryz.func5,Tryz.ntmps5
 go_wp2_with fail
 (with_reducible refine HD.out.mono ?_);rintro e w1 ⟨vp,s,P,m,rfl,hP,hPl,hPr,hm,hml,hmw,hb1⟩
 have hfl:=flatten_bound9 hPl hPr
 have hrm:=hm.rep.low (Nat.zero_le _)
 have hpl:P.length≤1048576:=by omega
 have hmw2:wtM m≤1048576:=by omega
 have hfl2:P.flatten.length≤1048576:=by omega
 obtain ⟨pa,pc,hvp, -, -, -, -⟩:=hP.open
 subst hvp
 have HI:=hide (fun W (hb:Below w1.heap.size w1 W)=>ModelOutcomes_any _ s.a s.n s.cap P m W (hP.below hb) (hrm.below hb) hfl2 (HG.out.below (hb1.trans (hb.mono hb1.size))))
 have HS:=hide (fun W (hb:Below w1.heap.size w1 W)=>sModelOutcomes_any _ s.a s.n s.cap P m W (hP.below hb) (hrm.below hb) hfl2 hpl hmw2)
 have HE:=hide (fun W ov os (hb:Below w1.heap.size w1 W) ho=>ExecFor_any _ ov s.a s.n s.cap P m os W (hP.below hb) (hrm.below hb) ho hfl2 hpl (HG.out.below (hb1.trans (hb.mono hb1.size))))
 have HA:=hide (fun W (hb:Below w1.heap.size w1 W)=>AllowedExecs_any _ s.a s.n s.cap P m W (hP.below hb) (hrm.below hb) hfl2 (HG.out.below (hb1.trans (hb.mono hb1.size))))
 have HF:=hide (fun o (h:o∈outsM P m)=>sorted_found h)
 obtain ⟨hok, -,hlen⟩:=putsM_ok P (allowV P m)
 have HOK:Hid (OutsOk (3 * P.length+3) (outsM P m)):=hide hok
 have hlen2:(outsM P m).length≤(allowV P m).length:=hlen
 have h3000:=allowV_le P m
 have hm3:3 * P.length+3≤1048576:=by omega
 have HWL:=hide (fun W v v' h h'=>wmLists_any v v' (outsM P m) W h h')
 have HWS:=hide (fun W v h=>wmSorted_any v (outsM P m) (3 * P.length+3) W h HOK.out hm3)
 have HB1:=hide hb1
 obtain ⟨sa,sn,sc⟩:=s
 clear hP hPl hPr hm hml hmw hb1 hrm hok hlen hm3 hfl hfl2 hpl hmw2 HD
 generalize execForV P m=EF at *
 generalize outsM P m=R at *
 generalize allowV P m=L at *
 generalize P.length=pn at *
 generalize hrn:R.length=rn at *
 have HRN:=hide hrn
 generalize hln:L.length=ln at *
 have HLN:=hide hln
 clear hrn hln
 go_wp2_with fail
 (with_reducible refine (HI.out w1 (Below.refl _ _)).mono ?_);rintro e w2 ⟨v2,rfl,o2,hb2⟩
 obtain ⟨ra,rc,rfl,hcn,hcm, -, -⟩:=o2.rep.open
 rw [HRN.out] at o2 hcn hcm ⊢
 have R2:=hide o2.rep
 have B2:=hide hb2
 clear o2 hb2 hcn
 go_wp2_with fail
 (with_reducible refine (HS.out w2 B2.out).mono ?_);rintro e w3 ⟨v3,rfl,o3,hb3⟩
 have R3:=hide (R2.out.below hb3)
 have B3:=hide (B2.out.trans (hb3.mono B2.out.size))
 have HWC:=hide (HWL.out w3 _ v3 R3.out o3)
 clear o3 hb3 R2
 go_wp2_with fail
 (with_reducible refine HWC.out.mono ?_);rintro e w4 ⟨rfl,hb4⟩
 have R4:=hide (R3.out.below hb4)
 have B4:=hide (B3.out.trans (hb4.mono B3.out.size))
 clear hb4 R3 HWC
 go_wp2_with fail
 go_loopw [6] (fun i wr => ∃ k:Nat,k≤rn∧i = .int .i64 k∧Hid (Below w4.heap.size w4 wr)) (fun i _=>rn - (intOf i).toNat)
 case atStart=>exact ⟨0,Nat.zero_le _,rfl,hide (Below.refl _ _)⟩
 case round =>
  obtain ⟨k,hk,rfl,HB⟩:=hrel
  have RW:=hide (R4.out.below HB.out)
  have BW:=hide (B4.out.trans (HB.out.mono B4.out.size))
  by_cases hlt:k < rn
  ·have hlt':=nat_of_lt hlt
   obtain ⟨o,ho⟩:=get_of_lt (xs:=R) (k:=k) (by rw [HRN.out];exact hlt)
   obtain ⟨b1,o1,ra1,rc1,hsl,hbl,q1,hr1⟩:=Rep2.row RW.out ho
   subst hsl
   have HEC:=hide (HE.out wr (.slice ra1 o.length rc1) o BW.out hr1)
   have hsm:=HF.out o (List.mem_of_getElem? ho)
   generalize EF o=ef at *
   generalize o.length=ol at *
   obtain ⟨x,rfl⟩:=Option.isSome_iff_exists.1 hsm
   clear hr1 ho hsm
   go_wp2_with fail
   refine HEC.out.mono ?_;rintro e w5 ⟨⟨fa,fn,fc⟩,⟨qa,qn,qc⟩,lo,hi,rfl, -, -, -,hb5⟩
   have B5:=hide (HB.out.trans ((hb5.trans ((belowAlloc w5 (.cells #[.slice fa fn fc, .slice qa qn qc] 29)).mono hb5.size)).mono HB.out.size))
   clear hb5 HEC q1
   simp only [Option.isSome_some]
   go_wp2_with fail
   go_roundw
   case rel=>exact ⟨k+1,by omega,by go_num,B5⟩
   case measure=>simp [intOf];omega
  ·obtain rfl:k=rn:=by omega
   have HWC:=hide (HWS.out wr _ RW.out)
   go_wp2_with fail
   (with_reducible refine HWC.out.mono ?_);rintro e w5 ⟨rfl,hb5⟩
   have B5:=hide (BW.out.trans (hb5.mono BW.out.size))
   have HAC:=hide (HA.out w5 B5.out)
   clear hb5 HWC
   go_wp2_with fail
   (with_reducible refine HAC.out.mono ?_);rintro e w6 ⟨⟨ua,un,uc⟩,rfl,hu,hb6⟩
   have hun:un=ln:=by
    obtain ⟨us,ds,hu⟩:=hu
    have h1:=hu.own.len
    rw [hu.lu,HLN.out] at h1
    exact h1
   subst hun
   have hle:decide ((k:Int)≤(un:Int))=true:=by simp;omega
   have hle2:(k:Int)≤(un:Int):=by omega
   have FIN:=hide (HB1.out.trans ((B5.out.trans (hb6.mono B5.out.size)).mono HB1.out.size))
   clear hu hb6 HAC
   go_wp2_with fail
   go_ret
   exact ⟨rfl,FIN.out⟩
end Go.Proofs.YtkfhgnkonaafgaaGreatDoor
namespace Go.Proofs.YtkfhgnkonaafgaaGreatDoor
open Go Go.RowKit Go.ChangeShapes Go.WideShapes Go.ChangeAt
open Go.ChangeMaps (open_string)
theorem fnModelSorted_reads:∀ t∈Tryz.f5.params.toList,Tryz.prog.readableRec t=true∧t < Tryz.prog.types.size:=by
 intro t ht
 have:t=50:=by simpa [Tryz.params5] using ht
 subst this
 exact ⟨by kernel_rfl,of_decide_eq_true (by kernel_rfl)⟩
theorem fnModelSorted_lifted (os:Os) (started:os.Started) (H:Type) (enc:TypeId × Value→H) :
 ReturnsInHanded {} Tryz.checked os 5 .any (fun w args=>(Rows.fnModelSortedSpec.pre enc Tryz.prog Tryz.f5 [] false w args∧laidMetH Tryz.prog laidL w)∧sizedMet enc Tryz.prog Tryz.f5 (OpenSpec.ofChange Rows.fnModelSortedSpec) false w args)
  (Rows.fnModelSortedSpec.post enc Tryz.prog Tryz.f5 false true false false):=by
 refine returnsInHanded_of_change_and (C:=Tryz.checked) (X:=fun w _=>laidMetH Tryz.prog laidL w) (fun _ _ _ hh h=>h.of_heap hh) Tryz.own started (by kernel_rfl) Tryz.func5
  (ChangeSpec.witness_shaped (enc:=enc) (C:=Tryz.checked) (os:=os) (X:=fun w _=>laidMetH Tryz.prog laidL w) false (World.doorLaid Tryz.prog 14 os) #[.slice none 0 0] 8 rfl (World.shaped_of_RefB (by kernel_rfl) (by kernel_rfl)) (by kernel_rfl) (by kernel_rfl) (by kernel_rfl) (door_met os _)) ?_
 intro W base args ds gs before hval0 hW _ _ hL _
 have hval:∀ (j:Nat) t v,Tryz.f5.params[j]? = some t→args[j]? = some v→Value.okWide Tryz.prog W .any base t v:=hval0
 have hW':=hW
 obtain ⟨p,q,hA0,hV,rfl,hfz,hnd⟩:=hW
 have hA:DataW.TrodAll enc Tryz.prog W 0 (fun _=>true) true Tryz.f5.params.toList args.toList ds p:=hA0
 rw [Tryz.params5] at hA hval
 obtain ⟨v0,d0,rfl,rfl,h0⟩:=trodAll_one hA
 obtain ⟨g1,rfl⟩:∃ g1,gs=[g1]:=by
  match gs,hV with
  | [g1],_=>exact ⟨g1,rfl⟩
  | [],h=>exact h.elim
  | _ :: _ :: _,⟨_,_,_,_,_,_,_,_,_,_,h,_⟩=>exact h.elim
 obtain ⟨B0,hB0⟩:=bytes_of_trod (okWide_slice Tryz.underlying50 (hval 0 50 v0 rfl rfl)) h0
 refine (lawFnModelSorted v0 B0 W hB0 (glob_of_laid hL)).mono fun e W' ⟨he,hb⟩ => ?_
 exact ⟨_,he,post_lawV Tryz.laidOut fnModelSorted_reads (by kernel_rfl) rfl (by kernel_rfl) Tryz.underlying4 hW' hb⟩
theorem fnModelSorted_named:Tryz.prog.funcNamed Rows.fnModelSortedRow.func=some 5:=by kernel_rfl
theorem fnModelSorted_closed:joinedFacts Tryz.prog 5 Tryz.f5 Rows.fnModelSortedSpec Rows.fnModelSortedRow=true:=by kernel_rfl
theorem fnModelSorted_inst:Func.isInstance Tryz.prog Tryz.f5 Rows.fnModelSortedRow.origin Rows.fnModelSortedRow.targs:=of_decide_eq_true (by kernel_rfl)
theorem fnModelSorted_wrap:Func.isWrapper Tryz.prog Tryz.f5 Rows.fnModelSortedRow.wrapper Rows.fnModelSortedRow.mainSum:=by unfold Func.isWrapper;first | (rw [if_pos (by decide +kernel)];kernel_rfl) | (rw [if_neg (by decide +kernel)];exact ⟨rfl,rfl⟩)
theorem fnModelSorted_wf:Rows.fnModelSortedRow.wfByText (OpenSpec.ofChange Rows.fnModelSortedSpec)=true:=by kernel_rfl
theorem fnModelSorted_main:Tryz.prog.mainIs=some (Rows.fnModelSortedCard.stood.harness.1,Rows.fnModelSortedCard.stood.harness.2.toList):=by kernel_rfl
theorem fnModelSorted_looks:false=Tryz.prog.looks []:=by kernel_rfl
theorem fnModelSorted_goes:false=Rows.fnModelSortedRow.goesBy Tryz.prog:=by kernel_rfl
theorem fnModelSorted_row:Rows.FnModelSortedSaid:=
 OpenClaim.holds_of_wide 5 Tryz.f5 rfl rfl rfl rfl rfl rfl rfl ⟨rfl,rfl,rfl,rfl,rfl⟩ rfl rfl rfl rfl rfl fnModelSorted_named Tryz.func5 fnModelSorted_closed fnModelSorted_inst fnModelSorted_wrap
  (fun os started H enc _=>fnModelSorted_lifted os started H enc)
theorem fnModelSorted_holds:Rows.FnModelSortedCardSaid:=
 Claim7.holds_tied_plain_at .later [] [.widerDeep] true Rows.fnModelSortedCard.stood.harness false
  fnModelSorted_row (fun _ h=>by cases h) fnModelSorted_wf (fun _ h=>by cases h) fnModelSorted_row_tie rfl ⟨rfl,rfl⟩ fnModelSorted_main rfl
  (fun f fn hf hfn=>by
   obtain rfl:f=5:=Option.some.inj (fnModelSorted_named.symm.trans hf) |>.symm
   obtain rfl:fn=Tryz.f5:=(Option.some.inj (Tryz.func5.symm.trans hfn)).symm
   exact ⟨fnModelSorted_looks,fun j t ht=>by
    rw [Tryz.params5] at ht
    have hm:t∈[50]:=by simpa using Array.mem_of_getElem? ht
    have hall:([50].all fun u => !Tryz.prog.wantsStandIn u)=true:=by kernel_rfl
    exact (show Tryz.prog.wantsStandIn t=false by simpa using List.all_eq_true.1 hall t hm)⟩)
  fnModelSorted_goes
end Go.Proofs.YtkfhgnkonaafgaaGreatDoor