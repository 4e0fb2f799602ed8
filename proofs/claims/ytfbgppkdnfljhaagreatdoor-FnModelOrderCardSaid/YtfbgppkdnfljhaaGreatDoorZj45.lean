/-
  The program's text of a model. Condition: the model is valid; the listed variables hold what they start with.
-/
import Derived.Test.YtfbgppkdnfljhaaGreatDoorZj43
import Derived.Test.YtfbgppkdnfljhaaGreatDoorZj06
import Derived.Test.YtfbgppkdnfljhaaGreatDoorZj44
import Derived.Shelf.Strings.Count
import Derived.Lib.SplitLaws
import Derived.Test.YtfbgppkdnfljhaaGreatDoorZj33
import Derived.Test.YtfbgppkdnfljhaaGreatDoorZj36
set_option maxHeartbeats 6400000
set_option maxRecDepth 100000
namespace Go.Proofs.YtfbgppkdnfljhaaGreatDoor
open Go.RowKit
theorem level_zero (n:Nat) (IP:AtomAt n) (pb:Nat) (l:List UInt8) (f:Bool) (r:Re × List UInt8 × Bool) (w:World) (hq:pI n .atom l f=some r) (hl:l.length≤300) (h:PQ w pb l f) :
 Calls Tryz.prog 166 #[.pointer (some ⟨pb,0,none⟩), .int .i64 0] w (RetPI w pb r):=by
 have HB:=hide (belowAlloc w zObj)
 have BX:=hide (BoxR.new w 0 ⟨#[]⟩ ⟨none,0,0⟩ 52)
 have hz0:(w.alloc zObj).heap.size=w.heap.size+1:=by simp
 have hpw:=h.lt
 have hne:w.heap.size≠pb:=by omega
 have P0:=hide (h.allocNew zObj)
 have O0:=hide (Outside.of_below (lo:=pb) (hi:=pb+1) HB.out)
 have HQ:=hide (fun w' h'=>IP pb l f r w' hq hl h')
 clear hq h IP
 go_enter Tryz.func166,Tryz.ntmps166
 go_wp2_with fail
 (with_reducible refine (HQ.out _ P0.out).mono ?_);rintro e w2 ⟨eo,en,ek,s,he,rfl,own,hp2,ho2⟩
 obtain ⟨re,rl,rf⟩:=r
 simp only at he hp2
 subst he
 have hz2:=ho2.size
 have O2:=hide ho2
 obtain ⟨bl,r0,r1,r2,rf⟩:=BX.out.outP O2.out hne
 have OWN:=hide own
 have HP2:=hide hp2
 have hSq:∀ q,Made' (w.alloc zObj) w2 q→w.heap.size+1≤q∧q < w2.heap.size:=fun q hq=>⟨by have:=hq.1;rw [hz0] at this;omega,hq.2⟩
 generalize Made' (w.alloc zObj) w2=S at *
 have hS0:¬ S w.heap.size:=fun hq=>by have:=hSq _ hq;omega
 have OO:=hide (O0.out.trans O2.out)
 clear hp2 own BX P0 HQ ho2
 go_wp2_with fail
 refine bodyPost_ret (v:=.agg #[.int .i64 eo, .string en, .slice s.a s.n s.cap]) (by simp [results,Tryz.results166,go_sem, *]) rfl ⟨eo,en,ek,s,rfl,rfl, ?_, ?_, ?_⟩
 ·exact (((OWN.out.set hS0 _ _).set hS0 _ _).set hS0 _ _).wide fun q hq=>⟨by have:=(hSq q hq).1;omega,by have:=(hSq q hq).2;simp;omega⟩
 ·exact (((HP2.out).setNew hne _ _).setNew hne _ _).setNew hne _ _
 ·exact ((OO.out.setNew (Nat.le_refl _) _ _).setNew (Nat.le_refl _) _ _).setNew (Nat.le_refl _) _ _
def opK (lv:Int) (l:List UInt8) (f:Bool):Nat→Int
 | 0=>0
 | k+1=>if opK lv l f k=0 then (if hitI lv ((k:Int)+2) l f=true then (k:Int)+2 else 0) else opK lv l f k
theorem opK_four (lv:Int) (l:List UInt8) (f:Bool):opK lv l f 4=opI lv l f:=by
 simp only [opK,opI]
 by_cases h2:hitI lv 2 l f=true
 ·simp [h2]
 ·by_cases h3:hitI lv 3 l f=true
  ·simp [h2,h3]
  ·by_cases h4:hitI lv 4 l f=true
   ·simp [h2,h3,h4]
   ·simp [h2,h3,h4]
def restK (q:Int) (l:List UInt8):List UInt8:=if q=0 then l else l.tail
def msP (pb:Nat) (w:World):Nat:=match w.cell? ⟨pb,0,none⟩ with
 | some (.string s)=>s.size
 | _=>0
theorem PQ.ms {w:World} {pb:Nat} {l:List UInt8} {f:Bool} (h:PQ w pb l f):msP pb w=l.length:=by
 unfold msP
 rw [h.c0]
 exact strQ_size l
structure JV (w3:World) (pb:Nat) (l l1:List UInt8) (f f1:Bool) (lo:Int) (ln:ByteArray) (lk:List Re) (S:Nat→Prop) (ro:Int) (rn:ByteArray) (rk:List Re) (b5 b6:Bool) (sr:Slc) (G:Nat) (W:World):Prop where
 out:Outside pb (pb+1) w3 W
 q0:b5=false→PQ W pb l f
 q1:b5=true→PQ W pb l1 f1
 own:b5=true→b6=false→OwnR 52 W (Made' w3 W) sr rk
 imp:b6=true→b5=true
 fin:b6=true→OwnR 52 W (fun q=>S q∨(w3.heap.size≤q∧q < W.heap.size)) ⟨some ⟨G,0,none⟩,2,2⟩ [.mk lo ln lk, .mk ro rn rk]
theorem JV.start {w3:World} {pb:Nat} {l l1:List UInt8} {f f1:Bool} {lo:Int} {ln:ByteArray} {lk:List Re} {S:Nat→Prop} {ro:Int} {rn:ByteArray} {rk:List Re} {sr:Slc} {G:Nat} (h:PQ w3 pb l f):JV w3 pb l l1 f f1 lo ln lk S ro rn rk false false sr G w3.drew:=
 ⟨Outside.of_below (Below.refl _ _).drew,fun _=>h.below (Below.refl _ _).drew,fun h=>(nomatch h),fun h=>(nomatch h),fun h=>(nomatch h),fun h=>(nomatch h)⟩
theorem JV.call {w3 W W':World} {pb:Nat} {l l1:List UInt8} {f f1:Bool} {lo:Int} {ln:ByteArray} {lk:List Re} {S:Nat→Prop} {ro:Int} {rn:ByteArray} {rk:List Re} {sr sr':Slc} {b6:Bool} {G:Nat} (h:JV w3 pb l l1 f f1 lo ln lk S ro rn rk false b6 sr G W)
 (ho:OwnR 52 W' (Made' W W') sr' rk) (hq:PQ W' pb l1 f1) (hu:Outside pb (pb+1) W W'):JV w3 pb l l1 f f1 lo ln lk S ro rn rk true b6 sr' G W':=by
 obtain rfl:b6=false:=by
  cases b6
  ·rfl
  ·exact nomatch h.imp rfl
 exact ⟨h.out.trans hu,fun h=>(nomatch h),fun _=>hq,fun _ _=>ho.wide fun q hq=>⟨Nat.le_trans h.out.size hq.1,hq.2⟩,fun _=>rfl,fun h=>(nomatch h)⟩
theorem JV.lit {w3 W:World} {pb:Nat} {l l1:List UInt8} {f f1:Bool} {lo:Int} {ln:ByteArray} {lk:List Re} {S:Nat→Prop} {ro:Int} {rn:ByteArray} {rk:List Re} {sr sl:Slc} {G:Nat} (h:JV w3 pb l l1 f f1 lo ln lk S ro rn rk true false sr G W)
 (hl:OwnR 52 w3 S sl lk) (hS:∀ q,S q→q < w3.heap.size) (hp:¬ S pb) :
 JV w3 pb l l1 f f1 lo ln lk S ro rn rk true true sr W.heap.size (W.alloc (.cells #[.int .i64 lo, .string ln, .slice sl.a sl.n sl.cap, .int .i64 ro, .string rn, .slice sr.a sr.n sr.cap] 52)):=by
 have hsz:=h.out.size
 refine ⟨h.out.trans (Outside.of_below (belowAlloc _ _)),fun h=>(nomatch h),fun _=>(h.q1 rfl).allocNew _,fun _ h=>(nomatch h),fun _=>rfl,fun _ => ?_⟩
 exact OwnR.two (hl.outP h.out hp) (h.own rfl rfl) (fun q hq=>by have:=hS q hq;omega) (fun q hq=>hq.2) (fun q a b=>by have:=hS q a;have:=b.1;omega) (fun q hq => .inl hq) (fun q hq => .inr ⟨hq.1,by have:=hq.2;simp;omega⟩) (.inr ⟨hsz,by simp⟩) lo ro ln rn
theorem level_more (n:Nat) (IQ:∀ m,m≤n→LevelAt m) (pb:Nat) (lv:Int) (l:List UInt8) (f:Bool) (e:Re) (l1:List UInt8) (f1:Bool) (r:Re × List UInt8 × Bool) (w:World) (hp:pI n (.level (lv - 1)) l f=some (e,l1,f1)) (hlp:pI n (.loop lv e) l1 f1=some r) (hl:l.length≤300) (hlv:1≤lv) (hlv2:lv≤3) (h:PQ w pb l f) :
 Calls Tryz.prog 166 #[.pointer (some ⟨pb,0,none⟩), .int .i64 lv] w (RetPI w pb r):=by
 have hlv0:(lv==0)=false:=by simp;omega
 have HB:=hide (belowAlloc w zObj)
 have BX:=hide (BoxR.new w 0 ⟨#[]⟩ ⟨none,0,0⟩ 52)
 have hz0:(w.alloc zObj).heap.size=w.heap.size+1:=by simp
 have hpw:=h.lt
 have hne:w.heap.size≠pb:=by omega
 have P0:=hide (h.allocNew zObj)
 have O0:=hide (Outside.of_below (lo:=pb) (hi:=pb+1) HB.out)
 have HQ:=hide (fun w' h'=>IQ n (Nat.le_refl _) pb (lv - 1) l f (e,l1,f1) w' hp hl (by omega) (by omega) h')
 have hl1:l1.length≤300:=by have h1:l1.length≤l.length:=pI_len _ _ _ _ _ hp;omega
 have HIQ:=hide (fun (m:Nat) (hm:m≤n) (l:List UInt8) (f:Bool) (b:Re) (l1:List UInt8) (f1:Bool) (h:pI m (.level (lv - 1)) l f=some (b,l1,f1)) (hl:l.length≤300) (w':World) (h':PQ w' pb l f)=>IQ m hm pb (lv - 1) l f (b,l1,f1) w' h hl (by omega) (by omega) h')
 have HL:=hide hlp
 obtain ⟨eo,en,ek⟩:=e
 clear hp hlp h IQ
 go_enter Tryz.func166,Tryz.ntmps166
 go_wp2_with fail
 (with_reducible refine (HQ.out _ P0.out).mono ?_);rintro e w1 ⟨eo',en',ek',sl,he,rfl,own,hp1,ho1⟩
 simp only [Re.mk.injEq] at he
 obtain ⟨rfl,rfl,rfl⟩:=he
 have hz1:=ho1.size
 rw [hz0] at hz1
 have O1:=hide (O0.out.trans ho1)
 have X1:=hide (BX.out.outP ho1 hne)
 have HBL:=hide (belowAlloc w1 (.cells #[.int .i64 eo, .string en, .slice sl.a sl.n sl.cap] 52))
 have BL:=hide (BoxR.new w1 eo en sl 52)
 have HP1:=hide (hp1.allocNew (.cells #[.int .i64 eo, .string en, .slice sl.a sl.n sl.cap] 52))
 have hz2:(w1.alloc (.cells #[.int .i64 eo, .string en, .slice sl.a sl.n sl.cap] 52)).heap.size=w1.heap.size+1:=by simp
 have OWN:=hide ((own.bel HBL.out).wide (S':=fun q=>w.heap.size+1≤q∧q≠w1.heap.size∧q < w1.heap.size+1) (fun q hq=>⟨by have:=hq.1;rw [hz0] at this;exact this,by have:=hq.2;omega,by have:=hq.2;omega⟩))
 rw [← hz2] at OWN
 have X2:=hide (X1.out.below HBL.out)
 have O2:=hide (O1.out.trans (Outside.of_below (lo:=pb) (hi:=pb+1) HBL.out))
 have hbn:w1.heap.size≠pb:=by omega
 clear own hp1 ho1 HQ BX X1 P0
 generalize hW:w1.alloc (.cells #[.int .i64 eo, .string en, .slice sl.a sl.n sl.cap] 52)=w2 at *
 go_wp2_with fail
 clear hW
 go_loopw [6] (fun _ wr => ∃ (g:Nat) (lo:Int) (ln:ByteArray) (lk:List Re) (sl:Slc) (l2:List UInt8) (f2:Bool),g≤n∧Hid (pI g (.loop lv (.mk lo ln lk)) l2 f2=some r)∧l2.length≤300∧Hid (BoxR wr w1.heap.size lo ln sl)∧Hid (OwnR 52 wr (fun q=>w.heap.size+1≤q∧q≠w1.heap.size∧q < wr.heap.size) sl lk)∧Hid (BoxR wr w.heap.size 0 ⟨#[]⟩ ⟨none,0,0⟩)∧Hid (PQ wr pb l2 f2)∧Hid (Outside pb (pb+1) w wr)) (fun _ wr=>msP pb wr)
 case atStart=>exact ⟨n,eo,en,ek,sl,l1,f1,Nat.le_refl _,HL,hl1,BL,OWN,X2,HP1,O2⟩
 case round =>
  obtain ⟨wo,hwo⟩:∃ wo,wo=wr:=⟨_,rfl⟩
  subst hwo
  obtain ⟨g,lo,ln,lk,sl,l2,f2,hgn,HLP,hl2,BL,OWN,BXR,HPR,OUT⟩:=hrel
  have HMS:=hide HPR.out.ms
  have hwr:w.heap.size < wo.heap.size:=BXR.out.lt
  have hwr1:w1.heap.size < wo.heap.size:=BL.out.lt
  have hwpb:pb < wo.heap.size:=HPR.out.lt
  have OL:=hide (Outside.of_below (lo:=pb) (hi:=pb+1) (belowAlloc wo (.cells #[.int .i64 2, .int .i64 3, .int .i64 4, .int .i64 5] 3)))
  have HPL:=hide (HPR.out.allocNew (.cells #[.int .i64 2, .int .i64 3, .int .i64 4, .int .i64 5] 3))
  have LIT:Hid (∀ k:Nat,k < 4→(wo.alloc (.cells #[.int .i64 2, .int .i64 3, .int .i64 4, .int .i64 5] 3)).cell? ⟨wo.heap.size,k,none⟩=some (.int .i64 ((k:Int)+2))):=hide (by
   intro k hk
   have:k=0∨k=1∨k=2∨k=3:=by omega
   rcases this with rfl | rfl | rfl | rfl <;> simp [go_sem])
  have hzL:(wo.alloc (.cells #[.int .i64 2, .int .i64 3, .int .i64 4, .int .i64 5] 3)).heap.size=wo.heap.size+1:=by simp
  have HEND:=hide (fun h=>pI_loop_end HLP.out h)
  have HMORE:=hide (fun h=>pI_loop_more HLP.out h)
  have HLT:=hide (fun h=>opI_cons (lv:=lv) (l:=l2) (f:=f2) h)
  have K0:Hid (opK lv l2 f2 0=0):=hide rfl
  have KS:Hid (∀ k,opK lv l2 f2 (k+1)=if opK lv l2 f2 k=0 then (if hitI lv ((k:Int)+2) l2 f2=true then (k:Int)+2 else 0) else opK lv l2 f2 k):=hide fun _=>rfl
  have K4:=hide (opK_four lv l2 f2)
  rw [← K4.out] at HEND HMORE HLT
  clear HLP K4
  generalize opK lv l2 f2=OK at *
  generalize hWL:wo.alloc (.cells #[.int .i64 2, .int .i64 3, .int .i64 4, .int .i64 5] 3)=wL at *
  go_wp2_with fail
  clear hWL
  go_loopw [6,22] (fun q i wi => ∃ k:Nat,k≤4∧i = .int .i64 k∧q = .int .i64 (OK k)∧Hid (PQ wi pb (restK (OK k) l2) f2)∧Hid (Outside pb (pb+1) wL wi)) (fun _ i _=>4 - (intOf i).toNat)
  case atStart=>exact ⟨0,by omega,rfl,by rw [K0.out],by rw [K0.out];exact HPL,hide (Outside.refl _ _ _)⟩
  case round =>
   obtain ⟨k,hk4,rfl,rfl,HPI,HOI⟩:=hrel
   by_cases hkl:k < 4
   ·have hkl':(k:Int) < 4:=by omega
    obtain ⟨o,ho⟩:∃ o:Int,o=(k:Int)+2:=⟨_,rfl⟩
    have c0:=((ocell HOI.out).1 wo.heap.size k (by omega) (by omega)).trans (LIT.out k hkl)
    rw [← ho] at c0
    have cl:=lt_of_cell c0
    have ho2:2≤o:=by omega
    have ho5:o≤5:=by omega
    have HRL:=hide (fun w'=>relLevel_op o ho2 ho5 w')
    obtain ⟨hs0,hsv⟩:∃ h:0 < (sgnR o).size,((sgB o).toNat:Int)=((((sgnR o)[0]'h).toNat:Nat):Int):=by
     have:o=2∨o=3∨o=4∨o=5:=by omega
     rcases this with rfl | rfl | rfl | rfl <;> exact ⟨by decide,by decide⟩
    have hsb:=(sgB o).toNat_lt
    have HIT:Hid (hitI lv o l2 f2=((lvlR o==lv)&&tkI (sgB o) l2 f2)):=hide rfl
    have KS1:=hide (KS.out k)
    rw [← ho] at KS1
    have HTK:=hide (fun w' h'=>take_any pb l2 f2 (sgB o) _ hsv w' h')
    have HSV:=hide hsv
    clear hsv ho
    generalize hitI lv o l2 f2=hb at *
    generalize sgnR o=sg at *
    generalize lvlR o=lo' at *
    generalize tkI (sgB o) l2 f2=tk at *
    by_cases hq:OK k=0
    ·rw [hq] at HPI
     rw [if_pos hq] at KS1
     have hq':(OK k==0)=true:=by simp [hq]
     have HPI':Hid (PQ wr pb l2 f2):=hide (by have:=HPI.out;simpa [restK] using this)
     by_cases hL:lo'=lv
     ·have hL':(lo'==lv)=true:=by simp [hL]
      cases tk
      ·have KS2:Hid (OK (k+1)=0):=hide (by rw [KS1.out,HIT.out];simp)
       clear hL
       go_wp2_with fail
       (with_reducible refine (HRL.out _).mono ?_);rintro e w3 ⟨rfl,rfl⟩
       go_wp2_with fail
       (with_reducible refine (HTK.out _ HPI'.out).mono ?_);rintro e w4 ⟨rfl,hp4,ho4⟩
       have HP4:Hid (PQ w4 pb l2 f2):=hide (by simpa using hp4)
       have HO4:=hide (HOI.out.trans ho4)
       clear hp4 ho4
       go_wp2_with fail
       go_roundw
       case rel=>exact ⟨k+1,by omega,by go_num,by rw [KS2.out],by rw [KS2.out];exact HP4,HO4⟩
       case measure=>simp [intOf];omega
      ·have KS2:Hid (OK (k+1)=o):=hide (by rw [KS1.out,HIT.out];simp [hL])
       clear hL
       go_wp2_with fail
       (with_reducible refine (HRL.out _).mono ?_);rintro e w3 ⟨rfl,rfl⟩
       go_wp2_with fail
       (with_reducible refine (HTK.out _ HPI'.out).mono ?_);rintro e w4 ⟨rfl,hp4,ho4⟩
       have HP4:Hid (PQ w4 pb (restK o l2) f2):=hide (by unfold restK;rw [if_neg (by omega)];simpa using hp4)
       have HO4:=hide (HOI.out.trans ho4)
       clear hp4 ho4
       go_wp2_with fail
       go_roundw
       case rel=>exact ⟨k+1,by omega,by go_num,by rw [KS2.out],by rw [KS2.out];exact HP4,HO4⟩
       case measure=>simp [intOf];omega
     ·have hL':(lo'==lv)=false:=by simp [hL]
      have KS2:Hid (OK (k+1)=0):=hide (by rw [KS1.out,HIT.out,hL'];simp)
      clear hL
      go_wp2_with fail
      (with_reducible refine (HRL.out _).mono ?_);rintro e w3 ⟨rfl,rfl⟩
      go_wp2_with fail
      go_roundw
      case rel=>exact ⟨k+1,by omega,by go_num,by rw [KS2.out],by rw [KS2.out];unfold restK;rw [if_pos rfl];exact HPI',HOI⟩
      case measure=>simp [intOf];omega
    ·have hq':(OK k==0)=false:=by simp [hq]
     rw [if_neg hq] at KS1
     have KS2:=KS1
     clear hq KS1
     go_wp2_with fail
     (with_reducible refine (HRL.out _).mono ?_);rintro e w3 ⟨rfl,rfl⟩
     go_wp2_with fail
     go_roundw
     case rel=>exact ⟨k+1,by omega,by go_num,by rw [KS2.out],by rw [KS2.out];exact HPI,HOI⟩
     case measure=>simp [intOf];omega
   ·have hk:k=4:=by omega
    have hkf:¬ (k:Int) < 4:=by omega
    rw [← hk] at HEND HMORE HLT
    clear hk hkl hk4
    have OI:=hide (OL.out.trans HOI.out)
    have hzi:=HOI.out.size
    rw [hzL] at hzi
    have BLI:=hide (BL.out.outP OI.out hbn)
    have BXI:=hide (BXR.out.outP OI.out hne)
    have OWI:=hide (OWN.out.outP OI.out (pb:=pb) (fun hq=>by have:=hq.1;omega))
    have OUI:=hide (OUT.out.trans OI.out)
    clear BL BXR OWN OUT HPL LIT KS K0 OL
    by_cases hq:OK k=0
    ·have hq':(OK k==0)=true:=by simp [hq]
     obtain rfl:=HEND.out hq
     have HPI':Hid (PQ wr pb l2 f2):=hide (by have:=HPI.out;rw [hq] at this;simpa [restK] using this)
     obtain ⟨cl,d0,d1,d2,df⟩:=BLI.out
     obtain ⟨bl,r0,r1,r2,rf⟩:=BXI.out
     clear hq
     go_wp2_with fail
     refine bodyPost_ret (v:=.agg #[.int .i64 lo, .string ln, .slice sl.a sl.n sl.cap]) (by simp [results,Tryz.results166,go_sem, *]) rfl ⟨lo,ln,lk,sl,rfl,rfl, ?_, ?_, ?_⟩
     ·exact (((OWI.out.set (g:=w.heap.size) (fun hq=>by have:=hq.1;omega) _ _).set (g:=w.heap.size) (fun hq=>by have:=hq.1;omega) _ _).set (g:=w.heap.size) (fun hq=>by have:=hq.1;omega) _ _).wide fun q hq=>⟨by have:=hq.1;omega,by have:=hq.2.2;simp;omega⟩
     ·exact (((HPI'.out).setNew hne _ _).setNew hne _ _).setNew hne _ _
     ·exact ((OUI.out.setNew (Nat.le_refl _) _ _).setNew (Nat.le_refl _) _ _).setNew (Nat.le_refl _) _ _
    ·have hq':(OK k==0)=false:=by simp [hq]
     obtain ⟨m,bb,l3,f3,rfl,hpar,hloop⟩:=HMORE.out hq
     have hl2t:l2.tail.length < l2.length:=by
      obtain ⟨-,cc,hcc⟩:=HLT.out hq
      have:=congrArg List.length hcc
      simp only [List.length_cons] at this;omega
     have hl3:l3.length≤l2.tail.length:=pI_len _ _ _ _ _ hpar
     have HPI':Hid (PQ wr pb l2.tail f2):=hide (by have:=HPI.out;unfold restK at this;rw [if_neg hq] at this;exact this)
     have HP3:=hide (fun w' h'=>HIQ.out m (by omega) l2.tail f2 bb l3 f3 hpar (by omega) w' h')
     have HLP:=hide hloop
     obtain ⟨ro,rn,rk⟩:=bb
     generalize OK k=q4 at *
     clear hq hpar hloop HEND HMORE HPI HLT
     have hn1:w1.heap.size≠w.heap.size:=by omega
     have hwl:IntKind.i64.wrap (lv - 1)=lv - 1:=by rw [IntKind.wrap_i64];omega
     go_wp2_with fail
     -- reg join
     refine wp_region_inv (n:=8) (by kernel_rfl) rfl (by kernel_rfl) (by kernel_rfl) (fun A ls a' W => ∃ (sr:Slc) (G:Nat) (x50 x51 x52 x53 x54 x55 x56 x57:Value),a'=putAll A [(50,x50),(51,x51),(52,x52),(53,x53),(54,x54),(55,x55),(56,x56),(57,x57)]∧Vd ls 0 [] x50 (.int .i64 q4)∧Vd ls 1 [] x51 (.agg #[.int .i64 lo, .string ln, .slice sl.a sl.n sl.cap])∧Vd ls 2 [] x52 (.pointer (some ⟨pb,0,none⟩))∧Vd ls 3 [] x53 (.int .i64 lv)∧Vd ls 4 [] x54 (.int .i64 (lv - 1))∧Vd ls 5 [] x55 (.agg #[.int .i64 ro, .string rn, .slice sr.a sr.n sr.cap])∧Vd ls 6 [5] x56 (.slice (some ⟨G,0,none⟩) 2 2)∧Vd ls 7 [5,6] x57 (.agg #[.int .i64 q4, .string ⟨#[]⟩, .slice (some ⟨G,0,none⟩) 2 2])∧JV wr pb l2.tail l3 f2 f3 lo ln lk (fun q=>w.heap.size+1≤q∧q≠w1.heap.size∧q < wo.heap.size) ro rn rk (fl ls 5) (fl ls 6) sr G W) ?r0 ?rs ?re
     case r0 =>
      exact ⟨⟨none,0,0⟩,0,u50,u51,u52,u53,u54,u55,u56,u57,by simp only [putAll,Act.put,List.setIfInBounds_toArray,List.set_cons_succ,List.set_cons_zero],Vd.start,Vd.start,Vd.start,Vd.start,Vd.start,Vd.start,Vd.start,Vd.start,by simp only [fl_start];exact JV.start HPI'.out⟩
     case rs =>
      rintro ls a' W hs hnl ⟨sr,G,x50,x51,x52,x53,x54,x55,x56,x57,ha,cv0,cv1,cv2,cv3,cv4,cv5,cv6,cv7,hJ⟩ k o hkn mc K hK
      simp only [putAll,Act.put,List.setIfInBounds_toArray,List.set_cons_succ,List.set_cons_zero] at ha
      subst ha
      have hkc:k=0∨k=1∨k=2∨k=3∨k=4∨k=5∨k=6∨k=7:=by omega
      have hop:=mc.op
      have haf:=mc.after
      rcases hkc with rfl | rfl | rfl | rfl | rfl | rfl | rfl | rfl
      ·simp at hop;subst hop;simp [Region.binds] at haf
       go_simp
       exact hK _ _ ⟨sr,G,_,_,_,_,_,_,_,_,by simp only [putAll,Act.put,List.setIfInBounds_toArray,List.set_cons_succ,List.set_cons_zero],Vd.same (by simp),cv1.set (by decide),cv2.set (by decide),cv3.set (by decide),cv4.set (by decide),cv5.set (by decide),cv6.set (by decide),cv7.set (by decide),by rw [fl_set (show 0≠5 by decide),fl_set (show 0≠6 by decide)];exact hJ⟩
      ·simp at hop;subst hop;simp [Region.binds] at haf
       obtain ⟨xl,x0,x1,x2, -⟩:=BLI.out.outP hJ.out hbn
       go_simp
       exact hK _ _ ⟨sr,G,_,_,_,_,_,_,_,_,by simp only [putAll,Act.put,List.setIfInBounds_toArray,List.set_cons_succ,List.set_cons_zero],cv0.set (by decide),Vd.same (by simp),cv2.set (by decide),cv3.set (by decide),cv4.set (by decide),cv5.set (by decide),cv6.set (by decide),cv7.set (by decide),by rw [fl_set (show 1≠5 by decide),fl_set (show 1≠6 by decide)];exact hJ⟩
      ·simp at hop;subst hop;simp [Region.binds] at haf
       go_simp
       exact hK _ _ ⟨sr,G,_,_,_,_,_,_,_,_,by simp only [putAll,Act.put,List.setIfInBounds_toArray,List.set_cons_succ,List.set_cons_zero],cv0.set (by decide),cv1.set (by decide),Vd.same (by simp),cv3.set (by decide),cv4.set (by decide),cv5.set (by decide),cv6.set (by decide),cv7.set (by decide),by rw [fl_set (show 2≠5 by decide),fl_set (show 2≠6 by decide)];exact hJ⟩
      ·simp at hop;subst hop;simp [Region.binds] at haf
       go_simp
       exact hK _ _ ⟨sr,G,_,_,_,_,_,_,_,_,by simp only [putAll,Act.put,List.setIfInBounds_toArray,List.set_cons_succ,List.set_cons_zero],cv0.set (by decide),cv1.set (by decide),cv2.set (by decide),Vd.same (by simp),cv4.set (by decide),cv5.set (by decide),cv6.set (by decide),cv7.set (by decide),by rw [fl_set (show 3≠5 by decide),fl_set (show 3≠6 by decide)];exact hJ⟩
      ·simp at hop;subst hop;simp [Region.binds] at haf
       obtain rfl:=(cv3.get (by simp [haf])).symm
       go_simp
       exact hK _ _ ⟨sr,G,_,_,_,_,_,_,_,_,by simp only [putAll,Act.put,List.setIfInBounds_toArray,List.set_cons_succ,List.set_cons_zero],cv0.set (by decide),cv1.set (by decide),cv2.set (by decide),cv3.set (by decide),Vd.same (by simp),cv5.set (by decide),cv6.set (by decide),cv7.set (by decide),by rw [fl_set (show 4≠5 by decide),fl_set (show 4≠6 by decide)];exact hJ⟩
      ·simp at hop;subst hop;simp [Region.binds] at haf
       obtain rfl:=(cv2.get (by simp [haf])).symm
       obtain rfl:=(cv4.get (by simp [haf])).symm
       have f5:=fl_no mc.new;rw [f5] at hJ
       go_simp
       go_at_call 166
       (with_reducible refine (HP3.out W (hJ.q0 rfl)).mono ?_);rintro e u ⟨ro',rn',rk',⟨s1,s2,s3⟩,he,rfl,own,hq,hu⟩
       simp only [Re.mk.injEq] at he
       obtain ⟨rfl,rfl,rfl⟩:=he
       exact hK _ _ ⟨⟨s1,s2,s3⟩,G,_,_,_,_,_,_,_,_,by simp only [putAll,Act.put,List.setIfInBounds_toArray,List.set_cons_succ,List.set_cons_zero],cv0.set (by decide),cv1.set (by decide),cv2.set (by decide),cv3.set (by decide),cv4.set (by decide),Vd.same (by simp),cv6.void (by decide) (by decide) mc.new,cv7.void (by decide) (by decide) mc.new,by rw [fl_got hs (by decide),fl_set (show 5≠6 by decide)];exact hJ.call own hq hu⟩
      ·simp at hop;subst hop;simp [Region.binds] at haf
       obtain rfl:=(cv1.get (by simp [haf])).symm
       obtain rfl:=(cv5.get (by simp [haf])).symm
       have f6:=fl_no mc.new;rw [f6] at hJ
       have f5:=fl_yes (show ls[5]? = some true by simp [haf]);rw [f5] at hJ
       go_simp
       exact hK _ _ ⟨sr,W.heap.size,_,_,_,_,_,_,_,_,by simp only [putAll,Act.put,List.setIfInBounds_toArray,List.set_cons_succ,List.set_cons_zero],cv0.set (by decide),cv1.set (by decide),cv2.set (by decide),cv3.set (by decide),cv4.set (by decide),cv5.set (by decide),Vd.same (by simp [haf]),cv7.void (by decide) (by decide) mc.new,by rw [fl_set (show 6≠5 by decide),fl_got hs (by decide),f5];exact hJ.lit OWI.out (fun q hq=>by have:=hq.2.2;omega) (fun hq=>by have:=hq.1;omega)⟩
      ·simp at hop;subst hop;simp [Region.binds] at haf
       have q6:=(cv6 (by simp [haf])).1;simp at q6
       obtain rfl:=(cv0.get (by simp [haf])).symm
       obtain rfl:=(cv6.get (by simp [haf])).symm
       go_simp
       exact hK _ _ ⟨sr,G,_,_,_,_,_,_,_,_,by simp only [putAll,Act.put,List.setIfInBounds_toArray,List.set_cons_succ,List.set_cons_zero],cv0.set (by decide),cv1.set (by decide),cv2.set (by decide),cv3.set (by decide),cv4.set (by decide),cv5.set (by decide),cv6.set (by decide),Vd.same (by simp [haf,q6]),by rw [fl_set (show 7≠5 by decide),fl_set (show 7≠6 by decide)];exact hJ⟩
     case re =>
      rintro ls a' W hall ⟨sr,G,x50,x51,x52,x53,x54,x55,x56,x57,ha,cv0,cv1,cv2,cv3,cv4,cv5,cv6,cv7,hJ⟩ o hop
      simp only [putAll,Act.put,List.setIfInBounds_toArray,List.set_cons_succ,List.set_cons_zero] at ha
      subst ha
      simp at hop;subst hop
      obtain rfl:=(cv0.get (hall 0 (by decide))).symm
      obtain rfl:=(cv1.get (hall 1 (by decide))).symm
      obtain rfl:=(cv2.get (hall 2 (by decide))).symm
      obtain rfl:=(cv3.get (hall 3 (by decide))).symm
      obtain rfl:=(cv4.get (hall 4 (by decide))).symm
      obtain rfl:=(cv5.get (hall 5 (by decide))).symm
      obtain rfl:=(cv6.get (hall 6 (by decide))).symm
      obtain rfl:=(cv7.get (hall 7 (by decide))).symm
      rw [fl_yes (hall 5 (by decide))] at hJ
      rw [fl_yes (hall 6 (by decide))] at hJ
      obtain ⟨xl,x0,x1,x2,xf⟩:=BLI.out.outP hJ.out hbn
      go_simp
      have hJO:=hide hJ
      have hzW:=hJ.out.size
      clear hJ
      go_wp2_with fail
      have BL4:=hide ((BLI.out.outP hJO.out.out hbn).put q4 ⟨#[]⟩ ⟨some ⟨G,0,none⟩,2,2⟩)
      have PQ4:=hide ((((hJO.out.q1 rfl).setNew hbn 0 (.int .i64 q4)).setNew hbn 1 (.string ⟨#[]⟩)).setNew hbn 2 (.slice (some ⟨G,0,none⟩) 2 2))
      have OW4:=hide ((((hJO.out.fin rfl).set (g:=w1.heap.size) (fun hq=>by rcases hq with hq | hq <;> omega) 0 (.int .i64 q4)).set (g:=w1.heap.size) (fun hq=>by rcases hq with hq | hq <;> omega) 1 (.string ⟨#[]⟩)).set (g:=w1.heap.size) (fun hq=>by rcases hq with hq | hq <;> omega) 2 (.slice (some ⟨G,0,none⟩) 2 2))
      have BX4:=hide ((((BXI.out.outP hJO.out.out hne).other (b:=w1.heap.size) (j:=0) (u:=.int .i64 q4) (by omega)).other (b:=w1.heap.size) (j:=1) (u:=.string ⟨#[]⟩) (by omega)).other (b:=w1.heap.size) (j:=2) (u:=.slice (some ⟨G,0,none⟩) 2 2) (by omega))
      have OU4:=hide ((((OUI.out.trans hJO.out.out).setNew (g:=w1.heap.size) (by omega) 0 (.int .i64 q4)).setNew (g:=w1.heap.size) (by omega) 1 (.string ⟨#[]⟩)).setNew (g:=w1.heap.size) (by omega) 2 (.slice (some ⟨G,0,none⟩) 2 2))
      have hz5:(((W.setCell ⟨w1.heap.size,0,none⟩ (.int .i64 q4)).setCell ⟨w1.heap.size,1,none⟩ (.string ⟨#[]⟩)).setCell ⟨w1.heap.size,2,none⟩ (.slice (some ⟨G,0,none⟩) 2 2)).heap.size=W.heap.size:=by simp
      clear hJO
      go_roundw
      case rel=>exact ⟨m,q4,⟨#[]⟩,[.mk lo ln lk, .mk ro rn rk],⟨some ⟨G,0,none⟩,2,2⟩,l3,f3,by omega,HLP,by omega,BL4,hide (OW4.out.wide fun q hq=>by rw [hz5];rcases hq with hq | hq <;> omega),BX4,PQ4,OU4⟩
      case measure=>rw [PQ4.out.ms,HMS.out];omega
     -- end join
end Go.Proofs.YtfbgppkdnfljhaaGreatDoor
namespace Go.Proofs.YtfbgppkdnfljhaaGreatDoor
open Go.RowKit
theorem level_step (n:Nat) (IP:AtomAt n) (IQ:∀ m,m≤n→LevelAt m):LevelAt (n+1):=by
 intro pb lv l f r w h hl h0 h3 hp
 unfold pI at h
 split at h
 ·rename_i hz
  subst hz
  exact level_zero n IP pb l f r w h hl hp
 ·rename_i hz
  split at h
  ·cases h
  ·rename_i e l1 f1 hq
   exact level_more n IQ pb lv l f e l1 f1 r w hq h hl (by omega) h3 hp
theorem pI_all:∀ n m,m≤n→AtomAt m∧LevelAt m:=by
 intro n
 induction n with
 | zero =>
  intro m hm
  obtain rfl:m=0:=by omega
  exact ⟨fun pb l f r w h=>by simp [pI] at h,fun pb lv l f r w h=>by simp [pI] at h⟩
 | succ n ih =>
  intro m hm
  by_cases he:m≤n
  ·exact ih m he
  ·obtain rfl:m=n+1:=by omega
   exact ⟨atom_step n (ih n (Nat.le_refl _)).1 (ih n (Nat.le_refl _)).2,level_step n (ih n (Nat.le_refl _)).1 fun m hm=>(ih m hm).2⟩
theorem PQ.new (w:World) (l:List UInt8) (T:TypeId):PQ (w.alloc (.cells #[.string (strQ l), .bool false] T)) w.heap.size l false:=
 ⟨by simp,by simp [go_sem],by simp [go_sem],fun j=>by simp [go_sem]⟩
theorem ParseRelExpr_ok (s:ByteArray) (hs:s.size≤300) (f:Nat) (c:Re) (h:pI f (.level 3) s.data.toList false=some (c,[],false)) (hv:validR c=true) (ht:textR 12 c=s) (hne:0 < s.size) (w:World) (hg:Glob w) :
 Calls Tryz.prog 123 #[.string s] w (RetPE w c):=by
 have HB:=hide (belowAlloc w zObj)
 have X:=hide (BoxR.new w 0 ⟨#[]⟩ ⟨none,0,0⟩ 52)
 have hz0:(w.alloc zObj).heap.size=w.heap.size+1:=by simp
 have HBP:=hide (belowAlloc (w.alloc zObj) (.cells #[.string s, .bool false] 195))
 have hzp:((w.alloc zObj).alloc (.cells #[.string s, .bool false] 195)).heap.size=w.heap.size+2:=by simp
 have HPN:=hide (PQ.new (w.alloc zObj) s.data.toList 195)
 rw [strQ_data,hz0] at HPN
 have HP:=hide (fun w' h'=>(pI_all f f (Nat.le_refl _)).2 (w.heap.size+1) 3 s.data.toList false _ w' h (by simp;omega) (by omega) (by omega) h')
 have HF:=hide (fun (a:Option Addr) n cp w' (hk:RepRk 0 w' ⟨a,n,cp⟩ c.kids) hg=>FormatRelExpr_any c a n cp w' hv hk hg)
 rw [ht] at HF
 have HG:=hide hg
 have hss:(s.toList==s.toList)=true:=by simp
 have hse:(s.toList==[])=false:=by
  rw [beq_eq_false_iff_ne]
  intro e
  have h1:s.toList.length=s.size:=by rw [ByteArray.toList_eq];simp
  rw [e] at h1
  simp at h1;omega
 have hlen:¬ (s.size:Int) > 300:=by omega
 have X1:=hide (X.out.below HBP.out)
 have HB1:=hide (HB.out.trans (HBP.out.mono HB.out.size))
 clear h hv ht hg X HBP HB
 generalize hWp:(w.alloc zObj).alloc (.cells #[.string s, .bool false] 195)=W at *
 go_enter Tryz.func123,Tryz.ntmps123
 go_wp2_with fail
 clear hWp
 (with_reducible refine (HP.out _ HPN.out).mono ?_);rintro e w1 ⟨eo,en,ek,sk,he,rfl,own,hp1,ho1⟩
 simp only at he hp1
 subst he
 have hz1:=ho1.size
 rw [hzp] at hz1
 have X2:=hide (X1.out.outP ho1 (show w.heap.size≠w.heap.size+1 by omega))
 have HB2:=hide (HB1.out.trans (below_of_outside ho1 (show w.heap.size≤w.heap.size+1 by omega) (by omega)))
 have HBL:=hide (belowAlloc w1 (.cells #[.int .i64 eo, .string en, .slice sk.a sk.n sk.cap] 52))
 have BL:=hide (BoxR.new w1 eo en sk 52)
 have OWN:=hide (own.bel HBL.out)
 have X3:=hide (X2.out.below HBL.out)
 have HB3:=hide (HB2.out.trans (HBL.out.mono HB2.out.size))
 have hf1:=HF.out sk.a sk.n sk.cap _ (OWN.out.rep (lo:=0) (fun q _=>Nat.zero_le _)) (HG.out.below HB3.out)
 simp only [Re.op,Re.nm] at hf1
 have HF1:=hide hf1
 clear hf1
 obtain ⟨pl,p0,p1,pf⟩:=hp1.below HBL.out
 rw [strQ_nil] at p0
 obtain ⟨bl,b0,b1,b2, -⟩:=BL.out
 have hz2:(w1.alloc (.cells #[.int .i64 eo, .string en, .slice sk.a sk.n sk.cap] 52)).heap.size=w1.heap.size+1:=by simp
 clear own hp1 ho1 HP X1 X2 HF HPN
 generalize hW2:w1.alloc (.cells #[.int .i64 eo, .string en, .slice sk.a sk.n sk.cap] 52)=W2 at *
 go_wp2_with fail
 clear hW2
 (with_reducible refine HF1.out.mono ?_);rintro e w3 ⟨rfl,hb3⟩
 clear pl p0 p1 pf bl b0 b1 b2
 obtain ⟨bl,b0,b1,b2, -⟩:=BL.out.below hb3
 obtain ⟨cl,r0,r1,r2,rf⟩:=X3.out.below hb3
 have HB4:=hide (HB3.out.trans (hb3.mono HB3.out.size))
 have OWN3:=hide (OWN.out.bel hb3)
 have hz3:=hb3.size
 rw [hz2] at hz3
 have hS0:¬ Made' W w1 w.heap.size:=fun hq=>by have:=hq.1;omega
 clear hb3 HF1
 go_wp2_with fail
 refine bodyPost_ret (v:=.tuple #[.agg #[.int .i64 eo, .string en, .slice sk.a sk.n sk.cap], .bool true]) (by simp [results,Tryz.results123,go_sem, *]) rfl ⟨sk,rfl, ?_, ?_⟩
 ·refine (((OWN3.out.set hS0 _ _).set hS0 _ _).set hS0 _ _).wide fun q hq=>⟨?_, ?_⟩
  ·have:=hq.1;omega
  ·have:=hq.2;simp;omega
 ·exact ((HB4.out.setCell (Nat.le_refl _) _).setCell (Nat.le_refl _) _).setCell (Nat.le_refl _) _
end Go.Proofs.YtfbgppkdnfljhaaGreatDoor
namespace Go.Proofs.YtfbgppkdnfljhaaGreatDoor
open Go.RowKit Go.Shelf
theorem strE_map (xs:List ByteArray):xs.flatMap StrE.c=xs.map Value.string:=by
 induction xs with
 | nil=>rfl
 | cons x xs ih=>rw [List.flatMap_cons,ih];rfl
theorem strIndex_one (s:ByteArray) (c:UInt8) (w:World):Calls Tryz.prog 211 #[.string s, .string ⟨#[c]⟩] w fun e w'=>e = .returned (.int .i64 (Lib.indexByte s.data.toList c))∧w'=w:=by
 have h:=Any.strings_Index_one Tryz.lays143 s c w
 change Calls Tryz.prog 211 _ _ _ at h
 exact h
theorem strCount_one (s:ByteArray) (c:UInt8) (w:World):Calls Tryz.prog 210 #[.string s, .string ⟨#[c]⟩] w fun e w'=>e = .returned (.int .i64 (Lib.countByte s.data.toList c))∧w'=w:=by
 have h:=Any.strings_Count_one (L:={ Tryz.lays221 with }) s c w
 change Calls Tryz.prog 210 _ _ _ at h
 exact h
theorem byteIndex_one (s:ByteArray) (c:UInt8):Lib.indexB s ⟨#[c]⟩=Lib.indexByte s.data.toList c:=Lib.index_one _ _
theorem byteCount_one (s:ByteArray) (c:UInt8):Lib.countB s ⟨#[c]⟩=Lib.countByte s.data.toList c:=Lib.count_one _ _
theorem byteIndex_lt {l:List UInt8} {c:UInt8} {i:Nat} (h:Lib.indexByte l c=i):i < l.length:=by
 have:=(Lib.indexByte_some h).1
 exact (List.getElem?_eq_some_iff.1 this).1
theorem strSplit_one (s:ByteArray) (c:UInt8) (w:World) (hs:s.size≤900):Calls Tryz.prog 120 #[.string s, .string ⟨#[c]⟩] w (RetOwn StrE 9 w (Lib.splitB ⟨#[c]⟩ 0 (Lib.countB s ⟨#[c]⟩) s)):=by
 have h1c:1≤(⟨#[c]⟩:ByteArray).size:=Nat.le_refl 1
 have hle:=Lib.countB_le ⟨#[c]⟩ h1c s.size s (Nat.le_refl _)
 have hlen:=Lib.splitB_all ⟨#[c]⟩ h1c 0 _ s rfl
 have g:=Any.strings_genSplit_core Tryz.lays221 (by kernel_rfl) s ⟨#[c]⟩ 0 (-1) (Lib.countB s ⟨#[c]⟩+1) w (by omega) h1c (Nat.zero_le _)
  (fun x a _=>by rw [byteIndex_one];exact strIndex_one x c _) (by rw [byteCount_one];exact strCount_one s c w) (by decide) (by decide) (by rw [if_pos (by decide)];omega)
 change Calls Tryz.prog 164 _ _ _ at g
 rw [Nat.add_sub_cancel,hlen,Int.ofNat_zero] at g
 have e2:Lib.cellsOf (Lib.splitB ⟨#[c]⟩ 0 (Lib.countB s ⟨#[c]⟩) s) (Lib.countB s ⟨#[c]⟩+1)=((Lib.splitB ⟨#[c]⟩ 0 (Lib.countB s ⟨#[c]⟩) s).map Value.string).toArray:=by rw [← hlen];exact Lib.cellsOf_full _
 rw [e2] at g
 have G:=hide g
 have HL:=hide hlen
 have hmx:(Lib.countB s ⟨#[c]⟩+1)≤1000:=by omega
 clear g e2 hlen hle
 generalize Lib.splitB ⟨#[c]⟩ 0 (Lib.countB s ⟨#[c]⟩) s=xs at *
 generalize Lib.countB s ⟨#[c]⟩+1=n at *
 go_enter Tryz.func120,Tryz.ntmps120
 go_wp2_with fail
 (with_reducible refine G.out.mono ?_);rintro e w1 ⟨rfl,rfl⟩
 go_wp2_with fail
 go_ret
 exact ⟨_,rfl,Own.lit (E:=StrE) (Nat.le_refl _) xs _ n (by rw [strE_map]) HL.out.symm (by omega),belowAlloc _ _⟩
def cutS (s:ByteArray) (c:UInt8):ByteArray × ByteArray × Bool:=
 if 0≤Lib.indexByte s.data.toList c then (s.extract 0 (Lib.indexByte s.data.toList c).toNat,s.extract ((Lib.indexByte s.data.toList c).toNat+1) s.size,true) else (s,⟨#[]⟩,false)
theorem liteIndex_one (s:ByteArray) (c:UInt8) (w:World):Calls Tryz.prog 212 #[.string s, .string ⟨#[c]⟩] w fun e w'=>e = .returned (.int .i64 (Lib.indexByte s.data.toList c))∧w'=w:=by
 have h:=Any.stringslite_Index_one (L:={ Tryz.lays143 with }) s c w
 change Calls Tryz.prog 212 _ _ _ at h
 exact h
theorem liteCut_one (s:ByteArray) (c:UInt8) (w:World) (hs:s.size≤900):Calls Tryz.prog 165 #[.string s, .string ⟨#[c]⟩] w fun e w'=>e = .returned (.tuple #[.string (cutS s c).1, .string (cutS s c).2.1, .bool (cutS s c).2.2])∧Below w.heap.size w w':=by
 have HI:=hide (liteIndex_one s c w)
 have hge:=Lib.indexByte_ge s.data.toList c
 have hlt:=fun (i:Nat) (h:Lib.indexByte s.data.toList c=i)=>byteIndex_lt h
 have hsl:s.data.toList.length=s.size:=by simp
 have CE:Hid (cutS s c=if 0≤Lib.indexByte s.data.toList c then (s.extract 0 (Lib.indexByte s.data.toList c).toNat,s.extract ((Lib.indexByte s.data.toList c).toNat+1) s.size,true) else (s,⟨#[]⟩,false)):=hide rfl
 have hc1:(⟨#[c]⟩:ByteArray).size=1:=rfl
 generalize cutS s c=R at *
 generalize Lib.indexByte s.data.toList c=i at *
 generalize (⟨#[c]⟩:ByteArray)=sep at *
 by_cases h0:0≤i
 ·obtain ⟨k,rfl⟩:=Int.eq_ofNat_of_zero_le h0
  have hk:=hlt k rfl
  rw [hsl] at hk
  have h0':decide ((k:Int)≥0)=true:=decide_eq_true (by omega)
  obtain rfl:R=(s.extract 0 k,s.extract (k+1) s.size,true):=by rw [CE.out,if_pos h0];rfl
  clear CE hlt hge h0
  go_enter Tryz.func165,Tryz.ntmps165
  go_wp2_with fail
  (with_reducible refine HI.out.mono ?_);rintro e w1 ⟨rfl,rfl⟩
  go_wp2_with fail
  refine wp_region_bw (by kernel_rfl) (by kernel_rfl) ?_
  repeat (go_big_quiet_step (fail))
  refine wpQuiet_nil ?_
  intro w5 hb5
  go_wp2_with fail
  refine bodyPost_ret (v:=.tuple #[.string (s.extract 0 k), .string (s.extract (k+1) s.size), .bool true]) (by simp [results,Tryz.results165,go_sem]) rfl ⟨rfl,hb5⟩
 ·have h0':decide (i≥0)=false:=decide_eq_false (by omega)
  obtain rfl:R=(s,⟨#[]⟩,false):=by rw [CE.out,if_neg h0]
  clear CE hlt h0
  go_enter Tryz.func165,Tryz.ntmps165
  go_wp2_with fail
  (with_reducible refine HI.out.mono ?_);rintro e w1 ⟨rfl,rfl⟩
  go_wp2_with fail
  refine bodyPost_ret (v:=.tuple #[.string s, .string ⟨#[]⟩, .bool false]) (by simp [results,Tryz.results165,go_sem]) rfl ⟨rfl,Below.refl _ _⟩
theorem strCut_one (s:ByteArray) (c:UInt8) (w:World) (hs:s.size≤900):Calls Tryz.prog 121 #[.string s, .string ⟨#[c]⟩] w fun e w'=>e = .returned (.tuple #[.string (cutS s c).1, .string (cutS s c).2.1, .bool (cutS s c).2.2])∧Below w.heap.size w w':=by
 have HC:=hide (liteCut_one s c w hs)
 generalize cutS s c=R at *
 obtain ⟨r1,r2,r3⟩:=R
 go_enter Tryz.func121,Tryz.ntmps121
 go_wp2_with fail
 (with_reducible refine HC.out.mono ?_);rintro e w1 ⟨rfl,hb1⟩
 go_wp2_with fail
 refine bodyPost_ret (v:=.tuple #[.string r1, .string r2, .bool r3]) (by simp [results,Tryz.results121,go_sem]) rfl ⟨rfl,hb1⟩
theorem IndexS_at (v:Value) (xs:List ByteArray) (x y:ByteArray) (k:Nat) (w:World) (hx:Rep StrE w v xs) (hk:xs[k]? = some y) (he:(x.toList==y.toList)=true) (hno:∀ j z,j < k→xs[j]? = some z→(x.toList==z.toList)=false) :
 Calls Tryz.prog 122 #[v, .string x] w fun e w'=>e = .returned (.int .i64 k)∧w=w':=by
 obtain ⟨a,c,rfl,hc1,hc2,hc3,hx⟩:=hx.open
 have HX:=hide hx;clear hx
 have hkn:=(List.getElem?_eq_some_iff.1 hk).1
 have HK:=hide hk;have HN:=hide hno
 clear hk hno
 generalize hn:xs.length=n at *
 have H:=hide hn;clear hn
 go_enter Tryz.func122,Tryz.ntmps122
 go_wp2_with fail
 go_loop [8] (fun i => ∃ t:Nat,t≤k∧i = .int .i64 t) (fun i=>n - (intOf i).toNat)
 case atStart=>exact ⟨0,Nat.zero_le _,rfl⟩
 case round =>
  obtain ⟨t,ht,rfl⟩:=hrel
  have hlt:t < n:=by omega
  obtain ⟨z,hz⟩:=get_of_lt (xs:=xs) (k:=t) (by rw [H.out];exact hlt)
  obtain ⟨b,o,rfl,hbl,i0⟩:=HX.out.str hz
  have hlt':=nat_of_lt hlt
  by_cases htk:t=k
  ·subst htk
   obtain rfl:z=y:=Option.some.inj (hz.symm.trans HK.out)
   clear hz
   go_wp2_with fail
   go_ret
   exact ⟨rfl,rfl⟩
  ·have k1:=HN.out t z (by omega) hz
   clear hz
   go_wp2_with fail
   go_round
   case rel=>exact ⟨t+1,by omega,by go_num⟩
   case measure=>simp [intOf];omega
def Glob2 (w:World):Prop:=∀ (k:Nat) (s:ByteArray),wordsR[k]? = some s→w.cell? ⟨0,k,none⟩=some (.string s)
theorem Glob2.below {w w':World} (h:Glob2 w) (hb:Below w.heap.size w w'):Glob2 w':=fun k s hs=>(hb.cell (p:=⟨0,k,none⟩) (lt_of_cell (h k s hs))).trans (h k s hs)
theorem Glob2.rep {w:World} (h:Glob2 w):Rep StrE w (.slice (some ⟨0,0,none⟩) 4 4) wordsR:=by
 refine ⟨some ⟨0,0,none⟩,4,rfl,by decide,by decide,fun i x hx=>⟨0,0,rfl,fun j u hu => ?_⟩⟩
 cases j with
 | zero =>
  simp only [StrE,List.getElem?_cons_zero,Option.some.injEq] at hu
  subst hu
  have:=h i x hx
  simpa [StrE] using this
 | succ j=>simp [StrE] at hu
theorem Tryz.Builder_Extra_156:Builder.Extra Tryz.prog Tryz.lays156_ren:={
 sizeBuilder:=by kernel_rfl
 liesBuilder:=by kernel_rfl
 t5:=Tryz.underlying5
 a5:=Tryz.isAgg5
 z5:=Tryz.sizeOf5
 v5:=Tryz.zeroValue5
 infoByte:=by kernel_rfl
 cellsByte:=by kernel_rfl
 sizeByte:=by kernel_rfl
 neB5:=by decide }
theorem strJoin_any (v:Value) (xs:List ByteArray) (sep:ByteArray) (w:World) (base:Nat) (h:Own StrE 9 w base v xs) (hn:xs.length≤1000) (hl:(Lib.join (xs.map (·.data.toList)) sep.data.toList).length≤100000) :
 Calls Tryz.prog 168 #[v, .string sep] w fun e w'=>e = .returned (.string ⟨(Lib.join (xs.map (·.data.toList)) sep.data.toList).toArray⟩)∧Below w.heap.size w w':=by
 rcases h.shape with ⟨rfl,rfl⟩ | ⟨g,cap,rfl,h1,h2,h3,h4⟩
 ·have c:=Any.strings_Join_none Tryz.lays156 Tryz.Builder_Extra_156 none 0 sep w
  change Calls Tryz.prog 168 _ _ _ at c
  exact c.mono fun e w' ⟨he,hw⟩=>⟨he,hw ▸ Below.refl _ _⟩
 ·have c:=Any.strings_Join Tryz.lays156 Tryz.Builder_Extra_156 g 0 cap xs sep w (fun j x hx=>by have:=h.cell (j:=0) (u:=.string x) hx rfl;simpa [StrE] using this) h2 (by omega) h3 (by omega)
  change Calls Tryz.prog 168 _ _ _ at c
  exact c
end Go.Proofs.YtfbgppkdnfljhaaGreatDoor
namespace Go.Proofs.YtfbgppkdnfljhaaGreatDoor
open Go.RowKit
def partT (r:Ru):ByteArray:=wordR r.kind++⟨#[32]⟩++textR 12 r.e
def joinT (m:List Ru):ByteArray:=⟨(Lib.join ((m.map partT).map (·.data.toList)) [47]).toArray⟩
def tpL (ps:List ByteArray) (n k:Nat):List ByteArray:=ps.take k++List.replicate (n - k) ⟨#[]⟩
theorem tpL_full {ps:List ByteArray} {n:Nat} (h:ps.length=n):tpL ps n n=ps:=by
 subst h;simp [tpL]
theorem tpL_get {ps:List ByteArray} {n k:Nat} (h:ps.length=n) (hk:k < n):(tpL ps n k)[k]? = some ⟨#[]⟩:=by
 unfold tpL
 rw [List.getElem?_append_right (by simp;omega)]
 have:k - (List.take k ps).length=0:=by simp;omega
 rw [this,List.getElem?_replicate,if_pos (by omega)]
theorem tpL_set {ps:List ByteArray} {n k:Nat} {x:ByteArray} (h:ps.length=n) (hx:ps[k]? = some x):(tpL ps n k).set k x=tpL ps n (k+1):=by
 have hk:=(List.getElem?_eq_some_iff.1 hx).1
 unfold tpL
 rw [List.set_append_right _ _ (by simp;omega),List.take_add_one,hx]
 have h0:k - (List.take k ps).length=0:=by simp;omega
 have h1:n - k=(n - (k+1))+1:=by omega
 rw [h0,h1,List.replicate_succ,List.set_cons_zero]
 simp
theorem joinT_le {m:List Ru} (hv:∀ r∈m,ruleOk r=true) (hl:m.length≤5):(Lib.join ((m.map partT).map (·.data.toList)) [47]).length≤100000:=by
 have h1:∀ (m:List Ru),(∀ r∈m,ruleOk r=true)→(Lib.joinTail [47] ((m.map partT).map (·.data.toList))).length≤2000 * m.length:=by
  intro m
  induction m with
  | nil=>intro _;simp [Lib.joinTail]
  | cons r m ih =>
   intro h
   have h2:=ih fun q hq=>h q (List.mem_cons_of_mem _ hq)
   obtain ⟨hk,hvr⟩:=ruleOk_kind (h r List.mem_cons_self)
   have h3:=validR_size hvr
   have h4:=wordR_size r.kind
   have h5:(partT r).data.toList.length≤1900:=by
    have:(partT r).data.toList.length=(partT r).size:=by simp
    rw [this]
    unfold partT
    rw [ByteArray.size_append,ByteArray.size_append]
    have:(⟨#[32]⟩:ByteArray).size=1:=rfl
    omega
   unfold Lib.joinTail at h2 ⊢
   simp only [List.map_cons,List.flatten_cons,List.length_append,List.length_cons,List.length_nil]
   omega
 cases m with
 | nil=>simp [Lib.join_nil]
 | cons r m =>
  have h2:=h1 m fun q hq=>hv q (List.mem_cons_of_mem _ hq)
  obtain ⟨hk,hvr⟩:=ruleOk_kind (hv r List.mem_cons_self)
  have h3:=validR_size hvr
  have h4:=wordR_size r.kind
  have h5:(partT r).data.toList.length≤1900:=by
   have:(partT r).data.toList.length=(partT r).size:=by simp
   rw [this]
   unfold partT
   rw [ByteArray.size_append,ByteArray.size_append]
   have:(⟨#[32]⟩:ByteArray).size=1:=rfl
   omega
  rw [List.map_cons,List.map_cons,Lib.join_cons,List.length_append]
  simp only [List.length_cons] at hl
  omega
theorem FormatModel_any (a:Option Addr) (n c:Nat) (m:List Ru) (w:World) (hx:RepM 0 w ⟨a,n,c⟩ m) (hok:modelOk m=true) (hg:Glob w) (hg2:Glob2 w) :
 Calls Tryz.prog 124 #[.slice a n c] w fun e w'=>e = .returned (.string (joinT m))∧Below w.heap.size w w':=by
 have hml:1≤m.length∧m.length≤5∧∀ r∈m,ruleOk r=true:=by
  unfold modelOk at hok
  simp only [Bool.and_eq_true,decide_eq_true_eq,List.all_eq_true] at hok
  exact ⟨hok.1,hok.2.1,hok.2.2⟩
 obtain ⟨hm1,hm5,hrk⟩:=hml
 have HV:=hide (ModelValid_any a n c m w hx hg)
 rw [hok] at HV
 obtain ⟨e1,hc1,hc2,hc3⟩:=hx.open
 simp only at e1 hc1 hc2 hc3
 have HX:=hide hx;have HG:=hide hg;have HG2:=hide hg2
 have H:=hide e1.symm
 rw [← e1] at hm1 hm5
 have HRK:=hide (fun r (hr:r∈m)=>(ruleOk_kind (hrk r hr)))
 have HJL:=hide (joinT_le hrk (by omega))
 have JE:Hid (joinT m=⟨(Lib.join ((m.map partT).map (·.data.toList)) [47]).toArray⟩):=hide rfl
 have PL:(m.map partT).length=n:=by rw [List.length_map];exact e1.symm
 have TG:=hide (fun k hk=>tpL_get (k:=k) PL hk)
 have TS:=hide (fun k x hx=>tpL_set (k:=k) (x:=x) PL hx)
 have TF:=hide (tpL_full PL)
 have T0:Hid (tpL (m.map partT) n 0=List.replicate n ⟨#[]⟩):=hide (by simp [tpL])
 have HPG:=hide (fun (k:Nat) (r:Ru) (h:m[k]? = some r)=>(by rw [List.getElem?_map,h];rfl:(m.map partT)[k]? = some (wordR r.kind++⟨#[32]⟩++textR 12 r.e)))
 have HPL:=hide PL
 rw [← e1] at hc1 hc2
 clear hx hok hg hg2 hrk e1 PL
 generalize tpL (m.map partT) n=TP at *
 generalize m.map partT=ps at *
 generalize joinT m=R at *
 go_enter Tryz.func124,Tryz.ntmps124
 go_wp2_with fail
 (with_reducible refine HV.out.mono ?_);rintro e w1 ⟨rfl,hb1⟩
 have HB1:=hide hb1
 clear HV hb1
 go_wp2_with (at_make;refine wpList_make StrE 9 ⟨#[]⟩ Tryz.infoStr rfl Tryz.underlying63 n (by decide) (by omega) rfl _ _ rfl rfl rfl ?_;intro w2 hown hgr)
 have hb2:=(below_of_grown hgr)
 have HB2:=hide (HB1.out.trans (hb2.mono HB1.out.size))
 rw [← T0.out] at hown
 have HO:=hide (hown.mono HB1.out.size)
 clear hown hgr hb2
 go_loopw [14] (fun i wr => ∃ k:Nat,k≤n∧i = .int .i64 k∧Hid (Own StrE 9 wr w.heap.size (.slice (some ⟨w1.heap.size,0,none⟩) n n) (TP k))∧Hid (Below w.heap.size w wr)) (fun i _=>n - (intOf i).toNat)
 case atStart=>exact ⟨0,Nat.zero_le _,rfl,HO,HB2⟩
 case round =>
  obtain ⟨k,hk,rfl,HO,HB⟩:=hrel
  by_cases hlt:k < n
  ·have hlt':=nat_of_lt hlt
   obtain ⟨r,hrm⟩:=get_of_lt (xs:=m) (k:=k) (by rw [H.out];exact hlt)
   obtain ⟨b,o,s,rfl,hbl,i0,i1,i2,i3,i4⟩:=(HX.out.below HB.out).row hrm
   obtain ⟨hkd,hvr⟩:=HRK.out r (List.mem_of_getElem? hrm)
   have zt:=validR_size hvr
   have HF:=hide (fun W (hb:Below wr.heap.size wr W)=>FormatRelExpr_any r.e s.a s.n s.cap W hvr (i4.below hb) (HG.out.below (HB.out.trans (hb.mono HB.out.size))))
   have HTS:=hide (TS.out k _ (HPG.out k r hrm))
   have HTG:=hide (TG.out k hlt)
   obtain ⟨q,hq,hq4,hqw⟩:=words_at hkd
   have zx:=wordR_size r.kind
   have HW:=hide (fun W (hb:Below wr.heap.size wr W)=>(HG2.out.below (HB.out.trans (hb.mono HB.out.size))) q _ hqw)
   rw [hq] at i0
   have hqi:(0:Int)≤(q:Int):=by omega
   have hqj:(q:Int) < 4:=by omega
   have HBA:=hide (belowAlloc wr (.cells #[.int .i64 q, .int .i64 r.e.op, .string r.e.nm, .slice s.a s.n s.cap] 54))
   have BX:=hide (BoxU.new wr q r.e.op r.e.nm s 54)
   have hza:(wr.alloc (.cells #[.int .i64 q, .int .i64 r.e.op, .string r.e.nm, .slice s.a s.n s.cap] 54)).heap.size=wr.heap.size+1:=by simp
   have z32:(⟨#[32]⟩:ByteArray).size=1:=rfl
   clear hrm i4 hvr hkd hq hqw
   generalize textR 12 r.e=t at *
   generalize wordR r.kind=x at *
   have zxt:(x++⟨#[32]⟩:ByteArray).size≤100:=by rw [ByteArray.size_append];omega
   generalize hwa:wr.alloc (.cells #[.int .i64 q, .int .i64 r.e.op, .string r.e.nm, .slice s.a s.n s.cap] 54)=wa at *
   go_wp2_with fail
   clear hwa i0 i1 i2 i3
   -- reg part
   refine wp_region_inv (n:=12) (by kernel_rfl) rfl (by kernel_rfl) (by kernel_rfl) (fun A ls a' W => ∃ (x19 x20 x21 x22 x23 x24 x25 x26 x27 x28 x29 x30:Value),a'=putAll A [(19,x19),(20,x20),(21,x21),(22,x22),(23,x23),(24,x24),(25,x25),(26,x26),(27,x27),(28,x28),(29,x29),(30,x30)]∧Vd ls 0 [] x19 (.slice (some ⟨w1.heap.size,0,none⟩) n n)∧Vd ls 1 [] x20 (.int .i64 k)∧Vd ls 2 [] x21 (.pointer (some ⟨wr.heap.size,0,none⟩))∧Vd ls 3 [] x22 (.int .i64 q)∧Vd ls 4 [] x23 (.pointer (some ⟨0,q,none⟩))∧Vd ls 5 [] x24 (.string x)∧Vd ls 6 [] x25 (.string (x++⟨#[32]⟩))∧Vd ls 7 [] x26 (.pointer (some ⟨wr.heap.size,1,none⟩))∧Vd ls 8 [] x27 (.agg #[.int .i64 r.e.op, .string r.e.nm, .slice s.a s.n s.cap])∧Vd ls 9 [] x28 (.string t)∧Vd ls 10 [] x29 (.string (x++⟨#[32]⟩++t))∧Vd ls 11 [] x30 (.pointer (some ⟨w1.heap.size,k,none⟩))∧Below wa.heap.size wa W) ?r0 ?rs ?re
   case r0 =>
    exact ⟨u19,u20,u21,u22,u23,u24,u25,u26,u27,u28,u29,u30,by simp only [putAll,Act.put,List.setIfInBounds_toArray,List.set_cons_succ,List.set_cons_zero],Vd.start,Vd.start,Vd.start,Vd.start,Vd.start,Vd.start,Vd.start,Vd.start,Vd.start,Vd.start,Vd.start,Vd.start,by exact (Below.refl _ _).drew⟩
   case rs =>
    rintro ls a' W hs hnl ⟨x19,x20,x21,x22,x23,x24,x25,x26,x27,x28,x29,x30,ha,cv0,cv1,cv2,cv3,cv4,cv5,cv6,cv7,cv8,cv9,cv10,cv11,hJ⟩ k o hkn mc K hK
    simp only [putAll,Act.put,List.setIfInBounds_toArray,List.set_cons_succ,List.set_cons_zero] at ha
    subst ha
    have hkc:k=0∨k=1∨k=2∨k=3∨k=4∨k=5∨k=6∨k=7∨k=8∨k=9∨k=10∨k=11:=by omega
    have hop:=mc.op
    have haf:=mc.after
    rcases hkc with rfl | rfl | rfl | rfl | rfl | rfl | rfl | rfl | rfl | rfl | rfl | rfl
    ·simp at hop;subst hop;simp [Region.binds] at haf
     go_simp
     exact hK _ _ ⟨_,_,_,_,_,_,_,_,_,_,_,_,by simp only [putAll,Act.put,List.setIfInBounds_toArray,List.set_cons_succ,List.set_cons_zero],Vd.same (by simp),cv1.set (by decide),cv2.set (by decide),cv3.set (by decide),cv4.set (by decide),cv5.set (by decide),cv6.set (by decide),cv7.set (by decide),cv8.set (by decide),cv9.set (by decide),cv10.set (by decide),cv11.set (by decide),by exact hJ⟩
    ·simp at hop;subst hop;simp [Region.binds] at haf
     go_simp
     exact hK _ _ ⟨_,_,_,_,_,_,_,_,_,_,_,_,by simp only [putAll,Act.put,List.setIfInBounds_toArray,List.set_cons_succ,List.set_cons_zero],cv0.set (by decide),Vd.same (by simp),cv2.set (by decide),cv3.set (by decide),cv4.set (by decide),cv5.set (by decide),cv6.set (by decide),cv7.set (by decide),cv8.set (by decide),cv9.set (by decide),cv10.set (by decide),cv11.set (by decide),by exact hJ⟩
    ·simp at hop;subst hop;simp [Region.binds] at haf
     go_simp
     exact hK _ _ ⟨_,_,_,_,_,_,_,_,_,_,_,_,by simp only [putAll,Act.put,List.setIfInBounds_toArray,List.set_cons_succ,List.set_cons_zero],cv0.set (by decide),cv1.set (by decide),Vd.same (by simp),cv3.set (by decide),cv4.set (by decide),cv5.set (by decide),cv6.set (by decide),cv7.set (by decide),cv8.set (by decide),cv9.set (by decide),cv10.set (by decide),cv11.set (by decide),by exact hJ⟩
    ·simp at hop;subst hop;simp [Region.binds] at haf
     obtain rfl:=(cv2.get (by simp [haf])).symm
     obtain ⟨xl,x0,x1,x2,x3, -⟩:=BX.out.below hJ
     go_simp
     exact hK _ _ ⟨_,_,_,_,_,_,_,_,_,_,_,_,by simp only [putAll,Act.put,List.setIfInBounds_toArray,List.set_cons_succ,List.set_cons_zero],cv0.set (by decide),cv1.set (by decide),cv2.set (by decide),Vd.same (by simp),cv4.set (by decide),cv5.set (by decide),cv6.set (by decide),cv7.set (by decide),cv8.set (by decide),cv9.set (by decide),cv10.set (by decide),cv11.set (by decide),by exact hJ⟩
    ·simp at hop;subst hop;simp [Region.binds] at haf
     obtain rfl:=(cv3.get (by simp [haf])).symm
     go_simp
     exact hK _ _ ⟨_,_,_,_,_,_,_,_,_,_,_,_,by simp only [putAll,Act.put,List.setIfInBounds_toArray,List.set_cons_succ,List.set_cons_zero],cv0.set (by decide),cv1.set (by decide),cv2.set (by decide),cv3.set (by decide),Vd.same (by simp),cv5.set (by decide),cv6.set (by decide),cv7.set (by decide),cv8.set (by decide),cv9.set (by decide),cv10.set (by decide),cv11.set (by decide),by exact hJ⟩
    ·simp at hop;subst hop;simp [Region.binds] at haf
     obtain rfl:=(cv4.get (by simp [haf])).symm
     have cw:=HW.out W (HBA.out.trans (hJ.mono HBA.out.size))
     have cwl:=lt_of_cell cw
     go_simp
     exact hK _ _ ⟨_,_,_,_,_,_,_,_,_,_,_,_,by simp only [putAll,Act.put,List.setIfInBounds_toArray,List.set_cons_succ,List.set_cons_zero],cv0.set (by decide),cv1.set (by decide),cv2.set (by decide),cv3.set (by decide),cv4.set (by decide),Vd.same (by simp),cv6.set (by decide),cv7.set (by decide),cv8.set (by decide),cv9.set (by decide),cv10.set (by decide),cv11.set (by decide),by exact hJ⟩
    ·simp at hop;subst hop;simp [Region.binds] at haf
     obtain rfl:=(cv5.get (by simp [haf])).symm
     go_simp
     rw [if_neg (by omega)]
     try go_simp
     exact hK _ _ ⟨_,_,_,_,_,_,_,_,_,_,_,_,by simp only [putAll,Act.put,List.setIfInBounds_toArray,List.set_cons_succ,List.set_cons_zero],cv0.set (by decide),cv1.set (by decide),cv2.set (by decide),cv3.set (by decide),cv4.set (by decide),cv5.set (by decide),Vd.same (by simp),cv7.set (by decide),cv8.set (by decide),cv9.set (by decide),cv10.set (by decide),cv11.set (by decide),by exact hJ⟩
    ·simp at hop;subst hop;simp [Region.binds] at haf
     go_simp
     exact hK _ _ ⟨_,_,_,_,_,_,_,_,_,_,_,_,by simp only [putAll,Act.put,List.setIfInBounds_toArray,List.set_cons_succ,List.set_cons_zero],cv0.set (by decide),cv1.set (by decide),cv2.set (by decide),cv3.set (by decide),cv4.set (by decide),cv5.set (by decide),cv6.set (by decide),Vd.same (by simp),cv8.set (by decide),cv9.set (by decide),cv10.set (by decide),cv11.set (by decide),by exact hJ⟩
    ·simp at hop;subst hop;simp [Region.binds] at haf
     obtain rfl:=(cv7.get (by simp [haf])).symm
     obtain ⟨xl,x0,x1,x2,x3, -⟩:=BX.out.below hJ
     go_simp
     exact hK _ _ ⟨_,_,_,_,_,_,_,_,_,_,_,_,by simp only [putAll,Act.put,List.setIfInBounds_toArray,List.set_cons_succ,List.set_cons_zero],cv0.set (by decide),cv1.set (by decide),cv2.set (by decide),cv3.set (by decide),cv4.set (by decide),cv5.set (by decide),cv6.set (by decide),cv7.set (by decide),Vd.same (by simp),cv9.set (by decide),cv10.set (by decide),cv11.set (by decide),by exact hJ⟩
    ·simp at hop;subst hop;simp [Region.binds] at haf
     obtain rfl:=(cv8.get (by simp [haf])).symm
     go_simp
     go_at_call 167
     (with_reducible refine (HF.out W (HBA.out.trans (hJ.mono HBA.out.size))).mono ?_);rintro e u ⟨rfl,hb⟩
     exact hK _ _ ⟨_,_,_,_,_,_,_,_,_,_,_,_,by simp only [putAll,Act.put,List.setIfInBounds_toArray,List.set_cons_succ,List.set_cons_zero],cv0.set (by decide),cv1.set (by decide),cv2.set (by decide),cv3.set (by decide),cv4.set (by decide),cv5.set (by decide),cv6.set (by decide),cv7.set (by decide),cv8.set (by decide),Vd.same (by simp),cv10.set (by decide),cv11.set (by decide),by exact hJ.trans (hb.mono hJ.size)⟩
    ·simp at hop;subst hop;simp [Region.binds] at haf
     obtain rfl:=(cv6.get (by simp [haf])).symm
     obtain rfl:=(cv9.get (by simp [haf])).symm
     go_simp
     rw [if_neg (by omega)]
     try go_simp
     exact hK _ _ ⟨_,_,_,_,_,_,_,_,_,_,_,_,by simp only [putAll,Act.put,List.setIfInBounds_toArray,List.set_cons_succ,List.set_cons_zero],cv0.set (by decide),cv1.set (by decide),cv2.set (by decide),cv3.set (by decide),cv4.set (by decide),cv5.set (by decide),cv6.set (by decide),cv7.set (by decide),cv8.set (by decide),cv9.set (by decide),Vd.same (by simp),cv11.set (by decide),by exact hJ⟩
    ·simp at hop;subst hop;simp [Region.binds] at haf
     obtain rfl:=(cv0.get (by simp [haf])).symm
     obtain rfl:=(cv1.get (by simp [haf])).symm
     go_simp
     exact hK _ _ ⟨_,_,_,_,_,_,_,_,_,_,_,_,by simp only [putAll,Act.put,List.setIfInBounds_toArray,List.set_cons_succ,List.set_cons_zero],cv0.set (by decide),cv1.set (by decide),cv2.set (by decide),cv3.set (by decide),cv4.set (by decide),cv5.set (by decide),cv6.set (by decide),cv7.set (by decide),cv8.set (by decide),cv9.set (by decide),cv10.set (by decide),Vd.same (by simp),by exact hJ⟩
   case re =>
    rintro ls a' W hall ⟨x19,x20,x21,x22,x23,x24,x25,x26,x27,x28,x29,x30,ha,cv0,cv1,cv2,cv3,cv4,cv5,cv6,cv7,cv8,cv9,cv10,cv11,hJ⟩ o hop
    simp only [putAll,Act.put,List.setIfInBounds_toArray,List.set_cons_succ,List.set_cons_zero] at ha
    subst ha
    simp at hop;subst hop
    obtain rfl:=(cv0.get (hall 0 (by decide))).symm
    obtain rfl:=(cv1.get (hall 1 (by decide))).symm
    obtain rfl:=(cv2.get (hall 2 (by decide))).symm
    obtain rfl:=(cv3.get (hall 3 (by decide))).symm
    obtain rfl:=(cv4.get (hall 4 (by decide))).symm
    obtain rfl:=(cv5.get (hall 5 (by decide))).symm
    obtain rfl:=(cv6.get (hall 6 (by decide))).symm
    obtain rfl:=(cv7.get (hall 7 (by decide))).symm
    obtain rfl:=(cv8.get (hall 8 (by decide))).symm
    obtain rfl:=(cv9.get (hall 9 (by decide))).symm
    obtain rfl:=(cv10.get (hall 10 (by decide))).symm
    obtain rfl:=(cv11.get (hall 11 (by decide))).symm
    have HOW:=hide ((HO.out.below HBA.out).below hJ)
    have cz:=HOW.out.cell (j:=0) (u:=.string ⟨#[]⟩) HTG.out rfl
    simp only [StrE,Nat.mul_one,Nat.add_zero] at cz
    have fz:=HOW.out.frozen k
    have czl:=lt_of_cell cz
    go_simp
    have HJB:=hide ((HB.out.trans (HBA.out.mono HB.out.size)).trans (hJ.mono (HB.out.trans (HBA.out.mono HB.out.size)).size))
    clear hJ
    go_wp2_with fail
    have HO5:=HOW.out.set (i:=k) (j:=0) (x:=⟨#[]⟩) (x++⟨#[32]⟩++t) (by decide) HTG.out rfl
    rw [HTS.out] at HO5
    simp only [StrE,Nat.mul_one,Nat.add_zero] at HO5
    have HO6:=hide HO5
    have HB6:=hide (HJB.out.setCell (p:=⟨w1.heap.size,k,none⟩) HB1.out.size (.string (x++⟨#[32]⟩++t)))
    clear HO5 cz fz
    go_roundw
    case rel=>exact ⟨k+1,by omega,by go_num,HO6,HB6⟩
    case measure=>simp [intOf];omega
   -- end part
  ·have hkn:k=n:=by omega
   have hkf:¬ (k:Int) < (n:Int):=by omega
   have HJ:=strJoin_any (.slice (some ⟨w1.heap.size,0,none⟩) n n) ps ⟨#[47]⟩ wr w.heap.size (by have:=HO.out;rw [hkn,TF.out] at this;exact this) (by rw [HPL.out];omega) HJL.out
   have HJ':Hid (Calls Tryz.prog 168 #[.slice (some ⟨w1.heap.size,0,none⟩) n n, .string ⟨#[47]⟩] wr fun e w'=>e = .returned (.string R)∧Below wr.heap.size wr w'):=hide (by rw [JE.out];exact HJ)
   clear HJ hkn hlt
   go_wp2_with fail
   (with_reducible refine HJ'.out.mono ?_);rintro e w5 ⟨rfl,hb5⟩
   go_wp2_with fail
   go_ret
   exact ⟨rfl,HB.out.trans (hb5.mono HB.out.size)⟩
end Go.Proofs.YtfbgppkdnfljhaaGreatDoor