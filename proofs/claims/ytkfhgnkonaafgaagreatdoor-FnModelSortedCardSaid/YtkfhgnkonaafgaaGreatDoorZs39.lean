/-
  The reference reads a model's text. Condition: it is one that is read.
-/
import Derived.Test.YtkfhgnkonaafgaaGreatDoorZs36
import Derived.Test.YtkfhgnkonaafgaaGreatDoorZs07
set_option maxHeartbeats 6400000
set_option maxRecDepth 100000
namespace Go.Proofs.YtkfhgnkonaafgaaGreatDoor
open Go.RowKit
theorem ne_words {q j:Nat} (hq:q=1∨q=2∨q=3) (hj:1≤j) (hj4:j < 4):∃ y,wordsR[j]? = some y∧((wordR q).toList==y.toList)=decide (q=j):=by
 have:j=1∨j=2∨j=3:=by omega
 rcases this with rfl | rfl | rfl <;> rcases hq with rfl | rfl | rfl <;> exact ⟨_,rfl,by decide +kernel⟩
def RetPM (w:World) (m:List Ru) (e:Ending) (w':World):Prop:=∃ v,e = .returned (.tuple #[v, .bool true])∧OwnM w' w.heap.size v m∧Below w.heap.size w w'
theorem sParseModel_ok (s:ByteArray) (m:List Ru) (hg:GoodM s m) (w:World):Calls Tryz.prog 135 #[.string s] w (RetPM w m):=by
 obtain ⟨hsz,hlen,hpart,hok,htx,hwt⟩:=hg
 have hml:1≤m.length∧m.length≤5∧∀ r∈m,ruleOk r=true:=by
  unfold modelOk at hok
  simp only [Bool.and_eq_true,decide_eq_true_eq,List.all_eq_true] at hok
  exact ⟨hok.1,hok.2.1,hok.2.2⟩
 obtain ⟨hm1,hm5,hrk⟩:=hml
 have HC1:Hid (∀ W,Calls Tryz.prog 175 #[.string s, .int .u8 47] W (RetOwn StrE 9 W (cutL s 47))):=hide (fun W=>l17Cut_exact s 47 W hsz)
 have HW:=hide l7Words_any
 have HV:=hide (fun (a:Option Addr) (n c:Nat) (W:World) (h:RepM 0 W ⟨a,n,c⟩ m)=>sModelValid_any a n c m W h (by omega))
 rw [hok] at HV
 have HT:=hide (fun (a:Option Addr) (n c:Nat) (W:World) (h:RepM 0 W ⟨a,n,c⟩ m)=>l7Model_any a n c m W h hrk hm5)
 rw [htx] at HT
 have hss:(s.toList==s.toList)=true:=by simp
 have HP:=hide hpart
 have HL:Hid (m.length=(cutL s 47).length):=hide hlen.symm
 clear hpart hok htx hwt hrk hlen
 generalize cutL s 47=ps at *
 generalize hn:m.length=n at *
 have HN:=hide hn
 have HPN:Hid (ps.length=n):=hide HL.out.symm
 clear hn HL
 have hb0:=(Below.refl w.heap.size w).alloc (Nat.le_refl _) (.cells #[] 77)
 have HO0:=hide (OwnF.empty (E:=UsE) (R:=Rany) (φ:=PhiM) 77 w (Nat.le_refl w.heap.size))
 have hz0:(w.alloc (.cells #[] 77)).heap.size=w.heap.size+1:=by simp
 have HB0:=hide hb0
 clear hb0
 go_enter Tryz.func135,Tryz.ntmps135
 go_wp2_with fail
 (with_reducible refine (HC1.out _).mono ?_);rintro e w1 ⟨v5,rfl,ho5,hb1⟩
 have HB1:=hide (HB0.out.trans (hb1.mono HB0.out.size))
 have HO1:=hide (HO0.out.below hb1)
 rcases ho5.shape with ⟨-,h0⟩ | ⟨g5,c5,rfl,hg5,hgl5,hc5,hc5'⟩
 ·exfalso;have:=HPN.out;rw [h0] at this;simp at this;omega
 rw [HPN.out] at ho5 hc5 ⊢
 have HPS:=hide (LocR.own (T:=77) (by decide) ho5)
 clear ho5 hb1 HO0 HB0
 go_wp2_with fail
 go_loopw [4,6] (fun v i wr => ∃ (k:Nat) (a:Option Addr) (nn cc:Nat),i = .int .i64 k∧k≤n∧v = .slice a nn cc∧OwnM wr w.heap.size (.slice a nn cc) (m.take k)∧Below w.heap.size w wr∧LocR 77 w.heap.size w1.heap.size wr (fun W=>Own StrE 9 W (w.alloc (.cells #[] 77)).heap.size (.slice (some ⟨g5,0,none⟩) n c5) ps)) (fun _ i _=>n - (intOf i).toNat)
 case atStart=>exact ⟨0,_,0,0,rfl,Nat.zero_le _,rfl,HO1.out,HB1.out,HPS.out.wide (by rw [hz0];omega) (Nat.le_refl _) (Nat.le_refl _)⟩
 case round =>
  obtain ⟨k,a4,n4,c4,rfl,hk,rfl,ho,hb,hps⟩:=hrel
  have hki:(k:Int)≤5:=by omega
  by_cases hlt:k < n
  ·have hlt':=nat_of_lt hlt
   obtain ⟨x,hx⟩:=get_of_lt (xs:=ps) (k:=k) (by rw [HPN.out];exact hlt)
   obtain ⟨r,hr⟩:=get_of_lt (xs:=m) (k:=k) (by rw [HN.out];exact hlt)
   obtain ⟨hxs,t,hct,hpt,hvt,htt,ht0,ht3,hkd⟩:=HP.out k x r hx hr
   have cx:=hps.now.cell (j:=0) (u:=.string x) hx rfl
   simp only [StrE,Nat.mul_one,Nat.add_zero] at cx
   have cl:=lt_of_cell cx
   have HC2:Hid (∀ W,Calls Tryz.prog 175 #[.string x, .int .u8 32] W (RetOwn StrE 9 W (cutL x 32))):=hide (fun W=>l17Cut_exact x 32 W hxs)
   rw [hct] at HC2
   have HPE:=hide (fun W=>sParseRelExpr_ok t ht3 60 r.e hpt hvt htt ht0 W)
   obtain ⟨q,hq,hq3⟩:∃ q:Nat,r.kind=(q:Int)∧(q=1∨q=2∨q=3):=⟨r.kind.toNat,by omega,by omega⟩
   rw [hq] at HC2
   have HQ:=hide hq
   have HQW:=hide (fun j h1 h2=>ne_words (j:=j) hq3 h1 h2)
   have HPS2:=hide hps
   have HO:=hide ho
   have HB:=hide hb
   have HR:=hide hr
   clear hct hpt hvt htt hq hps ho hb hx hr hxs hkd
   generalize wordR q=wd at *
   go_wp2_with fail
   (with_reducible refine (HC2.out _).mono ?_);rintro e w2 ⟨v7,rfl,ho7,hb2⟩
   rcases ho7.shape with ⟨-,h0⟩ | ⟨g7,c7,rfl,hg7,hgl7,hc7,hc7'⟩
   ·simp at h0
   simp only [List.length_cons,List.length_nil,Nat.zero_add,Nat.reduceAdd] at hc7 ho7 ⊢
   have HB2:=hide hb2
   have HO7:=hide ho7
   have HBA:=hide (belowAlloc w2 (.cells #[.int .i64 0, .int .i64 0, .string ⟨#[]⟩, .slice none 0 0] 77))
   have HX:=hide (BoxU.new w2 0 0 ⟨#[]⟩ ⟨none,0,0⟩ 77)
   clear ho7 hb2 cx cl
   obtain ⟨kq,HKQ⟩:∃ kq:Nat→Int,Hid (∀ j,kq j=if q < j then (q:Int) else 0):=⟨_,hide fun _=>rfl⟩
   go_wp2_with fail
   go_loopw [9] (fun i wi => ∃ j:Nat,i = .int .i64 j∧1≤j∧j≤4∧BoxU wi w2.heap.size (kq j) 0 ⟨#[]⟩ ⟨none,0,0⟩∧Below w2.heap.size w2 wi) (fun i _=>4 - (intOf i).toNat)
   case atStart=>exact ⟨1,rfl,Nat.le_refl _,by omega,by rw [HKQ.out,if_neg (by omega)];exact HX.out,HBA.out⟩
   case round =>
    obtain ⟨j,rfl,hj1,hj4,hbx,hbi⟩:=hrel
    have HBI:=hide hbi
    have HBX:=hide hbx
    clear hbi hbx
    by_cases hlj:j < 4
    ·have hlj':(j:Int) < 4:=by omega
     go_wp2_with fail
     (with_reducible refine (HW.out _).mono ?_);rintro e w4 ⟨rfl,ho4,hb4⟩
     have HB4:=hide (HBI.out.trans (hb4.mono HBI.out.size))
     have HBX4:=hide (HBX.out.below hb4)
     have HO74:=hide (HO7.out.below HB4.out)
     clear ho4 hb4
     obtain ⟨y,hy,hyq⟩:=HQW.out j hj1 hlj
     have HY:=hide hy
     clear hy
     go_wp2_with fail
     by_cases hqj:q=j
     ·have hyq':(wd.toList==y.toList)=true:=by rw [hyq];exact decide_eq_true hqj
      -- reg one
      refine wp_region_inv3 (n:=7) (by kernel_rfl) rfl (by kernel_rfl) (by kernel_rfl) (fun A ls a' W => ∃ (G:Nat) (x37 x38 x39 x40 x41 x42 x43:Value),a'=putAll A [(37,x37),(38,x38),(39,x39),(40,x40),(41,x41),(42,x42),(43,x43)]∧Vd ls 0 [] x37 (.slice (some ⟨g7,0,none⟩) 2 c7)∧Vd ls 1 [] x38 (.pointer (some ⟨g7,0,none⟩))∧Vd ls 2 [] x39 (.string wd)∧Vd ls 3 [] x40 (.slice (some ⟨G,0,none⟩) 4 4)∧Vd ls 4 [] x41 (.int .i64 j)∧Vd ls 5 [3] x42 (.pointer (some ⟨G,j,none⟩))∧Vd ls 6 [3] x43 (.string y)∧JW w4 (fl ls 3) G W) ?r0 ?rs ?re
      case r0 =>
       exact ⟨0,u37,u38,u39,u40,u41,u42,u43,by simp only [putAll,Act.put,List.setIfInBounds_toArray,List.set_cons_succ,List.set_cons_zero],Vd.start,Vd.start,Vd.start,Vd.start,Vd.start,Vd.start,Vd.start,by simp only [fl_start];exact ⟨(Below.refl _ _).drew,fun h=>(nomatch h)⟩⟩
      case rs =>
       rintro ls a' W hs hnl ⟨G,x37,x38,x39,x40,x41,x42,x43,ha,cv0,cv1,cv2,cv3,cv4,cv5,cv6,hJ⟩ k o hkn mc K hK
       simp only [putAll,Act.put,List.setIfInBounds_toArray,List.set_cons_succ,List.set_cons_zero] at ha
       subst ha
       have hkc:k=0∨k=1∨k=2∨k=3∨k=4∨k=5∨k=6:=by omega
       have hop:=mc.op
       have haf:=mc.after
       rcases hkc with rfl | rfl | rfl | rfl | rfl | rfl | rfl
       ·simp at hop;subst hop;simp [Region.binds] at haf
        go_simp
        exact hK _ _ ⟨G,_,_,_,_,_,_,_,by simp only [putAll,Act.put,List.setIfInBounds_toArray,List.set_cons_succ,List.set_cons_zero],Vd.same (by simp),cv1.set (by decide),cv2.set (by decide),cv3.set (by decide),cv4.set (by decide),cv5.set (by decide),cv6.set (by decide),by rw [fl_set (show 0≠3 by decide)];exact hJ⟩
       ·simp at hop;subst hop;simp [Region.binds] at haf
        obtain rfl:=(cv0.get (by simp [haf])).symm
        go_simp
        exact hK _ _ ⟨G,_,_,_,_,_,_,_,by simp only [putAll,Act.put,List.setIfInBounds_toArray,List.set_cons_succ,List.set_cons_zero],cv0.set (by decide),Vd.same (by simp),cv2.set (by decide),cv3.set (by decide),cv4.set (by decide),cv5.set (by decide),cv6.set (by decide),by rw [fl_set (show 1≠3 by decide)];exact hJ⟩
       ·simp at hop;subst hop;simp [Region.binds] at haf
        obtain rfl:=(cv1.get (by simp [haf])).symm
        have cw:=(HO74.out.below hJ.out).cell (i:=0) (j:=0) (u:=.string wd) rfl rfl
        simp only [StrE,Nat.zero_mul,Nat.add_zero] at cw
        have cwl:=lt_of_cell cw
        go_simp
        exact hK _ _ ⟨G,_,_,_,_,_,_,_,by simp only [putAll,Act.put,List.setIfInBounds_toArray,List.set_cons_succ,List.set_cons_zero],cv0.set (by decide),cv1.set (by decide),Vd.same (by simp),cv3.set (by decide),cv4.set (by decide),cv5.set (by decide),cv6.set (by decide),by rw [fl_set (show 2≠3 by decide)];exact hJ⟩
       ·simp at hop;subst hop;simp [Region.binds] at haf
        have f3:=fl_no mc.new;rw [f3] at hJ
        go_simp
        have hsz:=hJ.out.size
        go_at_call 179
        (with_reducible refine (HW.out W).mono ?_);rintro e u ⟨rfl,ho,hb⟩
        exact hK _ _ ⟨W.heap.size,_,_,_,_,_,_,_,by simp only [putAll,Act.put,List.setIfInBounds_toArray,List.set_cons_succ,List.set_cons_zero],cv0.set (by decide),cv1.set (by decide),cv2.set (by decide),Vd.same (by simp),cv4.set (by decide),cv5.void (by decide) (by decide) mc.new,cv6.void (by decide) (by decide) mc.new,by rw [fl_got hs (by decide)];exact ⟨(hJ.below hb).out,fun _=>ho.mono hsz⟩⟩
       ·simp at hop;subst hop;simp [Region.binds] at haf
        go_simp
        exact hK _ _ ⟨G,_,_,_,_,_,_,_,by simp only [putAll,Act.put,List.setIfInBounds_toArray,List.set_cons_succ,List.set_cons_zero],cv0.set (by decide),cv1.set (by decide),cv2.set (by decide),cv3.set (by decide),Vd.same (by simp),cv5.set (by decide),cv6.set (by decide),by rw [fl_set (show 4≠3 by decide)];exact hJ⟩
       ·simp at hop;subst hop;simp [Region.binds] at haf
        obtain rfl:=(cv3.get (by simp [haf])).symm
        obtain rfl:=(cv4.get (by simp [haf])).symm
        go_simp
        exact hK _ _ ⟨G,_,_,_,_,_,_,_,by simp only [putAll,Act.put,List.setIfInBounds_toArray,List.set_cons_succ,List.set_cons_zero],cv0.set (by decide),cv1.set (by decide),cv2.set (by decide),cv3.set (by decide),cv4.set (by decide),Vd.same (by simp [haf]),cv6.set (by decide),by rw [fl_set (show 5≠3 by decide)];exact hJ⟩
       ·simp at hop;subst hop;simp [Region.binds] at haf
        have q5:=(cv5 (by simp [haf])).1;simp at q5
        obtain rfl:=(cv5.get (by simp [haf])).symm
        obtain ⟨wb,wo,he,cwl,cw⟩:=(hJ.f (fl_yes q5)).rep.str HY.out
        simp only [Option.some.injEq,Addr.mk.injEq,and_true] at he
        obtain ⟨rfl,rfl⟩:=he
        simp only [Nat.zero_add] at cw
        go_simp
        exact hK _ _ ⟨G,_,_,_,_,_,_,_,by simp only [putAll,Act.put,List.setIfInBounds_toArray,List.set_cons_succ,List.set_cons_zero],cv0.set (by decide),cv1.set (by decide),cv2.set (by decide),cv3.set (by decide),cv4.set (by decide),cv5.set (by decide),Vd.same (by simp [q5]),by rw [fl_set (show 6≠3 by decide)];exact hJ⟩
      case re =>
       rintro ls a' W hall ⟨G,x37,x38,x39,x40,x41,x42,x43,ha,cv0,cv1,cv2,cv3,cv4,cv5,cv6,hJ⟩ o hop
       simp only [putAll,Act.put,List.setIfInBounds_toArray,List.set_cons_succ,List.set_cons_zero] at ha
       subst ha
       simp at hop;subst hop
       obtain rfl:=(cv0.get (hall 0 (by decide))).symm
       obtain rfl:=(cv1.get (hall 1 (by decide))).symm
       obtain rfl:=(cv2.get (hall 2 (by decide))).symm
       obtain rfl:=(cv3.get (hall 3 (by decide))).symm
       obtain rfl:=(cv4.get (hall 4 (by decide))).symm
       obtain rfl:=(cv5.get (hall 5 (by decide))).symm
       obtain rfl:=(cv6.get (hall 6 (by decide))).symm
       rw [fl_yes (hall 3 (by decide))] at hJ
       go_simp
       have HB5:=hide (HB4.out.trans (hJ.out.mono HB4.out.size))
       obtain ⟨bl,b0,b1,b2,b3,bf⟩:=HBX4.out.below hJ.out
       clear hJ
       go_wp2_with fail
       go_roundw
       case measure=>simp [intOf];omega
       case rel=>exact ⟨j+1,by go_num,by omega,by omega,by rw [show kq (j+1)=(j:Int) by rw [HKQ.out,if_pos (by omega),hqj]];exact (BoxU.mk (s:=⟨none,0,0⟩) bl b0 b1 b2 b3 bf).kind _,HB5.out.setCell (Nat.le_refl _) _⟩
      -- end one
     ·have hyq':(wd.toList==y.toList)=false:=by rw [hyq];exact decide_eq_false hqj
      -- reg two
      refine wp_region_inv3 (n:=7) (by kernel_rfl) rfl (by kernel_rfl) (by kernel_rfl) (fun A ls a' W => ∃ (G:Nat) (x37 x38 x39 x40 x41 x42 x43:Value),a'=putAll A [(37,x37),(38,x38),(39,x39),(40,x40),(41,x41),(42,x42),(43,x43)]∧Vd ls 0 [] x37 (.slice (some ⟨g7,0,none⟩) 2 c7)∧Vd ls 1 [] x38 (.pointer (some ⟨g7,0,none⟩))∧Vd ls 2 [] x39 (.string wd)∧Vd ls 3 [] x40 (.slice (some ⟨G,0,none⟩) 4 4)∧Vd ls 4 [] x41 (.int .i64 j)∧Vd ls 5 [3] x42 (.pointer (some ⟨G,j,none⟩))∧Vd ls 6 [3] x43 (.string y)∧JW w4 (fl ls 3) G W) ?r0 ?rs ?re
      case r0 =>
       exact ⟨0,u37,u38,u39,u40,u41,u42,u43,by simp only [putAll,Act.put,List.setIfInBounds_toArray,List.set_cons_succ,List.set_cons_zero],Vd.start,Vd.start,Vd.start,Vd.start,Vd.start,Vd.start,Vd.start,by simp only [fl_start];exact ⟨(Below.refl _ _).drew,fun h=>(nomatch h)⟩⟩
      case rs =>
       rintro ls a' W hs hnl ⟨G,x37,x38,x39,x40,x41,x42,x43,ha,cv0,cv1,cv2,cv3,cv4,cv5,cv6,hJ⟩ k o hkn mc K hK
       simp only [putAll,Act.put,List.setIfInBounds_toArray,List.set_cons_succ,List.set_cons_zero] at ha
       subst ha
       have hkc:k=0∨k=1∨k=2∨k=3∨k=4∨k=5∨k=6:=by omega
       have hop:=mc.op
       have haf:=mc.after
       rcases hkc with rfl | rfl | rfl | rfl | rfl | rfl | rfl
       ·simp at hop;subst hop;simp [Region.binds] at haf
        go_simp
        exact hK _ _ ⟨G,_,_,_,_,_,_,_,by simp only [putAll,Act.put,List.setIfInBounds_toArray,List.set_cons_succ,List.set_cons_zero],Vd.same (by simp),cv1.set (by decide),cv2.set (by decide),cv3.set (by decide),cv4.set (by decide),cv5.set (by decide),cv6.set (by decide),by rw [fl_set (show 0≠3 by decide)];exact hJ⟩
       ·simp at hop;subst hop;simp [Region.binds] at haf
        obtain rfl:=(cv0.get (by simp [haf])).symm
        go_simp
        exact hK _ _ ⟨G,_,_,_,_,_,_,_,by simp only [putAll,Act.put,List.setIfInBounds_toArray,List.set_cons_succ,List.set_cons_zero],cv0.set (by decide),Vd.same (by simp),cv2.set (by decide),cv3.set (by decide),cv4.set (by decide),cv5.set (by decide),cv6.set (by decide),by rw [fl_set (show 1≠3 by decide)];exact hJ⟩
       ·simp at hop;subst hop;simp [Region.binds] at haf
        obtain rfl:=(cv1.get (by simp [haf])).symm
        have cw:=(HO74.out.below hJ.out).cell (i:=0) (j:=0) (u:=.string wd) rfl rfl
        simp only [StrE,Nat.zero_mul,Nat.add_zero] at cw
        have cwl:=lt_of_cell cw
        go_simp
        exact hK _ _ ⟨G,_,_,_,_,_,_,_,by simp only [putAll,Act.put,List.setIfInBounds_toArray,List.set_cons_succ,List.set_cons_zero],cv0.set (by decide),cv1.set (by decide),Vd.same (by simp),cv3.set (by decide),cv4.set (by decide),cv5.set (by decide),cv6.set (by decide),by rw [fl_set (show 2≠3 by decide)];exact hJ⟩
       ·simp at hop;subst hop;simp [Region.binds] at haf
        have f3:=fl_no mc.new;rw [f3] at hJ
        go_simp
        have hsz:=hJ.out.size
        go_at_call 179
        (with_reducible refine (HW.out W).mono ?_);rintro e u ⟨rfl,ho,hb⟩
        exact hK _ _ ⟨W.heap.size,_,_,_,_,_,_,_,by simp only [putAll,Act.put,List.setIfInBounds_toArray,List.set_cons_succ,List.set_cons_zero],cv0.set (by decide),cv1.set (by decide),cv2.set (by decide),Vd.same (by simp),cv4.set (by decide),cv5.void (by decide) (by decide) mc.new,cv6.void (by decide) (by decide) mc.new,by rw [fl_got hs (by decide)];exact ⟨(hJ.below hb).out,fun _=>ho.mono hsz⟩⟩
       ·simp at hop;subst hop;simp [Region.binds] at haf
        go_simp
        exact hK _ _ ⟨G,_,_,_,_,_,_,_,by simp only [putAll,Act.put,List.setIfInBounds_toArray,List.set_cons_succ,List.set_cons_zero],cv0.set (by decide),cv1.set (by decide),cv2.set (by decide),cv3.set (by decide),Vd.same (by simp),cv5.set (by decide),cv6.set (by decide),by rw [fl_set (show 4≠3 by decide)];exact hJ⟩
       ·simp at hop;subst hop;simp [Region.binds] at haf
        obtain rfl:=(cv3.get (by simp [haf])).symm
        obtain rfl:=(cv4.get (by simp [haf])).symm
        go_simp
        exact hK _ _ ⟨G,_,_,_,_,_,_,_,by simp only [putAll,Act.put,List.setIfInBounds_toArray,List.set_cons_succ,List.set_cons_zero],cv0.set (by decide),cv1.set (by decide),cv2.set (by decide),cv3.set (by decide),cv4.set (by decide),Vd.same (by simp [haf]),cv6.set (by decide),by rw [fl_set (show 5≠3 by decide)];exact hJ⟩
       ·simp at hop;subst hop;simp [Region.binds] at haf
        have q5:=(cv5 (by simp [haf])).1;simp at q5
        obtain rfl:=(cv5.get (by simp [haf])).symm
        obtain ⟨wb,wo,he,cwl,cw⟩:=(hJ.f (fl_yes q5)).rep.str HY.out
        simp only [Option.some.injEq,Addr.mk.injEq,and_true] at he
        obtain ⟨rfl,rfl⟩:=he
        simp only [Nat.zero_add] at cw
        go_simp
        exact hK _ _ ⟨G,_,_,_,_,_,_,_,by simp only [putAll,Act.put,List.setIfInBounds_toArray,List.set_cons_succ,List.set_cons_zero],cv0.set (by decide),cv1.set (by decide),cv2.set (by decide),cv3.set (by decide),cv4.set (by decide),cv5.set (by decide),Vd.same (by simp [q5]),by rw [fl_set (show 6≠3 by decide)];exact hJ⟩
      case re =>
       rintro ls a' W hall ⟨G,x37,x38,x39,x40,x41,x42,x43,ha,cv0,cv1,cv2,cv3,cv4,cv5,cv6,hJ⟩ o hop
       simp only [putAll,Act.put,List.setIfInBounds_toArray,List.set_cons_succ,List.set_cons_zero] at ha
       subst ha
       simp at hop;subst hop
       obtain rfl:=(cv0.get (hall 0 (by decide))).symm
       obtain rfl:=(cv1.get (hall 1 (by decide))).symm
       obtain rfl:=(cv2.get (hall 2 (by decide))).symm
       obtain rfl:=(cv3.get (hall 3 (by decide))).symm
       obtain rfl:=(cv4.get (hall 4 (by decide))).symm
       obtain rfl:=(cv5.get (hall 5 (by decide))).symm
       obtain rfl:=(cv6.get (hall 6 (by decide))).symm
       rw [fl_yes (hall 3 (by decide))] at hJ
       go_simp
       have HB5:=hide (HB4.out.trans (hJ.out.mono HB4.out.size))
       obtain ⟨bl,b0,b1,b2,b3,bf⟩:=HBX4.out.below hJ.out
       clear hJ
       go_wp2_with fail
       go_roundw
       case measure=>simp [intOf];omega
       case rel=>exact ⟨j+1,by go_num,by omega,by omega,by rw [show kq (j+1)=kq j by rw [HKQ.out,HKQ.out];by_cases hh:q < j;rw [if_pos hh,if_pos (by omega)];rw [if_neg hh,if_neg (by omega)]];exact BoxU.mk (s:=⟨none,0,0⟩) bl b0 b1 b2 b3 bf,HB5.out⟩
      -- end two
    ·obtain rfl:j=4:=by omega
     go_wp2_with fail
     (with_reducible refine (HW.out _).mono ?_);rintro e w4 ⟨rfl,ho4,hb4⟩
     have HB4:=hide (HBI.out.trans (hb4.mono HBI.out.size))
     have HBX4:=HBX.out.below hb4
     have hk4:kq 4=q:=by rw [HKQ.out,if_pos (by omega)]
     rw [hk4] at HBX4
     obtain ⟨bl,b0,b1,b2,b3,bf⟩:=HBX4
     have HO74:=HO7.out.below HB4.out
     have d1:=HO74.cell (i:=1) (j:=0) (u:=.string t) rfl rfl
     simp only [StrE,Nat.mul_one,Nat.add_zero] at d1
     have dl:=lt_of_cell d1
     have hq0:((q:Int)==0)=false:=by simp;omega
     clear ho4 hb4
     go_wp2_with fail
     (with_reducible refine (HPE.out _).mono ?_);rintro e w5 ⟨s5,rfl,own,hb5⟩
     have HA5:=belowAlloc w5 (.cells #[.int .i64 r.e.op, .string r.e.nm, .slice s5.a s5.n s5.cap] 75)
     have hB24:w2.heap.size < w4.heap.size:=bl
     have hB45:=hb5.size
     have hB2:=HB2.out.size
     have HB6:=hide ((HB2.out.trans (HB4.out.mono hB2)).trans ((hb5.trans (HA5.mono hB45)).mono (by omega)))
     obtain ⟨bl,b0,b1,b2,b3,bf⟩:=(BoxU.mk (s:=⟨none,0,0⟩) bl b0 b1 b2 b3 bf).below (hb5.trans (HA5.mono hB45))
     obtain ⟨el,e0,e1,e2, -⟩:=BoxR.new w5 r.e.op r.e.nm s5 75
     have hnm:¬ Made' w4 w5 w2.heap.size:=fun h=>by have:=h.1;omega
     have OWN:=hide ((((own.bel HA5).set hnm 1 (.int .i64 r.e.op)).set hnm 2 (.string r.e.nm)).set hnm 3 (.slice s5.a s5.n s5.cap))
     have HB7:=hide (((HB6.out.setCell (p:=⟨w2.heap.size,1,none⟩) hB2 (.int .i64 r.e.op)).setCell (p:=⟨w2.heap.size,2,none⟩) hB2 (.string r.e.nm)).setCell (p:=⟨w2.heap.size,3,none⟩) hB2 (.slice s5.a s5.n s5.cap))
     obtain ⟨us,ds,hO⟩:=HO.out
     have HO7:=hide (hO.below HB7.out)
     have HO2:=hide ((hO.below HB7.out).below (belowAlloc _ (.cells #[.int .i64 q, .int .i64 r.e.op, .string r.e.nm, .slice s5.a s5.n s5.cap] 77)))
     have hlu:us.length≤68719476736:=by have:=hO.lu;rw [List.length_take] at this;have:=HN.out;omega
     clear hO own hb5 HA5
     go_wp2_with (at_builtin;refine wpList_app UsE 77 Tryz.infoRule rfl Tryz.underlying34 w.heap.size _ us ⟨q,r.e.op,r.e.nm,s5⟩ HO2.out.own (by decide) hlu (by simp;have:=HB.out.size;omega) rfl _ _ rfl rfl (w5.heap.size+1) 0 1 rfl (news_allocV (by simp)) ?_;intro v' w8 ho8 hgr8)
     have hq:=HQ.out
     rw [← hq] at ho8
     have hb8:=below_app (HB.out.trans (HB7.out.mono HB.out.size)) HO7.out.own hgr8
     have hl8:=((HPS2.out.below HB7.out).below (belowAlloc _ _)).grown HO2.out.own hgr8
     have hn8:=OwnR.locM (lo:=w4.heap.size) (hi:=w5.heap.size) (r:=r) (OWN.out.bel (belowAlloc _ (.cells #[.int .i64 q, .int .i64 r.e.op, .string r.e.nm, .slice s5.a s5.n s5.cap] 77))) (by simp;omega)
     have hm8:=OwnM.app HO2.out hn8 (by have:=HB.out.size;omega) ho8 hgr8
     rw [show m.take k++[r]=m.take (k+1) by rw [List.take_add_one,HR.out];rfl] at hm8
     obtain ⟨s8,rfl, -⟩:=hm8.toSlc
     go_roundw
     case rel=>exact ⟨k+1,s8.a,s8.n,s8.cap,by go_num,by omega,rfl,hm8,hb8,hl8⟩
     case measure=>simp [intOf];omega
  ·obtain rfl:k=n:=by omega
   rw [← HN.out,List.take_length] at ho
   have hrp:=ho.rep
   obtain ⟨hl4,hl5,hl6,hl7⟩:=hrp.open
   simp only [HN.out] at hl4 hl5 hl6 hl7
   subst hl4
   have HVV:=hide (HV.out a4 n4 c4 wr (hrp.low (Nat.zero_le _)))
   have HO:=hide ho
   have HB:=hide hb
   clear hrp ho hb hps
   go_wp2_with fail
   (with_reducible refine HVV.out.mono ?_);rintro e w2 ⟨rfl,hb2⟩
   have HTT:=hide (HT.out a4 n4 c4 w2 ((OwnM.rep (OwnF.below HO.out hb2)).low (Nat.zero_le _)))
   have HB2:=hide (HB.out.trans (hb2.mono HB.out.size))
   have HO2:=hide (HO.out.below hb2)
   clear hb2
   go_wp2_with fail
   (with_reducible refine HTT.out.mono ?_);rintro e w3 ⟨rfl,hb3⟩
   have HB3:=hide (HB2.out.trans (hb3.mono HB2.out.size))
   have HO3:=hide (HO2.out.below hb3)
   clear hb3
   go_wp2_with fail
   refine bodyPost_ret (v:=.tuple #[.slice a4 n4 c4, .bool true]) (by simp [results,Tryz.results135,go_sem, *]) rfl ⟨_,rfl,HO3.out,HB3.out⟩
end Go.Proofs.YtkfhgnkonaafgaaGreatDoor