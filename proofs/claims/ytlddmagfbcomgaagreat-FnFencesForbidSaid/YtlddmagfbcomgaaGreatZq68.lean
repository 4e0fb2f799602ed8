/-
  FnFencesForbid: for every input the law returns true and the input reads afterwards as it read before. No condition.
-/
import Derived.Test.YtlddmagfbcomgaaGreatZq47
import Derived.Test.YtlddmagfbcomgaaGreatZq05
import Derived.Test.YtlddmagfbcomgaaGreatZq06
import Derived.Test.YtlddmagfbcomgaaGreatZq45
import Derived.Test.YtlddmagfbcomgaaGreatZq30
import Derived.Test.YtlddmagfbcomgaaGreatZq46
import Derived.Test.YtlddmagfbcomgaaGreatZq23
import Derived.Test.YtlddmagfbcomgaaGreatZq04
set_option maxHeartbeats 6400000
set_option maxRecDepth 100000
namespace Go.Proofs.YtlddmagfbcomgaaGreat
open Go.RowKit
theorem wmLists_any (v v':Value) (p:List (List Int)) (w:World) (h:Rep2 IntE w v p) (h':Rep2 IntE w v' p) :
 Calls Tryz.prog 16 #[v,v'] w fun e w'=>e = .returned (.bool true)∧Below w.heap.size w w':=by
 have HX:=hide h;have HY:=hide h'
 obtain ⟨a,c,rfl, -,hc1, -, -⟩:=h.open
 obtain ⟨a',c',rfl, -, -, -, -⟩:=h'.open
 clear h h'
 generalize hn:p.length=n at *
 have HN:=hide hn
 clear hn
 go_enter Tryz.func16,Tryz.ntmps16
 go_wp2_with fail
 go_loopw [5] (fun i wr => ∃ k:Nat,k≤n∧i = .int .i64 k∧Below w.heap.size w wr) (fun i _=>n - (intOf i).toNat)
 case atStart=>exact ⟨0,Nat.zero_le _,rfl,Below.refl _ _⟩
 case round =>
  obtain ⟨k,hk,rfl,hb⟩:=hrel
  have HB:=hide hb
  by_cases hlt:k < n
  ·have hlt':=nat_of_lt hlt
   obtain ⟨r,hr⟩:=get_of_lt (xs:=p) (k:=k) (by rw [HN.out];exact hlt)
   obtain ⟨b1,o1,ra1,rc1,rfl,hl1,q1,hr1⟩:=Rep2.row (HX.out.below hb) hr
   obtain ⟨b2,o2,ra2,rc2,rfl,hl2,q2,hr2⟩:=Rep2.row (HY.out.below hb) hr
   have HW:=hide (fun X:BW wr=>wmInts_any (.slice ra1 r.length rc1) (.slice ra2 r.length rc2) r X.val (hr1.below X.prop) (hr2.below X.prop))
   clear hr hb hr1 hr2
   generalize r.length=rn at *
   go_wp2_with fail
   refine wp_region_bw (by kernel_rfl) (by kernel_rfl) ?_
   repeat (go_big_quiet_step ((go_at_call 29;(with_reducible exact Calls.bw (HW.out _)))))
   refine wpQuiet_nil ?_
   intro w1 hw1
   have B1:=hide (HB.out.trans (hw1.mono HB.out.size))
   clear hw1 q1 q2
   go_wp2_with fail
   go_roundw
   case rel=>exact ⟨k+1,by omega,by go_num,B1.out⟩
   case measure=>simp [intOf];omega
  ·obtain rfl:k=n:=by omega
   go_wp2_with fail
   go_ret
   exact ⟨rfl,HB.out⟩
end Go.Proofs.YtlddmagfbcomgaaGreat
namespace Go.Proofs.YtlddmagfbcomgaaGreat
open Go.RowKit
theorem putV_facts {P:List (List Ins)} {L:List Gp} (h:putOk P L=true):(putV P L).length=P.length∧(∀ split o,bufO split (putV P L) o→bufO split P o)∧∀ o,seqO (putV P L) o↔seqO P o:=by
 have h0:=h
 unfold putOk at h0
 simp only [Bool.and_eq_true] at h0
 have e:putV P L=putP (inL L) P:=by unfold putV;rw [if_pos h]
 rw [e]
 exact ⟨putP_length _ _,fun split o k=>put_within h0.1.1 o k,fun o=>put_seq h0.1.1 h0.2 o⟩
theorem lawFnFencesForbid (v:Value) (xs:List Int) (w:World) (h:Rep ByteE w v xs∧∀ x∈xs,0≤x∧x≤255) :
 Calls Tryz.prog 3 #[v] w fun e w'=>e = .returned (.bool true)∧Below w.heap.size w w':=by
 obtain ⟨hx,hb⟩:=h
 obtain ⟨a0,c0,rfl, -,hm, -,hx⟩:=hx.open
 have HD:=hide (DrawPutFences_any (.slice a0 xs.length c0) xs w hx hb)
 clear hx hb
 generalize xs.length=n at *
 by_cases hl:(n:Int) > 1048576
 ·go_enter Tryz.func3,Tryz.ntmps3
  go_wp2_with fail
  go_ret
  exact ⟨rfl,Below.refl _ _⟩
 ·have hl':decide ((n:Int) > 1048576)=false:=decide_eq_false hl
  go_enter Tryz.func3,Tryz.ntmps3
  go_wp2_with fail
  (with_reducible refine HD.out.mono ?_);rintro e w1 ⟨v1,P,l1,L,rfl,hP,hPl,hPr,hL,hLl,hb1⟩
  have hfl:=flatten_bound9 hPl hPr
  have hfq:=putV_flat P L
  obtain ⟨la,lc,rfl, -, -, -,hL⟩:=hL.open
  have HP:=hide hP;have HL:=hide hL;have HB1:=hide hb1
  have HI:=hide (PutFences_any v1 _ P L w1 hP hL (by omega))
  have HS:=hide (fun w' h h2=>sPutFences_any v1 (.slice la L.length lc) P L w' h h2 (by omega) (by omega))
  have HT:=hide (fun h=>putV_facts (P:=P) (L:=L) h)
  have HTP:=hide (fun w' h=>RunTso_any v1 P w' h (by omega) (sortedOutcomes_any _ _ (by decide)))
  have HTQ:=hide (fun q w' h=>RunTso_any q (putV P L) w' h (by omega) (sortedOutcomes_any _ _ (by decide)))
  have HPP:=hide (fun w' h=>RunPso_any v1 P w' h (by omega) (sortedOutcomes_any _ _ (by decide)))
  have HPQ:=hide (fun q w' h=>RunPso_any q (putV P L) w' h (by omega) (sortedOutcomes_any _ _ (by decide)))
  have HQP:=hide (fun w' h=>RunSeq_any v1 P w' h (by omega) (sortedOutcomes_any _ _ (by decide)))
  have HQQ:=hide (fun q w' h=>RunSeq_any q (putV P L) w' h (by omega) (sortedOutcomes_any _ _ (by decide)))
  clear hP hb1 HD hPr hfl hfq hL hPl
  generalize putV P L=Q at *
  generalize putOk P L=B at *
  generalize L.length=m at *
  go_wp2_with fail
  (with_reducible refine HI.out.mono ?_);rintro e w2 ⟨q,rfl,o2,hb2⟩
  have O2:=hide o2;have HB2:=hide (HB1.out.trans (hb2.mono HB1.out.size));have HP2:=hide (HP.out.below hb2);have HL2:=hide (HL.out.below hb2)
  clear o2 hb2 HI HP HB1 HL
  go_wp2_with fail
  (with_reducible refine (HS.out _ HP2.out HL2.out).mono ?_);rintro e w3 ⟨q',rfl,o3,hb3⟩
  have R3:=hide o3.rep;have HB3:=hide (HB2.out.trans (hb3.mono HB2.out.size));have HP3:=hide (HP2.out.below hb3);have R2:=hide (O2.out.below hb3).rep
  clear o3 hb3 HS HP2 HB2 O2 HL2
  have hBB:(B != B)=false:=by simp
  go_wp2_with fail
  (with_reducible refine (ProgramSame_any q q' Q Q _ R2.out R3.out).mono ?_);rintro e w4 ⟨rfl,hb4⟩
  rw [decide_eq_true (rfl:Q=Q)]
  have HB4:=hide (HB3.out.trans (hb4.mono HB3.out.size));have HP4:=hide (HP3.out.below hb4);have R4:=hide (R2.out.below hb4);have R4':=hide (R3.out.below hb4)
  clear hb4 HB3 HP3 R2 R3
  cases B
  ·clear HT
   go_wp2_with fail
   (with_reducible refine (ProgramSame_any q q' Q Q _ R4.out R4'.out).mono ?_);rintro e w5 ⟨rfl,hb5⟩
   rw [decide_eq_true (rfl:Q=Q)]
   go_wp2_with fail
   go_ret
   exact ⟨rfl,HB4.out.trans (hb5.mono HB4.out.size)⟩
  ·obtain ⟨hlen,hwi,hsq⟩:=HT.out rfl
   rw [hlen] at HTQ HPQ HQQ
   have HW:=hide hwi;have HSQ:=hide hsq
   clear HT hBB hlen hwi hsq
   generalize P.length * 3+3=k at *
   go_wp2_with fail
   (with_reducible refine (HTQ.out q _ R4.out).mono ?_);rintro e w5 ⟨va,la1,rfl,ha, -,hma,hb5⟩
   have A5:=hide ha;have MA:=hide hma;have HB5:=hide (HB4.out.trans (hb5.mono HB4.out.size));have HP5:=hide (HP4.out.below hb5);have R5:=hide (R4.out.below hb5)
   clear ha hma hb5 HB4 HP4 R4 R4' HTQ
   go_wp2_with fail
   (with_reducible refine (HTP.out _ HP5.out).mono ?_);rintro e w6 ⟨vb,lb1,rfl,hbb, -,hmb,hb6⟩
   have S1:=hide (subN_iff.2 fun o ho=>(hmb o).2 (HW.out false o ((MA.out o).1 ho)))
   have A6:=hide (A5.out.below hb6).rep;have A6':=hide hbb.rep;have HB6:=hide (HB5.out.trans (hb6.mono HB5.out.size));have HP6:=hide (HP5.out.below hb6);have R6:=hide (R5.out.below hb6)
   clear hbb hmb hb6 HB5 HP5 R5 HTP A5 MA
   go_wp2_with fail
   (with_reducible refine (wmWithin_any va vb la1 lb1 _ A6.out A6'.out).mono ?_);rintro e w7 ⟨rfl,hb7⟩
   rw [S1.out]
   have HB7:=hide (HB6.out.trans (hb7.mono HB6.out.size));have HP7:=hide (HP6.out.below hb7);have R7:=hide (R6.out.below hb7)
   clear hb7 HB6 HP6 R6 A6 A6' S1
   go_wp2_with fail
   (with_reducible refine (HPQ.out q _ R7.out).mono ?_);rintro e w8 ⟨vc,lc1,rfl,hc, -,hmc,hb8⟩
   have A8:=hide hc;have MC:=hide hmc;have HB8:=hide (HB7.out.trans (hb8.mono HB7.out.size));have HP8:=hide (HP7.out.below hb8);have R8:=hide (R7.out.below hb8)
   clear hc hmc hb8 HB7 HP7 R7 HPQ
   go_wp2_with fail
   (with_reducible refine (HPP.out _ HP8.out).mono ?_);rintro e w9 ⟨vd,ld1,rfl,hd, -,hmd,hb9⟩
   have S2:=hide (subN_iff.2 fun o ho=>(hmd o).2 (HW.out true o ((MC.out o).1 ho)))
   have A9:=hide (A8.out.below hb9).rep;have A9':=hide hd.rep;have HB9:=hide (HB8.out.trans (hb9.mono HB8.out.size));have HP9:=hide (HP8.out.below hb9);have R9:=hide (R8.out.below hb9)
   clear hd hmd hb9 HB8 HP8 R8 HPP A8 MC
   go_wp2_with fail
   (with_reducible refine (wmWithin_any vc vd lc1 ld1 _ A9.out A9'.out).mono ?_);rintro e w10 ⟨rfl,hb10⟩
   rw [S2.out]
   have HB10:=hide (HB9.out.trans (hb10.mono HB9.out.size));have HP10:=hide (HP9.out.below hb10);have R10:=hide (R9.out.below hb10)
   clear hb10 HB9 HP9 R9 A9 A9' S2
   go_wp2_with fail
   (with_reducible refine (HQQ.out q _ R10.out).mono ?_);rintro e w11 ⟨ve,le1,rfl,he,hke,hme,hb11⟩
   have A11:=hide he;have ME:=hide hme;have KE:=hide hke;have HB11:=hide (HB10.out.trans (hb11.mono HB10.out.size));have HP11:=hide (HP10.out.below hb11)
   clear he hme hke hb11 HB10 HP10 R10 HQQ
   go_wp2_with fail
   (with_reducible refine (HQP.out _ HP11.out).mono ?_);rintro e w12 ⟨vf,lf1,rfl,hf,hkf,hmf,hb12⟩
   obtain rfl:le1=lf1:=outs_unique KE.out hkf fun o=>(ME.out o).trans ((HSQ.out o).trans (hmf o).symm)
   have A12:=hide (A11.out.below hb12).rep;have A12':=hide hf.rep;have HB12:=hide (HB11.out.trans (hb12.mono HB11.out.size))
   clear hf hkf hmf hb12 HB11 HP11 HQP A11 ME KE
   go_wp2_with fail
   (with_reducible refine (wmLists_any ve vf le1 _ A12.out A12'.out).mono ?_);rintro e w13 ⟨rfl,hb13⟩
   go_wp2_with fail
   go_ret
   exact ⟨rfl,HB12.out.trans (hb13.mono HB12.out.size)⟩
end Go.Proofs.YtlddmagfbcomgaaGreat
namespace Go.Proofs.YtlddmagfbcomgaaGreat
open Go.RowKit Go.ChangeShapes Go.WideShapes Go.ChangeAt
open Go.ChangeMaps (open_string)
theorem fnFencesForbid_reads:∀ t∈Tryz.f3.params.toList,Tryz.prog.readableRec t=true∧t < Tryz.prog.types.size:=by
 intro t ht
 have:t=22:=by simpa [Tryz.params3] using ht
 subst this
 exact ⟨by kernel_rfl,of_decide_eq_true (by kernel_rfl)⟩
theorem fnFencesForbid_lifted (os:Os) (started:os.Started) (H:Type) (enc:TypeId × Value→H) :
 ReturnsInHanded {} Tryz.checked os 3 .any (Rows.fnFencesForbidSpec.pre6 enc Tryz.prog Tryz.f3 Rows.fnFencesForbidRow.domain false) (Rows.fnFencesForbidSpec.post enc Tryz.prog Tryz.f3 false true false false):=by
 refine returnsInHanded_of_change (C:=Tryz.checked) Tryz.own started (by kernel_rfl) Tryz.func3
  (ChangeSpec.witness6 (enc:=enc) (C:=Tryz.checked) false ⟨#[],#[.slice none 0 0],[]⟩ 8 (by kernel_rfl) (by kernel_rfl) (by kernel_rfl) (by kernel_rfl)) ?_
 intro W base args ds gs before hval0 hW hcnd _
 have hval:∀ (j:Nat) t v,Tryz.f3.params[j]? = some t→args[j]? = some v→Value.okWide Tryz.prog W .any base t v:=hval0
 have hW':=hW
 obtain ⟨p,q,hA0,hV,rfl,hfz,hnd⟩:=hW
 have hA:DataW.TrodAll enc Tryz.prog W 0 (fun _=>true) true Tryz.f3.params.toList args.toList ds p:=hA0
 rw [Tryz.params3] at hA hval
 obtain ⟨v0,d0,rfl,rfl,h0⟩:=trodAll_one hA
 obtain ⟨rfl,rfl⟩:=trodVars_none hV
 obtain ⟨B0,hB0⟩:=bytes_of_trod (okWide_slice Tryz.underlying22 (hval 0 22 v0 rfl rfl)) h0
 refine (lawFnFencesForbid v0 B0 W hB0).mono fun e W' ⟨he,hb⟩ => ?_
 exact ⟨_,he,post_law Tryz.laidOut fnFencesForbid_reads rfl rfl (by kernel_rfl) Tryz.underlying4 hW' hb⟩
theorem fnFencesForbid_holds:Rows.FnFencesForbidSaid:=
 OpenClaim.holds_of_wide 3 Tryz.f3 rfl rfl rfl rfl rfl rfl rfl ⟨rfl,rfl,rfl,rfl,rfl⟩ rfl rfl rfl rfl rfl (by kernel_rfl) Tryz.func3 (by kernel_rfl)
  (of_decide_eq_true (by kernel_rfl)) (by unfold Func.isWrapper;first | (rw [if_pos (by decide +kernel)];kernel_rfl) | (rw [if_neg (by decide +kernel)];exact ⟨rfl,rfl⟩))
  (fun os started H enc _=>fnFencesForbid_lifted os started H enc)
end Go.Proofs.YtlddmagfbcomgaaGreat