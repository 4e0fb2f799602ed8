/-
  FnFullFences: for every input the law returns true and the input reads afterwards as it read before. No condition.
-/
import Derived.Test.YtlddmagfbcomgaaGreatZq45
import Derived.Test.YtlddmagfbcomgaaGreatZq36
import Derived.Test.YtlddmagfbcomgaaGreatZq40
import Derived.Test.YtlddmagfbcomgaaGreatZq48
import Derived.Test.YtlddmagfbcomgaaGreatZq04
set_option maxHeartbeats 6400000
set_option maxRecDepth 100000
namespace Go.Proofs.YtlddmagfbcomgaaGreat
open Go.RowKit
theorem full_facts {P:List (List Ins)} (h:putOk P (gapsV P)=true):progValid (putV P (gapsV P))=true∧(∀ t i k,Delayed (putV P (gapsV P)) t i k→Sep (putV P (gapsV P)) t i k)∧gapsV (putV P (gapsV P))=[]:=by
 have h0:=h
 unfold putOk at h0
 simp only [Bool.and_eq_true] at h0
 have eg:gapsV P=gapsP P:=by unfold gapsV;rw [if_pos h0.1.1]
 have e:putV P (gapsV P)=putP (inL (gapsV P)) P:=by unfold putV;rw [if_pos h]
 rw [e,eg]
 rw [eg] at h0
 refine ⟨h0.2,fun t i k hd=>full_sep hd, ?_⟩
 unfold gapsV
 rw [if_pos h0.2]
 exact full_gaps P
theorem lawFnFullFences (v:Value) (xs:List Int) (w:World) (h:Rep ByteE w v xs∧∀ x∈xs,0≤x∧x≤255) :
 Calls Tryz.prog 4 #[v] w fun e w'=>e = .returned (.bool true)∧Below w.heap.size w w':=by
 obtain ⟨hx,hb⟩:=h
 obtain ⟨a0,c0,rfl, -,hm, -,hx⟩:=hx.open
 have HD:=hide (DrawPutFences_any (.slice a0 xs.length c0) xs w hx hb)
 clear hx hb
 generalize xs.length=n at *
 by_cases hl:(n:Int) > 1048576
 ·go_enter Tryz.func4,Tryz.ntmps4
  go_wp2_with fail
  go_ret
  exact ⟨rfl,Below.refl _ _⟩
 ·have hl':decide ((n:Int) > 1048576)=false:=decide_eq_false hl
  go_enter Tryz.func4,Tryz.ntmps4
  go_wp2_with fail
  (with_reducible refine HD.out.mono ?_);rintro e w1 ⟨v1,P,l1,L,rfl,hP,hPl,hPr, -, -,hb1⟩
  have hfl:=flatten_bound9 hPl hPr
  have hfq:=putV_flat P (gapsV P)
  have HP:=hide hP;have HB1:=hide hb1
  have HGP:=hide (GapsOf_any v1 P w1 hP (by omega))
  have HI:=hide (fun l w' h h2=>PutFences_any v1 l P (gapsV P) w' h h2 (by omega))
  have HS:=hide (fun l w' h h2=>sPutFences_any v1 l P (gapsV P) w' h h2 (by omega) (by omega))
  have HT:=hide (fun h=>full_facts (P:=P) h)
  have HGQ:=hide (fun q w' h=>GapsOf_any q (putV P (gapsV P)) w' h (by omega))
  have HRT:=hide (fun q w' h h2 h3=>Robust_tso q (putV P (gapsV P)) w' h (by omega) h2 h3)
  have HRP:=hide (fun q w' h h2 h3=>Robust_pso q (putV P (gapsV P)) w' h (by omega) h2 h3)
  clear hP hb1 HD hPr hfl hfq hPl
  generalize putV P (gapsV P)=Q at *
  generalize putOk P (gapsV P)=B at *
  generalize gapsV P=L1 at *
  go_wp2_with fail
  (with_reducible refine HGP.out.mono ?_);rintro e wa ⟨lv,rfl,hlo,hba⟩
  have HBa:=hide (HB1.out.trans (hba.mono HB1.out.size));have HPa:=hide (HP.out.below hba)
  obtain ⟨la,lc,rfl, -, -, -,hlr⟩:=hlo.rep.open
  have HLa:=hide hlr
  clear hlo hba hlr HGP HP HB1
  generalize L1.length=m at *
  go_wp2_with fail
  (with_reducible refine (HI.out _ _ HPa.out HLa.out).mono ?_);rintro e w2 ⟨q,rfl,o2,hb2⟩
  have O2:=hide o2;have HB2:=hide (HBa.out.trans (hb2.mono HBa.out.size));have HP2:=hide (HPa.out.below hb2);have HL2:=hide (HLa.out.below hb2)
  clear o2 hb2 HI HPa HBa HLa
  go_wp2_with fail
  (with_reducible refine (HS.out _ _ HP2.out HL2.out).mono ?_);rintro e w3 ⟨q',rfl,o3,hb3⟩
  have R3:=hide o3.rep;have HB3:=hide (HB2.out.trans (hb3.mono HB2.out.size));have R2:=hide (O2.out.below hb3).rep
  clear o3 hb3 HS HP2 HB2 O2 HL2
  have hBB:(B != B)=false:=by simp
  go_wp2_with fail
  (with_reducible refine (ProgramSame_any q q' Q Q _ R2.out R3.out).mono ?_);rintro e w4 ⟨rfl,hb4⟩
  rw [decide_eq_true (rfl:Q=Q)]
  have HB4:=hide (HB3.out.trans (hb4.mono HB3.out.size));have R4:=hide (R2.out.below hb4);have R4':=hide (R3.out.below hb4)
  clear hb4 HB3 R2 R3
  cases B
  ·clear HT
   go_wp2_with fail
   (with_reducible refine (ProgramSame_any q q' Q Q _ R4.out R4'.out).mono ?_);rintro e w5 ⟨rfl,hb5⟩
   rw [decide_eq_true (rfl:Q=Q)]
   go_wp2_with fail
   go_ret
   exact ⟨rfl,HB4.out.trans (hb5.mono HB4.out.size)⟩
  ·obtain ⟨hvQ,hsep,hgq⟩:=HT.out rfl
   have HVQ:=hide hvQ;have HSEP:=hide hsep
   rw [hgq] at HGQ
   clear HT hBB hvQ hsep hgq
   go_wp2_with fail
   (with_reducible refine (HRT.out q _ R4.out HVQ.out HSEP.out).mono ?_);rintro e w5 ⟨rfl,hb5⟩
   have HB5:=hide (HB4.out.trans (hb5.mono HB4.out.size));have R5:=hide (R4.out.below hb5)
   clear hb5 HB4 R4 R4' HRT
   go_wp2_with fail
   (with_reducible refine (HRP.out q _ R5.out HVQ.out HSEP.out).mono ?_);rintro e w6 ⟨rfl,hb6⟩
   have HB6:=hide (HB5.out.trans (hb6.mono HB5.out.size));have R6:=hide (R5.out.below hb6)
   clear hb6 HB5 R5 HRP
   go_wp2_with fail
   (with_reducible refine (HGQ.out q _ R6.out).mono ?_);rintro e w7 ⟨gv,rfl,hgo,hb7⟩
   obtain ⟨ga,gc,rfl, -⟩:=hgo.rep.open
   clear hgo
   go_wp2_with fail
   go_ret
   exact ⟨rfl,HB6.out.trans (hb7.mono HB6.out.size)⟩
end Go.Proofs.YtlddmagfbcomgaaGreat
namespace Go.Proofs.YtlddmagfbcomgaaGreat
open Go.RowKit Go.ChangeShapes Go.WideShapes Go.ChangeAt
open Go.ChangeMaps (open_string)
theorem fnFullFences_reads:∀ t∈Tryz.f4.params.toList,Tryz.prog.readableRec t=true∧t < Tryz.prog.types.size:=by
 intro t ht
 have:t=22:=by simpa [Tryz.params4] using ht
 subst this
 exact ⟨by kernel_rfl,of_decide_eq_true (by kernel_rfl)⟩
theorem fnFullFences_lifted (os:Os) (started:os.Started) (H:Type) (enc:TypeId × Value→H) :
 ReturnsInHanded {} Tryz.checked os 4 .any (Rows.fnFullFencesSpec.pre6 enc Tryz.prog Tryz.f4 Rows.fnFullFencesRow.domain false) (Rows.fnFullFencesSpec.post enc Tryz.prog Tryz.f4 false true false false):=by
 refine returnsInHanded_of_change (C:=Tryz.checked) Tryz.own started (by kernel_rfl) Tryz.func4
  (ChangeSpec.witness6 (enc:=enc) (C:=Tryz.checked) false ⟨#[],#[.slice none 0 0],[]⟩ 8 (by kernel_rfl) (by kernel_rfl) (by kernel_rfl) (by kernel_rfl)) ?_
 intro W base args ds gs before hval0 hW hcnd _
 have hval:∀ (j:Nat) t v,Tryz.f4.params[j]? = some t→args[j]? = some v→Value.okWide Tryz.prog W .any base t v:=hval0
 have hW':=hW
 obtain ⟨p,q,hA0,hV,rfl,hfz,hnd⟩:=hW
 have hA:DataW.TrodAll enc Tryz.prog W 0 (fun _=>true) true Tryz.f4.params.toList args.toList ds p:=hA0
 rw [Tryz.params4] at hA hval
 obtain ⟨v0,d0,rfl,rfl,h0⟩:=trodAll_one hA
 obtain ⟨rfl,rfl⟩:=trodVars_none hV
 obtain ⟨B0,hB0⟩:=bytes_of_trod (okWide_slice Tryz.underlying22 (hval 0 22 v0 rfl rfl)) h0
 refine (lawFnFullFences v0 B0 W hB0).mono fun e W' ⟨he,hb⟩ => ?_
 exact ⟨_,he,post_law Tryz.laidOut fnFullFences_reads rfl rfl (by kernel_rfl) Tryz.underlying4 hW' hb⟩
theorem fnFullFences_holds:Rows.FnFullFencesSaid:=
 OpenClaim.holds_of_wide 4 Tryz.f4 rfl rfl rfl rfl rfl rfl rfl ⟨rfl,rfl,rfl,rfl,rfl⟩ rfl rfl rfl rfl rfl (by kernel_rfl) Tryz.func4 (by kernel_rfl)
  (of_decide_eq_true (by kernel_rfl)) (by unfold Func.isWrapper;first | (rw [if_pos (by decide +kernel)];kernel_rfl) | (rw [if_neg (by decide +kernel)];exact ⟨rfl,rfl⟩))
  (fun os started H enc _=>fnFullFences_lifted os started H enc)
end Go.Proofs.YtlddmagfbcomgaaGreat