/-
  FnDelayGaps: for every input the law returns true and the input reads afterwards as it read before. No condition.
-/
import Derived.Test.YtlddmagfbcomgaaGreatZq65
import Derived.Test.YtlddmagfbcomgaaGreatZq45
import Derived.Test.YtlddmagfbcomgaaGreatZq64
import Derived.Test.YtlddmagfbcomgaaGreatZq36
import Derived.Test.YtlddmagfbcomgaaGreatZq40
import Derived.Test.YtlddmagfbcomgaaGreatZq66
import Derived.Test.YtlddmagfbcomgaaGreatZq21
import Derived.Test.YtlddmagfbcomgaaGreatZq04
set_option maxHeartbeats 6400000
set_option maxRecDepth 100000
namespace Go.Proofs.YtlddmagfbcomgaaGreat
open Go.RowKit
theorem wmGaps_any (v v':Value) (xs:List Gp) (w:World) (hx:Rep GapE w v xs) (hy:Rep GapE w v' xs) :
 Calls Tryz.prog 40 #[v,v'] w fun e w'=>e = .returned (.bool true)∧Below w.heap.size w w':=by
 obtain ⟨a,c,rfl,hc1,hc2,hc3,hx⟩:=hx.open
 obtain ⟨a',c',rfl,hc1',hc2',hc3',hy⟩:=hy.open
 have HX:=hide hx;clear hx
 have HY:=hide hy;clear hy
 generalize hn:xs.length=n at *
 have H:=hide hn;clear hn
 have hnn:((n:Int) != n)=false:=by simp
 go_enter Tryz.func40,Tryz.ntmps40
 go_wp2_with fail
 go_loopw [5] (fun v wr => ∃ k:Nat,k≤n∧v = .int .i64 k∧Below w.heap.size w wr) (fun v _=>n - (intOf v).toNat)
 case atStart=>exact ⟨0,Nat.zero_le _,rfl,Below.refl _ _⟩
 case round =>
  obtain ⟨k,hk,rfl,hb⟩:=hrel
  by_cases hlt:k < n
  ·obtain ⟨x,hxk⟩:=get_of_lt (xs:=xs) (k:=k) (by rw [H.out];exact hlt)
   obtain ⟨b,o,rfl,hbl,i0,i1⟩:=(HX.out.below hb).gap hxk
   obtain ⟨b',o',rfl,hbl',j0,j1⟩:=(HY.out.below hb).gap hxk
   have hlt':=nat_of_lt hlt
   clear hxk
   go_wp2_with fail
   refine wp_region_bw (by kernel_rfl) (by kernel_rfl) ?_
   repeat (go_big_quiet_step (fail))
   refine wpQuiet_nil ?_
   intro w1 hb1
   go_wp2_with fail
   go_roundw
   case rel=>exact ⟨k+1,by omega,by go_num,hb.trans (hb1.mono hb.size)⟩
   case measure=>simp [intOf];omega
  ·have hkg:decide (k < n)=false:=decide_eq_false hlt
   go_wp2_with fail
   go_ret
   exact ⟨rfl,hb⟩
end Go.Proofs.YtlddmagfbcomgaaGreat
namespace Go.Proofs.YtlddmagfbcomgaaGreat
open Go.RowKit
theorem DrawDelayGaps_any (v:Value) (xs0:List Int) (w:World) (hx:Rep ByteE w v xs0) (hb:∀ x∈xs0,0≤x∧x≤255) :
 Calls Tryz.prog 38 #[v] w (RetProg w):=by
 have HO:=hide (DrawRacesOf_any v xs0 w hx hb)
 clear hx hb
 go_enter Tryz.func38,Tryz.ntmps38
 go_wp2_with fail
 (with_reducible refine HO.out.mono ?_);rintro e w1 ⟨v1,P,rfl,hP,hl,hl2,hb1⟩
 have HL2:=hide hl2
 clear hl2
 go_wp2_with fail
 go_ret
 exact ⟨_,P,rfl,hP,hl,HL2.out,hb1⟩
theorem gaps_facts {P:List (List Ins)} (h:putOk P (delayGapsV P)=true):progValid (putV P (delayGapsV P))=true∧∀ t i k,Delayed (putV P (delayGapsV P)) t i k→Sep (putV P (delayGapsV P)) t i k:=by
 have h0:=h
 unfold putOk at h0
 simp only [Bool.and_eq_true] at h0
 have eg:delayGapsV P=delayGapsP P:=by unfold delayGapsV;rw [if_pos h0.1.1]
 have e:putV P (delayGapsV P)=putP (inL (delayGapsV P)) P:=by unfold putV;rw [if_pos h]
 rw [e,eg]
 rw [eg] at h0
 exact ⟨h0.2,fun t i k hd=>gaps_sep hd⟩
theorem gaps_no {P:List (List Ins)} (h:progValid P=false):delayGapsV P=[]:=by
 unfold delayGapsV
 rw [h]
 rfl
theorem lawFnDelayGaps (v:Value) (xs:List Int) (w:World) (h:Rep ByteE w v xs∧∀ x∈xs,0≤x∧x≤255) :
 Calls Tryz.prog 8 #[v] w fun e w'=>e = .returned (.bool true)∧Below w.heap.size w w':=by
 obtain ⟨hx,hb⟩:=h
 obtain ⟨a0,c0,rfl, -,hm, -,hx⟩:=hx.open
 have HD:=hide (DrawDelayGaps_any (.slice a0 xs.length c0) xs w hx hb)
 clear hx hb
 generalize xs.length=n at *
 by_cases hl:(n:Int) > 1048576
 ·go_enter Tryz.func8,Tryz.ntmps8
  go_wp2_with fail
  go_ret
  exact ⟨rfl,Below.refl _ _⟩
 ·have hl':decide ((n:Int) > 1048576)=false:=decide_eq_false hl
  go_enter Tryz.func8,Tryz.ntmps8
  go_wp2_with fail
  (with_reducible refine HD.out.mono ?_);rintro e w1 ⟨v1,P,rfl,hP,hPl,hPr,hb1⟩
  have hfl:=flatten_bound9 hPl hPr
  have hfq:=putV_flat P (delayGapsV P)
  have HP:=hide hP;have HB1:=hide hb1
  have HI:=hide (DelayGaps_any v1 P w1 hP (by omega))
  have HS:=hide (fun w' h=>sDelayGaps_any v1 P w' h (by omega) (by omega))
  have HV:=hide (fun w' h=>ProgramValid_any v1 P w' h (by omega))
  have HPF:=hide (fun l w' h h2=>PutFences_any v1 l P (delayGapsV P) w' h h2 (by omega))
  have HT:=hide (fun h=>gaps_facts (P:=P) h)
  have HN:=hide (fun h=>gaps_no (P:=P) h)
  have HRT:=hide (fun q w' h h2 h3=>Robust_tso q (putV P (delayGapsV P)) w' h (by omega) h2 h3)
  have HRP:=hide (fun q w' h h2 h3=>Robust_pso q (putV P (delayGapsV P)) w' h (by omega) h2 h3)
  clear hP hb1 HD hPr hfl hfq hPl
  generalize putV P (delayGapsV P)=Q at *
  generalize putOk P (delayGapsV P)=B at *
  generalize delayGapsV P=L1 at *
  go_wp2_with fail
  (with_reducible refine HI.out.mono ?_);rintro e wa ⟨lv,rfl,hlo,hba⟩
  have HBa:=hide (HB1.out.trans (hba.mono HB1.out.size));have HPa:=hide (HP.out.below hba)
  obtain ⟨la,lc,rfl, -, -, -,hlr⟩:=hlo.rep.open
  have HLa:=hide hlr
  clear hlo hba hlr HI HP HB1
  generalize hm1:L1.length=m at *
  have HM:=hide hm1
  clear hm1
  go_wp2_with fail
  (with_reducible refine (HS.out _ HPa.out).mono ?_);rintro e w2 ⟨sv,rfl,hso,hb2⟩
  have S2:=hide hso.rep;have HB2:=hide (HBa.out.trans (hb2.mono HBa.out.size));have HP2:=hide (HPa.out.below hb2);have HL2:=hide (HLa.out.below hb2)
  clear hso hb2 HPa HBa HLa
  go_wp2_with fail
  (with_reducible refine (wmGaps_any _ sv L1 _ HL2.out S2.out).mono ?_);rintro e w3 ⟨rfl,hb3⟩
  have HB3:=hide (HB2.out.trans (hb3.mono HB2.out.size));have HP3:=hide (HP2.out.below hb3);have HL3:=hide (HL2.out.below hb3)
  clear hb3 HP2 HB2 HL2 S2
  go_wp2_with fail
  (with_reducible refine (HV.out _ HP3.out).mono ?_);rintro e w4 ⟨rfl,hb4⟩
  have HB4:=hide (HB3.out.trans (hb4.mono HB3.out.size));have HP4:=hide (HP3.out.below hb4);have HL4:=hide (HL3.out.below hb4)
  clear hb4 HP3 HB3 HL3
  cases hv:progValid P
  ·have hm0:m=0:=by rw [← HM.out,HN.out hv];rfl
   subst hm0
   clear HT hv
   go_wp2_with fail
   (with_reducible refine (HS.out _ HP4.out).mono ?_);rintro e w5 ⟨sv5,rfl,hso5,hb5⟩
   have S5:=hide hso5.rep;have HB5:=hide (HB4.out.trans (hb5.mono HB4.out.size));have HL5:=hide (HL4.out.below hb5)
   clear hso5 hb5
   go_wp2_with fail
   (with_reducible refine (wmGaps_any _ sv5 L1 _ HL5.out S5.out).mono ?_);rintro e w6 ⟨rfl,hb6⟩
   go_wp2_with fail
   go_ret
   exact ⟨rfl,HB5.out.trans (hb6.mono HB5.out.size)⟩
  ·clear hv HN
   go_wp2_with fail
   (with_reducible refine (HPF.out _ _ HP4.out HL4.out).mono ?_);rintro e w5 ⟨q,rfl,o5,hb5⟩
   have R5:=hide o5.rep;have HB5:=hide (HB4.out.trans (hb5.mono HB4.out.size))
   clear o5 hb5 HB4 HP4 HL4
   cases B
   ·clear HT
    go_wp2_with fail
    go_ret
    exact ⟨rfl,HB5.out⟩
   ·obtain ⟨hvQ,hsep⟩:=HT.out rfl
    have HVQ:=hide hvQ;have HSEP:=hide hsep
    clear HT hvQ hsep
    go_wp2_with fail
    (with_reducible refine (HRT.out q _ R5.out HVQ.out HSEP.out).mono ?_);rintro e w6 ⟨rfl,hb6⟩
    have HB6:=hide (HB5.out.trans (hb6.mono HB5.out.size));have R6:=hide (R5.out.below hb6)
    clear hb6 HB5 R5 HRT
    go_wp2_with fail
    (with_reducible refine (HRP.out q _ R6.out HVQ.out HSEP.out).mono ?_);rintro e w7 ⟨rfl,hb7⟩
    go_wp2_with fail
    go_ret
    exact ⟨rfl,HB6.out.trans (hb7.mono HB6.out.size)⟩
end Go.Proofs.YtlddmagfbcomgaaGreat
namespace Go.Proofs.YtlddmagfbcomgaaGreat
open Go.RowKit Go.ChangeShapes Go.WideShapes Go.ChangeAt
open Go.ChangeMaps (open_string)
theorem fnDelayGaps_reads:∀ t∈Tryz.f8.params.toList,Tryz.prog.readableRec t=true∧t < Tryz.prog.types.size:=by
 intro t ht
 have:t=22:=by simpa [Tryz.params8] using ht
 subst this
 exact ⟨by kernel_rfl,of_decide_eq_true (by kernel_rfl)⟩
theorem fnDelayGaps_lifted (os:Os) (started:os.Started) (H:Type) (enc:TypeId × Value→H) :
 ReturnsInHanded {} Tryz.checked os 8 .any (Rows.fnDelayGapsSpec.pre6 enc Tryz.prog Tryz.f8 Rows.fnDelayGapsRow.domain false) (Rows.fnDelayGapsSpec.post enc Tryz.prog Tryz.f8 false true false false):=by
 refine returnsInHanded_of_change (C:=Tryz.checked) Tryz.own started (by kernel_rfl) Tryz.func8
  (ChangeSpec.witness6 (enc:=enc) (C:=Tryz.checked) false ⟨#[],#[.slice none 0 0],[]⟩ 8 (by kernel_rfl) (by kernel_rfl) (by kernel_rfl) (by kernel_rfl)) ?_
 intro W base args ds gs before hval0 hW hcnd _
 have hval:∀ (j:Nat) t v,Tryz.f8.params[j]? = some t→args[j]? = some v→Value.okWide Tryz.prog W .any base t v:=hval0
 have hW':=hW
 obtain ⟨p,q,hA0,hV,rfl,hfz,hnd⟩:=hW
 have hA:DataW.TrodAll enc Tryz.prog W 0 (fun _=>true) true Tryz.f8.params.toList args.toList ds p:=hA0
 rw [Tryz.params8] at hA hval
 obtain ⟨v0,d0,rfl,rfl,h0⟩:=trodAll_one hA
 obtain ⟨rfl,rfl⟩:=trodVars_none hV
 obtain ⟨B0,hB0⟩:=bytes_of_trod (okWide_slice Tryz.underlying22 (hval 0 22 v0 rfl rfl)) h0
 refine (lawFnDelayGaps v0 B0 W hB0).mono fun e W' ⟨he,hb⟩ => ?_
 exact ⟨_,he,post_law Tryz.laidOut fnDelayGaps_reads rfl rfl (by kernel_rfl) Tryz.underlying4 hW' hb⟩
theorem fnDelayGaps_holds:Rows.FnDelayGapsSaid:=
 OpenClaim.holds_of_wide 8 Tryz.f8 rfl rfl rfl rfl rfl rfl rfl ⟨rfl,rfl,rfl,rfl,rfl⟩ rfl rfl rfl rfl rfl (by kernel_rfl) Tryz.func8 (by kernel_rfl)
  (of_decide_eq_true (by kernel_rfl)) (by unfold Func.isWrapper;first | (rw [if_pos (by decide +kernel)];kernel_rfl) | (rw [if_neg (by decide +kernel)];exact ⟨rfl,rfl⟩))
  (fun os started H enc _=>fnDelayGaps_lifted os started H enc)
end Go.Proofs.YtlddmagfbcomgaaGreat