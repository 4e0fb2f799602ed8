/-
  FnFewerFences: for every input the law returns true and the input reads afterwards as it read before. No condition.
-/
import Derived.Test.YtngekjpklkjnbaaGreatZp30
import Derived.Test.YtngekjpklkjnbaaGreatZp37
import Derived.Test.YtngekjpklkjnbaaGreatZp34
set_option maxHeartbeats 6400000
set_option maxRecDepth 100000
namespace Go.Proofs.YtngekjpklkjnbaaGreat
open Go.RowKit
theorem Uv (v:Value) (xs:List Int) (w:World) (h:ZC Zu w v xs∧∀ x∈xs,0≤x∧x≤255) :
 Calls Tryz.prog 7 #[v] w fun e w'=>e = .returned (.bool true)∧Below w.heap.size w w':=by
 obtain⟨hx,hb⟩:=h;obtain⟨a0,c0,rfl,-,hm,-,hx⟩:=hx.open;have HD:=Za (Q3 (.slice a0 xs.length c0) xs w hx hb);clear hx hb;generalize xs.length=n at *;by_cases hl:(n:Int) > 1048576
 ·go_enter Tryz.func7,Tryz.ntmps7
  go_wp2_with fail;go_ret;exact⟨rfl,Below.refl _ _⟩
 ·have hl':decide ((n:Int) > 1048576)=false:=decide_eq_false hl
  go_enter Tryz.func7,Tryz.ntmps7;go_wp2_with fail
  (with_reducible refine HD.out.mono ?_);rintro e w1 ⟨v1,P,s,rfl,hP,hPl,hPr,-,hb1⟩
  have hfl:=Ks hPl hPr;have HP:=Za hP;have HB1:=Za hb1
  have HI:=Za (YU v1 P s w1 hP Om);have HS:=Za (fun W h=>Qi v1 P s W h Om Om);have HT:Hid (∀ W,Z9 W v1 P→Calls Tryz.prog 15 #[v1,.string ⟨#[116,115,111]⟩] W (Xw (YF false P) W)):=Za (fun W h=>by
   have:=YU v1 P (Bb false) W h Om;rwa[Kw]at this)
  have HU:Hid (∀ W,Z9 W v1 P→Calls Tryz.prog 15 #[v1,.string ⟨#[112,115,111]⟩] W (Xw (YF true P) W)):=Za (fun W h=>by
   have:=YU v1 P (Bb true) W h Om;rwa[Kw]at this)
  have HF:=Za (fun b (h:YF true P=some b)=>Et h);clear hP hb1 HD hPr hfl hPl;generalize QB s P=R at *;generalize YF false P=A at *;generalize YF true P=B at *;go_wp2_with fail
  (with_reducible refine HI.out.mono ?_);rintro e w2 ⟨⟨ua,un,uc⟩,rfl,o2,hb2⟩
  have O2:=Za o2;have HB2:=Za (HB1.out.trans (hb2.mono HB1.out.size));have HP2:=Za (HP.out.below hb2)
  clear o2 hb2 HI HP HB1;go_wp2_with fail
  (with_reducible refine(HS.out _ HP2.out).mono ?_);rintro e w3 ⟨⟨va,vn,vc⟩,rfl,o3,hb3⟩
  have O3:=Za o3.rep;have HB3:=Za (HB2.out.trans (hb3.mono HB2.out.size));have HP3:=Za (HP2.out.below hb3);have O2':=Za (O2.out.below hb3).rep
  clear o3 hb3 HS HP2 HB2 O2;go_wp2_with fail
  (with_reducible refine(HT.out _ HP3.out).mono ?_);rintro e w4 ⟨⟨xa,xn,xc⟩,rfl,o4,hb4⟩
  have hxn:=o4.len;have HXN:Hid (xn=(A.getD []).length):=Za hxn;have HB4:=Za (HB3.out.trans (hb4.mono HB3.out.size));have HP4:=Za (HP3.out.below hb4);have R2:=Za (O2'.out.below hb4);have R3:=Za (O3.out.below hb4)
  clear o4 hb4 HT HP3 HB3 O2' O3 hxn;go_wp2_with fail
  (with_reducible refine(HU.out _ HP4.out).mono ?_);rintro e w5 ⟨⟨ya,yn,yc⟩,rfl,o5,hb5⟩
  have hyn:=o5.len;have HYN:Hid (yn=(B.getD []).length):=Za hyn;have HB5:=Za (HB4.out.trans (hb5.mono HB4.out.size));have S2:=Za (R2.out.below hb5);have S3:=Za (R3.out.below hb5)
  clear o5 hb5 HU HP4 HB4 R2 R3 hyn;have hBB:(R.isSome==R.isSome)=true:=by simp
  cases B with
  | none =>
   clear HF;go_wp2_with (go_at_call 24;(with_reducible refine(Ja _ _ _ w5 S2.out S3.out).mono ?_);rintro e w6 ⟨rfl,hb6⟩;have HB6:=Za (HB5.out.trans (hb6.mono HB5.out.size));clear hb6);go_ret;exact⟨rfl,HB6.out⟩
  | some b =>
   obtain⟨a,rfl,hab⟩:=HF.out b rfl;have hle:(xn:Int)≤(yn:Int):=by
    have h1:=HXN.out;have h2:=HYN.out
    simp only[Option.getD_some]at h1 h2;omega
   have hle2:decide ((xn:Int)≤(yn:Int))=true:=decide_eq_true hle;clear HF hab;go_wp2_with (go_at_call 24;(with_reducible refine(Ja _ _ _ w5 S2.out S3.out).mono ?_);rintro e w6 ⟨rfl,hb6⟩;have HB6:=Za (HB5.out.trans (hb6.mono HB5.out.size));clear hb6);go_ret;exact⟨rfl,HB6.out⟩
end Go.Proofs.YtngekjpklkjnbaaGreat
namespace Go.Proofs.YtngekjpklkjnbaaGreat
open Go.RowKit Go.ChangeShapes Go.WideShapes Go.ChangeAt
open Go.ChangeMaps (open_string)
theorem KW:∀ t∈Tryz.f7.params.toList,Tryz.prog.readableRec t=true∧t < Tryz.prog.types.size:=by
 intro t ht;have:t=39:=by simpa[Tryz.params7] using ht
 subst this;exact⟨Kr,of_decide_eq_true Kr⟩
theorem Kt (os:Os) (started:os.Started) (H:Type) (enc:TypeId × Value→H) :
 ReturnsInHanded {} Tryz.checked os 7 .any (Rows.fnFewerFencesSpec.pre6 enc Tryz.prog Tryz.f7 Rows.fnFewerFencesRow.domain false) (Rows.fnFewerFencesSpec.post enc Tryz.prog Tryz.f7 false true false false):=by
 refine returnsInHanded_of_change (C:=Tryz.checked) Tryz.own started Kr Tryz.func7
  (ChangeSpec.witness6 (enc:=enc) (C:=Tryz.checked) false ⟨#[],#[.slice none 0 0],[]⟩ 8 Kr Kr Kr Kr) ?_
 intro W base args ds gs before hval0 hW hcnd _;have hval:∀ (j:Nat) t v,Tryz.f7.params[j]? = some t→args[j]? = some v→Value.okWide Tryz.prog W .any base t v:=hval0;have hW':=hW;obtain⟨p,q,hA0,hV,rfl,hfz,hnd⟩:=hW;have hA:DataW.TrodAll enc Tryz.prog W 0 (fun _=>true) true Tryz.f7.params.toList args.toList ds p:=hA0;rw[Tryz.params7]at hA hval;obtain⟨v0,d0,rfl,rfl,h0⟩:=trodAll_one hA;obtain⟨rfl,rfl⟩:=trodVars_none hV;obtain⟨B0,hB0⟩:=Vi (okWide_slice Tryz.underlying39 (hval 0 39 v0 rfl rfl)) h0;refine(Uv v0 B0 W hB0).mono fun e W' ⟨he,hb⟩ => ?_;exact⟨_,he,RY Tryz.laidOut KW rfl rfl Kr Tryz.underlying4 hW' hb⟩
theorem fnFewerFences_holds:Rows.FnFewerFencesSaid:=
 OpenClaim.holds_of_wide 7 Tryz.f7 rfl rfl rfl rfl rfl rfl rfl ⟨rfl,rfl,rfl,rfl,rfl⟩ rfl rfl rfl rfl rfl Kr Tryz.func7 Kr
  (of_decide_eq_true Kr) (by unfold Func.isWrapper;first | (rw[if_pos (by decide +kernel)];kernel_rfl) | (rw[if_neg (by decide +kernel)];exact⟨rfl,rfl⟩))
  (fun os started H enc _=>Kt os started H enc)
end Go.Proofs.YtngekjpklkjnbaaGreat