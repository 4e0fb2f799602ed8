/-
  FnExactLeastFences: for every input the law returns true and the input reads afterwards as it read before. No condition.
-/
import Derived.Test.YtngekjpklkjnbaaGreatZp30
import Derived.Test.YtngekjpklkjnbaaGreatZp38
import Derived.Test.YtngekjpklkjnbaaGreatZp39
import Derived.Test.YtngekjpklkjnbaaGreatZp40
set_option maxHeartbeats 6400000
set_option maxRecDepth 100000
namespace Go.Proofs.YtngekjpklkjnbaaGreat
open Go.RowKit
theorem Xw.made {r:Option (List Gp)}{w:World}{e:Ending}{w':World}(h:Xw r w e w'):Py w (r.getD []) r.isSome e w':=by
 obtain⟨u,h1,h2,h3⟩:=h;exact⟨u,h1,Loc.Mo h2,h3⟩
theorem N6 (s:ByteArray) (p:List (List Ins)):((QB s p).getD []).length≤3:=by
 unfold QB;split
 ·cases h:YF (decide (s=Bb true)) p with
  | none=>simp
  | some L=>have:=(RI h).2.2.1;simp;omega
 ·simp
theorem KZ (v0:Value) (p0:List (List Ins)) (s1:ByteArray) (w:World) (hp0:Z9 w v0 p0) :
 Calls Tryz.prog 4 #[v0,.string s1] w fun e w'=>e = .returned (.bool true)∧Below w.heap.size w w':=by
 have R0:Hid (Loc 0 w.heap.size w (fun W=>Z9 W v0 p0)):=Za (Loc.arg hp0 (fun _ hb=>hp0.below hb));clear hp0;by_cases hc1:((s1.size:Int) > 1048576)
 ·skip
  have HBW:Hid (Below w.heap.size w w):=Za (Below.refl _ _);go_enter Tryz.func4,Tryz.ntmps4;go_wp2_with fail;go_ret;exact⟨rfl,HBW.out⟩
 ·skip
  replace hc1:s1.size≤1048576:=Om;have HS0:=Za (fun W (h:Z9 W v0 p0)=>AD v0 p0 1048576 W h Om Om);have LE0:=Za (fun h=>MR p0 1048576 h Om);generalize Hg p0 1048576=Z0 at *;by_cases hc0:Z0 < 0
  ·skip
   have HBW:Hid (Below w.heap.size w w):=Za (Below.refl _ _);go_enter Tryz.func4,Tryz.ntmps4;go_wp2_with fail
   (with_reducible refine(HS0.out _ R0.out.now).mono ?_);rintro e w1 ⟨rfl,hb1⟩
   replace R0:=Za (R0.out.below hb1);replace HBW:=Za (Below.next HBW.out hb1);have zw1:w.heap.size≤w1.heap.size:=hb1.size;clear hb1;go_wp2_with fail;go_ret;exact⟨rfl,HBW.out⟩
  ·skip
   have hz0:=(LE0.out hc0).1;have HB0:=Za (LE0.out hc0).2;have HCS0:=fun u W (h:Z9 W u p0)=>Qi u p0 s1 W h HB0.out.2.1 HB0.out.1;have HCI0:=fun u W (h:Z9 W u p0)=>YU u p0 s1 W h HB0.out.2.1;have hLn:=N6 s1 p0;have HCS:=Za (fun u W (h:Z9 W u p0)=>(HCS0 u W h).mono fun _ _ h=>h.made);have HCI:=Za (fun u W (h:Z9 W u p0)=>(HCI0 u W h).mono fun _ _ h=>h.made);clear HCS0 HCI0;generalize (QB s1 p0).getD []=L at *;generalize (QB s1 p0).isSome=b at *;generalize hNL:L.length=NL at *;have HL:=Za hNL;clear hNL;have hbb:(b != b)=false:=by cases b <;> rfl
   have hPl0:=HB0.out.1;have hPs0:XY (p0.map List.length)≤1048576:=by rw[CX];have:=HB0.out.2.1;omega
   have HTO0:=Za (fun W (h:Z9 W v0 p0)=>MX v0 p0 W h HB0.out.1 HB0.out.2.2);generalize hM0:XY (p0.map List.length)=M0 at *;have HM0:=Za hM0;clear hM0;have HBW:Hid (Below w.heap.size w w):=Za (Below.refl _ _);go_enter Tryz.func4,Tryz.ntmps4;go_wp2_with fail
   (with_reducible refine(HS0.out _ R0.out.now).mono ?_);rintro e w1 ⟨rfl,hb1⟩
   replace R0:=Za (R0.out.below hb1);replace HBW:=Za (Below.next HBW.out hb1);have zw1:w.heap.size≤w1.heap.size:=hb1.size;clear hb1;go_wp2_with fail
   (with_reducible refine(HTO0.out _ R0.out.now).mono ?_);rintro e w2 ⟨uS0,rfl,L2,hb2⟩
   have S0:=Za (L2:Lo w1.heap.size w2.heap.size w2 uS0 p0);clear L2;replace R0:=Za (R0.out.below hb2);replace HBW:=Za (Below.next HBW.out hb2);have zw2:w1.heap.size≤w2.heap.size:=hb2.size;clear hb2;go_wp2_with fail
   (with_reducible refine(HCS.out uS0 _ S0.out.Ug).mono ?_);rintro e w3 ⟨uW,rfl,L3,hb3⟩
   have W:=Za (L3:Ic w2.heap.size w3.heap.size w3 (.slice uW.a uW.n uW.cap) L);clear L3;replace R0:=Za (R0.out.below hb3);replace S0:=Za (S0.out.below hb3);replace HBW:=Za (Below.next HBW.out hb3);have zw3:w2.heap.size≤w3.heap.size:=hb3.size;clear hb3;go_wp2_with fail
   (with_reducible refine(HTO0.out _ R0.out.now).mono ?_);rintro e w4 ⟨uX0,rfl,L4,hb4⟩
   have X0:=Za (L4:Lo w3.heap.size w4.heap.size w4 uX0 p0);clear L4;replace R0:=Za (R0.out.below hb4);replace S0:=Za (S0.out.below hb4);replace W:=Za (W.out.below hb4);replace HBW:=Za (Below.next HBW.out hb4);have zw4:w3.heap.size≤w4.heap.size:=hb4.size;clear hb4;go_wp2_with fail
   (with_reducible refine(HCI.out uX0 _ X0.out.Ug).mono ?_);rintro e w5 ⟨uG,rfl,L5,hb5⟩
   have G:=Za (L5:Ic w4.heap.size w5.heap.size w5 (.slice uG.a uG.n uG.cap) L);clear L5;replace R0:=Za (R0.out.below hb5);replace S0:=Za (S0.out.below hb5);replace W:=Za (W.out.below hb5);replace X0:=Za (X0.out.below hb5);replace HBW:=Za (Below.next HBW.out hb5);have zw5:w4.heap.size≤w5.heap.size:=hb5.size;clear hb5;go_wp2_with fail
   (with_reducible refine(Rh (.slice uG.a uG.n uG.cap) (.slice uW.a uW.n uW.cap) L _ G.out.rep W.out.rep).mono ?_);rintro e w6 ⟨rfl,hb6⟩
   replace R0:=Za (R0.out.below hb6);replace S0:=Za (S0.out.below hb6);replace W:=Za (W.out.below hb6);replace X0:=Za (X0.out.below hb6);replace G:=Za (G.out.below hb6);replace HBW:=Za (Below.next HBW.out hb6);have zw6:w5.heap.size≤w6.heap.size:=hb6.size;clear hb6;go_wp2_with fail
   (with_reducible refine(HTO0.out _ R0.out.now).mono ?_);rintro e w7 ⟨uE0,rfl,L7,hb7⟩
   have E0:=Za (L7:Lo w6.heap.size w7.heap.size w7 uE0 p0);clear L7;replace R0:=Za (R0.out.below hb7);replace S0:=Za (S0.out.below hb7);replace W:=Za (W.out.below hb7);replace X0:=Za (X0.out.below hb7);replace G:=Za (G.out.below hb7);replace HBW:=Za (Below.next HBW.out hb7);have zw7:w6.heap.size≤w7.heap.size:=hb7.size;clear hb7;go_wp2_with fail
   (with_reducible refine(LQ uX0 uE0 p0 _ X0.out.Ug E0.out.Ug).mono ?_);rintro e w8 ⟨rfl,hb8⟩
   replace R0:=Za (R0.out.below hb8);replace S0:=Za (S0.out.below hb8);replace W:=Za (W.out.below hb8);replace X0:=Za (X0.out.below hb8);replace G:=Za (G.out.below hb8);replace E0:=Za (E0.out.below hb8);replace HBW:=Za (Below.next HBW.out hb8);have zw8:w7.heap.size≤w8.heap.size:=hb8.size;clear hb8;clear E0;go_wp2_with fail
   (with_reducible refine(IF uX0 p0 (1) _ _ _ X0.out (by rw[HM0.out];omega) Om Om Om).mono ?_);rintro e w9 ⟨rfl,hb9⟩
   replace R0:=Za (R0.out.outs hb9 Om);replace S0:=Za (S0.out.outs hb9 Om);replace W:=Za (W.out.outs hb9 Om);replace G:=Za (G.out.outs hb9 Om);replace HBW:=Za (HBW.out.trans (hb9.below (B:=w.heap.size) Om HBW.out.size));have zw9:w8.heap.size≤w9.heap.size:=hb9.size;clear hb9;rw[HM0.out];clear X0;go_wp2_with fail
   (with_reducible refine(Rh (.slice uG.a uG.n uG.cap) (.slice uW.a uW.n uW.cap) L _ G.out.rep W.out.rep).mono ?_);rintro e w10 ⟨rfl,hb10⟩
   replace R0:=Za (R0.out.below hb10);replace S0:=Za (S0.out.below hb10);replace W:=Za (W.out.below hb10);replace G:=Za (G.out.below hb10);replace HBW:=Za (Below.next HBW.out hb10);have zw10:w9.heap.size≤w10.heap.size:=hb10.size;clear hb10;go_wp2_with fail
   (with_reducible refine(IE (.slice uG.a uG.n uG.cap) L 1 _ _ _ G.out (by rw[HL.out];omega) Om Om).mono ?_);rintro e w11 ⟨rfl,G2,hb11⟩
   replace R0:=Za (R0.out.outs hb11 Om);replace S0:=Za (S0.out.outs hb11 Om);replace W:=Za (W.out.outs hb11 Om);replace HBW:=Za (HBW.out.trans (hb11.below (B:=w.heap.size) Om HBW.out.size));have zw11:w10.heap.size≤w11.heap.size:=hb11.size;clear hb11;rw[HL.out]at G2;rw[HL.out];replace G:=Za G2;clear G2;go_wp2_with fail
   (with_reducible refine(AS (.slice uG.a uG.n uG.cap) NL 1 _ _ _ G.out Om Om Om).mono ?_);rintro e w12 ⟨rfl,rfl⟩
   go_wp2_with fail
   (with_reducible refine(HTO0.out _ R0.out.now).mono ?_);rintro e w13 ⟨uH0,rfl,L13,hb13⟩
   have H0:=Za (L13:Lo w11.heap.size w13.heap.size w13 uH0 p0);clear L13;replace R0:=Za (R0.out.below hb13);replace S0:=Za (S0.out.below hb13);replace W:=Za (W.out.below hb13);replace G:=Za (G.out.below hb13);replace HBW:=Za (Below.next HBW.out hb13);have zw13:w11.heap.size≤w13.heap.size:=hb13.size;clear hb13;go_wp2_with fail
   (with_reducible refine(HCI.out uH0 _ H0.out.Ug).mono ?_);rintro e w14 ⟨uT,rfl,L14,hb14⟩
   have T:=Za (L14:Ic w13.heap.size w14.heap.size w14 (.slice uT.a uT.n uT.cap) L);clear L14;replace R0:=Za (R0.out.below hb14);replace S0:=Za (S0.out.below hb14);replace W:=Za (W.out.below hb14);replace G:=Za (G.out.below hb14);replace H0:=Za (H0.out.below hb14);replace HBW:=Za (Below.next HBW.out hb14);have zw14:w13.heap.size≤w14.heap.size:=hb14.size;clear hb14;go_wp2_with fail
   (with_reducible refine(Rh (.slice uT.a uT.n uT.cap) (.slice uW.a uW.n uW.cap) L _ T.out.rep W.out.rep).mono ?_);rintro e w15 ⟨rfl,hb15⟩
   replace R0:=Za (R0.out.below hb15);replace S0:=Za (S0.out.below hb15);replace W:=Za (W.out.below hb15);replace G:=Za (G.out.below hb15);replace H0:=Za (H0.out.below hb15);replace T:=Za (T.out.below hb15);replace HBW:=Za (Below.next HBW.out hb15);have zw15:w14.heap.size≤w15.heap.size:=hb15.size;clear hb15;go_wp2_with fail
   (with_reducible refine(AS (.slice uG.a uG.n uG.cap) NL 1 _ _ _ G.out Om Om Om).mono ?_);rintro e w16 ⟨rfl,rfl⟩
   go_wp2_with fail;go_ret;exact⟨rfl,HBW.out⟩
end Go.Proofs.YtngekjpklkjnbaaGreat
namespace Go.Proofs.YtngekjpklkjnbaaGreat
open Go.RowKit Go.ChangeShapes Go.WideShapes Go.ChangeAt
open Go.ChangeMaps (open_string)
theorem J3:∀ t∈Tryz.f4.params.toList,Tryz.prog.readableRec t=true∧t < Tryz.prog.types.size:=by
 intro t ht;have:t=22∨t=9:=by simpa[Tryz.params4] using ht
 rcases this with rfl | rfl
 ·exact⟨Kr,of_decide_eq_true Kr⟩
 ·exact⟨Kr,of_decide_eq_true Kr⟩
theorem Je (os:Os) (started:os.Started) (H:Type) (enc:TypeId × Value→H) :
 ReturnsInHanded {} Tryz.checked os 4 .any (Rows.fnExactLeastFencesSpec.pre6 enc Tryz.prog Tryz.f4 Rows.fnExactLeastFencesRow.domain false) (Rows.fnExactLeastFencesSpec.post enc Tryz.prog Tryz.f4 false true false false):=by
 refine returnsInHanded_of_change (C:=Tryz.checked) Tryz.own started Kr Tryz.func4
  (ChangeSpec.witness6 (enc:=enc) (C:=Tryz.checked) false ⟨#[],#[.slice none 0 0,.string ⟨#[]⟩],[]⟩ 8 Kr Kr Kr Kr) ?_
 intro W base args ds gs before hval0 hW hcnd _;have hval:∀ (j:Nat) t v,Tryz.f4.params[j]? = some t→args[j]? = some v→Value.okWide Tryz.prog W .any base t v:=hval0;have hW':=hW;obtain⟨p,q,hA0,hV,rfl,hfz,hnd⟩:=hW;have hA:DataW.TrodAll enc Tryz.prog W 0 (fun _=>true) true Tryz.f4.params.toList args.toList ds p:=hA0;rw[Tryz.params4]at hA hval;obtain⟨v0,v1,d0,d1,p0,p1,rfl,rfl,rfl,h0,h1⟩:=trodAll_two hA;obtain⟨rfl,rfl⟩:=trodVars_none hV;obtain⟨P0,hP0⟩:=CF (okWide_slice Tryz.underlying22 (hval 0 22 v0 rfl rfl)) h0;obtain⟨s1,rfl,rfl,rfl,hs1⟩:=open_string Tryz.underlying9 (hval 1 9 v1 rfl rfl) h1;refine(KZ v0 P0 s1 W hP0).mono fun e W' ⟨he,hb⟩ => ?_;exact⟨_,he,RY Tryz.laidOut J3 rfl rfl Kr Tryz.underlying4 hW' hb⟩
theorem fnExactLeastFences_holds:Rows.FnExactLeastFencesSaid:=
 OpenClaim.holds_of_wide 4 Tryz.f4 rfl rfl rfl rfl rfl rfl rfl ⟨rfl,rfl,rfl,rfl,rfl⟩ rfl rfl rfl rfl rfl Kr Tryz.func4 Kr
  (of_decide_eq_true Kr) (by unfold Func.isWrapper;first | (rw[if_pos (by decide +kernel)];kernel_rfl) | (rw[if_neg (by decide +kernel)];exact⟨rfl,rfl⟩))
  (fun os started H enc _=>Je os started H enc)
end Go.Proofs.YtngekjpklkjnbaaGreat