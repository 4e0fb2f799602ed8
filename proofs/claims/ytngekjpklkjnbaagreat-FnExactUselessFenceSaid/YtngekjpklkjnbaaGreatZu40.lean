/-
  FnExactUselessFence: for every input the law returns true and the input reads afterwards as it read before. No condition.
-/
import Derived.Test.YtngekjpklkjnbaaGreatZu31
import Derived.Test.YtngekjpklkjnbaaGreatZu37
import Derived.Test.YtngekjpklkjnbaaGreatZu38
import Derived.Test.YtngekjpklkjnbaaGreatZu39
set_option maxHeartbeats 6400000
set_option maxRecDepth 100000
namespace Go.Proofs.YtngekjpklkjnbaaGreat
open Go.RowKit
theorem Jd (v0:Value) (p0:List (List Ins)) (s1:ByteArray) (w:World) (hp0:Z5 w v0 p0) :
 Calls Tryz.prog 3 #[v0,.string s1] w fun e w'=>e = .returned (.bool true)∧Below w.heap.size w w':=by
 have R0:Hid (Loc 0 w.heap.size w (fun W=>Z5 W v0 p0)):=Za (Loc.arg hp0 (fun _ hb=>hp0.below hb));clear hp0;by_cases hc1:((s1.size:Int) > 1048576)
 ·skip
  have HBW:Hid (Below w.heap.size w w):=Za (Below.refl _ _);go_enter Tryz.func3,Tryz.ntmps3;go_wp2_with fail;go_ret;exact⟨rfl,HBW.out⟩
 ·skip
  replace hc1:s1.size≤1048576:=Om;have HS0:=Za (fun W (h:Z5 W v0 p0)=>UL v0 p0 1048576 W h Om Om);have LE0:=Za (fun h=>Fh p0 1048576 h Om);generalize Cl p0 1048576=Z0 at *;by_cases hc0:Z0 < 0
  ·skip
   have HBW:Hid (Below w.heap.size w w):=Za (Below.refl _ _);go_enter Tryz.func3,Tryz.ntmps3;go_wp2_with fail
   (with_reducible refine(HS0.out _ R0.out.now).mono ?_);rintro e w1 ⟨rfl,hb1⟩
   replace R0:=Za (R0.out.below hb1);replace HBW:=Za (Below.next HBW.out hb1);clear hb1;go_wp2_with fail;go_ret;exact⟨rfl,HBW.out⟩
  ·skip
   have HB0:=Za (LE0.out hc0).2;have HCS:=Za (fun u W (h:Z5 W u p0)=>Qj u p0 s1 W h HB0.out.2.1 HB0.out.1);have HCI:=Za (fun u W (h:Z5 W u p0)=>Qr u p0 s1 W h HB0.out.2.1);have HTO0:=Za (fun W (h:Z5 W v0 p0)=>Fm v0 p0 W h HB0.out.1 HB0.out.2.2);unfold Kn at HCS HCI;generalize (Xj s1 p0).isSome=b at *;generalize (((Xj s1 p0).getD (0,0)).1:Int)=ga at *;generalize (((Xj s1 p0).getD (0,0)).2:Int)=gb at *;have hbb:(b != b)=false:=by cases b <;> rfl
   have HBW:Hid (Below w.heap.size w w):=Za (Below.refl _ _);go_enter Tryz.func3,Tryz.ntmps3;go_wp2_with fail
   (with_reducible refine(HS0.out _ R0.out.now).mono ?_);rintro e w1 ⟨rfl,hb1⟩
   replace R0:=Za (R0.out.below hb1);replace HBW:=Za (Below.next HBW.out hb1);clear hb1;go_wp2_with fail
   (with_reducible refine(HTO0.out _ R0.out.now).mono ?_);rintro e w2 ⟨uS0,rfl,L2,hb2⟩
   have S0:=Za (L2:H0 w1.heap.size w2.heap.size w2 uS0 p0);clear L2;replace R0:=Za (R0.out.below hb2);replace HBW:=Za (Below.next HBW.out hb2);clear hb2;go_wp2_with fail
   (with_reducible refine(HCS.out uS0 _ S0.out.Uo).mono ?_);rintro e w3 ⟨rfl,hb3⟩
   obtain⟨V3,hV3⟩:∃ V3,V3=w3.alloc (.cells #[.int .i64 ga,.int .i64 gb] 25):=⟨_,rfl⟩
   have hv3:=hb3.alloc hb3.size (.cells #[.int .i64 ga,.int .i64 gb] 25);rw[← hV3]at hv3;have A3:Hid (V3.heap[w3.heap.size]? = some (.cells #[.int .i64 ga,.int .i64 gb] 25 (0,0))):=Za (by rw[hV3];exact heap_alloc_new w3 _);have HV3:=Za hV3;replace R0:=Za (R0.out.below hv3);replace HBW:=Za (Below.next HBW.out hv3);have hs3:w3.heap.size < V3.heap.size:=by rw[hV3];simp
   clear hb3 hv3 hV3;go_wp2_with fail;rw[← HV3.out];clear HV3
   (with_reducible refine(HTO0.out _ R0.out.now).mono ?_);rintro e w4 ⟨uX0,rfl,L4,hb4⟩
   have X0:=Za (L4:H0 V3.heap.size w4.heap.size w4 uX0 p0);have A4:=Za ((hb4.block w3.heap.size hs3).trans A3.out);clear L4 A3;replace R0:=Za (R0.out.below hb4);replace HBW:=Za (Below.next HBW.out hb4);have hs4:=Nat.lt_of_lt_of_le hs3 hb4.size;clear hb4 hs3;go_wp2_with fail
   (with_reducible refine(HCI.out uX0 _ X0.out.Uo).mono ?_);rintro e w5 ⟨rfl,hb5⟩
   obtain⟨V5,hV5⟩:∃ V5,V5=w5.alloc (.cells #[.int .i64 ga,.int .i64 gb] 25):=⟨_,rfl⟩
   have hv5:=hb5.alloc hb5.size (.cells #[.int .i64 ga,.int .i64 gb] 25);rw[← hV5]at hv5;have hblk5:V5.heap[w5.heap.size]? = some (.cells #[.int .i64 ga,.int .i64 gb] 25 (0,0)):=by rw[hV5];exact heap_alloc_new w5 _
   have hblk3:=(hb5.block w3.heap.size hs4).trans A4.out;have hs5:=Nat.lt_of_lt_of_le hs4 hb5.size;have c0:=Zc hblk3 (k:=0) rfl;have c1:=Zc hblk3 (k:=1) rfl
   have HV5:=Za hV5;replace R0:=Za (R0.out.below hv5);replace X0:=Za (X0.out.below hv5);replace HBW:=Za (Below.next HBW.out hv5);clear hb5 hv5 hV5 hblk5 hblk3 hs4 A4;have HEQ:=Za (fun W=>show Calls Tryz.prog 12 #[.agg #[.int .i64 ga,.int .i64 gb],.agg #[.int .i64 ga,.int .i64 gb]] W _ from Dh ⟨ga,gb⟩ ⟨ga,gb⟩ W);go_wp2_with fail;rw[← HV5.out]
   (with_reducible refine(HEQ.out V5).mono ?_);rintro e w6 ⟨rfl,hb6⟩
   have hdt:decide ((⟨ga,gb⟩:Gp)=⟨ga,gb⟩)=true:=decide_eq_true rfl;replace R0:=Za (R0.out.below hb6);replace X0:=Za (X0.out.below hb6);replace HBW:=Za (Below.next HBW.out hb6);clear hb6;go_wp2_with fail
   (with_reducible refine(HTO0.out _ R0.out.now).mono ?_);rintro e w7 ⟨uE0,rfl,L7,hb7⟩
   have E0:=Za (L7:H0 w6.heap.size w7.heap.size w7 uE0 p0);clear L7;replace X0:=Za (X0.out.below hb7);replace HBW:=Za (Below.next HBW.out hb7);clear hb7;go_wp2_with fail
   (with_reducible refine(Er uX0 uE0 p0 _ X0.out.Uo E0.out.Uo).mono ?_);rintro e w8 ⟨rfl,hb8⟩
   replace HBW:=Za (Below.next HBW.out hb8);go_wp2_with fail;go_ret;exact⟨rfl,HBW.out⟩
end Go.Proofs.YtngekjpklkjnbaaGreat
namespace Go.Proofs.YtngekjpklkjnbaaGreat
open Go.RowKit Go.ChangeShapes Go.WideShapes Go.ChangeAt
open Go.ChangeMaps (open_string)
theorem XZ:∀ t∈Tryz.f3.params.toList,Tryz.prog.readableRec t=true∧t < Tryz.prog.types.size:=by
 intro t ht;have:t=22∨t=9:=by simpa[Tryz.params3] using ht
 rcases this with rfl | rfl
 ·exact⟨Kr,of_decide_eq_true Kr⟩
 ·exact⟨Kr,of_decide_eq_true Kr⟩
theorem XQ (os:Os) (started:os.Started) (H:Type) (enc:TypeId × Value→H) :
 ReturnsInHanded {} Tryz.checked os 3 .any (Rows.fnExactUselessFenceSpec.pre6 enc Tryz.prog Tryz.f3 Rows.fnExactUselessFenceRow.domain false) (Rows.fnExactUselessFenceSpec.post enc Tryz.prog Tryz.f3 false true false false):=by
 refine returnsInHanded_of_change (C:=Tryz.checked) Tryz.own started Kr Tryz.func3
  (ChangeSpec.witness6 (enc:=enc) (C:=Tryz.checked) false ⟨#[],#[.slice none 0 0,.string ⟨#[]⟩],[]⟩ 8 Kr Kr Kr Kr) ?_
 intro W base args ds gs before hval0 hW hcnd _;have hval:∀ (j:Nat) t v,Tryz.f3.params[j]? = some t→args[j]? = some v→Value.okWide Tryz.prog W .any base t v:=hval0;have hW':=hW;obtain⟨p,q,hA0,hV,rfl,hfz,hnd⟩:=hW;have hA:DataW.TrodAll enc Tryz.prog W 0 (fun _=>true) true Tryz.f3.params.toList args.toList ds p:=hA0;rw[Tryz.params3]at hA hval;obtain⟨v0,v1,d0,d1,p0,p1,rfl,rfl,rfl,h0,h1⟩:=trodAll_two hA;obtain⟨rfl,rfl⟩:=trodVars_none hV;obtain⟨P0,hP0⟩:=Ri (okWide_slice Tryz.underlying22 (hval 0 22 v0 rfl rfl)) h0;obtain⟨s1,rfl,rfl,rfl,hs1⟩:=open_string Tryz.underlying9 (hval 1 9 v1 rfl rfl) h1;refine(Jd v0 P0 s1 W hP0).mono fun e W' ⟨he,hb⟩ => ?_;exact⟨_,he,AQ Tryz.laidOut XZ rfl rfl Kr Tryz.underlying4 hW' hb⟩
theorem fnExactUselessFence_holds:Rows.FnExactUselessFenceSaid:=
 OpenClaim.holds_of_wide 3 Tryz.f3 rfl rfl rfl rfl rfl rfl rfl ⟨rfl,rfl,rfl,rfl,rfl⟩ rfl rfl rfl rfl rfl Kr Tryz.func3 Kr
  (of_decide_eq_true Kr) (by unfold Func.isWrapper;first | (rw[if_pos (by decide +kernel)];kernel_rfl) | (rw[if_neg (by decide +kernel)];exact⟨rfl,rfl⟩))
  (fun os started H enc _=>XQ os started H enc)
end Go.Proofs.YtngekjpklkjnbaaGreat