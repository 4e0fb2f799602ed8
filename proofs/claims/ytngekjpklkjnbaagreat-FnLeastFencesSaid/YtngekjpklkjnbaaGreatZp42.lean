/-
  FnLeastFences: for every input the law returns true and the input reads afterwards as it read before. No condition.
-/
import Derived.Test.YtngekjpklkjnbaaGreatZp30
import Derived.Test.YtngekjpklkjnbaaGreatZp37
import Derived.Test.YtngekjpklkjnbaaGreatZp34
set_option maxHeartbeats 6400000
set_option maxRecDepth 100000
namespace Go.Proofs.YtngekjpklkjnbaaGreat
open Go.RowKit
theorem Mm {s:ByteArray}{p:List (List Ins)}{L:List Gp}(h:QB s p=some L):∃ split,s=Bb split∧YF split p=some L:=by
 cases hb:F9 s with
 | false=>rw[Cw hb]at h;cases h
 | true =>
  obtain⟨split,rfl⟩:=FA hb;rw[Kw]at h;exact⟨split,rfl,h⟩
theorem ZC.PW {α:Type}{E:El α}{w:World}{a:Option Addr}{n c:Nat}{xs:List α}(h:ZC E w (.slice a n c) xs) {k:Nat}(hk:k≤xs.length):ZC E w (.slice a k c) (xs.take k):=by
 obtain⟨a',c',hv,h1,h2,h3⟩:=h;simp only[Value.slice.injEq]at hv;obtain⟨rfl,rfl,rfl⟩:=hv;refine⟨a,c,by rw[List.length_take,Nat.min_eq_left hk],by rw[List.length_take];omega,h2,fun i x hx => ?_⟩;rw[List.getElem?_take]at hx;split at hx
 ·exact h3 i x hx
 ·cases hx
theorem Uw (v:Value) (xs:List Int) (w:World) (h:ZC Zu w v xs∧∀ x∈xs,0≤x∧x≤255) :
 Calls Tryz.prog 6 #[v] w fun e w'=>e = .returned (.bool true)∧Below w.heap.size w w':=by
 obtain⟨hx,hb⟩:=h;obtain⟨a0,c0,rfl,-,hm,-,hx⟩:=hx.open;have HD:=Za (Q3 (.slice a0 xs.length c0) xs w hx hb);clear hx hb;generalize xs.length=n at *;by_cases hl:(n:Int) > 1048576
 ·go_enter Tryz.func6,Tryz.ntmps6
  go_wp2_with fail;go_ret;exact⟨rfl,Below.refl _ _⟩
 ·have hl':decide ((n:Int) > 1048576)=false:=decide_eq_false hl
  go_enter Tryz.func6,Tryz.ntmps6;go_wp2_with fail
  (with_reducible refine HD.out.mono ?_);rintro e w1 ⟨v1,P,s,rfl,hP,hPl,hPr,-,hb1⟩
  have hfl:=Ks hPl hPr;have HP:=Za hP;have HB1:=Za hb1
  have HI:=Za (YU v1 P s w1 hP Om);have HS:=Za (fun W h=>Qi v1 P s W h Om Om);have HPF:=Za (fun W v2 L (h:Z9 W v1 P) hL=>Vg v1 v2 P L W h hL Om);have HLS:=Za (fun L (h:QB s P=some L)=>Mm h);clear hP hb1 HD hPr hfl hPl;generalize QB s P=R at *;go_wp2_with fail
  (with_reducible refine HI.out.mono ?_);rintro e w2 ⟨⟨ua,un,uc⟩,rfl,o2,hb2⟩
  have O2:=Za o2;have HB2:=Za (HB1.out.trans (hb2.mono HB1.out.size));have HP2:=Za (HP.out.below hb2)
  clear o2 hb2 HI HP HB1;go_wp2_with fail
  (with_reducible refine(HS.out _ HP2.out).mono ?_);rintro e w3 ⟨⟨va,vn,vc⟩,rfl,o3,hb3⟩
  have O3:=Za o3.rep;have HB3:=Za (HB2.out.trans (hb3.mono HB2.out.size));have HP3:=Za (HP2.out.below hb3);have O2':=Za (O2.out.below hb3).rep
  clear o3 hb3 HS HP2 HB2 O2;have hBB:(R.isSome==R.isSome)=true:=by simp
  have hBB2:(R.isSome != R.isSome)=false:=by simp
  cases R with
  | none =>
   clear HLS;go_wp2_with (first
    | (go_at_call 24;(with_reducible refine(Ja _ _ _ w3 O2'.out O3.out).mono ?_);rintro e w4 ⟨rfl,hb4⟩;have HB4:=Za (HB3.out.trans (hb4.mono HB3.out.size));have O4:=Za (O2'.out.below hb4);have O5:=Za (O3.out.below hb4);clear hb4)
    | (go_at_call 24;(with_reducible refine(Ja _ _ _ w4 O4.out O5.out).mono ?_);rintro e w5 ⟨rfl,hb5⟩;have HB5:=Za (HB4.out.trans (hb5.mono HB4.out.size));clear hb5))
   go_ret;exact⟨rfl,HB5.out⟩
  | some L =>
   obtain⟨split,rfl,hlv⟩:=HLS.out L rfl;obtain⟨hok,hno,hl4,hv⟩:=RI hlv;have HRP:=Za (fun W v less (hW:Z9 W v (Y1 (Xo less) P))=>show Calls Tryz.prog 26 #[v,.string (Bb split)] W (VO split (Y1 (Xo less) P) W) from Jh split v (Y1 (Xo less) P) W hW (Nat.le_trans (U7 (Zv hv).1 (fun r hr=>((Zv hv).2.2.1 r hr).1)) Dc));have hok2:=hok;unfold RU at hok2;rw[Bool.and_eq_true]at hok2;have HPO:=Za hok2.1;have HRO:=Za hok2.2
   have HNO:=Za hno;have HPV:Hid (∀ L,XV P L=true→Ac P L=Y1 (Xo L) P):=Za (fun L h=>by unfold Ac;rw[if_pos h]);have HOL:Hid (ZC ZZ w3 (.slice ua un uc) L):=Za O2'.out;have hun:un=L.length:=by
    obtain⟨_,_,hv2,-⟩:=HOL.out;simp only[Value.slice.injEq]at hv2;exact hv2.2.1
   have huc:un≤uc:=by
    obtain⟨_,_,hv2,h2,-⟩:=HOL.out;simp only[Value.slice.injEq]at hv2;omega
   have HUN:=Za hun;have hun4:un≤4:=Om;clear HLS hlv hok hno hl4 hok2 hun hBB;generalize Bb split=nm at *;go_wp2_with (go_at_call 24;(with_reducible refine(Ja _ _ _ w3 O2'.out O3.out).mono ?_);rintro e w4 ⟨rfl,hb4⟩;have HB4:=Za (HB3.out.trans (hb4.mono HB3.out.size));have O4:=Za (HOL.out.below hb4);have HP4:=Za (HP3.out.below hb4);clear hb4 HB3 HOL HP3 O3 O2');have HC:=Za (HPF.out w4 (.slice ua un uc) L HP4.out O4.out);rw[HPO.out,HPV.out L HPO.out]at HC
   (with_reducible refine HC.out.mono ?_);rintro e w5 ⟨q5,rfl,o5,hb5⟩
   have HB5:=Za (HB4.out.trans (hb5.mono HB4.out.size));have O5:=Za (O4.out.below hb5);have HP5:=Za (HP4.out.below hb5);have Q5:=Za o5.rep
   clear HC o5 hb5 HB4 O4 HP4;go_wp2_with fail
   (with_reducible refine(HRP.out w5 q5 L Q5.out).mono ?_);rintro e w6 ⟨b6,rfl,hb6,hbw6⟩
   obtain rfl:b6=true:=(CJ hb6).symm.trans HRO.out;have HB6:=Za (HB5.out.trans (hbw6.mono HB5.out.size));have O6:=Za (O5.out.below hbw6);have HP6:=Za (HP5.out.below hbw6)
   clear hb6 hbw6 HB5 O5 HP5 Q5 HPO HRO;go_wp2_with fail
   go_loopw [11] (fun i wr => ∃ k:Nat,k≤un∧i = .int .i64 k∧Below w.heap.size w wr∧Below w6.heap.size w6 wr) (fun i _=>un - (intOf i).toNat)
   case atStart=>exact⟨0,Nat.zero_le _,rfl,HB6.out,Below.refl _ _⟩
   case round =>
    obtain⟨k,hk,rfl,hbr,hb6r⟩:=hrel;have HBR:=Za hbr;have HB6R:=Za hb6r
    by_cases hlt:k < un
    ·have hlt':=Zh hlt
     have HEr:=O6.out.below hb6r;obtain⟨g,hgk⟩:=Zd (xs:=L) (k:=k) (by rw[← HUN.out];exact hlt);obtain⟨b,o,hbo,hbf,f0,f1⟩:=HEr.I4 hgk;subst hbo;have hba:=(Below.refl wr.heap.size wr).alloc (Nat.le_refl _) (.cells #[] 25);have T1:=Za ((HEr.PW (k:=k) (by rw[← HUN.out];exact hk)).below hba.drew);have T2:=HEr.Fv (k:=k+1) (by rw[← HUN.out];exact hlt);rw[show ZZ.sz=2 from rfl]at T2;have HES:Hid (L.take k++L.drop (k+1)=L.eraseIdx k):=Za (List.eraseIdx_eq_take_drop_succ L k).symm;have hkc:(k:Int)≤(uc:Int):=Om;have hkm:(k:Int)+1≤(un:Int):=Om;have hk0:(0:Int)≤(k:Int)+1:=Om;have hmc:(un:Int)≤(uc:Int):=Om;have hkt:((k:Int)+1).toNat=k+1:=Om;have hwk:wrap64 ((k:Int)+1)=(k:Int)+1:=by unfold wrap64;omega
     have hwk2:IntKind.i64.wrap ((k:Int)+1)=(k:Int)+1:=by rw[IntKind.wrap_i64];omega
     have OE:Hid (Own ZZ 25 (wr.alloc (.cells #[] 25)).drew wr.heap.size (.slice (some ⟨wr.heap.size,0,none⟩) 0 0) []):=Za (Own.empty (E:=ZZ) 25 wr (Nat.le_refl _));have hl1:([]:List Gp).length+(L.take k).length≤68719476736:=by rw[List.length_take];simp;omega
     have hl2:([]++L.take k).length+(L.drop (k+1)).length≤68719476736:=by rw[List.nil_append,List.length_take,List.length_drop];have:=HUN.out;omega
     have HPW:=Za (HP6.out.below hb6r);have HNOK:=Za (HNO.out k (by rw[← HUN.out];exact hlt));clear HEr hgk hbr hb6r f1
     go_upto_region 14 with fail
     go_cut [12] (fun s5 W => ∃ f:Zs,s5 = .slice f.a f.n f.cap∧Own ZZ 25 W wr.heap.size f.v (L.eraseIdx k)∧Below wr.heap.size wr W)
     case first =>
      by_cases hck:uc=k+1
      ·rw[if_pos hck]at T2
       subst hck;rw[Nat.sub_self,Nat.sub_eq_zero_of_le (show un≤k+1 by omega)]at T2;have T2:=Za T2;have hkc:(k:Int)≤(k:Int)+1:=Om;have hmc2:(un:Int)≤(k:Int)+1:=Om
       go_region_held3 (fun V=>V.cell? ⟨b,o+k * 2,none⟩=some (.int .i64 g.t)) ((simp[go_sem, *]))
        (first
         | (refine JN ZZ 25 Tryz.Jn rfl Tryz.underlying33 wr.heap.size _ [] (L.take k) _ OE.out T1.out Dc hl1 Sm Rf _ _ Rf Rf Rf ?_;intro v6 w7 hown6 hgr6;obtain⟨⟨a6,n6,c6⟩,rfl,-⟩:=hown6.Yy;have O7:=Za hown6;have hk6:(∀ o,w7.cell? ⟨b,o,none⟩=wr.cell? ⟨b,o,none⟩):=(Cm hgr6 hbf (fun q hq=>by simp[Value.ownBlock]at hq;omega));have B7:=Za (Un hgr6);have hb7:=B7.out.size;have T3:=Za (T2.out.below B7.out);clear hown6 hgr6)
         | (refine JN ZZ 25 Tryz.Jn rfl Tryz.underlying33 wr.heap.size _ ([]++L.take k) (L.drop (k+1)) _ O7.out T3.out Dc hl2 Om Rf _ _ Rf Rf Rf ?_;intro v7 w8 hown7 hgr7;obtain⟨⟨a7,n7,c7⟩,rfl,-⟩:=hown7.Yy;have hk7:(∀ o,w8.cell? ⟨b,o,none⟩=wr.cell? ⟨b,o,none⟩):=(fun o=>(XP (hgr7.block b (Nat.lt_of_lt_of_le hbf hb7) (fun e=>by have:=(World.ownsRow.lt O7.out b e.symm).1;omega)) o).trans (hk6 o))))
       all_goals
        have O8:Hid (Own ZZ 25 w8 wr.heap.size (Zs.v ⟨a7,n7,c7⟩) (L.eraseIdx k)):=Za (by rw[← HES.out];exact hown7);have B8:=Za (B7.out.grown hgr7 (Nat.le_of_lt_succ (by have:=B7.out.size;omega)) (fun q hq=>(World.ownsRow.lt O7.out q hq).1));go_wp2_with fail;go_meet;exact⟨⟨a7,n7,c7⟩,rfl,O8.out,B8.out⟩
      ·rw[if_neg hck]at T2
       have T2:=Za T2
       go_region_held3 (fun V=>V.cell? ⟨b,o+k * 2,none⟩=some (.int .i64 g.t)) ((simp[go_sem, *]))
        (first
         | (refine JN ZZ 25 Tryz.Jn rfl Tryz.underlying33 wr.heap.size _ [] (L.take k) _ OE.out T1.out Dc hl1 Sm Rf _ _ Rf Rf Rf ?_;intro v6 w7 hown6 hgr6;obtain⟨⟨a6,n6,c6⟩,rfl,-⟩:=hown6.Yy;have O7:=Za hown6;have hk6:(∀ o,w7.cell? ⟨b,o,none⟩=wr.cell? ⟨b,o,none⟩):=(Cm hgr6 hbf (fun q hq=>by simp[Value.ownBlock]at hq;omega));have B7:=Za (Un hgr6);have hb7:=B7.out.size;have T3:=Za (T2.out.below B7.out);clear hown6 hgr6)
         | (refine JN ZZ 25 Tryz.Jn rfl Tryz.underlying33 wr.heap.size _ ([]++L.take k) (L.drop (k+1)) _ O7.out T3.out Dc hl2 Om Rf _ _ Rf Rf Rf ?_;intro v7 w8 hown7 hgr7;obtain⟨⟨a7,n7,c7⟩,rfl,-⟩:=hown7.Yy;have hk7:(∀ o,w8.cell? ⟨b,o,none⟩=wr.cell? ⟨b,o,none⟩):=(fun o=>(XP (hgr7.block b (Nat.lt_of_lt_of_le hbf hb7) (fun e=>by have:=(World.ownsRow.lt O7.out b e.symm).1;omega)) o).trans (hk6 o))))
       all_goals
        have O8:Hid (Own ZZ 25 w8 wr.heap.size (Zs.v ⟨a7,n7,c7⟩) (L.eraseIdx k)):=Za (by rw[← HES.out];exact hown7);have B8:=Za (B7.out.grown hgr7 (Nat.le_of_lt_succ (by have:=B7.out.size;omega)) (fun q hq=>(World.ownsRow.lt O7.out q hq).1));go_wp2_with fail;go_meet;exact⟨⟨a7,n7,c7⟩,rfl,O8.out,B8.out⟩
     case rest =>
      obtain⟨⟨a7,n7,c7⟩,rfl,h7,hb7⟩:=hcut;have O7:=Za h7.rep;have B7:=Za hb7
      have HBW:=Za (HBR.out.trans (hb7.mono HBR.out.size));have HB6W:=Za (HB6R.out.trans (hb7.mono HB6R.out.size));have HP7:=Za (HPW.out.below hb7)
      clear hwk hwk2 h7 hb7 T1 T2 OE HES hl1 hl2 hba f0;generalize wc=w7 at *;generalize L.eraseIdx k=less at *;have HC:=Za (HPF.out w7 (.slice a7 n7 c7) less HP7.out O7.out);have HPV2:=Za (HPV.out less);have HRL:=Za (fun W v h=>HRP.out W v less h);have HOKL:Hid (RU split P less=(XV P less&&Gl split (Y1 (Xo less) P))):=Za rfl;cases hpo:XV P less
      ·rw[hpo]at HC
       go_wp2_with fail
       (with_reducible refine HC.out.mono ?_);rintro e w8 ⟨q8,rfl,-,hb8⟩
       have B8:=Za hb8;clear hb8;go_wp2_with fail;go_roundw
       case rel=>exact⟨k+1,Om,Gn,HBW.out.trans (B8.out.mono HBW.out.size),HB6W.out.trans (B8.out.mono HB6W.out.size)⟩
       case measure=>simp[intOf];omega
      ·rw[hpo,HPV2.out hpo]at HC
       have HPO:=Za hpo;go_wp2_with fail
       (with_reducible refine HC.out.mono ?_);rintro e w8 ⟨q8,rfl,o8,hb8⟩
       have B8:=Za hb8;have Q8:=Za o8.rep
       clear hb8 o8;go_wp2_with fail
       (with_reducible refine(HRL.out w8 q8 Q8.out).mono ?_);rintro e w9 ⟨b9,rfl,hb9,hbw9⟩
       have hno:b9=false:=by
        have h1:=HNOK.out;rw[HOKL.out,HPO.out,CJ hb9]at h1;simpa using h1
       subst hno;have B9:=Za (B8.out.trans (hbw9.mono B8.out.size));clear hb9 hbw9;go_wp2_with fail;go_roundw
       case rel=>exact⟨k+1,Om,Gn,HBW.out.trans (B9.out.mono HBW.out.size),HB6W.out.trans (B9.out.mono HB6W.out.size)⟩
       case measure=>simp[intOf];omega
    ·have hlt':¬ ((k:Int) < (un:Int)):=Om
     clear hbr hb6r;go_wp2_with fail;go_ret;exact⟨rfl,HBR.out⟩
end Go.Proofs.YtngekjpklkjnbaaGreat
namespace Go.Proofs.YtngekjpklkjnbaaGreat
open Go.RowKit Go.ChangeShapes Go.WideShapes Go.ChangeAt
open Go.ChangeMaps (open_string)
theorem KX:∀ t∈Tryz.f6.params.toList,Tryz.prog.readableRec t=true∧t < Tryz.prog.types.size:=by
 intro t ht;have:t=39:=by simpa[Tryz.params6] using ht
 subst this;exact⟨Kr,of_decide_eq_true Kr⟩
theorem Ku (os:Os) (started:os.Started) (H:Type) (enc:TypeId × Value→H) :
 ReturnsInHanded {} Tryz.checked os 6 .any (Rows.fnLeastFencesSpec.pre6 enc Tryz.prog Tryz.f6 Rows.fnLeastFencesRow.domain false) (Rows.fnLeastFencesSpec.post enc Tryz.prog Tryz.f6 false true false false):=by
 refine returnsInHanded_of_change (C:=Tryz.checked) Tryz.own started Kr Tryz.func6
  (ChangeSpec.witness6 (enc:=enc) (C:=Tryz.checked) false ⟨#[],#[.slice none 0 0],[]⟩ 8 Kr Kr Kr Kr) ?_
 intro W base args ds gs before hval0 hW hcnd _;have hval:∀ (j:Nat) t v,Tryz.f6.params[j]? = some t→args[j]? = some v→Value.okWide Tryz.prog W .any base t v:=hval0;have hW':=hW;obtain⟨p,q,hA0,hV,rfl,hfz,hnd⟩:=hW;have hA:DataW.TrodAll enc Tryz.prog W 0 (fun _=>true) true Tryz.f6.params.toList args.toList ds p:=hA0;rw[Tryz.params6]at hA hval;obtain⟨v0,d0,rfl,rfl,h0⟩:=trodAll_one hA;obtain⟨rfl,rfl⟩:=trodVars_none hV;obtain⟨B0,hB0⟩:=Vi (okWide_slice Tryz.underlying39 (hval 0 39 v0 rfl rfl)) h0;refine(Uw v0 B0 W hB0).mono fun e W' ⟨he,hb⟩ => ?_;exact⟨_,he,RY Tryz.laidOut KX rfl rfl Kr Tryz.underlying4 hW' hb⟩
theorem fnLeastFences_holds:Rows.FnLeastFencesSaid:=
 OpenClaim.holds_of_wide 6 Tryz.f6 rfl rfl rfl rfl rfl rfl rfl ⟨rfl,rfl,rfl,rfl,rfl⟩ rfl rfl rfl rfl rfl Kr Tryz.func6 Kr
  (of_decide_eq_true Kr) (by unfold Func.isWrapper;first | (rw[if_pos (by decide +kernel)];kernel_rfl) | (rw[if_neg (by decide +kernel)];exact⟨rfl,rfl⟩))
  (fun os started H enc _=>Ku os started H enc)
end Go.Proofs.YtngekjpklkjnbaaGreat