/-
  The draws of the laws on least and useless fences. Condition: none but what the slice reads as.
-/
import Derived.Test.YtngekjpklkjnbaaGreatZp31
set_option maxHeartbeats 6400000
set_option maxRecDepth 100000
namespace Go.Proofs.YtngekjpklkjnbaaGreat
open Go.RowKit
theorem Ks {P:List (List Ins)}(hl:P.length≤5) (h:∀ r∈P,r.length≤9):P.flatten.length≤45:=by
 have:=YE P 9 h;have:P.length * 9≤5 * 9:=Nat.mul_le_mul_right _ hl;omega
def FM:List ByteArray:=[⟨#[116,115,111]⟩,⟨#[112,115,111]⟩,⟨#[116,115,111]⟩,⟨#[112,115,111]⟩,⟨#[114,97]⟩,⟨#[115,101,113]⟩,⟨#[]⟩]
def VN (w:World) (e:Ending) (w':World):Prop:=∃ (v:Value) (P:List (List Ins)) (s:ByteArray),e = .returned (.tuple #[v,.string s])∧Z9 w' v P∧P.length≤5∧(∀ r∈P,r.length≤9)∧s∈FM∧Below w.heap.size w w'
theorem IB (v:Value) (xs0:List Int) (w:World) (hx:ZC Zu w v xs0) (hb:∀ x∈xs0,0≤x∧x≤255) :
 Calls Tryz.prog 47 #[v] w (VN w):=by
 have HO:=Za (Ef v xs0 w hx hb);clear hx hb;go_enter Tryz.func47,Tryz.ntmps47;go_wp2_with fail
 (with_reducible refine HO.out.mono ?_);rintro e w1 ⟨b,a,c,xs,rfl,hr1,hbs,hb1⟩
 have R1:=Za hr1;have HB1:=Za hb1
 have hlt:=hr1.lt;clear hr1 hb1 HO;go_wp2_with fail
 (with_reducible refine(FJ b a c xs 0 _ R1.out Om).mono ?_);rintro e w2 ⟨v2,p2,rfl,hQ,hp2,hr2,ho2⟩
 obtain⟨P,hP,hl,hl2⟩:=hQ;have R2:=Za hr2;have O2:=Za ho2;have HP:=Za hP;have HL2:=Za hl2
 have hs2:=ho2.size;clear hr2 ho2 hP hl2 R1;go_wp2_with fail
 (with_reducible refine(Co b a c xs p2 v2 P _ R2.out Om HP.out.rep hl HL2.out).mono ?_);rintro e w4 ⟨v4,p4,rfl,hQ4,hp4,hr4,ho4⟩
 have R4:=Za hr4;have hs4:=ho4.size;have HB4:=Za (HB1.out.trans (JC (O2.out.trans ho4) hbs HB1.out.size));have hlt4:b < w4.heap.size:=Om;have L4:=Za (Own.lit (E:=JB) (T:=9) (Nat.le_refl w4.heap.size) FM #[.string ⟨#[116,115,111]⟩,.string ⟨#[112,115,111]⟩,.string ⟨#[116,115,111]⟩,.string ⟨#[112,115,111]⟩,.string ⟨#[114,97]⟩,.string ⟨#[115,101,113]⟩,.string ⟨#[]⟩] 7 rfl rfl Om);have HF:=Za (Mp b a c xs p4 _ FM _ _ (R4.out.Zp _) Om L4.out Dc Dc hlt4);have HQ4:=Za (hQ4.below (Ze w4 (.cells #[.string ⟨#[116,115,111]⟩,.string ⟨#[112,115,111]⟩,.string ⟨#[116,115,111]⟩,.string ⟨#[112,115,111]⟩,.string ⟨#[114,97]⟩,.string ⟨#[115,101,113]⟩,.string ⟨#[]⟩] 9)));have HB5:=Za (HB4.out.alloc HB4.out.size (.cells #[.string ⟨#[116,115,111]⟩,.string ⟨#[112,115,111]⟩,.string ⟨#[116,115,111]⟩,.string ⟨#[112,115,111]⟩,.string ⟨#[114,97]⟩,.string ⟨#[115,101,113]⟩,.string ⟨#[]⟩] 9));clear hr4 ho4 hQ4 L4 R4;go_wp2_with fail
 (with_reducible refine HF.out.mono ?_);rintro e w5 ⟨v5,p5,rfl,⟨y,hy,rfl⟩,hp5,hr5,ho5⟩
 obtain⟨P4,hP4,hl4,hl5⟩:=(HQ4.out.outside ho5 Om).open;have F:Hid (VN w (.returned (.tuple #[v4,.string y])) w5):=Za ⟨v4,P4,y,rfl,hP4,hl4,hl5,hy,HB5.out.trans (JC ho5 (by have:=HB1.out.size;omega) HB5.out.size)⟩;clear hP4 hl5 ho5 hr5;go_wp2_with fail;go_ret2;exact F.out
theorem Q3 (v:Value) (xs0:List Int) (w:World) (hx:ZC Zu w v xs0) (hb:∀ x∈xs0,0≤x∧x≤255) :
 Calls Tryz.prog 23 #[v] w (VN w):=by
 have H:=Za (IB v xs0 w hx hb);clear hx hb;go_enter Tryz.func23,Tryz.ntmps23;go_wp2_with fail
 (with_reducible refine H.out.mono ?_);rintro e w1 ⟨v1,P,s,rfl,h⟩
 have F:=Za (⟨v1,P,s,rfl,h⟩:VN w (.returned (.tuple #[v1,.string s])) w1);clear h;go_wp2_with fail;go_ret2;exact F.out
end Go.Proofs.YtngekjpklkjnbaaGreat