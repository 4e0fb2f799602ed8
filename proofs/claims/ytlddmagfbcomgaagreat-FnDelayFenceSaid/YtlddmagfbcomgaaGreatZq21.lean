/-
  The arguments that are drawn for RacesOf, SwapStores and ConflictRel. Condition: none but the bytes' own.
-/
import Derived.Test.YtlddmagfbcomgaaGreatZq15
import Derived.Test.YtlddmagfbcomgaaGreatZq03
set_option maxHeartbeats 6400000
set_option maxRecDepth 100000
namespace Go.Proofs.YtlddmagfbcomgaaGreat
open Go.RowKit
def RetProg (w:World) (e:Ending) (w':World):Prop:=∃ (v:Value) (P:List (List Ins)),e = .returned v∧RepP w' v P∧P.length≤5∧(∀ r∈P,r.length≤9)∧Below w.heap.size w w'
theorem flatten_bound9 {P:List (List Ins)} (hl:P.length≤5) (h:∀ r∈P,r.length≤9):P.flatten.length≤45:=by
 have:=flatten_bound P 9 h
 have:P.length * 9≤5 * 9:=Nat.mul_le_mul_right _ hl
 omega
theorem DrawRacesOf_any (v:Value) (xs0:List Int) (w:World) (hx:Rep ByteE w v xs0) (hb:∀ x∈xs0,0≤x∧x≤255) :
 Calls Tryz.prog 66 #[v] w (RetProg w):=by
 have HO:=hide (l17Open_any v xs0 w hx hb)
 clear hx hb
 go_enter Tryz.func66,Tryz.ntmps66
 go_wp2_with fail
 (with_reducible refine HO.out.mono ?_);rintro e w1 ⟨b,a,c,xs,rfl,hr1,hbs,hb1⟩
 have R1:=hide hr1;have HB1:=hide hb1
 clear hr1 hb1 HO
 have hlt:=R1.out.lt
 go_wp2_with fail
 (with_reducible refine (l10Draw_any b a c xs 0 _ R1.out (by omega)).mono ?_);rintro e w2 ⟨v2,p2,rfl,hQ,hp2,hr2,ho2⟩
 obtain ⟨P,hP,hl,hl2⟩:=hQ
 have R2:=hide hr2;have O2:=hide ho2;have HP:=hide hP;have HL2:=hide hl2
 clear hr2 ho2 hP hl2 R1
 go_wp2_with fail
 (with_reducible refine (l1Mutate_any b a c xs p2 v2 P _ R2.out (by omega) HP.out.rep hl HL2.out).mono ?_);rintro e w3 ⟨v3,p3,rfl,hQ3,hp3,hr3,ho3⟩
 obtain ⟨P3,hP3,hl3,hl4⟩:=hQ3.open
 have HL4:=hide hl4
 have HB3:=hide (HB1.out.trans (below_of_outside (O2.out.trans ho3) hbs HB1.out.size))
 clear hr3 ho3 hQ3 hl4
 go_wp2_with fail
 go_ret
 exact ⟨_,P3,rfl,hP3,hl3,HL4.out,HB3.out⟩
end Go.Proofs.YtlddmagfbcomgaaGreat