/-
  The law FnExactPutFences answers true.
-/
import Derived.Test.YtpnmphfdfadlcaaF2
import Derived.Test.YtpnmphfdfadlcaaF22
import Derived.Test.YtpnmphfdfadlcaaF23
namespace Go.Proofs.Ytpnmphfdfadlcaa
open Go.RowKit

theorem Outside.wide {lo hi lo' hi' : Nat} {w w' : World} (h : Outside lo hi w w') (h1 : lo' ≤ lo) (h2 : hi ≤ hi') : Outside lo' hi' w w' :=
  ⟨h.os, h.tape, h.output, h.size, fun k hk hlh => h.block k hk (by omega)⟩

/-- What marking a list of gaps turns. -/
theorem outside_row {lo hi : Nat} {w w' : World} {base : Nat} {v : Value} {xs : List Gp} {w0 : World} (h : w.grownBy w' v.ownBlock) (ho : OwnG w0 base v xs) (h1 : lo ≤ base) (h2 : w0.heap.size ≤ hi) : Outside lo hi w w' :=
  (Outside.refl lo hi w).grown h (fun q hq => by have := World.ownsRow.lt ho q hq; omega)

theorem szPP_top (p : List (List Ins)) (h : ¬ szPP p 1048576 < 0) : szPP p 1048576 ≤ 1048576 := by
  unfold szPP at *
  split at h
  · omega
  · rename_i hl
    rw [if_neg hl]
    have := (szP_le p (1048576 - p.length) (by omega)).1
    omega

theorem putV_len (p : List (List Ins)) (L : List Gp) (h : p.length ≤ 1048576) : (putV p L).length ≤ 1048576 := by
  unfold putV
  split
  · rw [putP_length]; exact h
  · simp
theorem putV_sum (p : List (List Ins)) (L : List Gp) : sumN ((putV p L).map List.length) ≤ 268435456 := by
  rw [sumN_flatten]
  unfold putV
  split
  · rename_i h
    unfold putOk at h
    simp only [Bool.and_eq_true] at h
    obtain ⟨hv1, -, hv3, -⟩ := valid_le h.1.1
    have := putP_flat (f := inL L) hv1 (fun r hr => (hv3 r hr).1)
    omega
  · simp

set_option maxRecDepth 100000 in
set_option maxHeartbeats 3200000 in
theorem lawPutFences (v : Value) (p : List (List Ins)) (l : Value) (L : List Gp) (w : World) (hp : RepP w v p) (hL : Rep GapE w l L) :
    Calls Try.prog 5 #[v, l] w fun e w' => e = .returned (.bool true) ∧ Below w.heap.size w w' := by
  have HP := hide hp; clear hp
  obtain ⟨la, lc, rfl, hlc1, hlc2, hlc3, hL⟩ := hL.open
  have HL := hide hL; clear hL
  by_cases hs : szPP p 1048576 < 0
  · have hS := szInstrSS_any v p 1048576 w HP.out (by omega) (by omega)
    generalize szPP p 1048576 = z at *
    have HS := hide hS; clear hS
    go_enter Try.func5, Try.ntmps5
    go_wp2_with (go_at_call 31; (with_reducible refine HS.out.mono ?_); rintro e w1 ⟨rfl, hb1⟩)
    go_ret
    exact ⟨rfl, hb1⟩
  · obtain ⟨hl1, hl2, hl3⟩ := szPP_le p hs
    have hS := szInstrSS_any v p 1048576 w HP.out (by omega) (by omega)
    have hzle : szPP p 1048576 ≤ 1048576 := szPP_top p hs
    generalize szPP p 1048576 = z at *
    have HS := hide hS; clear hS
    have HZ := hide (fun w' => szGapS_any la L.length lc z w' (by omega) (by omega) hzle)
    by_cases hs2 : z - (L.length : Int) < 0
    · rw [if_pos hs2] at HZ
      generalize L.length = m at *
      go_enter Try.func5, Try.ntmps5
      go_wp2_with fail
      (with_reducible refine HS.out.mono ?_); rintro e w1 ⟨rfl, hb1⟩
      go_wp2_with fail
      (with_reducible refine (HZ.out _).mono ?_); rintro e w2 ⟨rfl, rfl⟩
      go_wp2_with fail
      go_ret
      exact ⟨rfl, hb1⟩
    rw [if_neg hs2] at HZ
    have hLl : L.length ≤ 1048576 := by omega
    have hsum : sumN (p.map List.length) ≤ 268435456 := by rw [sumN_flatten]; omega
    have hgl := putV_len p L hl1
    have hgs := putV_sum p L
    have HL3 := hide hl3; clear hl3
    have CS : ∀ u k w', RepP w' u p → Rep GapE w' k L → Calls Try.prog 33 #[u, k] w' (RetOwn2B InsE 73 72 w' (putV p L) (putOk p L)) := fun u k w' h h' => sPutFences_any u k p L w' h h' hl2 hl1
    have CI : ∀ u k w', RepP w' u p → Rep GapE w' k L → Calls Try.prog 36 #[u, k] w' (RetOwn2B InsE 73 72 w' (putV p L) (putOk p L)) := fun u k w' h h' => PutFences_any u k p L w' h h' hl2
    have CG : ∀ w', Rep GapE w' (.slice la L.length lc) L → Calls Try.prog 35 #[.slice la L.length lc] w' (RetOwn GapE 70 w' L) := fun w' h => toGapS_any _ L w' h hLl
    have HCS := hide CS; have HCI := hide CI; have HCG := hide CG
    clear CS CI CG
    generalize hM : sumN (p.map List.length) = M at *
    have HM := hide hM; clear hM
    generalize hOK : putOk p L = ok at *
    generalize hG : putV p L = G at *
    generalize hN : sumN (G.map List.length) = N at *
    have HN := hide hN
    have HMG := hide (fun v' w' base h => markGapS_any v' L (1 + 4 * M) w' base h (by omega) (by omega) (by omega))
    clear hG hOK hN
    generalize hm : L.length = m at *
    clear hm
    go_enter Try.func5, Try.ntmps5
    go_wp2_with fail
    (with_reducible refine HS.out.mono ?_); rintro e w1 ⟨rfl, hb1⟩
    go_wp2_with fail
    (with_reducible refine (HZ.out _).mono ?_); rintro e w1' ⟨rfl, rfl⟩
    go_wp2_with fail
    (with_reducible refine (toInstrSS_any v p w1 (HP.out.below hb1) hl1 HL3.out).mono ?_); rintro e w2 ⟨v1, rfl, o1, hb2⟩
    have c2 := Below.next hb1 hb2
    go_wp2_with fail
    (with_reducible refine (HCG.out w2 (HL.out.below c2)).mono ?_); rintro e w3 ⟨l1, rfl, p1, hb3⟩
    go_wp2_with fail
    (with_reducible refine (HCS.out v1 l1 w3 (o1.below hb3).rep p1.rep).mono ?_); rintro e w4 ⟨v2, rfl, o2, hb4⟩
    have c4 := Below.next c2 (Below.next hb3 hb4)
    go_wp2_with fail
    (with_reducible refine (toInstrSS_any v p w4 (HP.out.below c4) hl1 HL3.out).mono ?_); rintro e w5 ⟨x0, rfl, o3, hb5⟩
    have c5 := Below.next c4 hb5
    go_wp2_with fail
    (with_reducible refine (HCG.out w5 (HL.out.below c5)).mono ?_); rintro e w6 ⟨x1, rfl, p3, hb6⟩
    go_wp2_with fail
    (with_reducible refine (HCI.out x0 x1 w6 (o3.below hb6).rep p3.rep).mono ?_); rintro e w7 ⟨g0, rfl, o4, hb7⟩
    have o2' := o2.below (Below.next hb5 (Below.next hb6 hb7))
    go_wp2_with fail
    (with_reducible refine (eqInstrSS_any g0 v2 G G w7 o4.rep o2'.rep).mono ?_); rintro e w8 ⟨rfl, hb8⟩
    have c8 := Below.next c5 (Below.next hb6 (Below.next hb7 hb8))
    rw [decide_eq_true (rfl : G = G)]
    have hbb : (ok != ok) = false := by cases ok <;> rfl
    go_wp2_with fail
    (with_reducible refine (toInstrSS_any v p w8 (HP.out.below c8) hl1 HL3.out).mono ?_); rintro e w9 ⟨v3, rfl, o5, hb9⟩
    have b58 := Below.next hb6 (Below.next hb7 hb8)
    go_wp2_with fail
    (with_reducible refine (eqInstrSS_any x0 v3 p p w9 (o3.below (Below.next b58 hb9)).rep o5.rep).mono ?_); rintro e w10 ⟨rfl, hb10⟩
    rw [decide_eq_true (rfl : p = p)]
    have c10 := Below.next c8 (Below.next hb9 hb10)
    go_wp2_with fail
    (with_reducible refine (HCG.out w10 (HL.out.below c10)).mono ?_); rintro e w11 ⟨l3, rfl, p5, hb11⟩
    have b6_11 := Below.next hb7 (Below.next hb8 (Below.next hb9 (Below.next hb10 hb11)))
    go_wp2_with fail
    (with_reducible refine (eqGapS_any x1 l3 L L w11 (p3.below b6_11).rep p5.rep).mono ?_); rintro e w12 ⟨rfl, hb12⟩
    rw [decide_eq_true (rfl : L = L)]
    have b6_12 := Below.next b6_11 hb12
    have b5_12 := Below.next hb6 b6_12
    have b4_12 := Below.next hb5 b5_12
    have c12 := Below.next c4 b4_12
    go_wp2_with fail
    (with_reducible refine (markInstrSS_any x0 p 1 w5 w12 _ o3 b5_12 (by rw [HM.out]; exact hsum) hl1 (by omega) (by omega)).mono ?_)
    rw [HM.out]
    rintro e w13 ⟨rfl, o6, out13⟩
    have p13 : OwnG w13 w5.heap.size x1 L := out13.own (p3.below b6_12) (fun q hq => .inr (World.ownsRow.lt p3 q hq).1)
    go_wp2_with fail
    (with_reducible refine (HMG.out x1 w13 _ p13).mono ?_)
    rintro e w14 ⟨rfl, p14, hgr14⟩
    have out14 : Outside w5.heap.size w6.heap.size w13 w14 := outside_row hgr14 p3 (Nat.le_refl _) (Nat.le_refl _)
    have h45 := hb5.size
    have h56 := hb6.size
    have out : Outside w4.heap.size w6.heap.size w12 w14 := (out13.wide (Nat.le_refl _) h56).trans (out14.wide h45 (Nat.le_refl _))
    have o2'' := o2.outLo b4_12 out (Nat.le_refl _)
    have o4'' := (o4.below (Below.next hb8 (Below.next hb9 (Below.next hb10 (Below.next hb11 hb12))))).outHi out (Nat.le_refl _)
    have c14 := c12.trans (out.below (by have := c4.size; omega) c12.size)
    have hk0 : ¬ (1 + 4 * M + 2 * (m : Int) < 0) := by omega
    go_wp2_with fail
    (with_reducible refine (eqInstrSS_any g0 v2 G G w14 o4''.rep o2''.rep).mono ?_); rintro e w15 ⟨rfl, hb15⟩
    rw [decide_eq_true (rfl : G = G)]
    have q4 := o4''.below hb15
    have c15 := Below.next c14 hb15
    go_wp2_with fail
    (with_reducible refine (markInstrSS_any g0 G 1 w15 w15 w6.heap.size q4 (Below.refl _ _) (by rw [HN.out]; exact hgs) hgl (by omega) (by omega)).mono ?_)
    rw [HN.out]
    rintro e w16 ⟨rfl, o7, out16⟩
    have h4_15 : Below w4.heap.size w4 w15 := (b4_12.trans (out.below (B := w4.heap.size) (Nat.le_refl _) b4_12.size)).trans (hb15.mono (by have := out.size; have := b4_12.size; omega))
    have q2 := o2.outLo h4_15 out16 (by omega)
    have c16 := c15.trans (out16.below (B := w.heap.size) (by have := c4.size; omega) (by have := c15.size; omega))
    go_wp2_with fail
    (with_reducible refine (heldInstrSS_any g0 (G.map List.length) 1 w16 o7.rep (by rw [HN.out]; exact hgs) (by omega) (by omega)).mono ?_)
    rw [HN.out]
    rintro e w17 ⟨rfl, rfl⟩
    go_wp2_with fail
    (with_reducible refine (toInstrSS_any v p w16 (HP.out.below c16) hl1 HL3.out).mono ?_); rintro e w18 ⟨v4, rfl, o8, hb18⟩
    have c18 := Below.next c16 hb18
    go_wp2_with fail
    (with_reducible refine (HCG.out w18 (HL.out.below c18)).mono ?_); rintro e w19 ⟨l4, rfl, p8, hb19⟩
    go_wp2_with fail
    (with_reducible refine (HCI.out v4 l4 w19 (o8.below hb19).rep p8.rep).mono ?_); rintro e w20 ⟨h0, rfl, o9, hb20⟩
    go_wp2_with fail
    (with_reducible refine (eqInstrSS_any h0 v2 G G w20 o9.rep (q2.below (Below.next hb18 (Below.next hb19 hb20))).rep).mono ?_); rintro e w21 ⟨rfl, hb21⟩
    rw [decide_eq_true (rfl : G = G)]
    have b16_21 := Below.next hb18 (Below.next hb19 (Below.next hb20 hb21))
    go_wp2_with fail
    (with_reducible refine (heldInstrSS_any g0 (G.map List.length) 1 w21 (o7.below b16_21).rep (by rw [HN.out]; exact hgs) (by omega) (by omega)).mono ?_)
    rw [HN.out]
    rintro e w22 ⟨rfl, rfl⟩
    go_wp2_with fail
    go_ret
    exact ⟨rfl, Below.next c16 b16_21⟩

end Go.Proofs.Ytpnmphfdfadlcaa
