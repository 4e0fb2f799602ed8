/-
  FnCondHolds: for every input the law returns true and the input reads afterwards as it read before. No condition.
-/
import Derived.Test.YtpjebgiejkglpaaZh19
import Derived.Test.YtpjebgiejkglpaaZh10
import Derived.Test.YtpjebgiejkglpaaZh07
import Derived.Test.YtpjebgiejkglpaaZh08
namespace Go.Proofs.Ytpjebgiejkglpaa
open Go.RowKit

set_option maxRecDepth 100000 in
set_option maxHeartbeats 6400000 in
theorem lawFnCondHolds (v : Value) (xs : List Int) (w : World) (h : Rep ByteE w v xs ∧ ∀ x ∈ xs, 0 ≤ x ∧ x ≤ 255) :
    Calls Try.prog 3 #[v] w fun e w' => e = .returned (.bool true) ∧ Below w.heap.size w w' := by
  obtain ⟨hx, hb⟩ := h
  obtain ⟨a0, c0, rfl, -, hm, -, hx⟩ := hx.open
  have HD := hide (DrawCondHolds_any (.slice a0 xs.length c0) xs w hx hb)
  clear hx hb
  generalize xs.length = n at *
  by_cases hl : (n : Int) > 1048576
  · go_enter Try.func3, Try.ntmps3
    go_wp2_with fail
    go_ret
    exact ⟨rfl, Below.refl _ _⟩
  · have hl' : decide ((n : Int) > 1048576) = false := decide_eq_false hl
    go_enter Try.func3, Try.ntmps3
    go_wp2_with fail
    (with_reducible refine HD.out.mono ?_); rintro e w1 ⟨vp, ⟨soa, son, soc⟩, P, os, o, t, q, x, ⟨sa, sn, sc⟩, ks, rfl, hP, hPv, hos, hol, hK, hd, hb1⟩
    have hfl : P.flatten.length ≤ 1048576 := by
      have h1 := flatten_bound P 7 (fun r hr => ((valid_le hPv).2.2.1 r hr).1)
      have h2 := (valid_le hPv).1
      have : P.length * 7 ≤ 3 * 7 := Nat.mul_le_mul_right _ h2
      omega
    have hpl : P.length ≤ 1048576 := by have := (valid_le hPv).1; omega
    have hA := belowAlloc w1 (.cells #[.int .i64 o, .int .i64 t, .int .i64 q, .int .i64 x, .slice sa sn sc] 27)
    have BC := hide (BoxC.new w1 o t q x sa sn sc 27)
    have HK := hide (hK.below hA); have HP := hide (hP.below hA); have HO := hide (hos.below hA)
    have H1 := hide (hb1.trans (hA.mono hb1.size))
    have HC := hide (fun (o t q x : Int) (s : Slc) (ks : List Cd) w' (h1 : RepP w' vp P) (h2 : Rep IntE w' (.slice soa son soc) os) (h3 : RepK 0 w' s ks) => CondHolds_any vp (.slice soa son soc) P os o t q x ks s.a s.n s.cap w' h1 h2 h3 hfl hpl)
    have HCS := hide (fun w' (h1 : RepP w' vp P) (h2 : Rep IntE w' (.slice soa son soc) os) (h3 : RepK 0 w' ⟨sa, sn, sc⟩ ks) => CondHoldsS_any vp (.slice soa son soc) P os o t q x ks sa sn sc w' h1 h2 h3 hfl hpl (by omega))
    have HOV := hide (fun w' (h1 : RepP w' vp P) (h2 : Rep IntE w' (.slice soa son soc) os) => OutcomeValid_any vp (.slice soa son soc) P os w' h1 h2 hfl hpl)
    have HV := hide (fun w' h => CondValid_raw o t q x ks sa sn sc w' h)
    have HSN := hide hK.open.1
    clear hP hos hK hb1 hA HD hfl hpl hPv hol
    obtain ⟨lC, eC0, eC1, eC2, eC3, eC4⟩ := BC.out
    obtain ⟨C, hC⟩ : ∃ C, C = Cd.mk o t q x ks := ⟨_, rfl⟩
    rw [← hC] at HCS HV
    have HI0 := hide (HC.out o t q x ⟨sa, sn, sc⟩ ks)
    rw [← hC] at HI0
    have hop : C.op = o ∧ C.kids = ks := by rw [hC]; exact ⟨rfl, rfl⟩
    have HOP := hide hop
    obtain ⟨W, hW⟩ : ∃ W, W = w1.alloc (.cells #[.int .i64 o, .int .i64 t, .int .i64 q, .int .i64 x, .slice sa sn sc] 27) := ⟨_, rfl⟩
    rw [← hW] at HK HP HO H1 BC lC eC0 eC1 eC2 eC3 eC4
    obtain ⟨g, hg⟩ : ∃ g, g = w1.heap.size := ⟨_, rfl⟩
    rw [← hg] at BC lC eC0 eC1 eC2 eC3 eC4
    have HG := hide hg
    have HW := hide hW
    clear hC hop hW hg
    obtain ⟨OV, hOV⟩ : ∃ OV, outValid P os = OV := ⟨_, rfl⟩
    obtain ⟨V, hV⟩ : ∃ V, validC C = V := ⟨_, rfl⟩
    have EOV := hide hOV; have EV := hide hV
    rw [hOV] at HOV
    rw [hV] at HV
    obtain ⟨R, hR⟩ : ∃ R, condHolds P os C = R := ⟨_, rfl⟩
    have ER := hide hR
    rw [hR] at HI0 HCS
    clear hOV hV hR
    cases OV
    · obtain rfl : R = false := ER.out.symm.trans (cond_bad1 EOV.out)
      go_wp2_with fail
      rw [← HW.out, ← HG.out]
      obtain ⟨w2, hw2⟩ : ∃ w2, w2 = W := ⟨_, rfl⟩
      have B2 : Hid (Below W.heap.size W w2) := hide (by rw [hw2]; exact Below.refl _ _)
      rw [← hw2]
      clear hw2 lC eC0 eC1 eC2 eC3 eC4
      obtain ⟨lC, eC0, eC1, eC2, eC3, eC4⟩ := BC.out.below B2.out
      (with_reducible refine (HI0.out w2 (HP.out.below B2.out) (HO.out.below B2.out) (HK.out.below B2.out)).mono ?_); rintro e w3 ⟨rfl, hb3⟩
      have B3 := hide (B2.out.trans (hb3.mono B2.out.size))
      clear hb3 lC eC0 eC1 eC2 eC3 eC4
      obtain ⟨lC, eC0, eC1, eC2, eC3, eC4⟩ := BC.out.below B3.out
      go_wp2_with fail
      (with_reducible refine (HCS.out w3 (HP.out.below B3.out) (HO.out.below B3.out) (HK.out.below B3.out)).mono ?_); rintro e w4 ⟨rfl, hb4⟩
      have B4 := hide (B3.out.trans (hb4.mono B3.out.size))
      clear hb4 lC eC0 eC1 eC2 eC3 eC4
      obtain ⟨lC, eC0, eC1, eC2, eC3, eC4⟩ := BC.out.below B4.out
      go_wp2_with fail
      (with_reducible refine (HOV.out w4 (HP.out.below B4.out) (HO.out.below B4.out)).mono ?_); rintro e w5 ⟨rfl, hb5⟩
      have B5 := hide (B4.out.trans (hb5.mono B4.out.size))
      clear hb5 lC eC0 eC1 eC2 eC3 eC4
      obtain ⟨lC, eC0, eC1, eC2, eC3, eC4⟩ := BC.out.below B5.out
      go_wp2_with fail
      (with_reducible refine (HCS.out w5 (HP.out.below B5.out) (HO.out.below B5.out) (HK.out.below B5.out)).mono ?_); rintro e w6 ⟨rfl, hb6⟩
      have B6 := hide (B5.out.trans (hb6.mono B5.out.size))
      clear hb6 lC eC0 eC1 eC2 eC3 eC4
      obtain ⟨lC, eC0, eC1, eC2, eC3, eC4⟩ := BC.out.below B6.out
      go_wp2_with fail
      go_ret
      exact ⟨rfl, H1.out.trans (B6.out.mono H1.out.size)⟩
    · cases V
      · obtain rfl : R = false := ER.out.symm.trans (cond_bad2 EV.out)
        go_wp2_with fail
        rw [← HW.out, ← HG.out]
        obtain ⟨w2, hw2⟩ : ∃ w2, w2 = W := ⟨_, rfl⟩
        have B2 : Hid (Below W.heap.size W w2) := hide (by rw [hw2]; exact Below.refl _ _)
        rw [← hw2]
        clear hw2 lC eC0 eC1 eC2 eC3 eC4
        obtain ⟨lC, eC0, eC1, eC2, eC3, eC4⟩ := BC.out.below B2.out
        (with_reducible refine (HI0.out w2 (HP.out.below B2.out) (HO.out.below B2.out) (HK.out.below B2.out)).mono ?_); rintro e w3 ⟨rfl, hb3⟩
        have B3 := hide (B2.out.trans (hb3.mono B2.out.size))
        clear hb3 lC eC0 eC1 eC2 eC3 eC4
        obtain ⟨lC, eC0, eC1, eC2, eC3, eC4⟩ := BC.out.below B3.out
        go_wp2_with fail
        (with_reducible refine (HCS.out w3 (HP.out.below B3.out) (HO.out.below B3.out) (HK.out.below B3.out)).mono ?_); rintro e w4 ⟨rfl, hb4⟩
        have B4 := hide (B3.out.trans (hb4.mono B3.out.size))
        clear hb4 lC eC0 eC1 eC2 eC3 eC4
        obtain ⟨lC, eC0, eC1, eC2, eC3, eC4⟩ := BC.out.below B4.out
        go_wp2_with fail
        (with_reducible refine (HOV.out w4 (HP.out.below B4.out) (HO.out.below B4.out)).mono ?_); rintro e w5 ⟨rfl, hb5⟩
        have B5 := hide (B4.out.trans (hb5.mono B4.out.size))
        clear hb5 lC eC0 eC1 eC2 eC3 eC4
        obtain ⟨lC, eC0, eC1, eC2, eC3, eC4⟩ := BC.out.below B5.out
        go_wp2_with fail
        (with_reducible refine (HV.out w5 (HK.out.below B5.out)).mono ?_); rintro e w6 ⟨rfl, hb6⟩
        have B6 := hide (B5.out.trans (hb6.mono B5.out.size))
        clear hb6 lC eC0 eC1 eC2 eC3 eC4
        obtain ⟨lC, eC0, eC1, eC2, eC3, eC4⟩ := BC.out.below B6.out
        go_wp2_with fail
        (with_reducible refine (HCS.out w6 (HP.out.below B6.out) (HO.out.below B6.out) (HK.out.below B6.out)).mono ?_); rintro e w7 ⟨rfl, hb7⟩
        have B7 := hide (B6.out.trans (hb7.mono B6.out.size))
        clear hb7 lC eC0 eC1 eC2 eC3 eC4
        obtain ⟨lC, eC0, eC1, eC2, eC3, eC4⟩ := BC.out.below B7.out
        go_wp2_with fail
        go_ret
        exact ⟨rfl, H1.out.trans (B7.out.mono H1.out.size)⟩
      · have HV5 := hide (valid_kids EV.out)
        cases R
        · by_cases h5 : o = 5
          · subst h5
            go_wp2_with fail
            rw [← HW.out, ← HG.out]
            obtain ⟨w2, hw2⟩ : ∃ w2, w2 = W := ⟨_, rfl⟩
            have B2 : Hid (Below W.heap.size W w2) := hide (by rw [hw2]; exact Below.refl _ _)
            rw [← hw2]
            clear hw2 lC eC0 eC1 eC2 eC3 eC4
            obtain ⟨lC, eC0, eC1, eC2, eC3, eC4⟩ := BC.out.below B2.out
            (with_reducible refine (HI0.out w2 (HP.out.below B2.out) (HO.out.below B2.out) (HK.out.below B2.out)).mono ?_); rintro e w3 ⟨rfl, hb3⟩
            have B3 := hide (B2.out.trans (hb3.mono B2.out.size))
            clear hb3 lC eC0 eC1 eC2 eC3 eC4
            obtain ⟨lC, eC0, eC1, eC2, eC3, eC4⟩ := BC.out.below B3.out
            go_wp2_with fail
            (with_reducible refine (HCS.out w3 (HP.out.below B3.out) (HO.out.below B3.out) (HK.out.below B3.out)).mono ?_); rintro e w4 ⟨rfl, hb4⟩
            have B4 := hide (B3.out.trans (hb4.mono B3.out.size))
            clear hb4 lC eC0 eC1 eC2 eC3 eC4
            obtain ⟨lC, eC0, eC1, eC2, eC3, eC4⟩ := BC.out.below B4.out
            go_wp2_with fail
            (with_reducible refine (HOV.out w4 (HP.out.below B4.out) (HO.out.below B4.out)).mono ?_); rintro e w5 ⟨rfl, hb5⟩
            have B5 := hide (B4.out.trans (hb5.mono B4.out.size))
            clear hb5 lC eC0 eC1 eC2 eC3 eC4
            obtain ⟨lC, eC0, eC1, eC2, eC3, eC4⟩ := BC.out.below B5.out
            go_wp2_with fail
            (with_reducible refine (HV.out w5 (HK.out.below B5.out)).mono ?_); rintro e w6 ⟨rfl, hb6⟩
            have B6 := hide (B5.out.trans (hb6.mono B5.out.size))
            clear hb6 lC eC0 eC1 eC2 eC3 eC4
            obtain ⟨lC, eC0, eC1, eC2, eC3, eC4⟩ := BC.out.below B6.out
            obtain ⟨x0, hx0⟩ := HV5.out.1 HOP.out.1
            rw [HOP.out.2] at hx0
            have hR0 := (cond_not EV.out EOV.out HOP.out.1 (HOP.out.2.symm ▸ hx0)).symm.trans ER.out
            obtain ⟨K0, hK0⟩ : ∃ K0, condHolds P os x0 = K0 := ⟨_, rfl⟩
            rw [hK0] at hR0
            obtain ⟨b0, o0, s0, ha0, hbl0, i00, i01, i02, i03, i04, hk0⟩ := (HK.out.below B6.out).kid hx0
            simp only [Nat.zero_mul, Nat.add_zero] at i00 i01 i02 i03 i04
            subst ha0
            have hsn := HSN.out
            have hln := (List.getElem?_eq_some_iff.1 hx0).1
            have hs0 : (0 : Int) < sn := by omega
            have HC0 := hide (fun w' h1 h2 h3 => hK0 ▸ Cd.eta x0 ▸ HC.out x0.op x0.th x0.pl x0.val s0 x0.kids w' h1 h2 h3)
            have HKK := hide hk0
            clear hk0 hsn hln hx0 hK0
            have hRK : K0 = true := by simpa using hR0
            subst hRK
            clear hR0
            go_wp2_with fail
            (with_reducible refine (HC0.out w6 (HP.out.below B6.out) (HO.out.below B6.out) HKK.out).mono ?_); rintro e w7 ⟨rfl, hb7⟩
            have B7 := hide (B6.out.trans (hb7.mono B6.out.size))
            clear hb7 lC eC0 eC1 eC2 eC3 eC4
            obtain ⟨lC, eC0, eC1, eC2, eC3, eC4⟩ := BC.out.below B7.out
            go_wp2_with fail
            go_ret
            exact ⟨rfl, H1.out.trans (B7.out.mono H1.out.size)⟩
          · have h5' : (o == 5) = false := by simpa using h5
            by_cases h3 : o = 3
            · subst h3
              obtain ⟨x0, x1, hx0, hx1⟩ := HV5.out.2 (by have := HOP.out.1; omega)
              rw [HOP.out.2] at hx0 hx1
              have hR0 := (cond_and EV.out EOV.out HOP.out.1 (HOP.out.2.symm ▸ hx0) (HOP.out.2.symm ▸ hx1)).symm.trans ER.out
              obtain ⟨K0, hK0⟩ : ∃ K0, condHolds P os x0 = K0 := ⟨_, rfl⟩
              obtain ⟨K1, hK1⟩ : ∃ K1, condHolds P os x1 = K1 := ⟨_, rfl⟩
              rw [hK0, hK1] at hR0
              cases K0
              · go_wp2_with fail
                rw [← HW.out, ← HG.out]
                obtain ⟨w2, hw2⟩ : ∃ w2, w2 = W := ⟨_, rfl⟩
                have B2 : Hid (Below W.heap.size W w2) := hide (by rw [hw2]; exact Below.refl _ _)
                rw [← hw2]
                clear hw2 lC eC0 eC1 eC2 eC3 eC4
                obtain ⟨lC, eC0, eC1, eC2, eC3, eC4⟩ := BC.out.below B2.out
                (with_reducible refine (HI0.out w2 (HP.out.below B2.out) (HO.out.below B2.out) (HK.out.below B2.out)).mono ?_); rintro e w3 ⟨rfl, hb3⟩
                have B3 := hide (B2.out.trans (hb3.mono B2.out.size))
                clear hb3 lC eC0 eC1 eC2 eC3 eC4
                obtain ⟨lC, eC0, eC1, eC2, eC3, eC4⟩ := BC.out.below B3.out
                go_wp2_with fail
                (with_reducible refine (HCS.out w3 (HP.out.below B3.out) (HO.out.below B3.out) (HK.out.below B3.out)).mono ?_); rintro e w4 ⟨rfl, hb4⟩
                have B4 := hide (B3.out.trans (hb4.mono B3.out.size))
                clear hb4 lC eC0 eC1 eC2 eC3 eC4
                obtain ⟨lC, eC0, eC1, eC2, eC3, eC4⟩ := BC.out.below B4.out
                go_wp2_with fail
                (with_reducible refine (HOV.out w4 (HP.out.below B4.out) (HO.out.below B4.out)).mono ?_); rintro e w5 ⟨rfl, hb5⟩
                have B5 := hide (B4.out.trans (hb5.mono B4.out.size))
                clear hb5 lC eC0 eC1 eC2 eC3 eC4
                obtain ⟨lC, eC0, eC1, eC2, eC3, eC4⟩ := BC.out.below B5.out
                go_wp2_with fail
                (with_reducible refine (HV.out w5 (HK.out.below B5.out)).mono ?_); rintro e w6 ⟨rfl, hb6⟩
                have B6 := hide (B5.out.trans (hb6.mono B5.out.size))
                clear hb6 lC eC0 eC1 eC2 eC3 eC4
                obtain ⟨lC, eC0, eC1, eC2, eC3, eC4⟩ := BC.out.below B6.out
                obtain ⟨b0, o0, s0, ha0, hbl0, i00, i01, i02, i03, i04, hk0⟩ := (HK.out.below B6.out).kid hx0
                simp only [Nat.zero_mul, Nat.add_zero] at i00 i01 i02 i03 i04
                obtain ⟨b1, o1, s1, ha1, hbl1, i10, i11, i12, i13, i14, hk1⟩ := (HK.out.below B6.out).kid hx1
                simp only [Nat.one_mul] at i10 i11 i12 i13 i14
                subst ha0
                simp only [Option.some.injEq, Addr.mk.injEq, and_true] at ha1
                obtain ⟨rfl, rfl⟩ := ha1
                have hsn := HSN.out
                have hln := (List.getElem?_eq_some_iff.1 hx1).1
                have hs0 : (0 : Int) < sn := by omega
                have hs1 : (1 : Int) < sn := by omega
                have HC0 := hide (fun w' h1 h2 h3 => hK0 ▸ Cd.eta x0 ▸ HC.out x0.op x0.th x0.pl x0.val s0 x0.kids w' h1 h2 h3)
                have HC1 := hide (fun w' h1 h2 h3 => hK1 ▸ Cd.eta x1 ▸ HC.out x1.op x1.th x1.pl x1.val s1 x1.kids w' h1 h2 h3)
                have HKK := hide hk0; have HKK1 := hide hk1
                have HI10 := hide i10; have HI11 := hide i11; have HI12 := hide i12; have HI13 := hide i13; have HI14 := hide i14; have HBL := hide hbl1
                clear hk0 hk1 hsn hln hx0 hx1 hK0 hK1 hR0
                go_wp2_with fail
                (with_reducible refine (HC0.out w6 (HP.out.below B6.out) (HO.out.below B6.out) HKK.out).mono ?_); rintro e w7 ⟨rfl, hb7⟩
                have B7 := hide (B6.out.trans (hb7.mono B6.out.size))
                clear lC eC0 eC1 eC2 eC3 eC4
                obtain ⟨lC, eC0, eC1, eC2, eC3, eC4⟩ := BC.out.below B7.out
                clear hb7
                go_wp2_with fail
                go_ret
                exact ⟨rfl, H1.out.trans (B7.out.mono H1.out.size)⟩
              · go_wp2_with fail
                rw [← HW.out, ← HG.out]
                obtain ⟨w2, hw2⟩ : ∃ w2, w2 = W := ⟨_, rfl⟩
                have B2 : Hid (Below W.heap.size W w2) := hide (by rw [hw2]; exact Below.refl _ _)
                rw [← hw2]
                clear hw2 lC eC0 eC1 eC2 eC3 eC4
                obtain ⟨lC, eC0, eC1, eC2, eC3, eC4⟩ := BC.out.below B2.out
                (with_reducible refine (HI0.out w2 (HP.out.below B2.out) (HO.out.below B2.out) (HK.out.below B2.out)).mono ?_); rintro e w3 ⟨rfl, hb3⟩
                have B3 := hide (B2.out.trans (hb3.mono B2.out.size))
                clear hb3 lC eC0 eC1 eC2 eC3 eC4
                obtain ⟨lC, eC0, eC1, eC2, eC3, eC4⟩ := BC.out.below B3.out
                go_wp2_with fail
                (with_reducible refine (HCS.out w3 (HP.out.below B3.out) (HO.out.below B3.out) (HK.out.below B3.out)).mono ?_); rintro e w4 ⟨rfl, hb4⟩
                have B4 := hide (B3.out.trans (hb4.mono B3.out.size))
                clear hb4 lC eC0 eC1 eC2 eC3 eC4
                obtain ⟨lC, eC0, eC1, eC2, eC3, eC4⟩ := BC.out.below B4.out
                go_wp2_with fail
                (with_reducible refine (HOV.out w4 (HP.out.below B4.out) (HO.out.below B4.out)).mono ?_); rintro e w5 ⟨rfl, hb5⟩
                have B5 := hide (B4.out.trans (hb5.mono B4.out.size))
                clear hb5 lC eC0 eC1 eC2 eC3 eC4
                obtain ⟨lC, eC0, eC1, eC2, eC3, eC4⟩ := BC.out.below B5.out
                go_wp2_with fail
                (with_reducible refine (HV.out w5 (HK.out.below B5.out)).mono ?_); rintro e w6 ⟨rfl, hb6⟩
                have B6 := hide (B5.out.trans (hb6.mono B5.out.size))
                clear hb6 lC eC0 eC1 eC2 eC3 eC4
                obtain ⟨lC, eC0, eC1, eC2, eC3, eC4⟩ := BC.out.below B6.out
                have hRK : K1 = false := by simpa using hR0
                subst hRK
                obtain ⟨b0, o0, s0, ha0, hbl0, i00, i01, i02, i03, i04, hk0⟩ := (HK.out.below B6.out).kid hx0
                simp only [Nat.zero_mul, Nat.add_zero] at i00 i01 i02 i03 i04
                obtain ⟨b1, o1, s1, ha1, hbl1, i10, i11, i12, i13, i14, hk1⟩ := (HK.out.below B6.out).kid hx1
                simp only [Nat.one_mul] at i10 i11 i12 i13 i14
                subst ha0
                simp only [Option.some.injEq, Addr.mk.injEq, and_true] at ha1
                obtain ⟨rfl, rfl⟩ := ha1
                have hsn := HSN.out
                have hln := (List.getElem?_eq_some_iff.1 hx1).1
                have hs0 : (0 : Int) < sn := by omega
                have hs1 : (1 : Int) < sn := by omega
                have HC0 := hide (fun w' h1 h2 h3 => hK0 ▸ Cd.eta x0 ▸ HC.out x0.op x0.th x0.pl x0.val s0 x0.kids w' h1 h2 h3)
                have HC1 := hide (fun w' h1 h2 h3 => hK1 ▸ Cd.eta x1 ▸ HC.out x1.op x1.th x1.pl x1.val s1 x1.kids w' h1 h2 h3)
                have HKK := hide hk0; have HKK1 := hide hk1
                have HI10 := hide i10; have HI11 := hide i11; have HI12 := hide i12; have HI13 := hide i13; have HI14 := hide i14; have HBL := hide hbl1
                clear hk0 hk1 hsn hln hx0 hx1 hK0 hK1 hR0
                go_wp2_with fail
                (with_reducible refine (HC0.out w6 (HP.out.below B6.out) (HO.out.below B6.out) HKK.out).mono ?_); rintro e w7 ⟨rfl, hb7⟩
                have B7 := hide (B6.out.trans (hb7.mono B6.out.size))
                clear lC eC0 eC1 eC2 eC3 eC4
                obtain ⟨lC, eC0, eC1, eC2, eC3, eC4⟩ := BC.out.below B7.out
                have hbk := hb7
                have j0 := (hbk.cell (p := ⟨b0, o0 + 5, none⟩) HBL.out).trans HI10.out
                have j1 := (hbk.cell (p := ⟨b0, o0 + 5 + 1, none⟩) HBL.out).trans HI11.out
                have j2 := (hbk.cell (p := ⟨b0, o0 + 5 + 2, none⟩) HBL.out).trans HI12.out
                have j3 := (hbk.cell (p := ⟨b0, o0 + 5 + 3, none⟩) HBL.out).trans HI13.out
                have j4 := (hbk.cell (p := ⟨b0, o0 + 5 + 4, none⟩) HBL.out).trans HI14.out
                have HK1B := hide (HKK1.out.below hb7)
                have HBL1 := Nat.lt_of_lt_of_le HBL.out hb7.size
                clear hbk hb7
                go_wp2_with fail
                (with_reducible refine (HC1.out w7 (HP.out.below B7.out) (HO.out.below B7.out) HK1B.out).mono ?_); rintro e w8 ⟨rfl, hb8⟩
                have B8 := hide (B7.out.trans (hb8.mono B7.out.size))
                clear hb8 lC eC0 eC1 eC2 eC3 eC4
                obtain ⟨lC, eC0, eC1, eC2, eC3, eC4⟩ := BC.out.below B8.out
                go_wp2_with fail
                go_ret
                exact ⟨rfl, H1.out.trans (B8.out.mono H1.out.size)⟩
            · have h3' : (o == 3) = false := by simpa using h3
              by_cases h4 : o = 4
              · subst h4
                obtain ⟨x0, x1, hx0, hx1⟩ := HV5.out.2 (by have := HOP.out.1; omega)
                rw [HOP.out.2] at hx0 hx1
                have hR0 := (cond_or EV.out EOV.out HOP.out.1 (HOP.out.2.symm ▸ hx0) (HOP.out.2.symm ▸ hx1)).symm.trans ER.out
                obtain ⟨K0, hK0⟩ : ∃ K0, condHolds P os x0 = K0 := ⟨_, rfl⟩
                obtain ⟨K1, hK1⟩ : ∃ K1, condHolds P os x1 = K1 := ⟨_, rfl⟩
                rw [hK0, hK1] at hR0
                cases K0
                · go_wp2_with fail
                  rw [← HW.out, ← HG.out]
                  obtain ⟨w2, hw2⟩ : ∃ w2, w2 = W := ⟨_, rfl⟩
                  have B2 : Hid (Below W.heap.size W w2) := hide (by rw [hw2]; exact Below.refl _ _)
                  rw [← hw2]
                  clear hw2 lC eC0 eC1 eC2 eC3 eC4
                  obtain ⟨lC, eC0, eC1, eC2, eC3, eC4⟩ := BC.out.below B2.out
                  (with_reducible refine (HI0.out w2 (HP.out.below B2.out) (HO.out.below B2.out) (HK.out.below B2.out)).mono ?_); rintro e w3 ⟨rfl, hb3⟩
                  have B3 := hide (B2.out.trans (hb3.mono B2.out.size))
                  clear hb3 lC eC0 eC1 eC2 eC3 eC4
                  obtain ⟨lC, eC0, eC1, eC2, eC3, eC4⟩ := BC.out.below B3.out
                  go_wp2_with fail
                  (with_reducible refine (HCS.out w3 (HP.out.below B3.out) (HO.out.below B3.out) (HK.out.below B3.out)).mono ?_); rintro e w4 ⟨rfl, hb4⟩
                  have B4 := hide (B3.out.trans (hb4.mono B3.out.size))
                  clear hb4 lC eC0 eC1 eC2 eC3 eC4
                  obtain ⟨lC, eC0, eC1, eC2, eC3, eC4⟩ := BC.out.below B4.out
                  go_wp2_with fail
                  (with_reducible refine (HOV.out w4 (HP.out.below B4.out) (HO.out.below B4.out)).mono ?_); rintro e w5 ⟨rfl, hb5⟩
                  have B5 := hide (B4.out.trans (hb5.mono B4.out.size))
                  clear hb5 lC eC0 eC1 eC2 eC3 eC4
                  obtain ⟨lC, eC0, eC1, eC2, eC3, eC4⟩ := BC.out.below B5.out
                  go_wp2_with fail
                  (with_reducible refine (HV.out w5 (HK.out.below B5.out)).mono ?_); rintro e w6 ⟨rfl, hb6⟩
                  have B6 := hide (B5.out.trans (hb6.mono B5.out.size))
                  clear hb6 lC eC0 eC1 eC2 eC3 eC4
                  obtain ⟨lC, eC0, eC1, eC2, eC3, eC4⟩ := BC.out.below B6.out
                  have hRK : K1 = false := by simpa using hR0
                  subst hRK
                  obtain ⟨b0, o0, s0, ha0, hbl0, i00, i01, i02, i03, i04, hk0⟩ := (HK.out.below B6.out).kid hx0
                  simp only [Nat.zero_mul, Nat.add_zero] at i00 i01 i02 i03 i04
                  obtain ⟨b1, o1, s1, ha1, hbl1, i10, i11, i12, i13, i14, hk1⟩ := (HK.out.below B6.out).kid hx1
                  simp only [Nat.one_mul] at i10 i11 i12 i13 i14
                  subst ha0
                  simp only [Option.some.injEq, Addr.mk.injEq, and_true] at ha1
                  obtain ⟨rfl, rfl⟩ := ha1
                  have hsn := HSN.out
                  have hln := (List.getElem?_eq_some_iff.1 hx1).1
                  have hs0 : (0 : Int) < sn := by omega
                  have hs1 : (1 : Int) < sn := by omega
                  have HC0 := hide (fun w' h1 h2 h3 => hK0 ▸ Cd.eta x0 ▸ HC.out x0.op x0.th x0.pl x0.val s0 x0.kids w' h1 h2 h3)
                  have HC1 := hide (fun w' h1 h2 h3 => hK1 ▸ Cd.eta x1 ▸ HC.out x1.op x1.th x1.pl x1.val s1 x1.kids w' h1 h2 h3)
                  have HKK := hide hk0; have HKK1 := hide hk1
                  have HI10 := hide i10; have HI11 := hide i11; have HI12 := hide i12; have HI13 := hide i13; have HI14 := hide i14; have HBL := hide hbl1
                  clear hk0 hk1 hsn hln hx0 hx1 hK0 hK1 hR0
                  go_wp2_with fail
                  (with_reducible refine (HC0.out w6 (HP.out.below B6.out) (HO.out.below B6.out) HKK.out).mono ?_); rintro e w7 ⟨rfl, hb7⟩
                  have B7 := hide (B6.out.trans (hb7.mono B6.out.size))
                  clear lC eC0 eC1 eC2 eC3 eC4
                  obtain ⟨lC, eC0, eC1, eC2, eC3, eC4⟩ := BC.out.below B7.out
                  have hbk := hb7
                  have j0 := (hbk.cell (p := ⟨b0, o0 + 5, none⟩) HBL.out).trans HI10.out
                  have j1 := (hbk.cell (p := ⟨b0, o0 + 5 + 1, none⟩) HBL.out).trans HI11.out
                  have j2 := (hbk.cell (p := ⟨b0, o0 + 5 + 2, none⟩) HBL.out).trans HI12.out
                  have j3 := (hbk.cell (p := ⟨b0, o0 + 5 + 3, none⟩) HBL.out).trans HI13.out
                  have j4 := (hbk.cell (p := ⟨b0, o0 + 5 + 4, none⟩) HBL.out).trans HI14.out
                  have HK1B := hide (HKK1.out.below hb7)
                  have HBL1 := Nat.lt_of_lt_of_le HBL.out hb7.size
                  clear hbk hb7
                  go_wp2_with fail
                  (with_reducible refine (HC1.out w7 (HP.out.below B7.out) (HO.out.below B7.out) HK1B.out).mono ?_); rintro e w8 ⟨rfl, hb8⟩
                  have B8 := hide (B7.out.trans (hb8.mono B7.out.size))
                  clear hb8 lC eC0 eC1 eC2 eC3 eC4
                  obtain ⟨lC, eC0, eC1, eC2, eC3, eC4⟩ := BC.out.below B8.out
                  go_wp2_with fail
                  go_ret
                  exact ⟨rfl, H1.out.trans (B8.out.mono H1.out.size)⟩
                · simp at hR0
              · have h4' : (o == 4) = false := by simpa using h4
                go_wp2_with fail
                rw [← HW.out, ← HG.out]
                obtain ⟨w2, hw2⟩ : ∃ w2, w2 = W := ⟨_, rfl⟩
                have B2 : Hid (Below W.heap.size W w2) := hide (by rw [hw2]; exact Below.refl _ _)
                rw [← hw2]
                clear hw2 lC eC0 eC1 eC2 eC3 eC4
                obtain ⟨lC, eC0, eC1, eC2, eC3, eC4⟩ := BC.out.below B2.out
                (with_reducible refine (HI0.out w2 (HP.out.below B2.out) (HO.out.below B2.out) (HK.out.below B2.out)).mono ?_); rintro e w3 ⟨rfl, hb3⟩
                have B3 := hide (B2.out.trans (hb3.mono B2.out.size))
                clear hb3 lC eC0 eC1 eC2 eC3 eC4
                obtain ⟨lC, eC0, eC1, eC2, eC3, eC4⟩ := BC.out.below B3.out
                go_wp2_with fail
                (with_reducible refine (HCS.out w3 (HP.out.below B3.out) (HO.out.below B3.out) (HK.out.below B3.out)).mono ?_); rintro e w4 ⟨rfl, hb4⟩
                have B4 := hide (B3.out.trans (hb4.mono B3.out.size))
                clear hb4 lC eC0 eC1 eC2 eC3 eC4
                obtain ⟨lC, eC0, eC1, eC2, eC3, eC4⟩ := BC.out.below B4.out
                go_wp2_with fail
                (with_reducible refine (HOV.out w4 (HP.out.below B4.out) (HO.out.below B4.out)).mono ?_); rintro e w5 ⟨rfl, hb5⟩
                have B5 := hide (B4.out.trans (hb5.mono B4.out.size))
                clear hb5 lC eC0 eC1 eC2 eC3 eC4
                obtain ⟨lC, eC0, eC1, eC2, eC3, eC4⟩ := BC.out.below B5.out
                go_wp2_with fail
                clear h3 h4 h5
                (with_reducible refine (HV.out w5 (HK.out.below B5.out)).mono ?_); rintro e w6 ⟨rfl, hb6⟩
                have B6 := hide (B5.out.trans (hb6.mono B5.out.size))
                clear hb6 lC eC0 eC1 eC2 eC3 eC4
                obtain ⟨lC, eC0, eC1, eC2, eC3, eC4⟩ := BC.out.below B6.out
                go_wp2_with fail
                go_ret
                exact ⟨rfl, H1.out.trans (B6.out.mono H1.out.size)⟩
        · by_cases h5 : o = 5
          · subst h5
            go_wp2_with fail
            rw [← HW.out, ← HG.out]
            obtain ⟨w2, hw2⟩ : ∃ w2, w2 = W := ⟨_, rfl⟩
            have B2 : Hid (Below W.heap.size W w2) := hide (by rw [hw2]; exact Below.refl _ _)
            rw [← hw2]
            clear hw2 lC eC0 eC1 eC2 eC3 eC4
            obtain ⟨lC, eC0, eC1, eC2, eC3, eC4⟩ := BC.out.below B2.out
            (with_reducible refine (HI0.out w2 (HP.out.below B2.out) (HO.out.below B2.out) (HK.out.below B2.out)).mono ?_); rintro e w3 ⟨rfl, hb3⟩
            have B3 := hide (B2.out.trans (hb3.mono B2.out.size))
            clear hb3 lC eC0 eC1 eC2 eC3 eC4
            obtain ⟨lC, eC0, eC1, eC2, eC3, eC4⟩ := BC.out.below B3.out
            go_wp2_with fail
            (with_reducible refine (HCS.out w3 (HP.out.below B3.out) (HO.out.below B3.out) (HK.out.below B3.out)).mono ?_); rintro e w4 ⟨rfl, hb4⟩
            have B4 := hide (B3.out.trans (hb4.mono B3.out.size))
            clear hb4 lC eC0 eC1 eC2 eC3 eC4
            obtain ⟨lC, eC0, eC1, eC2, eC3, eC4⟩ := BC.out.below B4.out
            go_wp2_with fail
            (with_reducible refine (HOV.out w4 (HP.out.below B4.out) (HO.out.below B4.out)).mono ?_); rintro e w5 ⟨rfl, hb5⟩
            have B5 := hide (B4.out.trans (hb5.mono B4.out.size))
            clear hb5 lC eC0 eC1 eC2 eC3 eC4
            obtain ⟨lC, eC0, eC1, eC2, eC3, eC4⟩ := BC.out.below B5.out
            go_wp2_with fail
            (with_reducible refine (HV.out w5 (HK.out.below B5.out)).mono ?_); rintro e w6 ⟨rfl, hb6⟩
            have B6 := hide (B5.out.trans (hb6.mono B5.out.size))
            clear hb6 lC eC0 eC1 eC2 eC3 eC4
            obtain ⟨lC, eC0, eC1, eC2, eC3, eC4⟩ := BC.out.below B6.out
            obtain ⟨x0, hx0⟩ := HV5.out.1 HOP.out.1
            rw [HOP.out.2] at hx0
            have hR0 := (cond_not EV.out EOV.out HOP.out.1 (HOP.out.2.symm ▸ hx0)).symm.trans ER.out
            obtain ⟨K0, hK0⟩ : ∃ K0, condHolds P os x0 = K0 := ⟨_, rfl⟩
            rw [hK0] at hR0
            obtain ⟨b0, o0, s0, ha0, hbl0, i00, i01, i02, i03, i04, hk0⟩ := (HK.out.below B6.out).kid hx0
            simp only [Nat.zero_mul, Nat.add_zero] at i00 i01 i02 i03 i04
            subst ha0
            have hsn := HSN.out
            have hln := (List.getElem?_eq_some_iff.1 hx0).1
            have hs0 : (0 : Int) < sn := by omega
            have HC0 := hide (fun w' h1 h2 h3 => hK0 ▸ Cd.eta x0 ▸ HC.out x0.op x0.th x0.pl x0.val s0 x0.kids w' h1 h2 h3)
            have HKK := hide hk0
            clear hk0 hsn hln hx0 hK0
            have hRK : K0 = false := by simpa using hR0
            subst hRK
            clear hR0
            go_wp2_with fail
            (with_reducible refine (HC0.out w6 (HP.out.below B6.out) (HO.out.below B6.out) HKK.out).mono ?_); rintro e w7 ⟨rfl, hb7⟩
            have B7 := hide (B6.out.trans (hb7.mono B6.out.size))
            clear hb7 lC eC0 eC1 eC2 eC3 eC4
            obtain ⟨lC, eC0, eC1, eC2, eC3, eC4⟩ := BC.out.below B7.out
            go_wp2_with fail
            go_ret
            exact ⟨rfl, H1.out.trans (B7.out.mono H1.out.size)⟩
          · have h5' : (o == 5) = false := by simpa using h5
            by_cases h3 : o = 3
            · subst h3
              obtain ⟨x0, x1, hx0, hx1⟩ := HV5.out.2 (by have := HOP.out.1; omega)
              rw [HOP.out.2] at hx0 hx1
              have hR0 := (cond_and EV.out EOV.out HOP.out.1 (HOP.out.2.symm ▸ hx0) (HOP.out.2.symm ▸ hx1)).symm.trans ER.out
              obtain ⟨K0, hK0⟩ : ∃ K0, condHolds P os x0 = K0 := ⟨_, rfl⟩
              obtain ⟨K1, hK1⟩ : ∃ K1, condHolds P os x1 = K1 := ⟨_, rfl⟩
              rw [hK0, hK1] at hR0
              cases K0
              · simp at hR0
              · go_wp2_with fail
                rw [← HW.out, ← HG.out]
                obtain ⟨w2, hw2⟩ : ∃ w2, w2 = W := ⟨_, rfl⟩
                have B2 : Hid (Below W.heap.size W w2) := hide (by rw [hw2]; exact Below.refl _ _)
                rw [← hw2]
                clear hw2 lC eC0 eC1 eC2 eC3 eC4
                obtain ⟨lC, eC0, eC1, eC2, eC3, eC4⟩ := BC.out.below B2.out
                (with_reducible refine (HI0.out w2 (HP.out.below B2.out) (HO.out.below B2.out) (HK.out.below B2.out)).mono ?_); rintro e w3 ⟨rfl, hb3⟩
                have B3 := hide (B2.out.trans (hb3.mono B2.out.size))
                clear hb3 lC eC0 eC1 eC2 eC3 eC4
                obtain ⟨lC, eC0, eC1, eC2, eC3, eC4⟩ := BC.out.below B3.out
                go_wp2_with fail
                (with_reducible refine (HCS.out w3 (HP.out.below B3.out) (HO.out.below B3.out) (HK.out.below B3.out)).mono ?_); rintro e w4 ⟨rfl, hb4⟩
                have B4 := hide (B3.out.trans (hb4.mono B3.out.size))
                clear hb4 lC eC0 eC1 eC2 eC3 eC4
                obtain ⟨lC, eC0, eC1, eC2, eC3, eC4⟩ := BC.out.below B4.out
                go_wp2_with fail
                (with_reducible refine (HOV.out w4 (HP.out.below B4.out) (HO.out.below B4.out)).mono ?_); rintro e w5 ⟨rfl, hb5⟩
                have B5 := hide (B4.out.trans (hb5.mono B4.out.size))
                clear hb5 lC eC0 eC1 eC2 eC3 eC4
                obtain ⟨lC, eC0, eC1, eC2, eC3, eC4⟩ := BC.out.below B5.out
                go_wp2_with fail
                (with_reducible refine (HV.out w5 (HK.out.below B5.out)).mono ?_); rintro e w6 ⟨rfl, hb6⟩
                have B6 := hide (B5.out.trans (hb6.mono B5.out.size))
                clear hb6 lC eC0 eC1 eC2 eC3 eC4
                obtain ⟨lC, eC0, eC1, eC2, eC3, eC4⟩ := BC.out.below B6.out
                have hRK : K1 = true := by simpa using hR0
                subst hRK
                obtain ⟨b0, o0, s0, ha0, hbl0, i00, i01, i02, i03, i04, hk0⟩ := (HK.out.below B6.out).kid hx0
                simp only [Nat.zero_mul, Nat.add_zero] at i00 i01 i02 i03 i04
                obtain ⟨b1, o1, s1, ha1, hbl1, i10, i11, i12, i13, i14, hk1⟩ := (HK.out.below B6.out).kid hx1
                simp only [Nat.one_mul] at i10 i11 i12 i13 i14
                subst ha0
                simp only [Option.some.injEq, Addr.mk.injEq, and_true] at ha1
                obtain ⟨rfl, rfl⟩ := ha1
                have hsn := HSN.out
                have hln := (List.getElem?_eq_some_iff.1 hx1).1
                have hs0 : (0 : Int) < sn := by omega
                have hs1 : (1 : Int) < sn := by omega
                have HC0 := hide (fun w' h1 h2 h3 => hK0 ▸ Cd.eta x0 ▸ HC.out x0.op x0.th x0.pl x0.val s0 x0.kids w' h1 h2 h3)
                have HC1 := hide (fun w' h1 h2 h3 => hK1 ▸ Cd.eta x1 ▸ HC.out x1.op x1.th x1.pl x1.val s1 x1.kids w' h1 h2 h3)
                have HKK := hide hk0; have HKK1 := hide hk1
                have HI10 := hide i10; have HI11 := hide i11; have HI12 := hide i12; have HI13 := hide i13; have HI14 := hide i14; have HBL := hide hbl1
                clear hk0 hk1 hsn hln hx0 hx1 hK0 hK1 hR0
                go_wp2_with fail
                (with_reducible refine (HC0.out w6 (HP.out.below B6.out) (HO.out.below B6.out) HKK.out).mono ?_); rintro e w7 ⟨rfl, hb7⟩
                have B7 := hide (B6.out.trans (hb7.mono B6.out.size))
                clear lC eC0 eC1 eC2 eC3 eC4
                obtain ⟨lC, eC0, eC1, eC2, eC3, eC4⟩ := BC.out.below B7.out
                have hbk := hb7
                have j0 := (hbk.cell (p := ⟨b0, o0 + 5, none⟩) HBL.out).trans HI10.out
                have j1 := (hbk.cell (p := ⟨b0, o0 + 5 + 1, none⟩) HBL.out).trans HI11.out
                have j2 := (hbk.cell (p := ⟨b0, o0 + 5 + 2, none⟩) HBL.out).trans HI12.out
                have j3 := (hbk.cell (p := ⟨b0, o0 + 5 + 3, none⟩) HBL.out).trans HI13.out
                have j4 := (hbk.cell (p := ⟨b0, o0 + 5 + 4, none⟩) HBL.out).trans HI14.out
                have HK1B := hide (HKK1.out.below hb7)
                have HBL1 := Nat.lt_of_lt_of_le HBL.out hb7.size
                clear hbk hb7
                go_wp2_with fail
                (with_reducible refine (HC1.out w7 (HP.out.below B7.out) (HO.out.below B7.out) HK1B.out).mono ?_); rintro e w8 ⟨rfl, hb8⟩
                have B8 := hide (B7.out.trans (hb8.mono B7.out.size))
                clear hb8 lC eC0 eC1 eC2 eC3 eC4
                obtain ⟨lC, eC0, eC1, eC2, eC3, eC4⟩ := BC.out.below B8.out
                go_wp2_with fail
                go_ret
                exact ⟨rfl, H1.out.trans (B8.out.mono H1.out.size)⟩
            · have h3' : (o == 3) = false := by simpa using h3
              by_cases h4 : o = 4
              · subst h4
                obtain ⟨x0, x1, hx0, hx1⟩ := HV5.out.2 (by have := HOP.out.1; omega)
                rw [HOP.out.2] at hx0 hx1
                have hR0 := (cond_or EV.out EOV.out HOP.out.1 (HOP.out.2.symm ▸ hx0) (HOP.out.2.symm ▸ hx1)).symm.trans ER.out
                obtain ⟨K0, hK0⟩ : ∃ K0, condHolds P os x0 = K0 := ⟨_, rfl⟩
                obtain ⟨K1, hK1⟩ : ∃ K1, condHolds P os x1 = K1 := ⟨_, rfl⟩
                rw [hK0, hK1] at hR0
                cases K0
                · go_wp2_with fail
                  rw [← HW.out, ← HG.out]
                  obtain ⟨w2, hw2⟩ : ∃ w2, w2 = W := ⟨_, rfl⟩
                  have B2 : Hid (Below W.heap.size W w2) := hide (by rw [hw2]; exact Below.refl _ _)
                  rw [← hw2]
                  clear hw2 lC eC0 eC1 eC2 eC3 eC4
                  obtain ⟨lC, eC0, eC1, eC2, eC3, eC4⟩ := BC.out.below B2.out
                  (with_reducible refine (HI0.out w2 (HP.out.below B2.out) (HO.out.below B2.out) (HK.out.below B2.out)).mono ?_); rintro e w3 ⟨rfl, hb3⟩
                  have B3 := hide (B2.out.trans (hb3.mono B2.out.size))
                  clear hb3 lC eC0 eC1 eC2 eC3 eC4
                  obtain ⟨lC, eC0, eC1, eC2, eC3, eC4⟩ := BC.out.below B3.out
                  go_wp2_with fail
                  (with_reducible refine (HCS.out w3 (HP.out.below B3.out) (HO.out.below B3.out) (HK.out.below B3.out)).mono ?_); rintro e w4 ⟨rfl, hb4⟩
                  have B4 := hide (B3.out.trans (hb4.mono B3.out.size))
                  clear hb4 lC eC0 eC1 eC2 eC3 eC4
                  obtain ⟨lC, eC0, eC1, eC2, eC3, eC4⟩ := BC.out.below B4.out
                  go_wp2_with fail
                  (with_reducible refine (HOV.out w4 (HP.out.below B4.out) (HO.out.below B4.out)).mono ?_); rintro e w5 ⟨rfl, hb5⟩
                  have B5 := hide (B4.out.trans (hb5.mono B4.out.size))
                  clear hb5 lC eC0 eC1 eC2 eC3 eC4
                  obtain ⟨lC, eC0, eC1, eC2, eC3, eC4⟩ := BC.out.below B5.out
                  go_wp2_with fail
                  (with_reducible refine (HV.out w5 (HK.out.below B5.out)).mono ?_); rintro e w6 ⟨rfl, hb6⟩
                  have B6 := hide (B5.out.trans (hb6.mono B5.out.size))
                  clear hb6 lC eC0 eC1 eC2 eC3 eC4
                  obtain ⟨lC, eC0, eC1, eC2, eC3, eC4⟩ := BC.out.below B6.out
                  have hRK : K1 = true := by simpa using hR0
                  subst hRK
                  obtain ⟨b0, o0, s0, ha0, hbl0, i00, i01, i02, i03, i04, hk0⟩ := (HK.out.below B6.out).kid hx0
                  simp only [Nat.zero_mul, Nat.add_zero] at i00 i01 i02 i03 i04
                  obtain ⟨b1, o1, s1, ha1, hbl1, i10, i11, i12, i13, i14, hk1⟩ := (HK.out.below B6.out).kid hx1
                  simp only [Nat.one_mul] at i10 i11 i12 i13 i14
                  subst ha0
                  simp only [Option.some.injEq, Addr.mk.injEq, and_true] at ha1
                  obtain ⟨rfl, rfl⟩ := ha1
                  have hsn := HSN.out
                  have hln := (List.getElem?_eq_some_iff.1 hx1).1
                  have hs0 : (0 : Int) < sn := by omega
                  have hs1 : (1 : Int) < sn := by omega
                  have HC0 := hide (fun w' h1 h2 h3 => hK0 ▸ Cd.eta x0 ▸ HC.out x0.op x0.th x0.pl x0.val s0 x0.kids w' h1 h2 h3)
                  have HC1 := hide (fun w' h1 h2 h3 => hK1 ▸ Cd.eta x1 ▸ HC.out x1.op x1.th x1.pl x1.val s1 x1.kids w' h1 h2 h3)
                  have HKK := hide hk0; have HKK1 := hide hk1
                  have HI10 := hide i10; have HI11 := hide i11; have HI12 := hide i12; have HI13 := hide i13; have HI14 := hide i14; have HBL := hide hbl1
                  clear hk0 hk1 hsn hln hx0 hx1 hK0 hK1 hR0
                  go_wp2_with fail
                  (with_reducible refine (HC0.out w6 (HP.out.below B6.out) (HO.out.below B6.out) HKK.out).mono ?_); rintro e w7 ⟨rfl, hb7⟩
                  have B7 := hide (B6.out.trans (hb7.mono B6.out.size))
                  clear lC eC0 eC1 eC2 eC3 eC4
                  obtain ⟨lC, eC0, eC1, eC2, eC3, eC4⟩ := BC.out.below B7.out
                  have hbk := hb7
                  have j0 := (hbk.cell (p := ⟨b0, o0 + 5, none⟩) HBL.out).trans HI10.out
                  have j1 := (hbk.cell (p := ⟨b0, o0 + 5 + 1, none⟩) HBL.out).trans HI11.out
                  have j2 := (hbk.cell (p := ⟨b0, o0 + 5 + 2, none⟩) HBL.out).trans HI12.out
                  have j3 := (hbk.cell (p := ⟨b0, o0 + 5 + 3, none⟩) HBL.out).trans HI13.out
                  have j4 := (hbk.cell (p := ⟨b0, o0 + 5 + 4, none⟩) HBL.out).trans HI14.out
                  have HK1B := hide (HKK1.out.below hb7)
                  have HBL1 := Nat.lt_of_lt_of_le HBL.out hb7.size
                  clear hbk hb7
                  go_wp2_with fail
                  (with_reducible refine (HC1.out w7 (HP.out.below B7.out) (HO.out.below B7.out) HK1B.out).mono ?_); rintro e w8 ⟨rfl, hb8⟩
                  have B8 := hide (B7.out.trans (hb8.mono B7.out.size))
                  clear hb8 lC eC0 eC1 eC2 eC3 eC4
                  obtain ⟨lC, eC0, eC1, eC2, eC3, eC4⟩ := BC.out.below B8.out
                  go_wp2_with fail
                  go_ret
                  exact ⟨rfl, H1.out.trans (B8.out.mono H1.out.size)⟩
                · go_wp2_with fail
                  rw [← HW.out, ← HG.out]
                  obtain ⟨w2, hw2⟩ : ∃ w2, w2 = W := ⟨_, rfl⟩
                  have B2 : Hid (Below W.heap.size W w2) := hide (by rw [hw2]; exact Below.refl _ _)
                  rw [← hw2]
                  clear hw2 lC eC0 eC1 eC2 eC3 eC4
                  obtain ⟨lC, eC0, eC1, eC2, eC3, eC4⟩ := BC.out.below B2.out
                  (with_reducible refine (HI0.out w2 (HP.out.below B2.out) (HO.out.below B2.out) (HK.out.below B2.out)).mono ?_); rintro e w3 ⟨rfl, hb3⟩
                  have B3 := hide (B2.out.trans (hb3.mono B2.out.size))
                  clear hb3 lC eC0 eC1 eC2 eC3 eC4
                  obtain ⟨lC, eC0, eC1, eC2, eC3, eC4⟩ := BC.out.below B3.out
                  go_wp2_with fail
                  (with_reducible refine (HCS.out w3 (HP.out.below B3.out) (HO.out.below B3.out) (HK.out.below B3.out)).mono ?_); rintro e w4 ⟨rfl, hb4⟩
                  have B4 := hide (B3.out.trans (hb4.mono B3.out.size))
                  clear hb4 lC eC0 eC1 eC2 eC3 eC4
                  obtain ⟨lC, eC0, eC1, eC2, eC3, eC4⟩ := BC.out.below B4.out
                  go_wp2_with fail
                  (with_reducible refine (HOV.out w4 (HP.out.below B4.out) (HO.out.below B4.out)).mono ?_); rintro e w5 ⟨rfl, hb5⟩
                  have B5 := hide (B4.out.trans (hb5.mono B4.out.size))
                  clear hb5 lC eC0 eC1 eC2 eC3 eC4
                  obtain ⟨lC, eC0, eC1, eC2, eC3, eC4⟩ := BC.out.below B5.out
                  go_wp2_with fail
                  (with_reducible refine (HV.out w5 (HK.out.below B5.out)).mono ?_); rintro e w6 ⟨rfl, hb6⟩
                  have B6 := hide (B5.out.trans (hb6.mono B5.out.size))
                  clear hb6 lC eC0 eC1 eC2 eC3 eC4
                  obtain ⟨lC, eC0, eC1, eC2, eC3, eC4⟩ := BC.out.below B6.out
                  obtain ⟨b0, o0, s0, ha0, hbl0, i00, i01, i02, i03, i04, hk0⟩ := (HK.out.below B6.out).kid hx0
                  simp only [Nat.zero_mul, Nat.add_zero] at i00 i01 i02 i03 i04
                  obtain ⟨b1, o1, s1, ha1, hbl1, i10, i11, i12, i13, i14, hk1⟩ := (HK.out.below B6.out).kid hx1
                  simp only [Nat.one_mul] at i10 i11 i12 i13 i14
                  subst ha0
                  simp only [Option.some.injEq, Addr.mk.injEq, and_true] at ha1
                  obtain ⟨rfl, rfl⟩ := ha1
                  have hsn := HSN.out
                  have hln := (List.getElem?_eq_some_iff.1 hx1).1
                  have hs0 : (0 : Int) < sn := by omega
                  have hs1 : (1 : Int) < sn := by omega
                  have HC0 := hide (fun w' h1 h2 h3 => hK0 ▸ Cd.eta x0 ▸ HC.out x0.op x0.th x0.pl x0.val s0 x0.kids w' h1 h2 h3)
                  have HC1 := hide (fun w' h1 h2 h3 => hK1 ▸ Cd.eta x1 ▸ HC.out x1.op x1.th x1.pl x1.val s1 x1.kids w' h1 h2 h3)
                  have HKK := hide hk0; have HKK1 := hide hk1
                  have HI10 := hide i10; have HI11 := hide i11; have HI12 := hide i12; have HI13 := hide i13; have HI14 := hide i14; have HBL := hide hbl1
                  clear hk0 hk1 hsn hln hx0 hx1 hK0 hK1 hR0
                  go_wp2_with fail
                  (with_reducible refine (HC0.out w6 (HP.out.below B6.out) (HO.out.below B6.out) HKK.out).mono ?_); rintro e w7 ⟨rfl, hb7⟩
                  have B7 := hide (B6.out.trans (hb7.mono B6.out.size))
                  clear lC eC0 eC1 eC2 eC3 eC4
                  obtain ⟨lC, eC0, eC1, eC2, eC3, eC4⟩ := BC.out.below B7.out
                  clear hb7
                  go_wp2_with fail
                  go_ret
                  exact ⟨rfl, H1.out.trans (B7.out.mono H1.out.size)⟩
              · have h4' : (o == 4) = false := by simpa using h4
                go_wp2_with fail
                rw [← HW.out, ← HG.out]
                obtain ⟨w2, hw2⟩ : ∃ w2, w2 = W := ⟨_, rfl⟩
                have B2 : Hid (Below W.heap.size W w2) := hide (by rw [hw2]; exact Below.refl _ _)
                rw [← hw2]
                clear hw2 lC eC0 eC1 eC2 eC3 eC4
                obtain ⟨lC, eC0, eC1, eC2, eC3, eC4⟩ := BC.out.below B2.out
                (with_reducible refine (HI0.out w2 (HP.out.below B2.out) (HO.out.below B2.out) (HK.out.below B2.out)).mono ?_); rintro e w3 ⟨rfl, hb3⟩
                have B3 := hide (B2.out.trans (hb3.mono B2.out.size))
                clear hb3 lC eC0 eC1 eC2 eC3 eC4
                obtain ⟨lC, eC0, eC1, eC2, eC3, eC4⟩ := BC.out.below B3.out
                go_wp2_with fail
                (with_reducible refine (HCS.out w3 (HP.out.below B3.out) (HO.out.below B3.out) (HK.out.below B3.out)).mono ?_); rintro e w4 ⟨rfl, hb4⟩
                have B4 := hide (B3.out.trans (hb4.mono B3.out.size))
                clear hb4 lC eC0 eC1 eC2 eC3 eC4
                obtain ⟨lC, eC0, eC1, eC2, eC3, eC4⟩ := BC.out.below B4.out
                go_wp2_with fail
                (with_reducible refine (HOV.out w4 (HP.out.below B4.out) (HO.out.below B4.out)).mono ?_); rintro e w5 ⟨rfl, hb5⟩
                have B5 := hide (B4.out.trans (hb5.mono B4.out.size))
                clear hb5 lC eC0 eC1 eC2 eC3 eC4
                obtain ⟨lC, eC0, eC1, eC2, eC3, eC4⟩ := BC.out.below B5.out
                go_wp2_with fail
                clear h3 h4 h5
                (with_reducible refine (HV.out w5 (HK.out.below B5.out)).mono ?_); rintro e w6 ⟨rfl, hb6⟩
                have B6 := hide (B5.out.trans (hb6.mono B5.out.size))
                clear hb6 lC eC0 eC1 eC2 eC3 eC4
                obtain ⟨lC, eC0, eC1, eC2, eC3, eC4⟩ := BC.out.below B6.out
                go_wp2_with fail
                go_ret
                exact ⟨rfl, H1.out.trans (B6.out.mono H1.out.size)⟩

end Go.Proofs.Ytpjebgiejkglpaa

namespace Go.Proofs.Ytpjebgiejkglpaa
open Go.RowKit Go.ChangeShapes Go.WideShapes Go.ChangeAt
open Go.ChangeMaps (open_string)

theorem fnCondHolds_reads : ∀ t ∈ Try.f3.params.toList, Try.prog.readableRec t = true ∧ t < Try.prog.types.size := by
  intro t ht
  have : t = 22 := by simpa [Try.params3] using ht
  subst this
  exact ⟨by kernel_rfl, of_decide_eq_true (by kernel_rfl)⟩

set_option maxRecDepth 100000 in
theorem fnCondHolds_lifted (os : Os) (started : os.Started) (H : Type) (enc : TypeId × Value → H) :
    ReturnsInHanded {} Try.checked os 3 .any (Rows.fnCondHoldsSpec.pre6 enc Try.prog Try.f3 Rows.fnCondHoldsRow.domain false) (Rows.fnCondHoldsSpec.post enc Try.prog Try.f3 false true false false) := by
  refine returnsInHanded_of_change (C := Try.checked) Try.own started (by kernel_rfl) Try.func3
    (ChangeSpec.witness6 (enc := enc) (C := Try.checked) false ⟨#[], #[.slice none 0 0], []⟩ 8 (by kernel_rfl) (by kernel_rfl) (by kernel_rfl) (by kernel_rfl)) ?_
  intro W base args ds gs before hval0 hW hcnd _
  have hval : ∀ (j : Nat) t v, Try.f3.params[j]? = some t → args[j]? = some v → Value.okWide Try.prog W .any base t v := hval0
  have hW' := hW
  obtain ⟨p, q, hA0, hV, rfl, hfz, hnd⟩ := hW
  have hA : DataW.TrodAll enc Try.prog W 0 (fun _ => true) true Try.f3.params.toList args.toList ds p := hA0
  rw [Try.params3] at hA hval
  obtain ⟨v0, d0, rfl, rfl, h0⟩ := trodAll_one hA
  obtain ⟨rfl, rfl⟩ := trodVars_none hV
  obtain ⟨B0, hB0⟩ := bytes_of_trod (okWide_slice Try.underlying22 (hval 0 22 v0 rfl rfl)) h0
  refine (lawFnCondHolds v0 B0 W hB0).mono fun e W' ⟨he, hb⟩ => ?_
  exact ⟨_, he, post_law Try.laidOut fnCondHolds_reads rfl rfl (by kernel_rfl) Try.underlying4 hW' hb⟩

theorem fnCondHolds_holds : Rows.FnCondHoldsSaid :=
  OpenClaim.holds_of_wide 3 Try.f3 rfl rfl rfl rfl rfl rfl rfl ⟨rfl, rfl, rfl, rfl, rfl⟩ rfl rfl rfl rfl rfl (by kernel_rfl) Try.func3 (by kernel_rfl)
    (of_decide_eq_true (by kernel_rfl)) (by unfold Func.isWrapper; first | (rw [if_pos (by decide +kernel)]; kernel_rfl) | (rw [if_neg (by decide +kernel)]; exact ⟨rfl, rfl⟩))
    (fun os started H enc _ => fnCondHolds_lifted os started H enc)

end Go.Proofs.Ytpjebgiejkglpaa
