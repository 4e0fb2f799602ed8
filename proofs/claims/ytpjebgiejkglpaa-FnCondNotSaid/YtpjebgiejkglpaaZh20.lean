/-
  FnCondNot: for every input the law returns true and the input reads afterwards as it read before. No condition.
-/
import Derived.Test.YtpjebgiejkglpaaZh19
import Derived.Test.YtpjebgiejkglpaaZh10
import Derived.Test.YtpjebgiejkglpaaZh07
import Derived.Test.YtpjebgiejkglpaaZh08
namespace Go.Proofs.Ytpjebgiejkglpaa
open Go.RowKit

set_option maxRecDepth 100000 in
set_option maxHeartbeats 6400000 in
theorem lawFnCondNot (v : Value) (xs : List Int) (w : World) (h : Rep ByteE w v xs ∧ ∀ x ∈ xs, 0 ≤ x ∧ x ≤ 255) :
    Calls Try.prog 4 #[v] w fun e w' => e = .returned (.bool true) ∧ Below w.heap.size w w' := by
  obtain ⟨hx, hb⟩ := h
  obtain ⟨a0, c0, rfl, -, hm, -, hx⟩ := hx.open
  have HD := hide (DrawCondHolds_any (.slice a0 xs.length c0) xs w hx hb)
  clear hx hb
  generalize xs.length = n at *
  by_cases hl : (n : Int) > 1048576
  · go_enter Try.func4, Try.ntmps4
    go_wp2_with fail
    go_ret
    exact ⟨rfl, Below.refl _ _⟩
  · have hl' : decide ((n : Int) > 1048576) = false := decide_eq_false hl
    go_enter Try.func4, Try.ntmps4
    go_wp2_with fail
    (with_reducible refine HD.out.mono ?_); rintro e w1 ⟨vp, ⟨soa, son, soc⟩, P, os, o, t, q, x, ⟨sa, sn, sc⟩, ks, rfl, hP, hPv, hos, hol, hK, hd, hb1⟩
    have hfl : P.flatten.length ≤ 1048576 := by
      have h1 := flatten_bound P 7 (fun r hr => ((valid_le hPv).2.2.1 r hr).1)
      have h2 := (valid_le hPv).1
      have : P.length * 7 ≤ 3 * 7 := Nat.mul_le_mul_right _ h2
      omega
    have hpl : P.length ≤ 1048576 := by have := (valid_le hPv).1; omega
    have hA := belowAlloc w1 (.cells #[.int .i64 o, .int .i64 t, .int .i64 q, .int .i64 x, .slice sa sn sc] 27)
    have BC := hide (BoxC.new w1 o t q x sa sn sc 27)
    have HK := hide (hK.below hA); have HP := hide (hP.below hA); have HO := hide (hos.below hA)
    have H1 := hide (hb1.trans (hA.mono hb1.size))
    have HC := hide (fun (o t q x : Int) (s : Slc) (ks : List Cd) w' (h1 : RepP w' vp P) (h2 : Rep IntE w' (.slice soa son soc) os) (h3 : RepK 0 w' s ks) => CondHolds_any vp (.slice soa son soc) P os o t q x ks s.a s.n s.cap w' h1 h2 h3 hfl hpl)
    have HCS := hide (fun w' (h1 : RepP w' vp P) (h2 : Rep IntE w' (.slice soa son soc) os) (h3 : RepK 0 w' ⟨sa, sn, sc⟩ ks) => CondHoldsS_any vp (.slice soa son soc) P os o t q x ks sa sn sc w' h1 h2 h3 hfl hpl (by omega))
    have HOV := hide (fun w' (h1 : RepP w' vp P) (h2 : Rep IntE w' (.slice soa son soc) os) => OutcomeValid_any vp (.slice soa son soc) P os w' h1 h2 hfl hpl)
    have HV := hide (fun w' h => CondValid_raw o t q x ks sa sn sc w' h)
    have HSN := hide hK.open.1
    clear hP hos hK hb1 hA HD hfl hpl hPv hol
    obtain ⟨lC, eC0, eC1, eC2, eC3, eC4⟩ := BC.out
    obtain ⟨C, hC⟩ : ∃ C, C = Cd.mk o t q x ks := ⟨_, rfl⟩
    rw [← hC] at HCS HV
    have HI0 := hide (HC.out o t q x ⟨sa, sn, sc⟩ ks)
    rw [← hC] at HI0
    have hop : C.op = o ∧ C.kids = ks := by rw [hC]; exact ⟨rfl, rfl⟩
    have HOP := hide hop
    have HCC := hide hC
    obtain ⟨W, hW⟩ : ∃ W, W = w1.alloc (.cells #[.int .i64 o, .int .i64 t, .int .i64 q, .int .i64 x, .slice sa sn sc] 27) := ⟨_, rfl⟩
    rw [← hW] at HK HP HO H1 BC lC eC0 eC1 eC2 eC3 eC4
    obtain ⟨g, hg⟩ : ∃ g, g = w1.heap.size := ⟨_, rfl⟩
    rw [← hg] at BC lC eC0 eC1 eC2 eC3 eC4
    have HG := hide hg
    have HW := hide hW
    clear hC hop hW hg
    obtain ⟨OV, hOV⟩ : ∃ OV, outValid P os = OV := ⟨_, rfl⟩
    obtain ⟨V, hV⟩ : ∃ V, validC C = V := ⟨_, rfl⟩
    have EOV := hide hOV; have EV := hide hV
    rw [hOV] at HOV
    rw [hV] at HV
    obtain ⟨R, hR⟩ : ∃ R, condHolds P os C = R := ⟨_, rfl⟩
    have ER := hide hR
    rw [hR] at HI0 HCS
    clear hOV hV hR
    go_wp2_with fail
    rw [← HW.out, ← HG.out]
    (with_reducible refine (HI0.out W HP.out HO.out HK.out).mono ?_); rintro e w3 ⟨rfl, hb3⟩
    have B3 := hide hb3
    clear lC eC0 eC1 eC2 eC3 eC4
    obtain ⟨lC3, d0, d1, d2, d3, d4⟩ := BC.out.below B3.out
    have hk3 : RepK 0 w3 ⟨sa, sn, sc⟩ (C.kids) := by rw [HOP.out.2]; exact HK.out.below hb3
    have hC3 : Cd.mk o t q x C.kids = C := by rw [HOP.out.2]; exact HCC.out.symm
    have k1 := RepK.one (o := o) (t := t) (q := q) (x := x) hk3 (Nat.zero_le _) 27
    rw [hC3] at k1
    have k1b := k1.below (belowAlloc (w3.alloc (.cells #[.int .i64 o, .int .i64 t, .int .i64 q, .int .i64 x, .slice sa sn sc] 27)) (.cells #[.int .i64 5, .int .i64 0, .int .i64 0, .int .i64 0, .slice (some ⟨w3.heap.size, 0, none⟩) 1 1] 27))
    have k2 := RepK.one (o := 5) (t := 0) (q := 0) (x := 0) k1b (Nat.zero_le _) 27
    have b34 : Below w3.heap.size w3 ((((w3.alloc (.cells #[.int .i64 o, .int .i64 t, .int .i64 q, .int .i64 x, .slice sa sn sc] 27)).alloc (.cells #[.int .i64 5, .int .i64 0, .int .i64 0, .int .i64 0, .slice (some ⟨w3.heap.size, 0, none⟩) 1 1] 27)).alloc (.cells #[.int .i64 5, .int .i64 0, .int .i64 0, .int .i64 0, .slice (some ⟨w3.heap.size, 0, none⟩) 1 1] 27)).alloc (.cells #[.int .i64 5, .int .i64 0, .int .i64 0, .int .i64 0, .slice (some ⟨w3.heap.size + 1 + 1, 0, none⟩) 1 1] 27)) := (((belowAlloc w3 _).alloc (by simp only [World.size_alloc]; omega) _).alloc (by simp only [World.size_alloc]; omega) _).alloc (by simp only [World.size_alloc]; omega) _
    have hA1 : Below (w3.alloc (.cells #[.int .i64 o, .int .i64 t, .int .i64 q, .int .i64 x, .slice sa sn sc] 27)).heap.size (w3.alloc (.cells #[.int .i64 o, .int .i64 t, .int .i64 q, .int .i64 x, .slice sa sn sc] 27)) ((((w3.alloc (.cells #[.int .i64 o, .int .i64 t, .int .i64 q, .int .i64 x, .slice sa sn sc] 27)).alloc (.cells #[.int .i64 5, .int .i64 0, .int .i64 0, .int .i64 0, .slice (some ⟨w3.heap.size, 0, none⟩) 1 1] 27)).alloc (.cells #[.int .i64 5, .int .i64 0, .int .i64 0, .int .i64 0, .slice (some ⟨w3.heap.size, 0, none⟩) 1 1] 27)).alloc (.cells #[.int .i64 5, .int .i64 0, .int .i64 0, .int .i64 0, .slice (some ⟨w3.heap.size + 1 + 1, 0, none⟩) 1 1] 27)) := ((belowAlloc _ _).alloc (by simp only [World.size_alloc]; omega) _).alloc (by simp only [World.size_alloc]; omega) _
    have hA3 := belowAlloc (((w3.alloc (.cells #[.int .i64 o, .int .i64 t, .int .i64 q, .int .i64 x, .slice sa sn sc] 27)).alloc (.cells #[.int .i64 5, .int .i64 0, .int .i64 0, .int .i64 0, .slice (some ⟨w3.heap.size, 0, none⟩) 1 1] 27)).alloc (.cells #[.int .i64 5, .int .i64 0, .int .i64 0, .int .i64 0, .slice (some ⟨w3.heap.size, 0, none⟩) 1 1] 27)) (.cells #[.int .i64 5, .int .i64 0, .int .i64 0, .int .i64 0, .slice (some ⟨w3.heap.size + 1 + 1, 0, none⟩) 1 1] 27)
    have HK1 := hide (k1.below hA1)
    have HK2 := hide (k2.below hA3)
    have hz2 : ((w3.alloc (.cells #[.int .i64 o, .int .i64 t, .int .i64 q, .int .i64 x, .slice sa sn sc] 27)).alloc (.cells #[.int .i64 5, .int .i64 0, .int .i64 0, .int .i64 0, .slice (some ⟨w3.heap.size, 0, none⟩) 1 1] 27)).heap.size = w3.heap.size + 1 + 1 := by simp
    rw [hz2] at HK2
    have BN1 := hide ((BoxC.new (w3.alloc (.cells #[.int .i64 o, .int .i64 t, .int .i64 q, .int .i64 x, .slice sa sn sc] 27)) 5 0 0 0 (some ⟨w3.heap.size, 0, none⟩) 1 1 27).below (((belowAlloc _ _).alloc (by simp) _) : Below ((w3.alloc (.cells #[.int .i64 o, .int .i64 t, .int .i64 q, .int .i64 x, .slice sa sn sc] 27)).alloc (.cells #[.int .i64 5, .int .i64 0, .int .i64 0, .int .i64 0, .slice (some ⟨w3.heap.size, 0, none⟩) 1 1] 27)).heap.size ((w3.alloc (.cells #[.int .i64 o, .int .i64 t, .int .i64 q, .int .i64 x, .slice sa sn sc] 27)).alloc (.cells #[.int .i64 5, .int .i64 0, .int .i64 0, .int .i64 0, .slice (some ⟨w3.heap.size, 0, none⟩) 1 1] 27)) ((((w3.alloc (.cells #[.int .i64 o, .int .i64 t, .int .i64 q, .int .i64 x, .slice sa sn sc] 27)).alloc (.cells #[.int .i64 5, .int .i64 0, .int .i64 0, .int .i64 0, .slice (some ⟨w3.heap.size, 0, none⟩) 1 1] 27)).alloc (.cells #[.int .i64 5, .int .i64 0, .int .i64 0, .int .i64 0, .slice (some ⟨w3.heap.size, 0, none⟩) 1 1] 27)).alloc (.cells #[.int .i64 5, .int .i64 0, .int .i64 0, .int .i64 0, .slice (some ⟨w3.heap.size + 1 + 1, 0, none⟩) 1 1] 27))))
    have BN2 := hide (BoxC.new (((w3.alloc (.cells #[.int .i64 o, .int .i64 t, .int .i64 q, .int .i64 x, .slice sa sn sc] 27)).alloc (.cells #[.int .i64 5, .int .i64 0, .int .i64 0, .int .i64 0, .slice (some ⟨w3.heap.size, 0, none⟩) 1 1] 27)).alloc (.cells #[.int .i64 5, .int .i64 0, .int .i64 0, .int .i64 0, .slice (some ⟨w3.heap.size, 0, none⟩) 1 1] 27)) 5 0 0 0 (some ⟨w3.heap.size + 1 + 1, 0, none⟩) 1 1 27)
    have hz1 : (w3.alloc (.cells #[.int .i64 o, .int .i64 t, .int .i64 q, .int .i64 x, .slice sa sn sc] 27)).heap.size = w3.heap.size + 1 := by simp
    have hz3 : (((w3.alloc (.cells #[.int .i64 o, .int .i64 t, .int .i64 q, .int .i64 x, .slice sa sn sc] 27)).alloc (.cells #[.int .i64 5, .int .i64 0, .int .i64 0, .int .i64 0, .slice (some ⟨w3.heap.size, 0, none⟩) 1 1] 27)).alloc (.cells #[.int .i64 5, .int .i64 0, .int .i64 0, .int .i64 0, .slice (some ⟨w3.heap.size, 0, none⟩) 1 1] 27)).heap.size = w3.heap.size + 1 + 1 + 1 := by simp
    rw [hz1] at BN1
    rw [hz3] at BN2
    have HP4 := hide ((HP.out.below hb3).below b34); have HO4 := hide ((HO.out.below hb3).below b34); have HK4 := hide ((HK.out.below hb3).below b34); have BC4 := hide ((BC.out.below hb3).below b34)
    have H4 := hide (H1.out.trans ((hb3.trans (b34.mono hb3.size)).mono H1.out.size))
    obtain ⟨lC, eC0, eC1, eC2, eC3, eC4⟩ := BC4.out
    clear k1 k1b k2 hk3 hC3 b34 hA1 hA3 hz1 hz2 hz3 hb3 B3 HP HO HK H1
    go_wp2_with fail
    obtain ⟨W4, hW4⟩ : ∃ W4, W4 = ((((w3.alloc (.cells #[.int .i64 o, .int .i64 t, .int .i64 q, .int .i64 x, .slice sa sn sc] 27)).alloc (.cells #[.int .i64 5, .int .i64 0, .int .i64 0, .int .i64 0, .slice (some ⟨w3.heap.size, 0, none⟩) 1 1] 27)).alloc (.cells #[.int .i64 5, .int .i64 0, .int .i64 0, .int .i64 0, .slice (some ⟨w3.heap.size, 0, none⟩) 1 1] 27)).alloc (.cells #[.int .i64 5, .int .i64 0, .int .i64 0, .int .i64 0, .slice (some ⟨w3.heap.size + 1 + 1, 0, none⟩) 1 1] 27)) := ⟨_, rfl⟩
    rw [← hW4] at HP4 HO4 HK4 BC4 H4 HK1 HK2 BN1 BN2 lC eC0 eC1 eC2 eC3 eC4
    simp only [← hW4]
    obtain ⟨g1, hg1⟩ : ∃ g1, g1 = w3.heap.size := ⟨_, rfl⟩
    rw [← hg1] at HK1 HK2 BN1 BN2
    rw [← hg1]
    clear hW4 hg1 HW HG lC3 d0 d1 d2 d3 d4
    have HNC := hide (fun w' h1 h2 h3 => HC.out 5 0 0 0 ⟨some ⟨g1, 0, none⟩, 1, 1⟩ [C] w' h1 h2 h3)
    have HTC := hide (fun w' h1 h2 h3 => HC.out 5 0 0 0 ⟨some ⟨g1 + 1 + 1, 0, none⟩, 1, 1⟩ [.mk 5 0 0 0 [C]] w' h1 h2 h3)
    have HVT := hide (fun w' h => CondValid_raw 5 0 0 0 [.mk 5 0 0 0 [C]] (some ⟨g1 + 1 + 1, 0, none⟩) 1 1 w' h)
    obtain ⟨VT, hVT⟩ : ∃ VT, validC (.mk 5 0 0 0 [.mk 5 0 0 0 [C]]) = VT := ⟨_, rfl⟩
    rw [hVT] at HVT
    have EVT := hide hVT
    have HS4 := hide (fun w' h1 h2 h3 => HCS.out w' h1 h2 h3)
    obtain ⟨lC, eC0, eC1, eC2, eC3, eC4⟩ := BC4.out
    obtain ⟨l1, f10, f11, f12, f13, f14⟩ := BN1.out
    obtain ⟨l2, f20, f21, f22, f23, f24⟩ := BN2.out
    obtain ⟨w4, hw4⟩ : ∃ w4, w4 = W4 := ⟨_, rfl⟩
    have B4 : Hid (Below W4.heap.size W4 w4) := hide (by rw [hw4]; exact Below.refl _ _)
    rw [← hw4]
    clear hw4 hVT HI0
    cases VT
    · cases R
      · skip
        (with_reducible refine (HS4.out w4 (HP4.out.below B4.out) (HO4.out.below B4.out) (HK4.out.below B4.out)).mono ?_); rintro e w5 ⟨rfl, hb5⟩
        have B5 := hide (B4.out.trans (hb5.mono B4.out.size))
        clear hb5 lC eC0 eC1 eC2 eC3 eC4 l1 f10 f11 f12 f13 f14 l2 f20 f21 f22 f23 f24
        obtain ⟨lC, eC0, eC1, eC2, eC3, eC4⟩ := BC4.out.below B5.out
        obtain ⟨l1, f10, f11, f12, f13, f14⟩ := BN1.out.below B5.out
        obtain ⟨l2, f20, f21, f22, f23, f24⟩ := BN2.out.below B5.out
        go_wp2_with fail
        (with_reducible refine (HVT.out w5 (HK2.out.below B5.out)).mono ?_); rintro e w6 ⟨rfl, hb6⟩
        have B6 := hide (B5.out.trans (hb6.mono B5.out.size))
        clear hb6 lC eC0 eC1 eC2 eC3 eC4 l1 f10 f11 f12 f13 f14 l2 f20 f21 f22 f23 f24
        obtain ⟨lC, eC0, eC1, eC2, eC3, eC4⟩ := BC4.out.below B6.out
        obtain ⟨l1, f10, f11, f12, f13, f14⟩ := BN1.out.below B6.out
        obtain ⟨l2, f20, f21, f22, f23, f24⟩ := BN2.out.below B6.out
        go_wp2_with fail
        (with_reducible refine (HS4.out w6 (HP4.out.below B6.out) (HO4.out.below B6.out) (HK4.out.below B6.out)).mono ?_); rintro e w7 ⟨rfl, hb7⟩
        have B7 := hide (B6.out.trans (hb7.mono B6.out.size))
        clear hb7 lC eC0 eC1 eC2 eC3 eC4 l1 f10 f11 f12 f13 f14 l2 f20 f21 f22 f23 f24
        obtain ⟨lC, eC0, eC1, eC2, eC3, eC4⟩ := BC4.out.below B7.out
        obtain ⟨l1, f10, f11, f12, f13, f14⟩ := BN1.out.below B7.out
        obtain ⟨l2, f20, f21, f22, f23, f24⟩ := BN2.out.below B7.out
        go_wp2_with fail
        go_ret
        exact ⟨rfl, H4.out.trans (B7.out.mono H4.out.size)⟩
      · skip
        (with_reducible refine (HS4.out w4 (HP4.out.below B4.out) (HO4.out.below B4.out) (HK4.out.below B4.out)).mono ?_); rintro e w5 ⟨rfl, hb5⟩
        have B5 := hide (B4.out.trans (hb5.mono B4.out.size))
        clear hb5 lC eC0 eC1 eC2 eC3 eC4 l1 f10 f11 f12 f13 f14 l2 f20 f21 f22 f23 f24
        obtain ⟨lC, eC0, eC1, eC2, eC3, eC4⟩ := BC4.out.below B5.out
        obtain ⟨l1, f10, f11, f12, f13, f14⟩ := BN1.out.below B5.out
        obtain ⟨l2, f20, f21, f22, f23, f24⟩ := BN2.out.below B5.out
        go_wp2_with fail
        (with_reducible refine (HVT.out w5 (HK2.out.below B5.out)).mono ?_); rintro e w6 ⟨rfl, hb6⟩
        have B6 := hide (B5.out.trans (hb6.mono B5.out.size))
        clear hb6 lC eC0 eC1 eC2 eC3 eC4 l1 f10 f11 f12 f13 f14 l2 f20 f21 f22 f23 f24
        obtain ⟨lC, eC0, eC1, eC2, eC3, eC4⟩ := BC4.out.below B6.out
        obtain ⟨l1, f10, f11, f12, f13, f14⟩ := BN1.out.below B6.out
        obtain ⟨l2, f20, f21, f22, f23, f24⟩ := BN2.out.below B6.out
        go_wp2_with fail
        (with_reducible refine (HS4.out w6 (HP4.out.below B6.out) (HO4.out.below B6.out) (HK4.out.below B6.out)).mono ?_); rintro e w7 ⟨rfl, hb7⟩
        have B7 := hide (B6.out.trans (hb7.mono B6.out.size))
        clear hb7 lC eC0 eC1 eC2 eC3 eC4 l1 f10 f11 f12 f13 f14 l2 f20 f21 f22 f23 f24
        obtain ⟨lC, eC0, eC1, eC2, eC3, eC4⟩ := BC4.out.below B7.out
        obtain ⟨l1, f10, f11, f12, f13, f14⟩ := BN1.out.below B7.out
        obtain ⟨l2, f20, f21, f22, f23, f24⟩ := BN2.out.below B7.out
        go_wp2_with fail
        go_ret
        exact ⟨rfl, H4.out.trans (B7.out.mono H4.out.size)⟩
    · have hvt : validC (.mk 5 0 0 0 [.mk 5 0 0 0 [C]]) = true := EVT.out
      have hvn := (valid_kid (k := 0) hvt rfl).1
      have hvc := (valid_kid (k := 0) hvn rfl).1
      cases OV
      · obtain rfl : R = false := ER.out.symm.trans (cond_bad1 EOV.out)
        have hT : condHolds P os (.mk 5 0 0 0 [.mk 5 0 0 0 [C]]) = false := cond_bad1 EOV.out
        rw [hT] at HTC
        clear hT hvt hvn hvc
        (with_reducible refine (HS4.out w4 (HP4.out.below B4.out) (HO4.out.below B4.out) (HK4.out.below B4.out)).mono ?_); rintro e w5 ⟨rfl, hb5⟩
        have B5 := hide (B4.out.trans (hb5.mono B4.out.size))
        clear hb5 lC eC0 eC1 eC2 eC3 eC4 l1 f10 f11 f12 f13 f14 l2 f20 f21 f22 f23 f24
        obtain ⟨lC, eC0, eC1, eC2, eC3, eC4⟩ := BC4.out.below B5.out
        obtain ⟨l1, f10, f11, f12, f13, f14⟩ := BN1.out.below B5.out
        obtain ⟨l2, f20, f21, f22, f23, f24⟩ := BN2.out.below B5.out
        go_wp2_with fail
        (with_reducible refine (HVT.out w5 (HK2.out.below B5.out)).mono ?_); rintro e w6 ⟨rfl, hb6⟩
        have B6 := hide (B5.out.trans (hb6.mono B5.out.size))
        clear hb6 lC eC0 eC1 eC2 eC3 eC4 l1 f10 f11 f12 f13 f14 l2 f20 f21 f22 f23 f24
        obtain ⟨lC, eC0, eC1, eC2, eC3, eC4⟩ := BC4.out.below B6.out
        obtain ⟨l1, f10, f11, f12, f13, f14⟩ := BN1.out.below B6.out
        obtain ⟨l2, f20, f21, f22, f23, f24⟩ := BN2.out.below B6.out
        go_wp2_with fail
        (with_reducible refine (HTC.out w6 (HP4.out.below B6.out) (HO4.out.below B6.out) (HK2.out.below B6.out)).mono ?_); rintro e w7 ⟨rfl, hb7⟩
        have B7 := hide (B6.out.trans (hb7.mono B6.out.size))
        clear hb7 lC eC0 eC1 eC2 eC3 eC4 l1 f10 f11 f12 f13 f14 l2 f20 f21 f22 f23 f24
        obtain ⟨lC, eC0, eC1, eC2, eC3, eC4⟩ := BC4.out.below B7.out
        obtain ⟨l1, f10, f11, f12, f13, f14⟩ := BN1.out.below B7.out
        obtain ⟨l2, f20, f21, f22, f23, f24⟩ := BN2.out.below B7.out
        go_wp2_with fail
        (with_reducible refine (HOV.out w7 (HP4.out.below B7.out) (HO4.out.below B7.out)).mono ?_); rintro e w8 ⟨rfl, hb8⟩
        have B8 := hide (B7.out.trans (hb8.mono B7.out.size))
        clear hb8 lC eC0 eC1 eC2 eC3 eC4 l1 f10 f11 f12 f13 f14 l2 f20 f21 f22 f23 f24
        obtain ⟨lC, eC0, eC1, eC2, eC3, eC4⟩ := BC4.out.below B8.out
        obtain ⟨l1, f10, f11, f12, f13, f14⟩ := BN1.out.below B8.out
        obtain ⟨l2, f20, f21, f22, f23, f24⟩ := BN2.out.below B8.out
        go_wp2_with fail
        go_ret
        exact ⟨rfl, H4.out.trans (B8.out.mono H4.out.size)⟩
      · have hN : condHolds P os (.mk 5 0 0 0 [C]) = !R := by rw [cond_not hvn EOV.out rfl (x := C) rfl, ER.out]
        have hT : condHolds P os (.mk 5 0 0 0 [.mk 5 0 0 0 [C]]) = R := by rw [cond_not hvt EOV.out rfl (x := .mk 5 0 0 0 [C]) rfl, hN, Bool.not_not]
        rw [hT] at HTC
        rw [hN] at HNC
        clear hT hN hvt hvn hvc
        cases R
        · skip
          (with_reducible refine (HS4.out w4 (HP4.out.below B4.out) (HO4.out.below B4.out) (HK4.out.below B4.out)).mono ?_); rintro e w5 ⟨rfl, hb5⟩
          have B5 := hide (B4.out.trans (hb5.mono B4.out.size))
          clear hb5 lC eC0 eC1 eC2 eC3 eC4 l1 f10 f11 f12 f13 f14 l2 f20 f21 f22 f23 f24
          obtain ⟨lC, eC0, eC1, eC2, eC3, eC4⟩ := BC4.out.below B5.out
          obtain ⟨l1, f10, f11, f12, f13, f14⟩ := BN1.out.below B5.out
          obtain ⟨l2, f20, f21, f22, f23, f24⟩ := BN2.out.below B5.out
          go_wp2_with fail
          (with_reducible refine (HVT.out w5 (HK2.out.below B5.out)).mono ?_); rintro e w6 ⟨rfl, hb6⟩
          have B6 := hide (B5.out.trans (hb6.mono B5.out.size))
          clear hb6 lC eC0 eC1 eC2 eC3 eC4 l1 f10 f11 f12 f13 f14 l2 f20 f21 f22 f23 f24
          obtain ⟨lC, eC0, eC1, eC2, eC3, eC4⟩ := BC4.out.below B6.out
          obtain ⟨l1, f10, f11, f12, f13, f14⟩ := BN1.out.below B6.out
          obtain ⟨l2, f20, f21, f22, f23, f24⟩ := BN2.out.below B6.out
          go_wp2_with fail
          (with_reducible refine (HTC.out w6 (HP4.out.below B6.out) (HO4.out.below B6.out) (HK2.out.below B6.out)).mono ?_); rintro e w7 ⟨rfl, hb7⟩
          have B7 := hide (B6.out.trans (hb7.mono B6.out.size))
          clear hb7 lC eC0 eC1 eC2 eC3 eC4 l1 f10 f11 f12 f13 f14 l2 f20 f21 f22 f23 f24
          obtain ⟨lC, eC0, eC1, eC2, eC3, eC4⟩ := BC4.out.below B7.out
          obtain ⟨l1, f10, f11, f12, f13, f14⟩ := BN1.out.below B7.out
          obtain ⟨l2, f20, f21, f22, f23, f24⟩ := BN2.out.below B7.out
          go_wp2_with fail
          (with_reducible refine (HOV.out w7 (HP4.out.below B7.out) (HO4.out.below B7.out)).mono ?_); rintro e w8 ⟨rfl, hb8⟩
          have B8 := hide (B7.out.trans (hb8.mono B7.out.size))
          clear hb8 lC eC0 eC1 eC2 eC3 eC4 l1 f10 f11 f12 f13 f14 l2 f20 f21 f22 f23 f24
          obtain ⟨lC, eC0, eC1, eC2, eC3, eC4⟩ := BC4.out.below B8.out
          obtain ⟨l1, f10, f11, f12, f13, f14⟩ := BN1.out.below B8.out
          obtain ⟨l2, f20, f21, f22, f23, f24⟩ := BN2.out.below B8.out
          go_wp2_with fail
          (with_reducible refine (HNC.out w8 (HP4.out.below B8.out) (HO4.out.below B8.out) (HK1.out.below B8.out)).mono ?_); rintro e w9 ⟨rfl, hb9⟩
          have B9 := hide (B8.out.trans (hb9.mono B8.out.size))
          clear hb9 lC eC0 eC1 eC2 eC3 eC4 l1 f10 f11 f12 f13 f14 l2 f20 f21 f22 f23 f24
          obtain ⟨lC, eC0, eC1, eC2, eC3, eC4⟩ := BC4.out.below B9.out
          obtain ⟨l1, f10, f11, f12, f13, f14⟩ := BN1.out.below B9.out
          obtain ⟨l2, f20, f21, f22, f23, f24⟩ := BN2.out.below B9.out
          go_wp2_with fail
          go_ret
          exact ⟨rfl, H4.out.trans (B9.out.mono H4.out.size)⟩
        · skip
          (with_reducible refine (HS4.out w4 (HP4.out.below B4.out) (HO4.out.below B4.out) (HK4.out.below B4.out)).mono ?_); rintro e w5 ⟨rfl, hb5⟩
          have B5 := hide (B4.out.trans (hb5.mono B4.out.size))
          clear hb5 lC eC0 eC1 eC2 eC3 eC4 l1 f10 f11 f12 f13 f14 l2 f20 f21 f22 f23 f24
          obtain ⟨lC, eC0, eC1, eC2, eC3, eC4⟩ := BC4.out.below B5.out
          obtain ⟨l1, f10, f11, f12, f13, f14⟩ := BN1.out.below B5.out
          obtain ⟨l2, f20, f21, f22, f23, f24⟩ := BN2.out.below B5.out
          go_wp2_with fail
          (with_reducible refine (HVT.out w5 (HK2.out.below B5.out)).mono ?_); rintro e w6 ⟨rfl, hb6⟩
          have B6 := hide (B5.out.trans (hb6.mono B5.out.size))
          clear hb6 lC eC0 eC1 eC2 eC3 eC4 l1 f10 f11 f12 f13 f14 l2 f20 f21 f22 f23 f24
          obtain ⟨lC, eC0, eC1, eC2, eC3, eC4⟩ := BC4.out.below B6.out
          obtain ⟨l1, f10, f11, f12, f13, f14⟩ := BN1.out.below B6.out
          obtain ⟨l2, f20, f21, f22, f23, f24⟩ := BN2.out.below B6.out
          go_wp2_with fail
          (with_reducible refine (HTC.out w6 (HP4.out.below B6.out) (HO4.out.below B6.out) (HK2.out.below B6.out)).mono ?_); rintro e w7 ⟨rfl, hb7⟩
          have B7 := hide (B6.out.trans (hb7.mono B6.out.size))
          clear hb7 lC eC0 eC1 eC2 eC3 eC4 l1 f10 f11 f12 f13 f14 l2 f20 f21 f22 f23 f24
          obtain ⟨lC, eC0, eC1, eC2, eC3, eC4⟩ := BC4.out.below B7.out
          obtain ⟨l1, f10, f11, f12, f13, f14⟩ := BN1.out.below B7.out
          obtain ⟨l2, f20, f21, f22, f23, f24⟩ := BN2.out.below B7.out
          go_wp2_with fail
          (with_reducible refine (HOV.out w7 (HP4.out.below B7.out) (HO4.out.below B7.out)).mono ?_); rintro e w8 ⟨rfl, hb8⟩
          have B8 := hide (B7.out.trans (hb8.mono B7.out.size))
          clear hb8 lC eC0 eC1 eC2 eC3 eC4 l1 f10 f11 f12 f13 f14 l2 f20 f21 f22 f23 f24
          obtain ⟨lC, eC0, eC1, eC2, eC3, eC4⟩ := BC4.out.below B8.out
          obtain ⟨l1, f10, f11, f12, f13, f14⟩ := BN1.out.below B8.out
          obtain ⟨l2, f20, f21, f22, f23, f24⟩ := BN2.out.below B8.out
          go_wp2_with fail
          (with_reducible refine (HNC.out w8 (HP4.out.below B8.out) (HO4.out.below B8.out) (HK1.out.below B8.out)).mono ?_); rintro e w9 ⟨rfl, hb9⟩
          have B9 := hide (B8.out.trans (hb9.mono B8.out.size))
          clear hb9 lC eC0 eC1 eC2 eC3 eC4 l1 f10 f11 f12 f13 f14 l2 f20 f21 f22 f23 f24
          obtain ⟨lC, eC0, eC1, eC2, eC3, eC4⟩ := BC4.out.below B9.out
          obtain ⟨l1, f10, f11, f12, f13, f14⟩ := BN1.out.below B9.out
          obtain ⟨l2, f20, f21, f22, f23, f24⟩ := BN2.out.below B9.out
          go_wp2_with fail
          go_ret
          exact ⟨rfl, H4.out.trans (B9.out.mono H4.out.size)⟩

end Go.Proofs.Ytpjebgiejkglpaa

namespace Go.Proofs.Ytpjebgiejkglpaa
open Go.RowKit Go.ChangeShapes Go.WideShapes Go.ChangeAt
open Go.ChangeMaps (open_string)

theorem fnCondNot_reads : ∀ t ∈ Try.f4.params.toList, Try.prog.readableRec t = true ∧ t < Try.prog.types.size := by
  intro t ht
  have : t = 22 := by simpa [Try.params4] using ht
  subst this
  exact ⟨by kernel_rfl, of_decide_eq_true (by kernel_rfl)⟩

set_option maxRecDepth 100000 in
theorem fnCondNot_lifted (os : Os) (started : os.Started) (H : Type) (enc : TypeId × Value → H) :
    ReturnsInHanded {} Try.checked os 4 .any (Rows.fnCondNotSpec.pre6 enc Try.prog Try.f4 Rows.fnCondNotRow.domain false) (Rows.fnCondNotSpec.post enc Try.prog Try.f4 false true false false) := by
  refine returnsInHanded_of_change (C := Try.checked) Try.own started (by kernel_rfl) Try.func4
    (ChangeSpec.witness6 (enc := enc) (C := Try.checked) false ⟨#[], #[.slice none 0 0], []⟩ 8 (by kernel_rfl) (by kernel_rfl) (by kernel_rfl) (by kernel_rfl)) ?_
  intro W base args ds gs before hval0 hW hcnd _
  have hval : ∀ (j : Nat) t v, Try.f4.params[j]? = some t → args[j]? = some v → Value.okWide Try.prog W .any base t v := hval0
  have hW' := hW
  obtain ⟨p, q, hA0, hV, rfl, hfz, hnd⟩ := hW
  have hA : DataW.TrodAll enc Try.prog W 0 (fun _ => true) true Try.f4.params.toList args.toList ds p := hA0
  rw [Try.params4] at hA hval
  obtain ⟨v0, d0, rfl, rfl, h0⟩ := trodAll_one hA
  obtain ⟨rfl, rfl⟩ := trodVars_none hV
  obtain ⟨B0, hB0⟩ := bytes_of_trod (okWide_slice Try.underlying22 (hval 0 22 v0 rfl rfl)) h0
  refine (lawFnCondNot v0 B0 W hB0).mono fun e W' ⟨he, hb⟩ => ?_
  exact ⟨_, he, post_law Try.laidOut fnCondNot_reads rfl rfl (by kernel_rfl) Try.underlying4 hW' hb⟩

theorem fnCondNot_holds : Rows.FnCondNotSaid :=
  OpenClaim.holds_of_wide 4 Try.f4 rfl rfl rfl rfl rfl rfl rfl ⟨rfl, rfl, rfl, rfl, rfl⟩ rfl rfl rfl rfl rfl (by kernel_rfl) Try.func4 (by kernel_rfl)
    (of_decide_eq_true (by kernel_rfl)) (by unfold Func.isWrapper; first | (rw [if_pos (by decide +kernel)]; kernel_rfl) | (rw [if_neg (by decide +kernel)]; exact ⟨rfl, rfl⟩))
    (fun os started H enc _ => fnCondNot_lifted os started H enc)

end Go.Proofs.Ytpjebgiejkglpaa
