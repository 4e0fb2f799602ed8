/-
  The walk of FnCondSame: it answers true and turns nothing that was there. No condition but the bytes' own.
-/
import Derived.Test.YthglefilfpnikaaD6
import Derived.Test.YthglefilfpnikaaX1
import Derived.Test.YthglefilfpnikaaP8
import Derived.Test.YthglefilfpnikaaT8
namespace Go.Proofs.Ythglefilfpnikaa
open Go.RowKit

theorem fmt_valid {c : Cd} (h : validC c = true) : fmtC c = strOfNums (textF 10 c) := by unfold fmtC; rw [if_pos h]
theorem fmt_bad {c : Cd} (h : validC c = false) : fmtC c = ⟨#[]⟩ := by unfold fmtC; rw [h]; rfl

theorem text_ne {d : Nat} {c : Cd} (h : shapeF d c = true) : textF d c ≠ [] := by
  cases d with
  | zero => simp [shapeF] at h
  | succ d =>
    unfold textF
    split
    · simp
    · split
      · simp
      · split
        · simp
        · split
          · simp
          · simp

theorem bytes_ne {a b : ByteArray} (h : ¬ a = b) : (a.toList == b.toList) = false := by
  rw [beq_eq_false_iff_ne]
  intro e
  apply h
  rw [ByteArray.toList_eq, ByteArray.toList_eq] at e
  obtain ⟨⟨x⟩⟩ := a
  obtain ⟨⟨y⟩⟩ := b
  have e' : x = y := e
  rw [e']

set_option maxRecDepth 100000 in
set_option maxHeartbeats 3200000 in
theorem lawCondSame2 (v : Value) (xs : List Int) (w : World) (hx : Rep ByteE w v xs) (hb : ∀ x ∈ xs, 0 ≤ x ∧ x ≤ 255) :
    Calls Try.prog 6 #[v] w fun e w' => e = .returned (.bool true) ∧ Below w.heap.size w w' := by
  obtain ⟨a0, c0, rfl, -, hm, -, hx⟩ := hx.open
  have HD := hide (DrawCondSame_any (.slice a0 xs.length c0) xs w hx hb)
  clear hx hb
  generalize xs.length = n at *
  by_cases hl : (n : Int) > 1048576
  · go_enter Try.func6, Try.ntmps6
    go_wp2_with fail
    go_ret
    exact ⟨rfl, Below.refl _ _⟩
  · have hl' : decide ((n : Int) > 1048576) = false := decide_eq_false hl
    go_enter Try.func6, Try.ntmps6
    go_wp2_with fail
    (with_reducible refine HD.out.mono ?_); rintro e w1 ⟨o, t, q, x, s, ks, o', t', q', x', s', ks', rfl, hk, hk', hb1⟩
    obtain ⟨S, hS⟩ := some_bool (Cd.mk o t q x ks = Cd.mk o' t' q' x' ks')
    have hneq : (S != S) = false := by simp
    have HS := hide hS
    have hbv := hb1.trans (((belowAlloc w1 (.cells #[.int .i64 o, .int .i64 t, .int .i64 q, .int .i64 x, .slice s.a s.n s.cap] 44)).trans ((belowAlloc _ (.cells #[.int .i64 o', .int .i64 t', .int .i64 q', .int .i64 x', .slice s'.a s'.n s'.cap] 44)).mono (by simp))).mono hb1.size)
    have HA := hide ((hk.below (belowAlloc w1 (.cells #[.int .i64 o, .int .i64 t, .int .i64 q, .int .i64 x, .slice s.a s.n s.cap] 44))).below (belowAlloc _ (.cells #[.int .i64 o', .int .i64 t', .int .i64 q', .int .i64 x', .slice s'.a s'.n s'.cap] 44)))
    have HB := hide ((hk'.below (belowAlloc w1 (.cells #[.int .i64 o, .int .i64 t, .int .i64 q, .int .i64 x, .slice s.a s.n s.cap] 44))).below (belowAlloc _ (.cells #[.int .i64 o', .int .i64 t', .int .i64 q', .int .i64 x', .slice s'.a s'.n s'.cap] 44)))
    have BA := hide ((BoxC.new w1 o t q x s.a s.n s.cap 44).below (belowAlloc _ (.cells #[.int .i64 o', .int .i64 t', .int .i64 q', .int .i64 x', .slice s'.a s'.n s'.cap] 44)))
    have BB : Hid (BoxC ((w1.alloc (.cells #[.int .i64 o, .int .i64 t, .int .i64 q, .int .i64 x, .slice s.a s.n s.cap] 44)).alloc (.cells #[.int .i64 o', .int .i64 t', .int .i64 q', .int .i64 x', .slice s'.a s'.n s'.cap] 44)) (w1.heap.size + 1) o' t' q' x' s'.a s'.n s'.cap) := hide (by
      have h := BoxC.new (w1.alloc (.cells #[.int .i64 o, .int .i64 t, .int .i64 q, .int .i64 x, .slice s.a s.n s.cap] 44)) o' t' q' x' s'.a s'.n s'.cap 44
      simpa using h)
    have HBV := hide hbv
    clear hk hk' hS hbv
    go_wp2_with fail
    generalize hV : (w1.alloc (.cells #[.int .i64 o, .int .i64 t, .int .i64 q, .int .i64 x, .slice s.a s.n s.cap] 44)).alloc (.cells #[.int .i64 o', .int .i64 t', .int .i64 q', .int .i64 x', .slice s'.a s'.n s'.cap] 44) = V at *
    clear hV
    (with_reducible refine (CondSame_any o t q x o' t' q' x' ks ks' s.a s'.a s.n s.cap s'.n s'.cap S V HA.out HB.out HS.out).mono ?_); rintro e w2 ⟨rfl, hb2⟩
    have HA2 := hide (HA.out.below hb2); have HB2 := hide (HB.out.below hb2); have BA2 := hide (BA.out.below hb2); have BB2 := hide (BB.out.below hb2); have HBV2 := hide (HBV.out.trans (hb2.mono HBV.out.size))
    clear HA HB BA BB HBV hb2
    obtain ⟨lA, eA0, eA1, eA2, eA3, eA4⟩ := BA2.out; obtain ⟨lB, eB0, eB1, eB2, eB3, eB4⟩ := BB2.out
    go_wp2_with fail
    clear lA eA0 eA1 eA2 eA3 eA4 lB eB0 eB1 eB2 eB3 eB4
    (with_reducible refine (CondSameS_any o t q x o' t' q' x' ks ks' s.a s'.a s.n s.cap s'.n s'.cap S _ HA2.out HB2.out HS.out).mono ?_); rintro e w3 ⟨rfl, hb3⟩
    have HA3 := hide (HA2.out.below hb3); have HB3 := hide (HB2.out.below hb3); have BA3 := hide (BA2.out.below hb3); have BB3 := hide (BB2.out.below hb3); have HBV3 := hide (HBV2.out.trans (hb3.mono HBV2.out.size))
    clear HA2 HB2 BA2 BB2 HBV2 hb3
    obtain ⟨lA, eA0, eA1, eA2, eA3, eA4⟩ := BA3.out; obtain ⟨lB, eB0, eB1, eB2, eB3, eB4⟩ := BB3.out
    go_wp2_with fail
    clear lA eA0 eA1 eA2 eA3 eA4 lB eB0 eB1 eB2 eB3 eB4
    (with_reducible refine (CondSame_any o' t' q' x' o t q x ks' ks s'.a s.a s'.n s'.cap s.n s.cap S _ HB3.out HA3.out (by rw [HS.out]; exact eq_comm)).mono ?_); rintro e w4 ⟨rfl, hb4⟩
    have HA4 := hide (HA3.out.below hb4); have HB4 := hide (HB3.out.below hb4); have BA4 := hide (BA3.out.below hb4); have BB4 := hide (BB3.out.below hb4); have HBV4 := hide (HBV3.out.trans (hb4.mono HBV3.out.size))
    clear HA3 HB3 BA3 BB3 HBV3 hb4
    obtain ⟨lA, eA0, eA1, eA2, eA3, eA4⟩ := BA4.out; obtain ⟨lB, eB0, eB1, eB2, eB3, eB4⟩ := BB4.out
    go_wp2_with fail
    clear lA eA0 eA1 eA2 eA3 eA4 lB eB0 eB1 eB2 eB3 eB4
    (with_reducible refine (CondSame_any o t q x o t q x ks ks s.a s.a s.n s.cap s.n s.cap true _ HA4.out HA4.out (by simp)).mono ?_); rintro e w5 ⟨rfl, hb5⟩
    have HA5 := hide (HA4.out.below hb5); have HB5 := hide (HB4.out.below hb5); have BA5 := hide (BA4.out.below hb5); have BB5 := hide (BB4.out.below hb5); have HBV5 := hide (HBV4.out.trans (hb5.mono HBV4.out.size))
    clear HA4 HB4 BA4 BB4 HBV4 hb5
    obtain ⟨lA, eA0, eA1, eA2, eA3, eA4⟩ := BA5.out; obtain ⟨lB, eB0, eB1, eB2, eB3, eB4⟩ := BB5.out
    go_wp2_with fail
    clear lA eA0 eA1 eA2 eA3 eA4 lB eB0 eB1 eB2 eB3 eB4
    (with_reducible refine (FormatCond_any o t q x ks s.a s.n s.cap _ HA5.out).mono ?_); rintro e w6 ⟨rfl, hb6⟩
    have HB6 := hide (HB5.out.below hb6); have BA6 := hide (BA5.out.below hb6); have BB6 := hide (BB5.out.below hb6); have HBV6 := hide (HBV5.out.trans (hb6.mono HBV5.out.size))
    clear HA5 HB5 BA5 BB5 HBV5 hb6
    obtain ⟨lA, eA0, eA1, eA2, eA3, eA4⟩ := BA6.out; obtain ⟨lB, eB0, eB1, eB2, eB3, eB4⟩ := BB6.out
    go_wp2_with fail
    clear lA eA0 eA1 eA2 eA3 eA4 lB eB0 eB1 eB2 eB3 eB4
    (with_reducible refine (FormatCond_any o' t' q' x' ks' s'.a s'.n s'.cap _ HB6.out).mono ?_); rintro e w7 ⟨rfl, hb7⟩
    have HBV7 := hide (HBV6.out.trans (hb7.mono HBV6.out.size))
    clear HB6 BA6 BB6 HBV6 hb7
    have HI := hide (fun h h' => fmt_inj (c := Cd.mk o t q x ks) (c' := Cd.mk o' t' q' x' ks') h h')
    generalize Cd.mk o t q x ks = C at *
    generalize Cd.mk o' t' q' x' ks' = D at *
    by_cases hv : validC C = true
    · by_cases hv' : validC D = true
      · have hA := text_ne (valid_shape hv)
        have hB := text_ne (valid_shape hv')
        have nA : fmtC C ≠ ⟨#[]⟩ := by
          rw [fmt_valid hv]; intro e
          have := congrArg ByteArray.size e
          rw [size_strN] at this
          exact hA (List.eq_nil_of_length_eq_zero this)
        have nB : fmtC D ≠ ⟨#[]⟩ := by
          rw [fmt_valid hv']; intro e
          have := congrArg ByteArray.size e
          rw [size_strN] at this
          exact hB (List.eq_nil_of_length_eq_zero this)
        have hE : S = true ↔ fmtC C = fmtC D := by
          rw [HS.out, fmt_valid hv, fmt_valid hv']
          exact ⟨fun h => by rw [h], fun h => HI.out hv hv' h⟩
        have HE := hide hE
        clear hE hA hB hv hv' HI HS
        generalize fmtC C = TA at *
        generalize fmtC D = TB at *
        by_cases hT : TA = TB
        · obtain rfl : S = true := HE.out.2 hT
          subst hT
          go_wp2_with fail
          all_goals (go_ret)
          all_goals exact ⟨rfl, HBV7.out⟩
        · obtain rfl : S = false := by rw [Bool.eq_false_iff, ne_eq, HE.out]; exact hT
          have hT' := hide (bytes_ne hT)
          clear HE hT
          go_wp2_with fail
          all_goals (go_ret)
          all_goals first | exact ⟨rfl, HBV7.out⟩ | exact ⟨by rw [hT'.out]; simp, HBV7.out⟩ | (trace_state; fail)
      · rw [fmt_bad (c := D) (by simpa using hv')] at *
        clear hv hv' HI HS
        go_wp2_with fail
        all_goals (go_ret)
        all_goals first | exact ⟨rfl, HBV7.out⟩ | exact ⟨by simp, HBV7.out⟩ | (trace_state; fail)
    · rw [fmt_bad (c := C) (by simpa using hv)] at *
      clear hv HI HS
      go_wp2_with fail
      all_goals (go_ret)
      all_goals first | exact ⟨rfl, HBV7.out⟩ | exact ⟨by simp, HBV7.out⟩ | (trace_state; fail)

theorem lawCondSame3 (v : Value) (xs : List Int) (w : World) (h : Rep ByteE w v xs ∧ ∀ x ∈ xs, 0 ≤ x ∧ x ≤ 255) :
    Calls Try.prog 6 #[v] w fun e w' => e = .returned (.bool true) ∧ Below w.heap.size w w' :=
  lawCondSame2 v xs w h.1 h.2

end Go.Proofs.Ythglefilfpnikaa
