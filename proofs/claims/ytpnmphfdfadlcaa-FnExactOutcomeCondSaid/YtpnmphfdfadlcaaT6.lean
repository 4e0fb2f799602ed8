/-
  Valid conditions, in the program and in the reference. No condition but a bound on sizes.
-/
import Derived.Test.YtpnmphfdfadlcaaT5
namespace Go.Proofs.Ytpnmphfdfadlcaa
open Go.RowKit

/-- What a size hands back. -/
def RetSz (w : World) (d : Nat) (c : Cd) (e : Ending) (w' : World) : Prop := ∃ r : Int, e = .returned (.int .i64 r) ∧ SzOK d c r ∧ Below w.heap.size w w'

set_option maxHeartbeats 1600000 in
theorem condSize_any : ∀ (d : Nat), d ≤ 10 → ∀ (o t p x : Int) (ks : List Cd) (a : Option Addr) (n c : Nat) (w : World), RepK 0 w ⟨a, n, c⟩ ks →
    Calls Try.prog 74 #[.agg #[.int .i64 o, .int .i64 t, .int .i64 p, .int .i64 x, .slice a n c], .int .i64 d] w (RetSz w d (.mk o t p x ks)) := by
  intro d
  induction d with
  | zero =>
    intro _ o t p x ks a n c w h
    have HB := hide ((Below.refl w.heap.size w).alloc (Nat.le_refl _) (.cells #[.int .i64 o, .int .i64 t, .int .i64 p, .int .i64 x, .slice a n c] 25))
    go_enter Try.func74, Try.ntmps74
    go_wp2_with fail
    go_ret
    exact ⟨31, rfl, SzOK.bad0 _, HB.out⟩
  | succ d ih =>
    intro hd o t p x ks a n c w h
    have IH := hide (ih (by omega))
    clear ih
    obtain ⟨e1, hc1, hc2, hc3⟩ := h.open
    simp only at e1 hc1 hc2 hc3
    subst e1
    have HB := hide ((Below.refl w.heap.size w).alloc (Nat.le_refl _) (.cells #[.int .i64 o, .int .i64 t, .int .i64 p, .int .i64 x, .slice a ks.length c] 25))
    have HP := hide (h.below HB.out)
    have HI := hide (fun w' => isCondNode_raw o t p x a ks.length c w')
    have hD0 : (((d + 1 : Nat) : Int) == 0) = false := by simp; omega
    have hD1 : ((d + 1 : Nat) : Int) - 1 = (d : Int) := by omega
    have hD2 : 1 ≤ ((d + 1 : Nat) : Int) := by omega
    have hD3 : ((d + 1 : Nat) : Int) ≤ 10 := by omega
    generalize ((d + 1 : Nat) : Int) = D at *
    have NB : Hid (nodeR o t p x ks.length = nodeB (.mk o t p x ks)) := hide rfl
    have KK : Hid ((Cd.mk o t p x ks).kids = ks) := hide rfl
    generalize hC : Cd.mk o t p x ks = C at *
    clear hC h
    generalize nodeR o t p x ks.length = b at *
    cases b
    · go_enter Try.func74, Try.ntmps74
      go_wp2_with fail
      (with_reducible refine (HI.out _).mono ?_); rintro e w1 ⟨rfl, hb1⟩
      go_wp2_with fail
      go_ret
      exact ⟨31, rfl, SzOK.bad NB.out.symm, HB.out.trans (hb1.mono HB.out.size)⟩
    · go_enter Try.func74, Try.ntmps74
      go_wp2_with fail
      (with_reducible refine (HI.out _).mono ?_); rintro e w1 ⟨rfl, hb1⟩
      obtain ⟨hcc, hff⟩ := bcell hb1
      have HB1 := hide (HB.out.trans (hb1.mono HB.out.size))
      have HP1 := hide (HP.out.below hb1)
      clear hb1
      go_wp2_with fail
      clear hcc hff hD0
      go_loopw [5, 18] (fun q i wr => ∃ (k : Nat) (r : Int), k ≤ ks.length ∧ i = .int .i64 k ∧ q = .int .i64 r ∧ Hid (SzTo d ks k r) ∧ 1 ≤ r ∧ r ≤ 30 ∧ Below w1.heap.size w1 wr) (fun _ i _ => ks.length - (intOf i).toNat)
      case atStart => exact ⟨0, 1, by omega, rfl, rfl, hide (SzTo.zero _ _), by omega, by omega, Below.refl _ _⟩
      case round =>
        obtain ⟨k, r, hk, rfl, rfl, T, hr1, hr2, hb⟩ := hrel
        by_cases hlt : k < ks.length
        · obtain ⟨x1, hxk⟩ := get_of_lt (xs := ks) (k := k) hlt
          obtain ⟨b1, o1, s, rfl, hbl, i0, i1, i2, i3, i4, i5⟩ := (HP1.out.below hb).kid hxk
          have hlt' := nat_of_lt hlt
          have hba := (Below.refl wr.heap.size wr).alloc (Nat.le_refl _) (.cells #[.int .i64 x1.op, .int .i64 x1.th, .int .i64 x1.pl, .int .i64 x1.val, .slice s.a s.n s.cap] 25)
          have HC := hide (IH.out x1.op x1.th x1.pl x1.val x1.kids s.a s.n s.cap _ (i5.below hba))
          have X := hide hxk; have HBA := hide hba
          clear hxk i5 hba
          go_wp2_with fail
          (with_reducible refine HC.out.mono ?_); rintro e w2 ⟨r', rfl, hr', hb2⟩
          rw [Cd.eta] at hr'
          have h1 := hr'.low
          have h2 := hr'.high
          have HR := hide hr'; clear hr'
          have hb3 := hb.trans ((HBA.out.trans (hb2.mono HBA.out.size)).mono hb.size)
          by_cases hle : r + r' ≤ 30
          · have T2 := hide (T.out.next X.out HR.out hle)
            have hle' : decide (r + r' > 30) = false := by simp; omega
            go_wp2_with fail
            go_roundw
            case rel => exact ⟨k + 1, r + r', by omega, by go_num, rfl, T2, by omega, by omega, hb3⟩
            case measure => simp [intOf]; omega
          · have hle' : decide (r + r' > 30) = true := by simp; omega
            have T2 := hide (SzTo.more (c := C) (by rw [KK.out]; exact T.out) (by rw [KK.out]; exact X.out) HR.out hle)
            go_wp2_with fail
            go_ret
            exact ⟨r + r', rfl, T2.out, HB1.out.trans (hb3.mono HB1.out.size)⟩
        · have e : ks.length ≤ k := by omega
          have T2 := hide (SzTo.done (c := C) (by rw [KK.out]; exact T.out) NB.out.symm (by rw [KK.out]; exact e))
          go_wp2_with fail
          go_ret
          exact ⟨r, rfl, T2.out, HB1.out.trans (hb.mono HB1.out.size)⟩

theorem CondValid_raw (o t p x : Int) (ks : List Cd) (a : Option Addr) (n c : Nat) (w : World) (h : RepK 0 w ⟨a, n, c⟩ ks) :
    Calls Try.prog 17 #[.agg #[.int .i64 o, .int .i64 t, .int .i64 p, .int .i64 x, .slice a n c]] w fun e w' => e = .returned (.bool (validC (.mk o t p x ks))) ∧ Below w.heap.size w w' := by
  have HB := hide ((Below.refl w.heap.size w).alloc (Nat.le_refl _) (.cells #[.int .i64 o, .int .i64 t, .int .i64 p, .int .i64 x, .slice a n c] 25))
  have HC := hide (condSize_any 10 (Nat.le_refl _) o t p x ks a n c _ (h.below HB.out))
  have e10 : ((10 : Nat) : Int) = 10 := rfl
  rw [e10] at HC
  clear e10
  generalize Cd.mk o t p x ks = C at *
  go_enter Try.func17, Try.ntmps17
  go_wp2_with fail
  (with_reducible refine HC.out.mono ?_); rintro e w2 ⟨r, rfl, hr, hb2⟩
  have E := hide hr.valid
  clear hr
  go_wp2_with fail
  go_ret
  exact ⟨by rw [← E.out]; rfl, HB.out.trans (hb2.mono HB.out.size)⟩

set_option maxHeartbeats 1600000 in
theorem l11Shape_any : ∀ (d : Nat), d ≤ 10 → ∀ (o t p x : Int) (ks : List Cd) (a : Option Addr) (n c : Nat) (w : World), RepK 0 w ⟨a, n, c⟩ ks →
    Calls Try.prog 75 #[.agg #[.int .i64 o, .int .i64 t, .int .i64 p, .int .i64 x, .slice a n c], .int .i64 d] w fun e w' => e = .returned (.bool (shapeF d (.mk o t p x ks))) ∧ Below w.heap.size w w' := by
  intro d
  induction d with
  | zero =>
    intro _ o t p x ks a n c w h
    have HB := hide ((Below.refl w.heap.size w).alloc (Nat.le_refl _) (.cells #[.int .i64 o, .int .i64 t, .int .i64 p, .int .i64 x, .slice a n c] 25))
    go_enter Try.func75, Try.ntmps75
    go_wp2_with fail
    go_ret
    exact ⟨rfl, HB.out⟩
  | succ d ih =>
    intro hd o t p x ks a n c w h
    have IH := hide (ih (by omega))
    clear ih
    obtain ⟨e1, hc1, hc2, hc3⟩ := h.open
    simp only at e1 hc1 hc2 hc3
    subst e1
    have HB := hide ((Below.refl w.heap.size w).alloc (Nat.le_refl _) (.cells #[.int .i64 o, .int .i64 t, .int .i64 p, .int .i64 x, .slice a ks.length c] 25))
    have HP := hide (h.below HB.out)
    have HI := hide (fun w' => l11Own_raw o t p x a ks.length c w')
    have hd0 : decide (((d + 1 : Nat) : Int) < 1) = false := by simp; omega
    have NB : Hid (nodeR o t p x ks.length = nodeB (.mk o t p x ks)) := hide rfl
    have KK : Hid ((Cd.mk o t p x ks).kids = ks) := hide rfl
    generalize hC : Cd.mk o t p x ks = C at *
    clear hC h
    generalize nodeR o t p x ks.length = b at *
    have SH := hide (shapeF_succ d C)
    generalize shapeF (d + 1) C = R at *
    cases b
    · obtain rfl : R = false := by rw [Bool.eq_false_iff, ne_eq, SH.out, ← NB.out]; simp
      go_enter Try.func75, Try.ntmps75
      go_wp2_with fail
      (with_reducible refine (HI.out _).mono ?_); rintro e w1 ⟨rfl, hb1⟩
      go_wp2_with fail
      go_ret
      exact ⟨rfl, HB.out.trans (hb1.mono HB.out.size)⟩
    · go_enter Try.func75, Try.ntmps75
      go_wp2_with fail
      (with_reducible refine (HI.out _).mono ?_); rintro e w1 ⟨rfl, hb1⟩
      obtain ⟨hcc, hff⟩ := bcell hb1
      have HB1 := hide (HB.out.trans (hb1.mono HB.out.size))
      have HP1 := hide (HP.out.below hb1)
      have k1 : w1.cell? ⟨w.heap.size, 4, none⟩ = some (.slice a ks.length c) := by rw [hcc _ _ (by simp)]; simp [go_sem]
      have k2 : w.heap.size < w1.heap.size := by have := hb1.size; simp at this; omega
      clear hb1
      go_wp2_with fail
      clear hcc hff hd0
      go_loopw [5] (fun i wr => ∃ (k : Nat), k ≤ ks.length ∧ i = .int .i64 k ∧ Hid (∀ y ∈ ks.take k, shapeF d y = true) ∧ Below w1.heap.size w1 wr) (fun i _ => ks.length - (intOf i).toNat)
      case atStart => exact ⟨0, by omega, rfl, hide (by simp), Below.refl _ _⟩
      case round =>
        obtain ⟨k, hk, rfl, T, hb⟩ := hrel
        have hsz := hb.size
        have l1 := (hb.cell (p := ⟨w.heap.size, 4, none⟩) k2).trans k1
        have l3 : w.heap.size < wr.heap.size := by omega
        by_cases hlt : k < ks.length
        · obtain ⟨x1, hxk⟩ := get_of_lt (xs := ks) (k := k) hlt
          obtain ⟨b1, o1, s, rfl, hbl, i0, i1, i2, i3, i4, i5⟩ := (HP1.out.below hb).kid hxk
          have hlt' := nat_of_lt hlt
          have HC := hide (IH.out x1.op x1.th x1.pl x1.val x1.kids s.a s.n s.cap _ i5)
          have hb1x : shapeF d (Cd.mk x1.op x1.th x1.pl x1.val x1.kids) = shapeF d x1 := by rw [Cd.eta]
          rw [hb1x] at HC
          have X := hide hxk
          clear hxk i5 hb1x
          generalize hy : shapeF d x1 = y at *
          have Y := hide hy; clear hy
          go_wp2_with fail
          (with_reducible refine HC.out.mono ?_); rintro e w2 ⟨rfl, hb2⟩
          have hb3 := hb.trans (hb2.mono hb.size)
          cases y
          · go_wp2_with fail
            go_ret
            obtain rfl : R = false := by
              rw [Bool.eq_false_iff, ne_eq, SH.out, KK.out]
              intro h
              have := h.2 x1 (List.mem_of_getElem? X.out)
              rw [Y.out] at this; simp at this
            exact ⟨rfl, HB1.out.trans (hb3.mono HB1.out.size)⟩
          · have T2 : Hid (∀ y ∈ ks.take (k + 1), shapeF d y = true) := hide (by
              intro y hy
              rw [List.take_add_one, X.out] at hy
              simp at hy
              rcases hy with hy | rfl
              · exact T.out y hy
              · exact Y.out)
            go_wp2_with fail
            go_roundw
            case rel => exact ⟨k + 1, by omega, by go_num, T2, hb3⟩
            case measure => simp [intOf]; omega
        · obtain rfl : R = true := by
            rw [SH.out, KK.out]
            exact ⟨NB.out.symm, by have := T.out; rwa [List.take_of_length_le (by omega)] at this⟩
          go_wp2_with fail
          go_ret
          exact ⟨rfl, HB1.out.trans (hb.mono HB1.out.size)⟩

/-- What a count hands back. -/
def RetCn (w : World) (c : Cd) (m : Int) (e : Ending) (w' : World) : Prop := ∃ r : Int, e = .returned (.int .i64 r) ∧ CnOK c m r ∧ Below w.heap.size w w'

/-- The reference's count is right of conditions with the parts xs. -/
def CntK (xs : List Cd) : Prop := ∀ (o t p x : Int) (a : Option Addr) (n c : Nat) (m : Int) (w : World), RepK 0 w ⟨a, n, c⟩ xs → descs xs ≤ 1048576 → 0 ≤ m → m ≤ 30 →
  Calls Try.prog 76 #[.agg #[.int .i64 o, .int .i64 t, .int .i64 p, .int .i64 x, .slice a n c], .int .i64 m] w (RetCn w (.mk o t p x xs) m)

set_option maxHeartbeats 1600000 in
theorem cntK_any : ∀ xs, CntK xs := Cd.all (by
  intro ks ih o t p x a n c m w h hl hm0 hm1
  obtain ⟨e1, hc1, hc2, hc3⟩ := h.open
  simp only at e1 hc1 hc2 hc3
  subst e1
  have HB := hide ((Below.refl w.heap.size w).alloc (Nat.le_refl _) (.cells #[.int .i64 o, .int .i64 t, .int .i64 p, .int .i64 x, .slice a ks.length c] 25))
  have HP := hide (h.below HB.out)
  have IH := hide ih
  have KK : Hid ((Cd.mk o t p x ks).kids = ks) := hide rfl
  generalize hC : Cd.mk o t p x ks = C at *
  clear hC h ih
  go_enter Try.func76, Try.ntmps76
  go_wp2_with fail
  generalize hW : w.alloc (.cells #[.int .i64 o, .int .i64 t, .int .i64 p, .int .i64 x, .slice a ks.length c] 25) = W at *
  have k1 : W.cell? ⟨w.heap.size, 4, none⟩ = some (.slice a ks.length c) := by rw [← hW]; simp [go_sem]
  have k2 : w.heap.size < W.heap.size := by rw [← hW]; simp
  clear hW
  go_loopw [5, 6] (fun q i wr => ∃ (k : Nat) (r : Int), k ≤ ks.length ∧ i = .int .i64 k ∧ q = .int .i64 r ∧ Hid (CnTo ks m k r) ∧ 1 ≤ r ∧ r ≤ 1048577 ∧ Below W.heap.size W wr) (fun _ i _ => ks.length - (intOf i).toNat)
  case atStart => exact ⟨0, 1, by omega, rfl, rfl, hide (CnTo.zero _ _), by omega, by omega, Below.refl _ _⟩
  case round =>
    obtain ⟨k, r, hk, rfl, rfl, T, hr1, hr2, hb⟩ := hrel
    have hsz := hb.size
    have l1 := (hb.cell (p := ⟨w.heap.size, 4, none⟩) k2).trans k1
    have l3 : w.heap.size < wr.heap.size := by omega
    by_cases hlt : k < ks.length
    · by_cases hle : r ≤ m
      · obtain ⟨x1, hxk⟩ := get_of_lt (xs := ks) (k := k) hlt
        obtain ⟨b1, o1, s, rfl, hbl, i0, i1, i2, i3, i4, i5⟩ := (HP.out.below hb).kid hxk
        have hlt' := nat_of_lt hlt
        have hdk := descs_kid hxk
        have HC := hide (IH.out x1 (List.mem_of_getElem? hxk) x1.op x1.th x1.pl x1.val s.a s.n s.cap (m - r) _ i5 (by omega) (by omega) (by omega))
        have X := hide hxk
        clear hxk i5
        go_wp2_with fail
        (with_reducible refine HC.out.mono ?_); rintro e w2 ⟨r', rfl, hr', hb2⟩
        rw [Cd.eta] at hr'
        have h1 := hr'.low
        have h2 := hr'.high
        have HR := hide hr'; clear hr'
        have hb3 := hb.trans (hb2.mono hb.size)
        have T2 := hide (T.out.next X.out hle HR.out)
        have h3 : r + r' ≤ 1048577 := by have := T2.out.high; have := descs_take_le ks (k + 1); omega
        clear h2
        go_wp2_with fail
        go_roundw
        case rel => exact ⟨k + 1, r + r', by omega, by go_num, rfl, T2, by omega, h3, hb3⟩
        case measure => simp [intOf]; omega
      · have hle' : decide (r ≤ m) = false := by simp; omega
        have hlt' := nat_of_lt hlt
        have T2 := hide (CnTo.done (c := C) (by rw [KK.out]; exact T.out) (.inr hle))
        go_wp2_with fail
        go_ret
        exact ⟨r, rfl, T2.out, HB.out.trans (hb.mono HB.out.size)⟩
    · have e : ks.length ≤ k := by omega
      have T2 := hide (CnTo.done (c := C) (m := m) (by rw [KK.out]; exact T.out) (.inl (by rw [KK.out]; exact e)))
      go_wp2_with fail
      go_ret
      exact ⟨r, rfl, T2.out, HB.out.trans (hb.mono HB.out.size)⟩)

set_option maxHeartbeats 800000 in
theorem CondValidS_raw (o t p x : Int) (ks : List Cd) (a : Option Addr) (n c : Nat) (w : World) (h : RepK 0 w ⟨a, n, c⟩ ks) (hl : descs ks ≤ 1048576) :
    Calls Try.prog 18 #[.agg #[.int .i64 o, .int .i64 t, .int .i64 p, .int .i64 x, .slice a n c]] w fun e w' => e = .returned (.bool (validC (.mk o t p x ks))) ∧ Below w.heap.size w w' := by
  have HB := hide ((Below.refl w.heap.size w).alloc (Nat.le_refl _) (.cells #[.int .i64 o, .int .i64 t, .int .i64 p, .int .i64 x, .slice a n c] 25))
  have HC := hide (l11Shape_any 10 (Nat.le_refl _) o t p x ks a n c _ (h.below HB.out))
  have e10 : ((10 : Nat) : Int) = 10 := rfl
  rw [e10] at HC
  clear e10
  have HN := hide (fun w' h' => cntK_any ks o t p x a n c 30 w' h' hl (by omega) (by omega))
  have HP := hide (h.below HB.out)
  have E : Hid (validC (.mk o t p x ks) = (shapeF 10 (.mk o t p x ks) && decide (nodes (.mk o t p x ks) ≤ 30))) := hide rfl
  clear h
  generalize Cd.mk o t p x ks = C at *
  generalize validC C = R at *
  generalize shapeF 10 C = b at *
  cases b
  · obtain rfl : R = false := by rw [E.out]; rfl
    go_enter Try.func18, Try.ntmps18
    go_wp2_with fail
    (with_reducible refine HC.out.mono ?_); rintro e w2 ⟨rfl, hb2⟩
    go_wp2_with fail
    go_ret
    exact ⟨rfl, HB.out.trans (hb2.mono HB.out.size)⟩
  · go_enter Try.func18, Try.ntmps18
    go_wp2_with fail
    (with_reducible refine HC.out.mono ?_); rintro e w2 ⟨rfl, hb2⟩
    obtain ⟨hc2, hf2⟩ := bcell hb2
    go_wp2_with fail
    (with_reducible refine (HN.out _ (HP.out.below hb2)).mono ?_); rintro e w3 ⟨r, rfl, hr, hb3⟩
    have E2 : Hid (R = decide (r ≤ 30)) := hide (by rw [E.out, hr.le]; rfl)
    clear hr
    go_wp2_with fail
    go_ret
    exact ⟨by rw [E2.out]; rfl, HB.out.trans ((hb2.trans (hb3.mono hb2.size)).mono HB.out.size)⟩

end Go.Proofs.Ytpnmphfdfadlcaa
