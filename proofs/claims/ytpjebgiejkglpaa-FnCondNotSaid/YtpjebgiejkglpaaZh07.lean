/-
  A variable that holds a condition: five cells of a block.
-/
import Derived.Test.YtpjebgiejkglpaaZh04
import Derived.Laws.BytesArg
import Derived.Deep.RegionHeld3
import Derived.Deep.DeepCutAuto
namespace Go.Proofs.Ytpjebgiejkglpaa
open Go.RowKit

/-- What a size hands back. -/
def RetSz (w : World) (d : Nat) (c : Cd) (e : Ending) (w' : World) : Prop := ∃ r : Int, e = .returned (.int .i64 r) ∧ SzOK d c r ∧ Below w.heap.size w w'

set_option maxHeartbeats 1600000 in
theorem condSize_any : ∀ (d : Nat), d ≤ 10 → ∀ (o t p x : Int) (ks : List Cd) (a : Option Addr) (n c : Nat) (w : World), RepK 0 w ⟨a, n, c⟩ ks →
    Calls Try.prog 27 #[.agg #[.int .i64 o, .int .i64 t, .int .i64 p, .int .i64 x, .slice a n c], .int .i64 d] w (RetSz w d (.mk o t p x ks)) := by
  intro d
  induction d with
  | zero =>
    intro _ o t p x ks a n c w h
    have HB := hide ((Below.refl w.heap.size w).alloc (Nat.le_refl _) (.cells #[.int .i64 o, .int .i64 t, .int .i64 p, .int .i64 x, .slice a n c] 27))
    go_enter Try.func27, Try.ntmps27
    go_wp2_with fail
    go_ret
    exact ⟨31, rfl, SzOK.bad0 _, HB.out⟩
  | succ d ih =>
    intro hd o t p x ks a n c w h
    have IH := hide (ih (by omega))
    clear ih
    obtain ⟨e1, hc1, hc2, hc3⟩ := h.open
    simp only at e1 hc1 hc2 hc3
    subst e1
    have HB := hide ((Below.refl w.heap.size w).alloc (Nat.le_refl _) (.cells #[.int .i64 o, .int .i64 t, .int .i64 p, .int .i64 x, .slice a ks.length c] 27))
    have HP := hide (h.below HB.out)
    have HI := hide (fun w' => isCondNode_raw o t p x a ks.length c w')
    have hD0 : (((d + 1 : Nat) : Int) == 0) = false := by simp; omega
    have hD1 : ((d + 1 : Nat) : Int) - 1 = (d : Int) := by omega
    have hD2 : 1 ≤ ((d + 1 : Nat) : Int) := by omega
    have hD3 : ((d + 1 : Nat) : Int) ≤ 10 := by omega
    generalize ((d + 1 : Nat) : Int) = D at *
    have NB : Hid (nodeR o t p x ks.length = nodeB (.mk o t p x ks)) := hide rfl
    have KK : Hid ((Cd.mk o t p x ks).kids = ks) := hide rfl
    generalize hC : Cd.mk o t p x ks = C at *
    clear hC h
    generalize nodeR o t p x ks.length = b at *
    cases b
    · go_enter Try.func27, Try.ntmps27
      go_wp2_with fail
      (with_reducible refine (HI.out _).mono ?_); rintro e w1 ⟨rfl, hb1⟩
      go_wp2_with fail
      go_ret
      exact ⟨31, rfl, SzOK.bad NB.out.symm, HB.out.trans (hb1.mono HB.out.size)⟩
    · go_enter Try.func27, Try.ntmps27
      go_wp2_with fail
      (with_reducible refine (HI.out _).mono ?_); rintro e w1 ⟨rfl, hb1⟩
      obtain ⟨hcc, hff⟩ := bcell hb1
      have HB1 := hide (HB.out.trans (hb1.mono HB.out.size))
      have HP1 := hide (HP.out.below hb1)
      clear hb1
      go_wp2_with fail
      clear hcc hff hD0
      go_loopw [5, 18] (fun q i wr => ∃ (k : Nat) (r : Int), k ≤ ks.length ∧ i = .int .i64 k ∧ q = .int .i64 r ∧ Hid (SzTo d ks k r) ∧ 1 ≤ r ∧ r ≤ 30 ∧ Below w1.heap.size w1 wr) (fun _ i _ => ks.length - (intOf i).toNat)
      case atStart => exact ⟨0, 1, by omega, rfl, rfl, hide (SzTo.zero _ _), by omega, by omega, Below.refl _ _⟩
      case round =>
        obtain ⟨k, r, hk, rfl, rfl, T, hr1, hr2, hb⟩ := hrel
        by_cases hlt : k < ks.length
        · obtain ⟨x1, hxk⟩ := get_of_lt (xs := ks) (k := k) hlt
          obtain ⟨b1, o1, s, rfl, hbl, i0, i1, i2, i3, i4, i5⟩ := (HP1.out.below hb).kid hxk
          have hlt' := nat_of_lt hlt
          have hba := (Below.refl wr.heap.size wr).alloc (Nat.le_refl _) (.cells #[.int .i64 x1.op, .int .i64 x1.th, .int .i64 x1.pl, .int .i64 x1.val, .slice s.a s.n s.cap] 27)
          have HC := hide (IH.out x1.op x1.th x1.pl x1.val x1.kids s.a s.n s.cap _ (i5.below hba))
          have X := hide hxk; have HBA := hide hba
          clear hxk i5 hba
          go_wp2_with fail
          (with_reducible refine HC.out.mono ?_); rintro e w2 ⟨r', rfl, hr', hb2⟩
          rw [Cd.eta] at hr'
          have h1 := hr'.low
          have h2 := hr'.high
          have HR := hide hr'; clear hr'
          have hb3 := hb.trans ((HBA.out.trans (hb2.mono HBA.out.size)).mono hb.size)
          by_cases hle : r + r' ≤ 30
          · have T2 := hide (T.out.next X.out HR.out hle)
            have hle' : decide (r + r' > 30) = false := by simp; omega
            go_wp2_with fail
            go_roundw
            case rel => exact ⟨k + 1, r + r', by omega, by go_num, rfl, T2, by omega, by omega, hb3⟩
            case measure => simp [intOf]; omega
          · have hle' : decide (r + r' > 30) = true := by simp; omega
            have T2 := hide (SzTo.more (c := C) (by rw [KK.out]; exact T.out) (by rw [KK.out]; exact X.out) HR.out hle)
            go_wp2_with fail
            go_ret
            exact ⟨r + r', rfl, T2.out, HB1.out.trans (hb3.mono HB1.out.size)⟩
        · have e : ks.length ≤ k := by omega
          have T2 := hide (SzTo.done (c := C) (by rw [KK.out]; exact T.out) NB.out.symm (by rw [KK.out]; exact e))
          go_wp2_with fail
          go_ret
          exact ⟨r, rfl, T2.out, HB1.out.trans (hb.mono HB1.out.size)⟩

theorem CondValid_raw (o t p x : Int) (ks : List Cd) (a : Option Addr) (n c : Nat) (w : World) (h : RepK 0 w ⟨a, n, c⟩ ks) :
    Calls Try.prog 10 #[.agg #[.int .i64 o, .int .i64 t, .int .i64 p, .int .i64 x, .slice a n c]] w fun e w' => e = .returned (.bool (validC (.mk o t p x ks))) ∧ Below w.heap.size w w' := by
  have HB := hide ((Below.refl w.heap.size w).alloc (Nat.le_refl _) (.cells #[.int .i64 o, .int .i64 t, .int .i64 p, .int .i64 x, .slice a n c] 27))
  have HC := hide (condSize_any 10 (Nat.le_refl _) o t p x ks a n c _ (h.below HB.out))
  have e10 : ((10 : Nat) : Int) = 10 := rfl
  rw [e10] at HC
  clear e10
  generalize Cd.mk o t p x ks = C at *
  go_enter Try.func10, Try.ntmps10
  go_wp2_with fail
  (with_reducible refine HC.out.mono ?_); rintro e w2 ⟨r, rfl, hr, hb2⟩
  have E := hide hr.valid
  clear hr
  go_wp2_with fail
  go_ret
  exact ⟨by rw [← E.out]; rfl, HB.out.trans (hb2.mono HB.out.size)⟩

set_option maxHeartbeats 1600000 in
theorem l11Shape_any : ∀ (d : Nat), d ≤ 10 → ∀ (o t p x : Int) (ks : List Cd) (a : Option Addr) (n c : Nat) (w : World), RepK 0 w ⟨a, n, c⟩ ks →
    Calls Try.prog 44 #[.agg #[.int .i64 o, .int .i64 t, .int .i64 p, .int .i64 x, .slice a n c], .int .i64 d] w fun e w' => e = .returned (.bool (shapeF d (.mk o t p x ks))) ∧ Below w.heap.size w w' := by
  intro d
  induction d with
  | zero =>
    intro _ o t p x ks a n c w h
    have HB := hide ((Below.refl w.heap.size w).alloc (Nat.le_refl _) (.cells #[.int .i64 o, .int .i64 t, .int .i64 p, .int .i64 x, .slice a n c] 27))
    go_enter Try.func44, Try.ntmps44
    go_wp2_with fail
    go_ret
    exact ⟨rfl, HB.out⟩
  | succ d ih =>
    intro hd o t p x ks a n c w h
    have IH := hide (ih (by omega))
    clear ih
    obtain ⟨e1, hc1, hc2, hc3⟩ := h.open
    simp only at e1 hc1 hc2 hc3
    subst e1
    have HB := hide ((Below.refl w.heap.size w).alloc (Nat.le_refl _) (.cells #[.int .i64 o, .int .i64 t, .int .i64 p, .int .i64 x, .slice a ks.length c] 27))
    have HP := hide (h.below HB.out)
    have HI := hide (fun w' => l11Own_raw o t p x a ks.length c w')
    have hd0 : decide (((d + 1 : Nat) : Int) < 1) = false := by simp; omega
    have NB : Hid (nodeR o t p x ks.length = nodeB (.mk o t p x ks)) := hide rfl
    have KK : Hid ((Cd.mk o t p x ks).kids = ks) := hide rfl
    generalize hC : Cd.mk o t p x ks = C at *
    clear hC h
    generalize nodeR o t p x ks.length = b at *
    have SH := hide (shapeF_succ d C)
    generalize shapeF (d + 1) C = R at *
    cases b
    · obtain rfl : R = false := by rw [Bool.eq_false_iff, ne_eq, SH.out, ← NB.out]; simp
      go_enter Try.func44, Try.ntmps44
      go_wp2_with fail
      (with_reducible refine (HI.out _).mono ?_); rintro e w1 ⟨rfl, hb1⟩
      go_wp2_with fail
      go_ret
      exact ⟨rfl, HB.out.trans (hb1.mono HB.out.size)⟩
    · go_enter Try.func44, Try.ntmps44
      go_wp2_with fail
      (with_reducible refine (HI.out _).mono ?_); rintro e w1 ⟨rfl, hb1⟩
      obtain ⟨hcc, hff⟩ := bcell hb1
      have HB1 := hide (HB.out.trans (hb1.mono HB.out.size))
      have HP1 := hide (HP.out.below hb1)
      have k1 : w1.cell? ⟨w.heap.size, 4, none⟩ = some (.slice a ks.length c) := by rw [hcc _ _ (by simp)]; simp [go_sem]
      have k2 : w.heap.size < w1.heap.size := by have := hb1.size; simp at this; omega
      clear hb1
      go_wp2_with fail
      clear hcc hff hd0
      go_loopw [5] (fun i wr => ∃ (k : Nat), k ≤ ks.length ∧ i = .int .i64 k ∧ Hid (∀ y ∈ ks.take k, shapeF d y = true) ∧ Below w1.heap.size w1 wr) (fun i _ => ks.length - (intOf i).toNat)
      case atStart => exact ⟨0, by omega, rfl, hide (by simp), Below.refl _ _⟩
      case round =>
        obtain ⟨k, hk, rfl, T, hb⟩ := hrel
        have hsz := hb.size
        have l1 := (hb.cell (p := ⟨w.heap.size, 4, none⟩) k2).trans k1
        have l3 : w.heap.size < wr.heap.size := by omega
        by_cases hlt : k < ks.length
        · obtain ⟨x1, hxk⟩ := get_of_lt (xs := ks) (k := k) hlt
          obtain ⟨b1, o1, s, rfl, hbl, i0, i1, i2, i3, i4, i5⟩ := (HP1.out.below hb).kid hxk
          have hlt' := nat_of_lt hlt
          have HC := hide (IH.out x1.op x1.th x1.pl x1.val x1.kids s.a s.n s.cap _ i5)
          have hb1x : shapeF d (Cd.mk x1.op x1.th x1.pl x1.val x1.kids) = shapeF d x1 := by rw [Cd.eta]
          rw [hb1x] at HC
          have X := hide hxk
          clear hxk i5 hb1x
          generalize hy : shapeF d x1 = y at *
          have Y := hide hy; clear hy
          go_wp2_with fail
          (with_reducible refine HC.out.mono ?_); rintro e w2 ⟨rfl, hb2⟩
          have hb3 := hb.trans (hb2.mono hb.size)
          cases y
          · go_wp2_with fail
            go_ret
            obtain rfl : R = false := by
              rw [Bool.eq_false_iff, ne_eq, SH.out, KK.out]
              intro h
              have := h.2 x1 (List.mem_of_getElem? X.out)
              rw [Y.out] at this; simp at this
            exact ⟨rfl, HB1.out.trans (hb3.mono HB1.out.size)⟩
          · have T2 : Hid (∀ y ∈ ks.take (k + 1), shapeF d y = true) := hide (by
              intro y hy
              rw [List.take_add_one, X.out] at hy
              simp at hy
              rcases hy with hy | rfl
              · exact T.out y hy
              · exact Y.out)
            go_wp2_with fail
            go_roundw
            case rel => exact ⟨k + 1, by omega, by go_num, T2, hb3⟩
            case measure => simp [intOf]; omega
        · obtain rfl : R = true := by
            rw [SH.out, KK.out]
            exact ⟨NB.out.symm, by have := T.out; rwa [List.take_of_length_le (by omega)] at this⟩
          go_wp2_with fail
          go_ret
          exact ⟨rfl, HB1.out.trans (hb.mono HB1.out.size)⟩

/-- What a count hands back. -/
def RetCn (w : World) (c : Cd) (m : Int) (e : Ending) (w' : World) : Prop := ∃ r : Int, e = .returned (.int .i64 r) ∧ CnOK c m r ∧ Below w.heap.size w w'

/-- The reference's count is right of conditions with the parts xs. -/
def CntK (xs : List Cd) : Prop := ∀ (o t p x : Int) (a : Option Addr) (n c : Nat) (m : Int) (w : World), RepK 0 w ⟨a, n, c⟩ xs → descs xs ≤ 1048576 → 0 ≤ m → m ≤ 30 →
  Calls Try.prog 45 #[.agg #[.int .i64 o, .int .i64 t, .int .i64 p, .int .i64 x, .slice a n c], .int .i64 m] w (RetCn w (.mk o t p x xs) m)

set_option maxHeartbeats 1600000 in
theorem cntK_any : ∀ xs, CntK xs := Cd.all (by
  intro ks ih o t p x a n c m w h hl hm0 hm1
  obtain ⟨e1, hc1, hc2, hc3⟩ := h.open
  simp only at e1 hc1 hc2 hc3
  subst e1
  have HB := hide ((Below.refl w.heap.size w).alloc (Nat.le_refl _) (.cells #[.int .i64 o, .int .i64 t, .int .i64 p, .int .i64 x, .slice a ks.length c] 27))
  have HP := hide (h.below HB.out)
  have IH := hide ih
  have KK : Hid ((Cd.mk o t p x ks).kids = ks) := hide rfl
  generalize hC : Cd.mk o t p x ks = C at *
  clear hC h ih
  go_enter Try.func45, Try.ntmps45
  go_wp2_with fail
  generalize hW : w.alloc (.cells #[.int .i64 o, .int .i64 t, .int .i64 p, .int .i64 x, .slice a ks.length c] 27) = W at *
  have k1 : W.cell? ⟨w.heap.size, 4, none⟩ = some (.slice a ks.length c) := by rw [← hW]; simp [go_sem]
  have k2 : w.heap.size < W.heap.size := by rw [← hW]; simp
  clear hW
  go_loopw [5, 6] (fun q i wr => ∃ (k : Nat) (r : Int), k ≤ ks.length ∧ i = .int .i64 k ∧ q = .int .i64 r ∧ Hid (CnTo ks m k r) ∧ 1 ≤ r ∧ r ≤ 1048577 ∧ Below W.heap.size W wr) (fun _ i _ => ks.length - (intOf i).toNat)
  case atStart => exact ⟨0, 1, by omega, rfl, rfl, hide (CnTo.zero _ _), by omega, by omega, Below.refl _ _⟩
  case round =>
    obtain ⟨k, r, hk, rfl, rfl, T, hr1, hr2, hb⟩ := hrel
    have hsz := hb.size
    have l1 := (hb.cell (p := ⟨w.heap.size, 4, none⟩) k2).trans k1
    have l3 : w.heap.size < wr.heap.size := by omega
    by_cases hlt : k < ks.length
    · by_cases hle : r ≤ m
      · obtain ⟨x1, hxk⟩ := get_of_lt (xs := ks) (k := k) hlt
        obtain ⟨b1, o1, s, rfl, hbl, i0, i1, i2, i3, i4, i5⟩ := (HP.out.below hb).kid hxk
        have hlt' := nat_of_lt hlt
        have hdk := descs_kid hxk
        have HC := hide (IH.out x1 (List.mem_of_getElem? hxk) x1.op x1.th x1.pl x1.val s.a s.n s.cap (m - r) _ i5 (by omega) (by omega) (by omega))
        have X := hide hxk
        clear hxk i5
        go_wp2_with fail
        (with_reducible refine HC.out.mono ?_); rintro e w2 ⟨r', rfl, hr', hb2⟩
        rw [Cd.eta] at hr'
        have h1 := hr'.low
        have h2 := hr'.high
        have HR := hide hr'; clear hr'
        have hb3 := hb.trans (hb2.mono hb.size)
        have T2 := hide (T.out.next X.out hle HR.out)
        have h3 : r + r' ≤ 1048577 := by have := T2.out.high; have := descs_take_le ks (k + 1); omega
        clear h2
        go_wp2_with fail
        go_roundw
        case rel => exact ⟨k + 1, r + r', by omega, by go_num, rfl, T2, by omega, h3, hb3⟩
        case measure => simp [intOf]; omega
      · have hle' : decide (r ≤ m) = false := by simp; omega
        have hlt' := nat_of_lt hlt
        have T2 := hide (CnTo.done (c := C) (by rw [KK.out]; exact T.out) (.inr hle))
        go_wp2_with fail
        go_ret
        exact ⟨r, rfl, T2.out, HB.out.trans (hb.mono HB.out.size)⟩
    · have e : ks.length ≤ k := by omega
      have T2 := hide (CnTo.done (c := C) (m := m) (by rw [KK.out]; exact T.out) (.inl (by rw [KK.out]; exact e)))
      go_wp2_with fail
      go_ret
      exact ⟨r, rfl, T2.out, HB.out.trans (hb.mono HB.out.size)⟩)

set_option maxHeartbeats 800000 in
theorem CondValidS_raw (o t p x : Int) (ks : List Cd) (a : Option Addr) (n c : Nat) (w : World) (h : RepK 0 w ⟨a, n, c⟩ ks) (hl : descs ks ≤ 1048576) :
    Calls Try.prog 21 #[.agg #[.int .i64 o, .int .i64 t, .int .i64 p, .int .i64 x, .slice a n c]] w fun e w' => e = .returned (.bool (validC (.mk o t p x ks))) ∧ Below w.heap.size w w' := by
  have HB := hide ((Below.refl w.heap.size w).alloc (Nat.le_refl _) (.cells #[.int .i64 o, .int .i64 t, .int .i64 p, .int .i64 x, .slice a n c] 27))
  have HC := hide (l11Shape_any 10 (Nat.le_refl _) o t p x ks a n c _ (h.below HB.out))
  have e10 : ((10 : Nat) : Int) = 10 := rfl
  rw [e10] at HC
  clear e10
  have HN := hide (fun w' h' => cntK_any ks o t p x a n c 30 w' h' hl (by omega) (by omega))
  have HP := hide (h.below HB.out)
  have E : Hid (validC (.mk o t p x ks) = (shapeF 10 (.mk o t p x ks) && decide (nodes (.mk o t p x ks) ≤ 30))) := hide rfl
  clear h
  generalize Cd.mk o t p x ks = C at *
  generalize validC C = R at *
  generalize shapeF 10 C = b at *
  cases b
  · obtain rfl : R = false := by rw [E.out]; rfl
    go_enter Try.func21, Try.ntmps21
    go_wp2_with fail
    (with_reducible refine HC.out.mono ?_); rintro e w2 ⟨rfl, hb2⟩
    go_wp2_with fail
    go_ret
    exact ⟨rfl, HB.out.trans (hb2.mono HB.out.size)⟩
  · go_enter Try.func21, Try.ntmps21
    go_wp2_with fail
    (with_reducible refine HC.out.mono ?_); rintro e w2 ⟨rfl, hb2⟩
    obtain ⟨hc2, hf2⟩ := bcell hb2
    go_wp2_with fail
    (with_reducible refine (HN.out _ (HP.out.below hb2)).mono ?_); rintro e w3 ⟨r, rfl, hr, hb3⟩
    have E2 : Hid (R = decide (r ≤ 30)) := hide (by rw [E.out, hr.le]; rfl)
    clear hr
    go_wp2_with fail
    go_ret
    exact ⟨by rw [E2.out]; rfl, HB.out.trans ((hb2.trans (hb3.mono hb2.size)).mono HB.out.size)⟩

end Go.Proofs.Ytpjebgiejkglpaa

namespace Go.Proofs.Ytpjebgiejkglpaa
open Go.RowKit

theorem one_byte (u : World) (B : Int) : (convert 22 9 (.slice (some ⟨u.heap.size, 0, none⟩) 1 1)).run Try.prog (u.alloc (.cells #[.int .u8 B] 5)) = .ok (.string (strOfNums [B])) (u.alloc (.cells #[.int .u8 B] 5)) :=
  run_convert_bytes_arg (u.alloc (.cells #[.int .u8 B] 5)) 22 5 Try.underlying22 Try.underlying5 u.heap.size 0 1 1 [B] rfl (fun i hi => by
    obtain rfl : i = 0 := by omega
    simp [go_sem]) 9 Try.underlying9

theorem strN_app (a b : List Int) : strOfNums a ++ strOfNums b = strOfNums (a ++ b) := by
  apply ByteArray.ext
  simp [strOfNums]
theorem strN_nil : strOfNums [] = ⟨#[]⟩ := by
  apply ByteArray.ext
  simp [strOfNums]
theorem strN_empty (a : List Int) : strOfNums a ++ ⟨#[]⟩ = strOfNums a := by rw [← strN_nil, strN_app, List.append_nil]

theorem l17Dec_dig (x : Int) (w : World) (h0 : 0 ≤ x) (h1 : x ≤ 9) :
    Calls Try.prog 109 #[.int .i64 x] w fun e w' => e = .returned (.string (strOfNums [48 + x])) ∧ Below w.heap.size w w' := by
  have kc := one_byte
  go_enter Try.func109, Try.ntmps109
  go_wp2_with fail
  go_loopw [0, 3] (fun q i wr => q = .int .i64 x ∧ i = .string ⟨#[]⟩ ∧ wr = w) (fun _ i _ => 0)
  case atStart => exact ⟨rfl, rfl, rfl⟩
  case round =>
    obtain ⟨rfl, rfl, rfl⟩ := hrel
    go_wp2_with fail
    go_ret
    exact ⟨by rw [← strN_empty]; rfl, (Below.refl _ _).alloc (Nat.le_refl _) _⟩

theorem l1Letter_any (b x : Int) (w : World) (h0 : 0 ≤ x) (h1 : x ≤ 9) (h2 : 0 ≤ b) (h3 : b ≤ 200) :
    Calls Try.prog 108 #[.int .u8 b, .int .i64 x] w fun e w' => e = .returned (.string (strOfNums [b + x])) ∧ Below w.heap.size w w' := by
  have kc := one_byte
  go_enter Try.func108, Try.ntmps108
  go_wp2_with fail
  go_ret
  exact ⟨rfl, (Below.refl _ _).alloc (Nat.le_refl _) _⟩

def Cd.kid (c : Cd) (i : Nat) : Cd := c.kids.getD i (.mk 0 0 0 0 [])

/-- The text of a valid condition, byte by byte. -/
def textF : Nat → Cd → List Int
  | 0, _ => []
  | d + 1, c =>
    if c.op = 1 then [48 + c.th] ++ [97 + c.pl] ++ [61] ++ [48 + c.val]
    else if c.op = 2 then [120 + c.pl] ++ [61] ++ [48 + c.val]
    else if c.op = 3 then [40] ++ textF d (c.kid 0) ++ [38] ++ textF d (c.kid 1) ++ [41]
    else if c.op = 4 then [40] ++ textF d (c.kid 0) ++ [124] ++ textF d (c.kid 1) ++ [41]
    else [126] ++ textF d (c.kid 0)

theorem textF_len : ∀ (d : Nat) (c : Cd), (textF d c).length + 4 ≤ 4 * 2 ^ d := by
  intro d
  induction d with
  | zero => intro c; simp [textF]
  | succ d ih =>
    intro c
    have h0 := ih (c.kid 0)
    have h1 := ih (c.kid 1)
    have h2 : 1 ≤ 2 ^ d := Nat.one_le_two_pow
    rw [Nat.pow_succ]
    unfold textF
    split
    · simp; omega
    · split
      · simp; omega
      · split
        · simp; omega
        · split
          · simp; omega
          · simp; omega

theorem dig_cut (x : Int) (h0 : 0 ≤ x) (h1 : x ≤ 3) : (⟨#[48, 49, 50, 51, 52, 53, 54, 55, 56, 57]⟩ : ByteArray).extract x.toNat (x + 1).toNat = strOfNums [48 + x] := by
  have : x = 0 ∨ x = 1 ∨ x = 2 ∨ x = 3 := by omega
  rcases this with rfl | rfl | rfl | rfl <;> rfl
theorem reg_cut (x : Int) (h0 : 0 ≤ x) (h1 : x ≤ 2) : (⟨#[97, 98, 99]⟩ : ByteArray).extract x.toNat (x + 1).toNat = strOfNums [97 + x] := by
  have : x = 0 ∨ x = 1 ∨ x = 2 := by omega
  rcases this with rfl | rfl | rfl <;> rfl
theorem loc_cut (x : Int) (h0 : 0 ≤ x) (h1 : x ≤ 2) : (⟨#[120, 121, 122]⟩ : ByteArray).extract x.toNat (x + 1).toNat = strOfNums [120 + x] := by
  have : x = 0 ∨ x = 1 ∨ x = 2 := by omega
  rcases this with rfl | rfl | rfl <;> rfl

theorem nodeR_cases {o t p x : Int} {n : Nat} (h : nodeR o t p x n = true) :
    (o = 1 ∧ 0 ≤ t ∧ t ≤ 2 ∧ 0 ≤ p ∧ p ≤ 2 ∧ 0 ≤ x ∧ x ≤ 3 ∧ n = 0) ∨ (o = 2 ∧ 0 ≤ p ∧ p ≤ 2 ∧ 0 ≤ x ∧ x ≤ 3 ∧ n = 0 ∧ t = 0) ∨ (o = 3 ∧ n = 2 ∧ t = 0 ∧ p = 0 ∧ x = 0) ∨ (o = 4 ∧ n = 2 ∧ t = 0 ∧ p = 0 ∧ x = 0) ∨ (o = 5 ∧ n = 1 ∧ t = 0 ∧ p = 0 ∧ x = 0) := by
  unfold nodeR inR at h
  split at h
  · simp only [Bool.and_eq_true, decide_eq_true_eq] at h; omega
  · split at h
    · simp only [Bool.and_eq_true, decide_eq_true_eq] at h; omega
    · split at h
      · simp only [Bool.and_eq_true, decide_eq_true_eq] at h; omega
      · simp only [Bool.and_eq_true, decide_eq_true_eq] at h; omega

theorem kid_of {o t p x : Int} {ks : List Cd} {i : Nat} {k : Cd} (h : ks[i]? = some k) : (Cd.mk o t p x ks).kid i = k := by
  unfold Cd.kid Cd.kids
  rw [List.getD_eq_getElem?_getD, h]; rfl

/-- So does a function write conditions out: fn is its number. -/
def TextsAt (fn : FuncId) (d : Nat) : Prop := ∀ (o t p x : Int) (ks : List Cd) (a : Option Addr) (n c : Nat) (w : World), RepK 0 w ⟨a, n, c⟩ ks → shapeF d (.mk o t p x ks) = true →
  Calls Try.prog fn #[.agg #[.int .i64 o, .int .i64 t, .int .i64 p, .int .i64 x, .slice a n c]] w fun e w' => e = .returned (.string (strOfNums (textF d (.mk o t p x ks)))) ∧ Below w.heap.size w w'

theorem size_strN (l : List Int) : (strOfNums l).size = l.length := by simp [strOfNums, ByteArray.size]

end Go.Proofs.Ytpjebgiejkglpaa

namespace Go.Proofs.Ytpjebgiejkglpaa

theorem szPP_le2 (p : List (List Ins)) (l : Int) (h : ¬ szPP p l < 0) (hl : l ≤ 1048576) : (0 ≤ szPP p l ∧ szPP p l ≤ 1048576) ∧ p.length ≤ 1048576 ∧ p.flatten.length ≤ 1048576 ∧ ∀ r ∈ p, r.length ≤ 1048576 := by
  unfold szPP at h ⊢
  split at h
  · omega
  · rename_i hl2
    rw [if_neg hl2]
    have h1 := szP_le p _ (Int.not_lt.1 h)
    refine ⟨by omega, by omega, ?_, fun r hr => by have := h1.2 r hr; omega⟩
    rcases szP_eq p _ (Int.not_lt.1 h) with h2 | h2
    · rw [h2] at h1 h; omega
    · subst h2; simp

theorem szK_le (ks : List Cd) (l : Int) (h : ¬ szK ks l < 0) (hl : l ≤ 1048576) : (0 ≤ szK ks l ∧ szK ks l ≤ 1048576) ∧ descs ks ≤ 1048576 := by
  unfold szK at h ⊢
  split at h
  · omega
  · rename_i hl2
    rw [if_neg hl2]
    omega

end Go.Proofs.Ytpjebgiejkglpaa

namespace Go.Proofs.Ytpjebgiejkglpaa
open Go.RowKit

/-- What a copy of parts hands back. -/
def RetK (w : World) (xs : List Cd) (e : Ending) (w' : World) : Prop := ∃ s : Slc, e = .returned (.slice s.a s.n s.cap) ∧ RepK w.heap.size w' s xs ∧ Below w.heap.size w w'
/-- What a copy of a condition hands back. -/
def RetC (w : World) (o t p x : Int) (xs : List Cd) (e : Ending) (w' : World) : Prop := ∃ s : Slc, e = .returned (.agg #[.int .i64 o, .int .i64 t, .int .i64 p, .int .i64 x, .slice s.a s.n s.cap]) ∧ RepK w.heap.size w' s xs ∧ Below w.heap.size w w'

theorem RetK.mono {w0 w : World} {xs : List Cd} {e : Ending} {w' : World} (h : RetK w xs e w') (hb : Below w0.heap.size w0 w) : RetK w0 xs e w' := by
  obtain ⟨s, h1, h2, h3⟩ := h
  exact ⟨s, h1, h2.low hb.size, hb.trans (h3.mono hb.size)⟩

theorem RepK.set {lo : Nat} {w : World} {s : Slc} {ks : List Cd} (h : RepK lo w s ks) {g : Nat} (hg : g < lo) (j : Nat) (u : Value) : RepK lo (w.setCell ⟨g, j, none⟩ u) s ks :=
  h.keep fun q hq _ => heap_setCell_other w ⟨g, j, none⟩ q u (fun e => by simp at e; omega)
theorem RepC.set {lo : Nat} {w : World} {s : Cs} {ks : Cd} (h : RepC lo w s ks) {g : Nat} (hg : g < lo) (j : Nat) (u : Value) : RepC lo (w.setCell ⟨g, j, none⟩ u) s ks :=
  h.keep fun q hq _ => heap_setCell_other w ⟨g, j, none⟩ q u (fun e => by simp at e; omega)

/-- One element of an owned slice of conditions is stored. -/
theorem Own.setCs {T : TypeId} {w : World} {base g n cap : Nat} {xs : List Cs} (h : Own CsE T w base (.slice (some ⟨g, 0, none⟩) n cap) xs) {k : Nat} {z : Cs} (hz : xs[k]? = some z) (x : Cs) :
    Own CsE T (((((w.setCell ⟨g, k * 5, none⟩ (.int .i64 x.op)).setCell ⟨g, k * 5 + 1, none⟩ (.int .i64 x.th)).setCell ⟨g, k * 5 + 2, none⟩ (.int .i64 x.pl)).setCell ⟨g, k * 5 + 3, none⟩ (.int .i64 x.val)).setCell ⟨g, k * 5 + 4, none⟩ (.slice x.s.a x.s.n x.s.cap)) base (.slice (some ⟨g, 0, none⟩) n cap) (xs.set k x) := by
  have h0 := h.set (i := k) (j := 0) ⟨x.op, z.th, z.pl, z.val, z.s⟩ (u := .int .i64 x.op) (by decide) hz rfl
  have h1 := h0.set (i := k) (j := 1) ⟨x.op, x.th, z.pl, z.val, z.s⟩ (u := .int .i64 x.th) (by decide) (get_set_self hz _) rfl
  have h2 := h1.set (i := k) (j := 2) ⟨x.op, x.th, x.pl, z.val, z.s⟩ (u := .int .i64 x.pl) (by decide) (get_set_self (get_set_self hz _) _) rfl
  have h3 := h2.set (i := k) (j := 3) ⟨x.op, x.th, x.pl, x.val, z.s⟩ (u := .int .i64 x.val) (by decide) (get_set_self (get_set_self (get_set_self hz _) _) _) rfl
  have h4 := h3.set (i := k) (j := 4) x (u := .slice x.s.a x.s.n x.s.cap) (by decide) (get_set_self (get_set_self (get_set_self (get_set_self hz _) _) _) _) rfl
  simp only [List.set_set] at h4
  exact h4

theorem Own.cs {T : TypeId} {w : World} {base g n cap : Nat} {xs : List Cs} (h : Own CsE T w base (.slice (some ⟨g, 0, none⟩) n cap) xs) {k : Nat} {x : Cs} (hx : xs[k]? = some x) :
    g < w.heap.size ∧ w.cell? ⟨g, k * 5, none⟩ = some (.int .i64 x.op) ∧ w.cell? ⟨g, k * 5 + 1, none⟩ = some (.int .i64 x.th) ∧
      w.cell? ⟨g, k * 5 + 2, none⟩ = some (.int .i64 x.pl) ∧ w.cell? ⟨g, k * 5 + 3, none⟩ = some (.int .i64 x.val) ∧ w.cell? ⟨g, k * 5 + 4, none⟩ = some (.slice x.s.a x.s.n x.s.cap) ∧ ∀ j, w.frozen? ⟨g, j, none⟩ = false :=
  ⟨(World.ownsRow.lt h g rfl).2, h.cell hx (j := 0) rfl, h.cell hx (j := 1) rfl, h.cell hx (j := 2) rfl, h.cell hx (j := 3) rfl, h.cell hx (j := 4) rfl, fun j => h.frozen j⟩

end Go.Proofs.Ytpjebgiejkglpaa

namespace Go.Proofs.Ytpjebgiejkglpaa
open Go.RowKit

structure BoxC (w : World) (b : Nat) (o t q x : Int) (a : Option Addr) (n c : Nat) : Prop where
  lt : b < w.heap.size
  c0 : w.cell? ⟨b, 0, none⟩ = some (.int .i64 o)
  c1 : w.cell? ⟨b, 1, none⟩ = some (.int .i64 t)
  c2 : w.cell? ⟨b, 2, none⟩ = some (.int .i64 q)
  c3 : w.cell? ⟨b, 3, none⟩ = some (.int .i64 x)
  c4 : w.cell? ⟨b, 4, none⟩ = some (.slice a n c)

theorem BoxC.below {w w' : World} {b : Nat} {o t q x : Int} {a : Option Addr} {n c : Nat} (h : BoxC w b o t q x a n c) (hb : Below w.heap.size w w') : BoxC w' b o t q x a n c :=
  ⟨Nat.lt_of_lt_of_le h.lt hb.size, (hb.cell (p := ⟨b, 0, none⟩) h.lt).trans h.c0, (hb.cell (p := ⟨b, 1, none⟩) h.lt).trans h.c1, (hb.cell (p := ⟨b, 2, none⟩) h.lt).trans h.c2, (hb.cell (p := ⟨b, 3, none⟩) h.lt).trans h.c3, (hb.cell (p := ⟨b, 4, none⟩) h.lt).trans h.c4⟩

theorem BoxC.new (w : World) (o t q x : Int) (a : Option Addr) (n c : Nat) (T : TypeId) : BoxC (w.alloc (.cells #[.int .i64 o, .int .i64 t, .int .i64 q, .int .i64 x, .slice a n c] T)) w.heap.size o t q x a n c :=
  ⟨by simp, by simp [go_sem], by simp [go_sem], by simp [go_sem], by simp [go_sem], by simp [go_sem]⟩

theorem below_alloc (w : World) (o : Obj) : Below w.heap.size w (w.alloc o) := (Below.refl _ _).alloc (Nat.le_refl _) o

end Go.Proofs.Ytpjebgiejkglpaa
