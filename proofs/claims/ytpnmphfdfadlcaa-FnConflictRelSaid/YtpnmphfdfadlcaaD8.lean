/-
  Texts of programs in the reference. Condition: the program is valid.
-/
import Derived.Test.YtpnmphfdfadlcaaD7
namespace Go.Proofs.Ytpnmphfdfadlcaa
open Go.RowKit

/-- The text of a valid instruction. -/
def textI (x : Ins) : ByteArray :=
  if x.op = 1 then strOfNums [97 + x.reg] ++ ⟨#[61]⟩ ++ strOfNums [120 + x.loc]
  else if x.op = 2 then strOfNums [120 + x.loc] ++ ⟨#[61]⟩ ++ strOfNums [48 + x.val]
  else if x.op = 3 then strOfNums [120 + x.loc] ++ ⟨#[61]⟩ ++ strOfNums [97 + x.reg]
  else if x.op = 5 then strOfNums [97 + x.reg] ++ ⟨#[61]⟩ ++ strOfNums [120 + x.loc] ++ ⟨#[58]⟩ ++ strOfNums [48 + x.val]
  else ⟨#[102, 101, 110, 99, 101]⟩

theorem textI_size (x : Ins) : (textI x).size ≤ 5 := by
  have e1 : ∀ b, (⟨#[b]⟩ : ByteArray).size = 1 := fun _ => rfl
  have e2 : (⟨#[102, 101, 110, 99, 101]⟩ : ByteArray).size = 5 := rfl
  have e3 : ∀ a, (strOfNums [a]).size = 1 := fun a => by rw [size_strN]; rfl
  unfold textI
  split
  · rw [ByteArray.size_append, ByteArray.size_append, e1, e3, e3]; omega
  · split
    · rw [ByteArray.size_append, ByteArray.size_append, e1, e3, e3]; omega
    · split
      · rw [ByteArray.size_append, ByteArray.size_append, e1, e3, e3]; omega
      · split
        · rw [ByteArray.size_append, ByteArray.size_append, ByteArray.size_append, ByteArray.size_append, e1, e1, e3, e3, e3]; omega
        · rw [e2]; omega

theorem insValid_b {x : Ins} (h : insValid x = true) : (x.op = 1 ∨ x.op = 2 ∨ x.op = 3 ∨ x.op = 4 ∨ x.op = 5) ∧ 0 ≤ x.loc ∧ x.loc ≤ 2 ∧ 0 ≤ x.reg ∧ x.reg ≤ 2 ∧ 0 ≤ x.val ∧ x.val ≤ 3 := by
  unfold insValid inB at h
  split at h
  · simp at h; omega
  · split at h
    · simp at h; omega
    · split at h
      · simp at h; omega
      · split at h
        · simp at h; omega
        · cases h

set_option maxRecDepth 100000 in
set_option maxHeartbeats 1600000 in
theorem l1Text_any (o l r x : Int) (w : World) (h : insValid ⟨o, l, r, x⟩ = true) : Calls Try.prog 230 #[.agg #[.int .i64 o, .int .i64 l, .int .i64 r, .int .i64 x]] w fun e w' => e = .returned (.string (textI ⟨o, l, r, x⟩)) ∧ Below w.heap.size w w' := by
  obtain ⟨ho, hl0, hl2, hr0, hr2, hx0, hx2⟩ := insValid_b h
  simp only at ho hl0 hl2 hr0 hr2 hx0 hx2
  clear h
  have z0 : (strOfNums [120 + l]).size ≤ 10 := by rw [size_strN]; simp
  have z1 : (strOfNums [97 + r]).size ≤ 10 := by rw [size_strN]; simp
  have z2 : (strOfNums [48 + x]).size ≤ 10 := by rw [size_strN]; simp
  have HX := hide (fun w' => l17Dec_dig x w' hx0 (by omega))
  have HL := hide (fun w' => l1Letter_any 120 l w' hl0 (by omega) (by omega) (by omega))
  have HR := hide (fun w' => l1Letter_any 97 r w' hr0 (by omega) (by omega) (by omega))
  have HE : Hid (textI ⟨o, l, r, x⟩ = if o = 1 then strOfNums [97 + r] ++ ⟨#[61]⟩ ++ strOfNums [120 + l]
    else if o = 2 then strOfNums [120 + l] ++ ⟨#[61]⟩ ++ strOfNums [48 + x]
    else if o = 3 then strOfNums [120 + l] ++ ⟨#[61]⟩ ++ strOfNums [97 + r]
    else if o = 5 then strOfNums [97 + r] ++ ⟨#[61]⟩ ++ strOfNums [120 + l] ++ ⟨#[58]⟩ ++ strOfNums [48 + x]
    else ⟨#[102, 101, 110, 99, 101]⟩) := hide rfl
  generalize textI ⟨o, l, r, x⟩ = Z at *
  generalize strOfNums [120 + l] = TL at *
  generalize strOfNums [97 + r] = TR at *
  generalize strOfNums [48 + x] = TX at *
  have BI0 := hide (BoxI.new w o l r x 72)
  have HB0 := hide (belowAlloc w (.cells #[.int .i64 o, .int .i64 l, .int .i64 r, .int .i64 x] 72))
  clear hl0 hl2 hr0 hr2 hx0 hx2
  rcases ho with rfl | rfl | rfl | rfl | rfl
  · have HE' : Hid (Z = _) := hide (by have h := HE.out; simp only [if_true] at h; exact h)
    clear HE
    go_enter Try.func230, Try.ntmps230
    go_wp2_with fail
    (with_reducible refine (HL.out _).mono ?_); rintro e w1 ⟨rfl, hb1⟩
    have BI1 := hide (BI0.out.below hb1 BI0.out.lt); have HB1 := hide (HB0.out.trans (hb1.mono HB0.out.size))
    clear BI0 HB0 hb1
    obtain ⟨lt1, i0, i1, i2, i3, if'⟩ := BI1.out
    go_wp2_with fail
    clear lt1 i0 i1 i2 i3 if'
    (with_reducible refine (HR.out _).mono ?_); rintro e w2 ⟨rfl, hb2⟩
    have BI2 := hide (BI1.out.below hb2 BI1.out.lt); have HB2 := hide (HB1.out.trans (hb2.mono HB1.out.size))
    clear BI1 HB1 hb2
    obtain ⟨lt2, i0, i1, i2, i3, if'⟩ := BI2.out
    go_wp2_with fail
    go_ret
    exact ⟨by rw [HE'.out] <;> rfl, HB2.out⟩
  · have HE' : Hid (Z = _) := hide (by have h := HE.out; simp only [show ((2 : Int) = 1) = False from by decide, if_false, if_true] at h; exact h)
    clear HE
    go_enter Try.func230, Try.ntmps230
    go_wp2_with fail
    (with_reducible refine (HL.out _).mono ?_); rintro e w1 ⟨rfl, hb1⟩
    have BI1 := hide (BI0.out.below hb1 BI0.out.lt); have HB1 := hide (HB0.out.trans (hb1.mono HB0.out.size))
    clear BI0 HB0 hb1
    obtain ⟨lt1, i0, i1, i2, i3, if'⟩ := BI1.out
    go_wp2_with fail
    clear lt1 i0 i1 i2 i3 if'
    (with_reducible refine (HR.out _).mono ?_); rintro e w2 ⟨rfl, hb2⟩
    have BI2 := hide (BI1.out.below hb2 BI1.out.lt); have HB2 := hide (HB1.out.trans (hb2.mono HB1.out.size))
    clear BI1 HB1 hb2
    obtain ⟨lt2, i0, i1, i2, i3, if'⟩ := BI2.out
    go_wp2_with fail
    clear lt2 i0 i1 i2 i3 if'
    (with_reducible refine (HX.out _).mono ?_); rintro e w3 ⟨rfl, hb3⟩
    have BI3 := hide (BI2.out.below hb3 BI2.out.lt); have HB3 := hide (HB2.out.trans (hb3.mono HB2.out.size))
    clear BI2 HB2 hb3
    obtain ⟨lt3, i0, i1, i2, i3, if'⟩ := BI3.out
    go_wp2_with fail
    go_ret
    exact ⟨by rw [HE'.out] <;> rfl, HB3.out⟩
  · have HE' : Hid (Z = _) := hide (by have h := HE.out; simp only [show ((3 : Int) = 1) = False from by decide, show ((3 : Int) = 2) = False from by decide, if_false, if_true] at h; exact h)
    clear HE
    go_enter Try.func230, Try.ntmps230
    go_wp2_with fail
    (with_reducible refine (HL.out _).mono ?_); rintro e w1 ⟨rfl, hb1⟩
    have BI1 := hide (BI0.out.below hb1 BI0.out.lt); have HB1 := hide (HB0.out.trans (hb1.mono HB0.out.size))
    clear BI0 HB0 hb1
    obtain ⟨lt1, i0, i1, i2, i3, if'⟩ := BI1.out
    go_wp2_with fail
    clear lt1 i0 i1 i2 i3 if'
    (with_reducible refine (HR.out _).mono ?_); rintro e w2 ⟨rfl, hb2⟩
    have BI2 := hide (BI1.out.below hb2 BI1.out.lt); have HB2 := hide (HB1.out.trans (hb2.mono HB1.out.size))
    clear BI1 HB1 hb2
    obtain ⟨lt2, i0, i1, i2, i3, if'⟩ := BI2.out
    go_wp2_with fail
    go_ret
    exact ⟨by rw [HE'.out] <;> rfl, HB2.out⟩
  · have HE' : Hid (Z = _) := hide (by have h := HE.out; simp only [show ((4 : Int) = 1) = False from by decide, show ((4 : Int) = 2) = False from by decide, show ((4 : Int) = 3) = False from by decide, show ((4 : Int) = 5) = False from by decide, if_false] at h; exact h)
    clear HE
    go_enter Try.func230, Try.ntmps230
    go_wp2_with fail
    (with_reducible refine (HL.out _).mono ?_); rintro e w1 ⟨rfl, hb1⟩
    have BI1 := hide (BI0.out.below hb1 BI0.out.lt); have HB1 := hide (HB0.out.trans (hb1.mono HB0.out.size))
    clear BI0 HB0 hb1
    obtain ⟨lt1, i0, i1, i2, i3, if'⟩ := BI1.out
    go_wp2_with fail
    clear lt1 i0 i1 i2 i3 if'
    (with_reducible refine (HR.out _).mono ?_); rintro e w2 ⟨rfl, hb2⟩
    have BI2 := hide (BI1.out.below hb2 BI1.out.lt); have HB2 := hide (HB1.out.trans (hb2.mono HB1.out.size))
    clear BI1 HB1 hb2
    obtain ⟨lt2, i0, i1, i2, i3, if'⟩ := BI2.out
    go_wp2_with fail
    go_ret
    exact ⟨by rw [HE'.out] <;> rfl, HB2.out⟩
  · have HE' : Hid (Z = _) := hide (by have h := HE.out; simp only [show ((5 : Int) = 1) = False from by decide, show ((5 : Int) = 2) = False from by decide, show ((5 : Int) = 3) = False from by decide, if_false, if_true] at h; exact h)
    clear HE
    go_enter Try.func230, Try.ntmps230
    go_wp2_with fail
    (with_reducible refine (HL.out _).mono ?_); rintro e w1 ⟨rfl, hb1⟩
    have BI1 := hide (BI0.out.below hb1 BI0.out.lt); have HB1 := hide (HB0.out.trans (hb1.mono HB0.out.size))
    clear BI0 HB0 hb1
    obtain ⟨lt1, i0, i1, i2, i3, if'⟩ := BI1.out
    go_wp2_with fail
    clear lt1 i0 i1 i2 i3 if'
    (with_reducible refine (HR.out _).mono ?_); rintro e w2 ⟨rfl, hb2⟩
    have BI2 := hide (BI1.out.below hb2 BI1.out.lt); have HB2 := hide (HB1.out.trans (hb2.mono HB1.out.size))
    clear BI1 HB1 hb2
    obtain ⟨lt2, i0, i1, i2, i3, if'⟩ := BI2.out
    go_wp2_with fail
    clear lt2 i0 i1 i2 i3 if'
    (with_reducible refine (HX.out _).mono ?_); rintro e w3 ⟨rfl, hb3⟩
    have BI3 := hide (BI2.out.below hb3 BI2.out.lt); have HB3 := hide (HB2.out.trans (hb3.mono HB2.out.size))
    clear BI2 HB2 hb3
    obtain ⟨lt3, i0, i1, i2, i3, if'⟩ := BI3.out
    go_wp2_with fail
    go_ret
    exact ⟨by rw [HE'.out] <;> rfl, HB3.out⟩

/-- The text of a row's first k instructions, behind a text; the text of a program's first j rows. -/
def rowTx (acc : ByteArray) (r : List Ins) : Nat → ByteArray
  | 0 => acc
  | k + 1 => (if k = 0 then rowTx acc r k else rowTx acc r k ++ ⟨#[59]⟩) ++ textI (r[k]?.getD ⟨0, 0, 0, 0⟩)
def progTx (p : List (List Ins)) : Nat → ByteArray
  | 0 => ⟨#[]⟩
  | j + 1 => rowTx (if j = 0 then progTx p j else progTx p j ++ ⟨#[124]⟩) (p[j]?.getD []) (p[j]?.getD []).length

theorem rowTx_size (acc : ByteArray) (r : List Ins) : ∀ k, (rowTx acc r k).size ≤ acc.size + 6 * k := by
  intro k
  induction k with
  | zero => simp [rowTx]
  | succ k ih =>
    have := textI_size (r[k]?.getD ⟨0, 0, 0, 0⟩)
    unfold rowTx
    rw [ByteArray.size_append]
    split
    · omega
    · rw [ByteArray.size_append]; rw [show (⟨#[59]⟩ : ByteArray).size = 1 from rfl]; omega

theorem progTx_size (p : List (List Ins)) (m : Nat) (h : ∀ r ∈ p, r.length ≤ m) : ∀ j, (progTx p j).size ≤ (6 * m + 1) * j := by
  intro j
  induction j with
  | zero => simp [progTx, ByteArray.size]
  | succ j ih =>
    unfold progTx
    have h1 := rowTx_size (if j = 0 then progTx p j else progTx p j ++ ⟨#[124]⟩) (p[j]?.getD []) (p[j]?.getD []).length
    have h2 : (p[j]?.getD []).length ≤ m := by
      cases hj : p[j]? with
      | none => simp
      | some r => simpa using h r (List.mem_of_getElem? hj)
    have h3 : (if j = 0 then progTx p j else progTx p j ++ ⟨#[124]⟩).size ≤ (progTx p j).size + 1 := by
      split
      · omega
      · rw [ByteArray.size_append, show (⟨#[124]⟩ : ByteArray).size = 1 from rfl]; omega
    rw [Nat.mul_succ]
    omega

set_option maxRecDepth 100000 in
set_option maxHeartbeats 1600000 in
theorem l1Program_any (v : Value) (p : List (List Ins)) (w : World) (hp : RepP w v p) (hv : ∀ r ∈ p, ∀ x ∈ r, insValid x = true) (hl : p.length ≤ 100) (hl2 : ∀ r ∈ p, r.length ≤ 100) :
    Calls Try.prog 219 #[v] w fun e w' => e = .returned (.string (progTx p p.length)) ∧ Below w.heap.size w w' := by
  obtain ⟨a, c, rfl, hc1, hc2, hc3, hp⟩ := hp.open
  have HP := hide hp; clear hp
  have HV := hide hv; clear hv
  have HL2 := hide hl2; clear hl2
  have HS := hide (progTx_size p 100 HL2.out)
  generalize hn : p.length = n at *
  have H := hide hn; clear hn
  go_enter Try.func219, Try.ntmps219
  go_wp2_with fail
  go_loopw [3, 4] (fun s i wr => ∃ j : Nat, j ≤ n ∧ i = .int .i64 j ∧ s = .string (progTx p j) ∧ Below w.heap.size w wr) (fun _ i _ => n - (intOf i).toNat)
  case atStart => exact ⟨0, by omega, rfl, rfl, Below.refl _ _⟩
  case round =>
    obtain ⟨j, hj, rfl, rfl, hb2⟩ := hrel
    have hS := HS.out j
    by_cases hlt2 : j < n
    · obtain ⟨x, hxk⟩ := get_of_lt (xs := p) (k := j) (by rw [H.out]; exact hlt2)
      obtain ⟨b, o, ra, rc, rfl, hbl, i0, i1⟩ := HP.out.row hxk
      have hlt2' := nat_of_lt hlt2
      have hxl := HL2.out x (List.mem_of_getElem? hxk)
      have hxv := hide (HV.out x (List.mem_of_getElem? hxk))
      have IW := hide i0
      have I1 := hide i1; clear i1
      obtain ⟨A, hA⟩ : ∃ A, (if j = 0 then progTx p j else progTx p j ++ ⟨#[124]⟩) = A := ⟨_, rfl⟩
      have PS : Hid (progTx p (j + 1) = rowTx A x x.length) := hide (by
        rw [← hA]; conv => lhs; unfold progTx
        rw [hxk]; rfl)
      have RS := hide (rowTx_size A x)
      clear hxk
      have hAs : A.size ≤ 601 * j + 1 := by
        rw [← hA]
        split
        · omega
        · rw [ByteArray.size_append]; rw [show (⟨#[124]⟩ : ByteArray).size = 1 from rfl]; omega
      have i0 := (hb2.cell (p := ⟨b, o + j, none⟩) hbl).trans i0
      have SP124 : (j = 0 ∧ progTx p j = A) ∨ (0 < j ∧ progTx p j ++ ⟨#[124]⟩ = A) := by
        by_cases h0 : j = 0
        · rw [if_pos h0] at hA; exact .inl ⟨h0, hA⟩
        · rw [if_neg h0] at hA; exact .inr ⟨by omega, hA⟩
      clear hA
      generalize progTx p j = G at *
      rcases SP124 with ⟨h0, hA⟩ | ⟨h0, hA⟩
      · subst hA
        have h0' : decide ((0 : Int) < (j : Int)) = false := decide_eq_false (by omega)
        have h0'' : decide (0 < j) = false := decide_eq_false (by omega)
        clear h0
        go_wp2_with fail
        go_loopw [3, 5] (fun s i wr => ∃ k : Nat, k ≤ x.length ∧ i = .int .i64 k ∧ s = .string (rowTx G x k) ∧ Below w.heap.size w wr) (fun _ i _ => x.length - (intOf i).toNat)
        case atStart => exact ⟨0, by omega, rfl, rfl, hb2⟩
        case round =>
          obtain ⟨k, hk, rfl, rfl, hb3⟩ := hrel
          have hR := RS.out k
          have i0 := (hb3.cell (p := ⟨b, o + j, none⟩) hbl).trans IW.out
          by_cases hlt3 : k < x.length
          · obtain ⟨y, hyk⟩ := get_of_lt (xs := x) (k := k) hlt3
            obtain ⟨b', o', rfl, hbl', j0, j1, j2, j3⟩ := (I1.out.below hb3).ins hyk
            have hlt3' := nat_of_lt hlt3
            have HT := hide (fun w' => l1Text_any y.op y.loc y.reg y.val w' (hxv.out y (List.mem_of_getElem? hyk)))
            have hts := textI_size y
            obtain ⟨B, hB⟩ : ∃ B, (if k = 0 then rowTx (G) x k else rowTx (G) x k ++ ⟨#[59]⟩) = B := ⟨_, rfl⟩
            have RSS : Hid (rowTx (G) x (k + 1) = B ++ textI y) := hide (by
              rw [← hB]; conv => lhs; unfold rowTx
              rw [hyk]; rfl)
            clear hyk
            have hBs : B.size ≤ (G).size + 6 * k + 1 := by
              rw [← hB]
              split
              · omega
              · rw [ByteArray.size_append]; rw [show (⟨#[59]⟩ : ByteArray).size = 1 from rfl]; omega
            have SP59 : (k = 0 ∧ rowTx (G) x k = B) ∨ (0 < k ∧ rowTx (G) x k ++ ⟨#[59]⟩ = B) := by
              by_cases h0 : k = 0
              · rw [if_pos h0] at hB; exact .inl ⟨h0, hB⟩
              · rw [if_neg h0] at hB; exact .inr ⟨by omega, hB⟩
            clear hB
            generalize textI y = TY at *
            generalize rowTx (G) x k = R at *
            rcases SP59 with ⟨h1, hB⟩ | ⟨h1, hB⟩
            · subst hB
              have h1' : decide ((0 : Int) < (k : Int)) = false := decide_eq_false (by omega)
              have h1'' : decide (0 < k) = false := decide_eq_false (by omega)
              clear h1
              go_wp2_with fail
              (with_reducible refine (HT.out _).mono ?_); rintro e w4 ⟨rfl, hb4⟩
              go_wp2_with fail
              go_roundw
              case rel => exact ⟨k + 1, by omega, by go_num, by rw [RSS.out], hb3.trans (hb4.mono hb3.size)⟩
              case measure => simp [intOf]; omega
            · subst hB
              have h1' : (0 : Int) < k := by omega
              go_wp2_with fail
              (with_reducible refine (HT.out _).mono ?_); rintro e w4 ⟨rfl, hb4⟩
              go_wp2_with fail
              go_roundw
              case rel => exact ⟨k + 1, by omega, by go_num, by rw [RSS.out], hb3.trans (hb4.mono hb3.size)⟩
              case measure => simp [intOf]; omega
          · have e : k = x.length := by omega
            subst e
            go_wp2_with fail
            go_roundw
            case rel => exact ⟨j + 1, by omega, by go_num, by rw [PS.out], hb3⟩
            case measure => simp [intOf]; omega
      · subst hA
        have h0' : (0 : Int) < j := by omega
        go_wp2_with fail
        go_loopw [3, 5] (fun s i wr => ∃ k : Nat, k ≤ x.length ∧ i = .int .i64 k ∧ s = .string (rowTx (G ++ ⟨#[124]⟩) x k) ∧ Below w.heap.size w wr) (fun _ i _ => x.length - (intOf i).toNat)
        case atStart => exact ⟨0, by omega, rfl, rfl, hb2⟩
        case round =>
          obtain ⟨k, hk, rfl, rfl, hb3⟩ := hrel
          have hR := RS.out k
          have i0 := (hb3.cell (p := ⟨b, o + j, none⟩) hbl).trans IW.out
          by_cases hlt3 : k < x.length
          · obtain ⟨y, hyk⟩ := get_of_lt (xs := x) (k := k) hlt3
            obtain ⟨b', o', rfl, hbl', j0, j1, j2, j3⟩ := (I1.out.below hb3).ins hyk
            have hlt3' := nat_of_lt hlt3
            have HT := hide (fun w' => l1Text_any y.op y.loc y.reg y.val w' (hxv.out y (List.mem_of_getElem? hyk)))
            have hts := textI_size y
            obtain ⟨B, hB⟩ : ∃ B, (if k = 0 then rowTx ((G ++ ⟨#[124]⟩)) x k else rowTx ((G ++ ⟨#[124]⟩)) x k ++ ⟨#[59]⟩) = B := ⟨_, rfl⟩
            have RSS : Hid (rowTx ((G ++ ⟨#[124]⟩)) x (k + 1) = B ++ textI y) := hide (by
              rw [← hB]; conv => lhs; unfold rowTx
              rw [hyk]; rfl)
            clear hyk
            have hBs : B.size ≤ ((G ++ ⟨#[124]⟩)).size + 6 * k + 1 := by
              rw [← hB]
              split
              · omega
              · rw [ByteArray.size_append]; rw [show (⟨#[59]⟩ : ByteArray).size = 1 from rfl]; omega
            have SP59 : (k = 0 ∧ rowTx ((G ++ ⟨#[124]⟩)) x k = B) ∨ (0 < k ∧ rowTx ((G ++ ⟨#[124]⟩)) x k ++ ⟨#[59]⟩ = B) := by
              by_cases h0 : k = 0
              · rw [if_pos h0] at hB; exact .inl ⟨h0, hB⟩
              · rw [if_neg h0] at hB; exact .inr ⟨by omega, hB⟩
            clear hB
            generalize textI y = TY at *
            generalize rowTx ((G ++ ⟨#[124]⟩)) x k = R at *
            rcases SP59 with ⟨h1, hB⟩ | ⟨h1, hB⟩
            · subst hB
              have h1' : decide ((0 : Int) < (k : Int)) = false := decide_eq_false (by omega)
              have h1'' : decide (0 < k) = false := decide_eq_false (by omega)
              clear h1
              go_wp2_with fail
              (with_reducible refine (HT.out _).mono ?_); rintro e w4 ⟨rfl, hb4⟩
              go_wp2_with fail
              go_roundw
              case rel => exact ⟨k + 1, by omega, by go_num, by rw [RSS.out], hb3.trans (hb4.mono hb3.size)⟩
              case measure => simp [intOf]; omega
            · subst hB
              have h1' : (0 : Int) < k := by omega
              go_wp2_with fail
              (with_reducible refine (HT.out _).mono ?_); rintro e w4 ⟨rfl, hb4⟩
              go_wp2_with fail
              go_roundw
              case rel => exact ⟨k + 1, by omega, by go_num, by rw [RSS.out], hb3.trans (hb4.mono hb3.size)⟩
              case measure => simp [intOf]; omega
          · have e : k = x.length := by omega
            subst e
            go_wp2_with fail
            go_roundw
            case rel => exact ⟨j + 1, by omega, by go_num, by rw [PS.out], hb3⟩
            case measure => simp [intOf]; omega
    · have e : j = n := by omega
      subst e
      go_wp2_with fail
      go_ret
      exact ⟨rfl, hb2⟩

end Go.Proofs.Ytpnmphfdfadlcaa
