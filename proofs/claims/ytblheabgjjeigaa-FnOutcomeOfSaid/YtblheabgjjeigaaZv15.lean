/-
  The program's outcomeOf, of a valid candidate. Condition: bounds on lengths.
-/
import Derived.Test.YtblheabgjjeigaaZv05
import Derived.Test.YtblheabgjjeigaaZv07
import Derived.Test.YtblheabgjjeigaaZv13
namespace Go.Proofs.Ytblheabgjjeigaa
open Go.RowKit

def rowB (xs : List Int) (t : Nat) (k : Nat) : List Int := (List.range k).map fun g => (xs[3 + 3 * t + g]?).getD 0
def regsB (xs : List Int) (n : Nat) : List Int := (List.range n).flatMap fun t => rowB xs t 3
def memB (xs : List Int) (k : Nat) : List Int := (List.range k).map fun l => (xs[12 + l]?).getD 0
/-- The outcome of so many threads: registers, memory. -/
def outB (xs : List Int) (n : Nat) : List Int := regsB xs n ++ memB xs 3
theorem rowB_succ (xs : List Int) (t k : Nat) {x : Int} (h : xs[3 + 3 * t + k]? = some x) : rowB xs t (k + 1) = rowB xs t k ++ [x] := by simp [rowB, List.range_succ, h]
theorem memB_succ (xs : List Int) (k : Nat) {x : Int} (h : xs[12 + k]? = some x) : memB xs (k + 1) = memB xs k ++ [x] := by simp [memB, List.range_succ, h]
theorem regsB_succ (xs : List Int) (n : Nat) : regsB xs (n + 1) = regsB xs n ++ rowB xs n 3 := by simp [regsB, List.range_succ]
theorem rowB_length (xs : List Int) (t k : Nat) : (rowB xs t k).length = k := by simp [rowB]
theorem memB_length (xs : List Int) (k : Nat) : (memB xs k).length = k := by simp [memB]
theorem regsB_length (xs : List Int) (n : Nat) : (regsB xs n).length = 3 * n := by
  induction n with
  | zero => rfl
  | succ n ih => rw [regsB_succ, List.length_append, ih, rowB_length]; omega

/-- The values of a state in memory: the program, and fifteen bytes. -/
structure VB (w : World) (vb : Nat) (ps : Slc) (xs : List Int) : Prop where
  p0 : w.cell? ⟨vb, 0, none⟩ = some (.slice ps.a ps.n ps.cap)
  cs : ∀ (i : Nat) (x : Int), xs[i]? = some x → w.cell? ⟨vb, 1 + i, none⟩ = some (.int .u8 x)
theorem VB.below {w w' : World} {vb : Nat} {ps : Slc} {xs : List Int} (h : VB w vb ps xs) (hb : Below w.heap.size w w') : VB w' vb ps xs :=
  ⟨(hb.cell (p := ⟨vb, 0, none⟩) (lt_of_cell h.p0)).trans h.p0, fun i x hx => (hb.cell (p := ⟨vb, 1 + i, none⟩) (lt_of_cell h.p0)).trans (h.cs i x hx)⟩

theorem Try.index3_0 (x0 x1 x2 : Int) (w : World) : (Instr.index 77 (.agg #[.int .u8 x0, .int .u8 x1, .int .u8 x2]) (.int .i64 0)).run Try.prog w = .ok (.int .u8 x0) w := by kernel_rfl
theorem Try.index3_1 (x0 x1 x2 : Int) (w : World) : (Instr.index 77 (.agg #[.int .u8 x0, .int .u8 x1, .int .u8 x2]) (.int .i64 1)).run Try.prog w = .ok (.int .u8 x1) w := by kernel_rfl
theorem Try.index3_2 (x0 x1 x2 : Int) (w : World) : (Instr.index 77 (.agg #[.int .u8 x0, .int .u8 x1, .int .u8 x2]) (.int .i64 2)).run Try.prog w = .ok (.int .u8 x2) w := by kernel_rfl

set_option maxRecDepth 100000 in
set_option maxHeartbeats 3200000 in
theorem outcome_any (vb : Nat) (ps : Slc) (xs : List Int) (w : World) (hv : VB w vb ps xs) (hl : xs.length = 15) (hb : ∀ x ∈ xs, 0 ≤ x ∧ x ≤ 255) (hn : ps.n ≤ 3) :
    Calls Try.prog 60 #[.pointer (some ⟨vb, 0, none⟩)] w (RetOwn IntE 3 w (outB xs ps.n)) := by
  obtain ⟨pa, n, pc⟩ := ps
  simp only at hn
  have HV := hide hv
  have HRS := hide (fun t k x h => rowB_succ xs t k (x := x) h)
  have HMS := hide (fun k x h => memB_succ xs k (x := x) h)
  have HRG := hide (regsB_succ xs)
  have HRL := hide (rowB_length xs); have HML := hide (memB_length xs); have HGL := hide (regsB_length xs)
  have HO : Hid (outB xs n = regsB xs n ++ memB xs 3) := hide rfl
  have hget : ∀ i, i < 15 → ∃ x : Int, xs[i]? = some x ∧ 0 ≤ x ∧ x ≤ 255 := fun i h => by
    obtain ⟨x, hx⟩ := get_of_lt (xs := xs) (k := i) (by omega)
    exact ⟨x, hx, hb x (List.mem_of_getElem? hx)⟩
  have HGET := hide hget
  clear hget
  have p0 := hv.p0
  have pl := lt_of_cell p0
  have hn3 : (n : Int) ≤ 3 := by omega
  clear hb hl hv
  go_enter Try.func60, Try.ntmps60
  go_wp2_with fail
  clear p0
  go_loopw [3, 14] (fun s i wr => ∃ t : Nat, t ≤ n ∧ i = .int .i64 t ∧ OwnN wr w.heap.size s (regsB xs t) ∧ Below w.heap.size w wr) (fun _ i _ => n - (intOf i).toNat)
  case atStart => exact ⟨0, Nat.zero_le _, rfl, Own.nil _ _ _, Below.refl _ _⟩
  case round =>
    obtain ⟨t, ht, rfl, hown, hbr⟩ := hrel
    by_cases hlt : t < n
    · obtain ⟨x0, h0, b0, b0'⟩ := HGET.out (3 + 3 * t + 0) (by omega)
      obtain ⟨x1, h1, b1, b1'⟩ := HGET.out (3 + 3 * t + 1) (by omega)
      obtain ⟨x2, h2, b2, b2'⟩ := HGET.out (3 + 3 * t + 2) (by omega)
      have hlt' := nat_of_lt hlt
      have hlt3 : (t : Int) < 3 := by omega
      have e0 := (hbr.cell (p := ⟨vb, 1 + (3 + 3 * t + 0), none⟩) pl).trans (HV.out.cs _ _ h0)
      have e1 := (hbr.cell (p := ⟨vb, 1 + (3 + 3 * t + 1), none⟩) pl).trans (HV.out.cs _ _ h1)
      have e2 := (hbr.cell (p := ⟨vb, 1 + (3 + 3 * t + 2), none⟩) pl).trans (HV.out.cs _ _ h2)
      rw [show 1 + (3 + 3 * t + 0) = 4 + t * 3 by omega] at e0
      rw [show 1 + (3 + 3 * t + 1) = 4 + t * 3 + 1 by omega] at e1
      rw [show 1 + (3 + 3 * t + 2) = 4 + t * 3 + 2 by omega] at e2
      have pl' : vb < wr.heap.size := Nat.lt_of_lt_of_le pl hbr.size
      have S0 := hide (HRS.out t 0 x0 h0); have S1 := hide (HRS.out t 1 x1 h1); have S2 := hide (HRS.out t 2 x2 h2)
      have R0 : Hid (rowB xs t 0 = []) := hide rfl
      have GS := hide (HRG.out t)
      have gl := HGL.out t
      generalize hG : regsB xs t = G at *
      clear hG h0 h1 h2
      have HOW := hide hown; have HBR := hide hbr
      clear hown hbr
      go_wp2_with fail
      go_loopw [3, 23] (fun s i wr => ∃ g : Nat, g ≤ 3 ∧ i = .int .i64 g ∧ OwnN wr w.heap.size s (G ++ rowB xs t g) ∧ Below w.heap.size w wr) (fun _ i _ => 3 - (intOf i).toNat)
      case atStart => exact ⟨0, by omega, rfl, by rw [R0.out, List.append_nil]; exact HOW.out, HBR.out⟩
      case round =>
        obtain ⟨g, hg, rfl, hown, hb2⟩ := hrel
        have hlen : (G ++ rowB xs t g).length ≤ 68719476736 := by rw [List.length_append, HRL.out]; omega
        clear e0 e1 e2
        have hcs : g = 0 ∨ g = 1 ∨ g = 2 ∨ g = 3 := by omega
        rcases hcs with rfl | rfl | rfl | rfl
        · have hix := Try.index3_0 x0 x1 x2
          generalize hrw : rowB xs t 0 = RW at *
          have S2' : Hid (G ++ rowB xs t (0 + 1) = (G ++ RW) ++ [x0]) := hide (by rw [S0.out, List.append_assoc])
          clear hrw
          go_wp2_with (at_builtin; refine wpList_app IntE 3 Try.infoInt rfl Try.underlying24 w.heap.size _ (G ++ RW) x0 (hown.alloc _) (by decide) hlen (by simp; have := hb2.size; omega) rfl _ _ rfl rfl _ 0 1 rfl (news_allocV (by simp)) ?_; intro v' w3 hown3 hgr3)
          have hb3 := below_app hb2 hown hgr3
          go_roundw
          case rel => exact ⟨0 + 1, by omega, by go_num, by rw [S2'.out]; exact hown3, hb3⟩
          case measure => first | (simp [intOf]; done) | (simp [intOf]; omega)
        · have hix := Try.index3_1 x0 x1 x2
          generalize hrw : rowB xs t 1 = RW at *
          have S2' : Hid (G ++ rowB xs t (1 + 1) = (G ++ RW) ++ [x1]) := hide (by rw [S1.out, List.append_assoc])
          clear hrw
          go_wp2_with (at_builtin; refine wpList_app IntE 3 Try.infoInt rfl Try.underlying24 w.heap.size _ (G ++ RW) x1 (hown.alloc _) (by decide) hlen (by simp; have := hb2.size; omega) rfl _ _ rfl rfl _ 0 1 rfl (news_allocV (by simp)) ?_; intro v' w3 hown3 hgr3)
          have hb3 := below_app hb2 hown hgr3
          go_roundw
          case rel => exact ⟨1 + 1, by omega, by go_num, by rw [S2'.out]; exact hown3, hb3⟩
          case measure => first | (simp [intOf]; done) | (simp [intOf]; omega)
        · have hix := Try.index3_2 x0 x1 x2
          generalize hrw : rowB xs t 2 = RW at *
          have S2' : Hid (G ++ rowB xs t (2 + 1) = (G ++ RW) ++ [x2]) := hide (by rw [S2.out, List.append_assoc])
          clear hrw
          go_wp2_with (at_builtin; refine wpList_app IntE 3 Try.infoInt rfl Try.underlying24 w.heap.size _ (G ++ RW) x2 (hown.alloc _) (by decide) hlen (by simp; have := hb2.size; omega) rfl _ _ rfl rfl _ 0 1 rfl (news_allocV (by simp)) ?_; intro v' w3 hown3 hgr3)
          have hb3 := below_app hb2 hown hgr3
          go_roundw
          case rel => exact ⟨2 + 1, by omega, by go_num, by rw [S2'.out]; exact hown3, hb3⟩
          case measure => first | (simp [intOf]; done) | (simp [intOf]; omega)
        · have GS2 := GS
          go_wp2_with fail
          go_roundw
          case rel => exact ⟨t + 1, by omega, by go_num, by rw [GS2.out]; exact hown, hb2⟩
          case measure => first | (simp [intOf]; done) | (simp [intOf]; omega)
    · obtain rfl : t = n := by omega
      have gl := HGL.out t
      generalize hG : regsB xs t = G at *
      clear hG
      obtain ⟨x0, h0, b0, b0'⟩ := HGET.out (12 + 0) (by omega)
      obtain ⟨x1, h1, b1, b1'⟩ := HGET.out (12 + 1) (by omega)
      obtain ⟨x2, h2, b2, b2'⟩ := HGET.out (12 + 2) (by omega)
      have e0 := (hbr.cell (p := ⟨vb, 1 + (12 + 0), none⟩) pl).trans (HV.out.cs _ _ h0)
      have e1 := (hbr.cell (p := ⟨vb, 1 + (12 + 1), none⟩) pl).trans (HV.out.cs _ _ h1)
      have e2 := (hbr.cell (p := ⟨vb, 1 + (12 + 2), none⟩) pl).trans (HV.out.cs _ _ h2)
      simp only [Nat.reduceAdd] at e0 e1 e2
      have pl' : vb < wr.heap.size := Nat.lt_of_lt_of_le pl hbr.size
      have S0 := hide (HMS.out 0 x0 h0); have S1 := hide (HMS.out 1 x1 h1); have S2 := hide (HMS.out 2 x2 h2)
      have R0 : Hid (memB xs 0 = []) := hide rfl
      clear h0 h1 h2
      have HOW := hide hown; have HBR := hide hbr
      clear hown hbr
      go_wp2_with fail
      go_loopw [3, 37] (fun s i wr => ∃ g : Nat, g ≤ 3 ∧ i = .int .i64 g ∧ OwnN wr w.heap.size s (G ++ memB xs g) ∧ Below w.heap.size w wr) (fun _ i _ => 3 - (intOf i).toNat)
      case atStart => exact ⟨0, by omega, rfl, by rw [R0.out, List.append_nil]; exact HOW.out, HBR.out⟩
      case round =>
        obtain ⟨g, hg, rfl, hown, hb2⟩ := hrel
        have hlen : (G ++ memB xs g).length ≤ 68719476736 := by rw [List.length_append, HML.out]; omega
        clear e0 e1 e2
        have hcs : g = 0 ∨ g = 1 ∨ g = 2 ∨ g = 3 := by omega
        rcases hcs with rfl | rfl | rfl | rfl
        · have hix := Try.index3_0 x0 x1 x2
          generalize hrw : memB xs 0 = RW at *
          have S2' : Hid (G ++ memB xs (0 + 1) = (G ++ RW) ++ [x0]) := hide (by rw [S0.out, List.append_assoc])
          clear hrw
          go_wp2_with (at_builtin; refine wpList_app IntE 3 Try.infoInt rfl Try.underlying24 w.heap.size _ (G ++ RW) x0 (hown.alloc _) (by decide) hlen (by simp; have := hb2.size; omega) rfl _ _ rfl rfl _ 0 1 rfl (news_allocV (by simp)) ?_; intro v' w3 hown3 hgr3)
          have hb3 := below_app hb2 hown hgr3
          go_roundw
          case rel => exact ⟨0 + 1, by omega, by go_num, by rw [S2'.out]; exact hown3, hb3⟩
          case measure => first | (simp [intOf]; done) | (simp [intOf]; omega)
        · have hix := Try.index3_1 x0 x1 x2
          generalize hrw : memB xs 1 = RW at *
          have S2' : Hid (G ++ memB xs (1 + 1) = (G ++ RW) ++ [x1]) := hide (by rw [S1.out, List.append_assoc])
          clear hrw
          go_wp2_with (at_builtin; refine wpList_app IntE 3 Try.infoInt rfl Try.underlying24 w.heap.size _ (G ++ RW) x1 (hown.alloc _) (by decide) hlen (by simp; have := hb2.size; omega) rfl _ _ rfl rfl _ 0 1 rfl (news_allocV (by simp)) ?_; intro v' w3 hown3 hgr3)
          have hb3 := below_app hb2 hown hgr3
          go_roundw
          case rel => exact ⟨1 + 1, by omega, by go_num, by rw [S2'.out]; exact hown3, hb3⟩
          case measure => first | (simp [intOf]; done) | (simp [intOf]; omega)
        · have hix := Try.index3_2 x0 x1 x2
          generalize hrw : memB xs 2 = RW at *
          have S2' : Hid (G ++ memB xs (2 + 1) = (G ++ RW) ++ [x2]) := hide (by rw [S2.out, List.append_assoc])
          clear hrw
          go_wp2_with (at_builtin; refine wpList_app IntE 3 Try.infoInt rfl Try.underlying24 w.heap.size _ (G ++ RW) x2 (hown.alloc _) (by decide) hlen (by simp; have := hb2.size; omega) rfl _ _ rfl rfl _ 0 1 rfl (news_allocV (by simp)) ?_; intro v' w3 hown3 hgr3)
          have hb3 := below_app hb2 hown hgr3
          go_roundw
          case rel => exact ⟨2 + 1, by omega, by go_num, by rw [S2'.out]; exact hown3, hb3⟩
          case measure => first | (simp [intOf]; done) | (simp [intOf]; omega)
        · go_wp2_with fail
          go_ret
          rw [HO.out]
          exact ⟨_, rfl, hown, hb2⟩

end Go.Proofs.Ytblheabgjjeigaa

namespace Go.Proofs.Ytblheabgjjeigaa

def hitA (p : List (List Ins)) (t g : Nat) (e : Ev) : Bool := (e.t == (t : Int)) && (e.r && ((insE p e).reg == (g : Int)))
def lastA (p : List (List Ins)) (es : List Ev) (t g : Nat) (k : Nat) : Int := (List.range k).foldl (fun (a : Int) (i : Nat) => match es[i]? with
  | some e => if hitA p t g e = true then (i : Int) else a
  | none => a) (-1)
theorem lastA_succ (p : List (List Ins)) {es : List Ev} (t g : Nat) {k : Nat} {e : Ev} (h : es[k]? = some e) : lastA p es t g (k + 1) = if hitA p t g e = true then (k : Int) else lastA p es t g k := by
  unfold lastA
  rw [List.range_succ, List.foldl_append]
  simp [h]
/-- The fifteen bytes of a state's values: threads' places, registers, memory. -/
def regsK (p : List (List Ins)) (es : List Ev) (fr vals : List Int) (k : Nat) (i : Nat) : Int := if 3 ≤ i ∧ i < 12 then regOf fr vals (lastA p es ((i - 3) / 3) ((i - 3) % 3) k) else 0
def bytesK (p : List (List Ins)) (es : List Ev) (fr vals : List Int) (k : Nat) : List Int := (List.range 15).map (regsK p es fr vals k)
theorem bytesK_length (p : List (List Ins)) (es : List Ev) (fr vals : List Int) (k : Nat) : (bytesK p es fr vals k).length = 15 := by simp [bytesK]
theorem bytesK_zero (p : List (List Ins)) (es : List Ev) (fr vals : List Int) : bytesK p es fr vals 0 = List.replicate 15 0 := by
  have h : ∀ i, regsK p es fr vals 0 i = 0 := fun i => by
    unfold regsK
    split
    · simp [lastA, regOf]
    · rfl
  apply List.ext_getElem?
  intro i
  by_cases hi : i < 15
  · rw [List.getElem?_replicate, if_pos hi]
    simp [bytesK, hi, h]
  · rw [List.getElem?_eq_none (by rw [bytesK_length]; omega), List.getElem?_eq_none (by simp; omega)]
theorem bytesK_skip {p : List (List Ins)} {es : List Ev} (fr vals : List Int) {k : Nat} {e : Ev} (h : es[k]? = some e) (hr : e.r = false) : bytesK p es fr vals (k + 1) = bytesK p es fr vals k := by
  unfold bytesK
  apply List.map_congr_left
  intro i _
  unfold regsK
  by_cases hc : 3 ≤ i ∧ i < 12
  · rw [if_pos hc, if_pos hc, lastA_succ p _ _ h, if_neg (by simp [hitA, hr])]
  · rw [if_neg hc, if_neg hc]
theorem bytesK_read {p : List (List Ins)} {es : List Ev} (fr vals : List Int) {k t g : Nat} {e : Ev} (h : es[k]? = some e) (hr : e.r = true) (ht : e.t = t) (hg : (insE p e).reg = g) (ht3 : t < 3) (hg3 : g < 3) :
    bytesK p es fr vals (k + 1) = (bytesK p es fr vals k).set (3 + 3 * t + g) (valAt vals (frAt fr k)) := by
  apply List.ext_getElem?
  intro i
  rw [List.getElem?_set]
  by_cases hi : i < 15
  · have e1 : ∀ q, (bytesK p es fr vals q)[i]? = some (regsK p es fr vals q i) := fun q => by simp [bytesK, hi]
    rw [e1, e1]
    unfold regsK
    by_cases hc : 3 ≤ i ∧ i < 12
    · rw [if_pos hc, if_pos hc, lastA_succ p _ _ h]
      by_cases he : 3 + 3 * t + g = i
      · have h1 : (i - 3) / 3 = t := by omega
        have h2 : (i - 3) % 3 = g := by omega
        have h3 : hitA p ((i - 3) / 3) ((i - 3) % 3) e = true := by rw [h1, h2]; simp [hitA, hr, ht, hg]
        have h4 : 3 + 3 * t + g < (bytesK p es fr vals k).length := by rw [bytesK_length]; omega
        rw [if_pos he, if_pos h3, if_pos h4]
        unfold regOf
        rw [if_neg (by omega)]
      · rw [if_neg he, if_neg (by
          simp only [hitA, hr, ht, hg, Bool.true_and, Bool.and_eq_true, beq_iff_eq]
          rintro ⟨h1, h2⟩
          omega)]
    · rw [if_neg hc, if_neg hc, if_neg (by omega)]
  · rw [List.getElem?_eq_none (by rw [bytesK_length]; omega)]
    split
    · rw [if_neg (by rw [bytesK_length]; omega)]
    · rw [List.getElem?_eq_none (by rw [bytesK_length]; omega)]

theorem hit_eq {p : List (List Ins)} {t : Nat} {r : List Ins} (hr : p[t]? = some r) {k : Nat} {e : Ev} (h : (evAll p)[k]? = some e) (g : Nat) : hitR p t r.length g e = hitA p t g e := by
  unfold hitR hitA
  by_cases ht : e.t = (t : Int)
  · have hi : e.i < (r.length : Int) := by
      rcases ev_cases h with h1 | ⟨t', i', r', h1, h2, h3, h4, -⟩
      · omega
      · have e1 : t' = t := by omega
        subst e1
        rw [hr] at h3; simp at h3; subst h3
        have := (List.getElem?_eq_some_iff.1 h4).1
        omega
    simp [hi]
  · have : (e.t == (t : Int)) = false := by simp [ht]
    rw [this]; rfl
theorem last_eq {p : List (List Ins)} {t : Nat} {r : List Ins} (hr : p[t]? = some r) (g : Nat) : ∀ k, k ≤ (evAll p).length → lastTo p (evAll p) t r.length g k = lastA p (evAll p) t g k := by
  intro k
  induction k with
  | zero => intro _; rfl
  | succ k ih =>
    intro hk
    obtain ⟨e, he⟩ := get_of_lt (xs := evAll p) (k := k) hk
    rw [lastTo_succ p _ _ _ he, lastA_succ p _ _ he, hit_eq hr he, ih (by omega)]

/-- The bytes when the memory has been written as far as a location. -/
def bytesM (p : List (List Ins)) (es : List Ev) (x : Xc) (vals : List Int) (k i : Nat) : Int := if 12 ≤ i ∧ i < 12 + k then memV x.od vals (i - 12) else regsK p es x.fr vals es.length i
def finB (p : List (List Ins)) (es : List Ev) (x : Xc) (vals : List Int) (k : Nat) : List Int := (List.range 15).map (bytesM p es x vals k)
theorem finB_length (p : List (List Ins)) (es : List Ev) (x : Xc) (vals : List Int) (k : Nat) : (finB p es x vals k).length = 15 := by simp [finB]
theorem finB_get (p : List (List Ins)) (es : List Ev) (x : Xc) (vals : List Int) (k : Nat) {i : Nat} (hi : i < 15) : (finB p es x vals k)[i]? = some (bytesM p es x vals k i) := by simp [finB, hi]
theorem finB_zero (p : List (List Ins)) (es : List Ev) (x : Xc) (vals : List Int) : finB p es x vals 0 = bytesK p es x.fr vals es.length := by
  unfold finB bytesK
  apply List.map_congr_left
  intro i _
  unfold bytesM
  rw [if_neg (by omega)]
theorem finB_succ (p : List (List Ins)) (es : List Ev) (x : Xc) (vals : List Int) {k : Nat} (hk : k < 3) : finB p es x vals (k + 1) = (finB p es x vals k).set (12 + k) (memV x.od vals k) := by
  apply List.ext_getElem?
  intro i
  rw [List.getElem?_set]
  by_cases hi : i < 15
  · rw [finB_get _ _ _ _ _ hi, finB_get _ _ _ _ _ hi]
    unfold bytesM
    by_cases he : 12 + k = i
    · have h4 : 12 + k < (finB p es x vals k).length := by rw [finB_length]; omega
      rw [if_pos he, if_pos h4, if_pos (by omega)]
      congr 2; omega
    · rw [if_neg he]
      by_cases hc : 12 ≤ i ∧ i < 12 + k
      · rw [if_pos hc, if_pos (by omega)]
      · rw [if_neg hc, if_neg (by omega)]
  · rw [List.getElem?_eq_none (by rw [finB_length]; omega)]
    split
    · rw [if_neg (by rw [finB_length]; omega)]
    · rw [List.getElem?_eq_none (by rw [finB_length]; omega)]

theorem wrL_pos0 {p : List (List Ins)} {l : Nat} (hl : l < 3) : 0 < (wrL (evAll p) l).length := by
  have := head_wrL (p := p) hl
  cases h : wrL (evAll p) l with
  | nil => rw [h] at this; cases this
  | cons x xs => simp
theorem okTo_get {es : List Ev} {c : Nat → Option Int} {j : Nat} {e : Ev} (h : okTo es c es.length = true) (hj : es[j]? = some e) (hw : e.w = true) : ∃ v, c j = some v := by
  cases hc : c j with
  | some v => exact ⟨v, rfl⟩
  | none => rw [okTo_no c hj hw hc] at h; cases h
/-- A write has a value. -/
theorem val_write {p : List (List Ins)} {x : Xc} (hok : execOk p x = true) (hv : valsOk p x.fr = true) {j : Nat} {e : Ev} (hj : (evAll p)[j]? = some e) (hw : e.w = true) : ∃ v, (valsL p x.fr)[j]? = some v ∧ 0 ≤ v ∧ v ≤ 3 := by
  obtain ⟨v, hc⟩ := okTo_get hv hj hw
  unfold execOk at hok
  simp only [Bool.and_eq_true] at hok
  refine ⟨v, ?_, chain_val (fun i v h => dep_val hok.1 h) hc⟩
  unfold valsL
  rw [valTo_get _ (List.getElem?_eq_some_iff.1 hj).1 (Nat.le_refl _) hj, val1, if_pos hw, hc]; rfl
theorem val_read {p : List (List Ins)} {x : Xc} (hok : execOk p x = true) (hv : valsOk p x.fr = true) {k : Nat} {e : Ev} (hk : (evAll p)[k]? = some e) (hr : e.r = true) : ∃ (j : Nat) (v : Int), x.fr[k]? = some (j : Int) ∧ (valsL p x.fr)[j]? = some v ∧ 0 ≤ v ∧ v ≤ 3 := by
  have hok2 := hok
  unfold execOk at hok2
  simp only [Bool.and_eq_true] at hok2
  obtain ⟨j, e', h1, h2, h3, -⟩ := from_write hok2.2.2.2.1 hk hr
  obtain ⟨v, h4, h5⟩ := val_write hok hv h2 h3
  exact ⟨j, v, h1, h4, h5⟩
theorem val_order {p : List (List Ins)} {x : Xc} (hok : execOk p x = true) (hv : valsOk p x.fr = true) {l : Nat} (hl : l < 3) : ∃ (o : List Int) (j : Nat) (v : Int), x.od[l]? = some o ∧ 0 < o.length ∧ o[o.length - 1]? = some (j : Int) ∧ (valsL p x.fr)[j]? = some v ∧ 0 ≤ v ∧ v ≤ 3 := by
  have hok2 := hok
  unfold execOk at hok2
  simp only [Bool.and_eq_true] at hok2
  obtain ⟨o, h1, h2⟩ := ordersOk_get hok2.2.2.2.2 hl
  unfold orderOk at h2
  simp only [Bool.and_eq_true, decide_eq_true_eq] at h2
  have h0 : 0 < o.length := by rw [h2.1.length_eq]; exact wrL_pos0 hl
  obtain ⟨y, hy⟩ := get_of_lt (xs := o) (k := o.length - 1) (by omega)
  obtain ⟨j, e', -, rfl, h5, h6, -⟩ := mem_wrL.1 (h2.1.mem_iff.1 (List.mem_of_getElem? hy))
  obtain ⟨v, h7, h8⟩ := val_write hok hv h5 h6
  exact ⟨o, j, v, h1, h0, hy, h7, h8⟩

theorem lastA_cases (p : List (List Ins)) (es : List Ev) (t g : Nat) : ∀ k, k ≤ es.length → lastA p es t g k = -1 ∨ ∃ (i : Nat) (e : Ev), lastA p es t g k = i ∧ es[i]? = some e ∧ e.r = true := by
  intro k
  induction k with
  | zero => intro _; exact .inl rfl
  | succ k ih =>
    intro hk
    obtain ⟨e, he⟩ := get_of_lt (xs := es) (k := k) hk
    rw [lastA_succ p t g he]
    by_cases hh : hitA p t g e = true
    · rw [if_pos hh]
      refine .inr ⟨k, e, rfl, he, ?_⟩
      unfold hitA at hh
      simp only [Bool.and_eq_true] at hh
      exact hh.2.1
    · rw [if_neg hh]; exact ih (by omega)
theorem memV_eq {od : List (List Int)} {vals : List Int} {l : Nat} {o : List Int} {j : Nat} {v : Int} (h1 : od[l]? = some o) (h2 : o[o.length - 1]? = some (j : Int)) (h3 : vals[j]? = some v) : memV od vals l = v := by
  unfold memV lastO valAt
  rw [h1, Option.getD_some, List.getLast?_eq_getElem?, h2]
  simp [h3]
theorem valAt_eq {fr vals : List Int} {k j : Nat} {v : Int} (h1 : fr[k]? = some (j : Int)) (h2 : vals[j]? = some v) : valAt vals (frAt fr (k : Int)) = v := by
  unfold valAt frAt
  simp [h1, h2]
theorem regs_bound {p : List (List Ins)} {x : Xc} (hok : execOk p x = true) (hv : valsOk p x.fr = true) (i : Nat) {k : Nat} (hk : k ≤ (evAll p).length) : 0 ≤ regsK p (evAll p) x.fr (valsL p x.fr) k i ∧ regsK p (evAll p) x.fr (valsL p x.fr) k i ≤ 3 := by
  unfold regsK
  split
  · rcases lastA_cases p (evAll p) ((i - 3) / 3) ((i - 3) % 3) k hk with h | ⟨r, e, h1, h2, h3⟩
    · rw [h]; simp [regOf]
    · obtain ⟨j, v, h4, h5, h6⟩ := val_read hok hv h2 h3
      unfold regOf
      rw [h1, if_neg (by omega), valAt_eq h4 h5]; exact h6
  · omega
theorem bytesK_bound {p : List (List Ins)} {x : Xc} (hok : execOk p x = true) (hv : valsOk p x.fr = true) {k : Nat} (hk : k ≤ (evAll p).length) : ∀ y ∈ bytesK p (evAll p) x.fr (valsL p x.fr) k, 0 ≤ y ∧ y ≤ 3 := by
  intro y hy
  unfold bytesK at hy
  rw [List.mem_map] at hy
  obtain ⟨i, -, rfl⟩ := hy
  exact regs_bound hok hv i hk
theorem finB_bound {p : List (List Ins)} {x : Xc} (hok : execOk p x = true) (hv : valsOk p x.fr = true) {k : Nat} (hk : k ≤ 3) : ∀ y ∈ finB p (evAll p) x (valsL p x.fr) k, 0 ≤ y ∧ y ≤ 3 := by
  intro y hy
  unfold finB at hy
  rw [List.mem_map] at hy
  obtain ⟨i, -, rfl⟩ := hy
  unfold bytesM
  split
  · rename_i h
    obtain ⟨o, j, v, h1, -, h2, h3, h4⟩ := val_order hok hv (l := i - 12) (by omega)
    rw [memV_eq h1 h2 h3]; exact h4
  · exact regs_bound hok hv i (Nat.le_refl _)

/-- The outcome of the bytes is the outcome of the candidate. -/
theorem outB_eq {p : List (List Ins)} (x : Xc) (vals : List Int) (hp : p.length ≤ 3) : outB (finB p (evAll p) x vals 3) p.length = outL p (evAll p) x vals := by
  have hrow : ∀ (t : Nat) (r : List Ins), p[t]? = some r → rowB (finB p (evAll p) x vals 3) t 3 = outRow p (evAll p) x.fr vals t r.length 3 := by
    intro t r hr
    have ht : t < 3 := by have := (List.getElem?_eq_some_iff.1 hr).1; omega
    unfold rowB outRow
    apply List.map_congr_left
    intro g hg
    have hg3 : g < 3 := List.mem_range.1 hg
    rw [finB_get _ _ _ _ _ (by omega), Option.getD_some]
    unfold bytesM
    rw [if_neg (by omega)]
    unfold regsK
    rw [if_pos (by omega), show (3 + 3 * t + g - 3) / 3 = t by omega, show (3 + 3 * t + g - 3) % 3 = g by omega]
    unfold regV lastRd
    rw [last_eq hr g _ (Nat.le_refl _)]
  have hregs : ∀ n, n ≤ p.length → regsB (finB p (evAll p) x vals 3) n = outTo p (evAll p) x.fr vals n := by
    intro n
    induction n with
    | zero => intro _; rfl
    | succ n ih =>
      intro hn
      obtain ⟨r, hr⟩ := get_of_lt (xs := p) (k := n) hn
      rw [regsB_succ, outTo_succ _ _ _ hr, ih (by omega), hrow n r hr]
  have hmem : memB (finB p (evAll p) x vals 3) 3 = outMem x.od vals 3 := by
    unfold memB outMem
    apply List.map_congr_left
    intro l hl
    have hl3 : l < 3 := List.mem_range.1 hl
    rw [finB_get _ _ _ _ _ (by omega), Option.getD_some]
    unfold bytesM
    rw [if_pos (by omega), show 12 + l - 12 = l by omega]
  unfold outB outL
  rw [hregs _ (Nat.le_refl _), hmem]

end Go.Proofs.Ytblheabgjjeigaa

namespace Go.Proofs.Ytblheabgjjeigaa
open Go.RowKit

/-- The block of a state's values. -/
structure HB (w : World) (vb : Nat) (ps : Slc) (xs : List Int) : Prop where
  blk : w.heap[vb]? = some (.cells (.slice ps.a ps.n ps.cap :: xs.map (Value.int .u8)).toArray 80 (0, 0))
theorem HB.vb {w : World} {vb : Nat} {ps : Slc} {xs : List Int} (h : HB w vb ps xs) : VB w vb ps xs :=
  ⟨cell_of_heapV h.blk (k := 0) rfl, fun i x hx => cell_of_heapV h.blk (k := 1 + i) (by simp [Nat.add_comm 1 i, hx])⟩
theorem HB.below {w w' : World} {vb : Nat} {ps : Slc} {xs : List Int} (h : HB w vb ps xs) (hb : Below w.heap.size w w') : HB w' vb ps xs := ⟨(hb.block vb (Array.getElem?_eq_some_iff.1 h.blk).1).trans h.blk⟩
theorem HB.set {w : World} {vb : Nat} {ps : Slc} {xs : List Int} (h : HB w vb ps xs) (i q : Nat) (v : Int) (hq : q = 1 + i) : HB (w.setCell ⟨vb, q, none⟩ (.int .u8 v)) vb ps (xs.set i v) := by
  subst hq
  refine ⟨(heap_setCell_same w vb (1 + i) _ _ (.int .u8 v) h.blk).trans ?_⟩
  rw [List.setIfInBounds_toArray, Nat.add_comm, List.set_cons_succ, List.map_set]
theorem HB.lt {w : World} {vb : Nat} {ps : Slc} {xs : List Int} (h : HB w vb ps xs) : vb < w.heap.size := (Array.getElem?_eq_some_iff.1 h.blk).1

theorem evAll_ge0 (p : List (List Ins)) : 3 ≤ (evAll p).length := by unfold evAll; simp [evHead_length]
theorem insValid_reg {x : Ins} (h : insValid x = true) : 0 ≤ x.reg ∧ x.reg ≤ 2 := by
  unfold insValid inB at h
  split at h
  · simp at h; omega
  · split at h
    · simp at h; omega
    · split at h
      · simp at h; omega
      · split at h
        · simp at h; omega
        · cases h

theorem order_le {p : List (List Ins)} {x : Xc} (hok : execOk p x = true) {l : Nat} {o : List Int} (hl : l < 3) (ho : x.od[l]? = some o) : o.length ≤ (evAll p).length := by
  unfold execOk at hok
  simp only [Bool.and_eq_true] at hok
  obtain ⟨o', h1, h2⟩ := ordersOk_get hok.2.2.2.2 hl
  obtain rfl : o' = o := by rw [h1] at ho; simpa using ho
  unfold orderOk at h2
  simp only [Bool.and_eq_true, decide_eq_true_eq] at h2
  rw [h2.1.length_eq]
  exact wrL_length _ _

set_option maxRecDepth 100000 in
set_option maxHeartbeats 6400000 in
theorem outcomeOf_any (v vf vo : Value) (p : List (List Ins)) (x : Xc) (w : World) (hp : RepP w v p) (hx : RepX w vf vo x) (hl : p.flatten.length ≤ 1048576) (hok : execOk p x = true) :
    Calls Try.prog 27 #[v, .agg #[vf, vo]] w (RetNB w (if valsOk p x.fr = true then (outL p (evAll p) x (valsL p x.fr), true) else ([], false))) := by
  have HE := hide (fun w' h => events_any v p w' h hl)
  have HVO := hide (fun w' h h' => valuesOf_any v vf vo p x w' h h' hl hok)
  have hok2 := hok
  unfold execOk at hok2
  simp only [Bool.and_eq_true, decide_eq_true_eq] at hok2
  obtain ⟨hpv, hfl, hol, -, -⟩ := hok2
  have hen := evAll_le hpv
  have hen3 := evAll_ge0 p
  have hp3 := (valid_le hpv).1
  have HVL := hide (valid_le hpv).2.2.1
  have HVR := hide (fun k e (h : valsOk p x.fr = true) h1 h2 => val_read (k := k) (e := e) hok h h1 h2)
  have HVD := hide (fun l (h : valsOk p x.fr = true) h1 => val_order (l := l) hok h h1)
  have HOLN := hide (fun l o (h1 : l < 3) h2 => order_le (l := l) (o := o) hok h1 h2)
  have HBB := hide (fun k (h : valsOk p x.fr = true) (hk : k ≤ 3) => finB_bound hok h hk)
  have HOB := hide (outB_eq x (valsL p x.fr) hp3)
  have HEVC := hide (fun k e (h : (evAll p)[k]? = some e) h2 => ev_read (p := p) h h2)
  have HK0 := hide (bytesK_zero p (evAll p) x.fr (valsL p x.fr))
  have HKS := hide (fun k e h h2 => bytesK_skip (p := p) (es := evAll p) x.fr (valsL p x.fr) (k := k) (e := e) h h2)
  have HKR := hide (fun k t g e h h2 h3 h4 h5 h6 => bytesK_read (p := p) (es := evAll p) x.fr (valsL p x.fr) (k := k) (t := t) (g := g) (e := e) h h2 h3 h4 h5 h6)
  have HKL := hide (bytesK_length p (evAll p) x.fr (valsL p x.fr))
  have HF0 := hide (finB_zero p (evAll p) x (valsL p x.fr))
  have HFS := hide (fun k hk => finB_succ p (evAll p) x (valsL p x.fr) (k := k) hk)
  have HFL := hide (finB_length p (evAll p) x (valsL p x.fr))
  have HLV := hide (valTo_length (evAll p) (cX p x.fr))
  have HLL : Hid ((valsL p x.fr).length = (evAll p).length) := hide (valTo_length _ _ _ (Nat.le_refl _))
  clear hpv
  have HP := hide hp; have HX := hide hx
  have HFLE := hide hfl; have HOLE := hide hol
  obtain ⟨pa, pc, rfl, -, hpn, -, -⟩ := hp.open
  obtain ⟨fa, fc, rfl, -, hfn, -, -⟩ := hx.fr.open
  obtain ⟨oa, oc, rfl, -, hon, -, -⟩ := hx.od.open
  clear hp hx hok hfl hol
  have HRV : Hid ((if valsOk p x.fr = true then (outL p (evAll p) x (valsL p x.fr), true) else ([], false)) = if valsOk p x.fr = true then (outL p (evAll p) x (valsL p x.fr), true) else ([], false)) := hide rfl
  generalize hRR : (if valsOk p x.fr = true then (outL p (evAll p) x (valsL p x.fr), true) else ([], false)) = R
  have HR := hide hRR
  clear hRR HRV
  have HB0 := hide ((Below.refl w.heap.size w).alloc (Nat.le_refl _) (.cells #[.slice fa x.fr.length fc, .slice oa x.od.length oc] 27))
  have HBX := hide (heap_alloc_new w (.cells #[.slice fa x.fr.length fc, .slice oa x.od.length oc] 27))
  have HP0 := hide (HP.out.below HB0.out); have HX0 := hide (HX.out.below HB0.out)
  generalize hes : evAll p = es at *
  generalize hvv : valsL p x.fr = vals at *
  generalize hvo : valsOk p x.fr = ok at *
  clear hes hvv hvo
  generalize hfn' : x.fr.length = fn at *
  generalize hon' : x.od.length = on at *
  generalize hpn' : p.length = pn at *
  generalize hen' : es.length = en at *
  generalize hvn' : vals.length = vn at *
  have HFN := hide hfn'; have HON := hide hon'; have HPN := hide hpn'; have HEN := hide hen'; have HVN := hide hvn'
  clear hfn' hon' hpn' hen' hvn'
  have e0 := cell_of_heapV HBX.out (k := 0) rfl
  have e1 := cell_of_heapV HBX.out (k := 1) rfl
  have lb := lt_of_cell e0
  go_enter Try.func27, Try.ntmps27
  go_wp2_with fail
  generalize hw1 : w.alloc (.cells #[.slice fa fn fc, .slice oa on oc] 27) = w1 at *
  clear hw1
  (with_reducible refine (HVO.out _ HP0.out HX0.out).mono ?_); rintro e w2 ⟨u, rfl, ou, hb2⟩
  cases ok
  · obtain rfl : R = ([], false) := by rw [← HR.out, if_neg (by simp)]
    have HB2 := hide (HB0.out.trans (hb2.mono HB0.out.size))
    clear ou hb2 e0 e1 lb
    go_wp2_with fail
    go_ret2
    exact RetNB.no HB2.out
  · have ou2 : Own IntE 3 w2 w1.heap.size u.v vals := ou
    have HR2 : Hid (R = (outL p es x vals, true)) := hide (by rw [← HR.out, if_pos rfl])
    clear ou HR
    obtain ⟨ua, un, uc⟩ := u
    obtain ⟨ua', uc', heq, -, -, -, hur⟩ := ou2.rep.open
    simp only [Value.slice.injEq] at heq
    obtain ⟨rfl, rfl, rfl⟩ := heq
    rw [HVN.out] at hur ⊢
    have HU := hide hur
    have hx2 := (hb2.block w.heap.size (Array.getElem?_eq_some_iff.1 HBX.out).1).trans HBX.out
    have HX2B := hide hx2
    have HP2 := hide (HP0.out.below hb2); have HX2 := hide (HX0.out.below hb2)
    have HB2 := hide (HB0.out.trans (hb2.mono HB0.out.size))
    have HA := hide (heap_alloc_new w2 (.cells (.slice pa pn pc :: (List.replicate 15 (0 : Int)).map (Value.int .u8)).toArray 80))
    have hb3 := (Below.refl w2.heap.size w2).alloc (Nat.le_refl _) (.cells (.slice pa pn pc :: (List.replicate 15 (0 : Int)).map (Value.int .u8)).toArray 80)
    have HE3 := hide (HE.out _ (HP2.out.below hb3))
    have HB3 := hide hb3
    have hz3 : w2.heap.size < (w2.alloc (.cells (.slice pa pn pc :: (List.replicate 15 (0 : Int)).map (Value.int .u8)).toArray 80)).heap.size := by simp
    simp only [List.replicate, List.map_cons, List.map_nil] at HA HE3 HB3 hz3
    clear hur ou2 e0 e1 lb hx2 hb2 HB0 HBX HP0 HX0 hb3
    go_wp2_with fail
    (with_reducible refine HE3.out.mono ?_); rintro e w4 ⟨ve, rfl, oe, hb4⟩
    rcases oe.shape with ⟨rfl, h0⟩ | ⟨ge, ec, rfl, hge1, hge2, hge3, hge4⟩
    · exfalso
      have h1 := HEN.out
      rw [h0] at h1
      simp at h1
      omega
    rw [HEN.out] at oe hge3 ⊢
    have HB4 := hide (HB3.out.trans (hb4.mono HB3.out.size))
    have HV4 : Hid (HB w4 w2.heap.size ⟨pa, pn, pc⟩ (bytesK p es x.fr vals 0)) := hide ⟨by rw [HK0.out]; exact (hb4.block w2.heap.size (Array.getElem?_eq_some_iff.1 HA.out).1).trans HA.out⟩
    have HOE := hide oe
    have hgv : w2.heap.size < ge := Nat.lt_of_lt_of_le hz3 hge1
    clear oe hb4 HE3 HA hge1 HK0
    go_wp2_with fail
    go_loopw [26] (fun i wr => ∃ k : Nat, k ≤ en ∧ i = .int .i64 k ∧ HB wr w2.heap.size ⟨pa, pn, pc⟩ (bytesK p es x.fr vals k) ∧ Own EvE 36 wr (w2.heap.size + 1) (.slice (some ⟨ge, 0, none⟩) en ec) es ∧ Below w2.heap.size w2 wr) (fun i _ => en - (intOf i).toNat)
    case atStart => exact ⟨0, Nat.zero_le _, rfl, HV4.out, HOE.out.mono hz3, HB4.out⟩
    case round =>
      obtain ⟨k, hk, rfl, hv, hoe, hbr⟩ := hrel
      by_cases hlt : k < en
      · obtain ⟨e, hek⟩ := get_of_lt (xs := es) (k := k) (by rw [HEN.out]; exact hlt)
        obtain ⟨b, o, hbo, hbl, i0, i1, i2, i3, i4⟩ := hoe.rep.ev hek
        simp only [Option.some.injEq, Addr.mk.injEq, and_true] at hbo
        obtain ⟨rfl, rfl⟩ := hbo
        simp only [Nat.zero_add] at i0 i1 i2 i3 i4
        have hlt' := nat_of_lt hlt
        have HOEr := hide hoe; have HVr := hide hv; have HBr := hide hbr
        have hba := (Below.refl wr.heap.size wr).alloc (Nat.le_refl _) (.cells #[.int .i64 e.t, .int .i64 e.i, .int .i64 e.l, .bool e.r, .bool e.w] 36)
        have HVA := hide (hv.below hba); have HOA := hide (hoe.below hba); have HBA := hide (hbr.trans (hba.mono hbr.size))
        cases her : e.r
        · have KS := hide (HKS.out k e hek her)
          rw [her] at i3 HVA HOA HBA
          clear hek her hv hoe hba
          go_wp2_with fail
          go_roundw
          case rel => exact ⟨k + 1, by omega, by go_num, by rw [KS.out]; exact HVA.out, HOA.out, HBA.out⟩
          case measure => simp [intOf]; omega
        · obtain ⟨t', i', r, het, hei, hpt, hri⟩ := HEVC.out k e (by first | exact hek | (rw [← HEN.out]; exact hek)) her
          obtain ⟨j, vv, hfj, hvj, hv0, hv3⟩ := HVR.out k e trivial hek her
          have hreg := insValid_reg ((HVL.out r (List.mem_of_getElem? hpt)).2 _ (List.mem_of_getElem? hri))
          obtain ⟨g, hg⟩ : ∃ g : Nat, (insE p e).reg = g := ⟨(insE p e).reg.toNat, by omega⟩
          obtain ⟨b2, o2, ra, rc, rfl, hbl2, q0, q1⟩ := HP2.out.row hpt
          obtain ⟨b3, o3, rfl, hbl3, r0, r1, r2, r3⟩ := q1.ins hri
          obtain ⟨b4, o4, rfl, hbl4, f0⟩ := HX2.out.fr.int hfj
          obtain ⟨b5, o5, rfl, hbl5, u0⟩ := HU.out.int hvj
          have htp : t' < pn := by have := (List.getElem?_eq_some_iff.1 hpt).1; have := HPN.out; omega
          have htn : (t' : Int) < (pn : Int) := by omega
          have ht3 : (t' : Int) < 3 := by omega
          have hg3 : (g : Int) < 3 := by omega
          have hin : (i' : Int) < (r.length : Int) := by have := (List.getElem?_eq_some_iff.1 hri).1; omega
          have hkf : (k : Int) < (fn : Int) := by have := (List.getElem?_eq_some_iff.1 hfj).1; have := HFN.out; omega
          have hjv : (j : Int) < (vn : Int) := by have := (List.getElem?_eq_some_iff.1 hvj).1; have := HVN.out; omega
          have KR := hide (HKR.out k t' g e hek her het hg (by omega) (by omega))
          have VE := hide (valAt_eq hfj hvj)
          have q0 := (hbr.cell (p := ⟨b2, o2 + t', none⟩) hbl2).trans q0
          have r2 := (hbr.cell (p := ⟨b3, o3 + i' * 4 + 2, none⟩) hbl3).trans r2
          rw [hg] at r2
          have f0 := (hbr.cell (p := ⟨b4, o4 + k, none⟩) hbl4).trans f0
          have u0 := (hbr.cell (p := ⟨b5, o5 + j, none⟩) hbl5).trans u0
          have hwl2 := (Array.getElem?_eq_some_iff.1 HX2B.out).1
          have x0 := (hbr.cell (p := ⟨w.heap.size, 0, none⟩) hwl2).trans (cell_of_heapV HX2B.out (k := 0) rfl)
          have hbrz := hbr.size
          have n2 : b2 ≠ w2.heap.size := by omega
          have n3 : b3 ≠ w2.heap.size := by omega
          have n4 : b4 ≠ w2.heap.size := by omega
          have n5 : b5 ≠ w2.heap.size := by omega
          have n6 : w.heap.size ≠ w2.heap.size := by omega
          have hvl := hv.lt
          have n7 : wr.heap.size ≠ w2.heap.size := by omega
          have l2 : b2 < wr.heap.size := by omega
          have l3 : b3 < wr.heap.size := by omega
          have l4 : b4 < wr.heap.size := by omega
          have l5 : b5 < wr.heap.size := by omega
          have l6 : w.heap.size < wr.heap.size := by omega
          have vfz := frozen_of_heapV hv.blk
          obtain ⟨yv, hyv⟩ := get_of_lt (xs := bytesK p es x.fr vals k) (k := 3 + 3 * t' + g) (by rw [HKL.out]; omega)
          have y0 := hv.vb.cs _ _ hyv
          rw [show 1 + (3 + 3 * t' + g) = 4 + t' * 3 + g by omega] at y0
          have hw8 : IntKind.u8.wrap vv = vv := by rw [IntKind.wrap_u8]; omega
          obtain ⟨et, ei, el, er, ew⟩ := e
          simp only at het hei her i0 i1 i2 i3 i4 HVA HOA HBA
          subst het
          subst hei
          subst her
          generalize r.length = rl at *
          clear hek hpt hri hfj hvj hv hoe hba q1 r0 r1 r3 hyv hreg hg
          go_wp2_with fail
          go_region_held3 (fun V => V.cell? ⟨wr.heap.size, 0, none⟩ = some (.int .i64 (t' : Int)) ∧ V.cell? ⟨wr.heap.size, 1, none⟩ = some (.int .i64 (i' : Int)) ∧ V.cell? ⟨b2, o2 + t', none⟩ = some (.slice (some ⟨b3, o3, none⟩) rl rc) ∧ V.cell? ⟨b3, o3 + i' * 4 + 2, none⟩ = some (.int .i64 (g : Int)) ∧
            V.cell? ⟨w.heap.size, 0, none⟩ = some (.slice (some ⟨b4, o4, none⟩) fn fc) ∧ V.cell? ⟨b4, o4 + k, none⟩ = some (.int .i64 (j : Int)) ∧ V.cell? ⟨b5, o5 + j, none⟩ = some (.int .i64 vv)) ((simp [go_sem, *])) (first | fail)
          all_goals
            go_wp2_with fail
            go_roundw
            case rel =>
              have hbE := ((Below.refl (wr.setCell ⟨w2.heap.size, 4 + t' * 3 + g, none⟩ (.int .u8 vv)).heap.size (wr.setCell ⟨w2.heap.size, 4 + t' * 3 + g, none⟩ (.int .u8 vv))).alloc (Nat.le_refl _) (.cells #[.int .i64 (t' : Int), .int .i64 (i' : Int), .int .i64 el, .bool true, .bool ew] 36)).drew
              have o1 : Own EvE 36 (wr.setCell ⟨w2.heap.size, 4 + t' * 3 + g, none⟩ (.int .u8 vv)) (w2.heap.size + 1) (.slice (some ⟨ge, 0, none⟩) en ec) es := HOEr.out.sameV (fun q hq => heap_setCell_other wr ⟨w2.heap.size, 4 + t' * 3 + g, none⟩ q _ (show q ≠ w2.heap.size by have := World.ownsRow.lt HOEr.out q hq; omega))
              exact ⟨k + 1, by omega, by go_num, by rw [KR.out, VE.out]; exact (HVr.out.set _ _ vv (show 4 + t' * 3 + g = 1 + (3 + 3 * t' + g) by omega)).below hbE, o1.below hbE, ((HBr.out.setCell (Nat.le_refl _) _).alloc (by simp; omega) _).drew⟩
            case measure => simp [intOf]; omega
      · obtain rfl : k = en := by omega
        have hF0 : HB wr w2.heap.size ⟨pa, pn, pc⟩ (finB p es x vals 0) := by rw [HF0.out]; exact hv
        have HV5 := hide hF0; have HB5 := hide hbr
        have hwl2 := (Array.getElem?_eq_some_iff.1 HX2B.out).1
        have x1 := (hbr.cell (p := ⟨w.heap.size, 1, none⟩) hwl2).trans (cell_of_heapV HX2B.out (k := 1) rfl)
        have l6 : w.heap.size < wr.heap.size := by have := hbr.size; omega
        clear hv hoe hbr hF0
        go_wp2_with fail
        clear x1
        go_loopw [61] (fun i wr => ∃ l : Nat, l ≤ 3 ∧ i = .int .i64 l ∧ HB wr w2.heap.size ⟨pa, pn, pc⟩ (finB p es x vals l) ∧ Below w2.heap.size w2 wr) (fun i _ => 3 - (intOf i).toNat)
        case atStart => exact ⟨0, by omega, rfl, HV5.out, HB5.out⟩
        case round =>
          obtain ⟨l, hl3, rfl, hv, hbr⟩ := hrel
          by_cases hlt3 : l < 3
          · obtain ⟨o, j, vv, hod, ho0, hoj, hvj, hv0, hv3⟩ := HVD.out l trivial hlt3
            have holn := HOLN.out l o hlt3 hod
            obtain ⟨b2, o2, ra, rc, rfl, hbl2, q0, q1⟩ := HX2.out.od.row hod
            obtain ⟨b4, o4, rfl, hbl4, f0⟩ := q1.int hoj
            obtain ⟨b5, o5, rfl, hbl5, u0⟩ := HU.out.int hvj
            have hlon : (l : Int) < (on : Int) := by have := HON.out; have := HOLE.out; omega
            have hjv : (j : Int) < (vn : Int) := by have := (List.getElem?_eq_some_iff.1 hvj).1; have := HVN.out; omega
            have q0 := (hbr.cell (p := ⟨b2, o2 + l, none⟩) hbl2).trans q0
            have f0 := (hbr.cell (p := ⟨b4, o4 + (o.length - 1), none⟩) hbl4).trans f0
            have u0 := (hbr.cell (p := ⟨b5, o5 + j, none⟩) hbl5).trans u0
            have hbrz := hbr.size
            have n2 : b2 ≠ w2.heap.size := by omega
            have n4 : b4 ≠ w2.heap.size := by omega
            have n5 : b5 ≠ w2.heap.size := by omega
            have hvl := hv.lt
            have l2 : b2 < wr.heap.size := by omega
            have l4 : b4 < wr.heap.size := by omega
            have l5 : b5 < wr.heap.size := by omega
            have vfz := frozen_of_heapV hv.blk
            obtain ⟨yv, hyv⟩ := get_of_lt (xs := finB p es x vals l) (k := 12 + l) (by rw [HFL.out]; omega)
            have y0 := hv.vb.cs _ _ hyv
            rw [show 1 + (12 + l) = 13 + l by omega] at y0
            have hw8 : IntKind.u8.wrap vv = vv := by rw [IntKind.wrap_u8]; omega
            have hl3' : (l : Int) < 3 := by omega
            obtain ⟨q, hq⟩ : ∃ q, o.length = q + 1 := ⟨o.length - 1, by omega⟩
            rw [hq] at f0 q0 holn
            simp only [Nat.add_sub_cancel] at f0
            have hwq : wrap64 (q : Int) = q := by unfold wrap64; omega
            have hqq : ((q + 1 : Nat) : Int) - 1 = (q : Int) := by omega
            have hq1 : (q : Int) < ((q + 1 : Nat) : Int) := by omega
            have FS := hide (HFS.out l hlt3)
            have ME := hide (memV_eq hod hoj hvj)
            have HVr := hide hv; have HBr := hide hbr
            clear hod hoj hvj hv hbr hyv q1 ho0 hq
            have hon3 : on = 3 := by have := HON.out; have := HOLE.out; omega
            go_wp2_with fail
            go_roundw
            case rel => exact ⟨l + 1, by omega, by go_num, by rw [FS.out, ME.out]; exact HVr.out.set _ _ vv (by omega), HBr.out.setCell (Nat.le_refl _) _⟩
            case measure => simp [intOf]; omega
          · obtain rfl : l = 3 := by omega
            have hon3 : on = 3 := by have := HON.out; have := HOLE.out; omega
            subst hon3
            have HBD := hide (fun y hy => HBB.out 3 trivial (Nat.le_refl _) y hy)
            have HOC := hide (outcome_any w2.heap.size ⟨pa, pn, pc⟩ (finB p es x vals 3) wr hv.vb (HFL.out 3) (fun y hy => by have := HBD.out y hy; omega) hp3)
            have HBr := hide hbr
            clear hv hbr
            go_wp2_with fail
            (with_reducible refine HOC.out.mono ?_); rintro e w9 ⟨uo, rfl, ouo, hb9⟩
            obtain ⟨⟨qa, qn, qc⟩, rfl, -⟩ := ouo.toSlc
            have HOU := hide ouo; have HB9 := hide (HBr.out.trans (hb9.mono HBr.out.size))
            clear ouo hb9
            go_wp2_with fail
            go_ret2
            rw [HR2.out]
            refine ⟨⟨qa, qn, qc⟩, rfl, ?_, HB2.out.trans (HB9.out.mono HB2.out.size)⟩
            rw [← HOB.out]
            exact HOU.out.mono (Nat.le_trans HB2.out.size HBr.out.size)

end Go.Proofs.Ytblheabgjjeigaa
