/-
  The laws' own functions on lists of lists of numbers: size, copy, equality (after the ones on lists). No condition but bounds on lengths.
-/
import Derived.Test.YtpnmphfdfadlcaaN2
namespace Go.Proofs.Ytpnmphfdfadlcaa
open Go.RowKit

theorem Try.infoIntS : (Try.prog.info? 36).map (fun i => (i.zero, i.size, i.bytes)) = some (some (.slice none 0 0), 1, 24) := by kernel_rfl

abbrev OwnNN (w : World) (base : Nat) (v : Value) (p : List (List Int)) : Prop := Own2 IntE 36 3 w base v p
abbrev RepNN (w : World) (v : Value) (p : List (List Int)) : Prop := Rep2 IntE w v p

set_option maxHeartbeats 400000 in
theorem EqualN_any (v v' : Value) (xs ys : List Int) (w : World) (hx : Rep IntE w v xs) (hy : Rep IntE w v' ys) :
    Calls Try.prog 204 #[v, v'] w fun e w' => e = .returned (.bool (decide (xs = ys))) ∧ Below w.heap.size w w' := by
  obtain ⟨a, c, rfl, hc1, hc2, hc3, hx⟩ := hx.open
  obtain ⟨a', c', rfl, hc1', hc2', hc3', hy⟩ := hy.open
  have HX := hide hx; clear hx
  have HY := hide hy; clear hy
  generalize hn : xs.length = n at *
  generalize hn' : ys.length = n' at *
  have H := hide hn; clear hn
  have H' := hide hn'; clear hn'
  by_cases hc : n = n'
  · subst hc
    have hc' : ((n : Int) != n) = false := by simp
    go_enter Try.func204, Try.ntmps204
    go_wp2_with fail
    go_loopw [13] (fun v wr => ∃ k : Nat, k ≤ n ∧ v = .int .i64 k ∧ Hid (xs.take k = ys.take k) ∧ Below w.heap.size w wr) (fun v _ => n - (intOf v).toNat)
    case atStart => exact ⟨0, Nat.zero_le _, rfl, hide (by simp), Below.refl _ _⟩
    case round =>
      obtain ⟨k, hk, rfl, T, hb⟩ := hrel
      by_cases hlt : k < n
      · obtain ⟨x, hxk⟩ := get_of_lt (xs := xs) (k := k) (by rw [H.out]; exact hlt)
        obtain ⟨y, hyk⟩ := get_of_lt (xs := ys) (k := k) (by rw [H'.out]; exact hlt)
        obtain ⟨b, o, rfl, hbl, i0⟩ := (HX.out.below hb).int hxk
        obtain ⟨b', o', rfl, hbl', j0⟩ := (HY.out.below hb).int hyk
        have hlt' := nat_of_lt hlt
        have X := hide hxk; clear hxk
        have Y := hide hyk; clear hyk
        by_cases hxy : x = y
        · have T' := hide (take_eq_succ T.out X.out Y.out hxy)
          have hd : (x != y) = false := by simp [hxy]
          clear hxy
          go_wp2_with fail
          refine wp_region_bw (by kernel_rfl) (by kernel_rfl) ?_
          repeat (go_big_quiet_step (fail))
          refine wpQuiet_nil ?_
          intro w1 hb1
          have hb2 := hb.trans (hb1.mono hb.size)
          go_wp2_with fail
          go_roundw
          case rel => exact ⟨k + 1, by omega, by go_num, T', hb2⟩
          case measure => simp [intOf]; omega
        · have hq := ne_of_get X.out Y.out hxy
          have hd : (x != y) = true := by simp [hxy]
          clear hxy
          go_wp2_with fail
          refine wp_region_bw (by kernel_rfl) (by kernel_rfl) ?_
          repeat (go_big_quiet_step (fail))
          refine wpQuiet_nil ?_
          intro w1 hb1
          have hb2 := hb.trans (hb1.mono hb.size)
          go_wp2_with fail
          go_ret
          exact ⟨by simp [hq], hb2⟩
      · have e2 : xs = ys := take_all_eq T.out (by rw [H.out]; omega) (by rw [H'.out]; omega)
        subst e2
        go_wp2_with fail
        go_ret
        exact ⟨by simp, hb⟩
  · have hc' : ((n : Int) != n') = true := by simp; omega
    have hq : xs ≠ ys := fun h => hc (by rw [← H.out, ← H'.out, h])
    go_enter Try.func204, Try.ntmps204
    go_wp2_with fail
    go_ret
    exact ⟨by simp [hq], Below.refl _ _⟩

set_option maxHeartbeats 400000 in
theorem eqIntSS_any (v v' : Value) (xs ys : List (List Int)) (w : World) (hx : RepNN w v xs) (hy : RepNN w v' ys) :
    Calls Try.prog 141 #[v, v'] w fun e w' => e = .returned (.bool (decide (xs = ys))) ∧ Below w.heap.size w w' := by
  obtain ⟨a, c, rfl, hc1, hc2, hc3, hx⟩ := hx.open
  obtain ⟨a', c', rfl, hc1', hc2', hc3', hy⟩ := hy.open
  have HX := hide hx; clear hx
  have HY := hide hy; clear hy
  generalize hn : xs.length = n at *
  generalize hn' : ys.length = n' at *
  have H := hide hn; clear hn
  have H' := hide hn'; clear hn'
  by_cases hc : n = n'
  · subst hc
    have hc' : ((n : Int) != n) = false := by simp
    go_enter Try.func141, Try.ntmps141
    go_wp2_with fail
    go_loopw [5] (fun v wr => ∃ k : Nat, k ≤ n ∧ v = .int .i64 k ∧ Hid (xs.take k = ys.take k) ∧ Below w.heap.size w wr) (fun v _ => n - (intOf v).toNat)
    case atStart => exact ⟨0, Nat.zero_le _, rfl, hide (by simp), Below.refl _ _⟩
    case round =>
      obtain ⟨k, hk, rfl, T, hb⟩ := hrel
      by_cases hlt : k < n
      · obtain ⟨x, hxk⟩ := get_of_lt (xs := xs) (k := k) (by rw [H.out]; exact hlt)
        obtain ⟨y, hyk⟩ := get_of_lt (xs := ys) (k := k) (by rw [H'.out]; exact hlt)
        obtain ⟨b, o, ra, rc, rfl, hbl, i0, i1⟩ := (HX.out.below hb).row hxk
        obtain ⟨b', o', ra', rc', rfl, hbl', j0, j1⟩ := (HY.out.below hb).row hyk
        have hlt' := nat_of_lt hlt
        have X := hide hxk; clear hxk
        have Y := hide hyk; clear hyk
        have I1 := hide i1; clear i1
        have J1 := hide j1; clear j1
        go_wp2_with fail
        refine wp_region_bw (by kernel_rfl) (by kernel_rfl) ?_
        repeat (go_big_quiet_step ((go_at_call 46; exact Calls.bw (eqIntS_any _ _ x y _ (I1.out.below (BW.prop _)) (J1.out.below (BW.prop _))))))
        refine wpQuiet_nil ?_
        intro w1 hb1
        have hb2 := hb.trans (hb1.mono hb.size)
        generalize hd : decide (x = y) = d
        cases d
        · have hq := ne_of_get X.out Y.out (of_decide_eq_false hd)
          clear hd
          go_wp2_with fail
          go_ret
          exact ⟨by simp [hq], hb2⟩
        · have T' := hide (take_eq_succ T.out X.out Y.out (of_decide_eq_true hd))
          clear hd
          go_wp2_with fail
          go_roundw
          case rel => exact ⟨k + 1, by omega, by go_num, T', hb2⟩
          case measure => simp [intOf]; omega
      · have e2 : xs = ys := take_all_eq T.out (by rw [H.out]; omega) (by rw [H'.out]; omega)
        subst e2
        go_wp2_with fail
        go_ret
        exact ⟨by simp, hb⟩
  · have hc' : ((n : Int) != n') = true := by simp; omega
    have hq : xs ≠ ys := fun h => hc (by rw [← H.out, ← H'.out, h])
    go_enter Try.func141, Try.ntmps141
    go_wp2_with fail
    go_ret
    exact ⟨by simp [hq], Below.refl _ _⟩

/-- The size of a list, taken off what is left. -/
theorem szIntS_any (a : Option Addr) (n c : Nat) (l : Int) (w : World) (hn : n ≤ 9223372036854775807) (h0 : 0 ≤ l) (h1 : l ≤ 1048576) :
    Calls Try.prog 134 #[.slice a n c, .int .i64 l] w fun e w' => e = .returned (.int .i64 (if l - n < 0 then -1 else l - n)) ∧ w = w' := by
  by_cases h : l - n < 0
  · rw [if_pos h]
    go_enter Try.func134, Try.ntmps134
    go_wp2
    go_ret
    exact ⟨rfl, rfl⟩
  · rw [if_neg h]
    go_enter Try.func134, Try.ntmps134
    go_wp2
    go_ret
    exact ⟨rfl, rfl⟩

/-- What a list of lists's size leaves, or -1. -/
def szN : List (List Int) → Int → Int
  | [], l => l
  | r :: p, l => if l - r.length < 0 then -1 else szN p (l - r.length)

theorem szN_le (p : List (List Int)) (l : Int) (h : 0 ≤ szN p l) : szN p l ≤ l ∧ ∀ r ∈ p, (r.length : Int) ≤ l := by
  induction p generalizing l with
  | nil => simp [szN]
  | cons r p ih =>
    simp only [szN] at h ⊢
    split at h
    · omega
    · rename_i hl
      rw [if_neg hl]
      obtain ⟨h1, h2⟩ := ih _ h
      refine ⟨by omega, fun q hq => ?_⟩
      rcases List.mem_cons.1 hq with rfl | hq
      · omega
      · have := h2 q hq; omega

def szNN (p : List (List Int)) (l : Int) : Int := if l - p.length < 0 then -1 else szN p (l - p.length)

set_option maxHeartbeats 400000 in
theorem szIntSS_any (v : Value) (p : List (List Int)) (l : Int) (w : World) (hp : RepNN w v p) (h0 : 0 ≤ l) (h1 : l ≤ 1048576) :
    Calls Try.prog 135 #[v, .int .i64 l] w fun e w' => e = .returned (.int .i64 (szNN p l)) ∧ Below w.heap.size w w' := by
  obtain ⟨a, c, rfl, hc1, hc2, hc3, hp⟩ := hp.open
  have HP := hide hp; clear hp
  unfold szNN
  generalize hn : p.length = n at *
  have H := hide hn; clear hn
  by_cases h : l - n < 0
  · rw [if_pos h]
    go_enter Try.func135, Try.ntmps135
    go_wp2_with fail
    go_ret
    exact ⟨rfl, Below.refl _ _⟩
  · rw [if_neg h]
    go_enter Try.func135, Try.ntmps135
    go_wp2_with fail
    go_loopw [1, 5] (fun s i wr => ∃ (k : Nat) (q : Int), k ≤ n ∧ i = .int .i64 k ∧ s = .int .i64 q ∧ 0 ≤ q ∧ q ≤ 1048576 ∧ Hid (szN (p.drop k) q = szN p (l - n)) ∧ Below w.heap.size w wr) (fun _ i _ => n - (intOf i).toNat)
    case atStart => exact ⟨0, _, Nat.zero_le _, rfl, rfl, by omega, by omega, hide (by simp), Below.refl _ _⟩
    case round =>
      obtain ⟨k, q, hk, rfl, rfl, hq0, hq1, T, hb⟩ := hrel
      by_cases hlt : k < n
      · obtain ⟨x, hxk⟩ := get_of_lt (xs := p) (k := k) (by rw [H.out]; exact hlt)
        obtain ⟨b, o, ra, rc, rfl, hbl, i0, i1⟩ := (HP.out.below hb).row hxk
        obtain ⟨_, _, _, _, hr2, _, _⟩ := i1.open
        have hlt' := nat_of_lt hlt
        have hdrop : p.drop k = x :: p.drop (k + 1) := by
          rw [List.drop_eq_getElem_cons (by rw [H.out]; exact hlt)]
          congr 1
          have := (List.getElem?_eq_some_iff.1 hxk).2
          exact this
        have D := hide hdrop; clear hdrop hxk i1
        generalize hxl : x.length = m at *
        have XL := hide hxl; clear hxl
        have T2 : Hid ((if q - m < 0 then -1 else szN (p.drop (k + 1)) (q - m)) = szN p (l - n)) := by
          have h := T.out
          rw [D.out, szN, XL.out] at h
          exact h
        by_cases hs : q - m < 0
        · have T3 : Hid (szN p (l - n) = -1) := hide (by have h := T2.out; rw [if_pos hs] at h; exact h.symm)
          go_wp2_with (go_at_call 134; refine (szIntS_any _ _ _ _ _ (by omega) (by omega) (by omega)).mono ?_; rw [if_pos hs]; rintro e w1 ⟨rfl, rfl⟩)
          go_ret
          rw [T3.out]
          exact ⟨rfl, hb⟩
        · have T3 : Hid (szN (p.drop (k + 1)) (q - m) = szN p (l - n)) := hide (by have h := T2.out; rwa [if_neg hs] at h)
          go_wp2_with (go_at_call 134; refine (szIntS_any _ _ _ _ _ (by omega) (by omega) (by omega)).mono ?_; rw [if_neg hs]; rintro e w1 ⟨rfl, rfl⟩)
          go_roundw
          case rel => exact ⟨k + 1, q - m, by omega, by go_num, rfl, by omega, by omega, T3, hb⟩
          case measure => simp [intOf]; omega
      · have T3 : Hid (szN p (l - n) = q) := hide (by have h := T.out; rw [List.drop_of_length_le (by rw [H.out]; omega), szN] at h; exact h.symm)
        go_wp2_with fail
        go_ret
        rw [T3.out]
        exact ⟨rfl, hb⟩

set_option maxHeartbeats 400000 in
theorem toIntSS_any (v : Value) (xs : List (List Int)) (w : World) (hx : RepNN w v xs) (hl : xs.length ≤ 1048576) (hl2 : ∀ r ∈ xs, r.length ≤ 1048576) :
    Calls Try.prog 138 #[v] w (RetOwn2 IntE 36 3 w xs) := by
  obtain ⟨a, c, rfl, hc1, hc2, hc3, hx⟩ := hx.open
  have HX := hide hx; clear hx
  have HL2 := hide hl2; clear hl2
  generalize hn : xs.length = n at *
  have H := hide hn; clear hn
  go_enter Try.func138, Try.ntmps138
  go_wp2_with (at_make; refine wpList_make SlcE 36 ⟨none, 0, 0⟩ Try.infoIntS rfl Try.underlying74 n (by decide) (by omega) rfl _ _ rfl rfl rfl ?_; intro w1 hown hgr)
  have hb1 := below_of_grown hgr
  go_loopw [4] (fun i wr => ∃ k : Nat, k ≤ n ∧ i = .int .i64 k ∧ OwnNN wr w.heap.size (.slice (some ⟨w.heap.size, 0, none⟩) n n) (xs.take k ++ List.replicate (n - k) []) ∧ Below w.heap.size w wr) (fun i _ => n - (intOf i).toNat)
  case atStart => exact ⟨0, Nat.zero_le _, rfl, by simpa using Own2.made hown, hb1⟩
  case round =>
    obtain ⟨k, hk, rfl, ho, hb⟩ := hrel
    by_cases hlt : k < n
    · obtain ⟨x, hxk⟩ := get_of_lt (xs := xs) (k := k) (by rw [H.out]; exact hlt)
      obtain ⟨b, o, ra, rc, rfl, hbl, i0, i1⟩ := (HX.out.below hb).row hxk
      have hlt' := nat_of_lt hlt
      have hxl : x.length ≤ 1048576 := HL2.out x (List.mem_of_getElem? hxk)
      have X := hide hxk; clear hxk
      have I1 := hide i1; clear i1
      go_wp2_with (go_at_call 43; refine (toIntS_any _ x _ I1.out hxl).mono ?_; rintro e w2 ⟨u, rfl, hu, hb2⟩; obtain ⟨s, rfl, -⟩ := hu.toSlc; obtain ⟨hgl, ⟨_, f0⟩, hfr⟩ := (ho.below hb2).cellAt (k := k) (by rw [← H.out, length_pad _ _ (by rw [H.out]; omega), H.out]; exact hlt))
      have ho2 := ho.put hb2 hb.size (k := k) (by rw [← H.out, length_pad _ _ (by rw [H.out]; omega), H.out]; exact hlt) hu
      rw [← H.out, set_pad xs _ X.out, H.out] at ho2
      go_roundw
      case rel => exact ⟨k + 1, by omega, by go_num, ho2, (hb.trans (hb2.mono hb.size)).setCell (Nat.le_refl _) _⟩
      case measure => simp [intOf]; omega
    · go_wp2_with fail
      go_ret
      rw [← H.out, pad_all xs _ (by rw [H.out]; omega), H.out] at ho
      exact ⟨_, rfl, ho, hb⟩

theorem szN_eq (p : List (List Int)) (l : Int) (h : 0 ≤ szN p l) : szN p l = l - p.flatten.length ∨ p = [] := by
  induction p generalizing l with
  | nil => exact .inr rfl
  | cons r p ih =>
    left
    simp only [szN] at h ⊢
    split at h
    · omega
    · rename_i hl
      rw [if_neg hl]
      rcases ih _ h with h1 | h1
      · rw [h1]; simp; omega
      · subst h1; simp [szN]

theorem szNN_le (p : List (List Int)) (h : ¬ szNN p 1048576 < 0) : p.length ≤ 1048576 ∧ p.flatten.length ≤ 1048576 ∧ ∀ r ∈ p, r.length ≤ 1048576 := by
  unfold szNN at h
  split at h
  · omega
  · rename_i hl
    have h1 := szN_le p _ (Int.not_lt.1 h)
    refine ⟨by omega, ?_, fun r hr => by have := h1.2 r hr; omega⟩
    rcases szN_eq p _ (Int.not_lt.1 h) with h2 | h2
    · rw [h2] at h; omega
    · subst h2; simp


end Go.Proofs.Ytpnmphfdfadlcaa
