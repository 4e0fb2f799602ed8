/-
  The laws' own functions on programs: size, copy, equality. No condition but bounds on lengths.
-/
import Derived.Test.YtpnmphfdfadlcaaBase
namespace Go.Proofs.Ytpnmphfdfadlcaa
open Go.RowKit

theorem Try.infoIns : (Try.prog.info? 72).map (fun i => (i.zero, i.size, i.bytes)) = some (some (.agg #[.int .i64 0, .int .i64 0, .int .i64 0, .int .i64 0]), 4, 32) := by kernel_rfl
theorem Try.infoInsS : (Try.prog.info? 73).map (fun i => (i.zero, i.size, i.bytes)) = some (some (.slice none 0 0), 1, 24) := by kernel_rfl

abbrev OwnI (w : World) (base : Nat) (v : Value) (xs : List Ins) : Prop := Own InsE 72 w base v xs
abbrev OwnP (w : World) (base : Nat) (v : Value) (p : List (List Ins)) : Prop := Own2 InsE 73 72 w base v p
abbrev RepP (w : World) (v : Value) (p : List (List Ins)) : Prop := Rep2 InsE w v p

theorem toInstr_any (x : Ins) (w : World) :
    Calls Try.prog 174 #[x.v] w fun e w' => e = .returned x.v ∧ Below w.heap.size w w' := by
  obtain ⟨x0, x1, x2, x3⟩ := x
  go_enter Try.func174, Try.ntmps174
  go_wp2
  refine bodyPost_ret (v := .agg #[.int .i64 x0, .int .i64 x1, .int .i64 x2, .int .i64 x3]) (by simp [results, Try.results174, go_sem]) rfl ⟨rfl, ?_⟩
  exact (((Below.refl _ _).alloc (Nat.le_refl _) _).alloc (by simp) _).alloc (by simp; omega) _

theorem eqInstr_any (x y : Ins) (w : World) :
    Calls Try.prog 181 #[x.v, y.v] w fun e w' => e = .returned (.bool (decide (x = y))) ∧ Below w.heap.size w w' := by
  obtain ⟨x0, x1, x2, x3⟩ := x
  obtain ⟨y0, y1, y2, y3⟩ := y
  rw [show decide ((⟨x0, x1, x2, x3⟩ : Ins) = ⟨y0, y1, y2, y3⟩) = (x0 == y0 && x1 == y1 && x2 == y2 && x3 == y3) by rw [Bool.eq_iff_iff]; simp [and_assoc]]
  go_enter Try.func181, Try.ntmps181
  go_wp2
  all_goals go_ret
  all_goals refine ⟨?_, ((Below.refl _ _).alloc (Nat.le_refl _) _).alloc (by simp) _⟩
  all_goals simp_all

set_option maxHeartbeats 400000 in
theorem eqInstrS_any (v v' : Value) (xs ys : List Ins) (w : World) (hx : Rep InsE w v xs) (hy : Rep InsE w v' ys) :
    Calls Try.prog 110 #[v, v'] w fun e w' => e = .returned (.bool (decide (xs = ys))) ∧ Below w.heap.size w w' := by
  obtain ⟨a, c, rfl, hc1, hc2, hc3, hx⟩ := hx.open
  obtain ⟨a', c', rfl, hc1', hc2', hc3', hy⟩ := hy.open
  have HX := hide hx; clear hx
  have HY := hide hy; clear hy
  generalize hn : xs.length = n at *
  generalize hn' : ys.length = n' at *
  have H := hide hn; clear hn
  have H' := hide hn'; clear hn'
  by_cases hc : n = n'
  · subst hc
    have hc' : ((n : Int) != n) = false := by simp
    go_enter Try.func110, Try.ntmps110
    go_wp2_with fail
    go_loopw [5] (fun v wr => ∃ k : Nat, k ≤ n ∧ v = .int .i64 k ∧ Hid (xs.take k = ys.take k) ∧ Below w.heap.size w wr) (fun v _ => n - (intOf v).toNat)
    case atStart => exact ⟨0, Nat.zero_le _, rfl, hide (by simp), Below.refl _ _⟩
    case round =>
      obtain ⟨k, hk, rfl, T, hb⟩ := hrel
      by_cases hlt : k < n
      · obtain ⟨x, hxk⟩ := get_of_lt (xs := xs) (k := k) (by rw [H.out]; exact hlt)
        obtain ⟨y, hyk⟩ := get_of_lt (xs := ys) (k := k) (by rw [H'.out]; exact hlt)
        obtain ⟨b, o, rfl, hbl, i0, i1, i2, i3⟩ := (HX.out.below hb).ins hxk
        obtain ⟨b', o', rfl, hbl', j0, j1, j2, j3⟩ := (HY.out.below hb).ins hyk
        have hlt' := nat_of_lt hlt
        have X := hide hxk; clear hxk
        have Y := hide hyk; clear hyk
        go_wp2_with fail
        refine wp_region_bw (by kernel_rfl) (by kernel_rfl) ?_
        repeat (go_big_quiet_step ((go_at_call 181; exact Calls.bw (eqInstr_any x y _))))
        refine wpQuiet_nil ?_
        intro w1 hb1
        have hb2 := hb.trans (hb1.mono hb.size)
        generalize hd : decide (x = y) = d
        cases d
        · have hq := ne_of_get X.out Y.out (of_decide_eq_false hd)
          clear hd
          go_wp2_with fail
          go_ret
          exact ⟨by simp [hq], hb2⟩
        · have T' := hide (take_eq_succ T.out X.out Y.out (of_decide_eq_true hd))
          clear hd
          go_wp2_with fail
          go_roundw
          case rel => exact ⟨k + 1, by omega, by go_num, T', hb2⟩
          case measure => simp [intOf]; omega
      · have e2 : xs = ys := take_all_eq T.out (by rw [H.out]; omega) (by rw [H'.out]; omega)
        subst e2
        go_wp2_with fail
        go_ret
        exact ⟨by simp, hb⟩
  · have hc' : ((n : Int) != n') = true := by simp; omega
    have hq : xs ≠ ys := fun h => hc (by rw [← H.out, ← H'.out, h])
    go_enter Try.func110, Try.ntmps110
    go_wp2_with fail
    go_ret
    exact ⟨by simp [hq], Below.refl _ _⟩

set_option maxHeartbeats 400000 in
theorem eqInstrSS_any (v v' : Value) (xs ys : List (List Ins)) (w : World) (hx : RepP w v xs) (hy : RepP w v' ys) :
    Calls Try.prog 37 #[v, v'] w fun e w' => e = .returned (.bool (decide (xs = ys))) ∧ Below w.heap.size w w' := by
  obtain ⟨a, c, rfl, hc1, hc2, hc3, hx⟩ := hx.open
  obtain ⟨a', c', rfl, hc1', hc2', hc3', hy⟩ := hy.open
  have HX := hide hx; clear hx
  have HY := hide hy; clear hy
  generalize hn : xs.length = n at *
  generalize hn' : ys.length = n' at *
  have H := hide hn; clear hn
  have H' := hide hn'; clear hn'
  by_cases hc : n = n'
  · subst hc
    have hc' : ((n : Int) != n) = false := by simp
    go_enter Try.func37, Try.ntmps37
    go_wp2_with fail
    go_loopw [5] (fun v wr => ∃ k : Nat, k ≤ n ∧ v = .int .i64 k ∧ Hid (xs.take k = ys.take k) ∧ Below w.heap.size w wr) (fun v _ => n - (intOf v).toNat)
    case atStart => exact ⟨0, Nat.zero_le _, rfl, hide (by simp), Below.refl _ _⟩
    case round =>
      obtain ⟨k, hk, rfl, T, hb⟩ := hrel
      by_cases hlt : k < n
      · obtain ⟨x, hxk⟩ := get_of_lt (xs := xs) (k := k) (by rw [H.out]; exact hlt)
        obtain ⟨y, hyk⟩ := get_of_lt (xs := ys) (k := k) (by rw [H'.out]; exact hlt)
        obtain ⟨b, o, ra, rc, rfl, hbl, i0, i1⟩ := (HX.out.below hb).row hxk
        obtain ⟨b', o', ra', rc', rfl, hbl', j0, j1⟩ := (HY.out.below hb).row hyk
        have hlt' := nat_of_lt hlt
        have X := hide hxk; clear hxk
        have Y := hide hyk; clear hyk
        have I1 := hide i1; clear i1
        have J1 := hide j1; clear j1
        go_wp2_with fail
        refine wp_region_bw (by kernel_rfl) (by kernel_rfl) ?_
        repeat (go_big_quiet_step ((go_at_call 110; exact Calls.bw (eqInstrS_any _ _ x y _ (I1.out.below (BW.prop _)) (J1.out.below (BW.prop _))))))
        refine wpQuiet_nil ?_
        intro w1 hb1
        have hb2 := hb.trans (hb1.mono hb.size)
        generalize hd : decide (x = y) = d
        cases d
        · have hq := ne_of_get X.out Y.out (of_decide_eq_false hd)
          clear hd
          go_wp2_with fail
          go_ret
          exact ⟨by simp [hq], hb2⟩
        · have T' := hide (take_eq_succ T.out X.out Y.out (of_decide_eq_true hd))
          clear hd
          go_wp2_with fail
          go_roundw
          case rel => exact ⟨k + 1, by omega, by go_num, T', hb2⟩
          case measure => simp [intOf]; omega
      · have e2 : xs = ys := take_all_eq T.out (by rw [H.out]; omega) (by rw [H'.out]; omega)
        subst e2
        go_wp2_with fail
        go_ret
        exact ⟨by simp, hb⟩
  · have hc' : ((n : Int) != n') = true := by simp; omega
    have hq : xs ≠ ys := fun h => hc (by rw [← H.out, ← H'.out, h])
    go_enter Try.func37, Try.ntmps37
    go_wp2_with fail
    go_ret
    exact ⟨by simp [hq], Below.refl _ _⟩

/-- The size of a thread, taken off what is left. -/
theorem szInstrS_any (a : Option Addr) (n c : Nat) (l : Int) (w : World) (hn : n ≤ 9223372036854775807) (h0 : 0 ≤ l) (h1 : l ≤ 1048576) :
    Calls Try.prog 97 #[.slice a n c, .int .i64 l] w fun e w' => e = .returned (.int .i64 (if l - n < 0 then -1 else l - n)) ∧ w = w' := by
  by_cases h : l - n < 0
  · rw [if_pos h]
    go_enter Try.func97, Try.ntmps97
    go_wp2
    go_ret
    exact ⟨rfl, rfl⟩
  · rw [if_neg h]
    go_enter Try.func97, Try.ntmps97
    go_wp2
    go_ret
    exact ⟨rfl, rfl⟩

/-- What a program's size leaves, or -1. -/
def szP : List (List Ins) → Int → Int
  | [], l => l
  | r :: p, l => if l - r.length < 0 then -1 else szP p (l - r.length)

theorem szP_le (p : List (List Ins)) (l : Int) (h : 0 ≤ szP p l) : szP p l ≤ l ∧ ∀ r ∈ p, (r.length : Int) ≤ l := by
  induction p generalizing l with
  | nil => simp [szP]
  | cons r p ih =>
    simp only [szP] at h ⊢
    split at h
    · omega
    · rename_i hl
      rw [if_neg hl]
      obtain ⟨h1, h2⟩ := ih _ h
      refine ⟨by omega, fun q hq => ?_⟩
      rcases List.mem_cons.1 hq with rfl | hq
      · omega
      · have := h2 q hq; omega

def szPP (p : List (List Ins)) (l : Int) : Int := if l - p.length < 0 then -1 else szP p (l - p.length)

set_option maxHeartbeats 400000 in
theorem szInstrSS_any (v : Value) (p : List (List Ins)) (l : Int) (w : World) (hp : RepP w v p) (h0 : 0 ≤ l) (h1 : l ≤ 1048576) :
    Calls Try.prog 31 #[v, .int .i64 l] w fun e w' => e = .returned (.int .i64 (szPP p l)) ∧ Below w.heap.size w w' := by
  obtain ⟨a, c, rfl, hc1, hc2, hc3, hp⟩ := hp.open
  have HP := hide hp; clear hp
  unfold szPP
  generalize hn : p.length = n at *
  have H := hide hn; clear hn
  by_cases h : l - n < 0
  · rw [if_pos h]
    go_enter Try.func31, Try.ntmps31
    go_wp2_with fail
    go_ret
    exact ⟨rfl, Below.refl _ _⟩
  · rw [if_neg h]
    go_enter Try.func31, Try.ntmps31
    go_wp2_with fail
    go_loopw [1, 5] (fun s i wr => ∃ (k : Nat) (q : Int), k ≤ n ∧ i = .int .i64 k ∧ s = .int .i64 q ∧ 0 ≤ q ∧ q ≤ 1048576 ∧ Hid (szP (p.drop k) q = szP p (l - n)) ∧ Below w.heap.size w wr) (fun _ i _ => n - (intOf i).toNat)
    case atStart => exact ⟨0, _, Nat.zero_le _, rfl, rfl, by omega, by omega, hide (by simp), Below.refl _ _⟩
    case round =>
      obtain ⟨k, q, hk, rfl, rfl, hq0, hq1, T, hb⟩ := hrel
      by_cases hlt : k < n
      · obtain ⟨x, hxk⟩ := get_of_lt (xs := p) (k := k) (by rw [H.out]; exact hlt)
        obtain ⟨b, o, ra, rc, rfl, hbl, i0, i1⟩ := (HP.out.below hb).row hxk
        obtain ⟨_, _, _, _, hr2, _, _⟩ := i1.open
        have hlt' := nat_of_lt hlt
        have hdrop : p.drop k = x :: p.drop (k + 1) := by
          rw [List.drop_eq_getElem_cons (by rw [H.out]; exact hlt)]
          congr 1
          have := (List.getElem?_eq_some_iff.1 hxk).2
          exact this
        have D := hide hdrop; clear hdrop hxk i1
        generalize hxl : x.length = m at *
        have XL := hide hxl; clear hxl
        have T2 : Hid ((if q - m < 0 then -1 else szP (p.drop (k + 1)) (q - m)) = szP p (l - n)) := by
          have h := T.out
          rw [D.out, szP, XL.out] at h
          exact h
        by_cases hs : q - m < 0
        · have T3 : Hid (szP p (l - n) = -1) := hide (by have h := T2.out; rw [if_pos hs] at h; exact h.symm)
          go_wp2_with (go_at_call 97; refine (szInstrS_any _ _ _ _ _ (by omega) (by omega) (by omega)).mono ?_; rw [if_pos hs]; rintro e w1 ⟨rfl, rfl⟩)
          go_ret
          rw [T3.out]
          exact ⟨rfl, hb⟩
        · have T3 : Hid (szP (p.drop (k + 1)) (q - m) = szP p (l - n)) := hide (by have h := T2.out; rwa [if_neg hs] at h)
          go_wp2_with (go_at_call 97; refine (szInstrS_any _ _ _ _ _ (by omega) (by omega) (by omega)).mono ?_; rw [if_neg hs]; rintro e w1 ⟨rfl, rfl⟩)
          go_roundw
          case rel => exact ⟨k + 1, q - m, by omega, by go_num, rfl, by omega, by omega, T3, hb⟩
          case measure => simp [intOf]; omega
      · have T3 : Hid (szP p (l - n) = q) := hide (by have h := T.out; rw [List.drop_of_length_le (by rw [H.out]; omega), szP] at h; exact h.symm)
        go_wp2_with fail
        go_ret
        rw [T3.out]
        exact ⟨rfl, hb⟩

set_option maxHeartbeats 400000 in
theorem toInstrS_any (v : Value) (xs : List Ins) (w : World) (hx : Rep InsE w v xs) (hl : xs.length ≤ 1048576) :
    Calls Try.prog 101 #[v] w (RetOwn InsE 72 w xs) := by
  obtain ⟨a, c, rfl, hc1, hc2, hc3, hx⟩ := hx.open
  have HX := hide hx; clear hx
  generalize hn : xs.length = n at *
  have H := hide hn; clear hn
  go_enter Try.func101, Try.ntmps101
  go_wp2_with (at_make; refine wpList_make InsE 72 ⟨0, 0, 0, 0⟩ Try.infoIns rfl Try.underlying73 n (by decide) (by omega) rfl _ _ rfl rfl rfl ?_; intro w1 hown hgr)
  have hb1 := below_of_grown hgr
  go_loopw [4] (fun i wr => ∃ k : Nat, k ≤ n ∧ i = .int .i64 k ∧ OwnI wr w.heap.size (.slice (some ⟨w.heap.size, 0, none⟩) n n) (xs.take k ++ List.replicate (n - k) ⟨0, 0, 0, 0⟩) ∧ Below w.heap.size w wr) (fun i _ => n - (intOf i).toNat)
  case atStart => exact ⟨0, Nat.zero_le _, rfl, by simpa using hown, hb1⟩
  case round =>
    obtain ⟨k, hk, rfl, ho, hb⟩ := hrel
    by_cases hlt : k < n
    · obtain ⟨x, hxk⟩ := get_of_lt (xs := xs) (k := k) (by rw [H.out]; exact hlt)
      obtain ⟨b, o, rfl, hbl, i0, i1, i2, i3⟩ := (HX.out.below hb).ins hxk
      have hlt' := nat_of_lt hlt
      have X := hide hxk; clear hxk
      go_wp2_with fail
      go_wp2_with (go_at_call 174; refine (toInstr_any x _).mono ?_; rintro e w2 ⟨rfl, hb2⟩; obtain ⟨hgl, f0, f1, f2, f3, hfr⟩ := (ho.below hb2).ins (k := k) (by rw [← H.out]; exact get_pad xs _ (by rw [H.out]; exact hlt)))
      have ho2 := (ho.below hb2).setIns (k := k) (by rw [← H.out]; exact get_pad xs _ (by rw [H.out]; exact hlt)) x
      rw [← H.out, set_pad xs _ X.out, H.out] at ho2
      go_roundw
      case rel => exact ⟨k + 1, by omega, by go_num, ho2, ((((hb.trans (hb2.mono hb.size)).setCell (Nat.le_refl _) _).setCell (Nat.le_refl _) _).setCell (Nat.le_refl _) _).setCell (Nat.le_refl _) _⟩
      case measure => simp [intOf]; omega
    · go_wp2_with fail
      go_ret
      rw [← H.out, pad_all xs _ (by rw [H.out]; omega), H.out] at ho
      exact ⟨_, rfl, ho, hb⟩

end Go.Proofs.Ytpnmphfdfadlcaa
