/-
  The laws' own marks on lists of lists of numbers. No condition but bounds on lengths.
-/
import Derived.Test.YtpnmphfdfadlcaaG4
namespace Go.Proofs.Ytpnmphfdfadlcaa
open Go.RowKit

/-- Rows that are numbered from m on. -/
def marksQ : List Nat → Int → List (List Int)
  | [], _ => []
  | n :: ns, m => marksN n m :: marksQ ns (m + n)
theorem marksQ_length (ns : List Nat) (m : Int) : (marksQ ns m).length = ns.length := by
  induction ns generalizing m with
  | nil => rfl
  | cons n ns ih => simp [marksQ, ih]

theorem marksQ_get (ns : List Nat) (m : Int) {k n : Nat} (h : ns[k]? = some n) : (marksQ ns m)[k]? = some (marksN n (m + sumN (ns.take k))) := by
  induction ns generalizing m k with
  | nil => simp at h
  | cons x ns ih =>
    cases k with
    | zero => simp at h; simp [marksQ, sumN, h]
    | succ k => simp only [marksQ, List.getElem?_cons_succ]; rw [ih _ (by simpa using h)]; simp only [List.take_succ_cons, sumN]; congr 2; omega

/-- The first k rows marked. -/
theorem marksQ_step (p : List (List Int)) (m : Int) {k : Nat} {r : List Int} (hr : p[k]? = some r) :
    (marksQ ((p.map List.length).take k) m ++ p.drop k).set k (marksN r.length (m + sumN ((p.map List.length).take k))) = marksQ ((p.map List.length).take (k + 1)) m ++ p.drop (k + 1) := by
  have hk := (List.getElem?_eq_some_iff.1 hr).1
  have hl : (marksQ ((p.map List.length).take k) m).length = k := by rw [marksQ_length]; simp; omega
  rw [List.set_append_right _ _ (by omega), hl, Nat.sub_self, List.drop_eq_getElem_cons hk, List.set_cons_zero]
  have hn : (p.map List.length)[k]? = some r.length := by simp [hr]
  have e : marksQ ((p.map List.length).take (k + 1)) m = marksQ ((p.map List.length).take k) m ++ [marksN r.length (m + sumN ((p.map List.length).take k))] := by
    apply List.ext_getElem?
    intro i
    by_cases hi : i < k
    · obtain ⟨q, hq⟩ := get_of_lt (xs := p.map List.length) (k := i) (by simp; omega)
      rw [List.getElem?_append_left (by omega), marksQ_get _ m (k := i) (n := q) (by rw [List.getElem?_take, if_pos (by omega)]; exact hq), marksQ_get _ m (k := i) (n := q) (by rw [List.getElem?_take, if_pos (by omega)]; exact hq), List.take_take, List.take_take, Nat.min_eq_left (by omega), Nat.min_eq_left (by omega)]
    · by_cases hi2 : i = k
      · subst hi2
        rw [List.getElem?_append_right (by omega), hl, marksQ_get _ m (k := i) (n := r.length) (by rw [List.getElem?_take, if_pos (by omega)]; exact hn), List.take_take, Nat.min_eq_left (by omega)]; simp
      · rw [List.getElem?_eq_none (by rw [marksQ_length]; simp; omega), List.getElem?_eq_none (by simp [hl]; omega)]
  rw [e]; simp

set_option maxHeartbeats 800000 in
theorem markIntSS_any (v : Value) (p : List (List Int)) (m : Int) (w0 w : World) (base : Nat) (hx : OwnNN w0 base v p) (hw : Below w0.heap.size w0 w) (hl : sumN (p.map List.length) ≤ 268435456) (hpl : p.length ≤ 1048576) (hm0 : 0 ≤ m) (hm1 : m ≤ 1073741824) :
    Calls Try.prog 142 #[v, .int .i64 m] w fun e w' => e = .returned (.int .i64 (m + sumN (p.map List.length))) ∧ OwnNN w' base v (marksQ (p.map List.length) m) ∧ Outside base w0.heap.size w w' := by
  obtain ⟨us, hU, hlt⟩ := hx.told
  have HLT := hide hlt; clear hlt
  have hU := hU.below hw
  generalize hsz : w0.heap.size = hi at *
  clear hx hsz hw
  rcases hU.2.1.shape with ⟨rfl, h0⟩ | ⟨g, c, rfl, hg1, hg2, hc1, hc2⟩
  · subst h0
    obtain rfl : p = [] := List.eq_nil_of_length_eq_zero hU.1.symm
    go_enter Try.func142, Try.ntmps142
    go_wp2_with fail
    go_loopw [1, 5] (fun q i wr => i = .int .i64 0 ∧ q = .int .i64 m ∧ wr = w) (fun _ i _ => (intOf i).toNat)
    case atStart => exact ⟨rfl, rfl, rfl⟩
    case round =>
      obtain ⟨rfl, rfl, rfl⟩ := hrel
      go_wp2_with fail
      go_ret
      exact ⟨by simp [sumN], hU.own, Outside.refl _ _ _⟩
  · have hul := hU.1
    generalize hn : us.length = n at *
    have H := hide hul; clear hul
    have hnb : n ≤ 1048576 := by have := H.out; omega
    clear hn
    go_enter Try.func142, Try.ntmps142
    go_wp2_with fail
    go_loopw [1, 5] (fun q i wr => ∃ k : Nat, k ≤ n ∧ i = .int .i64 k ∧ q = .int .i64 (m + sumN ((p.map List.length).take k)) ∧ Own2U IntE 36 3 us wr base (.slice (some ⟨g, 0, none⟩) n c) (marksQ ((p.map List.length).take k) m ++ p.drop k) ∧ Outside base hi w wr) (fun _ i _ => n - (intOf i).toNat)
    case atStart => exact ⟨0, Nat.zero_le _, rfl, by simp [sumN], by simpa [marksQ] using hU, Outside.refl _ _ _⟩
    case round =>
      obtain ⟨k, hk, rfl, rfl, ho, hb⟩ := hrel
      by_cases hlt : k < n
      · obtain ⟨x, hxk⟩ := get_of_lt (xs := p) (k := k) (by rw [← H.out]; exact hlt)
        have hlt' := nat_of_lt hlt
        have hget : (marksQ ((p.map List.length).take k) m ++ p.drop k)[k]? = some x := by
          have hl : (marksQ ((p.map List.length).take k) m).length = k := by rw [marksQ_length]; simp; have := H.out; omega
          rw [List.getElem?_append_right (by omega), hl, Nat.sub_self, List.getElem?_drop]; simpa using hxk
        obtain ⟨s, hs, hgl, f0, hrow, hback⟩ := ho.row hget
        have hsum := le_sumN (ns := p.map List.length) (k := k) (n := x.length) (by simp [hxk])
        have hst := marksQ_step p m hxk
        have hsum2 := sumN_take_succ (p.map List.length) (k := k) (n := x.length) (by simp [hxk])
        generalize hS : sumN ((p.map List.length).take k) = S at *
        have ST := hide hst; have S2 := hide hsum2; have SS := hide hS; have G := hide hget; have SK := hide hs; have X := hide hxk; have BK := hide hback; have RW := hide hrow
        clear hst hsum2 hS hget hs hxk hback hrow
        go_wp2_with (go_at_call 47; refine (markIntS_any s.v x _ _ base RW.out (by omega) (by omega) (by omega)).mono ?_; rintro e w2 ⟨rfl, hu, hgr⟩)
        have ho2 := BK.out _ _ hu hgr
        rw [ST.out] at ho2
        go_roundw
        case rel => exact ⟨k + 1, by omega, by go_num, by rw [S2.out]; go_num, ho2, hb.grown hgr (fun q hq => HLT.out k s SK.out q hq)⟩
        case measure => simp [intOf]; omega
      · have e : k = n := by omega
        subst e
        go_wp2_with fail
        go_ret
        rw [List.drop_of_length_le (by rw [← H.out]; omega), List.append_nil, List.take_of_length_le (by simp [← H.out])] at ho
        rw [List.take_of_length_le (by simp [← H.out])]
        exact ⟨rfl, ho.own, hb⟩

end Go.Proofs.Ytpnmphfdfadlcaa
