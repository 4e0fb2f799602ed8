/-
  FnGapsOf: for every input the law returns true and the input reads afterwards as it read before. No condition.
-/
import Derived.Test.YtpnmphfdfadlcaaP25
import Derived.Test.YtpnmphfdfadlcaaF13
import Derived.Test.YtpnmphfdfadlcaaS2
import Derived.Test.YtpnmphfdfadlcaaF9
import Derived.Test.YtpnmphfdfadlcaaD20
import Derived.Test.YtpnmphfdfadlcaaF22
import Derived.Test.YtpnmphfdfadlcaaArgB
namespace Go.Proofs.Ytpnmphfdfadlcaa
open Go.RowKit

theorem drop_putTo (f : Int → Bool) (r : List Ins) : ∀ n, n ≤ r.length → dropI (putTo f r n) = dropI (r.take n) := by
  intro n
  induction n with
  | zero => intro _; rfl
  | succ n ih =>
    intro h
    obtain ⟨x, hx⟩ := get_of_lt (xs := r) (k := n) h
    have := ih (by omega)
    rw [putTo_succ hx, List.take_add_one, hx]
    unfold dropI at *
    rw [List.filter_append, List.filter_append, this]
    congr 1
    by_cases e : f n = true
    · simp [e, isFence, fenceI]
    · simp [e]

theorem dropP_put (f : Gp → Bool) (p : List (List Ins)) : dropP (putP f p) = dropP p := by
  apply List.ext_getElem?
  intro k
  unfold dropP
  rw [List.getElem?_map, List.getElem?_map]
  by_cases h : k < p.length
  · obtain ⟨r, hr⟩ := get_of_lt (xs := p) (k := k) h
    rw [putP_get hr, hr]
    simp only [Option.map_some]
    unfold putI
    rw [drop_putTo _ _ _ (Nat.le_refl _), List.take_length]
  · rw [List.getElem?_eq_none (by rw [putP_length]; omega), List.getElem?_eq_none (by omega)]

def cntR (f : Int → Bool) (n : Nat) : Nat := ((List.range n).filter fun i => f (i : Nat)).length
theorem cntR_succ (f : Int → Bool) (n : Nat) : cntR f (n + 1) = cntR f n + if f n = true then 1 else 0 := by
  unfold cntR
  rw [List.range_succ, List.filter_append, List.length_append]
  by_cases e : f n = true <;> simp [e]

def nF (r : List Ins) : Nat := (r.filter fun x => x.op == 4).length
theorem nF_put (f : Int → Bool) (r : List Ins) : ∀ n, n ≤ r.length → nF (putTo f r n) = nF (r.take n) + cntR f n := by
  intro n
  induction n with
  | zero => intro _; rfl
  | succ n ih =>
    intro h
    obtain ⟨x, hx⟩ := get_of_lt (xs := r) (k := n) h
    have := ih (by omega)
    rw [putTo_succ hx, List.take_add_one, hx, cntR_succ]
    unfold nF at *
    rw [List.filter_append, List.filter_append, List.length_append, List.length_append, this]
    by_cases e : f n = true
    · by_cases e2 : x.op = 4 <;> simp [e, e2, fenceI] <;> omega
    · by_cases e2 : x.op = 4 <;> simp [e, e2] <;> omega

theorem opsRow_nF (r : List Ins) : opsRow 4 r r.length = nF r := by unfold opsRow nF; rw [List.take_length]

/-- How many places of the first j rows f tells. -/
def hitsTo (f : Gp → Bool) (p : List (List Ins)) : Nat → Nat
  | 0 => 0
  | j + 1 => hitsTo f p j + cntR (fun i => f ⟨j, i⟩) (p.getD j []).length

theorem ops_put (f : Gp → Bool) (p : List (List Ins)) : ∀ j, j ≤ p.length → opsTo 4 (putP f p) j = opsTo 4 p j + hitsTo f p j := by
  intro j
  induction j with
  | zero => intro _; rfl
  | succ j ih =>
    intro h
    obtain ⟨r, hr⟩ := get_of_lt (xs := p) (k := j) h
    rw [opsTo_succ (putP_get hr), opsTo_succ hr, ih (by omega), opsRow_nF, opsRow_nF]
    have h1 : nF (putI (fun i => f ⟨j, i⟩) r) = nF r + cntR (fun i => f ⟨j, i⟩) r.length := by
      unfold putI
      rw [nF_put _ _ _ (Nat.le_refl _), List.take_length]
    rw [h1]
    show _ = _ + (hitsTo f p j + cntR (fun i => f ⟨j, i⟩) (p.getD j []).length)
    rw [List.getD_eq_getElem?_getD, hr]
    simp only [Option.getD_some]
    omega

theorem cntR_or (f g : Int → Bool) : ∀ n, cntR (fun i => f i || g i) n ≤ cntR f n + cntR g n := by
  intro n
  induction n with
  | zero => exact Nat.le_refl _
  | succ n ih =>
    rw [cntR_succ, cntR_succ, cntR_succ]
    by_cases e : f n = true <;> by_cases e2 : g n = true <;> simp [e, e2] <;> omega

theorem cntR_none {f : Int → Bool} : ∀ n, (∀ i : Nat, i < n → f i = false) → cntR f n = 0 := by
  intro n
  induction n with
  | zero => intro _; rfl
  | succ n ih =>
    intro h
    rw [cntR_succ, ih (fun i hi => h i (by omega)), h n (by omega)]; rfl

theorem cntR_one {f : Int → Bool} {c : Int} (h : ∀ i, f i = true → i = c) : ∀ n, cntR f n ≤ 1 := by
  intro n
  induction n with
  | zero => exact Nat.zero_le _
  | succ n ih =>
    rw [cntR_succ]
    by_cases e : f n = true
    · have hc := h n e
      rw [cntR_none n (fun i hi => by
        by_cases e2 : f i = true
        · have := h i e2; omega
        · simpa using e2), if_pos e]
      omega
    · rw [if_neg e]; exact ih

theorem hits_or (f g : Gp → Bool) (p : List (List Ins)) : ∀ j, hitsTo (fun x => f x || g x) p j ≤ hitsTo f p j + hitsTo g p j := by
  intro j
  induction j with
  | zero => exact Nat.le_refl _
  | succ j ih =>
    have := cntR_or (fun i => f ⟨j, i⟩) (fun i => g ⟨j, i⟩) (p.getD j []).length
    simp only [hitsTo]
    omega

theorem hits_one (g : Gp) (p : List (List Ins)) : ∀ j, hitsTo (fun x => decide (x = g)) p j ≤ if g.t < j then 1 else 0 := by
  intro j
  induction j with
  | zero => exact Nat.zero_le _
  | succ j ih =>
    simp only [hitsTo]
    by_cases e : g.t = (j : Int)
    · have h1 := cntR_one (f := fun i => decide ((⟨(j : Int), i⟩ : Gp) = g)) (c := g.i) (fun i hi => by simp at hi; rw [← hi]) (p.getD j []).length
      rw [if_neg (by omega)] at ih
      rw [if_pos (by omega)]
      omega
    · have h1 : cntR (fun i => decide ((⟨(j : Int), i⟩ : Gp) = g)) (p.getD j []).length = 0 := cntR_none _ (fun i _ => by
        rw [decide_eq_false]
        intro h
        rw [← h] at e
        exact e rfl)
      rw [h1]
      by_cases e2 : g.t < (j : Int)
      · rw [if_pos e2] at ih; rw [if_pos (by omega)]; omega
      · rw [if_neg e2] at ih; rw [if_neg (by omega)]; omega

theorem hits_le (p : List (List Ins)) (j : Nat) : ∀ L : List Gp, hitsTo (inL L) p j ≤ L.length := by
  intro L
  induction L with
  | nil =>
    have : ∀ j, hitsTo (inL []) p j = 0 := by
      intro j
      induction j with
      | zero => rfl
      | succ j ih => simp only [hitsTo]; rw [ih, cntR_none _ (fun i _ => rfl)]
    rw [this]; exact Nat.zero_le _
  | cons g L ih =>
    have e : inL (g :: L) = fun x => decide (x = g) || inL L x := by
      funext x
      unfold inL
      rw [Bool.eq_iff_iff]
      simp
    rw [e]
    have h1 := hits_or (fun x => decide (x = g)) (inL L) p j
    have h2 := hits_one g p j
    have h3 : hitsTo (fun x => decide (x = g)) p j ≤ 1 := Nat.le_trans h2 (by split <;> omega)
    rw [List.length_cons]
    omega

/-- What FnPutFences tells of a program with fences. -/
structure PutTold (P Q : List (List Ins)) (L : List Gp) : Prop where
  valid : progValid P = true ∧ progValid Q = true
  drop : dropV Q = dropV P
  ops : opsV 4 Q ≤ opsV 4 P + L.length

theorem put_told {P : List (List Ins)} {L : List Gp} (h : putOk P L = true) : PutTold P (putV P L) L := by
  have e : putV P L = putP (inL L) P := by unfold putV; rw [if_pos h]
  unfold putOk at h
  simp only [Bool.and_eq_true] at h
  rw [e]
  refine ⟨⟨h.1.1, h.2⟩, ?_, ?_⟩
  · unfold dropV; rw [if_pos h.2, if_pos h.1.1, dropP_put]
  · unfold opsV
    rw [if_pos h.2, if_pos h.1.1, putP_length, ops_put _ _ _ (Nat.le_refl _)]
    have := hits_le P P.length L
    omega

end Go.Proofs.Ytpnmphfdfadlcaa

namespace Go.Proofs.Ytpnmphfdfadlcaa
open Go.RowKit

theorem cntI_put {q : Ins → Bool} (hq : q fenceI = false) (f : Int → Bool) (r : List Ins) : ∀ n, n ≤ r.length → (putTo f r n).countP q = (r.take n).countP q := by
  intro n
  induction n with
  | zero => intro _; rfl
  | succ n ih =>
    intro h
    obtain ⟨x, hx⟩ := get_of_lt (xs := r) (k := n) h
    rw [putTo_succ hx, List.take_add_one, hx, List.countP_append, List.countP_append, ih (by omega)]
    congr 1
    by_cases e : f n = true
    · simp [e, List.countP_cons, hq]
    · simp [e]

theorem cnt_put {q : Ins → Bool} (hq : q fenceI = false) (f : Gp → Bool) (p : List (List Ins)) : cnt q (putP f p) = cnt q p := by
  have key : ∀ j, j ≤ p.length → cnt q ((putP f p).take j) = cnt q (p.take j) := by
    intro j
    induction j with
    | zero => intro _; simp
    | succ j ih =>
      intro h
      obtain ⟨r, hr⟩ := get_of_lt (xs := p) (k := j) h
      rw [cnt_take_succ _ (putP_get hr), cnt_take_succ _ hr, ih (by omega)]
      congr 1
      unfold putI
      rw [cntI_put hq _ _ _ (Nat.le_refl _), List.take_length]
  have := key p.length (Nat.le_refl _)
  rwa [List.take_length, ← putP_length f p, List.take_length] at this

theorem all_put {q : Ins → Bool} (hq : q fenceI = true) (f : Int → Bool) (r : List Ins) : ∀ n, n ≤ r.length → (putTo f r n).all q = (r.take n).all q := by
  intro n
  induction n with
  | zero => intro _; rfl
  | succ n ih =>
    intro h
    obtain ⟨x, hx⟩ := get_of_lt (xs := r) (k := n) h
    rw [putTo_succ hx, List.take_add_one, hx, List.all_append, List.all_append, ih (by omega)]
    congr 1
    by_cases e : f n = true
    · simp [e, hq]
    · simp [e]

theorem prod_put (f : Gp → Bool) (p : List (List Ins)) : prodP (putP f p) = prodP p := by
  have hpl : ∀ l : Nat, pl (putP f p) l = pl p l := by
    intro l
    unfold pl
    rw [cnt_put (q := fW l) (by simp [fW, isWop, fenceI]), cnt_put (q := fR l) (by simp [fR, isRop, fenceI])]
  unfold prodP
  simp only [prodTo, hpl]

theorem putTo_len_one (c : Int) (r : List Ins) : ∀ n, n ≤ r.length → (putTo (fun i => decide (i = c)) r n).length = n + if 0 ≤ c ∧ c < n then 1 else 0 := by
  intro n
  induction n with
  | zero => intro _; rw [if_neg (by omega)]; rfl
  | succ n ih =>
    intro h
    obtain ⟨x, hx⟩ := get_of_lt (xs := r) (k := n) h
    rw [putTo_succ hx, List.length_append, ih (by omega)]
    by_cases e : (n : Int) = c
    · simp only [e, decide_true, if_true]
      rw [if_neg (by omega), if_pos (by omega)]
      simp
    · simp only [e, decide_false, Bool.false_eq_true, if_false]
      by_cases e2 : 0 ≤ c ∧ c < n
      · rw [if_pos e2, if_pos (by omega)]; simp
      · rw [if_neg e2, if_neg (by omega)]; simp

theorem row_get_of_all {p : List (List Ins)} {f : List Ins → Bool} : p.all f = true ↔ ∀ (k : Nat) (r : List Ins), p[k]? = some r → f r = true := by
  rw [List.all_eq_true]
  constructor
  · intro h k r hr; exact h r (List.mem_of_getElem? hr)
  · intro h r hr
    obtain ⟨k, hk⟩ := List.mem_iff_getElem?.1 hr
    exact h k r hk

theorem insValid_fence : insValid fenceI = true := by decide

/-- A gap takes a fence unless its thread is full. -/
theorem one_valid {p : List (List Ins)} (hv : progValid p = true) {t i : Nat} {r : List Ins} (hr : p[t]? = some r) (hi : i < r.length) :
    progValid (putP (inL [⟨t, i⟩]) p) = decide (r.length < 7) := by
  obtain ⟨h1, h2, h3, h4, h5⟩ := valid_le hv
  have hrow : ∀ (k : Nat) (r' : List Ins), p[k]? = some r' → rowOk (putI (fun j => inL [⟨(t : Int), (i : Int)⟩] ⟨k, j⟩) r') = if k = t then decide (r.length < 7) else true := by
    intro k r' hr'
    have hm := h3 r' (List.mem_of_getElem? hr')
    have hall : r'.all insValid = true := List.all_eq_true.2 hm.2
    unfold rowOk putI
    rw [all_put insValid_fence _ _ _ (Nat.le_refl _), List.take_length, hall, Bool.true_and]
    by_cases e : k = t
    · subst e
      rw [hr] at hr'; simp at hr'; subst hr'
      rw [if_pos rfl]
      have e2 : (fun j => inL [⟨(k : Int), (i : Int)⟩] ⟨(k : Int), j⟩) = fun j => decide (j = (i : Int)) := by
        funext j; unfold inL; simp
      rw [e2, putTo_len_one _ _ _ (Nat.le_refl _), if_pos (by omega)]
      rw [Bool.eq_iff_iff]; simp; omega
    · rw [if_neg e]
      rw [putTo_none _ (Nat.le_refl _) (fun j _ => by unfold inL; simp; omega), List.take_length]
      simp; omega
  unfold progValid shapeOk
  rw [putP_length, cnt_put (q := notFence) (by rfl), prod_put]
  rw [decide_eq_true h1, decide_eq_true h4, decide_eq_true h2, decide_eq_true h5]
  simp only [Bool.true_and, Bool.and_true]
  by_cases hd : r.length < 7
  · rw [decide_eq_true hd, row_get_of_all]
    intro k r' hk
    have hkl : k < p.length := by have := (List.getElem?_eq_some_iff.1 hk).1; rwa [putP_length] at this
    obtain ⟨r0, hr0⟩ := get_of_lt (xs := p) (k := k) hkl
    rw [putP_get hr0] at hk
    simp only [Option.some.injEq] at hk
    rw [← hk, hrow k r0 hr0, decide_eq_true hd]
    split <;> rfl
  · rw [decide_eq_false hd, all_no (putP_get hr) (by rw [hrow t r hr, if_pos rfl, decide_eq_false hd])]

/-- What FnGapsOf tells of a gap. -/
theorem gap_told {p : List (List Ins)} {g : Gp} (h : g ∈ gapsV p) : ∃ (t i : Nat) (r : List Ins) (x y : Ins), g = ⟨t, (i + 1 : Nat)⟩ ∧ p[t]? = some r ∧ r[i]? = some x ∧ r[i + 1]? = some y ∧ x.op ≠ 4 ∧ y.op ≠ 4 ∧ putOk p [g] = decide (r.length < 7) := by
  unfold gapsV at h
  split at h
  · rename_i hv
    obtain ⟨t, i, r, rfl, hr, h1, h2, h3⟩ := gapsP_mem h
    obtain ⟨i, rfl⟩ : ∃ j, i = j + 1 := ⟨i - 1, by omega⟩
    obtain ⟨x, hx⟩ := get_of_lt (xs := r) (k := i) (by omega)
    obtain ⟨y, hy⟩ := get_of_lt (xs := r) (k := i + 1) h2
    unfold gapAt at h3
    rw [show i + 1 - 1 = i by omega, hx, hy] at h3
    simp at h3
    refine ⟨t, i, r, x, y, rfl, hr, hx, hy, h3.1, h3.2, ?_⟩
    unfold putOk
    rw [hv, one_valid hv hr h2]
    have hs : subG [(⟨(t : Int), ((i + 1 : Nat) : Int)⟩ : Gp)] (gapsP p) = true := by
      unfold subG; simpa using h
    rw [hs]; rfl
  · simp at h

end Go.Proofs.Ytpnmphfdfadlcaa

namespace Go.Proofs.Ytpnmphfdfadlcaa
open Go.RowKit

set_option maxHeartbeats 800000 in
theorem wmGaps_any (v v' : Value) (xs : List Gp) (w : World) (hx : Rep GapE w v xs) (hy : Rep GapE w v' xs) :
    Calls Try.prog 56 #[v, v'] w fun e w' => e = .returned (.bool true) ∧ Below w.heap.size w w' := by
  obtain ⟨a, c, rfl, hc1, hc2, hc3, hx⟩ := hx.open
  obtain ⟨a', c', rfl, hc1', hc2', hc3', hy⟩ := hy.open
  have HX := hide hx; clear hx
  have HY := hide hy; clear hy
  generalize hn : xs.length = n at *
  have H := hide hn; clear hn
  have hnn : ((n : Int) != n) = false := by simp
  go_enter Try.func56, Try.ntmps56
  go_wp2_with fail
  go_loopw [5] (fun v wr => ∃ k : Nat, k ≤ n ∧ v = .int .i64 k ∧ Below w.heap.size w wr) (fun v _ => n - (intOf v).toNat)
  case atStart => exact ⟨0, Nat.zero_le _, rfl, Below.refl _ _⟩
  case round =>
    obtain ⟨k, hk, rfl, hb⟩ := hrel
    by_cases hlt : k < n
    · obtain ⟨x, hxk⟩ := get_of_lt (xs := xs) (k := k) (by rw [H.out]; exact hlt)
      obtain ⟨b, o, rfl, hbl, i0, i1⟩ := (HX.out.below hb).gap hxk
      obtain ⟨b', o', rfl, hbl', j0, j1⟩ := (HY.out.below hb).gap hxk
      have hlt' := nat_of_lt hlt
      clear hxk
      go_wp2_with fail
      refine wp_region_bw (by kernel_rfl) (by kernel_rfl) ?_
      repeat (go_big_quiet_step (fail))
      refine wpQuiet_nil ?_
      intro w1 hb1
      go_wp2_with fail
      go_roundw
      case rel => exact ⟨k + 1, by omega, by go_num, hb.trans (hb1.mono hb.size)⟩
      case measure => simp [intOf]; omega
    · have hkg : decide (k < n) = false := decide_eq_false hlt
      go_wp2_with fail
      go_ret
      exact ⟨rfl, hb⟩

theorem Rep.sub1 {w : World} {b o n c : Nat} {xs : List Gp} (h : Rep GapE w (.slice (some ⟨b, o, none⟩) n c) xs) {k : Nat} {x : Gp} (hx : xs[k]? = some x) : Rep GapE w (.slice (some ⟨b, o + k * 2, none⟩) 1 (c - k)) [x] := by
  obtain ⟨a', c', hv, h1, h2, h3⟩ := h
  simp only [Value.slice.injEq] at hv
  obtain ⟨rfl, rfl, rfl⟩ := hv
  have hk := (List.getElem?_eq_some_iff.1 hx).1
  refine ⟨_, c - k, rfl, by simp; omega, by omega, fun i y hy => ?_⟩
  obtain ⟨b', o', hb, hi⟩ := h3 k x hx
  simp only [Option.some.injEq, Addr.mk.injEq, and_true] at hb
  obtain ⟨rfl, rfl⟩ := hb
  refine ⟨b, o + k * 2, rfl, fun j u hu => ?_⟩
  cases i with
  | zero =>
    simp at hy; subst hy
    have := hi j u hu
    simpa [GapE] using this
  | succ i => simp at hy

set_option maxRecDepth 100000 in
set_option maxHeartbeats 6400000 in
theorem lawFnGapsOf (v : Value) (xs : List Int) (w : World) (h : Rep ByteE w v xs ∧ ∀ x ∈ xs, 0 ≤ x ∧ x ≤ 255) :
    Calls Try.prog 8 #[v] w fun e w' => e = .returned (.bool true) ∧ Below w.heap.size w w' := by
  obtain ⟨hx, hb⟩ := h
  obtain ⟨a0, c0, rfl, -, hm, -, hx⟩ := hx.open
  have HD := hide (DrawGapsOf_any (.slice a0 xs.length c0) xs w hx hb)
  clear hx hb
  generalize xs.length = n at *
  by_cases hl : (n : Int) > 1048576
  · go_enter Try.func8, Try.ntmps8
    go_wp2_with fail
    go_ret
    exact ⟨rfl, Below.refl _ _⟩
  · have hl' : decide ((n : Int) > 1048576) = false := decide_eq_false hl
    go_enter Try.func8, Try.ntmps8
    go_wp2_with fail
    (with_reducible refine HD.out.mono ?_); rintro e w1 ⟨v1, P, rfl, hP, hPl, hPr, hb1⟩
    have hfl := flatten_bound9 hPl hPr
    obtain ⟨pa, pc, rfl, hpc1, hpc2, hpc3, hP⟩ := hP.open
    have HP := hide hP; have HB1 := hide hb1
    have HI := hide (GapsOf_any _ P w1 hP (by omega))
    have HS := hide (fun w' h => sGapsOf_any (.slice pa P.length pc) P w' h (by omega) (by omega))
    have HPF := hide (fun k g w' h h2 => PutFences_any (.slice pa P.length pc) k P [g] w' h h2 (by omega))
    have HT := hide (fun g h => gap_told (p := P) (g := g) h)
    have HPR := hide hPr
    clear hP hb1 HD hPr hfl
    generalize gapsV P = gs at *
    generalize hpn : P.length = pn at *
    have HPN := hide hpn
    clear hpn
    go_wp2_with fail
    (with_reducible refine HI.out.mono ?_); rintro e w2 ⟨vl, rfl, o2, hb2⟩
    obtain ⟨la, ln, lc, rfl, hln⟩ := o2.toSl
    have O2 : Hid (Rep GapE w2 (.slice la ln lc) gs) := hide o2.rep
    have HB2 := hide (HB1.out.trans (hb2.mono HB1.out.size)); have HP2 := hide (HP.out.below hb2)
    have HLN : Hid (ln = gs.length) := hide hln
    clear o2 hb2 HI HP HB1 hln
    go_wp2_with fail
    (with_reducible refine (HS.out _ HP2.out).mono ?_); rintro e w3 ⟨vs, rfl, o3, hb3⟩
    have R3 := hide o3.rep; have HB3 := hide (HB2.out.trans (hb3.mono HB2.out.size)); have HP3 := hide (HP2.out.below hb3); have O3 := hide (O2.out.below hb3)
    clear o3 hb3 HS HP2 HB2 O2
    go_wp2_with fail
    (with_reducible refine (wmGaps_any _ vs gs _ O3.out R3.out).mono ?_); rintro e w4 ⟨rfl, hb4⟩
    have HB4 := hide (HB3.out.trans (hb4.mono HB3.out.size)); have HP4 := hide (HP3.out.below hb4); have O4 := hide (O3.out.below hb4)
    clear hb4 HB3 HP3 R3 O3
    go_wp2_with fail
    go_loopw [5] (fun i wr => ∃ k : Nat, k ≤ ln ∧ i = .int .i64 k ∧ Below w4.heap.size w4 wr) (fun i _ => ln - (intOf i).toNat)
    case atStart => exact ⟨0, Nat.zero_le _, rfl, Below.refl _ _⟩
    case round =>
      obtain ⟨k, hk, rfl, hb⟩ := hrel
      by_cases hlt : k < ln
      · obtain ⟨g, hgk⟩ := get_of_lt (xs := gs) (k := k) (by have := HLN.out; omega)
        obtain ⟨t, i, r, x, y, rfl, hr, hxi, hyi, hx4, hy4, hok⟩ := HT.out g (List.mem_of_getElem? hgk)
        have hbA := (Below.refl wr.heap.size wr).alloc (Nat.le_refl _) (.cells #[.int .i64 (t : Int), .int .i64 ((i : Int) + 1)] 70)
        have hcast : (((i + 1 : Nat) : Int)) = (i : Int) + 1 := by omega
        rw [hcast] at hgk hok
        have hg := (O4.out.below hb)
        obtain ⟨b, o, hla, hbl, i0, i1⟩ := hg.gap hgk
        subst hla
        have hlt' := nat_of_lt hlt
        have hlc : ln ≤ lc := by
          obtain ⟨_, _, hv, h1, _⟩ := O4.out
          simp only [Value.slice.injEq] at hv
          obtain ⟨-, h2, h3⟩ := hv
          omega
        have hlm : lc ≤ maxLen := by
          obtain ⟨_, _, hv, _, h1, _⟩ := O4.out
          simp only [Value.slice.injEq] at hv
          obtain ⟨-, -, h3⟩ := hv
          omega
        have HSUB := hide ((hg.sub1 hgk).below hbA)
        have HPA := hide ((HP4.out.below hb).below hbA)
        have HCALL := HPF.out (.slice (some ⟨b, o + k * 2, none⟩) 1 (lc - k)) ⟨t, (i : Int) + 1⟩ _ HPA.out HSUB.out
        rw [hok] at HCALL
        have HCALL := hide HCALL
        have HB5 := hide (HB4.out.trans (hb.mono HB4.out.size))
        have hlc63 : lc ≤ 9223372036854775807 := by unfold maxLen at hlm; omega
        have hck : ¬ (lc = k) := by omega
        have HRK := hide hr; have HXI := hide hxi; have HYI := hide hyi
        have hil := (List.getElem?_eq_some_iff.1 hyi).1
        have hr9 := HPR.out r (List.mem_of_getElem? hr)
        have htl : (t : Int) < pn := by have := (List.getElem?_eq_some_iff.1 hr).1; have := HPN.out; omega
        have hx4' : (x.op == 4) = false := by simp [hx4]
        have hy4' : (y.op == 4) = false := by simp [hy4]
        have hi1' : decide ((i : Int) + 1 < 1) = false := decide_eq_false (by omega)
        have hw1 : IntKind.i64.wrap ((i : Int) + 1 - 1) = (i : Int) := by rw [show (i : Int) + 1 - 1 = (i : Int) by omega, IntKind.wrap_i64]; omega
        clear hgk hg hr hxi hyi hok hcast HSUB hx4 hy4
        by_cases hr7 : r.length < 7
        · rw [decide_eq_true hr7] at HCALL
          have h7i : decide ((r.length : Int) < 7) = true := decide_eq_true (by omega)
          have h7j : (r.length : Int) < 7 := by omega
          go_wp2_with fail
          (with_reducible refine HCALL.out.mono ?_); rintro e w6 ⟨vq, rfl, -, hb6⟩
          have m0 : w6.cell? ⟨wr.heap.size, 0, none⟩ = some (.int .i64 (t : Int)) := (hb6.cell (p := ⟨wr.heap.size, 0, none⟩) (by simp)).trans (by simp [go_sem])
          have m1 : w6.cell? ⟨wr.heap.size, 1, none⟩ = some (.int .i64 ((i : Int) + 1)) := (hb6.cell (p := ⟨wr.heap.size, 1, none⟩) (by simp)).trans (by simp [go_sem])
          have m2 := lt_of_cell m0
          obtain ⟨pb, po, ra, rc, hpa, hbl6, r0, r1⟩ := (HPA.out.below hb6).row HRK.out
          subst hpa
          obtain ⟨qb, qo, hra, hql, x0, x1, x2, x3⟩ := r1.ins HXI.out
          obtain ⟨qb', qo', hra', hql', y0, y1, y2, y3⟩ := r1.ins HYI.out
          subst hra
          simp only [Option.some.injEq, Addr.mk.injEq, and_true] at hra'
          obtain ⟨rfl, rfl⟩ := hra'
          have hb16 := (hb.trans (hbA.mono hb.size)).trans (hb6.mono (Nat.le_trans hb.size hbA.size))
          have B16 := hide hb16
          have hri : (i : Int) < r.length := by omega
          have hri1 : (i : Int) + 1 < r.length := by omega
          have hti : ((i : Int) + 1).toNat = i + 1 := by omega
          clear r1 hb6 HCALL hb16 hbA HPA
          generalize hrl : r.length = rl at *
          go_wp2_with fail
          refine wp_region_bw (by kernel_rfl) (by kernel_rfl) ?_
          repeat (go_big_quiet_step (fail))
          refine wpQuiet_nil ?_
          intro w7 hb7
          go_wp2_with fail
          go_roundw
          case rel => exact ⟨k + 1, by omega, by go_num, B16.out.trans (hb7.mono B16.out.size)⟩
          case measure => simp [intOf]; omega
        · rw [decide_eq_false hr7] at HCALL
          have h7i : decide ((r.length : Int) < 7) = false := decide_eq_false (by omega)
          have h7j : ¬ (r.length : Int) < 7 := by omega
          have h7k : (7 : Int) ≤ (r.length : Int) := by omega
          go_wp2_with fail
          (with_reducible refine HCALL.out.mono ?_); rintro e w6 ⟨vq, rfl, -, hb6⟩
          have m0 : w6.cell? ⟨wr.heap.size, 0, none⟩ = some (.int .i64 (t : Int)) := (hb6.cell (p := ⟨wr.heap.size, 0, none⟩) (by simp)).trans (by simp [go_sem])
          have m1 : w6.cell? ⟨wr.heap.size, 1, none⟩ = some (.int .i64 ((i : Int) + 1)) := (hb6.cell (p := ⟨wr.heap.size, 1, none⟩) (by simp)).trans (by simp [go_sem])
          have m2 := lt_of_cell m0
          obtain ⟨pb, po, ra, rc, hpa, hbl6, r0, r1⟩ := (HPA.out.below hb6).row HRK.out
          subst hpa
          obtain ⟨qb, qo, hra, hql, x0, x1, x2, x3⟩ := r1.ins HXI.out
          obtain ⟨qb', qo', hra', hql', y0, y1, y2, y3⟩ := r1.ins HYI.out
          subst hra
          simp only [Option.some.injEq, Addr.mk.injEq, and_true] at hra'
          obtain ⟨rfl, rfl⟩ := hra'
          have hb16 := (hb.trans (hbA.mono hb.size)).trans (hb6.mono (Nat.le_trans hb.size hbA.size))
          have B16 := hide hb16
          have hri : (i : Int) < r.length := by omega
          have hri1 : (i : Int) + 1 < r.length := by omega
          have hti : ((i : Int) + 1).toNat = i + 1 := by omega
          clear r1 hb6 HCALL hb16 hbA HPA
          generalize hrl : r.length = rl at *
          go_wp2_with fail
          refine wp_region_bw (by kernel_rfl) (by kernel_rfl) ?_
          repeat (go_big_quiet_step (fail))
          refine wpQuiet_nil ?_
          intro w7 hb7
          go_wp2_with fail
          go_roundw
          case rel => exact ⟨k + 1, by omega, by go_num, B16.out.trans (hb7.mono B16.out.size)⟩
          case measure => simp [intOf]; omega
      · have hkg : decide (k < ln) = false := decide_eq_false hlt
        go_wp2_with fail
        go_ret
        exact ⟨rfl, HB4.out.trans (hb.mono HB4.out.size)⟩

end Go.Proofs.Ytpnmphfdfadlcaa

namespace Go.Proofs.Ytpnmphfdfadlcaa
open Go.RowKit Go.ChangeShapes Go.WideShapes Go.ChangeAt
open Go.ChangeMaps (open_string)

theorem fnGapsOf_reads : ∀ t ∈ Try.f8.params.toList, Try.prog.readableRec t = true ∧ t < Try.prog.types.size := by
  intro t ht
  have : t = 22 := by simpa [Try.params8] using ht
  subst this
  exact ⟨by kernel_rfl, of_decide_eq_true (by kernel_rfl)⟩

set_option maxRecDepth 100000 in
theorem fnGapsOf_lifted (os : Os) (started : os.Started) (H : Type) (enc : TypeId × Value → H) :
    ReturnsInHanded {} Try.checked os 8 .any (Rows.fnGapsOfSpec.pre6 enc Try.prog Try.f8 Rows.fnGapsOfRow.domain false) (Rows.fnGapsOfSpec.post enc Try.prog Try.f8 false true false false) := by
  refine returnsInHanded_of_change (C := Try.checked) Try.own started (by kernel_rfl) Try.func8
    (ChangeSpec.witness6 (enc := enc) (C := Try.checked) false ⟨#[], #[.slice none 0 0], []⟩ 8 (by kernel_rfl) (by kernel_rfl) (by kernel_rfl) (by kernel_rfl)) ?_
  intro W base args ds gs before hval0 hW hcnd _
  have hval : ∀ (j : Nat) t v, Try.f8.params[j]? = some t → args[j]? = some v → Value.okWide Try.prog W .any base t v := hval0
  have hW' := hW
  obtain ⟨p, q, hA0, hV, rfl, hfz, hnd⟩ := hW
  have hA : DataW.TrodAll enc Try.prog W 0 (fun _ => true) true Try.f8.params.toList args.toList ds p := hA0
  rw [Try.params8] at hA hval
  obtain ⟨v0, d0, rfl, rfl, h0⟩ := trodAll_one hA
  obtain ⟨rfl, rfl⟩ := trodVars_none hV
  obtain ⟨B0, hB0⟩ := bytes_of_trod (okWide_slice Try.underlying22 (hval 0 22 v0 rfl rfl)) h0
  refine (lawFnGapsOf v0 B0 W hB0).mono fun e W' ⟨he, hb⟩ => ?_
  exact ⟨_, he, post_law Try.laidOut fnGapsOf_reads rfl rfl (by kernel_rfl) Try.underlying4 hW' hb⟩

theorem fnGapsOf_holds : Rows.FnGapsOfSaid :=
  OpenClaim.holds_of_wide 8 Try.f8 rfl rfl rfl rfl rfl rfl rfl ⟨rfl, rfl, rfl, rfl, rfl⟩ rfl rfl rfl rfl rfl (by kernel_rfl) Try.func8 (by kernel_rfl)
    (of_decide_eq_true (by kernel_rfl)) (by unfold Func.isWrapper; first | (rw [if_pos (by decide +kernel)]; kernel_rfl) | (rw [if_neg (by decide +kernel)]; exact ⟨rfl, rfl⟩))
    (fun os started H enc _ => fnGapsOf_lifted os started H enc)

end Go.Proofs.Ytpnmphfdfadlcaa
