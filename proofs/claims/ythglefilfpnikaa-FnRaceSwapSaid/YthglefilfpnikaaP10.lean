/-
  Plain: stores that become swaps race less.
-/
import Derived.Test.YthglefilfpnikaaP9
import Derived.Test.YthglefilfpnikaaF11
import Derived.Test.YthglefilfpnikaaF18
import Derived.Test.YthglefilfpnikaaS2
import Derived.Test.YthglefilfpnikaaD9
namespace Go.Proofs.Ythglefilfpnikaa

theorem swapP_get {p : List (List Ins)} {reg : Int} {t : Nat} {r : List Ins} (h : p[t]? = some r) : (swapP reg p)[t]? = some (r.map (swapI reg)) := by
  unfold swapP; rw [List.getElem?_map, h]; rfl

theorem swapP_none {p : List (List Ins)} {reg : Int} {t : Nat} (h : p[t]? = none) : (swapP reg p)[t]? = none := by
  unfold swapP; rw [List.getElem?_map, h]; rfl

theorem insAll_swap (reg : Int) (p : List (List Ins)) : insAll (swapP reg p) = insAll p := by
  unfold insAll instrsTo
  have hl : (swapP reg p).length = p.length := by unfold swapP; simp
  rw [hl]
  congr 1
  funext t
  cases h : p[t]? with
  | none => rw [swapP_none h]
  | some r => rw [swapP_get h]; simp

theorem raceB_swap {p : List (List Ins)} {reg : Int} {a b : Gp} (h : raceB (swapP reg p) a b = true) : raceB p a b = true := by
  unfold raceB at h ⊢
  simp only [Bool.and_eq_true] at h ⊢
  refine ⟨h.1, ?_⟩
  have hi : ∀ g : Gp, insAt (swapP reg p) g = (insAt p g).map (swapI reg) := by
    intro g
    unfold insAt
    cases hr : p[g.t.toNat]? with
    | none => rw [swapP_none hr]; rfl
    | some r => rw [swapP_get hr]; simp
  have h2 := h.2
  rw [hi, hi] at h2
  cases hx : insAt p a with
  | none => rw [hx] at h2; simp at h2
  | some x =>
    cases hy : insAt p b with
    | none => rw [hx, hy] at h2; simp at h2
    | some y =>
      rw [hx, hy] at h2
      simp only [Option.map_some] at h2
      simp only
      unfold conflictB conflictR plainB swapI isWop at *
      by_cases e1 : x.op = 2 <;> by_cases e2 : y.op = 2 <;> simp_all

theorem racesOf_swap (p : List (List Ins)) (reg : Int) (a : Gp) (L : List Gp) : (racesOf (swapP reg p) a L).Sublist (racesOf p a L) := by
  unfold racesOf
  apply List.Sublist.map
  have e : L.filter (raceB (swapP reg p) a) = (L.filter (raceB p a)).filter (raceB (swapP reg p) a) := by
    rw [List.filter_filter]
    apply List.filter_congr
    intro b _
    cases h : raceB (swapP reg p) a b with
    | false => simp
    | true => rw [raceB_swap h]; rfl
  rw [e]
  exact List.filter_sublist

theorem races_swap {p : List (List Ins)} {reg : Int} (h : swapOk p reg = true) : (racesV (swapP reg p)).Sublist (racesV p) := by
  unfold swapOk at h
  simp only [Bool.and_eq_true] at h
  unfold racesV
  rw [if_pos h.2, if_pos h.1.1]
  unfold racesP racesTo
  rw [insAll_swap]
  generalize insAll p = L
  have hg : ∀ K : List Gp, (K.flatMap fun a => racesOf (swapP reg p) a L).Sublist (K.flatMap fun a => racesOf p a L) := by
    intro K
    induction K with
    | nil => simp
    | cons a K ih => rw [List.flatMap_cons, List.flatMap_cons]; exact (racesOf_swap p reg a L).append ih
  exact hg L

theorem swapV_ok {p : List (List Ins)} {reg : Int} (h : swapOk p reg = true) : swapV p reg = swapP reg p := by unfold swapV; rw [if_pos h]

theorem opsRow_all (o : Int) (r : List Ins) : opsRow o r r.length = (r.filter fun x => x.op == o).length := by unfold opsRow; rw [List.take_length]
theorem opsTo_all (o : Int) (p : List (List Ins)) : opsTo o p p.length = (p.map fun r => (r.filter fun x => x.op == o).length).sum := by
  unfold opsTo
  rw [List.take_length]
  congr 1
  apply List.map_congr_left
  intro r _
  exact opsRow_all o r

theorem ops_swap2 (reg : Int) (p : List (List Ins)) : opsTo 2 (swapP reg p) (swapP reg p).length = 0 := by
  rw [opsTo_all]
  unfold swapP
  rw [List.map_map, List.sum_eq_zero_iff_forall_eq_nat]
  intro n hn
  rw [List.mem_map] at hn
  obtain ⟨r, -, rfl⟩ := hn
  simp only [Function.comp, List.length_eq_zero_iff, List.filter_eq_nil_iff]
  intro x hx
  rw [List.mem_map] at hx
  obtain ⟨y, -, rfl⟩ := hx
  unfold swapI
  split
  · simp
  · rename_i h; simpa using h

theorem ops_swap5 (reg : Int) (p : List (List Ins)) : opsTo 5 (swapP reg p) (swapP reg p).length = opsTo 5 p p.length + opsTo 2 p p.length := by
  rw [opsTo_all, opsTo_all, opsTo_all]
  unfold swapP
  rw [List.map_map]
  induction p with
  | nil => rfl
  | cons r p ih =>
    simp only [List.map_cons, List.sum_cons]
    rw [ih]
    have hr : (((fun r : List Ins => (r.filter fun x => x.op == 5).length) ∘ fun r => r.map (swapI reg)) r) = (r.filter fun x => x.op == 5).length + (r.filter fun x => x.op == 2).length := by
      simp only [Function.comp]
      induction r with
      | nil => rfl
      | cons x r ih2 =>
        simp only [List.map_cons, List.filter_cons]
        unfold swapI at ih2 ⊢
        by_cases h2 : x.op = 2
        · simp only [h2, if_true]; simp at ih2 ⊢; omega
        · by_cases h5 : x.op = 5
          · simp [h5] at ih2 ⊢; omega
          · simp [h2, h5] at ih2 ⊢; omega
    rw [hr]; omega

theorem ops_none {o : Int} {p : List (List Ins)} (h : opsTo o p p.length = 0) : ∀ r ∈ p, ∀ x ∈ r, x.op ≠ o := by
  rw [opsTo_all] at h
  intro r hr x hx e
  have h1 := List.sum_eq_zero_iff_forall_eq_nat.1 h _ (List.mem_map.2 ⟨r, hr, rfl⟩)
  rw [List.length_eq_zero_iff, List.filter_eq_nil_iff] at h1
  exact h1 x hx (by simp [e])

theorem free_swap {p : List (List Ins)} {reg : Int} (h : swapOk p reg = true) (h1 : opsTo 1 p p.length = 0) (h3 : opsTo 3 p p.length = 0) : raceFreeB (swapP reg p) = true := by
  have hv := h
  unfold swapOk at hv
  simp only [Bool.and_eq_true] at hv
  unfold raceFreeB
  rw [hv.2]
  simp only [Bool.true_and, decide_eq_true_eq, List.length_eq_zero_iff]
  rw [List.eq_nil_iff_forall_not_mem]
  intro x hx
  unfold racesV racesP racesTo at hx
  rw [if_pos hv.2, List.mem_flatMap] at hx
  obtain ⟨a, ha, hx⟩ := hx
  unfold racesOf at hx
  rw [List.mem_map] at hx
  obtain ⟨b, hb, rfl⟩ := hx
  rw [List.mem_filter] at hb
  obtain ⟨hb, hr⟩ := hb
  obtain ⟨t, i, r, y, rfl, -, g1, g2⟩ := mem_instrsTo ha
  obtain ⟨u, k, s, z, rfl, -, g3, g4⟩ := mem_instrsTo hb
  rw [raceB_eq g1 g2 g3 g4] at hr
  have key : ∀ (t i : Nat) (r : List Ins) (y : Ins), (swapP reg p)[t]? = some r → r[i]? = some y → y.op = 4 ∨ y.op = 5 := by
    intro t i r y e1 e2
    unfold swapP at e1
    rw [List.getElem?_map] at e1
    cases hq : p[t]? with
    | none => rw [hq] at e1; simp at e1
    | some q =>
      rw [hq] at e1
      simp only [Option.map_some, Option.some.injEq] at e1
      subst e1
      rw [List.getElem?_map] at e2
      cases hx : q[i]? with
      | none => rw [hx] at e2; simp at e2
      | some x =>
        rw [hx] at e2
        simp only [Option.map_some, Option.some.injEq] at e2
        subst e2
        have hqm := List.mem_of_getElem? hq
        have hxm := List.mem_of_getElem? hx
        have n1 := ops_none h1 q hqm x hxm
        have n3 := ops_none h3 q hqm x hxm
        have hval := progValid_ins hv.1.1 q hqm x hxm
        unfold swapI
        split
        · right; rfl
        · rename_i h2
          unfold insValid at hval
          by_cases e4 : x.op = 4
          · exact .inl e4
          · by_cases e5 : x.op = 5
            · exact .inr e5
            · simp [n1, n3, h2, e4, e5] at hval
  simp only [Bool.and_eq_true] at hr
  have hc := hr.2.1
  have hp := hr.2.2
  unfold conflictB conflictR at hc
  unfold plainB at hp
  simp only [Bool.and_eq_true, bne_iff_ne, ne_eq] at hc
  rcases key t i r y g1 g2 with e | e
  · exact hc.1.1.1 e
  · rcases key u k s z g3 g4 with e' | e'
    · exact hc.1.1.2 e'
    · rw [e, e'] at hp; simp at hp

end Go.Proofs.Ythglefilfpnikaa
