/-
  A region that draws its order, by an invariant: each operation is walked once, whatever the order. No program in sight.
-/
import Derived.Test.YtpnmphfdfadlcaaBase
import Derived.OrdersIn
namespace Go.Proofs.Ytpnmphfdfadlcaa
open Go.RowKit

/-- What the order's rule asks of operation i: it has not come, and what it waits for has. -/
structure MayCome (md : Region.Mode) (ops : Array Oper) (listed : Array Bool) (i : Nat) (o : Oper) : Prop where
  op : ops[i]? = some o
  new : listed[i]? = some false
  after : ∀ e ∈ o.after, Region.binds md e = true → listed[e.on]? = some true

theorem ready_spec {md : Region.Mode} {ops : Array Oper} {listed : Array Bool} (hs : listed.size = ops.size) {i : Nat} (h : i ∈ Region.ready md ops listed) : ∃ o, MayCome md ops listed i o := by
  unfold Region.ready at h
  rw [List.mem_filter] at h
  obtain ⟨h1, h2⟩ := h
  rw [List.mem_range] at h1
  rw [Bool.and_eq_true] at h2
  obtain ⟨h2, h3⟩ := h2
  rw [Array.getElem?_eq_getElem h1] at h3
  refine ⟨ops[i], Array.getElem?_eq_getElem h1, ?_, fun e he hb => ?_⟩
  · rw [Array.getElem?_eq_getElem (by omega)]
    have : listed.getD i true = listed[i]'(by omega) := by simp [Array.getD, show i < listed.size by omega]
    rw [this] at h2
    simpa using h2
  · simp only [Option.map_some, Option.getD_some, Array.all_eq_true'] at h3
    have h4 := h3 e he
    rw [hb] at h4
    simp only [Bool.not_true, Bool.false_or] at h4
    by_cases hl : e.on < listed.size
    · rw [Array.getElem?_eq_getElem hl]
      have : listed.getD e.on false = listed[e.on] := by simp [Array.getD, hl]
      rw [this] at h4; rw [h4]
    · have : listed.getD e.on false = false := by simp [Array.getD, hl]
      rw [this] at h4; cases h4

/-- Each operation waits for earlier ones alone. -/
def earlier (ops : Array Oper) : Bool := (List.range ops.size).all fun i => (ops[i]?.map fun o => o.after.all fun e => decide (e.on < i)).getD true

theorem ready_nil {md : Region.Mode} {ops : Array Oper} {listed : Array Bool} (hs : listed.size = ops.size) (he : earlier ops = true) (h : Region.ready md ops listed = []) : ∀ i, i < ops.size → listed[i]? = some true := by
  intro i
  induction i using Nat.strongRecOn with
  | ind i ih =>
    intro hi
    rw [Array.getElem?_eq_getElem (by omega)]
    by_cases e : listed[i]'(by omega) = true
    · rw [e]
    · exfalso
      have hm : i ∈ Region.ready md ops listed := by
        unfold Region.ready
        rw [List.mem_filter, List.mem_range]
        refine ⟨hi, ?_⟩
        rw [Bool.and_eq_true]
        refine ⟨?_, ?_⟩
        · have : listed.getD i true = listed[i]'(by omega) := by simp [Array.getD, show i < listed.size by omega]
          rw [this]; simpa using e
        · rw [Array.getElem?_eq_getElem hi]
          simp only [Option.map_some, Option.getD_some, Array.all_eq_true']
          intro x hx
          unfold earlier at he
          rw [List.all_eq_true] at he
          have h1 := he i (by simpa using hi)
          rw [Array.getElem?_eq_getElem hi] at h1
          simp only [Option.map_some, Option.getD_some, Array.all_eq_true'] at h1
          have h2 := h1 x hx
          simp only [decide_eq_true_eq] at h2
          have h3 := ih x.on h2 (by omega)
          have : listed.getD x.on false = true := by
            have hl : x.on < listed.size := by omega
            rw [Array.getElem?_eq_getElem hl] at h3
            simp only [Option.some.injEq] at h3
            simp [Array.getD, hl, h3]
          rw [this, Bool.or_true]
      rw [h] at hm; cases hm

def falses (l : Array Bool) : Nat := l.toList.countP fun b => !b

theorem falses_set {l : Array Bool} {i : Nat} (h : l[i]? = some false) : falses (l.setIfInBounds i true) + 1 = falses l := by
  unfold falses
  rw [Array.toList_setIfInBounds]
  have h' : l.toList[i]? = some false := by rw [Array.getElem?_toList]; exact h
  obtain ⟨h1, h2⟩ := List.getElem?_eq_some_iff.1 h'
  generalize l.toList = L at *
  clear h h' l
  induction L generalizing i with
  | nil => simp at h1
  | cons x L ih =>
    cases i with
    | zero => simp at h2; subst h2; simp
    | succ i =>
      simp at h1 h2
      have := ih h1 h2
      simp only [List.set_cons_succ, List.countP_cons]
      omega

theorem falses_zero {l : Array Bool} (h : falses l = 0) (i : Nat) : l[i]? ≠ some false := by
  intro e
  have := falses_set e
  omega

variable {F : Fence} {n : Nat} {P : Program} {ops : Array Oper} {Q : Exit → Act → World → Prop}

theorem wpAnyIn_inv {md : Region.Mode} (I : Array Bool → Act → World → Prop) (he : earlier ops = true)
    (hstep : ∀ (listed : Array Bool) (a : Act) (w : World), listed.size = ops.size → I listed a w → ∀ (i : Nat) (o : Oper), MayCome md ops listed i o → ∀ K : Act → World → Prop, (∀ a' w', I (listed.setIfInBounds i true) a' w' → K a' w') →
      if Region.wanted o (yielded ops a.tmps) = true then Oper.wpIn F n P o a w K Q else (∀ f, o.about P w a.eval = some f → F.fn f) ∧ K (a.put o.dst undef) w)
    (hend : ∀ (listed : Array Bool) (a : Act) (w : World), (∀ i, i < ops.size → listed[i]? = some true) → I listed a w → Q .normal a w) :
    ∀ (fuel : Nat) (listed : Array Bool) (a : Act) (w : World), listed.size = ops.size → falses listed ≤ fuel → I listed a w → wpAnyIn F n P md ops Q fuel listed a w := by
  intro fuel
  induction fuel with
  | zero =>
    intro listed a w hs hf hi
    have hr : Region.ready md ops listed = [] := by
      rcases hq : Region.ready md ops listed with _ | ⟨i, rest⟩
      · rfl
      · exfalso
        obtain ⟨o, ho⟩ := ready_spec hs (i := i) (by rw [hq]; simp)
        exact falses_zero (by omega) i ho.new
    exact ⟨hr, hend listed a w (ready_nil hs he hr) hi⟩
  | succ fuel ih =>
    intro listed a w hs hf hi
    refine ⟨fun hr => hend listed a w (ready_nil hs he hr) hi, fun i hm => ?_⟩
    obtain ⟨o, ho⟩ := ready_spec hs hm
    have hK := hstep listed a w hs hi i o ho (wpAnyIn F n P md ops Q fuel (listed.setIfInBounds i true)) (fun a' w' h => ih _ a' w' (by simp [hs]) (by have := falses_set ho.new; omega) h)
    unfold wpOpIn
    rw [ho.op]
    simp only
    exact hK

/-- A region that draws its order, by an invariant. -/
theorem wpIn_region_inv {id : Nat} {a : Act} {w : World} (hm : P.follows .mixedOrders = true) (I : Array Bool → Act → World → Prop) (he : earlier ops = true)
    (h0 : I (Array.replicate ops.size false) a w.drew)
    (hstep : ∀ (listed : Array Bool) (a : Act) (w : World), listed.size = ops.size → I listed a w → ∀ (i : Nat) (o : Oper), MayCome .any ops listed i o → ∀ K : Act → World → Prop, (∀ a' w', I (listed.setIfInBounds i true) a' w' → K a' w') →
      if Region.wanted o (yielded ops a.tmps) = true then Oper.wpIn F n P o a w K Q else (∀ f, o.about P w a.eval = some f → F.fn f) ∧ K (a.put o.dst undef) w)
    (hend : ∀ (listed : Array Bool) (a : Act) (w : World), (∀ i, i < ops.size → listed[i]? = some true) → I listed a w → Q .normal a w) :
    (Code.region id ops true).wpIn F n P Q a w :=
  wpIn_region_any hm (wpAnyIn_inv I he hstep hend ops.size _ a _ (by simp) (by unfold falses; refine Nat.le_trans List.countP_le_length ?_; simp) h0)

end Go.Proofs.Ytpnmphfdfadlcaa
