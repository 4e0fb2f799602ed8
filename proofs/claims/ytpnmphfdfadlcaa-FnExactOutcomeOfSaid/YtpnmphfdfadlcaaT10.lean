/-
  Conditions in memory that a call made: every part in a block of its own, the parts' blocks in intervals of their own. No condition.
-/
import Derived.Test.YtpnmphfdfadlcaaT3
import Derived.Test.YtpnmphfdfadlcaaD2
namespace Go.Proofs.Ytpnmphfdfadlcaa
open Go.RowKit

/-- The parts ks of a condition lie at s, in blocks from lo to hi. -/
inductive OwnC (T : TypeId) (w : World) : Nat → Nat → Slc → List Cd → Prop
  | nil {lo hi : Nat} : OwnC T w lo hi ⟨none, 0, 0⟩ []
  | node {lo hi g n cap : Nat} {us : List Cs} {ks : List Cd} (cut : Nat → Nat) (h1 : us.length = ks.length) (h2 : Own CsE T w lo (.slice (some ⟨g, 0, none⟩) n cap) us) (h3 : g < hi)
      (h4 : lo ≤ cut 0) (h5 : ∀ i, cut i ≤ cut (i + 1)) (h6 : ∀ i, cut i ≤ g)
      (h7 : ∀ (i : Nat) (u : Cs) (k : Cd), us[i]? = some u → ks[i]? = some k → u.op = k.op ∧ u.th = k.th ∧ u.pl = k.pl ∧ u.val = k.val)
      (h8 : ∀ (i : Nat) (u : Cs) (k : Cd), us[i]? = some u → ks[i]? = some k → OwnC T w (cut i) (cut (i + 1)) u.s k.kids) :
      OwnC T w lo hi ⟨some ⟨g, 0, none⟩, n, cap⟩ ks

theorem cut_mono {cut : Nat → Nat} (h : ∀ i, cut i ≤ cut (i + 1)) : ∀ {i j : Nat}, i ≤ j → cut i ≤ cut j := by
  intro i j hij
  induction j with
  | zero => obtain rfl : i = 0 := by omega
            exact Nat.le_refl _
  | succ j ih =>
    rcases Nat.lt_or_ge i (j + 1) with h1 | h1
    · exact Nat.le_trans (ih (by omega)) (h j)
    · obtain rfl : i = j + 1 := by omega
      exact Nat.le_refl _

theorem OwnC.keep {T : TypeId} {w w' : World} {lo hi : Nat} {s : Slc} {ks : List Cd} (h : OwnC T w lo hi s ks) (hk : ∀ q, lo ≤ q → q < hi → q < w.heap.size → w'.heap[q]? = w.heap[q]?) : OwnC T w' lo hi s ks := by
  induction h with
  | nil => exact .nil
  | node cut h1 h2 h3 h4 h5 h6 h7 h8 ih =>
    rename_i lo hi g n cap us ks
    have hg := World.ownsRow.lt h2 g rfl
    refine .node cut h1 ?_ h3 h4 h5 h6 h7 (fun i u k hu hkk => ih i u k hu hkk (fun q hq1 hq2 hq3 => hk q ?_ ?_ hq3))
    · refine ⟨h2.1, ?_⟩
      rcases h2.2 with ⟨hn, _⟩ | ⟨g', cap', cur, hv, hb1, hgg, rest⟩
      · simp at hn
      · simp only [Value.slice.injEq, Option.some.injEq, Addr.mk.injEq, and_true] at hv
        obtain ⟨rfl, rfl, rfl⟩ := hv
        exact .inr ⟨g, cap, cur, rfl, hb1, (hk g hg.1 h3 hg.2).trans hgg, rest⟩
    · exact Nat.le_trans h4 (Nat.le_trans (cut_mono h5 (Nat.zero_le i)) hq1)
    · have := h6 (i + 1); omega

theorem OwnC.keepB {T : TypeId} {w w' : World} {lo hi : Nat} {s : Slc} {ks : List Cd} (h : OwnC T w lo hi s ks) (hb : Below w.heap.size w w') : OwnC T w' lo hi s ks := h.keep fun q _ _ hq => hb.block q hq
theorem OwnC.apart {T : TypeId} {w w' : World} {lo hi lo' hi' : Nat} {s : Slc} {ks : List Cd} (h : OwnC T w lo hi s ks) (ho : Outside lo' hi' w w') (hd : hi ≤ lo' ∨ hi' ≤ lo) : OwnC T w' lo hi s ks :=
  h.keep fun q h1 h2 hq => ho.block q hq (by omega)

theorem OwnC.wide {T : TypeId} {w : World} {lo hi lo' hi' : Nat} {s : Slc} {ks : List Cd} (h : OwnC T w lo hi s ks) (hl : lo' ≤ lo) (hh : hi ≤ hi') : OwnC T w lo' hi' s ks := by
  cases h with
  | nil => exact .nil
  | node cut h1 h2 h3 h4 h5 h6 h7 h8 => exact .node cut h1 (h2.mono hl) (by omega) (by omega) h5 h6 h7 h8

theorem OwnC.rep {T : TypeId} {w : World} {lo hi : Nat} {s : Slc} {ks : List Cd} (h : OwnC T w lo hi s ks) : RepK lo w s ks := by
  induction h with
  | nil => exact RepK.nil _ _
  | node cut h1 h2 h3 h4 h5 h6 h7 h8 ih =>
    rename_i lo hi g n cap us ks
    have hg := World.ownsRow.lt h2 g rfl
    have hn := h2.len
    subst hn
    refine ⟨us, h1, h2.rep, .inr fun b o e => ?_, fun i u k hu hkk => ?_⟩
    · simp only [Option.some.injEq, Addr.mk.injEq, and_true] at e; rw [← e.1]; exact hg.1
    · have hr := (ih i u k hu hkk).low (lo' := lo) (Nat.le_trans h4 (cut_mono h5 (Nat.zero_le i)))
      obtain ⟨e1, e2, e3, e4⟩ := h7 i u k hu hkk
      have e := hr.cond u.op u.th u.pl u.val
      rw [e1, e2, e3, e4, Cd.eta] at e
      rw [← e1, ← e2, ← e3, ← e4] at e
      exact e

/-- A literal of one condition. -/
theorem OwnC.one {T : TypeId} {w : World} {lo hi : Nat} {s : Slc} {ks : List Cd} (h : OwnC T w lo hi s ks) (hlo : lo ≤ hi) (hw : hi ≤ w.heap.size) (o t q x : Int) :
    OwnC T (w.alloc (.cells #[.int .i64 o, .int .i64 t, .int .i64 q, .int .i64 x, .slice s.a s.n s.cap] T)) lo (w.heap.size + 1) ⟨some ⟨w.heap.size, 0, none⟩, 1, 1⟩ [.mk o t q x ks] := by
  refine .node (us := [⟨o, t, q, x, s⟩]) (fun i => if i = 0 then lo else hi) rfl ?_ (by omega) (by simp) (fun i => by by_cases e : i = 0 <;> simp [e]; exact hlo) (fun i => by by_cases e : i = 0 <;> simp [e] <;> omega) ?_ ?_
  · refine ⟨rfl, .inr ⟨w.heap.size, 1, #[.int .i64 o, .int .i64 t, .int .i64 q, .int .i64 x, .slice s.a s.n s.cap], rfl, by omega, heap_alloc_new w _, Nat.le_refl _, by unfold maxLen; omega, rfl, rfl⟩⟩
  · intro i u k hu hk
    cases i with
    | zero => simp at hu hk; subst hu; subst hk; exact ⟨rfl, rfl, rfl, rfl⟩
    | succ i => simp at hu
  · intro i u k hu hk
    cases i with
    | zero => simp at hu hk; subst hu; subst hk; simpa [Cd.kids] using h.keepB (belowAlloc w _)
    | succ i => simp at hu

/-- A literal of two conditions. -/
theorem OwnC.two {T : TypeId} {w : World} {lo mid hi : Nat} {s s' : Slc} {ks ks' : List Cd} (h : OwnC T w lo mid s ks) (h' : OwnC T w mid hi s' ks') (hlo : lo ≤ mid) (hmid : mid ≤ hi) (hw : hi ≤ w.heap.size) (o t q x o' t' q' x' : Int) :
    OwnC T (w.alloc (.cells #[.int .i64 o, .int .i64 t, .int .i64 q, .int .i64 x, .slice s.a s.n s.cap, .int .i64 o', .int .i64 t', .int .i64 q', .int .i64 x', .slice s'.a s'.n s'.cap] T)) lo (w.heap.size + 1) ⟨some ⟨w.heap.size, 0, none⟩, 2, 2⟩ [.mk o t q x ks, .mk o' t' q' x' ks'] := by
  refine .node (us := [⟨o, t, q, x, s⟩, ⟨o', t', q', x', s'⟩]) (fun i => if i = 0 then lo else if i = 1 then mid else hi) rfl ?_ (by omega) (by simp) (fun i => ?_) (fun i => ?_) ?_ ?_
  · refine ⟨rfl, .inr ⟨w.heap.size, 2, _, rfl, by omega, heap_alloc_new w _, Nat.le_refl _, by unfold maxLen; omega, rfl, rfl⟩⟩
  · by_cases e : i = 0
    · simp [e]; exact hlo
    · by_cases e1 : i = 1
      · simp [e1]; exact hmid
      · simp [e, e1]
  · by_cases e : i = 0
    · simp [e]; omega
    · by_cases e1 : i = 1
      · simp [e1]; omega
      · simp [e, e1]; omega
  · intro i u k hu hk
    match i, hu, hk with
    | 0, hu, hk => simp at hu hk; subst hu; subst hk; exact ⟨rfl, rfl, rfl, rfl⟩
    | 1, hu, hk => simp at hu hk; subst hu; subst hk; exact ⟨rfl, rfl, rfl, rfl⟩
    | i + 2, hu, hk => simp at hu
  · intro i u k hu hk
    match i, hu, hk with
    | 0, hu, hk => simp at hu hk; subst hu; subst hk; simpa [Cd.kids] using h.keepB (belowAlloc w _)
    | 1, hu, hk => simp at hu hk; subst hu; subst hk; simpa [Cd.kids] using h'.keepB (belowAlloc w _)
    | i + 2, hu, hk => simp at hu

/-- The parts are marked from m on; m' is the next mark. -/
inductive MkL : Int → List Cd → Int → Prop
  | nil {m : Int} : MkL m [] m
  | cons {m m1 m2 : Int} {ks rest : List Cd} (h1 : MkL (m + 1 + 1 + 1 + 1) ks m1) (h2 : MkL m1 rest m2) : MkL m (.mk m (m + 1) (m + 1 + 1) (m + 1 + 1 + 1) ks :: rest) m2

theorem MkL.snoc {m m1 m2 : Int} {xs ks : List Cd} (h : MkL m xs m1) (h1 : MkL (m1 + 1 + 1 + 1 + 1) ks m2) : MkL m (xs ++ [.mk m1 (m1 + 1) (m1 + 1 + 1) (m1 + 1 + 1 + 1) ks]) m2 := by
  induction h with
  | nil => exact .cons h1 .nil
  | cons a b _ ih2 => exact .cons a (ih2 h1)

theorem descs_cons (k : Cd) (rest : List Cd) : descs (k :: rest) = descs k.kids + 1 + descs rest := by
  show ((k :: rest).map fun k => k.desc + 1).sum = _
  rw [List.map_cons, List.sum_cons, Cd.desc_eq]; rfl

theorem MkL.le {m m' : Int} {xs : List Cd} (h : MkL m xs m') : m' = m + 4 * (descs xs : Nat) := by
  induction h with
  | nil => simp [descs]
  | cons a b iha ihb =>
    rw [descs_cons]
    simp only [Cd.kids]
    omega

/-- One element of an owned slice of conditions gets its four numbers. -/
theorem Own.set4Cs {T : TypeId} {w : World} {base g n cap : Nat} {xs : List Cs} (h : Own CsE T w base (.slice (some ⟨g, 0, none⟩) n cap) xs) {k : Nat} {z : Cs} (hz : xs[k]? = some z) (a b c d : Int) :
    Own CsE T ((((w.setCell ⟨g, k * 5, none⟩ (.int .i64 a)).setCell ⟨g, k * 5 + 1, none⟩ (.int .i64 b)).setCell ⟨g, k * 5 + 2, none⟩ (.int .i64 c)).setCell ⟨g, k * 5 + 3, none⟩ (.int .i64 d)) base (.slice (some ⟨g, 0, none⟩) n cap) (xs.set k ⟨a, b, c, d, z.s⟩) := by
  have h0 := h.set (i := k) (j := 0) ⟨a, z.th, z.pl, z.val, z.s⟩ (u := .int .i64 a) (by decide) hz rfl
  have h1 := h0.set (i := k) (j := 1) ⟨a, b, z.pl, z.val, z.s⟩ (u := .int .i64 b) (by decide) (get_set_self hz _) rfl
  have h2 := h1.set (i := k) (j := 2) ⟨a, b, c, z.val, z.s⟩ (u := .int .i64 c) (by decide) (get_set_self (get_set_self hz _) _) rfl
  have h3 := h2.set (i := k) (j := 3) ⟨a, b, c, d, z.s⟩ (u := .int .i64 d) (by decide) (get_set_self (get_set_self (get_set_self hz _) _) _) rfl
  simp only [List.set_set] at h3
  exact h3

def wset4 (w : World) (g k : Nat) (q : Int) : World := (((w.setCell ⟨g, k * 5, none⟩ (.int .i64 q)).setCell ⟨g, k * 5 + 1, none⟩ (.int .i64 (q + 1))).setCell ⟨g, k * 5 + 2, none⟩ (.int .i64 (q + 1 + 1))).setCell ⟨g, k * 5 + 3, none⟩ (.int .i64 (q + 1 + 1 + 1))

theorem wset4_other (w : World) (g k : Nat) (q : Int) {b : Nat} (hb : b ≠ g) : (wset4 w g k q).heap[b]? = w.heap[b]? := by
  unfold wset4
  rw [heap_setCell_other _ ⟨g, _, none⟩ b _ (fun e => hb e), heap_setCell_other _ ⟨g, _, none⟩ b _ (fun e => hb e), heap_setCell_other _ ⟨g, _, none⟩ b _ (fun e => hb e), heap_setCell_other _ ⟨g, _, none⟩ b _ (fun e => hb e)]

theorem wset4_out (w : World) (g k : Nat) (q : Int) {lo hi : Nat} (h1 : lo ≤ g) (h2 : g < hi) : Outside lo hi w (wset4 w g k q) :=
  ⟨rfl, rfl, rfl, by simp [wset4], fun b _ hb => wset4_other w g k q (by omega)⟩

theorem Outside.weak {lo hi lo' hi' : Nat} {w w' : World} (h : Outside lo hi w w') (h1 : lo' ≤ lo) (h2 : hi ≤ hi') : Outside lo' hi' w w' :=
  ⟨h.os, h.tape, h.output, h.size, fun k hk hlh => h.block k hk (by omega)⟩

/-- How far the marking of a slice of conditions has come. -/
structure MkSt (T : TypeId) (w0 wr : World) (lo hi g n cap : Nat) (cut : Nat → Nat) (ks : List Cd) (m : Int) (i : Nat) (q : Int) (us : List Cs) (xs : List Cd) : Prop where
  ul : us.length = n
  xl : xs.length = n
  own : Own CsE T wr lo (.slice (some ⟨g, 0, none⟩) n cap) us
  fld : ∀ (j : Nat) (u : Cs) (k : Cd), us[j]? = some u → xs[j]? = some k → u.op = k.op ∧ u.th = k.th ∧ u.pl = k.pl ∧ u.val = k.val
  kid : ∀ (j : Nat) (u : Cs) (k : Cd), us[j]? = some u → xs[j]? = some k → OwnC T wr (cut j) (cut (j + 1)) u.s k.kids
  mkd : MkL m (xs.take i) q
  ds : descs (xs.take i) = descs (ks.take i)
  dr : xs.drop i = ks.drop i
  out : Outside lo hi w0 wr

theorem MkSt.step {T : TypeId} {w0 wr w2 : World} {lo hi g n cap : Nat} {cut : Nat → Nat} {ks : List Cd} {m : Int} {i : Nat} {q q2 : Int} {us : List Cs} {xs : List Cd} (h : MkSt T w0 wr lo hi g n cap cut ks m i q us xs)
    (c3 : g < hi) (c4 : lo ≤ cut 0) (c5 : ∀ i, cut i ≤ cut (i + 1)) (c6 : ∀ i, cut i ≤ g) {x : Cd} (hx : ks[i]? = some x) {u : Cs} (hu : us[i]? = some u) {ks2 : List Cd}
    (hmk : MkL (q + 1 + 1 + 1 + 1) ks2 q2) (hds : descs ks2 = descs x.kids) (hown : OwnC T w2 (cut i) (cut (i + 1)) u.s ks2) (hout : Outside (cut i) (cut (i + 1)) (wset4 wr g i q) w2) :
    MkSt T w0 w2 lo hi g n cap cut ks m (i + 1) q2 (us.set i ⟨q, q + 1, q + 1 + 1, q + 1 + 1 + 1, u.s⟩) (xs.set i (.mk q (q + 1) (q + 1 + 1) (q + 1 + 1 + 1) ks2)) := by
  have hiu : i < us.length := (List.getElem?_eq_some_iff.1 hu).1
  have hix : i < xs.length := by rw [h.xl, ← h.ul]; exact hiu
  have hlo : lo ≤ g := (World.ownsRow.lt h.own g rfl).1
  have hci := c6 (i + 1)
  have hl0 : lo ≤ cut i := Nat.le_trans c4 (cut_mono c5 (Nat.zero_le i))
  have ho4 := h.own.set4Cs hu q (q + 1) (q + 1 + 1) (q + 1 + 1 + 1)
  have hw4 : Outside lo hi wr (wset4 wr g i q) := wset4_out wr g i q hlo c3
  have split : ∀ {β : Type} (L : List β) (c : β) (j : Nat) (v : β), (L.set i c)[j]? = some v → (j = i ∧ v = c) ∨ (j ≠ i ∧ L[j]? = some v) := by
    intro β L c j v hv
    rw [List.getElem?_set] at hv
    by_cases e : i = j
    · subst e
      rw [if_pos rfl] at hv
      split at hv
      · simp at hv; exact .inl ⟨rfl, hv.symm⟩
      · simp at hv
    · rw [if_neg e] at hv; exact .inr ⟨fun h => e h.symm, hv⟩
  refine ⟨by rw [List.length_set]; exact h.ul, by rw [List.length_set]; exact h.xl, ?_, ?_, ?_, ?_, ?_, ?_, ?_⟩
  · exact hout.own ho4 (fun b hb => by simp [Value.ownBlock] at hb; omega)
  · intro j v k hv hk
    rcases split us _ j v hv with ⟨e1, e2⟩ | ⟨e1, e2⟩
    · rcases split xs _ j k hk with ⟨e3, e4⟩ | ⟨e3, e4⟩
      · rw [e2, e4]; exact ⟨rfl, rfl, rfl, rfl⟩
      · exact absurd e1 e3
    · rcases split xs _ j k hk with ⟨e3, e4⟩ | ⟨e3, e4⟩
      · exact absurd e3 e1
      · exact h.fld j v k e2 e4
  · intro j v k hv hk
    rcases split us _ j v hv with ⟨e1, e2⟩ | ⟨e1, e2⟩
    · rcases split xs _ j k hk with ⟨e3, e4⟩ | ⟨e3, e4⟩
      · rw [e1, e2, e4]; exact hown
      · exact absurd e1 e3
    · rcases split xs _ j k hk with ⟨e3, e4⟩ | ⟨e3, e4⟩
      · exact absurd e3 e1
      · have hj := c6 (j + 1)
        refine ((h.kid j v k e2 e4).keep (fun b _ hb2 _ => wset4_other wr g i q (by omega))).apart hout ?_
        rcases Nat.lt_or_ge j i with hji | hji
        · exact .inl (cut_mono c5 (by omega))
        · exact .inr (cut_mono c5 (by omega))
  · rw [List.take_add_one, List.getElem?_set, if_pos rfl, if_pos hix, List.take_set_of_le (Nat.le_refl _)]
    exact h.mkd.snoc hmk
  · have e : (xs.set i (.mk q (q + 1) (q + 1 + 1) (q + 1 + 1 + 1) ks2))[i]? = some (.mk q (q + 1) (q + 1 + 1) (q + 1 + 1 + 1) ks2) := by rw [List.getElem?_set, if_pos rfl, if_pos hix]
    rw [descs_take_succ e, descs_take_succ hx, List.take_set_of_le (Nat.le_refl _), h.ds, ← hds]
    rfl
  · rw [List.drop_set_of_lt (Nat.lt_succ_self _)]
    have := congrArg (List.drop 1) h.dr
    simpa [List.drop_drop] using this
  · exact h.out.trans (hw4.trans (hout.weak hl0 (by omega)))

end Go.Proofs.Ytpnmphfdfadlcaa
