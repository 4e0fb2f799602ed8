/-
  FnPutFences: for every input the law returns true and the input reads afterwards as it read before. No condition.
-/
import Derived.Test.YtpnmphfdfadlcaaP25
import Derived.Test.YtpnmphfdfadlcaaF13
import Derived.Test.YtpnmphfdfadlcaaS2
import Derived.Test.YtpnmphfdfadlcaaD19
import Derived.Test.YtpnmphfdfadlcaaF22
import Derived.Test.YtpnmphfdfadlcaaF23
import Derived.Test.YtpnmphfdfadlcaaS1
import Derived.Test.YtpnmphfdfadlcaaArgB
namespace Go.Proofs.Ytpnmphfdfadlcaa
open Go.RowKit

theorem drop_putTo (f : Int → Bool) (r : List Ins) : ∀ n, n ≤ r.length → dropI (putTo f r n) = dropI (r.take n) := by
  intro n
  induction n with
  | zero => intro _; rfl
  | succ n ih =>
    intro h
    obtain ⟨x, hx⟩ := get_of_lt (xs := r) (k := n) h
    have := ih (by omega)
    rw [putTo_succ hx, List.take_add_one, hx]
    unfold dropI at *
    rw [List.filter_append, List.filter_append, this]
    congr 1
    by_cases e : f n = true
    · simp [e, isFence, fenceI]
    · simp [e]

theorem dropP_put (f : Gp → Bool) (p : List (List Ins)) : dropP (putP f p) = dropP p := by
  apply List.ext_getElem?
  intro k
  unfold dropP
  rw [List.getElem?_map, List.getElem?_map]
  by_cases h : k < p.length
  · obtain ⟨r, hr⟩ := get_of_lt (xs := p) (k := k) h
    rw [putP_get hr, hr]
    simp only [Option.map_some]
    unfold putI
    rw [drop_putTo _ _ _ (Nat.le_refl _), List.take_length]
  · rw [List.getElem?_eq_none (by rw [putP_length]; omega), List.getElem?_eq_none (by omega)]

def cntR (f : Int → Bool) (n : Nat) : Nat := ((List.range n).filter fun i => f (i : Nat)).length
theorem cntR_succ (f : Int → Bool) (n : Nat) : cntR f (n + 1) = cntR f n + if f n = true then 1 else 0 := by
  unfold cntR
  rw [List.range_succ, List.filter_append, List.length_append]
  by_cases e : f n = true <;> simp [e]

def nF (r : List Ins) : Nat := (r.filter fun x => x.op == 4).length
theorem nF_put (f : Int → Bool) (r : List Ins) : ∀ n, n ≤ r.length → nF (putTo f r n) = nF (r.take n) + cntR f n := by
  intro n
  induction n with
  | zero => intro _; rfl
  | succ n ih =>
    intro h
    obtain ⟨x, hx⟩ := get_of_lt (xs := r) (k := n) h
    have := ih (by omega)
    rw [putTo_succ hx, List.take_add_one, hx, cntR_succ]
    unfold nF at *
    rw [List.filter_append, List.filter_append, List.length_append, List.length_append, this]
    by_cases e : f n = true
    · by_cases e2 : x.op = 4 <;> simp [e, e2, fenceI] <;> omega
    · by_cases e2 : x.op = 4 <;> simp [e, e2] <;> omega

theorem opsRow_nF (r : List Ins) : opsRow 4 r r.length = nF r := by unfold opsRow nF; rw [List.take_length]

/-- How many places of the first j rows f tells. -/
def hitsTo (f : Gp → Bool) (p : List (List Ins)) : Nat → Nat
  | 0 => 0
  | j + 1 => hitsTo f p j + cntR (fun i => f ⟨j, i⟩) (p.getD j []).length

theorem ops_put (f : Gp → Bool) (p : List (List Ins)) : ∀ j, j ≤ p.length → opsTo 4 (putP f p) j = opsTo 4 p j + hitsTo f p j := by
  intro j
  induction j with
  | zero => intro _; rfl
  | succ j ih =>
    intro h
    obtain ⟨r, hr⟩ := get_of_lt (xs := p) (k := j) h
    rw [opsTo_succ (putP_get hr), opsTo_succ hr, ih (by omega), opsRow_nF, opsRow_nF]
    have h1 : nF (putI (fun i => f ⟨j, i⟩) r) = nF r + cntR (fun i => f ⟨j, i⟩) r.length := by
      unfold putI
      rw [nF_put _ _ _ (Nat.le_refl _), List.take_length]
    rw [h1]
    show _ = _ + (hitsTo f p j + cntR (fun i => f ⟨j, i⟩) (p.getD j []).length)
    rw [List.getD_eq_getElem?_getD, hr]
    simp only [Option.getD_some]
    omega

theorem cntR_or (f g : Int → Bool) : ∀ n, cntR (fun i => f i || g i) n ≤ cntR f n + cntR g n := by
  intro n
  induction n with
  | zero => exact Nat.le_refl _
  | succ n ih =>
    rw [cntR_succ, cntR_succ, cntR_succ]
    by_cases e : f n = true <;> by_cases e2 : g n = true <;> simp [e, e2] <;> omega

theorem cntR_none {f : Int → Bool} : ∀ n, (∀ i : Nat, i < n → f i = false) → cntR f n = 0 := by
  intro n
  induction n with
  | zero => intro _; rfl
  | succ n ih =>
    intro h
    rw [cntR_succ, ih (fun i hi => h i (by omega)), h n (by omega)]; rfl

theorem cntR_one {f : Int → Bool} {c : Int} (h : ∀ i, f i = true → i = c) : ∀ n, cntR f n ≤ 1 := by
  intro n
  induction n with
  | zero => exact Nat.zero_le _
  | succ n ih =>
    rw [cntR_succ]
    by_cases e : f n = true
    · have hc := h n e
      rw [cntR_none n (fun i hi => by
        by_cases e2 : f i = true
        · have := h i e2; omega
        · simpa using e2), if_pos e]
      omega
    · rw [if_neg e]; exact ih

theorem hits_or (f g : Gp → Bool) (p : List (List Ins)) : ∀ j, hitsTo (fun x => f x || g x) p j ≤ hitsTo f p j + hitsTo g p j := by
  intro j
  induction j with
  | zero => exact Nat.le_refl _
  | succ j ih =>
    have := cntR_or (fun i => f ⟨j, i⟩) (fun i => g ⟨j, i⟩) (p.getD j []).length
    simp only [hitsTo]
    omega

theorem hits_one (g : Gp) (p : List (List Ins)) : ∀ j, hitsTo (fun x => decide (x = g)) p j ≤ if g.t < j then 1 else 0 := by
  intro j
  induction j with
  | zero => exact Nat.zero_le _
  | succ j ih =>
    simp only [hitsTo]
    by_cases e : g.t = (j : Int)
    · have h1 := cntR_one (f := fun i => decide ((⟨(j : Int), i⟩ : Gp) = g)) (c := g.i) (fun i hi => by simp at hi; rw [← hi]) (p.getD j []).length
      rw [if_neg (by omega)] at ih
      rw [if_pos (by omega)]
      omega
    · have h1 : cntR (fun i => decide ((⟨(j : Int), i⟩ : Gp) = g)) (p.getD j []).length = 0 := cntR_none _ (fun i _ => by
        rw [decide_eq_false]
        intro h
        rw [← h] at e
        exact e rfl)
      rw [h1]
      by_cases e2 : g.t < (j : Int)
      · rw [if_pos e2] at ih; rw [if_pos (by omega)]; omega
      · rw [if_neg e2] at ih; rw [if_neg (by omega)]; omega

theorem hits_le (p : List (List Ins)) (j : Nat) : ∀ L : List Gp, hitsTo (inL L) p j ≤ L.length := by
  intro L
  induction L with
  | nil =>
    have : ∀ j, hitsTo (inL []) p j = 0 := by
      intro j
      induction j with
      | zero => rfl
      | succ j ih => simp only [hitsTo]; rw [ih, cntR_none _ (fun i _ => rfl)]
    rw [this]; exact Nat.zero_le _
  | cons g L ih =>
    have e : inL (g :: L) = fun x => decide (x = g) || inL L x := by
      funext x
      unfold inL
      rw [Bool.eq_iff_iff]
      simp
    rw [e]
    have h1 := hits_or (fun x => decide (x = g)) (inL L) p j
    have h2 := hits_one g p j
    have h3 : hitsTo (fun x => decide (x = g)) p j ≤ 1 := Nat.le_trans h2 (by split <;> omega)
    rw [List.length_cons]
    omega

/-- What FnPutFences tells of a program with fences. -/
structure PutTold (P Q : List (List Ins)) (L : List Gp) : Prop where
  valid : progValid P = true ∧ progValid Q = true
  drop : dropV Q = dropV P
  ops : opsV 4 Q ≤ opsV 4 P + L.length

theorem put_told {P : List (List Ins)} {L : List Gp} (h : putOk P L = true) : PutTold P (putV P L) L := by
  have e : putV P L = putP (inL L) P := by unfold putV; rw [if_pos h]
  unfold putOk at h
  simp only [Bool.and_eq_true] at h
  rw [e]
  refine ⟨⟨h.1.1, h.2⟩, ?_, ?_⟩
  · unfold dropV; rw [if_pos h.2, if_pos h.1.1, dropP_put]
  · unfold opsV
    rw [if_pos h.2, if_pos h.1.1, putP_length, ops_put _ _ _ (Nat.le_refl _)]
    have := hits_le P P.length L
    omega

end Go.Proofs.Ytpnmphfdfadlcaa

namespace Go.Proofs.Ytpnmphfdfadlcaa
open Go.RowKit

theorem opsV_le {P : List (List Ins)} (h : P.flatten.length ≤ 45) (o : Int) : opsV o P ≤ 45 := by
  unfold opsV
  split
  · exact Nat.le_trans (opsTo_le o P _) h
  · omega

theorem putV_flat (P : List (List Ins)) (L : List Gp) : (putV P L).flatten.length ≤ 42 := by
  unfold putV
  split
  · rename_i h
    unfold putOk at h
    simp only [Bool.and_eq_true] at h
    obtain ⟨hv1, -, hv3, -⟩ := valid_le h.1.1
    exact putP_flat hv1 (fun r hr => (hv3 r hr).1)
  · simp

set_option maxRecDepth 100000 in
set_option maxHeartbeats 3200000 in
theorem lawFnPutFences (v : Value) (xs : List Int) (w : World) (h : Rep ByteE w v xs ∧ ∀ x ∈ xs, 0 ≤ x ∧ x ≤ 255) :
    Calls Try.prog 7 #[v] w fun e w' => e = .returned (.bool true) ∧ Below w.heap.size w w' := by
  obtain ⟨hx, hb⟩ := h
  obtain ⟨a0, c0, rfl, -, hm, -, hx⟩ := hx.open
  have HD := hide (DrawPutFences_any (.slice a0 xs.length c0) xs w hx hb)
  clear hx hb
  generalize xs.length = n at *
  by_cases hl : (n : Int) > 1048576
  · go_enter Try.func7, Try.ntmps7
    go_wp2_with fail
    go_ret
    exact ⟨rfl, Below.refl _ _⟩
  · have hl' : decide ((n : Int) > 1048576) = false := decide_eq_false hl
    go_enter Try.func7, Try.ntmps7
    go_wp2_with fail
    (with_reducible refine HD.out.mono ?_); rintro e w1 ⟨v1, P, l1, L, rfl, hP, hPl, hPr, hL, hLl, hb1⟩
    have hfl := flatten_bound9 hPl hPr
    have hfq := putV_flat P L
    obtain ⟨la, lc, rfl, -, -, -, hL⟩ := hL.open
    have HP := hide hP; have HL := hide hL; have HB1 := hide hb1
    have HI := hide (PutFences_any v1 _ P L w1 hP hL (by omega))
    have HS := hide (fun w' h h2 => sPutFences_any v1 (.slice la L.length lc) P L w' h h2 (by omega) (by omega))
    have HT := hide (fun h => put_told (P := P) (L := L) h)
    have HC := hide (fun w' h => CountOps_any v1 P 4 w' h (by omega))
    have HCQ := hide (fun q w' h => CountOps_any q (putV P L) 4 w' h (by omega))
    have HDP := hide (fun w' h => DropFences_any v1 P w' h (by omega))
    have HDQ := hide (fun q w' h => DropFences_any q (putV P L) w' h (by omega))
    have HBP := opsV_le hfl 4
    have HBQ := opsV_le (P := putV P L) (by omega) 4
    clear hP hb1 HD hPr hfl hfq hL
    generalize putV P L = Q at *
    generalize putOk P L = B at *
    generalize hm : L.length = m at *
    have HM := hide hm
    clear hm
    go_wp2_with fail
    (with_reducible refine HI.out.mono ?_); rintro e w2 ⟨q, rfl, o2, hb2⟩
    have O2 := hide o2; have HB2 := hide (HB1.out.trans (hb2.mono HB1.out.size)); have HP2 := hide (HP.out.below hb2); have HL2 := hide (HL.out.below hb2)
    clear o2 hb2 HI HP HB1 HL
    go_wp2_with fail
    (with_reducible refine (HS.out _ HP2.out HL2.out).mono ?_); rintro e w3 ⟨q', rfl, o3, hb3⟩
    have R3 := hide o3.rep; have HB3 := hide (HB2.out.trans (hb3.mono HB2.out.size)); have HP3 := hide (HP2.out.below hb3); have R2 := hide (O2.out.below hb3).rep
    clear o3 hb3 HS HP2 HB2 O2 HL2
    have hBB : (B != B) = false := by simp
    go_wp2_with fail
    (with_reducible refine (ProgramSame_any q q' Q Q _ R2.out R3.out).mono ?_); rintro e w4 ⟨rfl, hb4⟩
    rw [decide_eq_true (rfl : Q = Q)]
    have HB4 := hide (HB3.out.trans (hb4.mono HB3.out.size)); have HP4 := hide (HP3.out.below hb4); have R4 := hide (R2.out.below hb4); have R4' := hide (R3.out.below hb4)
    clear hb4 HB3 HP3 R2 R3
    cases B
    · clear HT
      go_wp2_with fail
      (with_reducible refine (ProgramSame_any q q' Q Q _ R4.out R4'.out).mono ?_); rintro e w5 ⟨rfl, hb5⟩
      rw [decide_eq_true (rfl : Q = Q)]
      go_wp2_with fail
      go_ret
      exact ⟨rfl, HB4.out.trans (hb5.mono HB4.out.size)⟩
    · obtain ⟨⟨hvP, hvQ⟩, hdr, hop⟩ := HT.out rfl
      rw [hvP] at HDP
      rw [hvQ, hdr] at HDQ
      rw [HM.out] at hop
      clear HT hBB hvP hvQ hdr HM
      generalize dropV P = D at *
      generalize opsV 4 P = n4 at *
      generalize opsV 4 Q = q4 at *
      go_wp2_with fail
      (with_reducible refine (HDP.out _ HP4.out).mono ?_); rintro e w5 ⟨va, rfl, o5, hb5⟩
      have HB5 := hide (HB4.out.trans (hb5.mono HB4.out.size)); have HP5 := hide (HP4.out.below hb5); have R5 := hide (R4.out.below hb5); have A5 := hide o5.rep
      clear hb5 HB4 HP4 R4 R4' o5
      go_wp2_with fail
      (with_reducible refine (HDQ.out q _ R5.out).mono ?_); rintro e w6 ⟨vb, rfl, o6, hb6⟩
      have HB6 := hide (HB5.out.trans (hb6.mono HB5.out.size)); have HP6 := hide (HP5.out.below hb6); have R6 := hide (R5.out.below hb6); have A6 := hide (A5.out.below hb6); have B6 := hide o6.rep
      clear hb6 HB5 HP5 R5 A5 o6
      go_wp2_with fail
      (with_reducible refine (ProgramSame_any va vb D D _ A6.out B6.out).mono ?_); rintro e w7 ⟨rfl, hb7⟩
      rw [decide_eq_true (rfl : D = D)]
      have HB7 := hide (HB6.out.trans (hb7.mono HB6.out.size)); have HP7 := hide (HP6.out.below hb7); have R7 := hide (R6.out.below hb7)
      clear hb7 HB6 HP6 R6 A6 B6
      go_wp2_with fail
      (with_reducible refine (HCQ.out q _ R7.out).mono ?_); rintro e w8 ⟨rfl, hb8⟩
      have HB8 := hide (HB7.out.trans (hb8.mono HB7.out.size)); have HP8 := hide (HP7.out.below hb8)
      clear hb8 HB7 HP7 R7
      go_wp2_with fail
      (with_reducible refine (HC.out _ HP8.out).mono ?_); rintro e w9 ⟨rfl, hb9⟩
      have hle : decide ((q4 : Int) ≤ (n4 : Int) + (m : Int)) = true := decide_eq_true (by omega)
      have hle2 : (q4 : Int) ≤ (n4 : Int) + (m : Int) := by omega
      go_wp2_with fail
      all_goals (try go_ret)
      all_goals first | exact ⟨rfl, HB8.out.trans (hb9.mono HB8.out.size)⟩ | exact ⟨by simp; omega, HB8.out.trans (hb9.mono HB8.out.size)⟩

end Go.Proofs.Ytpnmphfdfadlcaa

namespace Go.Proofs.Ytpnmphfdfadlcaa
open Go.RowKit Go.ChangeShapes Go.WideShapes Go.ChangeAt
open Go.ChangeMaps (open_string)

theorem fnPutFences_reads : ∀ t ∈ Try.f7.params.toList, Try.prog.readableRec t = true ∧ t < Try.prog.types.size := by
  intro t ht
  have : t = 22 := by simpa [Try.params7] using ht
  subst this
  exact ⟨by kernel_rfl, of_decide_eq_true (by kernel_rfl)⟩

set_option maxRecDepth 100000 in
theorem fnPutFences_lifted (os : Os) (started : os.Started) (H : Type) (enc : TypeId × Value → H) :
    ReturnsInHanded {} Try.checked os 7 .any (Rows.fnPutFencesSpec.pre6 enc Try.prog Try.f7 Rows.fnPutFencesRow.domain false) (Rows.fnPutFencesSpec.post enc Try.prog Try.f7 false true false false) := by
  refine returnsInHanded_of_change (C := Try.checked) Try.own started (by kernel_rfl) Try.func7
    (ChangeSpec.witness6 (enc := enc) (C := Try.checked) false ⟨#[], #[.slice none 0 0], []⟩ 8 (by kernel_rfl) (by kernel_rfl) (by kernel_rfl) (by kernel_rfl)) ?_
  intro W base args ds gs before hval0 hW hcnd _
  have hval : ∀ (j : Nat) t v, Try.f7.params[j]? = some t → args[j]? = some v → Value.okWide Try.prog W .any base t v := hval0
  have hW' := hW
  obtain ⟨p, q, hA0, hV, rfl, hfz, hnd⟩ := hW
  have hA : DataW.TrodAll enc Try.prog W 0 (fun _ => true) true Try.f7.params.toList args.toList ds p := hA0
  rw [Try.params7] at hA hval
  obtain ⟨v0, d0, rfl, rfl, h0⟩ := trodAll_one hA
  obtain ⟨rfl, rfl⟩ := trodVars_none hV
  obtain ⟨B0, hB0⟩ := bytes_of_trod (okWide_slice Try.underlying22 (hval 0 22 v0 rfl rfl)) h0
  refine (lawFnPutFences v0 B0 W hB0).mono fun e W' ⟨he, hb⟩ => ?_
  exact ⟨_, he, post_law Try.laidOut fnPutFences_reads rfl rfl (by kernel_rfl) Try.underlying4 hW' hb⟩

theorem fnPutFences_holds : Rows.FnPutFencesSaid :=
  OpenClaim.holds_of_wide 7 Try.f7 rfl rfl rfl rfl rfl rfl rfl ⟨rfl, rfl, rfl, rfl, rfl⟩ rfl rfl rfl rfl rfl (by kernel_rfl) Try.func7 (by kernel_rfl)
    (of_decide_eq_true (by kernel_rfl)) (by unfold Func.isWrapper; first | (rw [if_pos (by decide +kernel)]; kernel_rfl) | (rw [if_neg (by decide +kernel)]; exact ⟨rfl, rfl⟩))
    (fun os started H enc _ => fnPutFences_lifted os started H enc)

end Go.Proofs.Ytpnmphfdfadlcaa
