/-
  The program's parser of conditions. No condition but a bound on sizes.
-/
import Derived.Test.YtpnmphfdfadlcaaP15
import Derived.Test.YtpnmphfdfadlcaaX1
import Derived.Deep.DeepCutAuto
namespace Go.Proofs.Ytpnmphfdfadlcaa
open Go.RowKit

theorem outside_of_row {pb : Nat} {w w' : World} (h : w.grownBy w' (some pb)) : Outside pb (pb + 1) w w' := ⟨h.os, h.tape, h.output, h.size, fun k hk hlh => h.block k hk (by simp; omega)⟩
theorem PS.setNew {w : World} {pb : Nat} {l : List UInt8} {f : Bool} (h : PS w pb l f) {g : Nat} (hg : g ≠ pb) (j : Nat) (v : Value) : PS (w.setCell ⟨g, j, none⟩ v) pb l f := by
  obtain ⟨hlt, c0, c1, hf⟩ := h
  have e := heap_setCell_other w ⟨g, j, none⟩ pb v (fun e => hg e.symm)
  exact ⟨by simpa using hlt, (cell_of_block e 0).trans c0, (cell_of_block e 1).trans c1, fun i => by
    have h1 := hf i
    unfold World.frozen? at *
    rw [e]; exact h1⟩
theorem PS.allocNew {w : World} {pb : Nat} {l : List UInt8} {f : Bool} (h : PS w pb l f) (o : Obj) : PS (w.alloc o) pb l f := h.below (belowAlloc w o)
theorem OwnC.setOut {T : TypeId} {w : World} {lo hi : Nat} {s : Slc} {ks : List Cd} (h : OwnC T w lo hi s ks) {g : Nat} (hg : g < lo) (j : Nat) (v : Value) : OwnC T (w.setCell ⟨g, j, none⟩ v) lo hi s ks :=
  h.keep fun q h1 _ _ => heap_setCell_other w ⟨g, j, none⟩ q v (fun e => by have e2 : q = g := e; omega)
theorem OwnC.setHi {T : TypeId} {w : World} {lo hi : Nat} {s : Slc} {ks : List Cd} (h : OwnC T w lo hi s ks) {g : Nat} (hg : hi ≤ g) (j : Nat) (v : Value) : OwnC T (w.setCell ⟨g, j, none⟩ v) lo hi s ks :=
  h.keep fun q _ h2 _ => heap_setCell_other w ⟨g, j, none⟩ q v (fun e => by have e2 : q = g := e; omega)
theorem u8_ne {c k : UInt8} (h : c ≠ k) : ((c.toNat : Int) == (k.toNat : Int)) = false := by
  rw [beq_eq_false_iff_ne]
  intro e
  exact h (UInt8.toNat_inj.1 (by omega))

/-- What the parser hands back. -/
def RetPC (w : World) (pb : Nat) (r : Cd × List UInt8 × Bool) (e : Ending) (w' : World) : Prop :=
  ∃ s : Slc, e = .returned (.agg #[.int .i64 r.1.op, .int .i64 r.1.th, .int .i64 r.1.pl, .int .i64 r.1.val, .slice s.a s.n s.cap]) ∧ OwnC 25 w' w.heap.size w'.heap.size s r.1.kids ∧ PS w' pb r.2.1 r.2.2 ∧ Outside pb (pb + 1) w w'
def CondAt (n : Nat) : Prop := ∀ (pb : Nat) (l : List UInt8) (f : Bool) (w : World), PS w pb l f → l.length < n → Calls Try.prog 72 #[.pointer (some ⟨pb, 0, none⟩)] w (RetPC w pb (pC n l f))

/-- The parser at an opening bracket. -/
def TwoAt (n : Nat) : Prop := ∀ (pb : Nat) (l : List UInt8) (f : Bool) (w : World), PS w pb l f → l.length < n + 1 → ∀ l1, pB l f = (40, l1, false) → Calls Try.prog 72 #[.pointer (some ⟨pb, 0, none⟩)] w (RetPC w pb (pC (n + 1) l f))

theorem pC_fail {n : Nat} {l l1 : List UInt8} {f : Bool} {c : UInt8} (h : pB l f = (c, l1, true)) : pC (n + 1) l f = (zeroC, l1, true) := by
  conv => lhs; unfold pC
  simp only [h, if_true]
theorem pC_not {n : Nat} {l l1 : List UInt8} {f : Bool} (h : pB l f = (126, l1, false)) : pC (n + 1) l f = (.mk 5 0 0 0 [(pC n l1 false).1], (pC n l1 false).2.1, (pC n l1 false).2.2) := by
  conv => lhs; unfold pC
  simp only [h]
  rw [if_neg (by decide), if_pos trivial]
theorem pC_two {n : Nat} {l l1 : List UInt8} {f : Bool} (h : pB l f = (40, l1, false)) {a : Cd × List UInt8 × Bool} (ha : pC n l1 false = a) {r2 : UInt8 × List UInt8 × Bool} (h2 : pB a.2.1 a.2.2 = r2)
    {b : Cd × List UInt8 × Bool} (hb : pC n r2.2.1 r2.2.2 = b) {r3 : UInt8 × List UInt8 × Bool} (h3 : pB b.2.1 b.2.2 = r3) : pC (n + 1) l f = (.mk (if r2.1 = 38 then 3 else 4) 0 0 0 [a.1, b.1], r3.2.1, r3.2.2) := by
  subst ha; subst h2; subst hb; subst h3
  conv => lhs; unfold pC
  simp only [h]
  rw [if_neg (by decide), if_neg (by decide), if_pos trivial]
theorem pC_dig {n : Nat} {l l1 : List UInt8} {f : Bool} {c : UInt8} (h : pB l f = (c, l1, false)) (h1 : 48 ≤ (c.toNat : Int)) (h2 : (c.toNat : Int) ≤ 57) {r2 : UInt8 × List UInt8 × Bool} (e2 : pB l1 false = r2) {r3 : Int × List UInt8 × Bool} (e3 : pV r2.2.1 r2.2.2 = r3) :
    pC (n + 1) l f = (.mk 1 ((c.toNat : Int) - 48) (idxOf [97, 98, 99] r2.1) r3.1 [], r3.2.1, r3.2.2) := by
  subst e2; subst e3
  conv => lhs; unfold pC
  have n1 : c ≠ 126 := by intro e; subst e; simp at h2
  have n2 : c ≠ 40 := by intro e; subst e; simp at h1
  simp only [h, Bool.false_eq_true, if_false, if_neg n1, if_neg n2, h1, h2, and_self, if_true]
theorem pC_let {n : Nat} {l l1 : List UInt8} {f : Bool} {c : UInt8} (h : pB l f = (c, l1, false)) (n1 : c ≠ 126) (n2 : c ≠ 40) (h1 : ¬ (48 ≤ (c.toNat : Int) ∧ (c.toNat : Int) ≤ 57)) {r3 : Int × List UInt8 × Bool} (e3 : pV l1 false = r3) :
    pC (n + 1) l f = (.mk 2 0 (idxOf [120, 121, 122] c) r3.1 [], r3.2.1, r3.2.2) := by
  subst e3
  conv => lhs; unfold pC
  simp only [h, Bool.false_eq_true, if_false, if_neg n1, if_neg n2, if_neg h1]

set_option maxRecDepth 100000 in
set_option maxHeartbeats 400000 in
theorem cond_step (n : Nat) (ih : CondAt n) (hTwo : TwoAt n) : CondAt (n + 1) := by
  intro pb l f w h hl
  have IH := hide ih; clear ih
  have HB := hide (fun l' f' w' h' => byte_any pb l' f' w' h')
  have HV := hide (fun l' f' w' h' => value_any pb l' f' w' h')
  have HI := hide (fun l' c w' => idxByte_any l' c w')
  have hne : w.heap.size ≠ pb := by have := h.lt; omega
  have P0 := hide (h.allocNew (.cells #[.int .i64 0, .int .i64 0, .int .i64 0, .int .i64 0, .slice none 0 0] 25))
  have O0 := hide (Outside.of_below (lo := pb) (hi := pb + 1) (belowAlloc w (.cells #[.int .i64 0, .int .i64 0, .int .i64 0, .int .i64 0, .slice none 0 0] 25)))
  have hl1 := pB_len l f
  have hl2 := pB_len2 (l := l) (f := f)
  have HB1 := hide (HB.out l f _ P0.out)
  have CF := fun c l1 => pC_fail (n := n) (l := l) (f := f) (c := c) (l1 := l1)
  have CN := fun l1 => pC_not (n := n) (l := l) (f := f) (l1 := l1)
  have CT := fun l1 hh => hTwo pb l f w h hl l1 hh
  have CD := fun c l1 (h : pB l f = (c, l1, false)) h1 h2 => @pC_dig n l l1 f c h h1 h2
  have CL := fun c l1 (h : pB l f = (c, l1, false)) n1 n2 h1 => @pC_let n l l1 f c h n1 n2 h1
  generalize pB l f = r at *
  obtain ⟨c, l1, f1⟩ := r
  simp only at hl1 hl2
  have hc := c.toNat_lt
  cases f1
  · replace hl2 := hl2 rfl
    have hl3 : l1.length < n := by omega
    clear CF
    by_cases e126 : c = 126
    · subst e126
      replace CN := CN l1 rfl
      rw [CN]
      clear CN CT CD CL
      have HC := hide (fun w' h => IH.out pb l1 false w' h hl3)
      generalize pC n l1 false = A at *
      obtain ⟨⟨ao, at', ap, ax, aks⟩, l2, f2⟩ := A
      go_enter Try.func72, Try.ntmps72
      go_wp2_with fail
      (with_reducible refine HB1.out.mono ?_); rintro e w1 ⟨rfl, hp1, hg1⟩
      have O1 := hide (outside_of_row hg1)
      clear hg1
      have q1 := hp1.c1
      have HP1 := hide hp1
      have hx1 := hp1.lt
      clear hp1
      obtain ⟨hc1, hf1⟩ := ocell O1.out
      go_wp2_with fail
      (with_reducible refine (HC.out _ HP1.out).mono ?_); rintro e w2 ⟨s2, rfl, own2, hp2, hg2⟩
      have O2 := hide (O1.out.trans hg2)
      have HP2 := hide hp2; have HO2 := hide own2
      have hsz1 := O1.out.size
      have hsz2 := hg2.size
      simp at hsz1
      have hx3 : w.heap.size < w2.heap.size := by omega
      clear hp2 hg2 own2 hc1 hf1 q1
      obtain ⟨hc2, hf2⟩ := ocell O2.out
      have hx4 : w.heap.size < w1.heap.size := by omega
      have OWN := hide ((((((HO2.out.setOut hx4 0 (.int .i64 5)).setOut hx4 1 (.int .i64 0)).setOut hx4 2 (.int .i64 0)).setOut hx4 3 (.int .i64 0)).setOut hx4 4 (.slice (some ⟨w2.heap.size, 0, none⟩) 1 1)).one hsz2 (by simp) ao at' ap ax)
      have OWN2 := hide (OWN.out.wide (lo' := w.heap.size) (by omega) (Nat.le_refl _))
      go_wp2_with fail
      refine bodyPost_ret (v := .agg #[.int .i64 5, .int .i64 0, .int .i64 0, .int .i64 0, .slice (some ⟨w2.heap.size, 0, none⟩) 1 1]) (by simp [results, Try.results72, go_sem, hc2, hne, hx3]) rfl ⟨⟨some ⟨w2.heap.size, 0, none⟩, 1, 1⟩, rfl, by simpa [Cd.kids, Cd.op, Cd.th, Cd.pl, Cd.val] using OWN2.out, ((((((HP2.out.setNew hne _ _).setNew hne _ _).setNew hne _ _).setNew hne _ _).setNew hne _ _).allocNew _), (((((((O0.out.trans O2.out).setNew (Nat.le_refl _) _ _).setNew (Nat.le_refl _) _ _).setNew (Nat.le_refl _) _ _).setNew (Nat.le_refl _) _ _).setNew (Nat.le_refl _) _ _).allocNew _)⟩
    · have g126 : ((c.toNat : Int) == 126) = false := u8_ne e126
      by_cases e40 : c = 40
      · subst e40; exact CT l1 rfl
      · have g40 : ((c.toNat : Int) == 40) = false := u8_ne e40
        by_cases e48 : 48 ≤ (c.toNat : Int) ∧ (c.toNat : Int) ≤ 57
        · obtain ⟨d1, d2⟩ := e48
          have t1 : decide ((c.toNat : Int) ≥ 48) = true := decide_eq_true d1
          have t2 : decide ((c.toNat : Int) ≤ 57) = true := decide_eq_true d2
          generalize hr2 : pB l1 false = r2 at *
          obtain ⟨c2, l2, f2⟩ := r2
          generalize hr3 : pV l2 f2 = r3 at *
          obtain ⟨x, l3, f3⟩ := r3
          rw [CD c l1 rfl d1 d2 hr2 hr3]
          clear CN CT CD CL
          have HB2 := hide (fun w' h => HB.out l1 false w' h)
          rw [hr2] at HB2
          have HV3 := hide (fun w' h => HV.out l2 f2 w' h)
          rw [hr3] at HV3
          clear hr2 hr3 hl2 hl3 hl1 e126 e40
          generalize hii : idxOf [97, 98, 99] c2 = ii at *
          have II := hide hii; clear hii
          go_enter Try.func72, Try.ntmps72
          go_wp2_with fail
          (with_reducible refine HB1.out.mono ?_); rintro e w1 ⟨rfl, hp1, hg1⟩
          have O1 := hide (outside_of_row hg1)
          clear hg1
          have q1 := hp1.c1
          have HP1 := hide hp1
          have hx1 := hp1.lt
          clear hp1
          obtain ⟨hc1, hf1⟩ := ocell O1.out
          go_wp2_with fail
          (with_reducible refine (HB2.out _ HP1.out).mono ?_); rintro e w2 ⟨rfl, hp2, hg2⟩
          have O2 := hide (O1.out.trans (outside_of_row hg2))
          have HP2 := hide hp2
          clear hp2 hg2 hc1 hf1
          obtain ⟨hc2, hf2⟩ := ocell O2.out
          go_wp2_with fail
          (with_reducible refine (HI.out [97, 98, 99] c2 w2).mono ?_); rintro e w9 ⟨rfl, rfl⟩
          rw [II.out]
          go_wp2_with fail
          (with_reducible refine (HV3.out _ HP2.out).mono ?_); rintro e w3 ⟨rfl, hp3, hg3⟩
          have O3 := hide (O2.out.trans (outside_of_row hg3))
          have HP3 := hide hp3
          clear hp3 hg3 hc2 hf2
          obtain ⟨hc3, hf3⟩ := ocell O3.out
          go_wp2_with fail
          refine bodyPost_ret (v := .agg #[.int .i64 1, .int .i64 ((c.toNat : Int) - 48), .int .i64 ii, .int .i64 x, .slice none 0 0]) (by simp [results, Try.results72, go_sem, hc3, hne]) rfl ⟨⟨none, 0, 0⟩, rfl, .nil, (((((HP3.out.setNew hne _ _).setNew hne _ _).setNew hne _ _).setNew hne _ _).setNew hne _ _), ((((((O0.out.trans O3.out).setNew (Nat.le_refl _) _ _).setNew (Nat.le_refl _) _ _).setNew (Nat.le_refl _) _ _).setNew (Nat.le_refl _) _ _).setNew (Nat.le_refl _) _ _)⟩

        · generalize hr3 : pV l1 false = r3 at *
          obtain ⟨x, l3, f3⟩ := r3
          rw [CL c l1 rfl e126 e40 e48 hr3]
          clear CN CT CD CL
          have HV2 := hide (fun w' h => HV.out l1 false w' h)
          rw [hr3] at HV2
          clear hr3 hl2 hl3 hl1 e126 e40
          generalize hii : idxOf [120, 121, 122] c = ii at *
          have II := hide hii; clear hii
          by_cases d1 : 48 ≤ (c.toNat : Int)
          · have t1 : decide ((c.toNat : Int) ≥ 48) = true := decide_eq_true d1
            have t2 : decide ((c.toNat : Int) ≤ 57) = false := decide_eq_false (fun h => e48 ⟨d1, h⟩)
            clear e48
            go_enter Try.func72, Try.ntmps72
            go_wp2_with fail
            (with_reducible refine HB1.out.mono ?_); rintro e w1 ⟨rfl, hp1, hg1⟩
            have O1 := hide (outside_of_row hg1)
            clear hg1
            have q1 := hp1.c1
            have HP1 := hide hp1
            have hx1 := hp1.lt
            clear hp1
            obtain ⟨hc1, hf1⟩ := ocell O1.out
            go_wp2_with fail
            (with_reducible refine (HI.out [120, 121, 122] c w1).mono ?_); rintro e w9 ⟨rfl, rfl⟩
            rw [II.out]
            go_wp2_with fail
            (with_reducible refine (HV2.out _ HP1.out).mono ?_); rintro e w2 ⟨rfl, hp2, hg2⟩
            have O2 := hide (O1.out.trans (outside_of_row hg2))
            have HP2 := hide hp2
            clear hp2 hg2 hc1 hf1
            obtain ⟨hc2, hf2⟩ := ocell O2.out
            go_wp2_with fail
            refine bodyPost_ret (v := .agg #[.int .i64 2, .int .i64 0, .int .i64 ii, .int .i64 x, .slice none 0 0]) (by simp [results, Try.results72, go_sem, hc2, hne]) rfl ⟨⟨none, 0, 0⟩, rfl, .nil, (((((HP2.out.setNew hne _ _).setNew hne _ _).setNew hne _ _).setNew hne _ _).setNew hne _ _), ((((((O0.out.trans O2.out).setNew (Nat.le_refl _) _ _).setNew (Nat.le_refl _) _ _).setNew (Nat.le_refl _) _ _).setNew (Nat.le_refl _) _ _).setNew (Nat.le_refl _) _ _)⟩
          · have t1 : decide ((c.toNat : Int) ≥ 48) = false := decide_eq_false d1
            clear e48
            go_enter Try.func72, Try.ntmps72
            go_wp2_with fail
            (with_reducible refine HB1.out.mono ?_); rintro e w1 ⟨rfl, hp1, hg1⟩
            have O1 := hide (outside_of_row hg1)
            clear hg1
            have q1 := hp1.c1
            have HP1 := hide hp1
            have hx1 := hp1.lt
            clear hp1
            obtain ⟨hc1, hf1⟩ := ocell O1.out
            go_wp2_with fail
            (with_reducible refine (HI.out [120, 121, 122] c w1).mono ?_); rintro e w9 ⟨rfl, rfl⟩
            rw [II.out]
            go_wp2_with fail
            (with_reducible refine (HV2.out _ HP1.out).mono ?_); rintro e w2 ⟨rfl, hp2, hg2⟩
            have O2 := hide (O1.out.trans (outside_of_row hg2))
            have HP2 := hide hp2
            clear hp2 hg2 hc1 hf1
            obtain ⟨hc2, hf2⟩ := ocell O2.out
            go_wp2_with fail
            refine bodyPost_ret (v := .agg #[.int .i64 2, .int .i64 0, .int .i64 ii, .int .i64 x, .slice none 0 0]) (by simp [results, Try.results72, go_sem, hc2, hne]) rfl ⟨⟨none, 0, 0⟩, rfl, .nil, (((((HP2.out.setNew hne _ _).setNew hne _ _).setNew hne _ _).setNew hne _ _).setNew hne _ _), ((((((O0.out.trans O2.out).setNew (Nat.le_refl _) _ _).setNew (Nat.le_refl _) _ _).setNew (Nat.le_refl _) _ _).setNew (Nat.le_refl _) _ _).setNew (Nat.le_refl _) _ _)⟩

  · rw [CF c l1 rfl]
    clear CF CN CT CD CL
    go_enter Try.func72, Try.ntmps72
    go_wp2_with fail
    (with_reducible refine HB1.out.mono ?_); rintro e w1 ⟨rfl, hp1, hg1⟩
    have O1 := hide (outside_of_row hg1)
    clear hg1
    have q1 := hp1.c1
    have hx1 := hp1.lt
    have HP1 := hide hp1
    clear hp1
    obtain ⟨hc1, hf1⟩ := ocell O1.out
    go_wp2_with fail
    refine bodyPost_ret (v := .agg #[.int .i64 0, .int .i64 0, .int .i64 0, .int .i64 0, .slice none 0 0]) (by simp [results, Try.results72, go_sem, hc1, hne]) rfl ⟨⟨none, 0, 0⟩, rfl, .nil, (((((HP1.out.setNew hne _ _).setNew hne _ _).setNew hne _ _).setNew hne _ _).setNew hne _ _), ((((((O0.out.trans O1.out).setNew (Nat.le_refl _) _ _).setNew (Nat.le_refl _) _ _).setNew (Nat.le_refl _) _ _).setNew (Nat.le_refl _) _ _).setNew (Nat.le_refl _) _ _)⟩

end Go.Proofs.Ytpnmphfdfadlcaa
