/-
  Delays between events, in the program and in the reference. Condition: bounds on lengths.
-/
import Derived.Test.YtbndkefoinmmgaaB5
import Derived.Test.YtbndkefoinmmgaaE7
import Derived.Test.YtbndkefoinmmgaaP14
namespace Go.Proofs.Ytbndkefoinmmgaa
open Go.RowKit

/-- Is the event at i before the one at k in a thread? -/
def poB (L : List Ev) (i k : Nat) : Bool := match L[i]?, L[k]? with
  | some a, some b => decide (0 ≤ a.t) && ((a.t == b.t) && decide (a.i < b.i))
  | _, _ => false
theorem poB_eq {L : List Ev} {i k : Nat} {a b : Ev} (hi : L[i]? = some a) (hk : L[k]? = some b) : poB L i k = (decide (0 ≤ a.t) && ((a.t == b.t) && decide (a.i < b.i))) := by
  unfold poB; rw [hi, hk]

/-- The function value of two numbers, wherever it is called as long as what lay in w0 is as it was. -/
def TestsP_del (a1 : Addr) (n : Nat) (f : Nat → Nat → Bool) (w0 : World) : Prop := ∀ (i k : Nat) (w : World), i < n → k < n → Below w0.heap.size w0 w →
  Calls Try.prog 113 #[.int .i64 i, .int .i64 k, .pointer (some a1)] w fun e w' => e = .returned (.bool (f i k)) ∧ Below w.heap.size w w'

set_option maxHeartbeats 800000 in
theorem pairsOf_del (a1 : Addr) (n : Nat) (f : Nat → Nat → Bool) (w : World) (hn : n ≤ 60) (hf : TestsP_del a1 n f w) :
    Calls Try.prog 112 #[.int .i64 n, .func (.func 113) #[] #[.pointer (some a1)]] w (RetOwn IntE 3 w (relOf n f)) := by
  have HF := hide hf; clear hf
  go_enter Try.func112, Try.ntmps112
  go_wp2_with (at_make; refine wpList_make IntE 3 0 Try.infoInt rfl Try.underlying24 n (by decide) (by omega) rfl _ _ rfl rfl rfl ?_; intro w1 hown hgr)
  have hb1 := below_of_grown hgr
  go_loopw [11] (fun i wr => ∃ t : Nat, t ≤ n ∧ i = .int .i64 t ∧ OwnN wr w.heap.size (.slice (some ⟨w.heap.size, 0, none⟩) n n) ((relOf n f).take t ++ List.replicate (n - t) 0) ∧ Below w.heap.size w wr) (fun i _ => n - (intOf i).toNat)
  case atStart => exact ⟨0, by omega, rfl, by simpa using hown, hb1⟩
  case round =>
    obtain ⟨t, ht, rfl, ho, hb⟩ := hrel
    by_cases hlt : t < n
    · have hlt' := nat_of_lt hlt
      go_wp2_with fail
      go_loopw [15] (fun i wr => ∃ k : Nat, k ≤ n ∧ i = .int .i64 k ∧ OwnN wr w.heap.size (.slice (some ⟨w.heap.size, 0, none⟩) n n) (((relOf n f).take t ++ List.replicate (n - t) 0).set t (bitsTo (f t) k)) ∧ Below w.heap.size w wr) (fun i _ => n - (intOf i).toNat)
      case atStart => exact ⟨0, by omega, rfl, by rw [rel_start n t f hlt]; exact ho, hb⟩
      case round =>
        obtain ⟨k, hk, rfl, ho, hb⟩ := hrel
        by_cases hlt2 : k < n
        · have hlt2' := nat_of_lt hlt2
          have HC := hide (HF.out t k wr hlt hlt2 hb)
          have BS : Hid (bitsTo (f t) (k + 1) = if f t k = true then bits .or .i64 (bitsTo (f t) k) (wrap64 ((2 : Int) ^ k)) else bitsTo (f t) k) := hide rfl
          generalize f t k = fb at *
          cases fb
          · go_wp2_with fail
            (with_reducible refine HC.out.mono ?_); rintro e w2 ⟨rfl, hb2⟩
            go_wp2_with fail
            go_roundw
            case rel => exact ⟨k + 1, by omega, by go_num, by rw [BS.out]; exact ho.below hb2, hb.trans (hb2.mono hb.size)⟩
            case measure => simp [intOf]; omega
          · go_wp2_with fail
            (with_reducible refine HC.out.mono ?_); rintro e w2 ⟨rfl, hb2⟩
            have ho2 := ho.below hb2
            obtain ⟨hgl, c0, hfr⟩ := ho2.int (rel_get n t k f hlt)
            have ho3 := ho2.setInt (rel_get n t k f hlt) (bits .or .i64 (bitsTo (f t) k) (wrap64 ((2 : Int) ^ k)))
            rw [List.set_set] at ho3
            have HO3 := hide ho3; clear ho3
            go_wp2_with fail
            go_region
            go_wp2_with fail
            go_roundw
            case rel => exact ⟨k + 1, by omega, by go_num, by rw [BS.out]; exact HO3.out.below (Below.refl _ _).drew, ((hb.trans (hb2.mono hb.size)).setCell (Nat.le_refl _) _).drew⟩
            case measure => simp [intOf]; omega
        · have e : k = n := by omega
          rw [e, rel_done n t f hlt] at ho
          go_wp2_with fail
          go_roundw
          case rel => exact ⟨t + 1, by omega, by go_num, ho, hb⟩
          case measure => simp [intOf]; omega
    · have e : t = n := by omega
      rw [e, Nat.sub_self, List.replicate_zero, List.append_nil, List.take_of_length_le (by rw [relOf_length]; exact Nat.le_refl _)] at ho
      go_wp2_with fail
      go_ret
      exact ⟨_, rfl, ho, hb⟩


set_option maxRecDepth 100000 in
set_option maxHeartbeats 3200000 in
theorem delayRel_1 (B lc : Nat) (la : Option Addr) (L : List Ev) (w0 : World) (h1 : w0.cell? ⟨B, 0, none⟩ = some (.slice la L.length lc)) (hL : Rep EvE w0 (.slice la L.length lc) L) : TestsP_del ⟨B, 0, none⟩ L.length (poB L) w0 := by
  intro i k w hi hk hb
  have q1 := (hb.cell (p := ⟨B, 0, none⟩) (lt_of_cell h1)).trans h1
  obtain ⟨a, ha⟩ := get_of_lt hi
  obtain ⟨b, hbb⟩ := get_of_lt hk
  obtain ⟨d, o, rfl, hd, i0, i1, i2, i3, i4⟩ := (hL.below hb).ev ha
  obtain ⟨d', o', hde, hd', j0, j1, j2, j3, j4⟩ := (hL.below hb).ev hbb
  simp only [Option.some.injEq, Addr.mk.injEq, and_true] at hde
  obtain ⟨rfl, rfl⟩ := hde
  have hB1 := lt_of_cell q1
  have CE := hide (poB_eq ha hbb)
  have hi' := nat_of_lt hi; have hk' := nat_of_lt hk
  clear ha hbb hL h1 hb
  generalize poB L i k = R at *
  generalize L.length = n at *
  generalize a.t = at' at *; generalize b.t = bt' at *; generalize a.i = ai at *; generalize b.i = bi at *
  rcases Bool.eq_false_or_eq_true (decide (0 ≤ at')) with g0 | g0
  · rcases Bool.eq_false_or_eq_true ((at' == bt')) with g1 | g1
    · rcases Bool.eq_false_or_eq_true (decide (ai < bi)) with g2 | g2
      · obtain rfl : R = true := by rw [CE.out]; simp [g0, g1, g2]
        go_enter Try.func113, Try.ntmps113
        go_wp2_with fail
        refine wp_region_bw (by kernel_rfl) (by kernel_rfl) ?_
        repeat (go_big_quiet_step (fail))
        refine wpQuiet_nil ?_
        intro w5 hb5
        go_wp2_with fail
        go_ret
        exact ⟨rfl, hb5⟩
      · obtain rfl : R = false := by rw [CE.out]; simp [g0, g1, g2]
        go_enter Try.func113, Try.ntmps113
        go_wp2_with fail
        refine wp_region_bw (by kernel_rfl) (by kernel_rfl) ?_
        repeat (go_big_quiet_step (fail))
        refine wpQuiet_nil ?_
        intro w5 hb5
        go_wp2_with fail
        go_ret
        exact ⟨rfl, hb5⟩
    · obtain rfl : R = false := by rw [CE.out]; simp [g0, g1]
      go_enter Try.func113, Try.ntmps113
      go_wp2_with fail
      refine wp_region_bw (by kernel_rfl) (by kernel_rfl) ?_
      repeat (go_big_quiet_step (fail))
      refine wpQuiet_nil ?_
      intro w5 hb5
      go_wp2_with fail
      go_ret
      exact ⟨rfl, hb5⟩
  · obtain rfl : R = false := by rw [CE.out]; simp [g0]
    go_enter Try.func113, Try.ntmps113
    go_wp2_with fail
    refine wp_region_bw (by kernel_rfl) (by kernel_rfl) ?_
    repeat (go_big_quiet_step (fail))
    refine wpQuiet_nil ?_
    intro w5 hb5
    go_wp2_with fail
    go_ret
    exact ⟨rfl, hb5⟩

/-- The delays as a test. -/
def delF (n : Nat) (c po : Nat → Nat → Bool) : Nat → Nat → Bool := fAnd po (fInv (fOr (fComp n c c) (fComp n (fComp n c (fClo n (fOr c po))) c)))
def delays (p : List (List Ins)) : List Int := relOf (evAll p).length (delF (evAll p).length (confB (evAll p)) (poB (evAll p)))
def delayV (p : List (List Ins)) : List Int := if progValid p = true then delays p else []

theorem delF_spec (n : Nat) (c po : Nat → Nat → Bool) : fAnd po (fInv (fOr (fComp n c (fComp n (fClo n (fOr po c)) c)) (fComp n c c))) = delF n c po := by
  unfold delF
  have e1 : fOr po c = fOr c po := by funext i k; unfold fOr; exact Bool.or_comm _ _
  have e2 : fOr (fComp n c (fComp n (fClo n (fOr c po)) c)) (fComp n c c) = fOr (fComp n c c) (fComp n (fComp n c (fClo n (fOr c po))) c) := by
    funext i k
    unfold fOr
    rw [Bool.or_comm, ← fComp_assoc]
  rw [e1, e2]

set_option maxRecDepth 100000 in
set_option maxHeartbeats 1600000 in
theorem delayRel_any (v : Value) (p : List (List Ins)) (w : World) (hp : RepP w v p) (hl : p.flatten.length ≤ 50) (hn : (evAll p).length ≤ 16) :
    Calls Try.prog 50 #[v] w (RetOwn IntE 3 w (delays p)) := by
  have HP := hide hp
  have HE := hide (events_any v p w hp (by omega))
  have HCF := hide (fun w' h => conflictRel_any v p w' h hl)
  have CD : Hid (delays p = relOf (evAll p).length (delF (evAll p).length (confB (evAll p)) (poB (evAll p)))) := hide rfl
  have CC : Hid (conflicts p = relOf (evAll p).length (confB (evAll p))) := hide rfl
  clear hp
  go_enter Try.func50, Try.ntmps50
  go_wp2_with fail
  (with_reducible refine HE.out.mono ?_); rintro e w2 ⟨v2, rfl, o2, hb2⟩
  rw [CC.out] at HCF
  generalize evAll p = L at *
  obtain ⟨a2, c2, rfl, -, -, -, -⟩ := o2.rep.open
  have hb3 := belowAlloc0 w2 (.cells #[.slice a2 L.length c2] 71)
  have HB3 := hide (hb2.trans (hb3.mono hb2.size))
  have m1 : (w2.alloc (.cells #[.slice a2 L.length c2] 71)).cell? ⟨w2.heap.size, 0, none⟩ = some (.slice a2 L.length c2) := by simp [go_sem]
  have HC := hide (pairsOf_del ⟨w2.heap.size, 0, none⟩ L.length (poB L) _ (by omega) (delayRel_1 w2.heap.size c2 a2 L _ m1 (o2.rep.below hb3)))
  have HP3 := hide (HP.out.below HB3.out)
  clear m1 hb3 hb2 o2 HE HP
  generalize hP' : poB L = po at *
  generalize hC' : confB L = cf at *
  clear hP' hC'
  generalize L.length = n at *
  go_wp2_with fail
  (with_reducible refine HC.out.mono ?_); rintro e w4 ⟨u4, rfl, o4, hb4⟩
  have PO4 := hide o4.rep; have HB4 := hide (HB3.out.trans (hb4.mono HB3.out.size)); have HP4 := hide (HP3.out.below hb4)
  clear o4 hb4 HC HB3 HP3
  go_wp2_with fail
  (with_reducible refine (HCF.out _ HP4.out).mono ?_); rintro e w5 ⟨u5, rfl, o5, hb5⟩
  have CF5 := hide o5.rep; have HB5 := hide (HB4.out.trans (hb5.mono HB4.out.size)); have PO5 := hide (PO4.out.below hb5)
  clear o5 hb5 HCF HB4 HP4 PO4
  go_wp2_with fail
  (with_reducible refine (ComposeRel_any u5 u5 n cf cf _ CF5.out CF5.out hn).mono ?_); rintro e w6 ⟨u6, rfl, o6, hb6⟩
  have CC6 := hide o6.rep; have CF6 := hide (CF5.out.below hb6); have HB6 := hide (HB5.out.trans (hb6.mono HB5.out.size)); have PO6 := hide (PO5.out.below hb6)
  clear o6 hb6 CF5 HB5 PO5
  go_wp2_with fail
  (with_reducible refine (UnionRel_any u5 u4 n cf po _ CF6.out PO6.out hn).mono ?_); rintro e w7 ⟨u7, rfl, o7, hb7⟩
  have CC7 := hide (CC6.out.below hb7); have CF7 := hide (CF6.out.below hb7); have HB7 := hide (HB6.out.trans (hb7.mono HB6.out.size)); have PO7 := hide (PO6.out.below hb7); have U7 := hide o7.rep
  clear o7 hb7 CF6 HB6 PO6 CC6
  go_wp2_with fail
  (with_reducible refine (ClosureRel_any u7 n (fOr cf po) _ U7.out hn).mono ?_); rintro e w8 ⟨u8, rfl, o8, hb8⟩
  have CC8 := hide (CC7.out.below hb8); have CF8 := hide (CF7.out.below hb8); have HB8 := hide (HB7.out.trans (hb8.mono HB7.out.size)); have PO8 := hide (PO7.out.below hb8); have U8 := hide o8.rep
  clear o8 hb8 CF7 HB7 PO7 CC7 U7
  go_wp2_with fail
  (with_reducible refine (ComposeRel_any u5 u8 n cf (fClo n (fOr cf po)) _ CF8.out U8.out hn).mono ?_); rintro e w9 ⟨u9, rfl, o9, hb9⟩
  have CC9 := hide (CC8.out.below hb9); have CF9 := hide (CF8.out.below hb9); have HB9 := hide (HB8.out.trans (hb9.mono HB8.out.size)); have PO9 := hide (PO8.out.below hb9); have U9 := hide o9.rep
  clear o9 hb9 CF8 HB8 PO8 CC8 U8
  go_wp2_with fail
  (with_reducible refine (ComposeRel_any u9 u5 n (fComp n cf (fClo n (fOr cf po))) cf _ U9.out CF9.out hn).mono ?_); rintro e w10 ⟨u10, rfl, o10, hb10⟩
  have CC10 := hide (CC9.out.below hb10); have HB10 := hide (HB9.out.trans (hb10.mono HB9.out.size)); have PO10 := hide (PO9.out.below hb10); have U10 := hide o10.rep
  clear o10 hb10 CF9 HB9 PO9 CC9 U9
  go_wp2_with fail
  (with_reducible refine (UnionRel_any u6 u10 n (fComp n cf cf) (fComp n (fComp n cf (fClo n (fOr cf po))) cf) _ CC10.out U10.out hn).mono ?_); rintro e w11 ⟨u11, rfl, o11, hb11⟩
  have HB11 := hide (HB10.out.trans (hb11.mono HB10.out.size)); have PO11 := hide (PO10.out.below hb11); have U11 := hide o11.rep
  clear o11 hb11 HB10 PO10 CC10 U10
  go_wp2_with fail
  (with_reducible refine (InverseRel_any u11 n _ _ U11.out hn).mono ?_); rintro e w12 ⟨u12, rfl, o12, hb12⟩
  have HB12 := hide (HB11.out.trans (hb12.mono HB11.out.size)); have PO12 := hide (PO11.out.below hb12); have U12 := hide o12.rep
  clear o12 hb12 HB11 PO11 U11
  go_wp2_with fail
  (with_reducible refine (MeetRel_any u4 u12 n po _ _ PO12.out U12.out hn).mono ?_); rintro e w13 ⟨u13, rfl, o13, hb13⟩
  have HO := hide o13; have HB13 := hide (HB12.out.trans (hb13.mono HB12.out.size)); have hsz := HB12.out.size
  clear o13 hb13 HB12 PO12 U12
  go_wp2_with fail
  go_ret
  rw [CD.out]
  exact ⟨_, rfl, HO.out.mono hsz, HB13.out⟩

set_option maxHeartbeats 400000 in
theorem DelayRel_any (v : Value) (p : List (List Ins)) (w : World) (hp : RepP w v p) (hl : p.flatten.length ≤ 1048576) :
    Calls Try.prog 13 #[v] w (RetOwn IntE 3 w (delayV p)) := by
  have HP := hide hp; clear hp
  have HV := hide (fun w' h => ProgramValid_any v p w' h hl)
  have E2 : Hid (delayV p = if progValid p = true then delays p else []) := hide rfl
  have HF : Hid (progValid p = true → p.flatten.length ≤ 50 ∧ (evAll p).length ≤ 16) := hide (fun h => by
    obtain ⟨hv1, -, hv3, -, -⟩ := valid_le h
    have := flatten_le7' (p := p) (fun r hr => (hv3 r hr).1)
    have := evAll_le h
    omega)
  obtain ⟨a, c, rfl, -, -, -, -⟩ := HP.out.open
  generalize progValid p = b at *
  cases b
  · go_enter Try.func13, Try.ntmps13
    go_wp2_with fail
    (with_reducible refine (HV.out _ HP.out).mono ?_); rintro e w1 ⟨rfl, hb1⟩
    go_wp2_with fail
    go_ret
    rw [E2.out]
    exact ⟨_, rfl, Own.nil _ _ _, hb1⟩
  · have E3 : Hid (delayV p = delays p) := hide (by rw [E2.out]; rfl)
    have HC := hide (fun w' h => delayRel_any (.slice a p.length c) p w' h (HF.out rfl).1 (HF.out rfl).2)
    go_enter Try.func13, Try.ntmps13
    go_wp2_with fail
    (with_reducible refine (HV.out _ HP.out).mono ?_); rintro e w1 ⟨rfl, hb1⟩
    go_wp2_with fail
    (with_reducible refine (HC.out _ (HP.out.below hb1)).mono ?_); rintro e w2 ⟨v2, rfl, o2, hb2⟩
    go_wp2_with fail
    go_ret
    rw [E3.out]
    exact ⟨_, rfl, o2.mono hb1.size, hb1.trans (hb2.mono hb1.size)⟩

set_option maxRecDepth 100000 in
set_option maxHeartbeats 3200000 in
theorem l10Po_any (v : Value) (p : List (List Ins)) (w : World) (hp : RepP w v p) (hl : p.flatten.length ≤ 50) :
    Calls Try.prog 101 #[v] w (RetOwn IntE 3 w (relOf (evAll p).length (poB (evAll p)))) := by
  obtain ⟨a, c, rfl, -, -, -, hp⟩ := hp.open
  have HP := hide hp; clear hp
  have HE := hide (fun w' h => l6Events_any (.slice a p.length c) p w' h (by omega))
  have hn : (evAll p).length ≤ 60 := by have := evAll_length p; omega
  go_enter Try.func101, Try.ntmps101
  go_wp2_with fail
  (with_reducible refine (HE.out _ HP.out).mono ?_); rintro e w2 ⟨v2, rfl, o2, hb2⟩
  generalize evAll p = L at *
  obtain ⟨a2, c2, rfl, -, -, -, -⟩ := o2.rep.open
  generalize hnn : L.length = n at *
  have H := hide hnn; clear hnn
  have hown := Own.empty (E := IntE) 3 w2 (Nat.le_refl _)
  have hb3 := belowAlloc0 w2 (.cells #[] 3)
  have HL := hide o2.rep
  have HB2 := hide hb2
  clear o2 hb2
  go_wp2_with fail
  go_loopw [4, 5] (fun s i wr => ∃ t : Nat, t ≤ n ∧ i = .int .i64 t ∧ Hid (OwnN wr w2.heap.size s ((relOf n (poB L)).take t)) ∧ Hid (Below w2.heap.size w2 wr)) (fun _ i _ => n - (intOf i).toNat)
  case atStart => exact ⟨0, by omega, rfl, hide (by simpa using hown), hide hb3⟩
  case round =>
    obtain ⟨t, ht, rfl, HO, HB⟩ := hrel
    by_cases hlt : t < n
    · have hlt' := nat_of_lt hlt
      have TS := hide (take_rel n t (poB L) hlt)
      have TL : ((relOf n (poB L)).take t).length ≤ 68719476736 := by rw [List.length_take, relOf_length]; omega
      generalize (relOf n (poB L)).take t = G at *
      obtain ⟨ea, hea⟩ := get_of_lt (xs := L) (k := t) (by rw [H.out]; exact hlt)
      go_wp2_with fail
      go_loopw [6, 7] (fun q i wr => ∃ k : Nat, k ≤ n ∧ i = .int .i64 k ∧ q = .int .i64 (bitsTo (poB L t) k) ∧ Hid (OwnN wr w2.heap.size u4 G) ∧ Hid (Below w2.heap.size w2 wr)) (fun _ i _ => n - (intOf i).toNat)
      case atStart => exact ⟨0, by omega, rfl, rfl, HO, HB⟩
      case round =>
        obtain ⟨k, hk, rfl, rfl, HO, HB⟩ := hrel
        by_cases hlt2 : k < n
        · have hlt2' := nat_of_lt hlt2
          obtain ⟨eb, heb⟩ := get_of_lt (xs := L) (k := k) (by rw [H.out]; exact hlt2)
          obtain ⟨d, o1, rfl, hd, i0, i1, i2, i3, i4⟩ := (HL.out.below HB.out).ev hea
          obtain ⟨d', o1', hde, hd', j0, j1, j2, j3, j4⟩ := (HL.out.below HB.out).ev heb
          simp only [Option.some.injEq, Addr.mk.injEq, and_true] at hde
          obtain ⟨rfl, rfl⟩ := hde
          have CE := hide (poB_eq hea heb)
          have BS := hide (bitsTo_step (poB L t) k)
          generalize hR : poB L t k = R at *
          generalize bitsTo (poB L t) k = row at *
          generalize hrow2 : bitsTo (poB L t) (k + 1) = row2 at *
          have RW2 := hide hrow2; clear hrow2 hR
          have HEB := hide heb; have HEA := hide hea
          clear heb
          generalize ea.t = at' at *; generalize eb.t = bt' at *; generalize ea.i = ai at *; generalize eb.i = bi at *
          rcases Bool.eq_false_or_eq_true (decide (0 ≤ at')) with g0 | g0
          · rcases Bool.eq_false_or_eq_true ((at' == bt')) with g1 | g1
            · rcases Bool.eq_false_or_eq_true (decide (ai < bi)) with g2 | g2
              · obtain rfl : R = true := by rw [CE.out]; simp [g0, g1, g2]
                obtain rfl : row2 = bits .or .i64 row (wrap64 ((2 : Int) ^ k)) := by rw [BS.out]; rfl
                clear CE BS
                go_wp2_with fail
                refine wp_region_bw (by kernel_rfl) (by kernel_rfl) ?_
                repeat (go_big_quiet_step (fail))
                refine wpQuiet_nil ?_
                intro w5 hb5
                have HO5 := hide (HO.out.below hb5); have HB5 := hide (HB.out.trans (hb5.mono HB.out.size))
                clear hb5
                go_wp2_with fail
                go_roundw
                case rel => exact ⟨k + 1, by omega, by go_num, by rw [RW2.out], HO5, HB5⟩
                case measure => simp [intOf]; omega
              · obtain rfl : R = false := by rw [CE.out]; simp [g0, g1, g2]
                obtain rfl : row2 = row := by rw [BS.out]; rfl
                clear CE BS
                go_wp2_with fail
                refine wp_region_bw (by kernel_rfl) (by kernel_rfl) ?_
                repeat (go_big_quiet_step (fail))
                refine wpQuiet_nil ?_
                intro w5 hb5
                have HO5 := hide (HO.out.below hb5); have HB5 := hide (HB.out.trans (hb5.mono HB.out.size))
                clear hb5
                go_wp2_with fail
                go_roundw
                case rel => exact ⟨k + 1, by omega, by go_num, by rw [RW2.out], HO5, HB5⟩
                case measure => simp [intOf]; omega
            · obtain rfl : R = false := by rw [CE.out]; simp [g0, g1]
              obtain rfl : row2 = row := by rw [BS.out]; rfl
              clear CE BS
              go_wp2_with fail
              refine wp_region_bw (by kernel_rfl) (by kernel_rfl) ?_
              repeat (go_big_quiet_step (fail))
              refine wpQuiet_nil ?_
              intro w5 hb5
              have HO5 := hide (HO.out.below hb5); have HB5 := hide (HB.out.trans (hb5.mono HB.out.size))
              clear hb5
              go_wp2_with fail
              go_roundw
              case rel => exact ⟨k + 1, by omega, by go_num, by rw [RW2.out], HO5, HB5⟩
              case measure => simp [intOf]; omega
          · obtain rfl : R = false := by rw [CE.out]; simp [g0]
            obtain rfl : row2 = row := by rw [BS.out]; rfl
            clear CE BS
            go_wp2_with fail
            refine wp_region_bw (by kernel_rfl) (by kernel_rfl) ?_
            repeat (go_big_quiet_step (fail))
            refine wpQuiet_nil ?_
            intro w5 hb5
            have HO5 := hide (HO.out.below hb5); have HB5 := hide (HB.out.trans (hb5.mono HB.out.size))
            clear hb5
            go_wp2_with fail
            go_roundw
            case rel => exact ⟨k + 1, by omega, by go_num, by rw [RW2.out], HO5, HB5⟩
            case measure => simp [intOf]; omega
        · have e : k = n := by omega
          subst e
          have HO1 := hide (HO.out.alloc (.cells #[.int .i64 (bitsTo (poB L t) k)] 3))
          have hsz := HB.out.size
          go_wp2_with (at_builtin; refine wpList_app IntE 3 Try.infoInt rfl Try.underlying24 w2.heap.size _ G (bitsTo (poB L t) k) HO1.out (by decide) TL (by simp; omega) rfl _ _ rfl rfl wr.heap.size 0 1 rfl news_alloc ?_; intro v' w1 hown1 hgr1)
          have HOWN6 := hide hown1; have HB6 := hide (below_app HB.out HO.out hgr1)
          clear hown1 hgr1
          go_roundw
          case rel => exact ⟨t + 1, by omega, by go_num, hide (by rw [TS.out]; exact HOWN6.out), HB6⟩
          case measure => simp [intOf]; omega
    · have e : t = n := by omega
      subst e
      have ho := HO.out
      rw [List.take_of_length_le (by rw [relOf_length]; exact Nat.le_refl _)] at ho
      have HO2 := hide ho
      clear ho
      go_wp2_with fail
      go_ret
      exact ⟨_, rfl, HO2.out.mono HB2.out.size, HB2.out.trans (HB.out.mono HB2.out.size)⟩

set_option maxRecDepth 100000 in
set_option maxHeartbeats 1600000 in
theorem l10Delays_any (v : Value) (p : List (List Ins)) (w : World) (hp : RepP w v p) (hl : p.flatten.length ≤ 50) :
    Calls Try.prog 47 #[v] w (RetOwn IntE 3 w (delays p)) := by
  have HP := hide hp
  have HPO := hide (l10Po_any v p w hp hl)
  have HCF := hide (fun w' h => l10Conflicts_any v p w' h hl)
  have hn : (evAll p).length ≤ 60 := by have := evAll_length p; omega
  have CD : Hid (delays p = relOf (evAll p).length (delF (evAll p).length (confB (evAll p)) (poB (evAll p)))) := hide rfl
  have CC : Hid (conflicts p = relOf (evAll p).length (confB (evAll p))) := hide rfl
  rw [CC.out] at HCF
  clear hp
  generalize evAll p = L at *
  generalize hP' : poB L = po at *
  generalize hC' : confB L = cf at *
  clear hP' hC'
  generalize L.length = n at *
  have DS := hide (delF_spec n cf po)
  go_enter Try.func47, Try.ntmps47
  go_wp2_with fail
  (with_reducible refine HPO.out.mono ?_); rintro e w4 ⟨u4, rfl, o4, hb4⟩
  have PO4 := hide o4.rep; have HB4 := hide hb4; have HP4 := hide (HP.out.below hb4)
  clear o4 hb4 HPO HP
  go_wp2_with fail
  (with_reducible refine (HCF.out _ HP4.out).mono ?_); rintro e w5 ⟨u5, rfl, o5, hb5⟩
  have CF5 := hide o5.rep; have HB5 := hide (HB4.out.trans (hb5.mono HB4.out.size)); have PO5 := hide (PO4.out.below hb5)
  clear o5 hb5 HCF HB4 HP4 PO4
  go_wp2_with fail
  (with_reducible refine (l2Union_any u4 u5 n po cf _ PO5.out CF5.out hn).mono ?_); rintro e w6 ⟨u6, rfl, o6, hb6⟩
  have U6 := hide o6.rep; have CF6 := hide (CF5.out.below hb6); have HB6 := hide (HB5.out.trans (hb6.mono HB5.out.size)); have PO6 := hide (PO5.out.below hb6)
  clear o6 hb6 CF5 HB5 PO5
  go_wp2_with fail
  (with_reducible refine (l2Closure_any u6 n _ _ U6.out hn).mono ?_); rintro e w7 ⟨u7, rfl, o7, hb7⟩
  have U7 := hide o7.rep; have CF7 := hide (CF6.out.below hb7); have HB7 := hide (HB6.out.trans (hb7.mono HB6.out.size)); have PO7 := hide (PO6.out.below hb7)
  clear o7 hb7 CF6 HB6 PO6 U6
  go_wp2_with fail
  (with_reducible refine (l2Compose_any u7 u5 n _ cf _ U7.out CF7.out hn).mono ?_); rintro e w8 ⟨u8, rfl, o8, hb8⟩
  have U8 := hide o8.rep; have CF8 := hide (CF7.out.below hb8); have HB8 := hide (HB7.out.trans (hb8.mono HB7.out.size)); have PO8 := hide (PO7.out.below hb8)
  clear o8 hb8 CF7 HB7 PO7 U7
  go_wp2_with fail
  (with_reducible refine (l2Compose_any u5 u8 n cf _ _ CF8.out U8.out hn).mono ?_); rintro e w9 ⟨u9, rfl, o9, hb9⟩
  have U9 := hide o9.rep; have CF9 := hide (CF8.out.below hb9); have HB9 := hide (HB8.out.trans (hb9.mono HB8.out.size)); have PO9 := hide (PO8.out.below hb9)
  clear o9 hb9 CF8 HB8 PO8 U8
  go_wp2_with fail
  (with_reducible refine (l2Compose_any u5 u5 n cf cf _ CF9.out CF9.out hn).mono ?_); rintro e w10 ⟨u10, rfl, o10, hb10⟩
  have U10 := hide o10.rep; have U9' := hide (U9.out.below hb10); have HB10 := hide (HB9.out.trans (hb10.mono HB9.out.size)); have PO10 := hide (PO9.out.below hb10)
  clear o10 hb10 CF9 HB9 PO9 U9
  go_wp2_with fail
  (with_reducible refine (l2Union_any u9 u10 n _ _ _ U9'.out U10.out hn).mono ?_); rintro e w11 ⟨u11, rfl, o11, hb11⟩
  have U11 := hide o11.rep; have HB11 := hide (HB10.out.trans (hb11.mono HB10.out.size)); have PO11 := hide (PO10.out.below hb11)
  clear o11 hb11 HB10 PO10 U9' U10
  go_wp2_with fail
  (with_reducible refine (l2Inverse_any u11 n _ _ U11.out hn).mono ?_); rintro e w12 ⟨u12, rfl, o12, hb12⟩
  have U12 := hide o12.rep; have HB12 := hide (HB11.out.trans (hb12.mono HB11.out.size)); have PO12 := hide (PO11.out.below hb12)
  clear o12 hb12 HB11 PO11 U11
  go_wp2_with fail
  (with_reducible refine (l2Meet_any u4 u12 n po _ _ PO12.out U12.out hn).mono ?_); rintro e w13 ⟨u13, rfl, o13, hb13⟩
  have HO := hide o13; have HB13 := hide (HB12.out.trans (hb13.mono HB12.out.size)); have hsz := HB12.out.size
  clear o13 hb13 HB12 PO12 U12
  go_wp2_with fail
  go_ret
  rw [CD.out, ← DS.out]
  exact ⟨_, rfl, HO.out.mono hsz, HB13.out⟩

set_option maxHeartbeats 400000 in
theorem sDelayRel_any (v : Value) (p : List (List Ins)) (w : World) (hp : RepP w v p) (hl : p.flatten.length ≤ 1048576) (hpl : p.length ≤ 1048576) :
    Calls Try.prog 11 #[v] w (RetOwn IntE 3 w (delayV p)) := by
  have HP := hide hp; clear hp
  have HV := hide (fun w' h => sProgramValid_any v p w' h hl hpl)
  have E2 : Hid (delayV p = if progValid p = true then delays p else []) := hide rfl
  have HF : Hid (progValid p = true → p.flatten.length ≤ 50) := hide (fun h => by
    obtain ⟨hv1, -, hv3, -, -⟩ := valid_le h
    have := flatten_le7' (p := p) (fun r hr => (hv3 r hr).1)
    omega)
  obtain ⟨a, c, rfl, -, -, -, -⟩ := HP.out.open
  generalize progValid p = b at *
  cases b
  · go_enter Try.func11, Try.ntmps11
    go_wp2_with fail
    (with_reducible refine (HV.out _ HP.out).mono ?_); rintro e w1 ⟨rfl, hb1⟩
    go_wp2_with fail
    go_ret
    rw [E2.out]
    exact ⟨_, rfl, Own.empty _ _ hb1.size, hb1.trans ((belowAlloc0 _ _).mono hb1.size)⟩
  · have E3 : Hid (delayV p = delays p) := hide (by rw [E2.out]; rfl)
    have HC := hide (fun w' h => l10Delays_any (.slice a p.length c) p w' h (HF.out rfl))
    go_enter Try.func11, Try.ntmps11
    go_wp2_with fail
    (with_reducible refine (HV.out _ HP.out).mono ?_); rintro e w1 ⟨rfl, hb1⟩
    go_wp2_with fail
    (with_reducible refine (HC.out _ (HP.out.below hb1)).mono ?_); rintro e w2 ⟨v2, rfl, o2, hb2⟩
    go_wp2_with fail
    go_ret
    rw [E3.out]
    exact ⟨_, rfl, o2.mono hb1.size, hb1.trans (hb2.mono hb1.size)⟩

end Go.Proofs.Ytbndkefoinmmgaa
