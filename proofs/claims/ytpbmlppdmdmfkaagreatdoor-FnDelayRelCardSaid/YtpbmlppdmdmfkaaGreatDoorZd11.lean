/-
  slices.Delete of one number of numbers that a call owns. No condition.
-/
import Derived.Test.YtpbmlppdmdmfkaaGreatDoorZd10
import Derived.Test.YtpbmlppdmdmfkaaGreatDoorZd05
import Derived.Test.YtpbmlppdmdmfkaaGreatDoorZd08
import Derived.Test.YtpbmlppdmdmfkaaGreatDoorZd09
import Derived.Shelf.Slices.Delete
import Derived.Ground.Names2Prog
import Derived.Test.YtpbmlppdmdmfkaaGreatDoorProg
import Derived.Test.YtpbmlppdmdmfkaaGreatDoorZd02
import Derived.Lib.OwnBridge
namespace Go.Proofs.YtpbmlppdmdmfkaaGreatDoor
open Go.RowKit

/-- Is the event at i before the one at k in a thread? -/
def poB (L : List Ev) (i k : Nat) : Bool := match L[i]?, L[k]? with
  | some a, some b => decide (0 ≤ a.t) && ((a.t == b.t) && decide (a.i < b.i))
  | _, _ => false
theorem poB_eq {L : List Ev} {i k : Nat} {a b : Ev} (hi : L[i]? = some a) (hk : L[k]? = some b) : poB L i k = (decide (0 ≤ a.t) && ((a.t == b.t) && decide (a.i < b.i))) := by
  unfold poB; rw [hi, hk]

/-- The function value of two numbers, wherever it is called as long as what lay in w0 is as it was. -/
def TestsP_del (a1 : Addr) (n : Nat) (f : Nat → Nat → Bool) (w0 : World) : Prop := ∀ (i k : Nat) (w : World), i < n → k < n → Below w0.heap.size w0 w →
  Calls Tryz.prog 128 #[.int .i64 i, .int .i64 k, .pointer (some a1)] w fun e w' => e = .returned (.bool (f i k)) ∧ Below w.heap.size w w'

set_option maxHeartbeats 800000 in
theorem pairsOf_del (a1 : Addr) (n : Nat) (f : Nat → Nat → Bool) (w : World) (hn : n ≤ 60) (hf : TestsP_del a1 n f w) :
    Calls Tryz.prog 127 #[.int .i64 n, .func (.func 128) #[] #[.pointer (some a1)]] w (RetOwn IntE 3 w (relOf n f)) := by
  have HF := hide hf; clear hf
  go_enter Tryz.func127, Tryz.ntmps127
  go_wp2_with (at_make; refine wpList_make IntE 3 0 Tryz.infoInt rfl Tryz.underlying25 n (by decide) (by omega) rfl _ _ rfl rfl rfl ?_; intro w1 hown hgr)
  have hb1 := below_of_grown hgr
  go_loopw [11] (fun i wr => ∃ t : Nat, t ≤ n ∧ i = .int .i64 t ∧ OwnN wr w.heap.size (.slice (some ⟨w.heap.size, 0, none⟩) n n) ((relOf n f).take t ++ List.replicate (n - t) 0) ∧ Below w.heap.size w wr) (fun i _ => n - (intOf i).toNat)
  case atStart => exact ⟨0, by omega, rfl, by simpa using hown, hb1⟩
  case round =>
    obtain ⟨t, ht, rfl, ho, hb⟩ := hrel
    by_cases hlt : t < n
    · have hlt' := nat_of_lt hlt
      go_wp2_with fail
      go_loopw [15] (fun i wr => ∃ k : Nat, k ≤ n ∧ i = .int .i64 k ∧ OwnN wr w.heap.size (.slice (some ⟨w.heap.size, 0, none⟩) n n) (((relOf n f).take t ++ List.replicate (n - t) 0).set t (bitsTo (f t) k)) ∧ Below w.heap.size w wr) (fun i _ => n - (intOf i).toNat)
      case atStart => exact ⟨0, by omega, rfl, by rw [rel_start n t f hlt]; exact ho, hb⟩
      case round =>
        obtain ⟨k, hk, rfl, ho, hb⟩ := hrel
        by_cases hlt2 : k < n
        · have hlt2' := nat_of_lt hlt2
          have HC := hide (HF.out t k wr hlt hlt2 hb)
          have BS : Hid (bitsTo (f t) (k + 1) = if f t k = true then bits .or .i64 (bitsTo (f t) k) (wrap64 ((2 : Int) ^ k)) else bitsTo (f t) k) := hide rfl
          generalize f t k = fb at *
          cases fb
          · go_wp2_with fail
            (with_reducible refine HC.out.mono ?_); rintro e w2 ⟨rfl, hb2⟩
            go_wp2_with fail
            go_roundw
            case rel => exact ⟨k + 1, by omega, by go_num, by rw [BS.out]; exact ho.below hb2, hb.trans (hb2.mono hb.size)⟩
            case measure => simp [intOf]; omega
          · go_wp2_with fail
            (with_reducible refine HC.out.mono ?_); rintro e w2 ⟨rfl, hb2⟩
            have ho2 := ho.below hb2
            obtain ⟨hgl, c0, hfr⟩ := ho2.int (rel_get n t k f hlt)
            have ho3 := ho2.setInt (rel_get n t k f hlt) (bits .or .i64 (bitsTo (f t) k) (wrap64 ((2 : Int) ^ k)))
            rw [List.set_set] at ho3
            have HO3 := hide ho3; clear ho3
            go_wp2_with fail
            go_region
            go_wp2_with fail
            go_roundw
            case rel => exact ⟨k + 1, by omega, by go_num, by rw [BS.out]; exact HO3.out.below (Below.refl _ _).drew, ((hb.trans (hb2.mono hb.size)).setCell (Nat.le_refl _) _).drew⟩
            case measure => simp [intOf]; omega
        · have e : k = n := by omega
          rw [e, rel_done n t f hlt] at ho
          go_wp2_with fail
          go_roundw
          case rel => exact ⟨t + 1, by omega, by go_num, ho, hb⟩
          case measure => simp [intOf]; omega
    · have e : t = n := by omega
      rw [e, Nat.sub_self, List.replicate_zero, List.append_nil, List.take_of_length_le (by rw [relOf_length]; exact Nat.le_refl _)] at ho
      go_wp2_with fail
      go_ret
      exact ⟨_, rfl, ho, hb⟩


set_option maxRecDepth 100000 in
set_option maxHeartbeats 3200000 in
theorem delayRel_1 (B lc : Nat) (la : Option Addr) (L : List Ev) (w0 : World) (h1 : w0.cell? ⟨B, 0, none⟩ = some (.slice la L.length lc)) (hL : Rep EvE w0 (.slice la L.length lc) L) : TestsP_del ⟨B, 0, none⟩ L.length (poB L) w0 := by
  intro i k w hi hk hb
  have q1 := (hb.cell (p := ⟨B, 0, none⟩) (lt_of_cell h1)).trans h1
  obtain ⟨a, ha⟩ := get_of_lt hi
  obtain ⟨b, hbb⟩ := get_of_lt hk
  obtain ⟨d, o, rfl, hd, i0, i1, i2, i3, i4⟩ := (hL.below hb).ev ha
  obtain ⟨d', o', hde, hd', j0, j1, j2, j3, j4⟩ := (hL.below hb).ev hbb
  simp only [Option.some.injEq, Addr.mk.injEq, and_true] at hde
  obtain ⟨rfl, rfl⟩ := hde
  have hB1 := lt_of_cell q1
  have CE := hide (poB_eq ha hbb)
  have hi' := nat_of_lt hi; have hk' := nat_of_lt hk
  clear ha hbb hL h1 hb
  generalize poB L i k = R at *
  generalize L.length = n at *
  generalize a.t = at' at *; generalize b.t = bt' at *; generalize a.i = ai at *; generalize b.i = bi at *
  rcases Bool.eq_false_or_eq_true (decide (0 ≤ at')) with g0 | g0
  · rcases Bool.eq_false_or_eq_true ((at' == bt')) with g1 | g1
    · rcases Bool.eq_false_or_eq_true (decide (ai < bi)) with g2 | g2
      · obtain rfl : R = true := by rw [CE.out]; simp [g0, g1, g2]
        go_enter Tryz.func128, Tryz.ntmps128
        go_wp2_with fail
        refine wp_region_bw (by kernel_rfl) (by kernel_rfl) ?_
        repeat (go_big_quiet_step (fail))
        refine wpQuiet_nil ?_
        intro w5 hb5
        go_wp2_with fail
        go_ret
        exact ⟨rfl, hb5⟩
      · obtain rfl : R = false := by rw [CE.out]; simp [g0, g1, g2]
        go_enter Tryz.func128, Tryz.ntmps128
        go_wp2_with fail
        refine wp_region_bw (by kernel_rfl) (by kernel_rfl) ?_
        repeat (go_big_quiet_step (fail))
        refine wpQuiet_nil ?_
        intro w5 hb5
        go_wp2_with fail
        go_ret
        exact ⟨rfl, hb5⟩
    · obtain rfl : R = false := by rw [CE.out]; simp [g0, g1]
      go_enter Tryz.func128, Tryz.ntmps128
      go_wp2_with fail
      refine wp_region_bw (by kernel_rfl) (by kernel_rfl) ?_
      repeat (go_big_quiet_step (fail))
      refine wpQuiet_nil ?_
      intro w5 hb5
      go_wp2_with fail
      go_ret
      exact ⟨rfl, hb5⟩
  · obtain rfl : R = false := by rw [CE.out]; simp [g0]
    go_enter Tryz.func128, Tryz.ntmps128
    go_wp2_with fail
    refine wp_region_bw (by kernel_rfl) (by kernel_rfl) ?_
    repeat (go_big_quiet_step (fail))
    refine wpQuiet_nil ?_
    intro w5 hb5
    go_wp2_with fail
    go_ret
    exact ⟨rfl, hb5⟩

/-- The delays as a test. -/
def delF (n : Nat) (c po : Nat → Nat → Bool) : Nat → Nat → Bool := fAnd po (fInv (fOr (fComp n c c) (fComp n (fComp n c (fClo n (fOr c po))) c)))
def delays (p : List (List Ins)) : List Int := relOf (evAll p).length (delF (evAll p).length (confB (evAll p)) (poB (evAll p)))
def delayV (p : List (List Ins)) : List Int := if progValid p = true then delays p else []

theorem delF_spec (n : Nat) (c po : Nat → Nat → Bool) : fAnd po (fInv (fOr (fComp n c (fComp n (fClo n (fOr po c)) c)) (fComp n c c))) = delF n c po := by
  unfold delF
  have e1 : fOr po c = fOr c po := by funext i k; unfold fOr; exact Bool.or_comm _ _
  have e2 : fOr (fComp n c (fComp n (fClo n (fOr c po)) c)) (fComp n c c) = fOr (fComp n c c) (fComp n (fComp n c (fClo n (fOr c po))) c) := by
    funext i k
    unfold fOr
    rw [Bool.or_comm, ← fComp_assoc]
  rw [e1, e2]

set_option maxRecDepth 100000 in
set_option maxHeartbeats 1600000 in
theorem delayRel_any (v : Value) (p : List (List Ins)) (w : World) (hp : RepP w v p) (hl : p.flatten.length ≤ 50) (hn : (evAll p).length ≤ 16) :
    Calls Tryz.prog 60 #[v] w (RetOwn IntE 3 w (delays p)) := by
  have HP := hide hp
  have HE := hide (events_any v p w hp (by omega))
  have HCF := hide (fun w' h => conflictRel_any v p w' h hl)
  have CD : Hid (delays p = relOf (evAll p).length (delF (evAll p).length (confB (evAll p)) (poB (evAll p)))) := hide rfl
  have CC : Hid (conflicts p = relOf (evAll p).length (confB (evAll p))) := hide rfl
  clear hp
  go_enter Tryz.func60, Tryz.ntmps60
  go_wp2_with fail
  (with_reducible refine HE.out.mono ?_); rintro e w2 ⟨v2, rfl, o2, hb2⟩
  rw [CC.out] at HCF
  generalize evAll p = L at *
  obtain ⟨a2, c2, rfl, -, -, -, -⟩ := o2.rep.open
  have hb3 := belowAlloc0 w2 (.cells #[.slice a2 L.length c2] 143)
  have HB3 := hide (hb2.trans (hb3.mono hb2.size))
  have m1 : (w2.alloc (.cells #[.slice a2 L.length c2] 143)).cell? ⟨w2.heap.size, 0, none⟩ = some (.slice a2 L.length c2) := by simp [go_sem]
  have HC := hide (pairsOf_del ⟨w2.heap.size, 0, none⟩ L.length (poB L) _ (by omega) (delayRel_1 w2.heap.size c2 a2 L _ m1 (o2.rep.below hb3)))
  have HP3 := hide (HP.out.below HB3.out)
  clear m1 hb3 hb2 o2 HE HP
  generalize hP' : poB L = po at *
  generalize hC' : confB L = cf at *
  clear hP' hC'
  generalize L.length = n at *
  go_wp2_with fail
  (with_reducible refine HC.out.mono ?_); rintro e w4 ⟨u4, rfl, o4, hb4⟩
  have PO4 := hide o4.rep; have HB4 := hide (HB3.out.trans (hb4.mono HB3.out.size)); have HP4 := hide (HP3.out.below hb4)
  clear o4 hb4 HC HB3 HP3
  go_wp2_with fail
  (with_reducible refine (HCF.out _ HP4.out).mono ?_); rintro e w5 ⟨u5, rfl, o5, hb5⟩
  have CF5 := hide o5.rep; have HB5 := hide (HB4.out.trans (hb5.mono HB4.out.size)); have PO5 := hide (PO4.out.below hb5)
  clear o5 hb5 HCF HB4 HP4 PO4
  go_wp2_with fail
  (with_reducible refine (ComposeRel_any u5 u5 n cf cf _ CF5.out CF5.out hn).mono ?_); rintro e w6 ⟨u6, rfl, o6, hb6⟩
  have CC6 := hide o6.rep; have CF6 := hide (CF5.out.below hb6); have HB6 := hide (HB5.out.trans (hb6.mono HB5.out.size)); have PO6 := hide (PO5.out.below hb6)
  clear o6 hb6 CF5 HB5 PO5
  go_wp2_with fail
  (with_reducible refine (UnionRel_any u5 u4 n cf po _ CF6.out PO6.out hn).mono ?_); rintro e w7 ⟨u7, rfl, o7, hb7⟩
  have CC7 := hide (CC6.out.below hb7); have CF7 := hide (CF6.out.below hb7); have HB7 := hide (HB6.out.trans (hb7.mono HB6.out.size)); have PO7 := hide (PO6.out.below hb7); have U7 := hide o7.rep
  clear o7 hb7 CF6 HB6 PO6 CC6
  go_wp2_with fail
  (with_reducible refine (ClosureRel_any u7 n (fOr cf po) _ U7.out hn).mono ?_); rintro e w8 ⟨u8, rfl, o8, hb8⟩
  have CC8 := hide (CC7.out.below hb8); have CF8 := hide (CF7.out.below hb8); have HB8 := hide (HB7.out.trans (hb8.mono HB7.out.size)); have PO8 := hide (PO7.out.below hb8); have U8 := hide o8.rep
  clear o8 hb8 CF7 HB7 PO7 CC7 U7
  go_wp2_with fail
  (with_reducible refine (ComposeRel_any u5 u8 n cf (fClo n (fOr cf po)) _ CF8.out U8.out hn).mono ?_); rintro e w9 ⟨u9, rfl, o9, hb9⟩
  have CC9 := hide (CC8.out.below hb9); have CF9 := hide (CF8.out.below hb9); have HB9 := hide (HB8.out.trans (hb9.mono HB8.out.size)); have PO9 := hide (PO8.out.below hb9); have U9 := hide o9.rep
  clear o9 hb9 CF8 HB8 PO8 CC8 U8
  go_wp2_with fail
  (with_reducible refine (ComposeRel_any u9 u5 n (fComp n cf (fClo n (fOr cf po))) cf _ U9.out CF9.out hn).mono ?_); rintro e w10 ⟨u10, rfl, o10, hb10⟩
  have CC10 := hide (CC9.out.below hb10); have HB10 := hide (HB9.out.trans (hb10.mono HB9.out.size)); have PO10 := hide (PO9.out.below hb10); have U10 := hide o10.rep
  clear o10 hb10 CF9 HB9 PO9 CC9 U9
  go_wp2_with fail
  (with_reducible refine (UnionRel_any u6 u10 n (fComp n cf cf) (fComp n (fComp n cf (fClo n (fOr cf po))) cf) _ CC10.out U10.out hn).mono ?_); rintro e w11 ⟨u11, rfl, o11, hb11⟩
  have HB11 := hide (HB10.out.trans (hb11.mono HB10.out.size)); have PO11 := hide (PO10.out.below hb11); have U11 := hide o11.rep
  clear o11 hb11 HB10 PO10 CC10 U10
  go_wp2_with fail
  (with_reducible refine (InverseRel_any u11 n _ _ U11.out hn).mono ?_); rintro e w12 ⟨u12, rfl, o12, hb12⟩
  have HB12 := hide (HB11.out.trans (hb12.mono HB11.out.size)); have PO12 := hide (PO11.out.below hb12); have U12 := hide o12.rep
  clear o12 hb12 HB11 PO11 U11
  go_wp2_with fail
  (with_reducible refine (MeetRel_any u4 u12 n po _ _ PO12.out U12.out hn).mono ?_); rintro e w13 ⟨u13, rfl, o13, hb13⟩
  have HO := hide o13; have HB13 := hide (HB12.out.trans (hb13.mono HB12.out.size)); have hsz := HB12.out.size
  clear o13 hb13 HB12 PO12 U12
  go_wp2_with fail
  go_ret
  rw [CD.out]
  exact ⟨_, rfl, HO.out.mono hsz, HB13.out⟩

set_option maxHeartbeats 400000 in
theorem DelayRel_any (v : Value) (p : List (List Ins)) (w : World) (hp : RepP w v p) (hl : p.flatten.length ≤ 1048576) :
    Calls Tryz.prog 12 #[v] w (RetOwn IntE 3 w (delayV p)) := by
  have HP := hide hp; clear hp
  have HV := hide (fun w' h => ProgramValid_any v p w' h hl)
  have E2 : Hid (delayV p = if progValid p = true then delays p else []) := hide rfl
  have HF : Hid (progValid p = true → p.flatten.length ≤ 50 ∧ (evAll p).length ≤ 16) := hide (fun h => by
    obtain ⟨hv1, -, hv3, -, -⟩ := valid_le h
    have := flatten_le7' (p := p) (fun r hr => (hv3 r hr).1)
    have := evAll_le h
    omega)
  obtain ⟨a, c, rfl, -, -, -, -⟩ := HP.out.open
  generalize progValid p = b at *
  cases b
  · go_enter Tryz.func12, Tryz.ntmps12
    go_wp2_with fail
    (with_reducible refine (HV.out _ HP.out).mono ?_); rintro e w1 ⟨rfl, hb1⟩
    go_wp2_with fail
    go_ret
    rw [E2.out]
    exact ⟨_, rfl, Own.nil _ _ _, hb1⟩
  · have E3 : Hid (delayV p = delays p) := hide (by rw [E2.out]; rfl)
    have HC := hide (fun w' h => delayRel_any (.slice a p.length c) p w' h (HF.out rfl).1 (HF.out rfl).2)
    go_enter Tryz.func12, Tryz.ntmps12
    go_wp2_with fail
    (with_reducible refine (HV.out _ HP.out).mono ?_); rintro e w1 ⟨rfl, hb1⟩
    go_wp2_with fail
    (with_reducible refine (HC.out _ (HP.out.below hb1)).mono ?_); rintro e w2 ⟨v2, rfl, o2, hb2⟩
    go_wp2_with fail
    go_ret
    rw [E3.out]
    exact ⟨_, rfl, o2.mono hb1.size, hb1.trans (hb2.mono hb1.size)⟩

set_option maxRecDepth 100000 in
set_option maxHeartbeats 3200000 in
theorem l10Po_any (v : Value) (p : List (List Ins)) (w : World) (hp : RepP w v p) (hl : p.flatten.length ≤ 50) :
    Calls Tryz.prog 142 #[v] w (RetOwn IntE 3 w (relOf (evAll p).length (poB (evAll p)))) := by
  obtain ⟨a, c, rfl, -, -, -, hp⟩ := hp.open
  have HP := hide hp; clear hp
  have HE := hide (fun w' h => l6Events_any (.slice a p.length c) p w' h (by omega))
  have hn : (evAll p).length ≤ 60 := by have := evAll_length p; omega
  go_enter Tryz.func142, Tryz.ntmps142
  go_wp2_with fail
  (with_reducible refine (HE.out _ HP.out).mono ?_); rintro e w2 ⟨v2, rfl, o2, hb2⟩
  generalize evAll p = L at *
  obtain ⟨a2, c2, rfl, -, -, -, -⟩ := o2.rep.open
  generalize hnn : L.length = n at *
  have H := hide hnn; clear hnn
  have hown := Own.empty (E := IntE) 3 w2 (Nat.le_refl _)
  have hb3 := belowAlloc0 w2 (.cells #[] 3)
  have HL := hide o2.rep
  have HB2 := hide hb2
  clear o2 hb2
  go_wp2_with fail
  go_loopw [4, 5] (fun s i wr => ∃ t : Nat, t ≤ n ∧ i = .int .i64 t ∧ Hid (OwnN wr w2.heap.size s ((relOf n (poB L)).take t)) ∧ Hid (Below w2.heap.size w2 wr)) (fun _ i _ => n - (intOf i).toNat)
  case atStart => exact ⟨0, by omega, rfl, hide (by simpa using hown), hide hb3⟩
  case round =>
    obtain ⟨t, ht, rfl, HO, HB⟩ := hrel
    by_cases hlt : t < n
    · have hlt' := nat_of_lt hlt
      have TS := hide (take_rel n t (poB L) hlt)
      have TL : ((relOf n (poB L)).take t).length ≤ 68719476736 := by rw [List.length_take, relOf_length]; omega
      generalize (relOf n (poB L)).take t = G at *
      obtain ⟨ea, hea⟩ := get_of_lt (xs := L) (k := t) (by rw [H.out]; exact hlt)
      go_wp2_with fail
      go_loopw [6, 7] (fun q i wr => ∃ k : Nat, k ≤ n ∧ i = .int .i64 k ∧ q = .int .i64 (bitsTo (poB L t) k) ∧ Hid (OwnN wr w2.heap.size u4 G) ∧ Hid (Below w2.heap.size w2 wr)) (fun _ i _ => n - (intOf i).toNat)
      case atStart => exact ⟨0, by omega, rfl, rfl, HO, HB⟩
      case round =>
        obtain ⟨k, hk, rfl, rfl, HO, HB⟩ := hrel
        by_cases hlt2 : k < n
        · have hlt2' := nat_of_lt hlt2
          obtain ⟨eb, heb⟩ := get_of_lt (xs := L) (k := k) (by rw [H.out]; exact hlt2)
          obtain ⟨d, o1, rfl, hd, i0, i1, i2, i3, i4⟩ := (HL.out.below HB.out).ev hea
          obtain ⟨d', o1', hde, hd', j0, j1, j2, j3, j4⟩ := (HL.out.below HB.out).ev heb
          simp only [Option.some.injEq, Addr.mk.injEq, and_true] at hde
          obtain ⟨rfl, rfl⟩ := hde
          have CE := hide (poB_eq hea heb)
          have BS := hide (bitsTo_step (poB L t) k)
          generalize hR : poB L t k = R at *
          generalize bitsTo (poB L t) k = row at *
          generalize hrow2 : bitsTo (poB L t) (k + 1) = row2 at *
          have RW2 := hide hrow2; clear hrow2 hR
          have HEB := hide heb; have HEA := hide hea
          clear heb
          generalize ea.t = at' at *; generalize eb.t = bt' at *; generalize ea.i = ai at *; generalize eb.i = bi at *
          rcases Bool.eq_false_or_eq_true (decide (0 ≤ at')) with g0 | g0
          · rcases Bool.eq_false_or_eq_true ((at' == bt')) with g1 | g1
            · rcases Bool.eq_false_or_eq_true (decide (ai < bi)) with g2 | g2
              · obtain rfl : R = true := by rw [CE.out]; simp [g0, g1, g2]
                obtain rfl : row2 = bits .or .i64 row (wrap64 ((2 : Int) ^ k)) := by rw [BS.out]; rfl
                clear CE BS
                go_wp2_with fail
                refine wp_region_bw (by kernel_rfl) (by kernel_rfl) ?_
                repeat (go_big_quiet_step (fail))
                refine wpQuiet_nil ?_
                intro w5 hb5
                have HO5 := hide (HO.out.below hb5); have HB5 := hide (HB.out.trans (hb5.mono HB.out.size))
                clear hb5
                go_wp2_with fail
                go_roundw
                case rel => exact ⟨k + 1, by omega, by go_num, by rw [RW2.out], HO5, HB5⟩
                case measure => simp [intOf]; omega
              · obtain rfl : R = false := by rw [CE.out]; simp [g0, g1, g2]
                obtain rfl : row2 = row := by rw [BS.out]; rfl
                clear CE BS
                go_wp2_with fail
                refine wp_region_bw (by kernel_rfl) (by kernel_rfl) ?_
                repeat (go_big_quiet_step (fail))
                refine wpQuiet_nil ?_
                intro w5 hb5
                have HO5 := hide (HO.out.below hb5); have HB5 := hide (HB.out.trans (hb5.mono HB.out.size))
                clear hb5
                go_wp2_with fail
                go_roundw
                case rel => exact ⟨k + 1, by omega, by go_num, by rw [RW2.out], HO5, HB5⟩
                case measure => simp [intOf]; omega
            · obtain rfl : R = false := by rw [CE.out]; simp [g0, g1]
              obtain rfl : row2 = row := by rw [BS.out]; rfl
              clear CE BS
              go_wp2_with fail
              refine wp_region_bw (by kernel_rfl) (by kernel_rfl) ?_
              repeat (go_big_quiet_step (fail))
              refine wpQuiet_nil ?_
              intro w5 hb5
              have HO5 := hide (HO.out.below hb5); have HB5 := hide (HB.out.trans (hb5.mono HB.out.size))
              clear hb5
              go_wp2_with fail
              go_roundw
              case rel => exact ⟨k + 1, by omega, by go_num, by rw [RW2.out], HO5, HB5⟩
              case measure => simp [intOf]; omega
          · obtain rfl : R = false := by rw [CE.out]; simp [g0]
            obtain rfl : row2 = row := by rw [BS.out]; rfl
            clear CE BS
            go_wp2_with fail
            refine wp_region_bw (by kernel_rfl) (by kernel_rfl) ?_
            repeat (go_big_quiet_step (fail))
            refine wpQuiet_nil ?_
            intro w5 hb5
            have HO5 := hide (HO.out.below hb5); have HB5 := hide (HB.out.trans (hb5.mono HB.out.size))
            clear hb5
            go_wp2_with fail
            go_roundw
            case rel => exact ⟨k + 1, by omega, by go_num, by rw [RW2.out], HO5, HB5⟩
            case measure => simp [intOf]; omega
        · have e : k = n := by omega
          subst e
          have HO1 := hide (HO.out.alloc (.cells #[.int .i64 (bitsTo (poB L t) k)] 3))
          have hsz := HB.out.size
          go_wp2_with (at_builtin; refine wpList_app IntE 3 Tryz.infoInt rfl Tryz.underlying25 w2.heap.size _ G (bitsTo (poB L t) k) HO1.out (by decide) TL (by simp; omega) rfl _ _ rfl rfl wr.heap.size 0 1 rfl news_alloc ?_; intro v' w1 hown1 hgr1)
          have HOWN6 := hide hown1; have HB6 := hide (below_app HB.out HO.out hgr1)
          clear hown1 hgr1
          go_roundw
          case rel => exact ⟨t + 1, by omega, by go_num, hide (by rw [TS.out]; exact HOWN6.out), HB6⟩
          case measure => simp [intOf]; omega
    · have e : t = n := by omega
      subst e
      have ho := HO.out
      rw [List.take_of_length_le (by rw [relOf_length]; exact Nat.le_refl _)] at ho
      have HO2 := hide ho
      clear ho
      go_wp2_with fail
      go_ret
      exact ⟨_, rfl, HO2.out.mono HB2.out.size, HB2.out.trans (HB.out.mono HB2.out.size)⟩

set_option maxRecDepth 100000 in
set_option maxHeartbeats 1600000 in
theorem l10Delays_any (v : Value) (p : List (List Ins)) (w : World) (hp : RepP w v p) (hl : p.flatten.length ≤ 50) :
    Calls Tryz.prog 63 #[v] w (RetOwn IntE 3 w (delays p)) := by
  have HP := hide hp
  have HPO := hide (l10Po_any v p w hp hl)
  have HCF := hide (fun w' h => l10Conflicts_any v p w' h hl)
  have hn : (evAll p).length ≤ 60 := by have := evAll_length p; omega
  have CD : Hid (delays p = relOf (evAll p).length (delF (evAll p).length (confB (evAll p)) (poB (evAll p)))) := hide rfl
  have CC : Hid (conflicts p = relOf (evAll p).length (confB (evAll p))) := hide rfl
  rw [CC.out] at HCF
  clear hp
  generalize evAll p = L at *
  generalize hP' : poB L = po at *
  generalize hC' : confB L = cf at *
  clear hP' hC'
  generalize L.length = n at *
  have DS := hide (delF_spec n cf po)
  go_enter Tryz.func63, Tryz.ntmps63
  go_wp2_with fail
  (with_reducible refine HPO.out.mono ?_); rintro e w4 ⟨u4, rfl, o4, hb4⟩
  have PO4 := hide o4.rep; have HB4 := hide hb4; have HP4 := hide (HP.out.below hb4)
  clear o4 hb4 HPO HP
  go_wp2_with fail
  (with_reducible refine (HCF.out _ HP4.out).mono ?_); rintro e w5 ⟨u5, rfl, o5, hb5⟩
  have CF5 := hide o5.rep; have HB5 := hide (HB4.out.trans (hb5.mono HB4.out.size)); have PO5 := hide (PO4.out.below hb5)
  clear o5 hb5 HCF HB4 HP4 PO4
  go_wp2_with fail
  (with_reducible refine (l2Union_any u4 u5 n po cf _ PO5.out CF5.out hn).mono ?_); rintro e w6 ⟨u6, rfl, o6, hb6⟩
  have U6 := hide o6.rep; have CF6 := hide (CF5.out.below hb6); have HB6 := hide (HB5.out.trans (hb6.mono HB5.out.size)); have PO6 := hide (PO5.out.below hb6)
  clear o6 hb6 CF5 HB5 PO5
  go_wp2_with fail
  (with_reducible refine (l2Closure_any u6 n _ _ U6.out hn).mono ?_); rintro e w7 ⟨u7, rfl, o7, hb7⟩
  have U7 := hide o7.rep; have CF7 := hide (CF6.out.below hb7); have HB7 := hide (HB6.out.trans (hb7.mono HB6.out.size)); have PO7 := hide (PO6.out.below hb7)
  clear o7 hb7 CF6 HB6 PO6 U6
  go_wp2_with fail
  (with_reducible refine (l2Compose_any u7 u5 n _ cf _ U7.out CF7.out hn).mono ?_); rintro e w8 ⟨u8, rfl, o8, hb8⟩
  have U8 := hide o8.rep; have CF8 := hide (CF7.out.below hb8); have HB8 := hide (HB7.out.trans (hb8.mono HB7.out.size)); have PO8 := hide (PO7.out.below hb8)
  clear o8 hb8 CF7 HB7 PO7 U7
  go_wp2_with fail
  (with_reducible refine (l2Compose_any u5 u8 n cf _ _ CF8.out U8.out hn).mono ?_); rintro e w9 ⟨u9, rfl, o9, hb9⟩
  have U9 := hide o9.rep; have CF9 := hide (CF8.out.below hb9); have HB9 := hide (HB8.out.trans (hb9.mono HB8.out.size)); have PO9 := hide (PO8.out.below hb9)
  clear o9 hb9 CF8 HB8 PO8 U8
  go_wp2_with fail
  (with_reducible refine (l2Compose_any u5 u5 n cf cf _ CF9.out CF9.out hn).mono ?_); rintro e w10 ⟨u10, rfl, o10, hb10⟩
  have U10 := hide o10.rep; have U9' := hide (U9.out.below hb10); have HB10 := hide (HB9.out.trans (hb10.mono HB9.out.size)); have PO10 := hide (PO9.out.below hb10)
  clear o10 hb10 CF9 HB9 PO9 U9
  go_wp2_with fail
  (with_reducible refine (l2Union_any u9 u10 n _ _ _ U9'.out U10.out hn).mono ?_); rintro e w11 ⟨u11, rfl, o11, hb11⟩
  have U11 := hide o11.rep; have HB11 := hide (HB10.out.trans (hb11.mono HB10.out.size)); have PO11 := hide (PO10.out.below hb11)
  clear o11 hb11 HB10 PO10 U9' U10
  go_wp2_with fail
  (with_reducible refine (l2Inverse_any u11 n _ _ U11.out hn).mono ?_); rintro e w12 ⟨u12, rfl, o12, hb12⟩
  have U12 := hide o12.rep; have HB12 := hide (HB11.out.trans (hb12.mono HB11.out.size)); have PO12 := hide (PO11.out.below hb12)
  clear o12 hb12 HB11 PO11 U11
  go_wp2_with fail
  (with_reducible refine (l2Meet_any u4 u12 n po _ _ PO12.out U12.out hn).mono ?_); rintro e w13 ⟨u13, rfl, o13, hb13⟩
  have HO := hide o13; have HB13 := hide (HB12.out.trans (hb13.mono HB12.out.size)); have hsz := HB12.out.size
  clear o13 hb13 HB12 PO12 U12
  go_wp2_with fail
  go_ret
  rw [CD.out, ← DS.out]
  exact ⟨_, rfl, HO.out.mono hsz, HB13.out⟩

set_option maxHeartbeats 400000 in
theorem sDelayRel_any (v : Value) (p : List (List Ins)) (w : World) (hp : RepP w v p) (hl : p.flatten.length ≤ 1048576) (hpl : p.length ≤ 1048576) :
    Calls Tryz.prog 15 #[v] w (RetOwn IntE 3 w (delayV p)) := by
  have HP := hide hp; clear hp
  have HV := hide (fun w' h => sProgramValid_any v p w' h hl hpl)
  have E2 : Hid (delayV p = if progValid p = true then delays p else []) := hide rfl
  have HF : Hid (progValid p = true → p.flatten.length ≤ 50) := hide (fun h => by
    obtain ⟨hv1, -, hv3, -, -⟩ := valid_le h
    have := flatten_le7' (p := p) (fun r hr => (hv3 r hr).1)
    omega)
  obtain ⟨a, c, rfl, -, -, -, -⟩ := HP.out.open
  generalize progValid p = b at *
  cases b
  · go_enter Tryz.func15, Tryz.ntmps15
    go_wp2_with fail
    (with_reducible refine (HV.out _ HP.out).mono ?_); rintro e w1 ⟨rfl, hb1⟩
    go_wp2_with fail
    go_ret
    rw [E2.out]
    exact ⟨_, rfl, Own.empty _ _ hb1.size, hb1.trans ((belowAlloc0 _ _).mono hb1.size)⟩
  · have E3 : Hid (delayV p = delays p) := hide (by rw [E2.out]; rfl)
    have HC := hide (fun w' h => l10Delays_any (.slice a p.length c) p w' h (HF.out rfl))
    go_enter Tryz.func15, Tryz.ntmps15
    go_wp2_with fail
    (with_reducible refine (HV.out _ HP.out).mono ?_); rintro e w1 ⟨rfl, hb1⟩
    go_wp2_with fail
    (with_reducible refine (HC.out _ (HP.out.below hb1)).mono ?_); rintro e w2 ⟨v2, rfl, o2, hb2⟩
    go_wp2_with fail
    go_ret
    rw [E3.out]
    exact ⟨_, rfl, o2.mono hb1.size, hb1.trans (hb2.mono hb1.size)⟩

end Go.Proofs.YtpbmlppdmdmfkaaGreatDoor

namespace Go.Proofs.YtpbmlppdmdmfkaaGreatDoor
open Go.RowKit

theorem bits_andu (a b : Nat) (ha : a < 18446744073709551616) (hb : b < 18446744073709551616) : bits .and .u64 (a : Int) (b : Int) = ((a &&& b : Nat) : Int) := by
  have h1 : (BitVec.ofInt 64 (a : Int)).toNat = a := by
    rw [BitVec.ofInt_natCast, BitVec.toNat_ofNat]; exact Nat.mod_eq_of_lt (by omega)
  have h2 : (BitVec.ofInt 64 (b : Int)).toNat = b := by
    rw [BitVec.ofInt_natCast, BitVec.toNat_ofNat]; exact Nat.mod_eq_of_lt (by omega)
  have h3 : a &&& b ≤ a := Nat.and_le_left
  show IntKind.u64.wrap ((BitVec.ofInt 64 (a : Int) &&& BitVec.ofInt 64 (b : Int)).toNat : Int) = _
  rw [BitVec.toNat_and, h1, h2, IntKind.wrap_u64]
  omega

def oc1 (x : Nat) : Nat := (x / 2 &&& 6148914691236517205) + (x &&& 6148914691236517205)
def oc2 (y : Nat) : Nat := (y / 4 &&& 3689348814741910323) + (y &&& 3689348814741910323)
def oc3 (y : Nat) : Nat := (y / 16 + y) &&& 1085102592571150095
def oc4 (y : Nat) : Nat := y + y / 256
def oc5 (y : Nat) : Nat := y + y / 65536
def oc6 (y : Nat) : Nat := y + y / 4294967296
def ones (x : Nat) : Nat := oc6 (oc5 (oc4 (oc3 (oc2 (oc1 x))))) &&& 127

theorem oc1_le (x : Nat) : oc1 x ≤ 2 * x := by have h1 : x / 2 &&& 6148914691236517205 ≤ x / 2 := Nat.and_le_left; have h2 : x &&& 6148914691236517205 ≤ x := Nat.and_le_left; unfold oc1; omega
theorem oc2_le (x : Nat) : oc2 x ≤ 2 * x := by have h1 : x / 4 &&& 3689348814741910323 ≤ x / 4 := Nat.and_le_left; have h2 : x &&& 3689348814741910323 ≤ x := Nat.and_le_left; unfold oc2; omega
theorem oc3_le (x : Nat) : oc3 x ≤ 2 * x := by have h1 : (x / 16 + x) &&& 1085102592571150095 ≤ x / 16 + x := Nat.and_le_left; unfold oc3; omega

set_option maxRecDepth 100000 in
set_option maxHeartbeats 1600000 in
theorem OnesCount64_any (x : Nat) (w : World) (hx : x < 32768) :
    Calls Tryz.prog 155 #[.int .u64 x] w fun e w' => e = .returned (.int .i64 (ones x : Nat)) ∧ w' = w := by
  obtain ⟨y1, hy1⟩ : ∃ y, oc1 x = y := ⟨_, rfl⟩
  obtain ⟨y2, hy2⟩ : ∃ y, oc2 y1 = y := ⟨_, rfl⟩
  obtain ⟨y3, hy3⟩ : ∃ y, oc3 y2 = y := ⟨_, rfl⟩
  obtain ⟨y4, hy4⟩ : ∃ y, oc4 y3 = y := ⟨_, rfl⟩
  obtain ⟨y5, hy5⟩ : ∃ y, oc5 y4 = y := ⟨_, rfl⟩
  obtain ⟨y6, hy6⟩ : ∃ y, oc6 y5 = y := ⟨_, rfl⟩
  have b1 := oc1_le x; have b2 := oc2_le y1; have b3 := oc3_le y2
  rw [hy1] at b1; rw [hy2] at b2; rw [hy3] at b3
  have b4 : y4 ≤ 2 * y3 := by rw [← hy4]; unfold oc4; omega
  have b5 : y5 ≤ 2 * y4 := by rw [← hy5]; unfold oc5; omega
  have b6 : y6 ≤ 2 * y5 := by rw [← hy6]; unfold oc6; omega
  have E0 : Hid (ones x = y6 &&& 127) := hide (by unfold ones; rw [hy1, hy2, hy3, hy4, hy5, hy6])
  have E1 : IntKind.u64.wrap (bits .and .u64 ((x : Int) / 2) 6148914691236517205 + bits .and .u64 (x : Int) 6148914691236517205) = (y1 : Int) := by
    have h1 := bits_andu (x / 2) 6148914691236517205 (by omega) (by omega)
    have h2 := bits_andu x 6148914691236517205 (by omega) (by omega)
    rw [show ((x / 2 : Nat) : Int) = (x : Int) / 2 by omega] at h1
    have h1' : bits .and .u64 ((x : Int) / 2) 6148914691236517205 = ((x / 2 &&& 6148914691236517205 : Nat) : Int) := h1
    have h2' : bits .and .u64 (x : Int) 6148914691236517205 = ((x &&& 6148914691236517205 : Nat) : Int) := h2
    rw [h1', h2', IntKind.wrap_u64]
    unfold oc1 at hy1
    omega
  have E2 : IntKind.u64.wrap (bits .and .u64 ((y1 : Int) / 4) 3689348814741910323 + bits .and .u64 (y1 : Int) 3689348814741910323) = (y2 : Int) := by
    have h1 := bits_andu (y1 / 4) 3689348814741910323 (by omega) (by omega)
    have h2 := bits_andu y1 3689348814741910323 (by omega) (by omega)
    rw [show ((y1 / 4 : Nat) : Int) = (y1 : Int) / 4 by omega] at h1
    have h1' : bits .and .u64 ((y1 : Int) / 4) 3689348814741910323 = ((y1 / 4 &&& 3689348814741910323 : Nat) : Int) := h1
    have h2' : bits .and .u64 (y1 : Int) 3689348814741910323 = ((y1 &&& 3689348814741910323 : Nat) : Int) := h2
    rw [h1', h2', IntKind.wrap_u64]
    unfold oc2 at hy2
    omega
  have E3 : bits .and .u64 ((y2 : Int) / 16 + (y2 : Int)) 1085102592571150095 = (y3 : Int) := by
    have h1 := bits_andu (y2 / 16 + y2) 1085102592571150095 (by omega) (by omega)
    have e : (y2 : Int) / 16 + (y2 : Int) = ((y2 / 16 + y2 : Nat) : Int) := by omega
    rw [e]
    unfold oc3 at hy3
    rw [← hy3]
    exact h1
  have E4 : IntKind.u64.wrap ((y3 : Int) + (y3 : Int) / 256) = (y4 : Int) := by rw [IntKind.wrap_u64]; unfold oc4 at hy4; omega
  have E5 : IntKind.u64.wrap ((y4 : Int) + (y4 : Int) / 65536) = (y5 : Int) := by rw [IntKind.wrap_u64]; unfold oc5 at hy5; omega
  have E6 : IntKind.u64.wrap ((y5 : Int) + (y5 : Int) / 4294967296) = (y6 : Int) := by rw [IntKind.wrap_u64]; unfold oc6 at hy6; omega
  have E7 : bits .and .i64 (y6 : Int) 127 = ((y6 &&& 127 : Nat) : Int) := bits_and_nat y6 127 (by omega) (by omega)
  have E8 : wrap64 (y6 : Int) = (y6 : Int) := by unfold wrap64; omega
  clear hy1 hy2 hy3 hy4 hy5 hy6
  go_enter Tryz.func155, Tryz.ntmps155
  go_wp2
  go_ret
  rw [E0.out]
  exact ⟨rfl, rfl⟩

theorem OnesCount_any (x : Nat) (w : World) (hx : x < 32768) :
    Calls Tryz.prog 68 #[.int .u64 x] w fun e w' => e = .returned (.int .i64 (ones x : Nat)) ∧ w' = w := by
  have HC := hide (OnesCount64_any x w hx)
  generalize ones x = q at *
  go_enter Tryz.func68, Tryz.ntmps68
  go_wp2_with fail
  (with_reducible refine HC.out.mono ?_); rintro e w1 ⟨rfl, rfl⟩
  go_wp2_with fail
  go_ret
  exact ⟨rfl, rfl⟩

end Go.Proofs.YtpbmlppdmdmfkaaGreatDoor

namespace Go.Proofs.YtpbmlppdmdmfkaaGreatDoor
open Go.RowKit

/-- The number of the first n elements of which f holds. -/
def cntB (f : Nat → Bool) : Nat → Nat
  | 0 => 0
  | n + 1 => cntB f n + if f n = true then 1 else 0
theorem cntB_le (f : Nat → Bool) (n : Nat) : cntB f n ≤ n := by
  induction n with
  | zero => exact Nat.le_refl _
  | succ n ih => simp only [cntB]; split <;> omega
theorem cntB_congr {f g : Nat → Bool} : ∀ n, (∀ k, k < n → f k = g k) → cntB f n = cntB g n := by
  intro n
  induction n with
  | zero => intro _; rfl
  | succ n ih => intro h; simp only [cntB]; rw [ih (fun k hk => h k (by omega)), h n (by omega)]

/-- The sum of the lowest 15 bits. -/
def popN (x : Nat) : Nat := x % 2 + x / 2 % 2 + x / 4 % 2 + x / 8 % 2 + x / 16 % 2 + x / 32 % 2 + x / 64 % 2 + x / 128 % 2 + x / 256 % 2 + x / 512 % 2 + x / 1024 % 2 + x / 2048 % 2 + x / 4096 % 2 + x / 8192 % 2 + x / 16384 % 2
def chkO : Nat → Nat → Bool
  | 0, _ => true
  | n + 1, s => Nat.beq (ones s) (popN s) && chkO n (s + 1)
theorem chkO_spec : ∀ n s, chkO n s = true → ∀ x, s ≤ x → x < s + n → ones x = popN x := by
  intro n
  induction n with
  | zero => intro s _ x h1 h2; omega
  | succ n ih =>
    intro s h x h1 h2
    simp only [chkO, Bool.and_eq_true] at h
    by_cases e : x = s
    · rw [e]; exact Nat.eq_of_beq_eq_true h.1
    · exact ih (s + 1) h.2 x (by omega) (by omega)
theorem chkO_0 : chkO 512 0 = true := by kernel_rfl
theorem chkO_1 : chkO 512 512 = true := by kernel_rfl
theorem chkO_2 : chkO 512 1024 = true := by kernel_rfl
theorem chkO_3 : chkO 512 1536 = true := by kernel_rfl
theorem chkO_4 : chkO 512 2048 = true := by kernel_rfl
theorem chkO_5 : chkO 512 2560 = true := by kernel_rfl
theorem chkO_6 : chkO 512 3072 = true := by kernel_rfl
theorem chkO_7 : chkO 512 3584 = true := by kernel_rfl
theorem chkO_8 : chkO 512 4096 = true := by kernel_rfl
theorem chkO_9 : chkO 512 4608 = true := by kernel_rfl
theorem chkO_10 : chkO 512 5120 = true := by kernel_rfl
theorem chkO_11 : chkO 512 5632 = true := by kernel_rfl
theorem chkO_12 : chkO 512 6144 = true := by kernel_rfl
theorem chkO_13 : chkO 512 6656 = true := by kernel_rfl
theorem chkO_14 : chkO 512 7168 = true := by kernel_rfl
theorem chkO_15 : chkO 512 7680 = true := by kernel_rfl
theorem chkO_16 : chkO 512 8192 = true := by kernel_rfl
theorem chkO_17 : chkO 512 8704 = true := by kernel_rfl
theorem chkO_18 : chkO 512 9216 = true := by kernel_rfl
theorem chkO_19 : chkO 512 9728 = true := by kernel_rfl
theorem chkO_20 : chkO 512 10240 = true := by kernel_rfl
theorem chkO_21 : chkO 512 10752 = true := by kernel_rfl
theorem chkO_22 : chkO 512 11264 = true := by kernel_rfl
theorem chkO_23 : chkO 512 11776 = true := by kernel_rfl
theorem chkO_24 : chkO 512 12288 = true := by kernel_rfl
theorem chkO_25 : chkO 512 12800 = true := by kernel_rfl
theorem chkO_26 : chkO 512 13312 = true := by kernel_rfl
theorem chkO_27 : chkO 512 13824 = true := by kernel_rfl
theorem chkO_28 : chkO 512 14336 = true := by kernel_rfl
theorem chkO_29 : chkO 512 14848 = true := by kernel_rfl
theorem chkO_30 : chkO 512 15360 = true := by kernel_rfl
theorem chkO_31 : chkO 512 15872 = true := by kernel_rfl
theorem chkO_32 : chkO 512 16384 = true := by kernel_rfl
theorem chkO_33 : chkO 512 16896 = true := by kernel_rfl
theorem chkO_34 : chkO 512 17408 = true := by kernel_rfl
theorem chkO_35 : chkO 512 17920 = true := by kernel_rfl
theorem chkO_36 : chkO 512 18432 = true := by kernel_rfl
theorem chkO_37 : chkO 512 18944 = true := by kernel_rfl
theorem chkO_38 : chkO 512 19456 = true := by kernel_rfl
theorem chkO_39 : chkO 512 19968 = true := by kernel_rfl
theorem chkO_40 : chkO 512 20480 = true := by kernel_rfl
theorem chkO_41 : chkO 512 20992 = true := by kernel_rfl
theorem chkO_42 : chkO 512 21504 = true := by kernel_rfl
theorem chkO_43 : chkO 512 22016 = true := by kernel_rfl
theorem chkO_44 : chkO 512 22528 = true := by kernel_rfl
theorem chkO_45 : chkO 512 23040 = true := by kernel_rfl
theorem chkO_46 : chkO 512 23552 = true := by kernel_rfl
theorem chkO_47 : chkO 512 24064 = true := by kernel_rfl
theorem chkO_48 : chkO 512 24576 = true := by kernel_rfl
theorem chkO_49 : chkO 512 25088 = true := by kernel_rfl
theorem chkO_50 : chkO 512 25600 = true := by kernel_rfl
theorem chkO_51 : chkO 512 26112 = true := by kernel_rfl
theorem chkO_52 : chkO 512 26624 = true := by kernel_rfl
theorem chkO_53 : chkO 512 27136 = true := by kernel_rfl
theorem chkO_54 : chkO 512 27648 = true := by kernel_rfl
theorem chkO_55 : chkO 512 28160 = true := by kernel_rfl
theorem chkO_56 : chkO 512 28672 = true := by kernel_rfl
theorem chkO_57 : chkO 512 29184 = true := by kernel_rfl
theorem chkO_58 : chkO 512 29696 = true := by kernel_rfl
theorem chkO_59 : chkO 512 30208 = true := by kernel_rfl
theorem chkO_60 : chkO 512 30720 = true := by kernel_rfl
theorem chkO_61 : chkO 512 31232 = true := by kernel_rfl
theorem chkO_62 : chkO 512 31744 = true := by kernel_rfl
theorem chkO_63 : chkO 512 32256 = true := by kernel_rfl

theorem ones_pop {x : Nat} (h : x < 32768) : ones x = popN x := by
  have hc : x / 512 = 0 ∨ x / 512 = 1 ∨ x / 512 = 2 ∨ x / 512 = 3 ∨ x / 512 = 4 ∨ x / 512 = 5 ∨ x / 512 = 6 ∨ x / 512 = 7 ∨ x / 512 = 8 ∨ x / 512 = 9 ∨ x / 512 = 10 ∨ x / 512 = 11 ∨ x / 512 = 12 ∨ x / 512 = 13 ∨ x / 512 = 14 ∨ x / 512 = 15 ∨ x / 512 = 16 ∨ x / 512 = 17 ∨ x / 512 = 18 ∨ x / 512 = 19 ∨ x / 512 = 20 ∨ x / 512 = 21 ∨ x / 512 = 22 ∨ x / 512 = 23 ∨ x / 512 = 24 ∨ x / 512 = 25 ∨ x / 512 = 26 ∨ x / 512 = 27 ∨ x / 512 = 28 ∨ x / 512 = 29 ∨ x / 512 = 30 ∨ x / 512 = 31 ∨ x / 512 = 32 ∨ x / 512 = 33 ∨ x / 512 = 34 ∨ x / 512 = 35 ∨ x / 512 = 36 ∨ x / 512 = 37 ∨ x / 512 = 38 ∨ x / 512 = 39 ∨ x / 512 = 40 ∨ x / 512 = 41 ∨ x / 512 = 42 ∨ x / 512 = 43 ∨ x / 512 = 44 ∨ x / 512 = 45 ∨ x / 512 = 46 ∨ x / 512 = 47 ∨ x / 512 = 48 ∨ x / 512 = 49 ∨ x / 512 = 50 ∨ x / 512 = 51 ∨ x / 512 = 52 ∨ x / 512 = 53 ∨ x / 512 = 54 ∨ x / 512 = 55 ∨ x / 512 = 56 ∨ x / 512 = 57 ∨ x / 512 = 58 ∨ x / 512 = 59 ∨ x / 512 = 60 ∨ x / 512 = 61 ∨ x / 512 = 62 ∨ x / 512 = 63 := by omega
  rcases hc with h0 | h0 | h0 | h0 | h0 | h0 | h0 | h0 | h0 | h0 | h0 | h0 | h0 | h0 | h0 | h0 | h0 | h0 | h0 | h0 | h0 | h0 | h0 | h0 | h0 | h0 | h0 | h0 | h0 | h0 | h0 | h0 | h0 | h0 | h0 | h0 | h0 | h0 | h0 | h0 | h0 | h0 | h0 | h0 | h0 | h0 | h0 | h0 | h0 | h0 | h0 | h0 | h0 | h0 | h0 | h0 | h0 | h0 | h0 | h0 | h0 | h0 | h0 | h0
  · exact chkO_spec 512 0 chkO_0 x (by omega) (by omega)
  · exact chkO_spec 512 512 chkO_1 x (by omega) (by omega)
  · exact chkO_spec 512 1024 chkO_2 x (by omega) (by omega)
  · exact chkO_spec 512 1536 chkO_3 x (by omega) (by omega)
  · exact chkO_spec 512 2048 chkO_4 x (by omega) (by omega)
  · exact chkO_spec 512 2560 chkO_5 x (by omega) (by omega)
  · exact chkO_spec 512 3072 chkO_6 x (by omega) (by omega)
  · exact chkO_spec 512 3584 chkO_7 x (by omega) (by omega)
  · exact chkO_spec 512 4096 chkO_8 x (by omega) (by omega)
  · exact chkO_spec 512 4608 chkO_9 x (by omega) (by omega)
  · exact chkO_spec 512 5120 chkO_10 x (by omega) (by omega)
  · exact chkO_spec 512 5632 chkO_11 x (by omega) (by omega)
  · exact chkO_spec 512 6144 chkO_12 x (by omega) (by omega)
  · exact chkO_spec 512 6656 chkO_13 x (by omega) (by omega)
  · exact chkO_spec 512 7168 chkO_14 x (by omega) (by omega)
  · exact chkO_spec 512 7680 chkO_15 x (by omega) (by omega)
  · exact chkO_spec 512 8192 chkO_16 x (by omega) (by omega)
  · exact chkO_spec 512 8704 chkO_17 x (by omega) (by omega)
  · exact chkO_spec 512 9216 chkO_18 x (by omega) (by omega)
  · exact chkO_spec 512 9728 chkO_19 x (by omega) (by omega)
  · exact chkO_spec 512 10240 chkO_20 x (by omega) (by omega)
  · exact chkO_spec 512 10752 chkO_21 x (by omega) (by omega)
  · exact chkO_spec 512 11264 chkO_22 x (by omega) (by omega)
  · exact chkO_spec 512 11776 chkO_23 x (by omega) (by omega)
  · exact chkO_spec 512 12288 chkO_24 x (by omega) (by omega)
  · exact chkO_spec 512 12800 chkO_25 x (by omega) (by omega)
  · exact chkO_spec 512 13312 chkO_26 x (by omega) (by omega)
  · exact chkO_spec 512 13824 chkO_27 x (by omega) (by omega)
  · exact chkO_spec 512 14336 chkO_28 x (by omega) (by omega)
  · exact chkO_spec 512 14848 chkO_29 x (by omega) (by omega)
  · exact chkO_spec 512 15360 chkO_30 x (by omega) (by omega)
  · exact chkO_spec 512 15872 chkO_31 x (by omega) (by omega)
  · exact chkO_spec 512 16384 chkO_32 x (by omega) (by omega)
  · exact chkO_spec 512 16896 chkO_33 x (by omega) (by omega)
  · exact chkO_spec 512 17408 chkO_34 x (by omega) (by omega)
  · exact chkO_spec 512 17920 chkO_35 x (by omega) (by omega)
  · exact chkO_spec 512 18432 chkO_36 x (by omega) (by omega)
  · exact chkO_spec 512 18944 chkO_37 x (by omega) (by omega)
  · exact chkO_spec 512 19456 chkO_38 x (by omega) (by omega)
  · exact chkO_spec 512 19968 chkO_39 x (by omega) (by omega)
  · exact chkO_spec 512 20480 chkO_40 x (by omega) (by omega)
  · exact chkO_spec 512 20992 chkO_41 x (by omega) (by omega)
  · exact chkO_spec 512 21504 chkO_42 x (by omega) (by omega)
  · exact chkO_spec 512 22016 chkO_43 x (by omega) (by omega)
  · exact chkO_spec 512 22528 chkO_44 x (by omega) (by omega)
  · exact chkO_spec 512 23040 chkO_45 x (by omega) (by omega)
  · exact chkO_spec 512 23552 chkO_46 x (by omega) (by omega)
  · exact chkO_spec 512 24064 chkO_47 x (by omega) (by omega)
  · exact chkO_spec 512 24576 chkO_48 x (by omega) (by omega)
  · exact chkO_spec 512 25088 chkO_49 x (by omega) (by omega)
  · exact chkO_spec 512 25600 chkO_50 x (by omega) (by omega)
  · exact chkO_spec 512 26112 chkO_51 x (by omega) (by omega)
  · exact chkO_spec 512 26624 chkO_52 x (by omega) (by omega)
  · exact chkO_spec 512 27136 chkO_53 x (by omega) (by omega)
  · exact chkO_spec 512 27648 chkO_54 x (by omega) (by omega)
  · exact chkO_spec 512 28160 chkO_55 x (by omega) (by omega)
  · exact chkO_spec 512 28672 chkO_56 x (by omega) (by omega)
  · exact chkO_spec 512 29184 chkO_57 x (by omega) (by omega)
  · exact chkO_spec 512 29696 chkO_58 x (by omega) (by omega)
  · exact chkO_spec 512 30208 chkO_59 x (by omega) (by omega)
  · exact chkO_spec 512 30720 chkO_60 x (by omega) (by omega)
  · exact chkO_spec 512 31232 chkO_61 x (by omega) (by omega)
  · exact chkO_spec 512 31744 chkO_62 x (by omega) (by omega)
  · exact chkO_spec 512 32256 chkO_63 x (by omega) (by omega)

theorem pop_bits (x : Nat) : popN x = cntB (fun k => x.testBit k) 15 := by
  have h : ∀ k, (if x.testBit k = true then 1 else 0) = x / 2 ^ k % 2 := by
    intro k
    rw [Nat.testBit_eq_decide_div_mod_eq]
    have := Nat.mod_two_eq_zero_or_one (x / 2 ^ k)
    rcases this with h | h <;> rw [h] <;> simp
  simp only [cntB, h]
  unfold popN
  simp

theorem ones_eq {x : Nat} (h : x < 32768) : ones x = cntB (fun k => x.testBit k) 15 := (ones_pop h).trans (pop_bits x)

theorem ones_mask (f : Nat → Bool) {n : Nat} (hn : n ≤ 15) : ones (maskTo f n) = cntB f n := by
  have hlt : maskTo f n < 32768 := Nat.lt_of_lt_of_le (maskTo_lt f n) (by
    have : 2 ^ n ≤ 2 ^ 15 := Nat.pow_le_pow_right (by decide) hn
    exact this)
  rw [ones_eq hlt]
  have h1 : cntB (fun k => (maskTo f n).testBit k) 15 = cntB (fun k => decide (k < n) && f k) 15 := cntB_congr _ (fun k _ => maskTo_testBit f n k)
  rw [h1]
  have key : ∀ m, n ≤ m → cntB (fun k => decide (k < n) && f k) m = cntB f n := by
    intro m
    induction m with
    | zero => intro h; have : n = 0 := by omega
              subst this; rfl
    | succ m ih =>
      intro h
      simp only [cntB]
      by_cases e : n = m + 1
      · subst e
        rw [cntB_congr m (g := f) (fun k hk => by simp; omega)]
        simp [cntB]
      · rw [ih (by omega)]
        simp; omega
  exact key 15 hn

/-- The pairs of the first j rows. -/
def pairsTo (n : Nat) (f : Nat → Nat → Bool) : Nat → Nat
  | 0 => 0
  | j + 1 => pairsTo n f j + cntB (f j) n
theorem pairsTo_le (n : Nat) (f : Nat → Nat → Bool) (j : Nat) : pairsTo n f j ≤ j * n := by
  induction j with
  | zero => exact Nat.zero_le _
  | succ j ih => simp only [pairsTo]; have := cntB_le (f j) n; rw [Nat.add_mul]; omega

end Go.Proofs.YtpbmlppdmdmfkaaGreatDoor

namespace Go.Proofs.YtpbmlppdmdmfkaaGreatDoor

theorem prodR_get {α : Type} : ∀ {cs : List (List α)} {r : List α}, r ∈ prodR cs → ∀ {i : Nat} {y : α}, r[i]? = some y → ∃ c, cs[i]? = some c ∧ y ∈ c := by
  intro cs
  induction cs with
  | nil => intro r hr i y hy; simp [prodR] at hr; subst hr; simp at hy
  | cons c cs ih =>
    intro r hr i y hy
    simp only [prodR, List.mem_flatMap, List.mem_map] at hr
    obtain ⟨z, hz, q, hq, rfl⟩ := hr
    cases i with
    | zero => simp at hy; subst hy; exact ⟨c, rfl, hz⟩
    | succ i => exact ih hq (by simpa using hy)

theorem permsL_perm : ∀ (n : Nat) (xs : List Int), xs.length = n → ∀ r ∈ permsL xs, r.Perm xs := by
  intro n
  induction n with
  | zero =>
    intro xs hx r hr
    obtain rfl : xs = [] := List.length_eq_zero_iff.1 hx
    rw [permsL_nil] at hr
    simp at hr; subst hr; exact List.Perm.refl _
  | succ n ih =>
    intro xs hx r hr
    rw [permsL_step (by omega)] at hr
    simp only [List.mem_flatMap, List.mem_range, List.mem_map] at hr
    obtain ⟨i, hi, q, hq, rfl⟩ := hr
    have h1 := ih (xs.eraseIdx i) (by rw [List.length_eraseIdx, if_pos hi, hx]; rfl) q hq
    have h2 : xs.getD i 0 = xs[i] := by simp [List.getD, hi]
    rw [h2]
    refine (h1.cons _).trans ?_
    have h3 : xs = xs.take i ++ xs[i] :: xs.drop (i + 1) := by rw [← List.drop_eq_getElem_cons hi, List.take_append_drop]
    rw [List.eraseIdx_eq_take_drop_succ]
    have h4 := (List.perm_middle (a := xs[i]) (l₁ := xs.take i) (l₂ := xs.drop (i + 1))).symm
    rw [← h3] at h4
    exact h4

theorem allX_ok {p : List (List Ins)} (hp : progValid p = true) {x : Xc} (h : x ∈ allX (evAll p)) : execOk p x = true := by
  rw [allX_eq] at h
  simp only [List.mem_flatMap, List.mem_map] at h
  obtain ⟨f, hf, o, ho, rfl⟩ := h
  have hfl : f.length = (evAll p).length := by rw [prodR_row _ f hf]; simp [chsF]
  have hol : o.length = 3 := by rw [prodR_row _ o ho]; simp [chsO]
  unfold execOk
  simp only [Bool.and_eq_true, decide_eq_true_eq]
  refine ⟨hp, hfl, hol, ?_, ?_⟩
  · unfold fromsOk
    simp only [List.all_eq_true, List.mem_range]
    intro i hi
    obtain ⟨e, he⟩ := get_of_lt (xs := evAll p) (k := i) hi
    obtain ⟨y, hy⟩ := get_of_lt (xs := f) (k := i) (by omega)
    obtain ⟨c, hc, hm⟩ := prodR_get hf hy
    rw [he, hy]
    have hc2 : c = chF (evAll p) i := by
      unfold chsF at hc
      rw [List.getElem?_map, List.getElem?_range hi] at hc
      simpa using hc.symm
    subst hc2
    unfold chF at hm
    rw [he] at hm
    simp only at hm
    unfold fromOk
    simp only
    split at hm
    · rename_i hr
      rw [if_pos hr]
      simp only [List.mem_filter, Bool.not_eq_true', beq_eq_false_iff_ne, ne_eq] at hm
      simp only [Bool.and_eq_true, bne_iff_ne, ne_eq, List.contains_iff_mem]
      exact ⟨hm.2, hm.1⟩
    · rename_i hr
      rw [if_neg hr]
      simpa using hm
  · unfold ordersOk
    simp only [List.all_eq_true, List.mem_range]
    intro l hl
    obtain ⟨y, hy⟩ := get_of_lt (xs := o) (k := l) (by omega)
    obtain ⟨c, hc, hm⟩ := prodR_get ho hy
    rw [hy]
    have hc2 : c = chO (evAll p) l := by
      unfold chsO at hc
      rw [List.getElem?_map, List.getElem?_range hl] at hc
      simpa using hc.symm
    subst hc2
    unfold chO at hm
    obtain ⟨q, hq, rfl⟩ := List.mem_map.1 hm
    have h1 := permsL_perm _ (wrL (evAll p) l).tail rfl q hq
    have h2 := head_wrL (p := p) hl
    unfold orderOk
    simp only [Bool.and_eq_true, decide_eq_true_eq, List.head?_cons, beq_self_eq_true, and_true]
    cases hw : wrL (evAll p) l with
    | nil => rw [hw] at h2; simp at h2
    | cons z zs =>
      rw [hw] at h1 h2
      simp only [List.head?_cons, Option.some.injEq] at h2
      subst h2
      exact h1.cons _

theorem relN_po {p : List (List Ins)} {x : Xc} (i k : Nat) : relN p x 0 i k = poB (evAll p) i k := by
  unfold relN poB
  cases (evAll p)[i]? <;> cases (evAll p)[k]? <;> rfl

theorem cntB_zero {f : Nat → Bool} : ∀ n, (∀ k, k < n → f k = false) → cntB f n = 0 := by
  intro n
  induction n with
  | zero => intro _; rfl
  | succ n ih => intro h; simp only [cntB, ih fun k hk => h k (by omega), h n (by omega)]; rfl
theorem cntB_zero' {f : Nat → Bool} : ∀ n, cntB f n = 0 → ∀ k, k < n → f k = false := by
  intro n
  induction n with
  | zero => intro _ k hk; omega
  | succ n ih =>
    intro h k hk
    simp only [cntB] at h
    have h1 : f n = false := by cases hf : f n with
      | false => rfl
      | true => rw [hf] at h; simp at h
    by_cases e : k = n
    · rw [e]; exact h1
    · exact ih (by omega) k (by omega)
theorem pairsTo_zero {n : Nat} {f : Nat → Nat → Bool} : ∀ j, (∀ i k, i < j → k < n → f i k = false) → pairsTo n f j = 0 := by
  intro j
  induction j with
  | zero => intro _; rfl
  | succ j ih => intro h; simp only [pairsTo, ih fun i k hi hk => h i k (by omega) hk, cntB_zero n fun k hk => h j k (by omega) hk]
theorem pairsTo_zero' {n : Nat} {f : Nat → Nat → Bool} : ∀ j, pairsTo n f j = 0 → ∀ i k, i < j → k < n → f i k = false := by
  intro j
  induction j with
  | zero => intro _ i k hi; omega
  | succ j ih =>
    intro h i k hi hk
    simp only [pairsTo] at h
    by_cases e : i = j
    · rw [e]; exact cntB_zero' n (by omega) k hk
    · exact ih (by omega) i k (by omega) hk

theorem delF_none {n : Nat} {c po : Nat → Nat → Bool} (h : pairsTo n c n = 0) : pairsTo n (delF n c po) n = 0 := by
  have hc := pairsTo_zero' n h
  refine pairsTo_zero n fun i k hi hk => ?_
  have e1 : fComp n c c k i = false := by
    unfold fComp
    rw [List.any_eq_false]
    intro j hj
    simp [hc k j hk (List.mem_range.1 hj)]
  have e2 : fComp n (fComp n c (fClo n (fOr c po))) c k i = false := by
    unfold fComp
    rw [List.any_eq_false]
    intro j hj
    have : ((List.range n).any fun m => c k m && fClo n (fOr c po) m j) = false := by
      rw [List.any_eq_false]
      intro m hm
      simp [hc k m hk (List.mem_range.1 hm)]
    simp [this]
  show (po i k && (fComp n c c k i || fComp n (fComp n c (fClo n (fOr c po))) c k i)) = false
  rw [e1, e2]; simp
theorem delF_po {n : Nat} {c po : Nat → Nat → Bool} (hn : n ≤ 60) : relOf n (fOr (delF n c po) po) = relOf n po := relOf_congr hn fun i k _ _ => by
  unfold fOr delF fAnd
  cases po i k <;> simp

end Go.Proofs.YtpbmlppdmdmfkaaGreatDoor

namespace Go.Proofs.YtpbmlppdmdmfkaaGreatDoor
open Go.Proofs Go.Shelf
def Tryz.laysDel_ren : Go.Shelf.Ren := ⟨fun | 23 => 217 | n => n, fun | 22 => 25 | 3 => 3 | 4 => 4 | 0 => 0 | n => n, fun | n => n⟩
theorem Tryz.laysDel : Go.Proofs.Lays2.n23 Tryz.prog Tryz.laysDel_ren := {
  mixed := by kernel_rfl
  f23 := Tryz.func217.trans (congrArg some (by kernel_rfl))
  t0 := Tryz.underlying0
  a0 := Tryz.isAgg0
  z0 := Tryz.sizeOf0
  v0 := Tryz.zeroValue0
  t3 := Tryz.underlying3
  a3 := Tryz.isAgg3
  z3 := Tryz.sizeOf3
  v3 := Tryz.zeroValue3
  t4 := Tryz.underlying4
  a4 := Tryz.isAgg4
  z4 := Tryz.sizeOf4
  v4 := Tryz.zeroValue4
  t22 := Tryz.underlying25
  a22 := Tryz.isAgg25
  z22 := Tryz.sizeOf25
  v22 := Tryz.zeroValue25
  i3 := by kernel_rfl }
end Go.Proofs.YtpbmlppdmdmfkaaGreatDoor

namespace Go.Proofs.YtpbmlppdmdmfkaaGreatDoor
open Go.RowKit Go.Shelf Go.Sort

theorem intE_mapK (xs : List Int) : xs.flatMap IntE.c = xs.map (Value.int .i64) := by
  induction xs with
  | nil => rfl
  | cons x xs ih => rw [List.flatMap_cons, ih]; rfl
theorem grownBy_put {w : World} {g n : Nat} (d : Array Int) : w.grownBy (putRow (Value.int .i64) (Sort.ahead w n) g 0 d) (some g) := by
  refine ⟨rfl, rfl, rfl, by simp [putRow, mapBlock, Sort.ahead], fun k hk hne => ?_⟩
  have : g ≠ k := fun e => hne (by rw [e])
  simp [putRow, mapBlock, Sort.ahead, Array.getElem?_modify, this]
theorem Delete_any (v : Value) (xs : List Int) (w : World) (base i : Nat) (h : Own IntE 3 w base v xs) (hi : i < xs.length) :
    Calls Tryz.prog 217 #[v, .int .i64 i, .int .i64 ((i : Int) + 1)] w fun e w' => ∃ u : Slc, e = .returned (.slice u.a u.n u.cap) ∧ Own IntE 3 w' base u.v (xs.eraseIdx i) ∧ w.grownBy w' v.ownBlock := by
  have hne : v ≠ .slice none 0 0 := by
    rintro rfl
    rcases h.shape with ⟨-, h0⟩ | ⟨g, cap, h1, -⟩
    · rw [h0] at hi; simp at hi
    · cases h1
  unfold Own at h
  rw [intE_mapK] at h
  have h' : w.ownsRow base 3 1 v xs.length (xs.map (Value.int .i64)) := h
  obtain ⟨g, cap, rfl, hg1, hg2, hc1, hc2, -, hH⟩ := Lib.holds_of_ownsRow h' hne
  have hc := Any.slices_Delete_int Tryz.laysDel g 0 cap i (i + 1) xs w hH hc1 (by unfold maxLen at hc2; omega) (by omega) (by omega)
  have hcast : ((i + 1 : Nat) : Int) = (i : Int) + 1 := by omega
  rw [hcast] at hc
  change Calls Tryz.prog 217 _ _ _ at hc
  refine hc.mono fun _ w' ⟨a, q, b⟩ => ?_
  subst b
  have hs : i + 1 - i = 1 := by omega
  rw [hs] at a ⊢
  have hl : (xs.take i ++ xs.drop (i + 1) ++ List.replicate 1 (0 : Int)).length = xs.length := by simp; omega
  have h2 := Lib.ownsRow_putRow (q := q) (k := xs.length - 1) h' hl (by omega)
  have he : (xs.take i ++ xs.drop (i + 1) ++ List.replicate 1 (0 : Int)).take (xs.length - 1) = xs.eraseIdx i := by
    rw [List.eraseIdx_eq_take_drop_succ, List.take_append_of_le_length (by simp; omega), List.take_of_length_le (by simp; omega)]
  rw [he] at h2
  refine ⟨⟨some ⟨g, 0, none⟩, xs.length - 1, cap⟩, a, ?_, grownBy_put _⟩
  unfold Own
  rw [intE_mapK, show (xs.eraseIdx i).length = xs.length - 1 by rw [List.length_eraseIdx, if_pos hi]]
  exact h2

end Go.Proofs.YtpbmlppdmdmfkaaGreatDoor
