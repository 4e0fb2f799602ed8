/-
  ConflictRel of the program and of the reference. Condition: bounds on lengths.
-/
import Derived.Test.YtpnmphfdfadlcaaE6
import Derived.Test.YtpnmphfdfadlcaaP3
namespace Go.Proofs.Ytpnmphfdfadlcaa
open Go.RowKit

set_option maxRecDepth 100000 in
set_option maxHeartbeats 1600000 in
theorem conflictRel_any (v : Value) (p : List (List Ins)) (w : World) (hp : RepP w v p) (hl : p.flatten.length ≤ 50) :
    Calls Try.prog 83 #[v] w (RetOwn IntE 3 w (conflicts p)) := by
  obtain ⟨a, c, rfl, -, -, -, hp⟩ := hp.open
  have hb0 := (Below.refl w.heap.size w).alloc (Nat.le_refl _) (.cells #[.slice a p.length c] 34)
  have HP := hide (hp.below hb0); have HB0 := hide hb0
  have HE := hide (fun w' h => events_any (.slice a p.length c) p w' h (by omega))
  have k0 : (w.alloc (.cells #[.slice a p.length c] 34)).cell? ⟨w.heap.size, 0, none⟩ = some (.slice a p.length c) := by simp [go_sem]
  have hsz : (w.alloc (.cells #[.slice a p.length c] 34)).heap.size = w.heap.size + 1 := by simp
  have K0 := hide k0; have HSZ := hide hsz
  have hn : (evAll p).length ≤ 60 := by have := evAll_length p; omega
  have CD : Hid (conflicts p = relOf (evAll p).length (confB (evAll p))) := hide rfl
  clear hp hb0 k0 hsz
  go_enter Try.func83, Try.ntmps83
  go_wp2_with fail
  (with_reducible refine (HE.out _ HP.out).mono ?_); rintro e w2 ⟨v2, rfl, o2, hb2⟩
  obtain ⟨a2, c2, rfl, -, -, -, -⟩ := o2.rep.open
  have hb3 := (Below.refl w2.heap.size w2).alloc (Nat.le_refl _) (.cells #[.slice a2 (evAll p).length c2] 44)
  have hb23 := hb2.trans (hb3.mono hb2.size)
  have m1 : (w2.alloc (.cells #[.slice a2 (evAll p).length c2] 44)).cell? ⟨w2.heap.size, 0, none⟩ = some (.slice a2 (evAll p).length c2) := by simp [go_sem]
  have m2 := (hb23.cell (p := ⟨w.heap.size, 0, none⟩) (by rw [HSZ.out]; simp)).trans K0.out
  have HC := hide (pairsOf_conf ⟨w2.heap.size, 0, none⟩ ⟨w.heap.size, 0, none⟩ (evAll p).length (confB (evAll p)) _ hn (conflictRel_1 w2.heap.size w.heap.size a2 a c2 c p _ m1 m2 (o2.rep.below hb3) (HP.out.below hb23)))
  have HB23 := hide hb23
  clear m1 m2 hb3 hb2 hb23 o2
  generalize (evAll p).length = n at *
  go_wp2_with fail
  (with_reducible refine HC.out.mono ?_); rintro e w4 ⟨v4, rfl, o4, hb4⟩
  go_wp2_with fail
  go_ret
  have hs : w.heap.size ≤ w2.heap.size + 1 := by have h1 := HB23.out.size; rw [HSZ.out] at h1; simp at h1; omega
  refine ⟨_, rfl, ?_, HB0.out.trans ((HB23.out.trans (hb4.mono HB23.out.size)).mono HB0.out.size)⟩
  rw [CD.out]
  exact o4.mono (by simp; omega)

theorem flatten_le7' {p : List (List Ins)} (h : ∀ r ∈ p, r.length ≤ 7) : p.flatten.length ≤ 7 * p.length := by
  induction p with
  | nil => simp
  | cons r p ih =>
    have h1 := h r (List.mem_cons_self ..)
    have h2 := ih (fun r hr => h r (List.mem_cons_of_mem _ hr))
    simp at h2 ⊢; omega

set_option maxHeartbeats 400000 in
theorem ConflictRel_any (v : Value) (p : List (List Ins)) (w : World) (hp : RepP w v p) (hl : p.flatten.length ≤ 1048576) :
    Calls Try.prog 23 #[v] w (RetOwn IntE 3 w (conflictV p)) := by
  have HP := hide hp; clear hp
  have HV := hide (fun w' h => ProgramValid_any v p w' h hl)
  have E2 : Hid (conflictV p = if progValid p = true then conflicts p else []) := hide rfl
  have HF : Hid (progValid p = true → p.flatten.length ≤ 50) := hide (fun h => by
    obtain ⟨hv1, -, hv3, -, -⟩ := valid_le h
    have := flatten_le7' (p := p) (fun r hr => (hv3 r hr).1)
    omega)
  obtain ⟨a, c, rfl, -, -, -, -⟩ := HP.out.open
  generalize progValid p = b at *
  cases b
  · go_enter Try.func23, Try.ntmps23
    go_wp2_with (go_at_call 26; (with_reducible refine (HV.out _ HP.out).mono ?_); rintro e w1 ⟨rfl, hb1⟩)
    go_ret
    rw [E2.out]
    exact ⟨_, rfl, Own.nil _ _ _, hb1⟩
  · have E3 : Hid (conflictV p = conflicts p) := hide (by rw [E2.out]; rfl)
    have HC := hide (fun w' h => conflictRel_any (.slice a p.length c) p w' h (HF.out rfl))
    go_enter Try.func23, Try.ntmps23
    go_wp2_with fail
    (with_reducible refine (HV.out _ HP.out).mono ?_); rintro e w1 ⟨rfl, hb1⟩
    go_wp2_with fail
    (with_reducible refine (HC.out _ (HP.out.below hb1)).mono ?_); rintro e w2 ⟨v2, rfl, o2, hb2⟩
    go_wp2_with fail
    go_ret
    rw [E3.out]
    exact ⟨_, rfl, o2.mono hb1.size, hb1.trans (hb2.mono hb1.size)⟩


set_option maxRecDepth 100000 in
set_option maxHeartbeats 3200000 in
theorem l10Conflicts_any (v : Value) (p : List (List Ins)) (w : World) (hp : RepP w v p) (hl : p.flatten.length ≤ 50) :
    Calls Try.prog 85 #[v] w (RetOwn IntE 3 w (conflicts p)) := by
  obtain ⟨a, c, rfl, -, -, -, hp⟩ := hp.open
  have HP := hide hp; clear hp
  have HE := hide (fun w' h => l6Events_any (.slice a p.length c) p w' h (by omega))
  have hn : (evAll p).length ≤ 60 := by have := evAll_length p; omega
  have CD : Hid (conflicts p = relOf (evAll p).length (confB (evAll p))) := hide rfl
  go_enter Try.func85, Try.ntmps85
  go_wp2_with fail
  (with_reducible refine (HE.out _ HP.out).mono ?_); rintro e w2 ⟨v2, rfl, o2, hb2⟩
  generalize evAll p = L at *
  obtain ⟨a2, c2, rfl, -, -, -, -⟩ := o2.rep.open
  generalize hnn : L.length = n at *
  have H := hide hnn; clear hnn
  have hown := Own.empty (E := IntE) 3 w2 (Nat.le_refl _)
  have hb3 := (Below.refl w2.heap.size w2).alloc (Nat.le_refl _) (.cells #[] 3)
  have HL := hide o2.rep
  have HB2 := hide hb2
  clear o2 hb2
  go_wp2_with fail
  go_loopw [4, 5] (fun s i wr => ∃ t : Nat, t ≤ n ∧ i = .int .i64 t ∧ OwnN wr w2.heap.size s ((relOf n (confB L)).take t) ∧ Below w2.heap.size w2 wr) (fun _ i _ => n - (intOf i).toNat)
  case atStart => exact ⟨0, by omega, rfl, by simpa using hown, hb3⟩
  case round =>
    obtain ⟨t, ht, rfl, ho, hbw⟩ := hrel
    by_cases hlt : t < n
    · have hlt' := nat_of_lt hlt
      have TS : Hid ((relOf n (confB L)).take (t + 1) = (relOf n (confB L)).take t ++ [bitsTo (confB L t) n]) := hide (by rw [List.take_add_one, relOf_get hlt]; rfl)
      have TL : ((relOf n (confB L)).take t).length ≤ 68719476736 := by rw [List.length_take, relOf_length]; omega
      generalize (relOf n (confB L)).take t = G at *
      obtain ⟨ea, hea⟩ := get_of_lt (xs := L) (k := t) (by rw [H.out]; exact hlt)
      have HO := hide ho; clear ho
      go_wp2_with fail
      go_loopw [6, 7] (fun q i wr => ∃ k : Nat, k ≤ n ∧ i = .int .i64 k ∧ q = .int .i64 (bitsTo (confB L t) k) ∧ OwnN wr w2.heap.size u4 G ∧ Below w2.heap.size w2 wr) (fun _ i _ => n - (intOf i).toNat)
      case atStart => exact ⟨0, by omega, rfl, rfl, HO.out, hbw⟩
      case round =>
        obtain ⟨k, hk, rfl, rfl, ho, hbw⟩ := hrel
        by_cases hlt2 : k < n
        · have hlt2' := nat_of_lt hlt2
          obtain ⟨eb, heb⟩ := get_of_lt (xs := L) (k := k) (by rw [H.out]; exact hlt2)
          obtain ⟨d, o1, rfl, hd, i0, i1, i2, i3, i4⟩ := (HL.out.below hbw).ev hea
          obtain ⟨d', o1', hde, hd', j0, j1, j2, j3, j4⟩ := (HL.out.below hbw).ev heb
          simp only [Option.some.injEq, Addr.mk.injEq, and_true] at hde
          obtain ⟨rfl, rfl⟩ := hde
          have CE := hide (confB_eq hea heb)
          have BS : Hid (bitsTo (confB L t) (k + 1) = if confB L t k = true then bits .or .i64 (bitsTo (confB L t) k) (wrap64 ((2 : Int) ^ k)) else bitsTo (confB L t) k) := hide rfl
          have HOO := hide ho
          generalize hR : confB L t k = R at *
          generalize bitsTo (confB L t) k = row at *
          generalize hrow2 : bitsTo (confB L t) (k + 1) = row2 at *
          have RW2 := hide hrow2; clear hrow2 hR
          have HEB := hide heb
          clear heb ho
          have HBBW := hide (fun (ob1 ob2 : Obj) => (hbw.alloc hbw.size ob1).alloc (B := w2.heap.size) (by have := hbw.size; simp; omega) ob2)
          generalize ea.t = at' at *; generalize eb.t = bt' at *; generalize ea.l = al at *; generalize eb.l = bl at *; generalize ea.w = aw at *; generalize eb.w = bw at *
          rcases Bool.eq_false_or_eq_true (decide (0 ≤ at')) with g1 | g1
          · rcases Bool.eq_false_or_eq_true (decide (0 ≤ bt')) with g2 | g2
            · rcases Bool.eq_false_or_eq_true ((at' != bt')) with g3 | g3
              · rcases Bool.eq_false_or_eq_true ((al == bl)) with g4 | g4
                · rcases Bool.eq_false_or_eq_true (aw) with g5 | g5
                  · obtain rfl : R = true := by rw [CE.out]; simp [g1, g2, g3, g4, g5]
                    obtain rfl : row2 = bits .or .i64 row (wrap64 ((2 : Int) ^ k)) := by rw [BS.out]; rfl
                    go_wp2_with fail
                    go_roundw
                    case rel => exact ⟨k + 1, by omega, by go_num, by rw [RW2.out], (HOO.out.alloc _).alloc _, HBBW.out _ _⟩
                    case measure => simp [intOf]; omega
                  · rcases Bool.eq_false_or_eq_true (bw) with g6 | g6
                    · obtain rfl : R = true := by rw [CE.out]; simp [g1, g2, g3, g4, g5, g6]
                      obtain rfl : row2 = bits .or .i64 row (wrap64 ((2 : Int) ^ k)) := by rw [BS.out]; rfl
                      go_wp2_with fail
                      go_roundw
                      case rel => exact ⟨k + 1, by omega, by go_num, by rw [RW2.out], (HOO.out.alloc _).alloc _, HBBW.out _ _⟩
                      case measure => simp [intOf]; omega
                    · obtain rfl : R = false := by rw [CE.out]; simp [g1, g2, g3, g4, g5, g6]
                      obtain rfl : row2 = row := by rw [BS.out]; rfl
                      go_wp2_with fail
                      go_roundw
                      case rel => exact ⟨k + 1, by omega, by go_num, by rw [RW2.out], (HOO.out.alloc _).alloc _, HBBW.out _ _⟩
                      case measure => simp [intOf]; omega
                · obtain rfl : R = false := by rw [CE.out]; simp [g1, g2, g3, g4]
                  obtain rfl : row2 = row := by rw [BS.out]; rfl
                  go_wp2_with fail
                  go_roundw
                  case rel => exact ⟨k + 1, by omega, by go_num, by rw [RW2.out], (HOO.out.alloc _).alloc _, HBBW.out _ _⟩
                  case measure => simp [intOf]; omega
              · obtain rfl : R = false := by rw [CE.out]; simp [g1, g2, g3]
                obtain rfl : row2 = row := by rw [BS.out]; rfl
                go_wp2_with fail
                go_roundw
                case rel => exact ⟨k + 1, by omega, by go_num, by rw [RW2.out], (HOO.out.alloc _).alloc _, HBBW.out _ _⟩
                case measure => simp [intOf]; omega
            · obtain rfl : R = false := by rw [CE.out]; simp [g1, g2]
              obtain rfl : row2 = row := by rw [BS.out]; rfl
              go_wp2_with fail
              go_roundw
              case rel => exact ⟨k + 1, by omega, by go_num, by rw [RW2.out], (HOO.out.alloc _).alloc _, HBBW.out _ _⟩
              case measure => simp [intOf]; omega
          · obtain rfl : R = false := by rw [CE.out]; simp [g1]
            obtain rfl : row2 = row := by rw [BS.out]; rfl
            go_wp2_with fail
            go_roundw
            case rel => exact ⟨k + 1, by omega, by go_num, by rw [RW2.out], (HOO.out.alloc _).alloc _, HBBW.out _ _⟩
            case measure => simp [intOf]; omega
        · have e : k = n := by omega
          rw [e]
          go_wp2_with (at_builtin; refine wpList_app IntE 3 Try.infoInt rfl Try.underlying36 w2.heap.size _ _ (bitsTo (confB L t) n) (ho.alloc _) (by decide) TL (by simp; have := hbw.size; omega) rfl _ _ rfl rfl wr.heap.size 0 1 rfl news_alloc ?_; intro v' w1 hown1 hgr1)
          have hb1 := below_app hbw ho hgr1
          go_roundw
          case rel => exact ⟨t + 1, by omega, by go_num, by rw [TS.out]; exact hown1, hb1⟩
          case measure => simp [intOf]; omega
    · have e : t = n := by omega
      rw [e, List.take_of_length_le (by rw [relOf_length]; exact Nat.le_refl _), ← CD.out] at ho
      go_wp2_with fail
      go_ret
      exact ⟨_, rfl, ho.mono HB2.out.size, HB2.out.trans (hbw.mono HB2.out.size)⟩

end Go.Proofs.Ytpnmphfdfadlcaa