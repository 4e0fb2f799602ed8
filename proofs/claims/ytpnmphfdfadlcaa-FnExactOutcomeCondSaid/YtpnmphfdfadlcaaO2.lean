/-
  What the program says of an outcome. Condition: bounds on lengths.
-/
import Derived.Test.YtpnmphfdfadlcaaO1
import Derived.Test.YtpnmphfdfadlcaaP29
import Derived.Test.YtpnmphfdfadlcaaE2
import Derived.Test.YtpnmphfdfadlcaaT2
namespace Go.Proofs.Ytpnmphfdfadlcaa
open Go.RowKit

theorem wr3 (j : Nat) (h : j ≤ 1048576) : IntKind.i64.wrap (3 * (j : Int)) = 3 * (j : Int) := by rw [IntKind.wrap_i64]; omega
theorem wr3k (j k : Nat) (h : j ≤ 1048576) (hk : k ≤ 3) : IntKind.i64.wrap (3 * (j : Int) + (k : Int)) = ((3 * j + k : Nat) : Int) := by rw [IntKind.wrap_i64]; omega
theorem kept_drew {w w' : World} {ob : Obj} {row : Option Nat} (hg : (w.drew.alloc ob).grownBy w' row) {b : Nat} (hb : b < w.heap.size) (hne : ∀ q, row = some q → q ≠ b) (o : Nat) : w'.cell? ⟨b, o, none⟩ = w.cell? ⟨b, o, none⟩ :=
  kept_cell (w := w.drew) hg hb hne o

set_option maxRecDepth 100000 in
set_option maxHeartbeats 3200000 in
theorem said_any (v v' : Value) (p : List (List Ins)) (os : List Int) (w : World) (hp : RepP w v p) (ho : Rep IntE w v' os) (hl : p.flatten.length ≤ 1048576) (hpl : p.length ≤ 1048576) (hol : os.length = 3 * p.length + 3) :
    Calls Try.prog 120 #[v, v'] w (RetOwn CsE 25 w (saidL p os)) := by
  obtain ⟨a, c, rfl, hc1, hc2, hc3, hp⟩ := hp.open
  obtain ⟨oa, oc, rfl, -, -, -, ho⟩ := ho.open
  have HP := hide hp; clear hp
  have HO := hide ho; clear ho
  have HL := hide hl; clear hl
  have PP : Hid (saidL p os = sayTo p os p.length ++ sayM p os 3) := hide rfl
  have HTS := hide (fun j r h => sayTo_succ (p := p) os (j := j) (r := r) h)
  have HMS := hide (fun k x h => sayM_succ p (o := os) k (x := x) h)
  have HTL := hide (sayTo_length p os)
  have HML := hide (sayM_length p os)
  have HCM := hide (fun g l w' (h : RepP w' (.slice a p.length c) p) h2 h3 => ContainsFuncM ⟨g, 0, none⟩ _ p _ w' h (testM g l w' h2 h3))
  have HWP : Hid (∀ l, writesP p l = p.any fun row => row.any fun x => isWop x.op && x.loc == l) := hide (fun _ => rfl)
  have H0 : Hid (sayTo p os 0 = []) := hide (by simp [sayTo])
  have HM0 : Hid (sayM p os 0 = []) := hide (by simp [sayM])
  have HGET := hide (fun k (h : k < os.length) => get_of_lt (xs := os) (k := k) h)
  generalize hn : p.length = n at *
  have H := hide hn; clear hn
  generalize os.length = m at *
  have HOL := hide hol; clear hol
  go_enter Try.func120, Try.ntmps120
  go_wp2_with fail
  go_loopw [5, 13] (fun s i wr => ∃ j : Nat, j ≤ n ∧ i = .int .i64 j ∧ Own CsE 25 wr w.heap.size s (sayTo p os j) ∧ Below w.heap.size w wr) (fun _ i _ => n - (intOf i).toNat)
  case atStart => exact ⟨0, Nat.zero_le _, rfl, by rw [H0.out]; exact Own.nil _ _ _, Below.refl _ _⟩
  case round =>
    obtain ⟨j, hj, rfl, hown, hb2⟩ := hrel
    by_cases hlt : j < n
    · obtain ⟨x, hxk⟩ := get_of_lt (xs := p) (k := j) (by rw [H.out]; exact hlt)
      obtain ⟨b, o, ra, rc, rfl, hbl0, i00, i1⟩ := HP.out.row hxk
      have i0 := (hb2.cell (p := ⟨b, o + j, none⟩) hbl0).trans i00
      have hbl : b < wr.heap.size := by have := hb2.size; omega
      have I1 := hide i1
      have hlt2' := nat_of_lt hlt
      have GS := hide (HTS.out j x hxk)
      have hgl := HTL.out j
      have HCR := hide (fun g l w' (h : Rep InsE w' (.slice ra x.length rc) x) h2 h3 => ContainsFuncR ⟨g, 0, none⟩ _ x _ w' h (testR g l w' h2 h3))
      have HRR : Hid (∀ l, readsR x l = x.any fun x => isRop x.op && x.reg == l) := hide (fun _ => rfl)
      have HRS := hide (fun k y h => sayR_succ j x (o := os) k (x := y) h)
      have HRL := hide (sayR_length j x os)
      have HR0 : Hid (sayR j x os 0 = []) := hide (by simp [sayR])
      clear hxk i1 i00
      generalize hG : sayTo p os j = G at *
      clear hG
      have HOW := hide hown; clear hown
      go_wp2_with fail
      go_loopw [5, 18] (fun s i wr => ∃ k : Nat, k ≤ 3 ∧ i = .int .i64 k ∧ Own CsE 25 wr w.heap.size s (G ++ sayR j x os k) ∧ Below w.heap.size w wr) (fun _ i _ => 3 - (intOf i).toNat)
      case atStart => exact ⟨0, by omega, rfl, by rw [HR0.out, List.append_nil]; exact HOW.out, hb2⟩
      case round =>
        obtain ⟨k, hk, rfl, hown, hb3⟩ := hrel
        by_cases hlt3 : k < 3
        · have hlt3' : (k : Int) < 3 := by omega
          obtain ⟨y, hy⟩ := HGET.out (3 * j + k) (by have := HOL.out; omega)
          have hqm' : ((3 * j + k : Nat) : Int) < (m : Int) := by have := HOL.out; omega
          obtain ⟨d, e, rfl, hdw, q00⟩ := HO.out.int hy
          have q0 := (hb3.cell (p := ⟨d, e + (3 * j + k), none⟩) hdw).trans q00
          have hd : d < wr.heap.size := by have := hb3.size; omega
          have HDW := hide hdw; clear hdw q00
          have RS := hide (HRS.out k y hy)
          have hrl := HRL.out k
          have HOK := hide (hown.alloc (.cells #[.int .i64 (k : Int)] 3))
          have HBK := hide (hb3.alloc hb3.size (.cells #[.int .i64 (k : Int)] 3))
          have hcall := HCR.out wr.heap.size k (wr.alloc (.cells #[.int .i64 (k : Int)] 3)) (I1.out.below HBK.out) (by simp) (by simp [go_sem])
          rw [← HRR.out k] at hcall
          have HC := hide hcall
          clear hcall hy
          have K0 : Hid ((wr.alloc (.cells #[.int .i64 (k : Int)] 3)).cell? ⟨wr.heap.size, 0, none⟩ = some (.int .i64 (k : Int))) := hide (by simp [go_sem])
          have Z0 : Hid (wr.heap.size < (wr.alloc (.cells #[.int .i64 (k : Int)] 3)).heap.size) := hide (by simp)
          have HQ0 := hide (((Below.refl wr.heap.size wr).alloc (Nat.le_refl _) (.cells #[.int .i64 (k : Int)] 3)).cell (p := ⟨d, e + (3 * j + k), none⟩) hd |>.trans q0)
          have HD := hide hd
          clear q0 hd
          generalize hRG : sayR j x os k = RG at *
          clear hRG
          cases hrr : readsR x k
          · rw [hrr] at HC
            have RS2 : Hid (sayR j x os (k + 1) = RG) := hide (by rw [RS.out, hrr]; simp)
            clear hrr RS
            go_wp2_with fail
            (with_reducible refine HC.out.mono ?_); rintro e w2 ⟨rfl, hb4⟩
            go_wp2_with fail
            go_roundw
            case rel => exact ⟨k + 1, by omega, by go_num, by rw [RS2.out]; exact HOK.out.below hb4, HBK.out.trans (hb4.mono HBK.out.size)⟩
            case measure => simp [intOf]; omega
          · rw [hrr] at HC
            have RS2 : Hid (sayR j x os (k + 1) = RG ++ [leafR j k y]) := hide (by rw [RS.out, hrr]; rfl)
            clear hrr RS
            have hlen : (G ++ RG).length ≤ 68719476736 := by rw [List.length_append]; omega
            have HOW2 := hide hown; clear hown
            go_wp2_with fail
            (with_reducible refine HC.out.mono ?_); rintro e w2 ⟨rfl, hb4⟩
            have c0 := (hb4.cell (p := ⟨wr.heap.size, 0, none⟩) Z0.out).trans K0.out
            have z0 := Nat.lt_of_lt_of_le Z0.out hb4.size
            have q0 := (hb4.cell (p := ⟨d, e + (3 * j + k), none⟩) (by have h1 := HD.out; have h2 := Z0.out; show d < _; omega)).trans HQ0.out
            have hd : d < w2.heap.size := by have := HD.out; omega
            have HB4 := hide (HBK.out.trans (hb4.mono HBK.out.size))
            have HO4 := hide (HOK.out.below hb4)
            have HV2 : Hid (IntKind.i64.wrap (3 * (j : Int) + (k : Int)) = ((3 * j + k : Nat) : Int)) := hide (wr3k j k (by omega) (by omega))
            generalize 3 * j + k = q at *
            go_wp2_with fail
            have hv1 : IntKind.i64.wrap (3 * (j : Int)) = 3 * (j : Int) := wr3 j (by omega)
            have hv2 : IntKind.i64.wrap (3 * (j : Int) + (k : Int)) = (q : Int) := HV2.out
            have hq0 : (0 : Int) ≤ (q : Int) := Int.natCast_nonneg q
            go_region_held3 (fun V => V.cell? ⟨wr.heap.size, 0, none⟩ = some (.int .i64 (k : Int)) ∧ V.cell? ⟨d, e + q, none⟩ = some (.int .i64 y)) ((simp [go_sem, *]))
              (first
                | (refine step_app CsE 25 Try.infoCond rfl Try.underlying23 w.heap.size _ _ (leafR j k y) ((HO4.out.below (Below.refl _ _).drew).alloc _) (by decide) hlen (by have := HB4.out.size; simp; omega) (by rfl) _ _ (by rfl) (by rfl) w2.heap.size 0 1 (by rfl) news_alloc ?_; intro v' w6 hown6 hgr6; have hk6 : (∀ o, w6.cell? ⟨wr.heap.size, o, none⟩ = w2.cell? ⟨wr.heap.size, o, none⟩) := (kept_drew hgr6 z0 (fun q hq => Nat.ne_of_lt (World.ownsRow.lt HOW2.out q hq).2)); have hk7 : (∀ o, w6.cell? ⟨d, o, none⟩ = w2.cell? ⟨d, o, none⟩) := (kept_drew hgr6 hd (fun q hq => Nat.ne_of_gt (Nat.lt_of_lt_of_le HDW.out (World.ownsRow.lt HOW2.out q hq).1)))))
            have hb8 := below_app HB4.out.drew (HO4.out.below (Below.refl _ _).drew) hgr6
            go_wp2_with fail
            go_roundw
            case rel =>
              have hown7 : Own CsE 25 w6 w.heap.size v' (G ++ sayR j x os (k + 1)) := by rw [RS2.out]; simpa [List.append_assoc] using hown6
              exact ⟨k + 1, by omega, by go_num, hown7, hb8⟩
            case measure => simp [intOf]; omega
        · obtain rfl : k = 3 := by omega
          go_wp2_with fail
          go_roundw
          case rel => exact ⟨j + 1, by omega, by go_num, by rw [GS.out]; exact hown, hb3⟩
          case measure => simp [intOf]; omega
    · obtain rfl : j = n := by omega
      have hgl := HTL.out j
      generalize hG : sayTo p os j = G at *
      clear hG
      have HOW := hide hown; clear hown
      go_wp2_with fail
      go_loopw [5, 39] (fun s i wr => ∃ k : Nat, k ≤ 3 ∧ i = .int .i64 k ∧ Own CsE 25 wr w.heap.size s (G ++ sayM p os k) ∧ Below w.heap.size w wr) (fun _ i _ => 3 - (intOf i).toNat)
      case atStart => exact ⟨0, by omega, rfl, by rw [HM0.out, List.append_nil]; exact HOW.out, hb2⟩
      case round =>
        obtain ⟨k, hk, rfl, hown, hb3⟩ := hrel
        by_cases hlt3 : k < 3
        · have hlt3' : (k : Int) < 3 := by omega
          obtain ⟨y, hy⟩ := HGET.out (3 * j + k) (by have := HOL.out; omega)
          have hqm' : ((3 * j + k : Nat) : Int) < (m : Int) := by have := HOL.out; omega
          obtain ⟨d, e, rfl, hdw, q00⟩ := HO.out.int hy
          have q0 := (hb3.cell (p := ⟨d, e + (3 * j + k), none⟩) hdw).trans q00
          have hd : d < wr.heap.size := by have := hb3.size; omega
          have HDW := hide hdw; clear hdw q00
          have RS := hide (HMS.out k y hy)
          have hrl := HML.out k
          have HOK := hide (hown.alloc (.cells #[.int .i64 (k : Int)] 3))
          have HBK := hide (hb3.alloc hb3.size (.cells #[.int .i64 (k : Int)] 3))
          have hcall := HCM.out wr.heap.size k (wr.alloc (.cells #[.int .i64 (k : Int)] 3)) (HP.out.below HBK.out) (by simp) (by simp [go_sem])
          rw [← HWP.out k] at hcall
          have HC := hide hcall
          clear hcall hy
          have K0 : Hid ((wr.alloc (.cells #[.int .i64 (k : Int)] 3)).cell? ⟨wr.heap.size, 0, none⟩ = some (.int .i64 (k : Int))) := hide (by simp [go_sem])
          have Z0 : Hid (wr.heap.size < (wr.alloc (.cells #[.int .i64 (k : Int)] 3)).heap.size) := hide (by simp)
          have HQ0 := hide (((Below.refl wr.heap.size wr).alloc (Nat.le_refl _) (.cells #[.int .i64 (k : Int)] 3)).cell (p := ⟨d, e + (3 * j + k), none⟩) hd |>.trans q0)
          have HD := hide hd
          clear q0 hd
          generalize hRG : sayM p os k = RG at *
          clear hRG
          cases hrr : writesP p k
          · rw [hrr] at HC
            have RS2 : Hid (sayM p os (k + 1) = RG) := hide (by rw [RS.out, hrr]; simp)
            clear hrr RS
            go_wp2_with fail
            (with_reducible refine HC.out.mono ?_); rintro e w2 ⟨rfl, hb4⟩
            go_wp2_with fail
            go_roundw
            case rel => exact ⟨k + 1, by omega, by go_num, by rw [RS2.out]; exact HOK.out.below hb4, HBK.out.trans (hb4.mono HBK.out.size)⟩
            case measure => simp [intOf]; omega
          · rw [hrr] at HC
            have RS2 : Hid (sayM p os (k + 1) = RG ++ [leafM k y]) := hide (by rw [RS.out, hrr]; rfl)
            clear hrr RS
            have hlen : (G ++ RG).length ≤ 68719476736 := by rw [List.length_append]; omega
            have HOW2 := hide hown; clear hown
            go_wp2_with fail
            (with_reducible refine HC.out.mono ?_); rintro e w2 ⟨rfl, hb4⟩
            have c0 := (hb4.cell (p := ⟨wr.heap.size, 0, none⟩) Z0.out).trans K0.out
            have z0 := Nat.lt_of_lt_of_le Z0.out hb4.size
            have q0 := (hb4.cell (p := ⟨d, e + (3 * j + k), none⟩) (by have h1 := HD.out; have h2 := Z0.out; show d < _; omega)).trans HQ0.out
            have hd : d < w2.heap.size := by have := HD.out; omega
            have HB4 := hide (HBK.out.trans (hb4.mono HBK.out.size))
            have HO4 := hide (HOK.out.below hb4)
            have HV2 : Hid (IntKind.i64.wrap (3 * (j : Int) + (k : Int)) = ((3 * j + k : Nat) : Int)) := hide (wr3k j k (by omega) (by omega))
            generalize 3 * j + k = q at *
            go_wp2_with fail
            have hv1 : IntKind.i64.wrap (3 * (j : Int)) = 3 * (j : Int) := wr3 j (by omega)
            have hv2 : IntKind.i64.wrap (3 * (j : Int) + (k : Int)) = (q : Int) := HV2.out
            have hq0 : (0 : Int) ≤ (q : Int) := Int.natCast_nonneg q
            go_region_held3 (fun V => V.cell? ⟨wr.heap.size, 0, none⟩ = some (.int .i64 (k : Int)) ∧ V.cell? ⟨d, e + q, none⟩ = some (.int .i64 y)) ((simp [go_sem, *]))
              (first
                | (refine step_app CsE 25 Try.infoCond rfl Try.underlying23 w.heap.size _ _ (leafM k y) ((HO4.out.below (Below.refl _ _).drew).alloc _) (by decide) hlen (by have := HB4.out.size; simp; omega) (by rfl) _ _ (by rfl) (by rfl) w2.heap.size 0 1 (by rfl) news_alloc ?_; intro v' w6 hown6 hgr6; have hk6 : (∀ o, w6.cell? ⟨wr.heap.size, o, none⟩ = w2.cell? ⟨wr.heap.size, o, none⟩) := (kept_drew hgr6 z0 (fun q hq => Nat.ne_of_lt (World.ownsRow.lt HOW2.out q hq).2)); have hk7 : (∀ o, w6.cell? ⟨d, o, none⟩ = w2.cell? ⟨d, o, none⟩) := (kept_drew hgr6 hd (fun q hq => Nat.ne_of_gt (Nat.lt_of_lt_of_le HDW.out (World.ownsRow.lt HOW2.out q hq).1)))))
            have hb8 := below_app HB4.out.drew (HO4.out.below (Below.refl _ _).drew) hgr6
            go_wp2_with fail
            go_roundw
            case rel =>
              have hown7 : Own CsE 25 w6 w.heap.size v' (G ++ sayM p os (k + 1)) := by rw [RS2.out]; simpa [List.append_assoc] using hown6
              exact ⟨k + 1, by omega, by go_num, hown7, hb8⟩
            case measure => simp [intOf]; omega
        · obtain rfl : k = 3 := by omega
          go_wp2_with fail
          go_ret
          rw [PP.out]
          exact ⟨_, rfl, hown, hb3⟩

end Go.Proofs.Ytpnmphfdfadlcaa
