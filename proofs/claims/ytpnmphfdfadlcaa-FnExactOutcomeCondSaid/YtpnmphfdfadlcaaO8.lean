/-
  OutcomeCond of the reference. Condition: bounds on lengths.
-/
import Derived.Test.YtpnmphfdfadlcaaO7
import Derived.Test.YtpnmphfdfadlcaaN4
namespace Go.Proofs.Ytpnmphfdfadlcaa
open Go.RowKit

def andKids (xs : List Cs) : Cd := andL xs
theorem descs_andL : ∀ (xs : List Cs), descs (andL xs).kids ≤ 2 * xs.length := by
  intro xs
  induction xs with
  | nil => simp [andL, zC, Cd.kids, descs]
  | cons x xs ih =>
    cases xs with
    | nil => simp [andL, leafC, Cd.kids, descs]
    | cons y ys =>
      rw [andL_two]
      generalize andL (y :: ys) = c at *
      have e : ∀ a b : Cd, descs [a, b] = (descs a.kids + 1) + (descs b.kids + 1) := fun a b => by rw [← Cd.desc_eq, ← Cd.desc_eq]; simp [descs]
      show descs [leafC x, c] ≤ _
      rw [e]
      have e2 : descs (leafC x).kids = 0 := by simp [leafC, Cd.kids, descs]
      simp only [List.length_cons] at ih ⊢
      omega

set_option maxRecDepth 100000 in
set_option maxHeartbeats 6400000 in
theorem sOutcomeCond_any (v v' : Value) (p : List (List Ins)) (os : List Int) (w : World) (hp : RepP w v p) (ho : Rep IntE w v' os) (hl : p.flatten.length ≤ 1048576) (hpl : p.length ≤ 1048576) :
    Calls Try.prog 42 #[v, v'] w (RetCB w (outC p os)) := by
  have HB0 := hide ((Below.refl w.heap.size w).alloc (Nat.le_refl _) (.cells #[.int .i64 0, .int .i64 0, .int .i64 0, .int .i64 0, .slice none 0 0] 25))
  have hA4 : (w.alloc (.cells #[.int .i64 0, .int .i64 0, .int .i64 0, .int .i64 0, .slice none 0 0] 25)).heap[w.heap.size]? = some (.cells #[.int .i64 0, .int .i64 0, .int .i64 0, .int .i64 0, .slice none 0 0] 25 (0, 0)) := heap_alloc_new w _
  have HA4 := hide hA4
  have HP := hide (hp.below HB0.out); have HO := hide (ho.below HB0.out)
  have HV := hide (sOutcomeValid_any v v' p os _ HP.out HO.out hl hpl)
  have HRD := hide (fun v xs r w' h => l11Read_any v xs r w' h)
  have HL1 := hide (fun (k : Nat) w' h => (l1Count_any v p (k : Int) true w' h hl hpl))
  have HWC := hide (writes_cnt p)
  have HEQ : Hid (outC p os = if outValid p os = true ∧ saidL p os ≠ [] ∧ validC (andL (saidL p os)) = true then (andL (saidL p os), true) else (zC, false)) := hide rfl
  have PP : Hid (saidL p os = sayTo p os p.length ++ sayM p os 3) := hide rfl
  have HTS := hide (fun j r h => sayTo_succ (p := p) os (j := j) (r := r) h)
  have HMS := hide (fun k x h => sayM_succ p (o := os) k (x := x) h)
  have HTL := hide (sayTo_length p os)
  have HML := hide (sayM_length p os)
  have H0 : Hid (sayTo p os 0 = []) := hide (by simp [sayTo])
  have HM0 : Hid (sayM p os 0 = []) := hide (by simp [sayM])
  have HGET := hide (fun k (h : k < os.length) => get_of_lt (xs := os) (k := k) h)
  have HOV : Hid (outValid p os = true → os.length = 3 * p.length + 3 ∧ p.length ≤ 3) := hide (fun h => by
    unfold outValid at h
    simp only [Bool.and_eq_true, decide_eq_true_eq] at h
    exact ⟨h.2.1, (valid_le h.1).1⟩)
  have HNS := hide (fun u (h : u ∈ saidL p os) => mem_said h)
  have HDS := hide (descs_andL (saidL p os))
  have HSL := hide (saidL_length p os)
  obtain ⟨a, c, rfl, hc1, hc2, hc3, hp⟩ := hp.open
  obtain ⟨oa, oc, rfl, -, -, -, ho⟩ := ho.open
  clear hp ho hA4
  generalize outC p os = R at *
  generalize hb : outValid p os = b at *
  clear hb
  generalize hn : p.length = n at *
  have H := hide hn; clear hn
  generalize os.length = m at *
  go_enter Try.func42, Try.ntmps42
  cases b
  · obtain rfl : R = (zC, false) := by rw [HEQ.out, if_neg (by simp)]
    go_wp2_with (go_at_call 114; (with_reducible refine HV.out.mono ?_); rintro e w1 ⟨rfl, hb1⟩; have hbl := (hb1.block w.heap.size (by simp)).trans HA4.out; have e0 := cell_of_heapP hbl (k := 0) rfl; have e1 := cell_of_heapP hbl (k := 1) rfl; have e2 := cell_of_heapP hbl (k := 2) rfl; have e3 := cell_of_heapP hbl (k := 3) rfl; have e4 := cell_of_heapP hbl (k := 4) rfl; have hll := lt_of_cell e0; have ef := frozen_of_heapP hbl)
    refine bodyPost_ret (v := .tuple #[.agg #[.int .i64 0, .int .i64 0, .int .i64 0, .int .i64 0, .slice none 0 0], .bool false]) (by simp [results, Try.results42, go_sem, e0, e1, e2, e3, e4]) rfl ?_
    exact RetCB.no ((((((HB0.out.trans (hb1.mono HB0.out.size)).setCell (Nat.le_refl _) _).setCell (Nat.le_refl _) _).setCell (Nat.le_refl _) _).setCell (Nat.le_refl _) _).setCell (Nat.le_refl _) _)
  · obtain ⟨hol, hp3⟩ := HOV.out rfl
    have HOL := hide hol
    clear hol HOV
    go_wp2_with fail
    (with_reducible refine HV.out.mono ?_); rintro e w1 ⟨rfl, hb1⟩
    have HA1 := hide ((hb1.block w.heap.size (by simp)).trans HA4.out)
    have HB1 := hide (HB0.out.trans (hb1.mono HB0.out.size))
    have HP1 := hide (HP.out.below hb1); have HO1 := hide (HO.out.below hb1)
    clear hb1 HV HA4 HP HO HB0
    go_wp2_with fail
    go_loopw [6, 7] (fun s i wr => ∃ j : Nat, j ≤ n ∧ i = .int .i64 j ∧ Own CsE 25 wr w1.heap.size s (sayTo p os j) ∧ Below w1.heap.size w1 wr) (fun _ i _ => n - (intOf i).toNat)
    case atStart => exact ⟨0, Nat.zero_le _, rfl, by rw [H0.out]; exact Own.empty (E := CsE) _ w1 (Nat.le_refl _), (Below.refl _ _).alloc (Nat.le_refl _) _⟩
    case round =>
      obtain ⟨j, hj, rfl, hown, hb2⟩ := hrel
      by_cases hlt : j < n
      · obtain ⟨x, hxk⟩ := get_of_lt (xs := p) (k := j) (by rw [H.out]; exact hlt)
        obtain ⟨b, o, ra, rc, rfl, hbl0, i00, i1⟩ := HP1.out.row hxk
        have hlt2' := nat_of_lt hlt
        have GS := hide (HTS.out j x hxk)
        have hgl := HTL.out j
        have HRS := hide (fun k y h => sayR_succ j x (o := os) k (x := y) h)
        have HRL := hide (sayR_length j x os)
        have HR0 : Hid (sayR j x os 0 = []) := hide (by simp [sayR])
        have I1 := hide i1; have I00 := hide i00; have HBL0 := hide hbl0
        clear hxk i1 i00
        generalize hG : sayTo p os j = G at *
        clear hG
        have HOW := hide hown; clear hown
        go_wp2_with fail
        go_loopw [6, 8] (fun s i wr => ∃ k : Nat, k ≤ 3 ∧ i = .int .i64 k ∧ Own CsE 25 wr w1.heap.size s (G ++ sayR j x os k) ∧ Below w1.heap.size w1 wr) (fun _ i _ => 3 - (intOf i).toNat)
        case atStart => exact ⟨0, by omega, rfl, by rw [HR0.out, List.append_nil]; exact HOW.out, hb2⟩
        case round =>
          obtain ⟨k, hk, rfl, hown, hb3⟩ := hrel
          have i0 := (hb3.cell (p := ⟨b, o + j, none⟩) hbl0).trans I00.out
          have hbl : b < wr.heap.size := by have := hb3.size; omega
          by_cases hlt3 : k < 3
          · have hlt3' : (k : Int) ≤ 2 := by omega
            have HRR := hide (HRD.out _ x k wr (I1.out.below hb3))
            obtain ⟨y, hy⟩ := HGET.out (3 * j + k) (by have := HOL.out; omega)
            have RS := hide (HRS.out k y hy)
            have hrl := HRL.out k
            obtain ⟨d, e, rfl, hdw, q00⟩ := HO1.out.int hy
            have Q0 := hide ((hb3.cell (p := ⟨d, e + (3 * j + k), none⟩) hdw).trans q00)
            have hd : d < wr.heap.size := by have := hb3.size; omega
            have HRG := hide (fun w' => l3Reg_any (j : Int) (k : Int) w' (by omega) (by omega) (by omega) (by omega))
            clear q00 hy
            generalize hRG : sayR j x os k = RG at *
            clear hRG
            cases hrr : readsR x k
            · rw [hrr] at HRR
              have RS2 : Hid (sayR j x os (k + 1) = RG) := hide (by rw [RS.out, hrr]; simp)
              clear hrr RS
              go_wp2_with fail
              (with_reducible refine HRR.out.mono ?_); rintro e w2 ⟨rfl, hb4⟩
              go_wp2_with fail
              go_roundw
              case rel => exact ⟨k + 1, by omega, by go_num, by rw [RS2.out]; exact hown.below hb4, hb3.trans (hb4.mono hb3.size)⟩
              case measure => simp [intOf]; omega
            · rw [hrr] at HRR
              have RS2 : Hid (sayR j x os (k + 1) = RG ++ [leafR j k y]) := hide (by rw [RS.out, hrr]; rfl)
              clear hrr RS
              have hlen : (G ++ RG).length ≤ 68719476736 := by rw [List.length_append]; omega
              go_wp2_with fail
              (with_reducible refine HRR.out.mono ?_); rintro e w2 ⟨rfl, hb4⟩
              have q0 := (hb4.cell (p := ⟨d, e + (3 * j + k), none⟩) hd).trans Q0.out
              have hd2 : d < w2.heap.size := Nat.lt_of_lt_of_le hd hb4.size
              have HB4 := hide (hb3.trans (hb4.mono hb3.size))
              have HO4 := hide (hown.below hb4)
              have hqm : ((3 * j + k : Nat) : Int) < (m : Int) := by have := HOL.out; omega
              have HV2 : Hid ((3 * (j : Int) + (k : Int)) = ((3 * j + k : Nat) : Int)) := hide (by omega)
              clear hb4 hown
              rw [HV2.out] at HRG
              generalize 3 * j + k = q at *
              go_wp2_with (first | (go_at_call 116; (with_reducible refine (HRG.out _).mono ?_); rintro e w3 ⟨rfl, rfl⟩) | (at_builtin; refine wpList_app CsE 25 Try.infoCond rfl Try.underlying23 w1.heap.size _ _ (leafR j k y) (HO4.out.alloc _) (by decide) hlen (by have := HB4.out.size; simp; omega) rfl _ _ rfl rfl w2.heap.size 0 1 rfl news_alloc ?_; intro v' w6 hown6 hgr6))
              have hb8 := below_app HB4.out HO4.out hgr6
              go_roundw
              case rel =>
                have hown7 : Own CsE 25 w6 w1.heap.size v' (G ++ sayR j x os (k + 1)) := by rw [RS2.out]; simpa [List.append_assoc] using hown6
                exact ⟨k + 1, by omega, by go_num, hown7, hb8⟩
              case measure => simp [intOf]; omega
          · obtain rfl : k = 3 := by omega
            go_wp2_with fail
            go_roundw
            case rel => exact ⟨j + 1, by omega, by go_num, by rw [GS.out]; exact hown, hb3⟩
            case measure => simp [intOf]; omega
      · obtain rfl : j = n := by omega
        have hgl := HTL.out j
        generalize hG : sayTo p os j = G at *
        clear hG
        have HOW := hide hown; clear hown
        go_wp2_with fail
        go_loopw [6, 9] (fun s i wr => ∃ k : Nat, k ≤ 3 ∧ i = .int .i64 k ∧ Own CsE 25 wr w1.heap.size s (G ++ sayM p os k) ∧ Below w1.heap.size w1 wr) (fun _ i _ => 3 - (intOf i).toNat)
        case atStart => exact ⟨0, by omega, rfl, by rw [HM0.out, List.append_nil]; exact HOW.out, hb2⟩
        case round =>
          obtain ⟨k, hk, rfl, hown, hb3⟩ := hrel
          by_cases hlt3 : k < 3
          · have hlt3' : (k : Int) ≤ 2 := by omega
            have HRR := hide (HL1.out k wr (HP1.out.below hb3))
            obtain ⟨y, hy⟩ := HGET.out (3 * j + k) (by have := HOL.out; omega)
            have RS := hide (HMS.out k y hy)
            have hrl := HML.out k
            obtain ⟨d, e, rfl, hdw, q00⟩ := HO1.out.int hy
            have Q0 := hide ((hb3.cell (p := ⟨d, e + (3 * j + k), none⟩) hdw).trans q00)
            have hd : d < wr.heap.size := by have := hb3.size; omega
            have HSZ := hide (fun w' => l3Size_any a j c w' (by omega))
            have hw := HWC.out k
            clear q00 hy
            generalize hRG : sayM p os k = RG at *
            clear hRG
            generalize cnt (fRW true k) p = cn at *
            cases hrr : writesP p k
            · rw [hrr] at hw
              have RS2 : Hid (sayM p os (k + 1) = RG) := hide (by rw [RS.out, hrr]; simp)
              have hcn : decide (0 < cn) = false := hw.symm
              clear hrr RS hw
              go_wp2_with fail
              (with_reducible refine HRR.out.mono ?_); rintro e w2 ⟨rfl, hb4⟩
              go_wp2_with fail
              go_roundw
              case rel => exact ⟨k + 1, by omega, by go_num, by rw [RS2.out]; exact hown.below hb4, hb3.trans (hb4.mono hb3.size)⟩
              case measure => simp [intOf]; omega
            · rw [hrr] at hw
              have RS2 : Hid (sayM p os (k + 1) = RG ++ [leafM k y]) := hide (by rw [RS.out, hrr]; rfl)
              have hcn : decide (0 < cn) = true := hw.symm
              clear hrr RS hw
              have hlen : (G ++ RG).length ≤ 68719476736 := by rw [List.length_append]; omega
              go_wp2_with fail
              (with_reducible refine HRR.out.mono ?_); rintro e w2 ⟨rfl, hb4⟩
              have q0 := (hb4.cell (p := ⟨d, e + (3 * j + k), none⟩) hd).trans Q0.out
              have hd2 : d < w2.heap.size := Nat.lt_of_lt_of_le hd hb4.size
              have HB4 := hide (hb3.trans (hb4.mono hb3.size))
              have HO4 := hide (hown.below hb4)
              have hqm : ((3 * j + k : Nat) : Int) < (m : Int) := by have := HOL.out; omega
              have HV2 : Hid (3 * (j : Int) + 3 - 1 - 2 + (k : Int) = ((3 * j + k : Nat) : Int)) := hide (by omega)
              clear hb4 hown
              generalize 3 * j + k = q at *
              have hv2 := HV2.out
              go_wp2_with (first | (go_at_call 118; (with_reducible refine (HSZ.out _).mono ?_); rintro e w3 ⟨rfl, rfl⟩) | (at_builtin; refine wpList_app CsE 25 Try.infoCond rfl Try.underlying23 w1.heap.size _ _ (leafM k y) (HO4.out.alloc _) (by decide) hlen (by have := HB4.out.size; simp; omega) rfl _ _ rfl rfl w2.heap.size 0 1 rfl news_alloc ?_; intro v' w6 hown6 hgr6))
              have hb8 := below_app HB4.out HO4.out hgr6
              go_roundw
              case rel =>
                have hown7 : Own CsE 25 w6 w1.heap.size v' (G ++ sayM p os (k + 1)) := by rw [RS2.out]; simpa [List.append_assoc] using hown6
                exact ⟨k + 1, by omega, by go_num, hown7, hb8⟩
              case measure => simp [intOf]; omega
          · obtain rfl : k = 3 := by omega
            rw [← PP.out] at hown
            have hwl := (Array.getElem?_eq_some_iff.1 HA1.out).1
            have HA3 := hide ((hb3.block w.heap.size hwl).trans HA1.out)
            have HB3 := hide (HB1.out.trans (hb3.mono HB1.out.size))
            have hw1r := hb3.size
            clear hb3 hb2
            rcases hown.shape with ⟨rfl, hnil⟩ | ⟨g, cap, rfl, hg1, hg2, hc1', hc2'⟩
            · obtain rfl : R = (zC, false) := by rw [HEQ.out, if_neg (fun h => h.2.1 hnil)]
              have hbl := HA3.out
              have e0 := cell_of_heapP hbl (k := 0) rfl; have e1 := cell_of_heapP hbl (k := 1) rfl; have e2 := cell_of_heapP hbl (k := 2) rfl; have e3 := cell_of_heapP hbl (k := 3) rfl; have e4 := cell_of_heapP hbl (k := 4) rfl; have hll := lt_of_cell e0; have ef := frozen_of_heapP hbl
              clear hbl hnil
              go_wp2_with fail
              refine bodyPost_ret (v := .tuple #[.agg #[.int .i64 0, .int .i64 0, .int .i64 0, .int .i64 0, .slice none 0 0], .bool false]) (by simp [results, Try.results42, go_sem, e0, e1, e2, e3, e4]) rfl ?_
              exact RetCB.no (((((HB3.out.setCell (Nat.le_refl _) _).setCell (Nat.le_refl _) _).setCell (Nat.le_refl _) _).setCell (Nat.le_refl _) _).setCell (Nat.le_refl _) _)
            · by_cases hS : saidL p os = []
              · obtain rfl : R = (zC, false) := by rw [HEQ.out, if_neg (fun h => h.2.1 hS)]
                have hbl := HA3.out
                have e0 := cell_of_heapP hbl (k := 0) rfl; have e1 := cell_of_heapP hbl (k := 1) rfl; have e2 := cell_of_heapP hbl (k := 2) rfl; have e3 := cell_of_heapP hbl (k := 3) rfl; have e4 := cell_of_heapP hbl (k := 4) rfl; have hll := lt_of_cell e0; have ef := frozen_of_heapP hbl
                rw [hS]
                clear hbl hS
                go_wp2_with fail
                refine bodyPost_ret (v := .tuple #[.agg #[.int .i64 0, .int .i64 0, .int .i64 0, .int .i64 0, .slice none 0 0], .bool false]) (by simp [results, Try.results42, go_sem, e0, e1, e2, e3, e4]) rfl ?_
                exact RetCB.no (((((HB3.out.setCell (Nat.le_refl _) _).setCell (Nat.le_refl _) _).setCell (Nat.le_refl _) _).setCell (Nat.le_refl _) _).setCell (Nat.le_refl _) _)
              · have hSl : 0 < (saidL p os).length := List.length_pos_iff.2 hS
                have hI : Calls Try.prog 119 #[.slice (some ⟨g, 0, none⟩) (saidL p os).length cap, .int .i64 0] wr (RetC1 wr (andL (saidL p os))) :=
                  l11And_any (saidL p os) (fun u h => HNS.out u h) (by have := HSL.out; omega) ((saidL p os).length - 1) 0 (some ⟨g, 0, none⟩) cap wr (by omega) hown.rep
                have HI := hide hI
                have HEQ2 : Hid (R = if validC (andL (saidL p os)) = true then (andL (saidL p os), true) else (zC, false)) := hide (by
                  rw [HEQ.out]
                  by_cases hv : validC (andL (saidL p os)) = true
                  · rw [if_pos hv, if_pos ⟨trivial, hS, hv⟩]
                  · rw [if_neg hv, if_neg (fun h => hv h.2.2)])
                have hne : (((saidL p os).length : Int) == 0) = false := by simp; omega
                have hsl12 : (saidL p os).length ≤ 12 := by have := HSL.out; omega
                clear hI hown HEQ hS PP HNS HSL
                generalize saidL p os = S at *
                generalize S.length = sl at *
                generalize andL S = AS at *
                go_wp2_with fail
                (with_reducible refine HI.out.mono ?_); rintro e w3 ⟨ro, rt, rq, rx, rks, rs, hce, rfl, own, hb5⟩
                have HCE := hide hce
                have HB5 := hide (HB3.out.trans (hb5.mono HB3.out.size))
                have HA5 := hide ((hb5.block w.heap.size (Array.getElem?_eq_some_iff.1 HA3.out).1).trans HA3.out)
                have hbw := (Below.refl w3.heap.size w3).alloc (Nat.le_refl _) (.cells #[.int .i64 ro, .int .i64 rt, .int .i64 rq, .int .i64 rx, .slice rs.a rs.n rs.cap] 25)
                have hdk : descs rks ≤ 1048576 := by
                  have h := HDS.out
                  rw [hce] at h
                  simp only [Cd.kids] at h
                  omega
                have HCV := hide (CondValidS_raw ro rt rq rx rks rs.a rs.n rs.cap _ ((own.keepB hbw).rep.low (Nat.zero_le _)) hdk)
                rw [hce] at HEQ2
                have HOWN := hide (own.keepB hbw)
                have HB6 := hide (HB5.out.trans (hbw.mono HB5.out.size))
                have HA6 := hide ((hbw.block w.heap.size (Array.getElem?_eq_some_iff.1 HA5.out).1).trans HA5.out)
                have HT := hide (heap_alloc_new w3 (.cells #[.int .i64 ro, .int .i64 rt, .int .i64 rq, .int .i64 rx, .slice rs.a rs.n rs.cap] 25))
                clear own hb5 hbw hce
                generalize hvb : validC (.mk ro rt rq rx rks) = vb at *
                clear hvb
                cases vb
                · obtain rfl : R = (zC, false) := by rw [HEQ2.out, if_neg (by simp)]
                  go_wp2_with (go_at_call 18; (with_reducible refine HCV.out.mono ?_); rintro e w8 ⟨rfl, hb8⟩; have hbl := (hb8.block w.heap.size (Array.getElem?_eq_some_iff.1 HA6.out).1).trans HA6.out; have e0 := cell_of_heapP hbl (k := 0) rfl; have e1 := cell_of_heapP hbl (k := 1) rfl; have e2 := cell_of_heapP hbl (k := 2) rfl; have e3 := cell_of_heapP hbl (k := 3) rfl; have e4 := cell_of_heapP hbl (k := 4) rfl; have hll := lt_of_cell e0; have ef := frozen_of_heapP hbl)
                  refine bodyPost_ret (v := .tuple #[.agg #[.int .i64 0, .int .i64 0, .int .i64 0, .int .i64 0, .slice none 0 0], .bool false]) (by simp [results, Try.results42, go_sem, e0, e1, e2, e3, e4]) rfl ?_
                  exact RetCB.no ((((((HB6.out.trans (hb8.mono HB6.out.size)).setCell (Nat.le_refl _) _).setCell (Nat.le_refl _) _).setCell (Nat.le_refl _) _).setCell (Nat.le_refl _) _).setCell (Nat.le_refl _) _)
                · obtain rfl : R = (.mk ro rt rq rx rks, true) := by rw [HEQ2.out, if_pos rfl]
                  have hne2 : w.heap.size ≠ w3.heap.size := by have := (Array.getElem?_eq_some_iff.1 HA5.out).1; omega
                  have hlt3 : w.heap.size < w3.heap.size := by have := (Array.getElem?_eq_some_iff.1 HA5.out).1; omega
                  go_wp2_with (go_at_call 18; (with_reducible refine HCV.out.mono ?_); rintro e w8 ⟨rfl, hb8⟩; have hbl := (hb8.block w.heap.size (Array.getElem?_eq_some_iff.1 HA6.out).1).trans HA6.out; have e0 := cell_of_heapP hbl (k := 0) rfl; have e1 := cell_of_heapP hbl (k := 1) rfl; have e2 := cell_of_heapP hbl (k := 2) rfl; have e3 := cell_of_heapP hbl (k := 3) rfl; have e4 := cell_of_heapP hbl (k := 4) rfl; have hll := lt_of_cell e0; have ef := frozen_of_heapP hbl; have hb7 := (hb8.block w3.heap.size (Array.getElem?_eq_some_iff.1 HT.out).1).trans HT.out; have d0 := cell_of_heapP hb7 (k := 0) rfl; have d1 := cell_of_heapP hb7 (k := 1) rfl; have d2 := cell_of_heapP hb7 (k := 2) rfl; have d3 := cell_of_heapP hb7 (k := 3) rfl; have d4 := cell_of_heapP hb7 (k := 4) rfl; have dl := lt_of_cell d0)
                  have hq := st5_same w8 w.heap.size _ _ _ _ _ _ (.int .i64 ro) (.int .i64 rt) (.int .i64 rq) (.int .i64 rx) (.slice rs.a rs.n rs.cap) hbl
                  have q0 := cell_of_heapP hq (k := 0) rfl; have q1 := cell_of_heapP hq (k := 1) rfl; have q2 := cell_of_heapP hq (k := 2) rfl; have q3 := cell_of_heapP hq (k := 3) rfl; have q4 := cell_of_heapP hq (k := 4) rfl
                  refine bodyPost_ret (v := .tuple #[.agg #[.int .i64 ro, .int .i64 rt, .int .i64 rq, .int .i64 rx, .slice rs.a rs.n rs.cap], .bool true]) (by simp [results, Try.results42, go_sem, q0, q1, q2, q3, q4]) rfl ⟨ro, rt, rq, rx, rks, rs, rfl, rfl, ?_, ?_⟩
                  · exact ((HOWN.out.keepB hb8).keep (fun q h1 _ _ => st5_other w8 w.heap.size q (.int .i64 ro) (.int .i64 rt) (.int .i64 rq) (.int .i64 rx) (.slice rs.a rs.n rs.cap) (by omega))).wide (by omega) (by have := hb8.size; simp at this ⊢; omega)
                  · exact (((((HB6.out.trans (hb8.mono HB6.out.size)).setCell (Nat.le_refl _) _).setCell (Nat.le_refl _) _).setCell (Nat.le_refl _) _).setCell (Nat.le_refl _) _).setCell (Nat.le_refl _) _

end Go.Proofs.Ytpnmphfdfadlcaa
