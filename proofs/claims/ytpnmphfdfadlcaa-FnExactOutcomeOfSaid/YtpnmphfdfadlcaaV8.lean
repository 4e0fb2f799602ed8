/-
  ExecValid of the program. Condition: bounds on lengths.
-/
import Derived.Test.YtpnmphfdfadlcaaV7
import Derived.Test.YtpnmphfdfadlcaaSortN
namespace Go.Proofs.Ytpnmphfdfadlcaa
open Go.RowKit

theorem sort_eq {p : List (List Ins)} {l : Nat} (o : List Int) : decide (sortL o = wrL (evAll p) l) = decide (o.Perm (wrL (evAll p) l)) := by
  congr 1
  apply propext
  constructor
  · intro h
    rw [← h]
    exact (List.mergeSort_perm o _).symm
  · intro h
    have h1 : (sortL o).Perm (wrL (evAll p) l) := (List.mergeSort_perm o _).trans h
    have h2 : (sortL o).Pairwise (· ≤ ·) := by
      have := List.pairwise_mergeSort (le := fun x y : Int => decide (x ≤ y)) (fun a b c h1 h2 => by simp at *; omega) (fun a b => by simp; omega) o
      exact this.imp (fun h => by simpa using h)
    have h3 : (wrL (evAll p) l).Pairwise (· ≤ ·) := (wrL_sorted _ _).imp (fun h => Int.le_of_lt h)
    exact h1.eq_of_pairwise (fun a b _ _ h4 h5 => Int.le_antisymm h4 h5) h2 h3

theorem head_get {o : List Int} {x : Int} (h : o[0]? = some x) (l : Nat) : (o.head? == some (l : Int)) = (x == (l : Int)) := by
  rw [List.head?_eq_getElem?, h]; rfl

set_option maxRecDepth 100000 in
set_option maxHeartbeats 6400000 in
theorem ExecValid_any (v vf vo : Value) (p : List (List Ins)) (x : Xc) (w : World) (hp : RepP w v p) (hx : RepX w vf vo x) (hl : p.flatten.length ≤ 1048576) (hol : ∀ o ∈ x.od, o.length ≤ 1048576) :
    Calls Try.prog 139 #[v, .agg #[vf, vo]] w fun e w' => e = .returned (.bool (execOk p x)) ∧ Below w.heap.size w w' := by
  have HP := hide hp
  have HXX := hide hx
  have HV := hide (fun w' h => ProgramValid_any v p w' h hl)
  have HE := hide (fun w' h => events_any v p w' h hl)
  obtain ⟨fa, fc, rfl, hf1, hf2, hf3, hfr⟩ := hx.fr.open
  obtain ⟨oa, oc, rfl, ho1, ho2, ho3, hod⟩ := hx.od.open
  clear hp hfr hod hx
  have HR : Hid (execOk p x = (progValid p && (decide (x.fr.length = (evAll p).length) && (decide (x.od.length = 3) && (fromsOk (evAll p) x.fr (evAll p).length && ordersOk (evAll p) x.od 3))))) := hide rfl
  have HEL := hide (evAll_length p)
  have HSE := hide (fun (l : Nat) (o : List Int) => sort_eq (p := p) (l := l) o)
  have HWP := hide (fun (l : Nat) (h : l < 3) => wrL_pos (p := p) h)
  have HOL := hide hol; clear hol
  have HB0 := hide ((Below.refl w.heap.size w).alloc (Nat.le_refl _) (.cells #[.slice fa x.fr.length fc, .slice oa x.od.length oc] 80))
  have HPV : Hid (progValid p = true → (evAll p).length ≤ 15) := hide evAll_le
  have HP0 := hide (HP.out.below HB0.out)
  generalize execOk p x = R at *
  generalize hfn : x.fr.length = fn at *
  generalize hon : x.od.length = on at *
  generalize hes : evAll p = es at *
  generalize hen : es.length = en at *
  generalize progValid p = b at *
  have HF := hide hfn; have HO := hide hon; have HN := hide hen
  clear hfn hon hes hen
  go_enter Try.func139, Try.ntmps139
  cases b
  · obtain rfl : R = false := by rw [HR.out]; rfl
    go_wp2_with fail
    (with_reducible refine (HV.out _ HP0.out).mono ?_); rintro e w1 ⟨rfl, hb1⟩
    go_wp2_with fail
    go_ret
    exact ⟨rfl, HB0.out.trans (hb1.mono HB0.out.size)⟩
  · have hen15 := HPV.out rfl
    go_wp2_with fail
    (with_reducible refine (HV.out _ HP0.out).mono ?_); rintro e w1 ⟨rfl, hb1⟩
    have HP1 := hide (HP0.out.below hb1)
    have HB1 := hide hb1; clear hb1
    go_wp2_with fail
    (with_reducible refine (HE.out _ HP1.out).mono ?_); rintro e w2 ⟨ve, rfl, oe, hb2⟩
    have hre := oe.rep
    obtain ⟨ea, ec, rfl, he1, he2, he3, hre⟩ := hre.open
    rw [HN.out] at he1 he2 hre ⊢
    have HRE := hide hre
    have HB2 := hide (HB1.out.trans (hb2.mono HB1.out.size))
    have hbl0 : w.heap.size < (w.alloc (.cells #[.slice fa fn fc, .slice oa on oc] 80)).heap.size := by simp
    have hz : (w.alloc (.cells #[.slice fa fn fc, .slice oa on oc] 80)).cell? ⟨w.heap.size, 0, none⟩ = some (.slice fa fn fc) ∧ (w.alloc (.cells #[.slice fa fn fc, .slice oa on oc] 80)).cell? ⟨w.heap.size, 1, none⟩ = some (.slice oa on oc) := by simp [go_sem]
    have HZ0 := hide hz.1; have HZ1 := hide hz.2
    have HX0 := hide (HXX.out.below HB0.out)
    have HBW := hide (HB0.out)
    clear oe hre hb2 hz HB1 HV HE
    generalize w.alloc (.cells #[.slice fa fn fc, .slice oa on oc] 80) = w0 at *
    have z0 := (HB2.out.cell (p := ⟨w.heap.size, 0, none⟩) hbl0).trans HZ0.out
    have z1 := (HB2.out.cell (p := ⟨w.heap.size, 1, none⟩) hbl0).trans HZ1.out
    have hbl2 : w.heap.size < w2.heap.size := Nat.lt_of_lt_of_le hbl0 HB2.out.size
    by_cases c1 : fn = en
    · by_cases c2 : on = 3
      · have k1 : ((fn : Int) != (en : Int)) = false := by simp [c1]
        have k2 : ((on : Int) != 3) = false := by subst c2; rfl
        have E1 : Hid (R = (fromsOk es x.fr en && ordersOk es x.od 3)) := hide (by rw [HR.out, c1, c2]; simp)
        have C1 := hide c1; have C2 := hide c2
        clear c1 c2 HR
        go_wp2_with fail
        clear k1 k2 z0 z1
        go_loopw [31] (fun i wr => ∃ t : Nat, t ≤ en ∧ i = .int .i64 t ∧ Hid (fromsOk es x.fr t = true) ∧ Below w2.heap.size w2 wr) (fun i _ => en - (intOf i).toNat)
        case atStart => exact ⟨0, Nat.zero_le _, rfl, hide (by simp [fromsOk]), Below.refl _ _⟩
        case round =>
          obtain ⟨t, ht, rfl, hok, hb⟩ := hrel
          have HXr := hide ((HX0.out.below HB2.out).below hb)
          have HREr := hide (HRE.out.below hb)
          have z0 := (hb.cell (p := ⟨w.heap.size, 0, none⟩) hbl2).trans ((HB2.out.cell (p := ⟨w.heap.size, 0, none⟩) hbl0).trans HZ0.out)
          have hblr : w.heap.size < wr.heap.size := Nat.lt_of_lt_of_le hbl2 hb.size
          by_cases hlt : t < en
          · obtain ⟨e, he⟩ := get_of_lt (xs := es) (k := t) (by rw [HN.out]; exact hlt)
            obtain ⟨f, hf⟩ := get_of_lt (xs := x.fr) (k := t) (by rw [HF.out, C1.out]; exact hlt)
            obtain ⟨b, o, rfl, hbl, i0, i1, i2, i3, i4⟩ := HREr.out.ev he
            obtain ⟨b', o', rfl, hbl', j0⟩ := HXr.out.fr.int hf
            have hlt' := nat_of_lt hlt
            have hltf : (t : Int) < (fn : Int) := by have := C1.out; omega
            have FS := hide (fromsOk_succ he hf)
            have FN : Hid (fromOk es t e f = false → R = false) := hide (fun h => by rw [E1.out, fromsOk_no he hf hlt h]; rfl)
            clear he hf
            obtain ⟨et, ei, el, er, ew⟩ := e
            simp only at i0 i1 i2 i3 i4
            have HBA := hide (hb.alloc hb.size (.cells #[.int .i64 et, .int .i64 ei, .int .i64 el, .bool er, .bool ew] 88))
            cases er
            · have FO : Hid (fromOk es t ⟨et, ei, el, false, ew⟩ f = (f == -1)) := hide rfl
              by_cases hf1 : f = -1
              · subst hf1
                have OK : Hid (fromsOk es x.fr (t + 1) = true) := hide (by rw [FS.out, hok.out, FO.out]; rfl)
                go_wp2_with fail
                go_roundw
                case rel => exact ⟨t + 1, by omega, by go_num, OK, HBA.out⟩
                case measure => simp [intOf]; omega
              · have k1 : (f != -1) = true := by simp [hf1]
                obtain rfl : R = false := FN.out (by rw [FO.out]; simp [hf1])
                clear hf1
                go_wp2_with fail
                go_ret
                have hb5 := HB2.out.trans (HBA.out.mono HB2.out.size)
                exact ⟨rfl, HBW.out.trans (hb5.mono HBW.out.size)⟩
            · have FO : Hid (fromOk es t ⟨et, ei, el, true, ew⟩ f = ((f != (t : Int)) && (wrL es el).contains f)) := hide rfl
              have HWR := hide (writersOf_any (.slice (some ⟨b, o, none⟩) en ec) es el _ (HREr.out.below ((Below.refl wr.heap.size wr).alloc (Nat.le_refl _) (.cells #[.int .i64 et, .int .i64 ei, .int .i64 el, .bool true, .bool ew] 88))) (by rw [HN.out]; omega))
              have HPL := hide (fun v w' h => ContainsN_any v (wrL es el) f w' h)
              generalize wrL es el = ws at *
              by_cases hft : f = (t : Int)
              · obtain rfl : R = false := FN.out (by rw [FO.out, hft]; simp)
                have k3 : (f == (t : Int)) = true := by simp [hft]
                clear hft
                go_wp2_with fail
                go_ret
                have hb5 := HB2.out.trans (HBA.out.mono HB2.out.size)
                exact ⟨rfl, HBW.out.trans (hb5.mono HBW.out.size)⟩
              · have k3 : (f == (t : Int)) = false := by simp [hft]
                generalize hcf : ws.contains f = cf at *
                cases cf
                · obtain rfl : R = false := FN.out (by rw [FO.out]; simp)
                  clear hcf hft
                  go_wp2_with fail
                  (with_reducible refine HWR.out.mono ?_); rintro e w4 ⟨vw, rfl, ow, hb4⟩
                  have HOW := hide ow.rep; have HB4 := hide (HBA.out.trans (hb4.mono HBA.out.size)); clear ow hb4
                  go_wp2_with fail
                  (with_reducible refine (HPL.out _ _ HOW.out).mono ?_); rintro e w5 ⟨rfl, rfl⟩
                  go_wp2_with fail
                  go_ret
                  have hb5 := HB2.out.trans (HB4.out.mono HB2.out.size)
                  exact ⟨rfl, HBW.out.trans (hb5.mono HBW.out.size)⟩
                · have OK : Hid (fromsOk es x.fr (t + 1) = true) := hide (by rw [FS.out, hok.out, FO.out]; simp [hft])
                  clear hcf hft
                  go_wp2_with fail
                  (with_reducible refine HWR.out.mono ?_); rintro e w4 ⟨vw, rfl, ow, hb4⟩
                  have HOW := hide ow.rep; have HB4 := hide (HBA.out.trans (hb4.mono HBA.out.size)); clear ow hb4
                  go_wp2_with fail
                  (with_reducible refine (HPL.out _ _ HOW.out).mono ?_); rintro e w5 ⟨rfl, rfl⟩
                  go_wp2_with fail
                  go_roundw
                  case rel => exact ⟨t + 1, by omega, by go_num, OK, HB4.out⟩
                  case measure => simp [intOf]; omega
          · have OKF : Hid (fromsOk es x.fr en = true) := hide (by rw [show en = t by omega]; exact hok.out)
            have E2 : Hid (R = ordersOk es x.od 3) := hide (by rw [E1.out, OKF.out]; rfl)
            clear E1 hok OKF
            have HB3 := hide (HB2.out.trans (hb.mono HB2.out.size))
            have z1 := (HB3.out.cell (p := ⟨w.heap.size, 1, none⟩) hbl0).trans HZ1.out
            go_wp2_with fail
            clear z0 z1
            go_loopw [70] (fun i wq => ∃ k : Nat, k ≤ 3 ∧ i = .int .i64 k ∧ Hid (ordersOk es x.od k = true) ∧ Below wr.heap.size wr wq) (fun i _ => 3 - (intOf i).toNat)
            case atStart => exact ⟨0, by omega, rfl, hide (by simp [ordersOk]), Below.refl _ _⟩
            case round =>
              obtain ⟨k, hk, rfl, hok, hbq⟩ := hrel
              have HXq := hide (HXr.out.below hbq)
              have HREq := hide (HREr.out.below hbq)
              by_cases hlt3 : k < 3
              · obtain ⟨r, hr⟩ := get_of_lt (xs := x.od) (k := k) (by rw [HO.out, C2.out]; exact hlt3)
                obtain ⟨b, o, ra, rc, rfl, hbl, i0, i1⟩ := HXq.out.od.row hr
                have hkon : (k : Int) < (on : Int) := by have := C2.out; omega
                have hrl := HOL.out r (List.mem_of_getElem? hr)
                have FS := hide (ordersOk_succ (es := es) hr)
                have FN : Hid (orderOk es k r = false → R = false) := hide (fun h => by rw [E2.out, ordersOk_no hr hlt3 h])
                have HOE : Hid (orderOk es k r = (decide (r.Perm (wrL es (k : Int))) && (r.head? == some (k : Int)))) := hide rfl
                have HSK := hide (HSE.out k r)
                have hwp := HWP.out k hlt3
                have HCL := hide (CloneV_any _ r wr i1 hrl)
                have I1 := hide i1
                clear hr i1
                have HWR := hide (fun w' h => writersOf_any (.slice ea en ec) es (k : Int) w' h (by rw [HN.out]; omega))
                generalize hws : wrL es (k : Int) = ws at *
                go_wp2_with fail
                (with_reducible refine HCL.out.mono ?_); rintro e w4 ⟨vc, rfl, oc4, hb4⟩
                have HS4 := hide (SortN_any vc r w4 _ oc4 (by omega))
                have HB4 := hide hb4
                have HO4 := hide oc4
                clear hb4 oc4
                go_wp2_with fail
                (with_reducible refine HS4.out.mono ?_); rintro e w5 ⟨rfl, o5, hg5⟩
                have HB5 := hide (HB4.out.grown hg5 HB4.out.size (fun q hq => (World.ownsRow.lt HO4.out q hq).1))
                have HO5 := hide o5
                clear o5 hg5
                have HB5r := hide (hbq.trans (HB5.out.mono hbq.size))
                have HREs := hide (HREq.out.below HB5.out)
                go_wp2_with fail
                (with_reducible refine (HWR.out _ HREs.out).mono ?_); rintro e w6 ⟨vw, rfl, ow, hb6⟩
                have HEQ := hide (EqualN_any vc vw (sortL r) ws w6 (HO5.out.below hb6).rep ow.rep)
                have HB6 := hide (HB5.out.trans (hb6.mono HB5.out.size))
                clear ow hb6
                rw [HSK.out] at HEQ
                have HRR := hide (I1.out.below HB6.out)
                generalize hpm : decide (r.Perm ws) = pm at *
                cases pm
                · obtain rfl : R = false := FN.out (by rw [HOE.out]; rfl)
                  clear hpm hws
                  go_wp2_with fail
                  (with_reducible refine HEQ.out.mono ?_); rintro e w7 ⟨rfl, hb7⟩
                  go_wp2_with fail
                  go_ret
                  have hb8 := HB3.out.trans ((hbq.trans ((HB6.out.trans (hb7.mono HB6.out.size)).mono hbq.size)).mono HB3.out.size)
                  exact ⟨rfl, HBW.out.trans (hb8.mono HBW.out.size)⟩
                · have hr0 : 0 < r.length := by rw [(of_decide_eq_true hpm).length_eq]; exact hwp
                  obtain ⟨x0, hx0⟩ := get_of_lt (xs := r) (k := 0) hr0
                  have HH := hide (head_get hx0 k)
                  have X0 := hide hx0
                  clear hpm hws hx0
                  go_wp2_with fail
                  (with_reducible refine HEQ.out.mono ?_); rintro e w7 ⟨rfl, hb7⟩
                  obtain ⟨b2, o2, rfl, hbl3, j0⟩ := (HRR.out.below hb7).int X0.out
                  simp only [Nat.add_zero] at j0
                  have hr0' : (0 : Int) < (r.length : Int) := by omega
                  have HB7 := hide (HB6.out.trans (hb7.mono HB6.out.size))
                  clear hb7
                  by_cases hxk : x0 = (k : Int)
                  · have k1 : (x0 != (k : Int)) = false := by simp [hxk]
                    have OK : Hid (ordersOk es x.od (k + 1) = true) := hide (by rw [FS.out, hok.out, HOE.out, HH.out, hxk]; simp)
                    clear hxk
                    go_wp2_with fail
                    go_roundw
                    case rel => exact ⟨k + 1, by omega, by go_num, OK, hbq.trans (HB7.out.mono hbq.size)⟩
                    case measure => simp [intOf]; omega
                  · have k1 : (x0 != (k : Int)) = true := by simp [hxk]
                    obtain rfl : R = false := FN.out (by rw [HOE.out, HH.out]; simp [hxk])
                    clear hxk
                    go_wp2_with fail
                    go_ret
                    have hb8 := HB3.out.trans ((hbq.trans (HB7.out.mono hbq.size)).mono HB3.out.size)
                    exact ⟨rfl, HBW.out.trans (hb8.mono HBW.out.size)⟩
              · obtain rfl : k = 3 := by omega
                obtain rfl : R = true := by rw [E2.out, hok.out]
                have hon := C2.out
                clear C2
                subst hon
                go_wp2_with fail
                go_ret
                have hb6 := HB3.out.trans (hbq.mono HB3.out.size)
                exact ⟨rfl, HBW.out.trans (hb6.mono HBW.out.size)⟩
      · have k1 : ((fn : Int) != (en : Int)) = false := by simp [c1]
        have k2 : ((on : Int) != 3) = true := by simpa using (by omega : ¬ (on : Int) = 3)
        obtain rfl : R = false := by rw [HR.out]; simp [c2]
        clear c1 c2 HR
        go_wp2_with fail
        go_ret
        exact ⟨rfl, HBW.out.trans (HB2.out.mono HBW.out.size)⟩
    · have k1 : ((fn : Int) != (en : Int)) = true := by simp; omega
      obtain rfl : R = false := by rw [HR.out]; simp [c1]
      clear c1 HR
      go_wp2_with fail
      go_ret
      exact ⟨rfl, HBW.out.trans (HB2.out.mono HBW.out.size)⟩

end Go.Proofs.Ytpnmphfdfadlcaa
