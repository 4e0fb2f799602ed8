/-
  FnValuesOf: for every input the law returns true and the input reads afterwards as it read before. No condition.
-/
import Derived.Test.YtblheabgjjeigaaZv06
import Derived.Test.YtblheabgjjeigaaZv13
import Derived.Test.YtblheabgjjeigaaZv07
import Derived.Test.YtblheabgjjeigaaZv03
import Derived.Test.YtblheabgjjeigaaZv00
import Derived.Test.YtblheabgjjeigaaZv12
namespace Go.Proofs.Ytblheabgjjeigaa
open Go.RowKit

theorem sort_eq {p : List (List Ins)} {l : Nat} (o : List Int) : decide (sortL o = wrL (evAll p) l) = decide (o.Perm (wrL (evAll p) l)) := by
  congr 1
  apply propext
  constructor
  · intro h
    rw [← h]
    exact (List.mergeSort_perm o _).symm
  · intro h
    have h1 : (sortL o).Perm (wrL (evAll p) l) := (List.mergeSort_perm o _).trans h
    have h2 : (sortL o).Pairwise (· ≤ ·) := by
      have := List.pairwise_mergeSort (le := fun x y : Int => decide (x ≤ y)) (fun a b c h1 h2 => by simp at *; omega) (fun a b => by simp; omega) o
      exact this.imp (fun h => by simpa using h)
    have h3 : (wrL (evAll p) l).Pairwise (· ≤ ·) := (wrL_sorted _ _).imp (fun h => Int.le_of_lt h)
    exact h1.eq_of_pairwise (fun a b _ _ h4 h5 => Int.le_antisymm h4 h5) h2 h3

theorem head_get {o : List Int} {x : Int} (h : o[0]? = some x) (l : Nat) : (o.head? == some (l : Int)) = (x == (l : Int)) := by
  rw [List.head?_eq_getElem?, h]; rfl

set_option maxRecDepth 100000 in
set_option maxHeartbeats 6400000 in
theorem ExecValid_any (v vf vo : Value) (p : List (List Ins)) (x : Xc) (w : World) (hp : RepP w v p) (hx : RepX w vf vo x) (hl : p.flatten.length ≤ 1048576) (hol : ∀ o ∈ x.od, o.length ≤ 1048576) :
    Calls Try.prog 22 #[v, .agg #[vf, vo]] w fun e w' => e = .returned (.bool (execOk p x)) ∧ Below w.heap.size w w' := by
  have HP := hide hp
  have HXX := hide hx
  have HV := hide (fun w' h => ProgramValid_any v p w' h hl)
  have HE := hide (fun w' h => events_any v p w' h hl)
  obtain ⟨fa, fc, rfl, hf1, hf2, hf3, hfr⟩ := hx.fr.open
  obtain ⟨oa, oc, rfl, ho1, ho2, ho3, hod⟩ := hx.od.open
  clear hp hfr hod hx
  have HR : Hid (execOk p x = (progValid p && (decide (x.fr.length = (evAll p).length) && (decide (x.od.length = 3) && (fromsOk (evAll p) x.fr (evAll p).length && ordersOk (evAll p) x.od 3))))) := hide rfl
  have HEL := hide (evAll_length p)
  have HSE := hide (fun (l : Nat) (o : List Int) => sort_eq (p := p) (l := l) o)
  have HWP := hide (fun (l : Nat) (h : l < 3) => wrL_pos (p := p) h)
  have HOL := hide hol; clear hol
  have HB0 := hide ((Below.refl w.heap.size w).alloc (Nat.le_refl _) (.cells #[.slice fa x.fr.length fc, .slice oa x.od.length oc] 27))
  have HPV : Hid (progValid p = true → (evAll p).length ≤ 15) := hide evAll_le
  have HP0 := hide (HP.out.below HB0.out)
  generalize execOk p x = R at *
  generalize hfn : x.fr.length = fn at *
  generalize hon : x.od.length = on at *
  generalize hes : evAll p = es at *
  generalize hen : es.length = en at *
  generalize progValid p = b at *
  have HF := hide hfn; have HO := hide hon; have HN := hide hen
  clear hfn hon hes hen
  go_enter Try.func22, Try.ntmps22
  cases b
  · obtain rfl : R = false := by rw [HR.out]; rfl
    go_wp2_with fail
    (with_reducible refine (HV.out _ HP0.out).mono ?_); rintro e w1 ⟨rfl, hb1⟩
    go_wp2_with fail
    go_ret
    exact ⟨rfl, HB0.out.trans (hb1.mono HB0.out.size)⟩
  · have hen15 := HPV.out rfl
    go_wp2_with fail
    (with_reducible refine (HV.out _ HP0.out).mono ?_); rintro e w1 ⟨rfl, hb1⟩
    have HP1 := hide (HP0.out.below hb1)
    have HB1 := hide hb1; clear hb1
    go_wp2_with fail
    (with_reducible refine (HE.out _ HP1.out).mono ?_); rintro e w2 ⟨ve, rfl, oe, hb2⟩
    have hre := oe.rep
    obtain ⟨ea, ec, rfl, he1, he2, he3, hre⟩ := hre.open
    rw [HN.out] at he1 he2 hre ⊢
    have HRE := hide hre
    have HB2 := hide (HB1.out.trans (hb2.mono HB1.out.size))
    have hbl0 : w.heap.size < (w.alloc (.cells #[.slice fa fn fc, .slice oa on oc] 27)).heap.size := by simp
    have hz : (w.alloc (.cells #[.slice fa fn fc, .slice oa on oc] 27)).cell? ⟨w.heap.size, 0, none⟩ = some (.slice fa fn fc) ∧ (w.alloc (.cells #[.slice fa fn fc, .slice oa on oc] 27)).cell? ⟨w.heap.size, 1, none⟩ = some (.slice oa on oc) := by simp [go_sem]
    have HZ0 := hide hz.1; have HZ1 := hide hz.2
    have HX0 := hide (HXX.out.below HB0.out)
    have HBW := hide (HB0.out)
    clear oe hre hb2 hz HB1 HV HE
    generalize w.alloc (.cells #[.slice fa fn fc, .slice oa on oc] 27) = w0 at *
    have z0 := (HB2.out.cell (p := ⟨w.heap.size, 0, none⟩) hbl0).trans HZ0.out
    have z1 := (HB2.out.cell (p := ⟨w.heap.size, 1, none⟩) hbl0).trans HZ1.out
    have hbl2 : w.heap.size < w2.heap.size := Nat.lt_of_lt_of_le hbl0 HB2.out.size
    by_cases c1 : fn = en
    · by_cases c2 : on = 3
      · have k1 : ((fn : Int) != (en : Int)) = false := by simp [c1]
        have k2 : ((on : Int) != 3) = false := by subst c2; rfl
        have E1 : Hid (R = (fromsOk es x.fr en && ordersOk es x.od 3)) := hide (by rw [HR.out, c1, c2]; simp)
        have C1 := hide c1; have C2 := hide c2
        clear c1 c2 HR
        go_wp2_with fail
        clear k1 k2 z0 z1
        go_loopw [31] (fun i wr => ∃ t : Nat, t ≤ en ∧ i = .int .i64 t ∧ Hid (fromsOk es x.fr t = true) ∧ Below w2.heap.size w2 wr) (fun i _ => en - (intOf i).toNat)
        case atStart => exact ⟨0, Nat.zero_le _, rfl, hide (by simp [fromsOk]), Below.refl _ _⟩
        case round =>
          obtain ⟨t, ht, rfl, hok, hb⟩ := hrel
          have HXr := hide ((HX0.out.below HB2.out).below hb)
          have HREr := hide (HRE.out.below hb)
          have z0 := (hb.cell (p := ⟨w.heap.size, 0, none⟩) hbl2).trans ((HB2.out.cell (p := ⟨w.heap.size, 0, none⟩) hbl0).trans HZ0.out)
          have hblr : w.heap.size < wr.heap.size := Nat.lt_of_lt_of_le hbl2 hb.size
          by_cases hlt : t < en
          · obtain ⟨e, he⟩ := get_of_lt (xs := es) (k := t) (by rw [HN.out]; exact hlt)
            obtain ⟨f, hf⟩ := get_of_lt (xs := x.fr) (k := t) (by rw [HF.out, C1.out]; exact hlt)
            obtain ⟨b, o, rfl, hbl, i0, i1, i2, i3, i4⟩ := HREr.out.ev he
            obtain ⟨b', o', rfl, hbl', j0⟩ := HXr.out.fr.int hf
            have hlt' := nat_of_lt hlt
            have hltf : (t : Int) < (fn : Int) := by have := C1.out; omega
            have FS := hide (fromsOk_succ he hf)
            have FN : Hid (fromOk es t e f = false → R = false) := hide (fun h => by rw [E1.out, fromsOk_no he hf hlt h]; rfl)
            clear he hf
            obtain ⟨et, ei, el, er, ew⟩ := e
            simp only at i0 i1 i2 i3 i4
            have HBA := hide (hb.alloc hb.size (.cells #[.int .i64 et, .int .i64 ei, .int .i64 el, .bool er, .bool ew] 36))
            cases er
            · have FO : Hid (fromOk es t ⟨et, ei, el, false, ew⟩ f = (f == -1)) := hide rfl
              by_cases hf1 : f = -1
              · subst hf1
                have OK : Hid (fromsOk es x.fr (t + 1) = true) := hide (by rw [FS.out, hok.out, FO.out]; rfl)
                go_wp2_with fail
                go_roundw
                case rel => exact ⟨t + 1, by omega, by go_num, OK, HBA.out⟩
                case measure => simp [intOf]; omega
              · have k1 : (f != -1) = true := by simp [hf1]
                obtain rfl : R = false := FN.out (by rw [FO.out]; simp [hf1])
                clear hf1
                go_wp2_with fail
                go_ret
                have hb5 := HB2.out.trans (HBA.out.mono HB2.out.size)
                exact ⟨rfl, HBW.out.trans (hb5.mono HBW.out.size)⟩
            · have FO : Hid (fromOk es t ⟨et, ei, el, true, ew⟩ f = ((f != (t : Int)) && (wrL es el).contains f)) := hide rfl
              have HWR := hide (writersOf_any (.slice (some ⟨b, o, none⟩) en ec) es el _ (HREr.out.below ((Below.refl wr.heap.size wr).alloc (Nat.le_refl _) (.cells #[.int .i64 et, .int .i64 ei, .int .i64 el, .bool true, .bool ew] 36))) (by rw [HN.out]; omega))
              have HPL := hide (fun v w' h => ContainsN_any v (wrL es el) f w' h)
              generalize wrL es el = ws at *
              by_cases hft : f = (t : Int)
              · obtain rfl : R = false := FN.out (by rw [FO.out, hft]; simp)
                have k3 : (f == (t : Int)) = true := by simp [hft]
                clear hft
                go_wp2_with fail
                go_ret
                have hb5 := HB2.out.trans (HBA.out.mono HB2.out.size)
                exact ⟨rfl, HBW.out.trans (hb5.mono HBW.out.size)⟩
              · have k3 : (f == (t : Int)) = false := by simp [hft]
                generalize hcf : ws.contains f = cf at *
                cases cf
                · obtain rfl : R = false := FN.out (by rw [FO.out]; simp)
                  clear hcf hft
                  go_wp2_with fail
                  (with_reducible refine HWR.out.mono ?_); rintro e w4 ⟨vw, rfl, ow, hb4⟩
                  have HOW := hide ow.rep; have HB4 := hide (HBA.out.trans (hb4.mono HBA.out.size)); clear ow hb4
                  go_wp2_with fail
                  (with_reducible refine (HPL.out _ _ HOW.out).mono ?_); rintro e w5 ⟨rfl, rfl⟩
                  go_wp2_with fail
                  go_ret
                  have hb5 := HB2.out.trans (HB4.out.mono HB2.out.size)
                  exact ⟨rfl, HBW.out.trans (hb5.mono HBW.out.size)⟩
                · have OK : Hid (fromsOk es x.fr (t + 1) = true) := hide (by rw [FS.out, hok.out, FO.out]; simp [hft])
                  clear hcf hft
                  go_wp2_with fail
                  (with_reducible refine HWR.out.mono ?_); rintro e w4 ⟨vw, rfl, ow, hb4⟩
                  have HOW := hide ow.rep; have HB4 := hide (HBA.out.trans (hb4.mono HBA.out.size)); clear ow hb4
                  go_wp2_with fail
                  (with_reducible refine (HPL.out _ _ HOW.out).mono ?_); rintro e w5 ⟨rfl, rfl⟩
                  go_wp2_with fail
                  go_roundw
                  case rel => exact ⟨t + 1, by omega, by go_num, OK, HB4.out⟩
                  case measure => simp [intOf]; omega
          · have OKF : Hid (fromsOk es x.fr en = true) := hide (by rw [show en = t by omega]; exact hok.out)
            have E2 : Hid (R = ordersOk es x.od 3) := hide (by rw [E1.out, OKF.out]; rfl)
            clear E1 hok OKF
            have HB3 := hide (HB2.out.trans (hb.mono HB2.out.size))
            have z1 := (HB3.out.cell (p := ⟨w.heap.size, 1, none⟩) hbl0).trans HZ1.out
            go_wp2_with fail
            clear z0 z1
            go_loopw [70] (fun i wq => ∃ k : Nat, k ≤ 3 ∧ i = .int .i64 k ∧ Hid (ordersOk es x.od k = true) ∧ Below wr.heap.size wr wq) (fun i _ => 3 - (intOf i).toNat)
            case atStart => exact ⟨0, by omega, rfl, hide (by simp [ordersOk]), Below.refl _ _⟩
            case round =>
              obtain ⟨k, hk, rfl, hok, hbq⟩ := hrel
              have HXq := hide (HXr.out.below hbq)
              have HREq := hide (HREr.out.below hbq)
              by_cases hlt3 : k < 3
              · obtain ⟨r, hr⟩ := get_of_lt (xs := x.od) (k := k) (by rw [HO.out, C2.out]; exact hlt3)
                obtain ⟨b, o, ra, rc, rfl, hbl, i0, i1⟩ := HXq.out.od.row hr
                have hkon : (k : Int) < (on : Int) := by have := C2.out; omega
                have hrl := HOL.out r (List.mem_of_getElem? hr)
                have FS := hide (ordersOk_succ (es := es) hr)
                have FN : Hid (orderOk es k r = false → R = false) := hide (fun h => by rw [E2.out, ordersOk_no hr hlt3 h])
                have HOE : Hid (orderOk es k r = (decide (r.Perm (wrL es (k : Int))) && (r.head? == some (k : Int)))) := hide rfl
                have HSK := hide (HSE.out k r)
                have hwp := HWP.out k hlt3
                have HCL := hide (CloneV_any _ r wr i1 hrl)
                have I1 := hide i1
                clear hr i1
                have HWR := hide (fun w' h => writersOf_any (.slice ea en ec) es (k : Int) w' h (by rw [HN.out]; omega))
                generalize hws : wrL es (k : Int) = ws at *
                go_wp2_with fail
                (with_reducible refine HCL.out.mono ?_); rintro e w4 ⟨vc, rfl, oc4, hb4⟩
                have HS4 := hide (SortN_any vc r w4 _ oc4 (by omega))
                have HB4 := hide hb4
                have HO4 := hide oc4
                clear hb4 oc4
                go_wp2_with fail
                (with_reducible refine HS4.out.mono ?_); rintro e w5 ⟨rfl, o5, hg5⟩
                have HB5 := hide (HB4.out.grown hg5 HB4.out.size (fun q hq => (World.ownsRow.lt HO4.out q hq).1))
                have HO5 := hide o5
                clear o5 hg5
                have HB5r := hide (hbq.trans (HB5.out.mono hbq.size))
                have HREs := hide (HREq.out.below HB5.out)
                go_wp2_with fail
                (with_reducible refine (HWR.out _ HREs.out).mono ?_); rintro e w6 ⟨vw, rfl, ow, hb6⟩
                have HEQ := hide (EqualN_any vc vw (sortL r) ws w6 (HO5.out.below hb6).rep ow.rep)
                have HB6 := hide (HB5.out.trans (hb6.mono HB5.out.size))
                clear ow hb6
                rw [HSK.out] at HEQ
                have HRR := hide (I1.out.below HB6.out)
                generalize hpm : decide (r.Perm ws) = pm at *
                cases pm
                · obtain rfl : R = false := FN.out (by rw [HOE.out]; rfl)
                  clear hpm hws
                  go_wp2_with fail
                  (with_reducible refine HEQ.out.mono ?_); rintro e w7 ⟨rfl, hb7⟩
                  go_wp2_with fail
                  go_ret
                  have hb8 := HB3.out.trans ((hbq.trans ((HB6.out.trans (hb7.mono HB6.out.size)).mono hbq.size)).mono HB3.out.size)
                  exact ⟨rfl, HBW.out.trans (hb8.mono HBW.out.size)⟩
                · have hr0 : 0 < r.length := by rw [(of_decide_eq_true hpm).length_eq]; exact hwp
                  obtain ⟨x0, hx0⟩ := get_of_lt (xs := r) (k := 0) hr0
                  have HH := hide (head_get hx0 k)
                  have X0 := hide hx0
                  clear hpm hws hx0
                  go_wp2_with fail
                  (with_reducible refine HEQ.out.mono ?_); rintro e w7 ⟨rfl, hb7⟩
                  obtain ⟨b2, o2, rfl, hbl3, j0⟩ := (HRR.out.below hb7).int X0.out
                  simp only [Nat.add_zero] at j0
                  have hr0' : (0 : Int) < (r.length : Int) := by omega
                  have HB7 := hide (HB6.out.trans (hb7.mono HB6.out.size))
                  clear hb7
                  by_cases hxk : x0 = (k : Int)
                  · have k1 : (x0 != (k : Int)) = false := by simp [hxk]
                    have OK : Hid (ordersOk es x.od (k + 1) = true) := hide (by rw [FS.out, hok.out, HOE.out, HH.out, hxk]; simp)
                    clear hxk
                    go_wp2_with fail
                    go_roundw
                    case rel => exact ⟨k + 1, by omega, by go_num, OK, hbq.trans (HB7.out.mono hbq.size)⟩
                    case measure => simp [intOf]; omega
                  · have k1 : (x0 != (k : Int)) = true := by simp [hxk]
                    obtain rfl : R = false := FN.out (by rw [HOE.out, HH.out]; simp [hxk])
                    clear hxk
                    go_wp2_with fail
                    go_ret
                    have hb8 := HB3.out.trans ((hbq.trans (HB7.out.mono hbq.size)).mono HB3.out.size)
                    exact ⟨rfl, HBW.out.trans (hb8.mono HBW.out.size)⟩
              · obtain rfl : k = 3 := by omega
                obtain rfl : R = true := by rw [E2.out, hok.out]
                have hon := C2.out
                clear C2
                subst hon
                go_wp2_with fail
                go_ret
                have hb6 := HB3.out.trans (hbq.mono HB3.out.size)
                exact ⟨rfl, HBW.out.trans (hb6.mono HBW.out.size)⟩
      · have k1 : ((fn : Int) != (en : Int)) = false := by simp [c1]
        have k2 : ((on : Int) != 3) = true := by simpa using (by omega : ¬ (on : Int) = 3)
        obtain rfl : R = false := by rw [HR.out]; simp [c2]
        clear c1 c2 HR
        go_wp2_with fail
        go_ret
        exact ⟨rfl, HBW.out.trans (HB2.out.mono HBW.out.size)⟩
    · have k1 : ((fn : Int) != (en : Int)) = true := by simp; omega
      obtain rfl : R = false := by rw [HR.out]; simp [c1]
      clear c1 HR
      go_wp2_with fail
      go_ret
      exact ⟨rfl, HBW.out.trans (HB2.out.mono HBW.out.size)⟩

end Go.Proofs.Ytblheabgjjeigaa

namespace Go.Proofs.Ytblheabgjjeigaa
open Go.RowKit

theorem evAll_ge (p : List (List Ins)) : 3 ≤ (evAll p).length := by unfold evAll; simp [evHead_length]
theorem rep_snoc (k : Nat) (x : Int) : List.replicate k x ++ [x] = List.replicate (k + 1) x := by
  rw [show k + 1 = k + 1 from rfl, List.replicate_succ']

set_option maxRecDepth 100000 in
set_option maxHeartbeats 6400000 in
theorem l6Values_any (v vf vo : Value) (p : List (List Ins)) (x : Xc) (w : World) (hp : RepP w v p) (hx : RepX w vf vo x) (hl : p.flatten.length ≤ 1048576) (hok : execOk p x = true) :
    Calls Try.prog 25 #[v, .agg #[vf, vo]] w (RetNB w (valsL p x.fr, valsOk p x.fr)) := by
  have HE := hide (fun w' h => l6Events_any v p w' h hl)
  unfold execOk at hok
  simp only [Bool.and_eq_true, decide_eq_true_eq] at hok
  obtain ⟨hpv, hfl, hol, hfo, hoo⟩ := hok
  have HFO := hide hfo
  have hen := evAll_le hpv
  have hen3 := evAll_ge p
  have HDV := hide (fun i v (h : depV p (evAll p) x.fr i = .inl v) => dep_val hpv h)
  clear hpv hol hoo hfo hfl
  have HP := hide hp; have HX := hide hx
  obtain ⟨pa, pc, rfl, -, hpn, -, -⟩ := hp.open
  obtain ⟨fa, fc, rfl, -, hfn, -, -⟩ := hx.fr.open
  obtain ⟨oa, oc, rfl, -, hon, -, -⟩ := hx.od.open
  clear hp hx
  have HRV : Hid ((valsL p x.fr, valsOk p x.fr) = (valTo (evAll p) (cX p x.fr) (evAll p).length, okTo (evAll p) (cX p x.fr) (evAll p).length)) := hide rfl
  generalize (valsL p x.fr, valsOk p x.fr) = R at *
  have HC : Hid (cX p x.fr = chain (depV p (evAll p) x.fr) (evAll p).length) := hide rfl
  generalize cX p x.fr = c at *
  generalize hes : evAll p = es at *
  have HES := hide hes.symm
  have HOS := hide (fun k e h => okTo_succ (es := es) c (k := k) (e := e) h)
  have HON := hide (fun k e h hw hc => okTo_no (es := es) c (k := k) (e := e) h hw hc)
  have HVL := hide (valTo_length es c)
  have HVG := hide (fun i e h1 h2 => valTo_get (es := es) c (i := i) (e := e) (k := es.length) h1 (Nat.le_refl _) h2)
  have HB0 := hide ((Below.refl w.heap.size w).alloc (Nat.le_refl _) (.cells #[.slice fa x.fr.length fc, .slice oa x.od.length oc] 27))
  have HBX := hide (heap_alloc_new w (.cells #[.slice fa x.fr.length fc, .slice oa x.od.length oc] 27))
  have HP0 := hide (HP.out.below HB0.out); have HX0 := hide (HX.out.below HB0.out)
  clear hes
  generalize hfn' : x.fr.length = fn at *
  generalize hon' : x.od.length = on at *
  generalize hpn' : p.length = pn at *
  clear hfn' hon' hpn'
  have HKI0 := hide (KInv.start (depV p es x.fr) es)
  have HKD := hide (fun (r : Nat) (K : List Int) (h : KInv (depV p es x.fr) es r 0 K) hr => h.done hr)
  have HW := hide (fun (vp ve vf vo vk : Value) (i : Nat) (K : List Int) (w' : World) h1 h2 h3 h4 h5 h6 => l6Write_any vp ve vf vo vk p es HES.out x i K w' h1 h2 h3 h4 HFO.out h5 h6 (by omega))
  have HLT := hide (fun i j h1 h2 => dep_lt (p := p) HFO.out i j h1 h2)
  have HIN := hide (fun i j h => dep_inr (p := p) HFO.out (i := i) (j := j) h)
  generalize hn : es.length = n at *
  have HN := hide hn; clear hn
  generalize depV p es x.fr = d at *
  go_enter Try.func25, Try.ntmps25
  go_wp2_with fail
  generalize hw1 : w.alloc (.cells #[.slice fa fn fc, .slice oa on oc] 27) = w1 at *
  clear hw1
  (with_reducible refine (HE.out _ HP0.out).mono ?_); rintro e w2 ⟨ve, rfl, oe, hb2⟩
  have hre := oe.rep
  obtain ⟨ea, ec, rfl, -, -, -, hre⟩ := hre.open
  rw [HN.out] at hre ⊢
  have HRE := hide hre; have HP2 := hide (HP0.out.below hb2); have HX2 := hide (HX0.out.below hb2)
  have HB2 := hide (HB0.out.trans (hb2.mono HB0.out.size))
  have HBX2 := hide ((hb2.block w.heap.size (Array.getElem?_eq_some_iff.1 HBX.out).1).trans HBX.out)
  clear oe hre hb2 HB0 HBX HP0 HX0 HP HX HE
  go_wp2_with fail
  go_loopw [7, 8] (fun s i wr => ∃ k : Nat, k ≤ n ∧ i = .int .i64 k ∧ OwnN wr w2.heap.size s (List.replicate k (-1)) ∧ Below w2.heap.size w2 wr) (fun _ i _ => n - (intOf i).toNat)
  case atStart => exact ⟨0, Nat.zero_le _, rfl, Own.empty (E := IntE) _ w2 (Nat.le_refl _), (Below.refl _ _).alloc (Nat.le_refl _) _⟩
  case round =>
    obtain ⟨k, hk, rfl, hown, hb⟩ := hrel
    by_cases hlt : k < n
    · have hlt' := nat_of_lt hlt
      have hlen : (List.replicate k (-1 : Int)).length ≤ 68719476736 := by simp; omega
      have HS := hide (rep_snoc k (-1))
      generalize List.replicate k (-1 : Int) = G at *
      go_wp2_with (at_builtin; refine wpList_app IntE 3 Try.infoInt rfl Try.underlying24 w2.heap.size _ G (-1) (hown.alloc _) (by decide) hlen (by simp; have := hb.size; omega) rfl _ _ rfl rfl _ 0 1 rfl (news_allocV (by simp)) ?_; intro v' w3 hown3 hgr3)
      have hb3 := below_app hb hown hgr3
      go_roundw
      case rel => exact ⟨k + 1, by omega, by go_num, by rw [← HS.out]; exact hown3, hb3⟩
      case measure => simp [intOf]; omega
    · obtain rfl : k = n := by omega
      have HO3 := hide hown; clear hown
      rcases HO3.out.shape with ⟨rfl, h0⟩ | ⟨g, cap, rfl, hg1, hg2, hg3, hg4⟩
      · exfalso; have := congrArg List.length h0; simp at this; omega
      rw [List.length_replicate] at HO3 hg3 ⊢
      have HB3 := hide hb; clear hb
      go_wp2_with fail
      go_loopw [9] (fun i wr => ∃ r : Nat, r ≤ k ∧ i = .int .i64 r ∧ (∃ K, Hid (KInv d es r 0 K) ∧ OwnN wr w2.heap.size (.slice (some ⟨g, 0, none⟩) k cap) K) ∧ Below w2.heap.size w2 wr) (fun i _ => k - (intOf i).toNat)
      case atStart => exact ⟨0, Nat.zero_le _, rfl, ⟨_, HKI0, HO3.out⟩, HB3.out⟩
      case round =>
        obtain ⟨r, hr, rfl, ⟨K, hki, hown⟩, hb⟩ := hrel
        by_cases hltr : r < k
        · have hltr' := nat_of_lt hltr
          have HO4 := hide hown; clear hown
          go_wp2_with fail
          go_loopw [10] (fun i wr => ∃ t : Nat, t ≤ k ∧ i = .int .i64 t ∧ (∃ K, Hid (KInv d es r t K) ∧ OwnN wr w2.heap.size (.slice (some ⟨g, 0, none⟩) k cap) K) ∧ Below w2.heap.size w2 wr) (fun i _ => k - (intOf i).toNat)
          case atStart => exact ⟨0, Nat.zero_le _, rfl, ⟨K, hki, HO4.out⟩, hb⟩
          case round =>
            obtain ⟨t, ht, rfl, ⟨K2, hkt, hown⟩, hb4⟩ := hrel
            by_cases hltt : t < k
            · obtain ⟨e, hek⟩ := get_of_lt (xs := es) (k := t) (by rw [HN.out]; exact hltt)
              obtain ⟨b, o, rfl, hbl, i0, i1, i2, i3, i4⟩ := (HRE.out.below hb4).ev hek
              have hltt' := nat_of_lt hltt
              have HEK := hide hek; clear hek
              clear i0 i1 i2 i3
              cases hew : e.w
              · rw [hew] at i4
                have HK2 := hide (hkt.out.skip HEK.out hew)
                clear hew
                go_wp2_with fail
                go_roundw
                case rel => exact ⟨t + 1, by omega, by go_num, ⟨K2, HK2, hown⟩, hb4⟩
                case measure => simp [intOf]; omega
              · rw [hew] at i4
                have HK2 := hide (hkt.out.step HEK.out hew (by rw [HN.out]; exact HLT.out) (fun j h => HIN.out t j h) HDV.out)
                have hKl := hkt.out.len
                obtain ⟨u, hu⟩ := get_of_lt (xs := K2) (k := t) (by rw [hKl, HN.out]; exact hltt)
                obtain ⟨hgl, f0, hfr⟩ := hown.int hu
                have HWC := hide (HW.out (.slice pa pn pc) (.slice (some ⟨b, o, none⟩) k ec) (.slice fa fn fc) (.slice oa on oc) (.slice (some ⟨g, 0, none⟩) k cap) t K2 wr (HP2.out.below hb4) (HRE.out.below hb4) (HX2.out.below hb4) hown.rep hltt (by rw [hKl, HN.out]))
                have hxb := (hb4.block w.heap.size (Array.getElem?_eq_some_iff.1 HBX2.out).1).trans HBX2.out
                have x0 := cell_of_heapV hxb (k := 0) rfl
                have x1 := cell_of_heapV hxb (k := 1) rfl
                have xl := lt_of_cell x0
                have HU := hide hu; have HOW := hide hown; have HB4 := hide hb4
                clear hew hKl hu hown hxb hkt f0 hfr
                generalize linkV d K2 t = lv at *
                go_wp2_with fail
                (with_reducible refine HWC.out.mono ?_); rintro e w7 ⟨rfl, hb7⟩
                have O7 := hide (HOW.out.below hb7)
                have HB7 := hide (HB4.out.trans (hb7.mono HB4.out.size))
                obtain ⟨hgl7, f7, hfr7⟩ := O7.out.int HU.out
                have OS := hide (O7.out.setInt HU.out lv)
                clear hb7 x0 x1 xl
                go_wp2_with fail
                go_roundw
                case rel => exact ⟨t + 1, by omega, by go_num, ⟨_, HK2, OS.out⟩, HB7.out.setCell hg1 _⟩
                case measure => simp [intOf]; omega
            · have e : t = k := by omega
              have HK2 := hide (hkt.out.next (by rw [HN.out]; exact e))
              go_wp2_with fail
              go_roundw
              case rel => exact ⟨r + 1, by omega, by go_num, ⟨K2, HK2, hown⟩, hb4⟩
              case measure => simp [intOf]; omega
        · obtain rfl : r = k := by omega
          have hK := HKD.out r K hki.out rfl
          rw [← HC.out] at hK
          have HOW := hide hown; have HB4 := hide hb
          have HKE := hide hK
          clear hown hb hki hK
          go_wp2_with fail
          go_loop [11] (fun i => ∃ t : Nat, t ≤ r ∧ i = .int .i64 t ∧ Hid (okTo es c t = true)) (fun i => r - (intOf i).toNat)
          case atStart => exact ⟨0, Nat.zero_le _, rfl, hide (by simp [okTo])⟩
          case round =>
            obtain ⟨t, ht, rfl, hok⟩ := hrel
            by_cases hltt : t < r
            · obtain ⟨e, hek⟩ := get_of_lt (xs := es) (k := t) (by rw [HN.out]; exact hltt)
              obtain ⟨b, o, rfl, hbl, i0, i1, i2, i3, i4⟩ := (HRE.out.below HB4.out).ev hek
              have hltt' := nat_of_lt hltt
              have hkt := HVG.out t e hltt hek
              rw [← HKE.out] at hkt
              obtain ⟨hgl, f0, hfr⟩ := HOW.out.int hkt
              have OS := hide (HOS.out t e hek); have ON := hide (HON.out t e hek)
              have HV1 : Hid (val1 c t e = if e.w = true then (c t).getD (-1) else -1) := hide rfl
              clear i0 i1 i2 i3 hek hkt hfr
              cases hew : e.w
              · rw [hew] at i4
                have OK2 : Hid (okTo es c (t + 1) = true) := hide (by rw [OS.out, hok.out, hew]; rfl)
                clear hew
                go_wp2_with fail
                go_round
                case rel => exact ⟨t + 1, by omega, by go_num, OK2⟩
                case measure => simp [intOf]; omega
              · rw [hew] at i4
                cases hct : c t with
                | none =>
                  rw [HV1.out, if_pos hew, hct] at f0
                  have RE : Hid (R = (K, false)) := hide (by rw [HRV.out, ON.out hew hct, HKE.out])
                  clear hew hct
                  go_wp2_with fail
                  go_ret2
                  rw [RE.out]
                  exact ⟨⟨some ⟨g, 0, none⟩, r, cap⟩, rfl, HOW.out.mono HB2.out.size, HB2.out.trans (HB4.out.mono HB2.out.size)⟩
                | some vv =>
                  rw [HV1.out, if_pos hew, hct] at f0
                  have OK2 : Hid (okTo es c (t + 1) = true) := hide (by rw [OS.out, hok.out, hct]; simp)
                  have hvv : 0 ≤ vv := by
                    have h := hct
                    rw [HC.out] at h
                    exact (chain_val HDV.out h).1
                  have k3 : decide (vv < 0) = false := by simp [hvv]
                  simp only [Option.getD_some] at f0
                  clear hew hct
                  go_wp2_with fail
                  go_round
                  case rel => exact ⟨t + 1, by omega, by go_num, OK2⟩
                  case measure => simp [intOf]; omega
            · have e : t = r := by omega
              subst e
              have RE : Hid (R = (K, true)) := hide (by rw [HRV.out, hok.out, HKE.out])
              go_wp2_with fail
              go_ret2
              rw [RE.out]
              exact ⟨⟨some ⟨g, 0, none⟩, t, cap⟩, rfl, HOW.out.mono HB2.out.size, HB2.out.trans (HB4.out.mono HB2.out.size)⟩

set_option maxRecDepth 100000 in
set_option maxHeartbeats 3200000 in
theorem ValuesOf_any (v vf vo : Value) (p : List (List Ins)) (x : Xc) (w : World) (hp : RepP w v p) (hx : RepX w vf vo x) (hl : p.flatten.length ≤ 1048576) (hol : ∀ o ∈ x.od, o.length ≤ 1048576) :
    Calls Try.prog 7 #[v, .agg #[vf, vo]] w (RetNB w (valF p x)) := by
  have HB0 := hide ((Below.refl w.heap.size w).alloc (Nat.le_refl _) (.cells #[vf, vo] 27))
  have HP := hide (hp.below HB0.out); have HX := hide (hx.below HB0.out)
  have HV := hide (ExecValid_any v vf vo p x _ HP.out HX.out hl hol)
  have HO := hide (fun w' h h' hk => valuesOf_any v vf vo p x w' h h' hl hk)
  have HR : Hid (valF p x = if execOk p x = true ∧ valsOk p x.fr = true then (valsL p x.fr, true) else ([], false)) := hide rfl
  have HBX := hide (heap_alloc_new w (.cells #[vf, vo] 27))
  obtain ⟨fa, fc, rfl, -, -, -, -⟩ := hx.fr.open
  obtain ⟨oa, oc, rfl, -, -, -, -⟩ := hx.od.open
  clear hp hx
  generalize valF p x = R at *
  generalize hb : execOk p x = b at *
  generalize x.fr.length = fn at *
  generalize x.od.length = on at *
  clear hb
  have e0 := cell_of_heapV HBX.out (k := 0) rfl
  have e1 := cell_of_heapV HBX.out (k := 1) rfl
  have el := lt_of_cell e0
  go_enter Try.func7, Try.ntmps7
  go_wp2_with fail
  generalize hw1 : w.alloc (.cells #[.slice fa fn fc, .slice oa on oc] 27) = w1 at *
  clear hw1
  cases b
  · obtain rfl : R = ([], false) := by rw [HR.out, if_neg (by simp)]
    (with_reducible refine HV.out.mono ?_); rintro e w2 ⟨rfl, hb2⟩
    clear e0 e1 el
    go_wp2_with fail
    go_ret2
    exact RetNB.no (HB0.out.trans (hb2.mono HB0.out.size))
  · (with_reducible refine HV.out.mono ?_); rintro e w2 ⟨rfl, hb2⟩
    have e0 := (hb2.cell (p := ⟨w.heap.size, 0, none⟩) el).trans e0
    have e1 := (hb2.cell (p := ⟨w.heap.size, 1, none⟩) el).trans e1
    have el2 := Nat.lt_of_lt_of_le el hb2.size
    have HO2 := hide (HO.out w2 (HP.out.below hb2) (HX.out.below hb2) rfl)
    have HB2 := hide (HB0.out.trans (hb2.mono HB0.out.size))
    have HR2 : Hid (R = if valsOk p x.fr = true then (valsL p x.fr, true) else ([], false)) := hide (by
      rw [HR.out]
      by_cases h : valsOk p x.fr = true
      · rw [if_pos h, if_pos ⟨rfl, h⟩]
      · rw [if_neg h, if_neg (fun h2 => h h2.2)])
    rw [← HR2.out] at HO2
    clear hb2 HV
    go_wp2_with fail
    (with_reducible refine HO2.out.mono ?_); rintro e w3 ⟨u, rfl, ou, hb3⟩
    have HU := hide ou; have HB3 := hide hb3
    clear ou hb3 e0 e1
    go_wp2_with fail
    go_ret2
    exact ⟨u, rfl, HU.out.mono HB2.out.size, HB2.out.trans (HB3.out.mono HB2.out.size)⟩

set_option maxRecDepth 100000 in
set_option maxHeartbeats 3200000 in
theorem sValuesOf_any (v vf vo : Value) (p : List (List Ins)) (x : Xc) (w : World) (hp : RepP w v p) (hx : RepX w vf vo x) (hl : p.flatten.length ≤ 1048576) (hpl : p.length ≤ 1048576) :
    Calls Try.prog 8 #[v, .agg #[vf, vo]] w (RetNB w (valF p x)) := by
  have HB0 := hide ((Below.refl w.heap.size w).alloc (Nat.le_refl _) (.cells #[vf, vo] 27))
  have HP := hide (hp.below HB0.out); have HX := hide (hx.below HB0.out)
  have HV := hide (sExecValid_any v vf vo p x _ HP.out HX.out hl hpl)
  have HO := hide (fun w' h h' hk => l6Values_any v vf vo p x w' h h' hl hk)
  have HR : Hid (valF p x = if execOk p x = true ∧ valsOk p x.fr = true then (valsL p x.fr, true) else ([], false)) := hide rfl
  have HBX := hide (heap_alloc_new w (.cells #[vf, vo] 27))
  obtain ⟨fa, fc, rfl, -, -, -, -⟩ := hx.fr.open
  obtain ⟨oa, oc, rfl, -, -, -, -⟩ := hx.od.open
  clear hp hx
  generalize valF p x = R at *
  generalize hb : execOk p x = b at *
  generalize x.fr.length = fn at *
  generalize x.od.length = on at *
  clear hb
  have e0 := cell_of_heapV HBX.out (k := 0) rfl
  have e1 := cell_of_heapV HBX.out (k := 1) rfl
  have el := lt_of_cell e0
  go_enter Try.func8, Try.ntmps8
  go_wp2_with fail
  generalize hw1 : w.alloc (.cells #[.slice fa fn fc, .slice oa on oc] 27) = w1 at *
  clear hw1
  cases b
  · obtain rfl : R = ([], false) := by rw [HR.out, if_neg (by simp)]
    (with_reducible refine HV.out.mono ?_); rintro e w2 ⟨rfl, hb2⟩
    clear e0 e1 el
    have HBE := hide (HB0.out.trans (hb2.mono HB0.out.size))
    clear hb2
    go_wp2_with fail
    go_ret2
    exact ⟨⟨some ⟨w2.heap.size, 0, none⟩, 0, 0⟩, rfl, Own.empty (E := IntE) _ w2 HBE.out.size, HBE.out.alloc HBE.out.size _⟩
  · (with_reducible refine HV.out.mono ?_); rintro e w2 ⟨rfl, hb2⟩
    have e0 := (hb2.cell (p := ⟨w.heap.size, 0, none⟩) el).trans e0
    have e1 := (hb2.cell (p := ⟨w.heap.size, 1, none⟩) el).trans e1
    have el2 := Nat.lt_of_lt_of_le el hb2.size
    have HO2 := hide (HO.out w2 (HP.out.below hb2) (HX.out.below hb2) rfl)
    have HB2 := hide (HB0.out.trans (hb2.mono HB0.out.size))
    clear hb2 HV
    generalize hvl : valsL p x.fr = L at *
    generalize hvo : valsOk p x.fr = ok at *
    clear hvl hvo
    go_wp2_with fail
    (with_reducible refine HO2.out.mono ?_); rintro e w3 ⟨u, rfl, ou, hb3⟩
    have HU := hide ou; have HB3 := hide hb3
    clear ou hb3 e0 e1
    cases ok
    · obtain rfl : R = ([], false) := by rw [HR.out, if_neg (fun h => by cases h.2)]
      have HBE := hide (HB2.out.trans (HB3.out.mono HB2.out.size))
      go_wp2_with fail
      go_ret2
      exact ⟨⟨some ⟨w3.heap.size, 0, none⟩, 0, 0⟩, rfl, Own.empty (E := IntE) _ w3 HBE.out.size, HBE.out.alloc HBE.out.size _⟩
    · obtain rfl : R = (L, true) := by rw [HR.out, if_pos ⟨trivial, rfl⟩]
      go_wp2_with fail
      go_ret2
      exact ⟨u, rfl, HU.out.mono HB2.out.size, HB2.out.trans (HB3.out.mono HB2.out.size)⟩

end Go.Proofs.Ytblheabgjjeigaa

namespace Go.Proofs.Ytblheabgjjeigaa

theorem first_writes {p : List (List Ins)} {e : Ev} (h : e ∈ evAll p) (ht : e.t < 0) : e.w = true := by
  unfold evAll at h
  rcases List.mem_append.1 h with h | h
  · simp only [evHead, List.mem_map, List.mem_range] at h
    obtain ⟨l, _, rfl⟩ := h
    rfl
  · exfalso
    unfold evTo at h
    rw [List.mem_flatMap] at h
    obtain ⟨t, ht', h⟩ := h
    cases hr : p[t]? with
    | none => rw [hr] at h; simp at h
    | some r =>
      rw [hr] at h
      simp only [evRow, List.mem_flatMap, List.mem_range] at h
      obtain ⟨i, hi, h⟩ := h
      obtain ⟨x, hx⟩ := get_of_lt (xs := r) (k := i) hi
      rw [hx] at h
      obtain ⟨rfl, -⟩ := mem_evOf h
      simp at ht
      omega

/-- What the law asks of event i. -/
theorem vals_told {p : List (List Ins)} {fr : List Int} (hp : progValid p = true) (hvo : valsOk p fr = true) {i : Nat} {e : Ev} (he : (evAll p)[i]? = some e) :
    ∃ v, (valsL p fr)[i]? = some v ∧ decide (0 ≤ v) = e.w ∧ v ≤ 3 ∧ (e.t < 0 → v = 0) := by
  have hi := (List.getElem?_eq_some_iff.1 he).1
  refine ⟨_, valTo_get _ hi (Nat.le_refl _) he, ?_⟩
  have hok : (!e.w || (cX p fr i).isSome) = true := by
    have h := hvo
    unfold valsOk okTo at h
    rw [List.all_eq_true] at h
    have := h i (List.mem_range.2 hi)
    rw [he] at this
    exact this
  unfold val1
  cases hw : e.w with
  | false =>
    refine ⟨by simp, by simp, fun ht => ?_⟩
    have := first_writes (List.mem_of_getElem? he) ht
    rw [hw] at this; cases this
  | true =>
    rw [hw] at hok
    simp only [Bool.not_true, Bool.false_or] at hok
    obtain ⟨v, hv⟩ := Option.isSome_iff_exists.1 hok
    rw [hv]
    have hb := chain_val (fun i v h => dep_val hp h) hv
    refine ⟨by simp [hb.1], by simpa using hb.2, fun ht => ?_⟩
    have hd : depV p (evAll p) fr i = .inl 0 := by
      unfold depV
      rw [he]
      simp [ht]
    have := chain_end (n := (evAll p).length) hi hd
    unfold cX at hv
    rw [this] at hv
    simp at hv
    simp [← hv]

theorem valsL_length (p : List (List Ins)) (fr : List Int) : (valsL p fr).length = (evAll p).length := valTo_length _ _ _ (Nat.le_refl _)

end Go.Proofs.Ytblheabgjjeigaa

namespace Go.Proofs.Ytblheabgjjeigaa
open Go.RowKit

def eventsV (p : List (List Ins)) : List Ev := if progValid p = true then evAll p else []

set_option maxHeartbeats 800000 in
theorem EventsOf_any (v : Value) (p : List (List Ins)) (w : World) (hp : RepP w v p) (hl : p.flatten.length ≤ 1048576) :
    Calls Try.prog 10 #[v] w (RetOwn EvE 36 w (eventsV p)) := by
  have HV := hide (ProgramValid_any v p w hp hl)
  have HE := hide (fun w' h => events_any v p w' h hl)
  have HP := hide hp
  clear hp
  have E2 : Hid (eventsV p = if progValid p = true then evAll p else []) := hide rfl
  obtain ⟨a, c, rfl, -, -, -, -⟩ := HP.out.open
  generalize progValid p = b at *
  cases b
  · have E3 : Hid (eventsV p = []) := hide (by rw [E2.out]; rfl)
    go_enter Try.func10, Try.ntmps10
    go_wp2_with fail
    (with_reducible refine HV.out.mono ?_); rintro e w1 ⟨rfl, hb1⟩
    go_wp2_with fail
    go_ret
    rw [E3.out]
    exact ⟨_, rfl, Own.nil _ _ _, hb1⟩
  · have E3 : Hid (eventsV p = evAll p) := hide (by rw [E2.out]; rfl)
    go_enter Try.func10, Try.ntmps10
    go_wp2_with fail
    (with_reducible refine HV.out.mono ?_); rintro e w1 ⟨rfl, hb1⟩
    go_wp2_with fail
    (with_reducible refine (HE.out _ (HP.out.below hb1)).mono ?_); rintro e w2 ⟨v2, rfl, o2, hb2⟩
    go_wp2_with fail
    go_ret
    rw [E3.out]
    exact ⟨_, rfl, o2.mono hb1.size, hb1.trans (hb2.mono hb1.size)⟩

set_option maxHeartbeats 800000 in
theorem wmInts_any (v v' : Value) (xs : List Int) (w : World) (hx : Rep IntE w v xs) (hy : Rep IntE w v' xs) :
    Calls Try.prog 9 #[v, v'] w fun e w' => e = .returned (.bool true) ∧ Below w.heap.size w w' := by
  obtain ⟨a, c, rfl, hc1, hc2, hc3, hx⟩ := hx.open
  obtain ⟨a', c', rfl, hc1', hc2', hc3', hy⟩ := hy.open
  have HX := hide hx; clear hx
  have HY := hide hy; clear hy
  generalize hn : xs.length = n at *
  have H := hide hn; clear hn
  have hnn : ((n : Int) != n) = false := by simp
  go_enter Try.func9, Try.ntmps9
  go_wp2_with fail
  go_loopw [5] (fun v wr => ∃ k : Nat, k ≤ n ∧ v = .int .i64 k ∧ Below w.heap.size w wr) (fun v _ => n - (intOf v).toNat)
  case atStart => exact ⟨0, Nat.zero_le _, rfl, Below.refl _ _⟩
  case round =>
    obtain ⟨k, hk, rfl, hb⟩ := hrel
    by_cases hlt : k < n
    · obtain ⟨x, hxk⟩ := get_of_lt (xs := xs) (k := k) (by rw [H.out]; exact hlt)
      obtain ⟨b, o, rfl, hbl, i0⟩ := (HX.out.below hb).int hxk
      obtain ⟨b', o', rfl, hbl', j0⟩ := (HY.out.below hb).int hxk
      have hlt' := nat_of_lt hlt
      clear hxk
      go_wp2_with fail
      refine wp_region_bw (by kernel_rfl) (by kernel_rfl) ?_
      repeat (go_big_quiet_step (fail))
      refine wpQuiet_nil ?_
      intro w1 hb1
      go_wp2_with fail
      go_roundw
      case rel => exact ⟨k + 1, by omega, by go_num, hb.trans (hb1.mono hb.size)⟩
      case measure => simp [intOf]; omega
    · have hkg : decide (k < n) = false := decide_eq_false hlt
      go_wp2_with fail
      go_ret
      exact ⟨rfl, hb⟩

end Go.Proofs.Ytblheabgjjeigaa

namespace Go.Proofs.Ytblheabgjjeigaa
open Go.RowKit

set_option maxRecDepth 100000 in
set_option maxHeartbeats 6400000 in
theorem lawFnValuesOf (v : Value) (xs : List Int) (w : World) (h : Rep ByteE w v xs ∧ ∀ x ∈ xs, 0 ≤ x ∧ x ≤ 255) :
    Calls Try.prog 3 #[v] w fun e w' => e = .returned (.bool true) ∧ Below w.heap.size w w' := by
  obtain ⟨hx, hb⟩ := h
  obtain ⟨a0, c0, rfl, -, hm, -, hx⟩ := hx.open
  have HD := hide (DrawValuesOf_any (.slice a0 xs.length c0) xs w hx hb)
  clear hx hb
  generalize xs.length = n at *
  by_cases hl : (n : Int) > 1048576
  · go_enter Try.func3, Try.ntmps3
    go_wp2_with fail
    go_ret
    exact ⟨rfl, Below.refl _ _⟩
  · have hl' : decide ((n : Int) > 1048576) = false := decide_eq_false hl
    go_enter Try.func3, Try.ntmps3
    go_wp2_with fail
    (with_reducible refine HD.out.mono ?_); rintro e w1 ⟨v1, ⟨f1, f2, f3⟩, ⟨o1, o2, o3⟩, x, lo, rfl, -, hQ, hLX, hxf, hxo, hxr, hb1⟩
    obtain ⟨P, hP, hPl, hPr⟩ := hQ.open
    have hfl := flatten_bound9 hPl hPr
    obtain ⟨pa, pc, rfl, hpc1, hpc2, hpc3, hP⟩ := hP.open
    have HP := hide hP; have HB1 := hide hb1; have HX := hide hLX.now
    have HI := hide (fun w' h h2 => ValuesOf_any (.slice pa P.length pc) (.slice f1 f2 f3) (.slice o1 o2 o3) P x w' h h2 (by omega) (fun o ho => by have := hxr o ho; omega))
    have HS := hide (fun w' h h2 => sValuesOf_any (.slice pa P.length pc) (.slice f1 f2 f3) (.slice o1 o2 o3) P x w' h h2 (by omega) (by omega))
    have HE := hide (fun w' h => EventsOf_any (.slice pa P.length pc) P w' h (by omega))
    have HG : Hid (valF P x = if execOk P x = true ∧ valsOk P x.fr = true then (valsL P x.fr, true) else ([], false)) := hide rfl
    have HEX := hide (fun (h : execOk P x = true) => (show progValid P = true by unfold execOk at h; simp only [Bool.and_eq_true] at h; simp [h]))
    have HEV : Hid (eventsV P = if progValid P = true then evAll P else []) := hide rfl
    have HT := hide (fun h1 h2 i e he => vals_told (p := P) (fr := x.fr) h1 h2 (i := i) (e := e) he)
    have HVL := hide (valsL_length P x.fr); have HEL := hide (fun h => evAll_le (p := P) h)
    clear hP hb1 HD hPr hfl hPl hQ hLX hxf hxo hxr
    generalize hpn : P.length = pn at *
    clear hpn
    generalize valF P x = R at *
    generalize valsOk P x.fr = vo at *
    generalize valsL P x.fr = VL at *
    generalize execOk P x = eo at *
    generalize progValid P = pv at *
    generalize eventsV P = E at *
    generalize evAll P = L at *
    have HB2 := hide (belowAlloc w1 (.cells #[.slice f1 f2 f3, .slice o1 o2 o3] 27))
    have HBX := hide (heap_alloc_new w1 (.cells #[.slice f1 f2 f3, .slice o1 o2 o3] 27))
    go_wp2_with fail
    (with_reducible refine (HI.out _ (HP.out.below HB2.out) (HX.out.below HB2.out)).mono ?_); rintro e w3 ⟨⟨ua, un, uc⟩, rfl, ho3, hb3⟩
    have hbk3 := (hb3.block w1.heap.size (by simp)).trans HBX.out
    have c0' := cell_of_heapV hbk3 (k := 0) rfl
    have c1' := cell_of_heapV hbk3 (k := 1) rfl
    have cl := lt_of_cell c0'
    have HBX3 := hide hbk3
    have HB3 := hide (HB2.out.trans (hb3.mono HB2.out.size))
    have O3 : Hid (Rep IntE w3 (.slice ua un uc) R.1) := hide ho3.rep
    have HU2 : Hid (un = R.1.length) := hide (Own.len ho3)
    clear ho3 hb3 hbk3 HI
    have HW := hide (fun v v' l w' hx hy => wmInts_any v v' l w' hx hy)
    by_cases hok : eo = true ∧ vo = true
    · obtain rfl : R = (VL, true) := by rw [HG.out, if_pos hok]
      have HOK := hide hok
      clear hok
      go_wp2_with fail
      (with_reducible refine (HS.out _ (HP.out.below HB3.out) (HX.out.below HB3.out)).mono ?_); rintro e w4 ⟨⟨z1, z2, z3⟩, rfl, ho4, hb4⟩
      have HB4 := hide (HB3.out.trans (hb4.mono HB3.out.size))
      have O4 := hide (O3.out.below hb4)
      have R4 : Hid (Rep IntE w4 (.slice z1 z2 z3) VL) := hide ho4.rep
      clear ho4 hb4 HS c0' c1' cl O3
      go_wp2_with fail
      (with_reducible refine (HW.out _ _ _ _ O4.out R4.out).mono ?_); rintro e w5 ⟨rfl, hb5⟩
      have HB5 := hide (HB4.out.trans (hb5.mono HB4.out.size))
      have O5 := hide (O4.out.below hb5)
      clear hb5 O4 R4
      go_wp2_with fail
      (with_reducible refine (HE.out _ (HP.out.below HB5.out)).mono ?_); rintro e w6 ⟨v6, rfl, ho6, hb6⟩
      obtain ⟨l1, l3, rfl, hl31, hl32, hl33, hr6⟩ := ho6.rep.open
      have HB6 := hide (HB5.out.trans (hb6.mono HB5.out.size))
      have O6 := hide (O5.out.below hb6); have E6 := hide hr6
      have hpv := HEX.out HOK.out.1
      obtain rfl : E = L := by rw [HEV.out, if_pos hpv]
      have hel := HEL.out hpv
      have HTT := hide (fun i e he => HT.out hpv HOK.out.2 i e he)
      have HUL : Hid (un = E.length) := hide (HU2.out.trans HVL.out)
      clear ho6 hr6 hb6 O5 HE HEX HEV HEL HT hpv
      generalize hen : E.length = en at *
      have HEN := hide hen
      clear hen
      obtain rfl : un = en := HUL.out
      go_wp2_with fail
      go_loopw [10] (fun i wr => ∃ k : Nat, k ≤ un ∧ i = .int .i64 k ∧ Below w6.heap.size w6 wr) (fun i _ => un - (intOf i).toNat)
      case atStart => exact ⟨0, Nat.zero_le _, rfl, Below.refl _ _⟩
      case round =>
        obtain ⟨k, hk, rfl, hb⟩ := hrel
        by_cases hlt : k < un
        · obtain ⟨ev, hev⟩ := get_of_lt (xs := E) (k := k) (by have := HEN.out; omega)
          obtain ⟨vi, hvi, hw1, hw2, hw3⟩ := HTT.out k ev hev
          obtain ⟨b1, o1', rfl, hbl, i0, i1, i2, i3, i4⟩ := (E6.out.below hb).ev hev
          obtain ⟨b2, o2', rfl, hbl2, j0⟩ := (O6.out.below hb).int hvi
          have hlt' := nat_of_lt hlt
          obtain ⟨et, ei, el, er, ew⟩ := ev
          simp only at i0 i1 i2 i3 i4 hw1 hw2 hw3
          have g3 : decide (vi > 3) = false := decide_eq_false (by omega)
          clear hev hvi
          cases ew
          · have g1 : decide (vi ≥ 0) = false := hw1
            by_cases ht : et < 0
            · exfalso
              have := hw3 ht
              rw [this] at g1; simp at g1
            · have g2 : decide (et < 0) = false := decide_eq_false ht
              clear hw1 hw2 hw3 ht
              go_wp2_with fail
              refine wp_region_bw (by kernel_rfl) (by kernel_rfl) ?_
              repeat (go_big_quiet_step (fail))
              refine wpQuiet_nil ?_
              intro w7 hb7
              go_wp2_with fail
              go_roundw
              case rel => exact ⟨k + 1, by omega, by go_num, hb.trans (hb7.mono hb.size)⟩
              case measure => simp [intOf]; omega
          · have g1 : vi ≥ 0 := by simpa using hw1
            by_cases ht : et < 0
            · obtain rfl := hw3 ht
              clear hw1 hw2 hw3
              go_wp2_with fail
              refine wp_region_bw (by kernel_rfl) (by kernel_rfl) ?_
              repeat (go_big_quiet_step (fail))
              refine wpQuiet_nil ?_
              intro w7 hb7
              go_wp2_with fail
              go_roundw
              case rel => exact ⟨k + 1, by omega, by go_num, hb.trans (hb7.mono hb.size)⟩
              case measure => simp [intOf]; omega
            · have g2 : decide (et < 0) = false := decide_eq_false ht
              clear hw1 hw2 hw3 ht
              go_wp2_with fail
              refine wp_region_bw (by kernel_rfl) (by kernel_rfl) ?_
              repeat (go_big_quiet_step (fail))
              refine wpQuiet_nil ?_
              intro w7 hb7
              go_wp2_with fail
              go_roundw
              case rel => exact ⟨k + 1, by omega, by go_num, hb.trans (hb7.mono hb.size)⟩
              case measure => simp [intOf]; omega
        · have hkg : decide (k < un) = false := decide_eq_false hlt
          go_wp2_with fail
          go_ret
          exact ⟨by simp, HB1.out.trans ((HB6.out.trans (hb.mono HB6.out.size)).mono HB1.out.size)⟩
    · obtain rfl : R = ([], false) := by rw [HG.out, if_neg hok]
      clear hok
      go_wp2_with fail
      (with_reducible refine (HS.out _ (HP.out.below HB3.out) (HX.out.below HB3.out)).mono ?_); rintro e w4 ⟨⟨z1, z2, z3⟩, rfl, ho4, hb4⟩
      have HB4 := hide (HB3.out.trans (hb4.mono HB3.out.size))
      have O4 := hide (O3.out.below hb4)
      have R4 : Hid (Rep IntE w4 (.slice z1 z2 z3) []) := hide ho4.rep
      clear ho4 hb4 HS c0' c1' cl O3
      go_wp2_with fail
      (with_reducible refine (HW.out _ _ _ _ O4.out R4.out).mono ?_); rintro e w5 ⟨rfl, hb5⟩
      have HB5 := hide (HB4.out.trans (hb5.mono HB4.out.size))
      have O5 := hide (O4.out.below hb5); have R5 := hide (R4.out.below hb5)
      clear hb5 O4 R4
      go_wp2_with fail
      (with_reducible refine (HW.out _ _ _ _ O5.out R5.out).mono ?_); rintro e w6 ⟨rfl, hb6⟩
      go_wp2_with fail
      go_ret
      exact ⟨rfl, HB1.out.trans ((HB5.out.trans (hb6.mono HB5.out.size)).mono HB1.out.size)⟩

end Go.Proofs.Ytblheabgjjeigaa

namespace Go.Proofs.Ytblheabgjjeigaa
open Go.RowKit Go.ChangeShapes Go.WideShapes Go.ChangeAt
open Go.ChangeMaps (open_string)

theorem fnValuesOf_reads : ∀ t ∈ Try.f3.params.toList, Try.prog.readableRec t = true ∧ t < Try.prog.types.size := by
  intro t ht
  have : t = 22 := by simpa [Try.params3] using ht
  subst this
  exact ⟨by kernel_rfl, of_decide_eq_true (by kernel_rfl)⟩

set_option maxRecDepth 100000 in
theorem fnValuesOf_lifted (os : Os) (started : os.Started) (H : Type) (enc : TypeId × Value → H) :
    ReturnsInHanded {} Try.checked os 3 .any (Rows.fnValuesOfSpec.pre6 enc Try.prog Try.f3 Rows.fnValuesOfRow.domain false) (Rows.fnValuesOfSpec.post enc Try.prog Try.f3 false true false false) := by
  refine returnsInHanded_of_change (C := Try.checked) Try.own started (by kernel_rfl) Try.func3
    (ChangeSpec.witness6 (enc := enc) (C := Try.checked) false ⟨#[], #[.slice none 0 0], []⟩ 8 (by kernel_rfl) (by kernel_rfl) (by kernel_rfl) (by kernel_rfl)) ?_
  intro W base args ds gs before hval0 hW hcnd _
  have hval : ∀ (j : Nat) t v, Try.f3.params[j]? = some t → args[j]? = some v → Value.okWide Try.prog W .any base t v := hval0
  have hW' := hW
  obtain ⟨p, q, hA0, hV, rfl, hfz, hnd⟩ := hW
  have hA : DataW.TrodAll enc Try.prog W 0 (fun _ => true) true Try.f3.params.toList args.toList ds p := hA0
  rw [Try.params3] at hA hval
  obtain ⟨v0, d0, rfl, rfl, h0⟩ := trodAll_one hA
  obtain ⟨rfl, rfl⟩ := trodVars_none hV
  obtain ⟨B0, hB0⟩ := bytes_of_trod (okWide_slice Try.underlying22 (hval 0 22 v0 rfl rfl)) h0
  refine (lawFnValuesOf v0 B0 W hB0).mono fun e W' ⟨he, hb⟩ => ?_
  exact ⟨_, he, post_law Try.laidOut fnValuesOf_reads rfl rfl (by kernel_rfl) Try.underlying4 hW' hb⟩

theorem fnValuesOf_holds : Rows.FnValuesOfSaid :=
  OpenClaim.holds_of_wide 3 Try.f3 rfl rfl rfl rfl rfl rfl rfl ⟨rfl, rfl, rfl, rfl, rfl⟩ rfl rfl rfl rfl rfl (by kernel_rfl) Try.func3 (by kernel_rfl)
    (of_decide_eq_true (by kernel_rfl)) (by unfold Func.isWrapper; first | (rw [if_pos (by decide +kernel)]; kernel_rfl) | (rw [if_neg (by decide +kernel)]; exact ⟨rfl, rfl⟩))
    (fun os started H enc _ => fnValuesOf_lifted os started H enc)

end Go.Proofs.Ytblheabgjjeigaa
