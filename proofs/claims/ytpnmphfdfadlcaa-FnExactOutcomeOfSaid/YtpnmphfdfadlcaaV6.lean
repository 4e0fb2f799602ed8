/-
  ExecValid of the reference. Condition: bounds on lengths.
-/
import Derived.Test.YtpnmphfdfadlcaaV5
import Derived.Test.YtpnmphfdfadlcaaG4
import Derived.Test.YtpnmphfdfadlcaaE3
import Derived.Deep.RegionHeld3
import Derived.Deep.DeepCutAuto
namespace Go.Proofs.Ytpnmphfdfadlcaa
open Go.RowKit

/-- What a candidate is in memory. -/
structure RepX (w : World) (vf vo : Value) (x : Xc) : Prop where
  fr : Rep IntE w vf x.fr
  od : RepNN w vo x.od
theorem RepX.below {w w' : World} {vf vo : Value} {x : Xc} (h : RepX w vf vo x) (hb : Below w.heap.size w w') : RepX w' vf vo x := ⟨h.fr.below hb, h.od.below hb⟩

def orderS (xs ws : List Int) : Bool := decide (xs.length = ws.length) && ((xs.head? == ws.head?) && ws.all fun y => xs.contains y)
theorem all_succ {f : Int → Bool} {ys : List Int} {t : Nat} {y : Int} (h : ∀ z ∈ ys.take t, f z = true) (hy : ys[t]? = some y) (hf : f y = true) : ∀ z ∈ ys.take (t + 1), f z = true := by
  intro z hz
  rw [List.take_add_one, hy] at hz
  simp at hz
  rcases hz with hz | rfl
  · exact h z hz
  · exact hf

set_option maxRecDepth 100000 in
set_option maxHeartbeats 1600000 in
theorem l6Order_any (v v' : Value) (xs ws : List Int) (w : World) (hx : Rep IntE w v xs) (hy : Rep IntE w v' ws) (h0 : 0 < ws.length) :
    Calls Try.prog 198 #[v, v'] w fun e w' => e = .returned (.bool (orderS xs ws)) ∧ Below w.heap.size w w' := by
  have HPL := hide (fun y w' h => l6Place_any v xs y w' h)
  obtain ⟨a, c, rfl, hc1, hc2, hc3, hx⟩ := hx.open
  obtain ⟨a', c', rfl, hc1', hc2', hc3', hy⟩ := hy.open
  have HX := hide hx; have HY := hide hy; clear hx hy
  have HR : Hid (orderS xs ws = (decide (xs.length = ws.length) && ((xs.head? == ws.head?) && ws.all fun y => xs.contains y))) := hide rfl
  generalize orderS xs ws = R at *
  generalize hn : xs.length = n at *
  generalize hm : ws.length = m at *
  have H := hide hn; have H2 := hide hm; clear hn hm
  by_cases hnm : n = m
  · subst hnm
    obtain ⟨x0, hx0⟩ := get_of_lt (xs := xs) (k := 0) (by rw [H.out]; exact h0)
    obtain ⟨y0, hy0⟩ := get_of_lt (xs := ws) (k := 0) (by rw [H2.out]; exact h0)
    obtain ⟨b, o, rfl, hbl, i0⟩ := HX.out.int hx0
    obtain ⟨b', o', rfl, hbl', j0⟩ := HY.out.int hy0
    have h00 : (0 : Int) < (n : Int) := by omega
    simp only [Nat.add_zero] at i0 j0
    have E0 : Hid ((xs.head? == ws.head?) = (x0 == y0)) := hide (by rw [List.head?_eq_getElem?, List.head?_eq_getElem?, hx0, hy0]; rfl)
    have k0 : ((n : Int) != (n : Int)) = false := by simp
    clear hx0 hy0
    by_cases hxy : x0 = y0
    · have k1 : (x0 != y0) = false := by simp [hxy]
      have E1 : Hid (R = ws.all fun y => xs.contains y) := hide (by rw [HR.out, E0.out, hxy]; simp)
      clear hxy HR E0
      go_enter Try.func198, Try.ntmps198
      go_wp2_with fail
      refine wp_region_bw (by kernel_rfl) (by kernel_rfl) ?_
      repeat (go_big_quiet_step (fail))
      refine wpQuiet_nil ?_
      intro w1 hb1
      clear i0 j0
      go_wp2_with fail
      go_loopw [5] (fun i wr => ∃ t : Nat, t ≤ n ∧ i = .int .i64 t ∧ Hid (∀ z ∈ ws.take t, xs.contains z = true) ∧ Below w.heap.size w wr) (fun i _ => n - (intOf i).toNat)
      case atStart => exact ⟨0, Nat.zero_le _, rfl, hide (by simp), hb1⟩
      case round =>
        obtain ⟨t, ht, rfl, hall, hb⟩ := hrel
        by_cases hlt : t < n
        · obtain ⟨y, hy⟩ := get_of_lt (xs := ws) (k := t) (by rw [H2.out]; exact hlt)
          obtain ⟨b2, o2, hbe, hbl2, j1⟩ := (HY.out.below hb).int hy
          simp only [Option.some.injEq, Addr.mk.injEq, and_true] at hbe
          obtain ⟨rfl, rfl⟩ := hbe
          have hlt' := nat_of_lt hlt
          have Y := hide hy; clear hy
          have HXr := hide (HX.out.below hb)
          cases hcy : xs.contains y
          · have E2 : Hid (R = false) := hide (by rw [E1.out, List.all_eq_false]; exact ⟨y, List.mem_of_getElem? Y.out, by rw [hcy]; simp⟩)
            have HC := hide hcy; clear hcy
            go_wp2_with fail
            (with_reducible refine (HPL.out _ _ HXr.out).mono ?_); rintro e w2 ⟨⟨q, rfl, hq⟩, rfl⟩
            have k2 : decide (q < 0) = true := by rw [hq.lt, HC.out]; rfl
            clear hq
            go_wp2_with fail
            go_ret
            exact ⟨by rw [E2.out]; rfl, hb⟩
          · have NO : Hid (∀ z ∈ ws.take (t + 1), xs.contains z = true) := hide (all_succ hall.out Y.out hcy)
            have HC := hide hcy; clear hcy
            go_wp2_with fail
            (with_reducible refine (HPL.out _ _ HXr.out).mono ?_); rintro e w2 ⟨⟨q, rfl, hq⟩, rfl⟩
            have k2 : decide (q < 0) = false := by rw [hq.lt, HC.out]; rfl
            clear hq
            go_wp2_with fail
            go_roundw
            case rel => exact ⟨t + 1, by omega, by go_num, NO, hb⟩
            case measure => simp [intOf]; omega
        · have E2 : Hid (R = true) := hide (by
            rw [E1.out, List.all_eq_true]
            intro z hz
            exact hall.out z (by rw [List.take_of_length_le (by rw [H2.out]; omega)]; exact hz))
          go_wp2_with fail
          go_ret
          exact ⟨by rw [E2.out]; rfl, hb⟩
    · have k1 : (x0 != y0) = true := by simp [hxy]
      have E1 : Hid (R = false) := hide (by rw [HR.out, E0.out]; simp [hxy])
      clear hxy HR E0
      go_enter Try.func198, Try.ntmps198
      go_wp2_with fail
      refine wp_region_bw (by kernel_rfl) (by kernel_rfl) ?_
      repeat (go_big_quiet_step (fail))
      refine wpQuiet_nil ?_
      intro w1 hb1
      go_wp2_with fail
      go_ret
      exact ⟨by rw [E1.out]; rfl, hb1⟩
  · have k0 : ((n : Int) != (m : Int)) = true := by simp; omega
    have E1 : Hid (R = false) := hide (by rw [HR.out]; simp [hnm])
    clear hnm HR
    go_enter Try.func198, Try.ntmps198
    go_wp2_with fail
    refine wp_region_bw (by kernel_rfl) (by kernel_rfl) ?_
    repeat (go_big_quiet_step (fail))
    refine wpQuiet_nil ?_
    intro w1 hb1
    go_wp2_with fail
    go_ret
    exact ⟨by rw [E1.out]; rfl, hb1⟩

theorem orderS_eq {p : List (List Ins)} {l : Nat} (hl : l < 3) (o : List Int) : orderS o (wrL (evAll p) l) = orderOk (evAll p) l o := by
  unfold orderS orderOk
  rw [head_wrL hl, Bool.eq_iff_iff]
  simp only [Bool.and_eq_true, decide_eq_true_eq, List.all_eq_true, List.contains_iff_mem]
  constructor
  · rintro ⟨h1, h2, h3⟩
    exact ⟨perm_of_sub (wrL_nodup _ _) h3 (by omega), h2⟩
  · rintro ⟨h1, h2⟩
    exact ⟨h1.length_eq, h2, fun y hy => h1.symm.mem_iff.1 hy⟩
theorem wrL_pos {p : List (List Ins)} {l : Nat} (hl : l < 3) : 0 < (wrL (evAll p) l).length := by
  have := head_wrL (p := p) hl
  cases h : wrL (evAll p) l with
  | nil => rw [h] at this; cases this
  | cons x xs => simp

set_option maxRecDepth 100000 in
set_option maxHeartbeats 3200000 in
theorem sExecValid_any (v vf vo : Value) (p : List (List Ins)) (x : Xc) (w : World) (hp : RepP w v p) (hx : RepX w vf vo x) (hl : p.flatten.length ≤ 1048576) (hpl : p.length ≤ 1048576) :
    Calls Try.prog 136 #[v, .agg #[vf, vo]] w fun e w' => e = .returned (.bool (execOk p x)) ∧ Below w.heap.size w w' := by
  have HP := hide hp
  have HXX := hide hx
  have HV := hide (fun w' h => sProgramValid_any v p w' h hl hpl)
  have HE := hide (fun w' h => l6Events_any v p w' h hl)
  obtain ⟨fa, fc, rfl, hf1, hf2, hf3, hfr⟩ := hx.fr.open
  obtain ⟨oa, oc, rfl, ho1, ho2, ho3, hod⟩ := hx.od.open
  clear hp hfr hod hx
  have HR : Hid (execOk p x = (progValid p && (decide (x.fr.length = (evAll p).length) && (decide (x.od.length = 3) && (fromsOk (evAll p) x.fr (evAll p).length && ordersOk (evAll p) x.od 3))))) := hide rfl
  have HEL := hide (evAll_length p)
  have HOS := hide (fun (l : Nat) (o : List Int) (h : l < 3) => orderS_eq (p := p) h o)
  have HWP := hide (fun (l : Nat) (h : l < 3) => wrL_pos (p := p) h)
  have HB0 := hide ((Below.refl w.heap.size w).alloc (Nat.le_refl _) (.cells #[.slice fa x.fr.length fc, .slice oa x.od.length oc] 80))
  have HPV : Hid (progValid p = true → (evAll p).length ≤ 15) := hide evAll_le
  have HP0 := hide (HP.out.below HB0.out)
  generalize execOk p x = R at *
  generalize hfn : x.fr.length = fn at *
  generalize hon : x.od.length = on at *
  generalize hes : evAll p = es at *
  generalize hen : es.length = en at *
  generalize progValid p = b at *
  have HF := hide hfn; have HO := hide hon; have HN := hide hen
  clear hfn hon hes hen
  go_enter Try.func136, Try.ntmps136
  cases b
  · obtain rfl : R = false := by rw [HR.out]; rfl
    go_wp2_with fail
    (with_reducible refine (HV.out _ HP0.out).mono ?_); rintro e w1 ⟨rfl, hb1⟩
    go_wp2_with fail
    go_ret
    exact ⟨rfl, HB0.out.trans (hb1.mono HB0.out.size)⟩
  · have hen15 := HPV.out rfl
    go_wp2_with fail
    (with_reducible refine (HV.out _ HP0.out).mono ?_); rintro e w1 ⟨rfl, hb1⟩
    have HP1 := hide (HP0.out.below hb1)
    have HB1 := hide hb1; clear hb1
    go_wp2_with fail
    (with_reducible refine (HE.out _ HP1.out).mono ?_); rintro e w2 ⟨ve, rfl, oe, hb2⟩
    have hre := oe.rep
    obtain ⟨ea, ec, rfl, he1, he2, he3, hre⟩ := hre.open
    rw [HN.out] at he1 he2 hre ⊢
    have HRE := hide hre
    have HB2 := hide (HB1.out.trans (hb2.mono HB1.out.size))
    have hbl0 : w.heap.size < (w.alloc (.cells #[.slice fa fn fc, .slice oa on oc] 80)).heap.size := by simp
    have hz : (w.alloc (.cells #[.slice fa fn fc, .slice oa on oc] 80)).cell? ⟨w.heap.size, 0, none⟩ = some (.slice fa fn fc) ∧ (w.alloc (.cells #[.slice fa fn fc, .slice oa on oc] 80)).cell? ⟨w.heap.size, 1, none⟩ = some (.slice oa on oc) := by simp [go_sem]
    have HZ0 := hide hz.1; have HZ1 := hide hz.2
    have HX0 := hide (HXX.out.below HB0.out)
    have HBW := hide (HB0.out)
    clear oe hre hb2 hz HB1 HV HE
    generalize w.alloc (.cells #[.slice fa fn fc, .slice oa on oc] 80) = w0 at *
    have z0 := (HB2.out.cell (p := ⟨w.heap.size, 0, none⟩) hbl0).trans HZ0.out
    have z1 := (HB2.out.cell (p := ⟨w.heap.size, 1, none⟩) hbl0).trans HZ1.out
    have hbl2 : w.heap.size < w2.heap.size := Nat.lt_of_lt_of_le hbl0 HB2.out.size
    by_cases c1 : fn = en
    · by_cases c2 : on = 3
      · have k1 : ((fn : Int) != (en : Int)) = false := by simp [c1]
        have k2 : ((on : Int) != 3) = false := by subst c2; rfl
        have E1 : Hid (R = (fromsOk es x.fr en && ordersOk es x.od 3)) := hide (by rw [HR.out, c1, c2]; simp)
        have C1 := hide c1; have C2 := hide c2
        clear c1 c2 HR
        go_wp2_with fail
        clear k1 k2 z0 z1
        go_loopw [6] (fun i wr => ∃ t : Nat, t ≤ en ∧ i = .int .i64 t ∧ Hid (fromsOk es x.fr t = true) ∧ Below w2.heap.size w2 wr) (fun i _ => en - (intOf i).toNat)
        case atStart => exact ⟨0, Nat.zero_le _, rfl, hide (by simp [fromsOk]), Below.refl _ _⟩
        case round =>
          obtain ⟨t, ht, rfl, hok, hb⟩ := hrel
          have HXr := hide ((HX0.out.below HB2.out).below hb)
          have HREr := hide (HRE.out.below hb)
          have z0 := (hb.cell (p := ⟨w.heap.size, 0, none⟩) hbl2).trans ((HB2.out.cell (p := ⟨w.heap.size, 0, none⟩) hbl0).trans HZ0.out)
          have hblr : w.heap.size < wr.heap.size := Nat.lt_of_lt_of_le hbl2 hb.size
          by_cases hlt : t < en
          · obtain ⟨e, he⟩ := get_of_lt (xs := es) (k := t) (by rw [HN.out]; exact hlt)
            obtain ⟨f, hf⟩ := get_of_lt (xs := x.fr) (k := t) (by rw [HF.out, C1.out]; exact hlt)
            obtain ⟨b, o, rfl, hbl, i0, i1, i2, i3, i4⟩ := HREr.out.ev he
            obtain ⟨b', o', rfl, hbl', j0⟩ := HXr.out.fr.int hf
            have hlt' := nat_of_lt hlt
            have hltf : (t : Int) < (fn : Int) := by have := C1.out; omega
            have FS := hide (fromsOk_succ he hf)
            have FN : Hid (fromOk es t e f = false → R = false) := hide (fun h => by rw [E1.out, fromsOk_no he hf hlt h]; rfl)
            clear he hf
            obtain ⟨et, ei, el, er, ew⟩ := e
            simp only at i0 i1 i2 i3 i4
            cases er
            · have FO : Hid (fromOk es t ⟨et, ei, el, false, ew⟩ f = (f == -1)) := hide rfl
              have nt : ((-1 : Int) == (t : Int)) = false := by simp
              by_cases hf1 : f = -1
              · subst hf1
                have OK : Hid (fromsOk es x.fr (t + 1) = true) := hide (by rw [FS.out, hok.out, FO.out]; rfl)
                go_wp2_with fail
                refine wp_region_bw (by kernel_rfl) (by kernel_rfl) ?_
                repeat (go_big_quiet_step (fail))
                refine wpQuiet_nil ?_
                intro w3 hb3
                obtain ⟨hc3, hf3⟩ := bcell hb3
                have hz3 := hb3.size
                have h1 : b < w3.heap.size := Nat.lt_of_lt_of_le hbl hz3
                have h2 : b' < w3.heap.size := Nat.lt_of_lt_of_le hbl' hz3
                have h3 : w.heap.size < w3.heap.size := Nat.lt_of_lt_of_le hblr hz3
                go_wp2_with fail
                go_roundw
                case rel => exact ⟨t + 1, by omega, by go_num, OK, hb.trans (hb3.mono hb.size)⟩
                case measure => simp [intOf]; omega
              · have k1 : (f != -1) = true := by simp [hf1]
                obtain rfl : R = false := FN.out (by rw [FO.out]; simp [hf1])
                clear hf1
                go_wp2_with fail
                refine wp_region_bw (by kernel_rfl) (by kernel_rfl) ?_
                repeat (go_big_quiet_step (fail))
                refine wpQuiet_nil ?_
                intro w3 hb3
                obtain ⟨hc3, hf3⟩ := bcell hb3
                have hz3 := hb3.size
                have h1 : b < w3.heap.size := Nat.lt_of_lt_of_le hbl hz3
                have h2 : b' < w3.heap.size := Nat.lt_of_lt_of_le hbl' hz3
                have h3 : w.heap.size < w3.heap.size := Nat.lt_of_lt_of_le hblr hz3
                go_wp2_with fail
                go_ret
                have hb4 := hb.trans (hb3.mono hb.size)
                have hb5 := HB2.out.trans (hb4.mono HB2.out.size)
                exact ⟨rfl, HBW.out.trans (hb5.mono HBW.out.size)⟩
            · have FO : Hid (fromOk es t ⟨et, ei, el, true, ew⟩ f = ((f != (t : Int)) && (wrL es el).contains f)) := hide rfl
              have HWR := hide (fun w' h => l6Writers_any (.slice (some ⟨b, o, none⟩) en ec) es el w' h (by rw [HN.out]; omega))
              have HPL := hide (fun v w' h => l6Place_any v (wrL es el) f w' h)
              generalize wrL es el = ws at *
              cases hcf : ws.contains f
              · obtain rfl : R = false := FN.out (by rw [FO.out, hcf]; simp)
                have HC := hide hcf; clear hcf
                go_wp2_with fail
                go_region_held3 (fun V => V.cell? ⟨b, o + t * 5 + 3, none⟩ = some (.bool true) ∧ V.cell? ⟨b, o + t * 5 + 2, none⟩ = some (.int .i64 el) ∧ V.cell? ⟨w.heap.size, 0, none⟩ = some (.slice (some ⟨b', o', none⟩) fn fc) ∧ V.cell? ⟨b', o' + t, none⟩ = some (.int .i64 f)) ((simp [go_sem, *]))
                  (first
                    | (go_at_call 197; (with_reducible refine (HWR.out _ (HREr.out.below (Below.refl _ _).drew)).mono ?_); rintro e' w4 ⟨vw, rfl, ow, hb4⟩; have HOW := hide ow.rep; have hb5 := (Below.refl wr.heap.size wr).drew.trans (hb4.mono (by simp)); have HB4 := hide hb5; have m0 := (hb5.cell (p := ⟨b, o + t * 5 + 3, none⟩) hbl).trans i3; have m1 := (hb5.cell (p := ⟨b, o + t * 5 + 2, none⟩) hbl).trans i2; have m2 := (hb5.cell (p := ⟨w.heap.size, 0, none⟩) hblr).trans z0; have m3 := (hb5.cell (p := ⟨b', o' + t, none⟩) hbl').trans j0; have l1 := Nat.lt_of_lt_of_le hbl hb5.size; have l2 := Nat.lt_of_lt_of_le hbl' hb5.size; have l3 := Nat.lt_of_lt_of_le hblr hb5.size; clear ow hb4 hb5)
                    | (go_at_call 196; (with_reducible refine (HPL.out _ _ HOW.out).mono ?_); rintro e' w5 ⟨⟨q, rfl, hq⟩, rfl⟩; have k2 : decide (q < 0) = true := (by rw [hq.lt, HC.out]; rfl); clear hq))
                all_goals
                  go_wp2_with fail
                  go_ret
                  have hb6 := hb.trans (HB4.out.mono hb.size)
                  have hb7 := HB2.out.trans (hb6.mono HB2.out.size)
                  exact ⟨rfl, HBW.out.trans (hb7.mono HBW.out.size)⟩
              · have HC := hide hcf
                by_cases hft : f = (t : Int)
                · obtain rfl : R = false := FN.out (by rw [FO.out, hft]; simp)
                  have k3 : (f == (t : Int)) = true := by simp [hft]
                  clear hcf hft
                  go_wp2_with fail
                  go_region_held3 (fun V => V.cell? ⟨b, o + t * 5 + 3, none⟩ = some (.bool true) ∧ V.cell? ⟨b, o + t * 5 + 2, none⟩ = some (.int .i64 el) ∧ V.cell? ⟨w.heap.size, 0, none⟩ = some (.slice (some ⟨b', o', none⟩) fn fc) ∧ V.cell? ⟨b', o' + t, none⟩ = some (.int .i64 f)) ((simp [go_sem, *]))
                    (first
                      | (go_at_call 197; (with_reducible refine (HWR.out _ (HREr.out.below (Below.refl _ _).drew)).mono ?_); rintro e' w4 ⟨vw, rfl, ow, hb4⟩; have HOW := hide ow.rep; have hb5 := (Below.refl wr.heap.size wr).drew.trans (hb4.mono (by simp)); have HB4 := hide hb5; have m0 := (hb5.cell (p := ⟨b, o + t * 5 + 3, none⟩) hbl).trans i3; have m1 := (hb5.cell (p := ⟨b, o + t * 5 + 2, none⟩) hbl).trans i2; have m2 := (hb5.cell (p := ⟨w.heap.size, 0, none⟩) hblr).trans z0; have m3 := (hb5.cell (p := ⟨b', o' + t, none⟩) hbl').trans j0; have l1 := Nat.lt_of_lt_of_le hbl hb5.size; have l2 := Nat.lt_of_lt_of_le hbl' hb5.size; have l3 := Nat.lt_of_lt_of_le hblr hb5.size; clear ow hb4 hb5)
                      | (go_at_call 196; (with_reducible refine (HPL.out _ _ HOW.out).mono ?_); rintro e' w5 ⟨⟨q, rfl, hq⟩, rfl⟩; have k2 : decide (q < 0) = false := (by rw [hq.lt, HC.out]; rfl); clear hq))
                  all_goals
                    go_wp2_with fail
                    go_ret
                    have hb6 := hb.trans (HB4.out.mono hb.size)
                    have hb7 := HB2.out.trans (hb6.mono HB2.out.size)
                    exact ⟨rfl, HBW.out.trans (hb7.mono HBW.out.size)⟩
                · have OK : Hid (fromsOk es x.fr (t + 1) = true) := hide (by rw [FS.out, hok.out, FO.out, hcf]; simp [hft])
                  have k3 : (f == (t : Int)) = false := by simp [hft]
                  clear hcf hft
                  go_wp2_with fail
                  go_region_held3 (fun V => V.cell? ⟨b, o + t * 5 + 3, none⟩ = some (.bool true) ∧ V.cell? ⟨b, o + t * 5 + 2, none⟩ = some (.int .i64 el) ∧ V.cell? ⟨w.heap.size, 0, none⟩ = some (.slice (some ⟨b', o', none⟩) fn fc) ∧ V.cell? ⟨b', o' + t, none⟩ = some (.int .i64 f)) ((simp [go_sem, *]))
                    (first
                      | (go_at_call 197; (with_reducible refine (HWR.out _ (HREr.out.below (Below.refl _ _).drew)).mono ?_); rintro e' w4 ⟨vw, rfl, ow, hb4⟩; have HOW := hide ow.rep; have hb5 := (Below.refl wr.heap.size wr).drew.trans (hb4.mono (by simp)); have HB4 := hide hb5; have m0 := (hb5.cell (p := ⟨b, o + t * 5 + 3, none⟩) hbl).trans i3; have m1 := (hb5.cell (p := ⟨b, o + t * 5 + 2, none⟩) hbl).trans i2; have m2 := (hb5.cell (p := ⟨w.heap.size, 0, none⟩) hblr).trans z0; have m3 := (hb5.cell (p := ⟨b', o' + t, none⟩) hbl').trans j0; have l1 := Nat.lt_of_lt_of_le hbl hb5.size; have l2 := Nat.lt_of_lt_of_le hbl' hb5.size; have l3 := Nat.lt_of_lt_of_le hblr hb5.size; clear ow hb4 hb5)
                      | (go_at_call 196; (with_reducible refine (HPL.out _ _ HOW.out).mono ?_); rintro e' w5 ⟨⟨q, rfl, hq⟩, rfl⟩; have k2 : decide (q < 0) = false := (by rw [hq.lt, HC.out]; rfl); clear hq))
                  all_goals
                    go_wp2_with fail
                    go_roundw
                    case rel => exact ⟨t + 1, by omega, by go_num, OK, hb.trans (HB4.out.mono hb.size)⟩
                    case measure => simp [intOf]; omega
          · have OKF : Hid (fromsOk es x.fr en = true) := hide (by rw [show en = t by omega]; exact hok.out)
            have E2 : Hid (R = ordersOk es x.od 3) := hide (by rw [E1.out, OKF.out]; rfl)
            clear E1 hok OKF
            have HB3 := hide (HB2.out.trans (hb.mono HB2.out.size))
            go_wp2_with fail
            go_loopw [7] (fun i wq => ∃ k : Nat, k ≤ 3 ∧ i = .int .i64 k ∧ Hid (ordersOk es x.od k = true) ∧ Below wr.heap.size wr wq) (fun i _ => 3 - (intOf i).toNat)
            case atStart => exact ⟨0, by omega, rfl, hide (by simp [ordersOk]), Below.refl _ _⟩
            case round =>
              obtain ⟨k, hk, rfl, hok, hbq⟩ := hrel
              have HXq := hide (HXr.out.below hbq)
              have HREq := hide (HREr.out.below hbq)
              have z1 := (hbq.cell (p := ⟨w.heap.size, 1, none⟩) hblr).trans ((HB3.out.cell (p := ⟨w.heap.size, 1, none⟩) hbl0).trans HZ1.out)
              have hblq : w.heap.size < wr.heap.size := Nat.lt_of_lt_of_le hblr hbq.size
              clear z0
              by_cases hlt3 : k < 3
              · have hlt3' : (k : Int) ≤ 2 := by omega
                obtain ⟨r, hr⟩ := get_of_lt (xs := x.od) (k := k) (by rw [HO.out, C2.out]; exact hlt3)
                obtain ⟨b, o, ra, rc, rfl, hbl, i0, i1⟩ := HXq.out.od.row hr
                have hkon : (k : Int) < (on : Int) := by have := C2.out; omega
                have FS := hide (ordersOk_succ (es := es) hr)
                have FN : Hid (orderOk es k r = false → R = false) := hide (fun h => by rw [E2.out, ordersOk_no hr hlt3 h])
                have HOE := hide (HOS.out k r hlt3)
                have HWR := hide (fun w' h => l6Writers_any (.slice ea en ec) es (k : Int) w' h (by rw [HN.out]; omega))
                have hwp := HWP.out k hlt3
                have I1 := hide i1
                clear hr i1
                generalize hbb : orderOk es k r = bb at *
                have hLO : ∀ v' w', Rep IntE w' (.slice ra r.length rc) r → Rep IntE w' v' (wrL es (k : Int)) → Calls Try.prog 198 #[.slice ra r.length rc, v'] w' fun e w1 => e = .returned (.bool bb) ∧ Below w'.heap.size w' w1 :=
                  fun v' w' h h' => (l6Order_any _ v' r (wrL es (k : Int)) w' h h' hwp).mono fun _ _ ⟨a, b⟩ => ⟨by rw [a, HOE.out], b⟩
                have HLO := hide hLO
                clear hLO hwp HOE hbb
                generalize wrL es (k : Int) = ws at *
                generalize r.length = rn at *
                cases bb
                · obtain rfl : R = false := FN.out rfl
                  go_wp2_with fail
                  go_region_held3 (fun V => V.cell? ⟨w.heap.size, 1, none⟩ = some (.slice (some ⟨b, o, none⟩) on oc) ∧ V.cell? ⟨b, o + k, none⟩ = some (.slice ra rn rc)) ((simp [go_sem, *]))
                    (first
                      | (go_at_call 197; (with_reducible refine (HWR.out _ (HREq.out.below (Below.refl _ _).drew)).mono ?_); rintro e' w4 ⟨vw, rfl, ow, hb4⟩; have HOW := hide ow.rep; have hb5 := (Below.refl wr.heap.size wr).drew.trans (hb4.mono (by simp)); have HB4 := hide hb5; have m0 := (hb5.cell (p := ⟨w.heap.size, 1, none⟩) hblq).trans z1; have m1 := (hb5.cell (p := ⟨b, o + k, none⟩) hbl).trans i0; have l1 := Nat.lt_of_lt_of_le hbl hb5.size; have l2 := Nat.lt_of_lt_of_le hblq hb5.size; have I2 := hide (I1.out.below hb5); clear ow hb4 hb5)
                      | (go_at_call 198; (with_reducible refine (HLO.out _ _ I2.out HOW.out).mono ?_); rintro e' w5 ⟨rfl, hb6⟩; have hb7 := HB4.out.trans (hb6.mono HB4.out.size); have m2 := (hb7.cell (p := ⟨w.heap.size, 1, none⟩) hblq).trans z1; have m3 := (hb7.cell (p := ⟨b, o + k, none⟩) hbl).trans i0; have HB7 := hide hb7; clear hb6 hb7))
                  all_goals
                    go_wp2_with fail
                    go_ret
                    have hb8 := HB3.out.trans ((hbq.trans (HB7.out.mono hbq.size)).mono HB3.out.size)
                    exact ⟨rfl, HBW.out.trans (hb8.mono HBW.out.size)⟩
                · have OK : Hid (ordersOk es x.od (k + 1) = true) := hide (by rw [FS.out, hok.out]; rfl)
                  go_wp2_with fail
                  go_region_held3 (fun V => V.cell? ⟨w.heap.size, 1, none⟩ = some (.slice (some ⟨b, o, none⟩) on oc) ∧ V.cell? ⟨b, o + k, none⟩ = some (.slice ra rn rc)) ((simp [go_sem, *]))
                    (first
                      | (go_at_call 197; (with_reducible refine (HWR.out _ (HREq.out.below (Below.refl _ _).drew)).mono ?_); rintro e' w4 ⟨vw, rfl, ow, hb4⟩; have HOW := hide ow.rep; have hb5 := (Below.refl wr.heap.size wr).drew.trans (hb4.mono (by simp)); have HB4 := hide hb5; have m0 := (hb5.cell (p := ⟨w.heap.size, 1, none⟩) hblq).trans z1; have m1 := (hb5.cell (p := ⟨b, o + k, none⟩) hbl).trans i0; have l1 := Nat.lt_of_lt_of_le hbl hb5.size; have l2 := Nat.lt_of_lt_of_le hblq hb5.size; have I2 := hide (I1.out.below hb5); clear ow hb4 hb5)
                      | (go_at_call 198; (with_reducible refine (HLO.out _ _ I2.out HOW.out).mono ?_); rintro e' w5 ⟨rfl, hb6⟩; have hb7 := HB4.out.trans (hb6.mono HB4.out.size); have m2 := (hb7.cell (p := ⟨w.heap.size, 1, none⟩) hblq).trans z1; have m3 := (hb7.cell (p := ⟨b, o + k, none⟩) hbl).trans i0; have HB7 := hide hb7; clear hb6 hb7))
                  all_goals
                    go_wp2_with fail
                    go_roundw
                    case rel => exact ⟨k + 1, by omega, by go_num, OK, hbq.trans (HB7.out.mono hbq.size)⟩
                    case measure => simp [intOf]; omega
              · obtain rfl : k = 3 := by omega
                obtain rfl : R = true := by rw [E2.out, hok.out]
                go_wp2_with fail
                go_ret
                have hb6 := HB3.out.trans (hbq.mono HB3.out.size)
                exact ⟨rfl, HBW.out.trans (hb6.mono HBW.out.size)⟩
      · have k1 : ((fn : Int) != (en : Int)) = false := by simp [c1]
        have k2 : ((on : Int) != 3) = true := by simpa using (by omega : ¬ (on : Int) = 3)
        obtain rfl : R = false := by rw [HR.out]; simp [c2]
        clear c1 c2 HR
        go_wp2_with fail
        go_ret
        exact ⟨rfl, HBW.out.trans (HB2.out.mono HBW.out.size)⟩
    · have k1 : ((fn : Int) != (en : Int)) = true := by simp; omega
      obtain rfl : R = false := by rw [HR.out]; simp [c1]
      clear c1 HR
      go_wp2_with fail
      go_ret
      exact ⟨rfl, HBW.out.trans (HB2.out.mono HBW.out.size)⟩

end Go.Proofs.Ytpnmphfdfadlcaa
