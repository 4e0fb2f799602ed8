/-
  The reference's l6Values; ValuesOf of both sides. Condition: bounds on lengths.
-/
import Derived.Test.YtpnmphfdfadlcaaV13
import Derived.Test.YtpnmphfdfadlcaaV8
namespace Go.Proofs.Ytpnmphfdfadlcaa
open Go.RowKit

theorem evAll_ge (p : List (List Ins)) : 3 ≤ (evAll p).length := by unfold evAll; simp [evHead_length]
theorem rep_snoc (k : Nat) (x : Int) : List.replicate k x ++ [x] = List.replicate (k + 1) x := by
  rw [show k + 1 = k + 1 from rfl, List.replicate_succ']

set_option maxRecDepth 100000 in
set_option maxHeartbeats 6400000 in
theorem l6Values_any (v vf vo : Value) (p : List (List Ins)) (x : Xc) (w : World) (hp : RepP w v p) (hx : RepX w vf vo x) (hl : p.flatten.length ≤ 1048576) (hok : execOk p x = true) :
    Calls Try.prog 137 #[v, .agg #[vf, vo]] w (RetNB w (valsL p x.fr, valsOk p x.fr)) := by
  have HE := hide (fun w' h => l6Events_any v p w' h hl)
  unfold execOk at hok
  simp only [Bool.and_eq_true, decide_eq_true_eq] at hok
  obtain ⟨hpv, hfl, hol, hfo, hoo⟩ := hok
  have HFO := hide hfo
  have hen := evAll_le hpv
  have hen3 := evAll_ge p
  have HDV := hide (fun i v (h : depV p (evAll p) x.fr i = .inl v) => dep_val hpv h)
  clear hpv hol hoo hfo hfl
  have HP := hide hp; have HX := hide hx
  obtain ⟨pa, pc, rfl, -, hpn, -, -⟩ := hp.open
  obtain ⟨fa, fc, rfl, -, hfn, -, -⟩ := hx.fr.open
  obtain ⟨oa, oc, rfl, -, hon, -, -⟩ := hx.od.open
  clear hp hx
  have HRV : Hid ((valsL p x.fr, valsOk p x.fr) = (valTo (evAll p) (cX p x.fr) (evAll p).length, okTo (evAll p) (cX p x.fr) (evAll p).length)) := hide rfl
  generalize (valsL p x.fr, valsOk p x.fr) = R at *
  have HC : Hid (cX p x.fr = chain (depV p (evAll p) x.fr) (evAll p).length) := hide rfl
  generalize cX p x.fr = c at *
  generalize hes : evAll p = es at *
  have HES := hide hes.symm
  have HOS := hide (fun k e h => okTo_succ (es := es) c (k := k) (e := e) h)
  have HON := hide (fun k e h hw hc => okTo_no (es := es) c (k := k) (e := e) h hw hc)
  have HVL := hide (valTo_length es c)
  have HVG := hide (fun i e h1 h2 => valTo_get (es := es) c (i := i) (e := e) (k := es.length) h1 (Nat.le_refl _) h2)
  have HB0 := hide ((Below.refl w.heap.size w).alloc (Nat.le_refl _) (.cells #[.slice fa x.fr.length fc, .slice oa x.od.length oc] 80))
  have HBX := hide (heap_alloc_new w (.cells #[.slice fa x.fr.length fc, .slice oa x.od.length oc] 80))
  have HP0 := hide (HP.out.below HB0.out); have HX0 := hide (HX.out.below HB0.out)
  clear hes
  generalize hfn' : x.fr.length = fn at *
  generalize hon' : x.od.length = on at *
  generalize hpn' : p.length = pn at *
  clear hfn' hon' hpn'
  have HKI0 := hide (KInv.start (depV p es x.fr) es)
  have HKD := hide (fun (r : Nat) (K : List Int) (h : KInv (depV p es x.fr) es r 0 K) hr => h.done hr)
  have HW := hide (fun (vp ve vf vo vk : Value) (i : Nat) (K : List Int) (w' : World) h1 h2 h3 h4 h5 h6 => l6Write_any vp ve vf vo vk p es HES.out x i K w' h1 h2 h3 h4 HFO.out h5 h6 (by omega))
  have HLT := hide (fun i j h1 h2 => dep_lt (p := p) HFO.out i j h1 h2)
  have HIN := hide (fun i j h => dep_inr (p := p) HFO.out (i := i) (j := j) h)
  generalize hn : es.length = n at *
  have HN := hide hn; clear hn
  generalize depV p es x.fr = d at *
  go_enter Try.func137, Try.ntmps137
  go_wp2_with fail
  generalize hw1 : w.alloc (.cells #[.slice fa fn fc, .slice oa on oc] 80) = w1 at *
  clear hw1
  (with_reducible refine (HE.out _ HP0.out).mono ?_); rintro e w2 ⟨ve, rfl, oe, hb2⟩
  have hre := oe.rep
  obtain ⟨ea, ec, rfl, -, -, -, hre⟩ := hre.open
  rw [HN.out] at hre ⊢
  have HRE := hide hre; have HP2 := hide (HP0.out.below hb2); have HX2 := hide (HX0.out.below hb2)
  have HB2 := hide (HB0.out.trans (hb2.mono HB0.out.size))
  have HBX2 := hide ((hb2.block w.heap.size (Array.getElem?_eq_some_iff.1 HBX.out).1).trans HBX.out)
  clear oe hre hb2 HB0 HBX HP0 HX0 HP HX HE
  go_wp2_with fail
  go_loopw [7, 8] (fun s i wr => ∃ k : Nat, k ≤ n ∧ i = .int .i64 k ∧ OwnN wr w2.heap.size s (List.replicate k (-1)) ∧ Below w2.heap.size w2 wr) (fun _ i _ => n - (intOf i).toNat)
  case atStart => exact ⟨0, Nat.zero_le _, rfl, Own.empty (E := IntE) _ w2 (Nat.le_refl _), (Below.refl _ _).alloc (Nat.le_refl _) _⟩
  case round =>
    obtain ⟨k, hk, rfl, hown, hb⟩ := hrel
    by_cases hlt : k < n
    · have hlt' := nat_of_lt hlt
      have hlen : (List.replicate k (-1 : Int)).length ≤ 68719476736 := by simp; omega
      have HS := hide (rep_snoc k (-1))
      generalize List.replicate k (-1 : Int) = G at *
      go_wp2_with (at_builtin; refine wpList_app IntE 3 Try.infoInt rfl Try.underlying36 w2.heap.size _ G (-1) (hown.alloc _) (by decide) hlen (by simp; have := hb.size; omega) rfl _ _ rfl rfl _ 0 1 rfl (news_allocV (by simp)) ?_; intro v' w3 hown3 hgr3)
      have hb3 := below_app hb hown hgr3
      go_roundw
      case rel => exact ⟨k + 1, by omega, by go_num, by rw [← HS.out]; exact hown3, hb3⟩
      case measure => simp [intOf]; omega
    · obtain rfl : k = n := by omega
      have HO3 := hide hown; clear hown
      rcases HO3.out.shape with ⟨rfl, h0⟩ | ⟨g, cap, rfl, hg1, hg2, hg3, hg4⟩
      · exfalso; have := congrArg List.length h0; simp at this; omega
      rw [List.length_replicate] at HO3 hg3 ⊢
      have HB3 := hide hb; clear hb
      go_wp2_with fail
      go_loopw [9] (fun i wr => ∃ r : Nat, r ≤ k ∧ i = .int .i64 r ∧ (∃ K, Hid (KInv d es r 0 K) ∧ OwnN wr w2.heap.size (.slice (some ⟨g, 0, none⟩) k cap) K) ∧ Below w2.heap.size w2 wr) (fun i _ => k - (intOf i).toNat)
      case atStart => exact ⟨0, Nat.zero_le _, rfl, ⟨_, HKI0, HO3.out⟩, HB3.out⟩
      case round =>
        obtain ⟨r, hr, rfl, ⟨K, hki, hown⟩, hb⟩ := hrel
        by_cases hltr : r < k
        · have hltr' := nat_of_lt hltr
          have HO4 := hide hown; clear hown
          go_wp2_with fail
          go_loopw [10] (fun i wr => ∃ t : Nat, t ≤ k ∧ i = .int .i64 t ∧ (∃ K, Hid (KInv d es r t K) ∧ OwnN wr w2.heap.size (.slice (some ⟨g, 0, none⟩) k cap) K) ∧ Below w2.heap.size w2 wr) (fun i _ => k - (intOf i).toNat)
          case atStart => exact ⟨0, Nat.zero_le _, rfl, ⟨K, hki, HO4.out⟩, hb⟩
          case round =>
            obtain ⟨t, ht, rfl, ⟨K2, hkt, hown⟩, hb4⟩ := hrel
            by_cases hltt : t < k
            · obtain ⟨e, hek⟩ := get_of_lt (xs := es) (k := t) (by rw [HN.out]; exact hltt)
              obtain ⟨b, o, rfl, hbl, i0, i1, i2, i3, i4⟩ := (HRE.out.below hb4).ev hek
              have hltt' := nat_of_lt hltt
              have HEK := hide hek; clear hek
              clear i0 i1 i2 i3
              cases hew : e.w
              · rw [hew] at i4
                have HK2 := hide (hkt.out.skip HEK.out hew)
                clear hew
                go_wp2_with fail
                go_roundw
                case rel => exact ⟨t + 1, by omega, by go_num, ⟨K2, HK2, hown⟩, hb4⟩
                case measure => simp [intOf]; omega
              · rw [hew] at i4
                have HK2 := hide (hkt.out.step HEK.out hew (by rw [HN.out]; exact HLT.out) (fun j h => HIN.out t j h) HDV.out)
                have hKl := hkt.out.len
                obtain ⟨u, hu⟩ := get_of_lt (xs := K2) (k := t) (by rw [hKl, HN.out]; exact hltt)
                obtain ⟨hgl, f0, hfr⟩ := hown.int hu
                have HWC := hide (HW.out (.slice pa pn pc) (.slice (some ⟨b, o, none⟩) k ec) (.slice fa fn fc) (.slice oa on oc) (.slice (some ⟨g, 0, none⟩) k cap) t K2 wr (HP2.out.below hb4) (HRE.out.below hb4) (HX2.out.below hb4) hown.rep hltt (by rw [hKl, HN.out]))
                have hxb := (hb4.block w.heap.size (Array.getElem?_eq_some_iff.1 HBX2.out).1).trans HBX2.out
                have x0 := cell_of_heapV hxb (k := 0) rfl
                have x1 := cell_of_heapV hxb (k := 1) rfl
                have xl := lt_of_cell x0
                have HU := hide hu; have HOW := hide hown; have HB4 := hide hb4
                clear hew hKl hu hown hxb hkt f0 hfr
                generalize linkV d K2 t = lv at *
                go_wp2_with fail
                (with_reducible refine HWC.out.mono ?_); rintro e w7 ⟨rfl, hb7⟩
                have O7 := hide (HOW.out.below hb7)
                have HB7 := hide (HB4.out.trans (hb7.mono HB4.out.size))
                obtain ⟨hgl7, f7, hfr7⟩ := O7.out.int HU.out
                have OS := hide (O7.out.setInt HU.out lv)
                clear hb7 x0 x1 xl
                go_wp2_with fail
                go_roundw
                case rel => exact ⟨t + 1, by omega, by go_num, ⟨_, HK2, OS.out⟩, HB7.out.setCell hg1 _⟩
                case measure => simp [intOf]; omega
            · have e : t = k := by omega
              have HK2 := hide (hkt.out.next (by rw [HN.out]; exact e))
              go_wp2_with fail
              go_roundw
              case rel => exact ⟨r + 1, by omega, by go_num, ⟨K2, HK2, hown⟩, hb4⟩
              case measure => simp [intOf]; omega
        · obtain rfl : r = k := by omega
          have hK := HKD.out r K hki.out rfl
          rw [← HC.out] at hK
          have HOW := hide hown; have HB4 := hide hb
          have HKE := hide hK
          clear hown hb hki hK
          go_wp2_with fail
          go_loop [11] (fun i => ∃ t : Nat, t ≤ r ∧ i = .int .i64 t ∧ Hid (okTo es c t = true)) (fun i => r - (intOf i).toNat)
          case atStart => exact ⟨0, Nat.zero_le _, rfl, hide (by simp [okTo])⟩
          case round =>
            obtain ⟨t, ht, rfl, hok⟩ := hrel
            by_cases hltt : t < r
            · obtain ⟨e, hek⟩ := get_of_lt (xs := es) (k := t) (by rw [HN.out]; exact hltt)
              obtain ⟨b, o, rfl, hbl, i0, i1, i2, i3, i4⟩ := (HRE.out.below HB4.out).ev hek
              have hltt' := nat_of_lt hltt
              have hkt := HVG.out t e hltt hek
              rw [← HKE.out] at hkt
              obtain ⟨hgl, f0, hfr⟩ := HOW.out.int hkt
              have OS := hide (HOS.out t e hek); have ON := hide (HON.out t e hek)
              have HV1 : Hid (val1 c t e = if e.w = true then (c t).getD (-1) else -1) := hide rfl
              clear i0 i1 i2 i3 hek hkt hfr
              cases hew : e.w
              · rw [hew] at i4
                have OK2 : Hid (okTo es c (t + 1) = true) := hide (by rw [OS.out, hok.out, hew]; rfl)
                clear hew
                go_wp2_with fail
                go_round
                case rel => exact ⟨t + 1, by omega, by go_num, OK2⟩
                case measure => simp [intOf]; omega
              · rw [hew] at i4
                cases hct : c t with
                | none =>
                  rw [HV1.out, if_pos hew, hct] at f0
                  have RE : Hid (R = (K, false)) := hide (by rw [HRV.out, ON.out hew hct, HKE.out])
                  clear hew hct
                  go_wp2_with fail
                  go_ret2
                  rw [RE.out]
                  exact ⟨⟨some ⟨g, 0, none⟩, r, cap⟩, rfl, HOW.out.mono HB2.out.size, HB2.out.trans (HB4.out.mono HB2.out.size)⟩
                | some vv =>
                  rw [HV1.out, if_pos hew, hct] at f0
                  have OK2 : Hid (okTo es c (t + 1) = true) := hide (by rw [OS.out, hok.out, hct]; simp)
                  have hvv : 0 ≤ vv := by
                    have h := hct
                    rw [HC.out] at h
                    exact (chain_val HDV.out h).1
                  have k3 : decide (vv < 0) = false := by simp [hvv]
                  simp only [Option.getD_some] at f0
                  clear hew hct
                  go_wp2_with fail
                  go_round
                  case rel => exact ⟨t + 1, by omega, by go_num, OK2⟩
                  case measure => simp [intOf]; omega
            · have e : t = r := by omega
              subst e
              have RE : Hid (R = (K, true)) := hide (by rw [HRV.out, hok.out, HKE.out])
              go_wp2_with fail
              go_ret2
              rw [RE.out]
              exact ⟨⟨some ⟨g, 0, none⟩, t, cap⟩, rfl, HOW.out.mono HB2.out.size, HB2.out.trans (HB4.out.mono HB2.out.size)⟩

set_option maxRecDepth 100000 in
set_option maxHeartbeats 3200000 in
theorem ValuesOf_any (v vf vo : Value) (p : List (List Ins)) (x : Xc) (w : World) (hp : RepP w v p) (hx : RepX w vf vo x) (hl : p.flatten.length ≤ 1048576) (hol : ∀ o ∈ x.od, o.length ≤ 1048576) :
    Calls Try.prog 61 #[v, .agg #[vf, vo]] w (RetNB w (valF p x)) := by
  have HB0 := hide ((Below.refl w.heap.size w).alloc (Nat.le_refl _) (.cells #[vf, vo] 80))
  have HP := hide (hp.below HB0.out); have HX := hide (hx.below HB0.out)
  have HV := hide (ExecValid_any v vf vo p x _ HP.out HX.out hl hol)
  have HO := hide (fun w' h h' hk => valuesOf_any v vf vo p x w' h h' hl hk)
  have HR : Hid (valF p x = if execOk p x = true ∧ valsOk p x.fr = true then (valsL p x.fr, true) else ([], false)) := hide rfl
  have HBX := hide (heap_alloc_new w (.cells #[vf, vo] 80))
  obtain ⟨fa, fc, rfl, -, -, -, -⟩ := hx.fr.open
  obtain ⟨oa, oc, rfl, -, -, -, -⟩ := hx.od.open
  clear hp hx
  generalize valF p x = R at *
  generalize hb : execOk p x = b at *
  generalize x.fr.length = fn at *
  generalize x.od.length = on at *
  clear hb
  have e0 := cell_of_heapV HBX.out (k := 0) rfl
  have e1 := cell_of_heapV HBX.out (k := 1) rfl
  have el := lt_of_cell e0
  go_enter Try.func61, Try.ntmps61
  go_wp2_with fail
  generalize hw1 : w.alloc (.cells #[.slice fa fn fc, .slice oa on oc] 80) = w1 at *
  clear hw1
  cases b
  · obtain rfl : R = ([], false) := by rw [HR.out, if_neg (by simp)]
    (with_reducible refine HV.out.mono ?_); rintro e w2 ⟨rfl, hb2⟩
    clear e0 e1 el
    go_wp2_with fail
    go_ret2
    exact RetNB.no (HB0.out.trans (hb2.mono HB0.out.size))
  · (with_reducible refine HV.out.mono ?_); rintro e w2 ⟨rfl, hb2⟩
    have e0 := (hb2.cell (p := ⟨w.heap.size, 0, none⟩) el).trans e0
    have e1 := (hb2.cell (p := ⟨w.heap.size, 1, none⟩) el).trans e1
    have el2 := Nat.lt_of_lt_of_le el hb2.size
    have HO2 := hide (HO.out w2 (HP.out.below hb2) (HX.out.below hb2) rfl)
    have HB2 := hide (HB0.out.trans (hb2.mono HB0.out.size))
    have HR2 : Hid (R = if valsOk p x.fr = true then (valsL p x.fr, true) else ([], false)) := hide (by
      rw [HR.out]
      by_cases h : valsOk p x.fr = true
      · rw [if_pos h, if_pos ⟨rfl, h⟩]
      · rw [if_neg h, if_neg (fun h2 => h h2.2)])
    rw [← HR2.out] at HO2
    clear hb2 HV
    go_wp2_with fail
    (with_reducible refine HO2.out.mono ?_); rintro e w3 ⟨u, rfl, ou, hb3⟩
    have HU := hide ou; have HB3 := hide hb3
    clear ou hb3 e0 e1
    go_wp2_with fail
    go_ret2
    exact ⟨u, rfl, HU.out.mono HB2.out.size, HB2.out.trans (HB3.out.mono HB2.out.size)⟩

set_option maxRecDepth 100000 in
set_option maxHeartbeats 3200000 in
theorem sValuesOf_any (v vf vo : Value) (p : List (List Ins)) (x : Xc) (w : World) (hp : RepP w v p) (hx : RepX w vf vo x) (hl : p.flatten.length ≤ 1048576) (hpl : p.length ≤ 1048576) :
    Calls Try.prog 59 #[v, .agg #[vf, vo]] w (RetNB w (valF p x)) := by
  have HB0 := hide ((Below.refl w.heap.size w).alloc (Nat.le_refl _) (.cells #[vf, vo] 80))
  have HP := hide (hp.below HB0.out); have HX := hide (hx.below HB0.out)
  have HV := hide (sExecValid_any v vf vo p x _ HP.out HX.out hl hpl)
  have HO := hide (fun w' h h' hk => l6Values_any v vf vo p x w' h h' hl hk)
  have HR : Hid (valF p x = if execOk p x = true ∧ valsOk p x.fr = true then (valsL p x.fr, true) else ([], false)) := hide rfl
  have HBX := hide (heap_alloc_new w (.cells #[vf, vo] 80))
  obtain ⟨fa, fc, rfl, -, -, -, -⟩ := hx.fr.open
  obtain ⟨oa, oc, rfl, -, -, -, -⟩ := hx.od.open
  clear hp hx
  generalize valF p x = R at *
  generalize hb : execOk p x = b at *
  generalize x.fr.length = fn at *
  generalize x.od.length = on at *
  clear hb
  have e0 := cell_of_heapV HBX.out (k := 0) rfl
  have e1 := cell_of_heapV HBX.out (k := 1) rfl
  have el := lt_of_cell e0
  go_enter Try.func59, Try.ntmps59
  go_wp2_with fail
  generalize hw1 : w.alloc (.cells #[.slice fa fn fc, .slice oa on oc] 80) = w1 at *
  clear hw1
  cases b
  · obtain rfl : R = ([], false) := by rw [HR.out, if_neg (by simp)]
    (with_reducible refine HV.out.mono ?_); rintro e w2 ⟨rfl, hb2⟩
    clear e0 e1 el
    have HBE := hide (HB0.out.trans (hb2.mono HB0.out.size))
    clear hb2
    go_wp2_with fail
    go_ret2
    exact ⟨⟨some ⟨w2.heap.size, 0, none⟩, 0, 0⟩, rfl, Own.empty (E := IntE) _ w2 HBE.out.size, HBE.out.alloc HBE.out.size _⟩
  · (with_reducible refine HV.out.mono ?_); rintro e w2 ⟨rfl, hb2⟩
    have e0 := (hb2.cell (p := ⟨w.heap.size, 0, none⟩) el).trans e0
    have e1 := (hb2.cell (p := ⟨w.heap.size, 1, none⟩) el).trans e1
    have el2 := Nat.lt_of_lt_of_le el hb2.size
    have HO2 := hide (HO.out w2 (HP.out.below hb2) (HX.out.below hb2) rfl)
    have HB2 := hide (HB0.out.trans (hb2.mono HB0.out.size))
    clear hb2 HV
    generalize hvl : valsL p x.fr = L at *
    generalize hvo : valsOk p x.fr = ok at *
    clear hvl hvo
    go_wp2_with fail
    (with_reducible refine HO2.out.mono ?_); rintro e w3 ⟨u, rfl, ou, hb3⟩
    have HU := hide ou; have HB3 := hide hb3
    clear ou hb3 e0 e1
    cases ok
    · obtain rfl : R = ([], false) := by rw [HR.out, if_neg (fun h => by cases h.2)]
      have HBE := hide (HB2.out.trans (HB3.out.mono HB2.out.size))
      go_wp2_with fail
      go_ret2
      exact ⟨⟨some ⟨w3.heap.size, 0, none⟩, 0, 0⟩, rfl, Own.empty (E := IntE) _ w3 HBE.out.size, HBE.out.alloc HBE.out.size _⟩
    · obtain rfl : R = (L, true) := by rw [HR.out, if_pos ⟨trivial, rfl⟩]
      go_wp2_with fail
      go_ret2
      exact ⟨u, rfl, HU.out.mono HB2.out.size, HB2.out.trans (HB3.out.mono HB2.out.size)⟩

end Go.Proofs.Ytpnmphfdfadlcaa
