/-
  OutcomeOf of both sides. Condition: bounds on lengths.
-/
import Derived.Test.YtpnmphfdfadlcaaW3
import Derived.Test.YtpnmphfdfadlcaaV14
namespace Go.Proofs.Ytpnmphfdfadlcaa
open Go.RowKit

set_option maxRecDepth 100000 in
set_option maxHeartbeats 6400000 in
theorem l6Outcome_any (v vf vo vv : Value) (p : List (List Ins)) (x : Xc) (w : World) (hp : RepP w v p) (hx : RepX w vf vo x) (hvv : Rep IntE w vv (valsL p x.fr)) (hl : p.flatten.length ≤ 1048576) (hok : execOk p x = true) (hvo : valsOk p x.fr = true) :
    Calls Try.prog 143 #[v, .agg #[vf, vo], vv] w (RetOwn IntE 3 w (outL p (evAll p) x (valsL p x.fr))) := by
  have HE := hide (fun w' h => l6Events_any v p w' h hl)
  have hok2 := hok
  unfold execOk at hok2
  simp only [Bool.and_eq_true, decide_eq_true_eq] at hok2
  obtain ⟨hpv, hfl, hol, -, -⟩ := hok2
  have hen := evAll_le hpv
  have hp3 := (valid_le hpv).1
  have HVR := hide (fun k e h1 h2 => val_read (k := k) (e := e) hok hvo h1 h2)
  have HVD := hide (fun l h1 => val_order (l := l) hok hvo h1)
  have HOLN := hide (fun l o (h1 : l < 3) h2 => order_le (l := l) (o := o) hok h1 h2)
  have HLR := hide (fun ve t idx reg w' h h' => l6Reg_any v ve p (evAll p) rfl t idx reg w' h h' (by omega))
  have HLC := hide (fun t idx g => lastRd_cases p (evAll p) t idx g)
  have HTS := hide (fun j r h => outTo_succ (p := p) (evAll p) x.fr (valsL p x.fr) (j := j) (r := r) h)
  have HT0 : Hid (outTo p (evAll p) x.fr (valsL p x.fr) 0 = []) := hide rfl
  have HTL := hide (fun j h => outTo_length p (evAll p) x.fr (valsL p x.fr) j h)
  have HRS := hide (fun t n k => outRow_succ p (evAll p) x.fr (valsL p x.fr) t n k)
  have HR0 : Hid (∀ t n, outRow p (evAll p) x.fr (valsL p x.fr) t n 0 = []) := hide (fun _ _ => rfl)
  have HRL := hide (fun t n k => outRow_length p (evAll p) x.fr (valsL p x.fr) t n k)
  have HMS := hide (fun k => outMem_succ x.od (valsL p x.fr) k)
  have HM0 : Hid (outMem x.od (valsL p x.fr) 0 = []) := hide rfl
  have HML := hide (fun k => outMem_length x.od (valsL p x.fr) k)
  have HRG : Hid (∀ t idx g, regV p (evAll p) x.fr (valsL p x.fr) t idx g = regOf x.fr (valsL p x.fr) (lastRd p (evAll p) t idx g)) := hide (fun _ _ _ => rfl)
  have HOUT : Hid (outL p (evAll p) x (valsL p x.fr) = outTo p (evAll p) x.fr (valsL p x.fr) p.length ++ outMem x.od (valsL p x.fr) 3) := hide rfl
  clear hpv
  have HP := hide hp; have HX := hide hx; have HU := hide hvv
  have HFLE := hide hfl; have HOLE := hide hol
  obtain ⟨pa, pc, rfl, -, hpn, -, -⟩ := hp.open
  obtain ⟨fa, fc, rfl, -, hfn, -, -⟩ := hx.fr.open
  obtain ⟨oa, oc, rfl, -, hon, -, -⟩ := hx.od.open
  obtain ⟨ua, uc, rfl, -, hun, -, -⟩ := hvv.open
  clear hp hx hvv hok hfl hol hvo
  have HB0 := hide ((Below.refl w.heap.size w).alloc (Nat.le_refl _) (.cells #[.slice fa x.fr.length fc, .slice oa x.od.length oc] 80))
  have HBX := hide (heap_alloc_new w (.cells #[.slice fa x.fr.length fc, .slice oa x.od.length oc] 80))
  have HP0 := hide (HP.out.below HB0.out); have HX0 := hide (HX.out.below HB0.out); have HU0 := hide (HU.out.below HB0.out)
  have hz1 : w.heap.size < (w.alloc (.cells #[.slice fa x.fr.length fc, .slice oa x.od.length oc] 80)).heap.size := by simp
  clear HP HX HU
  generalize outL p (evAll p) x (valsL p x.fr) = R at *
  generalize hvl : valsL p x.fr = vals at *
  generalize hes : evAll p = es at *
  clear hvl hes
  generalize hfn' : x.fr.length = fn at *
  generalize hon' : x.od.length = on at *
  generalize hpn' : p.length = pn at *
  generalize hen' : es.length = en at *
  generalize hvn' : vals.length = vn at *
  have HFN := hide hfn'; have HON := hide hon'; have HPN := hide hpn'; have HEN := hide hen'; have HVN := hide hvn'
  clear hfn' hon' hpn' hen' hvn'
  go_enter Try.func143, Try.ntmps143
  go_wp2_with fail
  have hsz : (w.alloc (.cells #[.slice fa fn fc, .slice oa on oc] 80)).heap.size = w.heap.size + 1 := by simp
  generalize hw1 : w.alloc (.cells #[.slice fa fn fc, .slice oa on oc] 80) = w1 at *
  clear hw1
  have ha := (Below.refl w1.heap.size w1).alloc (Nat.le_refl _) (.cells #[] 3)
  have HA := hide ha
  have OA := hide (Own.empty (E := IntE) 3 w1 (Nat.le_refl _))
  (with_reducible refine (HE.out _ (HP0.out.below ha)).mono ?_); rintro e w2 ⟨ve, rfl, oe, hb2⟩
  have OE2 := hide (oe.mono ha.size)
  have OA2 : Hid (OwnN w2 w1.heap.size (.slice (some ⟨w.heap.size + 1, 0, none⟩) 0 0) []) := hide (by have h := OA.out.below hb2; rw [hsz] at h ⊢; exact h)
  have HB2 := hide (ha.trans (hb2.mono ha.size))
  obtain ⟨⟨ea, en', ec⟩, rfl, heq⟩ := oe.toSlc
  clear heq
  have HSZ := hide hsz
  clear oe hb2 ha OA HA HE hsz
  go_wp2_with fail
  go_loopw [7, 9] (fun s i wr => ∃ t : Nat, t ≤ pn ∧ i = .int .i64 t ∧ OwnN wr w1.heap.size s (outTo p es x.fr vals t) ∧ Own EvE 88 wr w1.heap.size (.slice ea en' ec) es ∧ Below w1.heap.size w1 wr) (fun _ i _ => pn - (intOf i).toNat)
  case atStart => exact ⟨0, Nat.zero_le _, rfl, by rw [HT0.out]; exact OA2.out, OE2.out, HB2.out⟩
  case round =>
    obtain ⟨t, ht, rfl, hown, hoe, hbr⟩ := hrel
    by_cases hlt : t < pn
    · obtain ⟨r, hpt⟩ := get_of_lt (xs := p) (k := t) (by rw [HPN.out]; exact hlt)
      have hlt' := nat_of_lt hlt
      have TS := hide (HTS.out t r hpt)
      have HTLt := hide (HTL.out t ht)
      have HPT := hide hpt
      have HOW := hide hown; have HOE := hide hoe; have HBR := hide hbr
      generalize outTo p es x.fr vals t = G at *
      clear hpt hown hoe hbr
      go_wp2_with fail
      go_loopw [7, 10] (fun s i wr => ∃ g : Nat, g ≤ 3 ∧ i = .int .i64 g ∧ OwnN wr w1.heap.size s (G ++ outRow p es x.fr vals t r.length g) ∧ Own EvE 88 wr w1.heap.size (.slice ea en' ec) es ∧ Below w1.heap.size w1 wr) (fun _ i _ => 3 - (intOf i).toNat)
      case atStart => exact ⟨0, by omega, rfl, by rw [HR0.out, List.append_nil]; exact HOW.out, HOE.out, HBR.out⟩
      case round =>
        obtain ⟨g, hg, rfl, hown, hoe, hbr⟩ := hrel
        by_cases hg3 : g < 3
        · have hg2 : (g : Int) ≤ 2 := by omega
          have hlen : (G ++ outRow p es x.fr vals t r.length g).length ≤ 68719476736 := by rw [List.length_append, HTLt.out, HRL.out]; omega
          have RS := hide (HRS.out t r.length g)
          have RG := hide (HRG.out (t : Int) (r.length : Int) (g : Int))
          have HL := hide (HLR.out _ (t : Int) (r.length : Int) (g : Int) wr (HP0.out.below hbr) hoe.rep)
          have hcs := HLC.out (t : Int) (r.length : Int) (g : Int)
          obtain ⟨b2, o2, ra, rc, rfl, hbl2, q0, q1⟩ := (HP0.out.below hbr).row HPT.out
          have OWr := hide hown; have OEr := hide hoe; have BRr := hide hbr
          generalize outRow p es x.fr vals t r.length g = G2 at *
          clear hown hoe hbr q1
          go_wp2_with fail
          (with_reducible refine HL.out.mono ?_); rintro e w5 ⟨rfl, hb5⟩
          have OW5 := hide (OWr.out.below hb5); have OE5 := hide (OEr.out.below hb5)
          have B5 := hide (BRr.out.trans (hb5.mono BRr.out.size))
          clear hb5 q0 HL OWr OEr BRr
          rcases hcs with hlr | ⟨k, e2, hlr, hek, her⟩
          · have RV : Hid (G ++ outRow p es x.fr vals t r.length (g + 1) = (G ++ G2) ++ [0]) := hide (by rw [RS.out, List.append_assoc, RG.out, hlr]; rfl)
            rw [hlr]
            clear hlr RG
            generalize hGG : G ++ G2 = GG at *
            clear hGG
            go_wp2_with (at_builtin; refine wpList_app IntE 3 Try.infoInt rfl Try.underlying36 w1.heap.size _ GG 0 (OW5.out.alloc _) (by decide) hlen (by have := B5.out.size; simp; omega) rfl _ _ rfl rfl _ 0 1 rfl (news_allocV (by simp)) ?_; intro v' w6 hown6 hgr6; have B6 := hide (below_app B5.out OW5.out hgr6); have E6 := hide ((OE5.out.alloc (.cells #[.int .i64 0] 3)).grown hgr6 (own_or (by decide) OW5.out OE5.out)); have O6 := hide hown6; clear hown6 hgr6)
            go_roundw
            case rel => exact ⟨g + 1, by omega, by go_num, by rw [RV.out]; exact O6.out, E6.out, B6.out⟩
            case measure => simp [intOf]; omega
          · obtain ⟨j, vv, hfj, hvj, hv0, hv3⟩ := HVR.out k e2 hek her
            have RV : Hid (G ++ outRow p es x.fr vals t r.length (g + 1) = (G ++ G2) ++ [vv]) := hide (by
              rw [RS.out, List.append_assoc, RG.out, hlr]
              unfold regOf
              rw [if_neg (by omega), valAt_eq hfj hvj])
            rw [hlr]
            obtain ⟨b4, o4, rfl, hbl4, f0⟩ := HX0.out.fr.int hfj
            obtain ⟨b5, o5, rfl, hbl5, u0⟩ := HU0.out.int hvj
            have hkf : (k : Int) < (fn : Int) := by have := (List.getElem?_eq_some_iff.1 hfj).1; have := HFN.out; omega
            have hjv : (j : Int) < (vn : Int) := by have := (List.getElem?_eq_some_iff.1 hvj).1; have := HVN.out; omega
            have f0 := (B5.out.cell (p := ⟨b4, o4 + k, none⟩) hbl4).trans f0
            have u0 := (B5.out.cell (p := ⟨b5, o5 + j, none⟩) hbl5).trans u0
            have x0 := (B5.out.cell (p := ⟨w.heap.size, 0, none⟩) hz1).trans (cell_of_heapV HBX.out (k := 0) rfl)
            have l4 := Nat.lt_of_lt_of_le hbl4 B5.out.size
            have l5 := Nat.lt_of_lt_of_le hbl5 B5.out.size
            have l6 := Nat.lt_of_lt_of_le hz1 B5.out.size
            have hk0 : decide ((k : Int) < 0) = false := by simp
            clear hlr RG hfj hvj hek her
            generalize hGG : G ++ G2 = GG at *
            clear hGG
            go_wp2_with (at_builtin; refine wpList_app IntE 3 Try.infoInt rfl Try.underlying36 w1.heap.size _ GG vv (OW5.out.alloc _) (by decide) hlen (by have := B5.out.size; simp; omega) rfl _ _ rfl rfl _ 0 1 rfl (news_allocV (by simp)) ?_; intro v' w6 hown6 hgr6; have B6 := hide (below_app B5.out OW5.out hgr6); have E6 := hide ((OE5.out.alloc (.cells #[.int .i64 vv] 3)).grown hgr6 (own_or (by decide) OW5.out OE5.out)); have O6 := hide hown6; clear hown6 hgr6)
            go_roundw
            case rel => exact ⟨g + 1, by omega, by go_num, by rw [RV.out]; exact O6.out, E6.out, B6.out⟩
            case measure => simp [intOf]; omega
        · obtain rfl : g = 3 := by omega
          rw [← TS.out] at hown
          go_wp2_with fail
          go_roundw
          case rel => exact ⟨t + 1, by omega, by go_num, hown, hoe, hbr⟩
          case measure => simp [intOf]; omega
    · obtain rfl : t = pn := by omega
      have HTLt := hide (HTL.out t (Nat.le_refl _))
      have HOW := hide hown; have HBR := hide hbr
      generalize outTo p es x.fr vals t = G at *
      clear hown hoe hbr
      go_wp2_with fail
      go_loopw [7, 12] (fun s i wr => ∃ l : Nat, l ≤ 3 ∧ i = .int .i64 l ∧ OwnN wr w1.heap.size s (G ++ outMem x.od vals l) ∧ Below w1.heap.size w1 wr) (fun _ i _ => 3 - (intOf i).toNat)
      case atStart => exact ⟨0, by omega, rfl, by rw [HM0.out, List.append_nil]; exact HOW.out, HBR.out⟩
      case round =>
        obtain ⟨l, hl3, rfl, hown, hbr⟩ := hrel
        by_cases hlt3 : l < 3
        · obtain ⟨o, j, vv, hod, ho0, hoj, hvj, hv0, hv3⟩ := HVD.out l hlt3
          have holn := HOLN.out l o hlt3 hod
          obtain ⟨b2, o2, ra, rc, rfl, hbl2, q0, q1⟩ := HX0.out.od.row hod
          obtain ⟨b4, o4, rfl, hbl4, f0⟩ := q1.int hoj
          obtain ⟨b5, o5, rfl, hbl5, u0⟩ := HU0.out.int hvj
          have hlon : (l : Int) < (on : Int) := by have := HON.out; have := HOLE.out; omega
          have hl2 : (l : Int) ≤ 2 := by omega
          have hjv : (j : Int) < (vn : Int) := by have := (List.getElem?_eq_some_iff.1 hvj).1; have := HVN.out; omega
          have q0 := (hbr.cell (p := ⟨b2, o2 + l, none⟩) hbl2).trans q0
          have f0 := (hbr.cell (p := ⟨b4, o4 + (o.length - 1), none⟩) hbl4).trans f0
          have u0 := (hbr.cell (p := ⟨b5, o5 + j, none⟩) hbl5).trans u0
          have x1 := (hbr.cell (p := ⟨w.heap.size, 1, none⟩) hz1).trans (cell_of_heapV HBX.out (k := 1) rfl)
          have l2 := Nat.lt_of_lt_of_le hbl2 hbr.size
          have l4 := Nat.lt_of_lt_of_le hbl4 hbr.size
          have l5 := Nat.lt_of_lt_of_le hbl5 hbr.size
          have l6 := Nat.lt_of_lt_of_le hz1 hbr.size
          obtain ⟨q, hq⟩ : ∃ q, o.length = q + 1 := ⟨o.length - 1, by omega⟩
          rw [hq] at f0 q0 holn
          simp only [Nat.add_sub_cancel] at f0
          have hwq : wrap64 (q : Int) = q := by unfold wrap64; omega
          have hqq : ((q + 1 : Nat) : Int) - 1 = (q : Int) := by omega
          have hq1 : (q : Int) < ((q + 1 : Nat) : Int) := by omega
          have hlen : (G ++ outMem x.od vals l).length ≤ 68719476736 := by rw [List.length_append, HTLt.out, HML.out]; omega
          have RV : Hid (G ++ outMem x.od vals (l + 1) = (G ++ outMem x.od vals l) ++ [vv]) := hide (by rw [HMS.out, memV_eq hod hoj hvj, List.append_assoc])
          have OWr := hide hown; have BRr := hide hbr
          clear hod hoj hvj hown hbr q1 ho0 hq
          generalize G ++ outMem x.od vals l = GG at *
          go_wp2_with (at_builtin; refine wpList_app IntE 3 Try.infoInt rfl Try.underlying36 w1.heap.size _ GG vv (OWr.out.alloc _) (by decide) hlen (by have := BRr.out.size; simp; omega) rfl _ _ rfl rfl _ 0 1 rfl (news_allocV (by simp)) ?_; intro v' w6 hown6 hgr6; have B6 := hide (below_app BRr.out OWr.out hgr6); have O6 := hide hown6; clear hown6 hgr6)
          go_roundw
          case rel => exact ⟨l + 1, by omega, by go_num, by rw [RV.out]; exact O6.out, B6.out⟩
          case measure => simp [intOf]; omega
        · obtain rfl : l = 3 := by omega
          go_wp2_with fail
          go_ret
          exact ⟨_, rfl, by rw [HOUT.out]; exact hown.mono HB0.out.size, HB0.out.trans (hbr.mono HB0.out.size)⟩

end Go.Proofs.Ytpnmphfdfadlcaa

namespace Go.Proofs.Ytpnmphfdfadlcaa
open Go.RowKit

set_option maxRecDepth 100000 in
set_option maxHeartbeats 3200000 in
theorem OutcomeOf_any (v vf vo : Value) (p : List (List Ins)) (x : Xc) (w : World) (hp : RepP w v p) (hx : RepX w vf vo x) (hl : p.flatten.length ≤ 1048576) (hol : ∀ o ∈ x.od, o.length ≤ 1048576) :
    Calls Try.prog 66 #[v, .agg #[vf, vo]] w (RetNB w (outF p x)) := by
  have HB0 := hide ((Below.refl w.heap.size w).alloc (Nat.le_refl _) (.cells #[vf, vo] 80))
  have HP := hide (hp.below HB0.out); have HX := hide (hx.below HB0.out)
  have HV := hide (ExecValid_any v vf vo p x _ HP.out HX.out hl hol)
  have HO := hide (fun w' h h' hk => outcomeOf_any v vf vo p x w' h h' hl hk)
  have HR : Hid (outF p x = if execOk p x = true ∧ valsOk p x.fr = true then (outL p (evAll p) x (valsL p x.fr), true) else ([], false)) := hide rfl
  have HBX := hide (heap_alloc_new w (.cells #[vf, vo] 80))
  obtain ⟨fa, fc, rfl, -, -, -, -⟩ := hx.fr.open
  obtain ⟨oa, oc, rfl, -, -, -, -⟩ := hx.od.open
  clear hp hx
  generalize outF p x = R at *
  generalize hb : execOk p x = b at *
  generalize x.fr.length = fn at *
  generalize x.od.length = on at *
  clear hb
  have e0 := cell_of_heapV HBX.out (k := 0) rfl
  have e1 := cell_of_heapV HBX.out (k := 1) rfl
  have el := lt_of_cell e0
  go_enter Try.func66, Try.ntmps66
  go_wp2_with fail
  generalize hw1 : w.alloc (.cells #[.slice fa fn fc, .slice oa on oc] 80) = w1 at *
  clear hw1
  cases b
  · obtain rfl : R = ([], false) := by rw [HR.out, if_neg (by simp)]
    (with_reducible refine HV.out.mono ?_); rintro e w2 ⟨rfl, hb2⟩
    clear e0 e1 el
    go_wp2_with fail
    go_ret2
    exact RetNB.no (HB0.out.trans (hb2.mono HB0.out.size))
  · (with_reducible refine HV.out.mono ?_); rintro e w2 ⟨rfl, hb2⟩
    have e0 := (hb2.cell (p := ⟨w.heap.size, 0, none⟩) el).trans e0
    have e1 := (hb2.cell (p := ⟨w.heap.size, 1, none⟩) el).trans e1
    have el2 := Nat.lt_of_lt_of_le el hb2.size
    have HO2 := hide (HO.out w2 (HP.out.below hb2) (HX.out.below hb2) rfl)
    have HB2 := hide (HB0.out.trans (hb2.mono HB0.out.size))
    have HR2 : Hid (R = if valsOk p x.fr = true then (outL p (evAll p) x (valsL p x.fr), true) else ([], false)) := hide (by
      rw [HR.out]
      by_cases h : valsOk p x.fr = true
      · rw [if_pos h, if_pos ⟨rfl, h⟩]
      · rw [if_neg h, if_neg (fun h2 => h h2.2)])
    rw [← HR2.out] at HO2
    clear hb2 HV
    go_wp2_with fail
    (with_reducible refine HO2.out.mono ?_); rintro e w3 ⟨u, rfl, ou, hb3⟩
    have HU := hide ou; have HB3 := hide hb3
    clear ou hb3 e0 e1
    go_wp2_with fail
    go_ret2
    exact ⟨u, rfl, HU.out.mono HB2.out.size, HB2.out.trans (HB3.out.mono HB2.out.size)⟩

set_option maxRecDepth 100000 in
set_option maxHeartbeats 3200000 in
theorem sOutcomeOf_any (v vf vo : Value) (p : List (List Ins)) (x : Xc) (w : World) (hp : RepP w v p) (hx : RepX w vf vo x) (hl : p.flatten.length ≤ 1048576) (hpl : p.length ≤ 1048576) :
    Calls Try.prog 65 #[v, .agg #[vf, vo]] w (RetNB w (outF p x)) := by
  have HB0 := hide ((Below.refl w.heap.size w).alloc (Nat.le_refl _) (.cells #[vf, vo] 80))
  have HP := hide (hp.below HB0.out); have HX := hide (hx.below HB0.out)
  have HV := hide (sValuesOf_any v vf vo p x _ HP.out HX.out hl hpl)
  have HO := hide (fun vv w' h h' h2 hk hv => l6Outcome_any v vf vo vv p x w' h h' h2 hl hk hv)
  have HR : Hid (outF p x = if execOk p x = true ∧ valsOk p x.fr = true then (outL p (evAll p) x (valsL p x.fr), true) else ([], false)) := hide rfl
  have HVF : Hid (valF p x = if execOk p x = true ∧ valsOk p x.fr = true then (valsL p x.fr, true) else ([], false)) := hide rfl
  have HBX := hide (heap_alloc_new w (.cells #[vf, vo] 80))
  obtain ⟨fa, fc, rfl, -, -, -, -⟩ := hx.fr.open
  obtain ⟨oa, oc, rfl, -, -, -, -⟩ := hx.od.open
  clear hp hx
  have HC : Hid ((execOk p x = true ∧ valsOk p x.fr = true ∧ outF p x = (outL p (evAll p) x (valsL p x.fr), true) ∧ valF p x = (valsL p x.fr, true)) ∨ (outF p x = ([], false) ∧ valF p x = ([], false))) := hide (by
    rw [HR.out, HVF.out]
    by_cases h : execOk p x = true ∧ valsOk p x.fr = true
    · rw [if_pos h, if_pos h]; exact .inl ⟨h.1, h.2, rfl, rfl⟩
    · rw [if_neg h, if_neg h]; exact .inr ⟨rfl, rfl⟩)
  generalize outF p x = R at *
  generalize valF p x = V at *
  generalize hOL : outL p (evAll p) x (valsL p x.fr) = OL at *
  generalize hVL : valsL p x.fr = VL at *
  clear HR HVF hOL hVL
  generalize x.fr.length = fn at *
  generalize x.od.length = on at *
  have e0 := cell_of_heapV HBX.out (k := 0) rfl
  have e1 := cell_of_heapV HBX.out (k := 1) rfl
  have el := lt_of_cell e0
  go_enter Try.func65, Try.ntmps65
  go_wp2_with fail
  generalize hw1 : w.alloc (.cells #[.slice fa fn fc, .slice oa on oc] 80) = w1 at *
  clear hw1
  (with_reducible refine HV.out.mono ?_); rintro e w2 ⟨u, rfl, ou, hb2⟩
  have e0 := (hb2.cell (p := ⟨w.heap.size, 0, none⟩) el).trans e0
  have e1 := (hb2.cell (p := ⟨w.heap.size, 1, none⟩) el).trans e1
  have el2 := Nat.lt_of_lt_of_le el hb2.size
  have HB2 := hide (HB0.out.trans (hb2.mono HB0.out.size))
  rcases HC.out with ⟨hok, hvo, rfl, rfl⟩ | ⟨rfl, rfl⟩
  · have HO2 := hide (HO.out u.v w2 (HP.out.below hb2) (HX.out.below hb2) ou.rep hok hvo)
    clear hb2 HV HC hok hvo HO ou
    go_wp2_with fail
    (with_reducible refine HO2.out.mono ?_); rintro e w3 ⟨u3, rfl, ou3, hb3⟩
    obtain ⟨⟨qa, qn, qc⟩, rfl, -⟩ := ou3.toSlc
    have HU := hide ou3; have HB3 := hide hb3
    clear ou3 hb3 e0 e1
    go_wp2_with fail
    go_ret2
    exact ⟨⟨qa, qn, qc⟩, rfl, HU.out.mono HB2.out.size, HB2.out.trans (HB3.out.mono HB2.out.size)⟩
  · clear hb2 HV HC HO ou e0 e1
    have HBE := hide HB2.out
    go_wp2_with fail
    go_ret2
    exact ⟨⟨some ⟨w2.heap.size, 0, none⟩, 0, 0⟩, rfl, Own.empty (E := IntE) _ w2 HBE.out.size, HBE.out.alloc HBE.out.size _⟩

end Go.Proofs.Ytpnmphfdfadlcaa
