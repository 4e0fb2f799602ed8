/-
  FnOutcomeOf: for every input the law returns true and the input reads afterwards as it read before. No condition.
-/
import Derived.Test.YtblheabgjjeigaaZv15
import Derived.Test.YtblheabgjjeigaaZv14
import Derived.Test.YtblheabgjjeigaaZv05
import Derived.Test.YtblheabgjjeigaaZv03
import Derived.Test.YtblheabgjjeigaaZv07
import Derived.Test.YtblheabgjjeigaaZv12
import Derived.Test.YtblheabgjjeigaaZv00
namespace Go.Proofs.Ytblheabgjjeigaa
open Go.RowKit

set_option maxRecDepth 100000 in
set_option maxHeartbeats 6400000 in
theorem l6Outcome_any (v vf vo vv : Value) (p : List (List Ins)) (x : Xc) (w : World) (hp : RepP w v p) (hx : RepX w vf vo x) (hvv : Rep IntE w vv (valsL p x.fr)) (hl : p.flatten.length ≤ 1048576) (hok : execOk p x = true) (hvo : valsOk p x.fr = true) :
    Calls Try.prog 28 #[v, .agg #[vf, vo], vv] w (RetOwn IntE 3 w (outL p (evAll p) x (valsL p x.fr))) := by
  have HE := hide (fun w' h => l6Events_any v p w' h hl)
  have hok2 := hok
  unfold execOk at hok2
  simp only [Bool.and_eq_true, decide_eq_true_eq] at hok2
  obtain ⟨hpv, hfl, hol, -, -⟩ := hok2
  have hen := evAll_le hpv
  have hp3 := (valid_le hpv).1
  have HVR := hide (fun k e h1 h2 => val_read (k := k) (e := e) hok hvo h1 h2)
  have HVD := hide (fun l h1 => val_order (l := l) hok hvo h1)
  have HOLN := hide (fun l o (h1 : l < 3) h2 => order_le (l := l) (o := o) hok h1 h2)
  have HLR := hide (fun ve t idx reg w' h h' => l6Reg_any v ve p (evAll p) rfl t idx reg w' h h' (by omega))
  have HLC := hide (fun t idx g => lastRd_cases p (evAll p) t idx g)
  have HTS := hide (fun j r h => outTo_succ (p := p) (evAll p) x.fr (valsL p x.fr) (j := j) (r := r) h)
  have HT0 : Hid (outTo p (evAll p) x.fr (valsL p x.fr) 0 = []) := hide rfl
  have HTL := hide (fun j h => outTo_length p (evAll p) x.fr (valsL p x.fr) j h)
  have HRS := hide (fun t n k => outRow_succ p (evAll p) x.fr (valsL p x.fr) t n k)
  have HR0 : Hid (∀ t n, outRow p (evAll p) x.fr (valsL p x.fr) t n 0 = []) := hide (fun _ _ => rfl)
  have HRL := hide (fun t n k => outRow_length p (evAll p) x.fr (valsL p x.fr) t n k)
  have HMS := hide (fun k => outMem_succ x.od (valsL p x.fr) k)
  have HM0 : Hid (outMem x.od (valsL p x.fr) 0 = []) := hide rfl
  have HML := hide (fun k => outMem_length x.od (valsL p x.fr) k)
  have HRG : Hid (∀ t idx g, regV p (evAll p) x.fr (valsL p x.fr) t idx g = regOf x.fr (valsL p x.fr) (lastRd p (evAll p) t idx g)) := hide (fun _ _ _ => rfl)
  have HOUT : Hid (outL p (evAll p) x (valsL p x.fr) = outTo p (evAll p) x.fr (valsL p x.fr) p.length ++ outMem x.od (valsL p x.fr) 3) := hide rfl
  clear hpv
  have HP := hide hp; have HX := hide hx; have HU := hide hvv
  have HFLE := hide hfl; have HOLE := hide hol
  obtain ⟨pa, pc, rfl, -, hpn, -, -⟩ := hp.open
  obtain ⟨fa, fc, rfl, -, hfn, -, -⟩ := hx.fr.open
  obtain ⟨oa, oc, rfl, -, hon, -, -⟩ := hx.od.open
  obtain ⟨ua, uc, rfl, -, hun, -, -⟩ := hvv.open
  clear hp hx hvv hok hfl hol hvo
  have HB0 := hide ((Below.refl w.heap.size w).alloc (Nat.le_refl _) (.cells #[.slice fa x.fr.length fc, .slice oa x.od.length oc] 27))
  have HBX := hide (heap_alloc_new w (.cells #[.slice fa x.fr.length fc, .slice oa x.od.length oc] 27))
  have HP0 := hide (HP.out.below HB0.out); have HX0 := hide (HX.out.below HB0.out); have HU0 := hide (HU.out.below HB0.out)
  have hz1 : w.heap.size < (w.alloc (.cells #[.slice fa x.fr.length fc, .slice oa x.od.length oc] 27)).heap.size := by simp
  clear HP HX HU
  generalize outL p (evAll p) x (valsL p x.fr) = R at *
  generalize hvl : valsL p x.fr = vals at *
  generalize hes : evAll p = es at *
  clear hvl hes
  generalize hfn' : x.fr.length = fn at *
  generalize hon' : x.od.length = on at *
  generalize hpn' : p.length = pn at *
  generalize hen' : es.length = en at *
  generalize hvn' : vals.length = vn at *
  have HFN := hide hfn'; have HON := hide hon'; have HPN := hide hpn'; have HEN := hide hen'; have HVN := hide hvn'
  clear hfn' hon' hpn' hen' hvn'
  go_enter Try.func28, Try.ntmps28
  go_wp2_with fail
  have hsz : (w.alloc (.cells #[.slice fa fn fc, .slice oa on oc] 27)).heap.size = w.heap.size + 1 := by simp
  generalize hw1 : w.alloc (.cells #[.slice fa fn fc, .slice oa on oc] 27) = w1 at *
  clear hw1
  have ha := (Below.refl w1.heap.size w1).alloc (Nat.le_refl _) (.cells #[] 3)
  have HA := hide ha
  have OA := hide (Own.empty (E := IntE) 3 w1 (Nat.le_refl _))
  (with_reducible refine (HE.out _ (HP0.out.below ha)).mono ?_); rintro e w2 ⟨ve, rfl, oe, hb2⟩
  have OE2 := hide (oe.mono ha.size)
  have OA2 : Hid (OwnN w2 w1.heap.size (.slice (some ⟨w.heap.size + 1, 0, none⟩) 0 0) []) := hide (by have h := OA.out.below hb2; rw [hsz] at h ⊢; exact h)
  have HB2 := hide (ha.trans (hb2.mono ha.size))
  obtain ⟨⟨ea, en', ec⟩, rfl, heq⟩ := oe.toSlc
  clear heq
  have HSZ := hide hsz
  clear oe hb2 ha OA HA HE hsz
  go_wp2_with fail
  go_loopw [7, 9] (fun s i wr => ∃ t : Nat, t ≤ pn ∧ i = .int .i64 t ∧ OwnN wr w1.heap.size s (outTo p es x.fr vals t) ∧ Own EvE 36 wr w1.heap.size (.slice ea en' ec) es ∧ Below w1.heap.size w1 wr) (fun _ i _ => pn - (intOf i).toNat)
  case atStart => exact ⟨0, Nat.zero_le _, rfl, by rw [HT0.out]; exact OA2.out, OE2.out, HB2.out⟩
  case round =>
    obtain ⟨t, ht, rfl, hown, hoe, hbr⟩ := hrel
    by_cases hlt : t < pn
    · obtain ⟨r, hpt⟩ := get_of_lt (xs := p) (k := t) (by rw [HPN.out]; exact hlt)
      have hlt' := nat_of_lt hlt
      have TS := hide (HTS.out t r hpt)
      have HTLt := hide (HTL.out t ht)
      have HPT := hide hpt
      have HOW := hide hown; have HOE := hide hoe; have HBR := hide hbr
      generalize outTo p es x.fr vals t = G at *
      clear hpt hown hoe hbr
      go_wp2_with fail
      go_loopw [7, 10] (fun s i wr => ∃ g : Nat, g ≤ 3 ∧ i = .int .i64 g ∧ OwnN wr w1.heap.size s (G ++ outRow p es x.fr vals t r.length g) ∧ Own EvE 36 wr w1.heap.size (.slice ea en' ec) es ∧ Below w1.heap.size w1 wr) (fun _ i _ => 3 - (intOf i).toNat)
      case atStart => exact ⟨0, by omega, rfl, by rw [HR0.out, List.append_nil]; exact HOW.out, HOE.out, HBR.out⟩
      case round =>
        obtain ⟨g, hg, rfl, hown, hoe, hbr⟩ := hrel
        by_cases hg3 : g < 3
        · have hg2 : (g : Int) ≤ 2 := by omega
          have hlen : (G ++ outRow p es x.fr vals t r.length g).length ≤ 68719476736 := by rw [List.length_append, HTLt.out, HRL.out]; omega
          have RS := hide (HRS.out t r.length g)
          have RG := hide (HRG.out (t : Int) (r.length : Int) (g : Int))
          have HL := hide (HLR.out _ (t : Int) (r.length : Int) (g : Int) wr (HP0.out.below hbr) hoe.rep)
          have hcs := HLC.out (t : Int) (r.length : Int) (g : Int)
          obtain ⟨b2, o2, ra, rc, rfl, hbl2, q0, q1⟩ := (HP0.out.below hbr).row HPT.out
          have OWr := hide hown; have OEr := hide hoe; have BRr := hide hbr
          generalize outRow p es x.fr vals t r.length g = G2 at *
          clear hown hoe hbr q1
          go_wp2_with fail
          (with_reducible refine HL.out.mono ?_); rintro e w5 ⟨rfl, hb5⟩
          have OW5 := hide (OWr.out.below hb5); have OE5 := hide (OEr.out.below hb5)
          have B5 := hide (BRr.out.trans (hb5.mono BRr.out.size))
          clear hb5 q0 HL OWr OEr BRr
          rcases hcs with hlr | ⟨k, e2, hlr, hek, her⟩
          · have RV : Hid (G ++ outRow p es x.fr vals t r.length (g + 1) = (G ++ G2) ++ [0]) := hide (by rw [RS.out, List.append_assoc, RG.out, hlr]; rfl)
            rw [hlr]
            clear hlr RG
            generalize hGG : G ++ G2 = GG at *
            clear hGG
            go_wp2_with (at_builtin; refine wpList_app IntE 3 Try.infoInt rfl Try.underlying24 w1.heap.size _ GG 0 (OW5.out.alloc _) (by decide) hlen (by have := B5.out.size; simp; omega) rfl _ _ rfl rfl _ 0 1 rfl (news_allocV (by simp)) ?_; intro v' w6 hown6 hgr6; have B6 := hide (below_app B5.out OW5.out hgr6); have E6 := hide ((OE5.out.alloc (.cells #[.int .i64 0] 3)).grown hgr6 (own_or (by decide) OW5.out OE5.out)); have O6 := hide hown6; clear hown6 hgr6)
            go_roundw
            case rel => exact ⟨g + 1, by omega, by go_num, by rw [RV.out]; exact O6.out, E6.out, B6.out⟩
            case measure => simp [intOf]; omega
          · obtain ⟨j, vv, hfj, hvj, hv0, hv3⟩ := HVR.out k e2 hek her
            have RV : Hid (G ++ outRow p es x.fr vals t r.length (g + 1) = (G ++ G2) ++ [vv]) := hide (by
              rw [RS.out, List.append_assoc, RG.out, hlr]
              unfold regOf
              rw [if_neg (by omega), valAt_eq hfj hvj])
            rw [hlr]
            obtain ⟨b4, o4, rfl, hbl4, f0⟩ := HX0.out.fr.int hfj
            obtain ⟨b5, o5, rfl, hbl5, u0⟩ := HU0.out.int hvj
            have hkf : (k : Int) < (fn : Int) := by have := (List.getElem?_eq_some_iff.1 hfj).1; have := HFN.out; omega
            have hjv : (j : Int) < (vn : Int) := by have := (List.getElem?_eq_some_iff.1 hvj).1; have := HVN.out; omega
            have f0 := (B5.out.cell (p := ⟨b4, o4 + k, none⟩) hbl4).trans f0
            have u0 := (B5.out.cell (p := ⟨b5, o5 + j, none⟩) hbl5).trans u0
            have x0 := (B5.out.cell (p := ⟨w.heap.size, 0, none⟩) hz1).trans (cell_of_heapV HBX.out (k := 0) rfl)
            have l4 := Nat.lt_of_lt_of_le hbl4 B5.out.size
            have l5 := Nat.lt_of_lt_of_le hbl5 B5.out.size
            have l6 := Nat.lt_of_lt_of_le hz1 B5.out.size
            have hk0 : decide ((k : Int) < 0) = false := by simp
            clear hlr RG hfj hvj hek her
            generalize hGG : G ++ G2 = GG at *
            clear hGG
            go_wp2_with (at_builtin; refine wpList_app IntE 3 Try.infoInt rfl Try.underlying24 w1.heap.size _ GG vv (OW5.out.alloc _) (by decide) hlen (by have := B5.out.size; simp; omega) rfl _ _ rfl rfl _ 0 1 rfl (news_allocV (by simp)) ?_; intro v' w6 hown6 hgr6; have B6 := hide (below_app B5.out OW5.out hgr6); have E6 := hide ((OE5.out.alloc (.cells #[.int .i64 vv] 3)).grown hgr6 (own_or (by decide) OW5.out OE5.out)); have O6 := hide hown6; clear hown6 hgr6)
            go_roundw
            case rel => exact ⟨g + 1, by omega, by go_num, by rw [RV.out]; exact O6.out, E6.out, B6.out⟩
            case measure => simp [intOf]; omega
        · obtain rfl : g = 3 := by omega
          rw [← TS.out] at hown
          go_wp2_with fail
          go_roundw
          case rel => exact ⟨t + 1, by omega, by go_num, hown, hoe, hbr⟩
          case measure => simp [intOf]; omega
    · obtain rfl : t = pn := by omega
      have HTLt := hide (HTL.out t (Nat.le_refl _))
      have HOW := hide hown; have HBR := hide hbr
      generalize outTo p es x.fr vals t = G at *
      clear hown hoe hbr
      go_wp2_with fail
      go_loopw [7, 12] (fun s i wr => ∃ l : Nat, l ≤ 3 ∧ i = .int .i64 l ∧ OwnN wr w1.heap.size s (G ++ outMem x.od vals l) ∧ Below w1.heap.size w1 wr) (fun _ i _ => 3 - (intOf i).toNat)
      case atStart => exact ⟨0, by omega, rfl, by rw [HM0.out, List.append_nil]; exact HOW.out, HBR.out⟩
      case round =>
        obtain ⟨l, hl3, rfl, hown, hbr⟩ := hrel
        by_cases hlt3 : l < 3
        · obtain ⟨o, j, vv, hod, ho0, hoj, hvj, hv0, hv3⟩ := HVD.out l hlt3
          have holn := HOLN.out l o hlt3 hod
          obtain ⟨b2, o2, ra, rc, rfl, hbl2, q0, q1⟩ := HX0.out.od.row hod
          obtain ⟨b4, o4, rfl, hbl4, f0⟩ := q1.int hoj
          obtain ⟨b5, o5, rfl, hbl5, u0⟩ := HU0.out.int hvj
          have hlon : (l : Int) < (on : Int) := by have := HON.out; have := HOLE.out; omega
          have hl2 : (l : Int) ≤ 2 := by omega
          have hjv : (j : Int) < (vn : Int) := by have := (List.getElem?_eq_some_iff.1 hvj).1; have := HVN.out; omega
          have q0 := (hbr.cell (p := ⟨b2, o2 + l, none⟩) hbl2).trans q0
          have f0 := (hbr.cell (p := ⟨b4, o4 + (o.length - 1), none⟩) hbl4).trans f0
          have u0 := (hbr.cell (p := ⟨b5, o5 + j, none⟩) hbl5).trans u0
          have x1 := (hbr.cell (p := ⟨w.heap.size, 1, none⟩) hz1).trans (cell_of_heapV HBX.out (k := 1) rfl)
          have l2 := Nat.lt_of_lt_of_le hbl2 hbr.size
          have l4 := Nat.lt_of_lt_of_le hbl4 hbr.size
          have l5 := Nat.lt_of_lt_of_le hbl5 hbr.size
          have l6 := Nat.lt_of_lt_of_le hz1 hbr.size
          obtain ⟨q, hq⟩ : ∃ q, o.length = q + 1 := ⟨o.length - 1, by omega⟩
          rw [hq] at f0 q0 holn
          simp only [Nat.add_sub_cancel] at f0
          have hwq : wrap64 (q : Int) = q := by unfold wrap64; omega
          have hqq : ((q + 1 : Nat) : Int) - 1 = (q : Int) := by omega
          have hq1 : (q : Int) < ((q + 1 : Nat) : Int) := by omega
          have hlen : (G ++ outMem x.od vals l).length ≤ 68719476736 := by rw [List.length_append, HTLt.out, HML.out]; omega
          have RV : Hid (G ++ outMem x.od vals (l + 1) = (G ++ outMem x.od vals l) ++ [vv]) := hide (by rw [HMS.out, memV_eq hod hoj hvj, List.append_assoc])
          have OWr := hide hown; have BRr := hide hbr
          clear hod hoj hvj hown hbr q1 ho0 hq
          generalize G ++ outMem x.od vals l = GG at *
          go_wp2_with (at_builtin; refine wpList_app IntE 3 Try.infoInt rfl Try.underlying24 w1.heap.size _ GG vv (OWr.out.alloc _) (by decide) hlen (by have := BRr.out.size; simp; omega) rfl _ _ rfl rfl _ 0 1 rfl (news_allocV (by simp)) ?_; intro v' w6 hown6 hgr6; have B6 := hide (below_app BRr.out OWr.out hgr6); have O6 := hide hown6; clear hown6 hgr6)
          go_roundw
          case rel => exact ⟨l + 1, by omega, by go_num, by rw [RV.out]; exact O6.out, B6.out⟩
          case measure => simp [intOf]; omega
        · obtain rfl : l = 3 := by omega
          go_wp2_with fail
          go_ret
          exact ⟨_, rfl, by rw [HOUT.out]; exact hown.mono HB0.out.size, HB0.out.trans (hbr.mono HB0.out.size)⟩

end Go.Proofs.Ytblheabgjjeigaa

namespace Go.Proofs.Ytblheabgjjeigaa
open Go.RowKit

set_option maxRecDepth 100000 in
set_option maxHeartbeats 3200000 in
theorem OutcomeOf_any (v vf vo : Value) (p : List (List Ins)) (x : Xc) (w : World) (hp : RepP w v p) (hx : RepX w vf vo x) (hl : p.flatten.length ≤ 1048576) (hol : ∀ o ∈ x.od, o.length ≤ 1048576) :
    Calls Try.prog 12 #[v, .agg #[vf, vo]] w (RetNB w (outF p x)) := by
  have HB0 := hide ((Below.refl w.heap.size w).alloc (Nat.le_refl _) (.cells #[vf, vo] 27))
  have HP := hide (hp.below HB0.out); have HX := hide (hx.below HB0.out)
  have HV := hide (ExecValid_any v vf vo p x _ HP.out HX.out hl hol)
  have HO := hide (fun w' h h' hk => outcomeOf_any v vf vo p x w' h h' hl hk)
  have HR : Hid (outF p x = if execOk p x = true ∧ valsOk p x.fr = true then (outL p (evAll p) x (valsL p x.fr), true) else ([], false)) := hide rfl
  have HBX := hide (heap_alloc_new w (.cells #[vf, vo] 27))
  obtain ⟨fa, fc, rfl, -, -, -, -⟩ := hx.fr.open
  obtain ⟨oa, oc, rfl, -, -, -, -⟩ := hx.od.open
  clear hp hx
  generalize outF p x = R at *
  generalize hb : execOk p x = b at *
  generalize x.fr.length = fn at *
  generalize x.od.length = on at *
  clear hb
  have e0 := cell_of_heapV HBX.out (k := 0) rfl
  have e1 := cell_of_heapV HBX.out (k := 1) rfl
  have el := lt_of_cell e0
  go_enter Try.func12, Try.ntmps12
  go_wp2_with fail
  generalize hw1 : w.alloc (.cells #[.slice fa fn fc, .slice oa on oc] 27) = w1 at *
  clear hw1
  cases b
  · obtain rfl : R = ([], false) := by rw [HR.out, if_neg (by simp)]
    (with_reducible refine HV.out.mono ?_); rintro e w2 ⟨rfl, hb2⟩
    clear e0 e1 el
    go_wp2_with fail
    go_ret2
    exact RetNB.no (HB0.out.trans (hb2.mono HB0.out.size))
  · (with_reducible refine HV.out.mono ?_); rintro e w2 ⟨rfl, hb2⟩
    have e0 := (hb2.cell (p := ⟨w.heap.size, 0, none⟩) el).trans e0
    have e1 := (hb2.cell (p := ⟨w.heap.size, 1, none⟩) el).trans e1
    have el2 := Nat.lt_of_lt_of_le el hb2.size
    have HO2 := hide (HO.out w2 (HP.out.below hb2) (HX.out.below hb2) rfl)
    have HB2 := hide (HB0.out.trans (hb2.mono HB0.out.size))
    have HR2 : Hid (R = if valsOk p x.fr = true then (outL p (evAll p) x (valsL p x.fr), true) else ([], false)) := hide (by
      rw [HR.out]
      by_cases h : valsOk p x.fr = true
      · rw [if_pos h, if_pos ⟨rfl, h⟩]
      · rw [if_neg h, if_neg (fun h2 => h h2.2)])
    rw [← HR2.out] at HO2
    clear hb2 HV
    go_wp2_with fail
    (with_reducible refine HO2.out.mono ?_); rintro e w3 ⟨u, rfl, ou, hb3⟩
    have HU := hide ou; have HB3 := hide hb3
    clear ou hb3 e0 e1
    go_wp2_with fail
    go_ret2
    exact ⟨u, rfl, HU.out.mono HB2.out.size, HB2.out.trans (HB3.out.mono HB2.out.size)⟩

set_option maxRecDepth 100000 in
set_option maxHeartbeats 3200000 in
theorem sOutcomeOf_any (v vf vo : Value) (p : List (List Ins)) (x : Xc) (w : World) (hp : RepP w v p) (hx : RepX w vf vo x) (hl : p.flatten.length ≤ 1048576) (hpl : p.length ≤ 1048576) :
    Calls Try.prog 13 #[v, .agg #[vf, vo]] w (RetNB w (outF p x)) := by
  have HB0 := hide ((Below.refl w.heap.size w).alloc (Nat.le_refl _) (.cells #[vf, vo] 27))
  have HP := hide (hp.below HB0.out); have HX := hide (hx.below HB0.out)
  have HV := hide (sValuesOf_any v vf vo p x _ HP.out HX.out hl hpl)
  have HO := hide (fun vv w' h h' h2 hk hv => l6Outcome_any v vf vo vv p x w' h h' h2 hl hk hv)
  have HR : Hid (outF p x = if execOk p x = true ∧ valsOk p x.fr = true then (outL p (evAll p) x (valsL p x.fr), true) else ([], false)) := hide rfl
  have HVF : Hid (valF p x = if execOk p x = true ∧ valsOk p x.fr = true then (valsL p x.fr, true) else ([], false)) := hide rfl
  have HBX := hide (heap_alloc_new w (.cells #[vf, vo] 27))
  obtain ⟨fa, fc, rfl, -, -, -, -⟩ := hx.fr.open
  obtain ⟨oa, oc, rfl, -, -, -, -⟩ := hx.od.open
  clear hp hx
  have HC : Hid ((execOk p x = true ∧ valsOk p x.fr = true ∧ outF p x = (outL p (evAll p) x (valsL p x.fr), true) ∧ valF p x = (valsL p x.fr, true)) ∨ (outF p x = ([], false) ∧ valF p x = ([], false))) := hide (by
    rw [HR.out, HVF.out]
    by_cases h : execOk p x = true ∧ valsOk p x.fr = true
    · rw [if_pos h, if_pos h]; exact .inl ⟨h.1, h.2, rfl, rfl⟩
    · rw [if_neg h, if_neg h]; exact .inr ⟨rfl, rfl⟩)
  generalize outF p x = R at *
  generalize valF p x = V at *
  generalize hOL : outL p (evAll p) x (valsL p x.fr) = OL at *
  generalize hVL : valsL p x.fr = VL at *
  clear HR HVF hOL hVL
  generalize x.fr.length = fn at *
  generalize x.od.length = on at *
  have e0 := cell_of_heapV HBX.out (k := 0) rfl
  have e1 := cell_of_heapV HBX.out (k := 1) rfl
  have el := lt_of_cell e0
  go_enter Try.func13, Try.ntmps13
  go_wp2_with fail
  generalize hw1 : w.alloc (.cells #[.slice fa fn fc, .slice oa on oc] 27) = w1 at *
  clear hw1
  (with_reducible refine HV.out.mono ?_); rintro e w2 ⟨u, rfl, ou, hb2⟩
  have e0 := (hb2.cell (p := ⟨w.heap.size, 0, none⟩) el).trans e0
  have e1 := (hb2.cell (p := ⟨w.heap.size, 1, none⟩) el).trans e1
  have el2 := Nat.lt_of_lt_of_le el hb2.size
  have HB2 := hide (HB0.out.trans (hb2.mono HB0.out.size))
  rcases HC.out with ⟨hok, hvo, rfl, rfl⟩ | ⟨rfl, rfl⟩
  · have HO2 := hide (HO.out u.v w2 (HP.out.below hb2) (HX.out.below hb2) ou.rep hok hvo)
    clear hb2 HV HC hok hvo HO ou
    go_wp2_with fail
    (with_reducible refine HO2.out.mono ?_); rintro e w3 ⟨u3, rfl, ou3, hb3⟩
    obtain ⟨⟨qa, qn, qc⟩, rfl, -⟩ := ou3.toSlc
    have HU := hide ou3; have HB3 := hide hb3
    clear ou3 hb3 e0 e1
    go_wp2_with fail
    go_ret2
    exact ⟨⟨qa, qn, qc⟩, rfl, HU.out.mono HB2.out.size, HB2.out.trans (HB3.out.mono HB2.out.size)⟩
  · clear hb2 HV HC HO ou e0 e1
    have HBE := hide HB2.out
    go_wp2_with fail
    go_ret2
    exact ⟨⟨some ⟨w2.heap.size, 0, none⟩, 0, 0⟩, rfl, Own.empty (E := IntE) _ w2 HBE.out.size, HBE.out.alloc HBE.out.size _⟩

end Go.Proofs.Ytblheabgjjeigaa

namespace Go.Proofs.Ytblheabgjjeigaa
open Go.RowKit

/-- What the function value does, wherever it is called. -/
def TestsN_i_OutcomeValid_1 (f : Int → Bool) : Prop := ∀ (x : Int) (w : World), Calls Try.prog 30 #[.int .i64 x] w fun e w' => e = .returned (.bool (f x)) ∧ Below w.heap.size w w'

set_option maxHeartbeats 400000 in
theorem IndexFuncN_i_OutcomeValid_1 (v : Value) (xs : List Int) (f : Int → Bool) (w : World) (hx : Rep IntE w v xs) (hf : TestsN_i_OutcomeValid_1 f) :
    Calls Try.prog 62 #[v, .func (.func 30) #[] #[]] w fun e w' => (∃ q : Int, e = .returned (.int .i64 q) ∧ IdxOf f xs q) ∧ Below w.heap.size w w' := by
  obtain ⟨a, c, rfl, hc1, hc2, hc3, hx⟩ := hx.open
  have HX := hide hx; clear hx
  have HF := hide hf; clear hf
  generalize hn : xs.length = n at *
  have H := hide hn; clear hn
  go_enter Try.func62, Try.ntmps62
  go_wp2_with fail
  go_loopw [8] (fun i wr => ∃ t : Nat, t ≤ n ∧ i = .int .i64 t ∧ Hid (∀ x ∈ xs.take t, f x = false) ∧ Below w.heap.size w wr) (fun i _ => n - (intOf i).toNat)
  case atStart => exact ⟨0, Nat.zero_le _, rfl, hide (by simp), Below.refl _ _⟩
  case round =>
    obtain ⟨t, ht, rfl, hno, hb⟩ := hrel
    by_cases hlt : t < n
    · obtain ⟨x, hxk⟩ := get_of_lt (xs := xs) (k := t) (by rw [H.out]; exact hlt)
      obtain ⟨b, o, rfl, hbl, i0⟩ := (HX.out.below hb).int hxk
      have hlt' := nat_of_lt hlt
      have X := hide hxk; clear hxk
      generalize hfx : f x = fx
      have FX := hide hfx; clear hfx
      have hcall := HF.out x
      rw [FX.out] at hcall
      have HC := hide hcall; clear hcall
      cases fx
      · have NO : Hid (∀ x ∈ xs.take (t + 1), f x = false) := hide (none_succ hno.out X.out FX.out)
        go_wp2_with fail
        (with_reducible refine (HC.out _).mono ?_); rintro e w2 ⟨rfl, hb2⟩
        go_wp2_with fail
        go_roundw
        case rel => exact ⟨t + 1, by omega, by go_num, NO, hb.trans (hb2.mono hb.size)⟩
        case measure => simp [intOf]; omega
      · go_wp2_with fail
        (with_reducible refine (HC.out _).mono ?_); rintro e w2 ⟨rfl, hb2⟩
        go_wp2_with fail
        go_ret
        exact ⟨⟨_, rfl, .inr ⟨t, x, rfl, X.out, FX.out, hno.out⟩⟩, hb.trans (hb2.mono hb.size)⟩
    · go_wp2_with fail
      go_ret
      refine ⟨⟨_, rfl, .inl ⟨rfl, ?_⟩⟩, hb⟩
      have h := hno.out
      rwa [List.take_of_length_le (by rw [H.out]; omega)] at h

theorem ContainsFuncN_i_OutcomeValid_1 (v : Value) (xs : List Int) (f : Int → Bool) (w : World) (hx : Rep IntE w v xs) (hf : TestsN_i_OutcomeValid_1 f) :
    Calls Try.prog 29 #[v, .func (.func 30) #[] #[]] w fun e w' => e = .returned (.bool (xs.any f)) ∧ Below w.heap.size w w' := by
  have HI := hide (IndexFuncN_i_OutcomeValid_1 v xs f w hx hf)
  obtain ⟨a, c, rfl, -⟩ := hx.open
  clear hx hf
  go_enter Try.func29, Try.ntmps29
  go_wp2_with fail
  (with_reducible refine HI.out.mono ?_); rintro e w1 ⟨⟨q, rfl, hq⟩, hb1⟩
  have E : Hid (decide (0 ≤ q) = xs.any f) := hide hq.any
  clear hq
  go_wp2_with fail
  go_ret
  exact ⟨by rw [← E.out]; rfl, hb1⟩

theorem OutcomeValid_1 : TestsN_i_OutcomeValid_1 (fun x => !inB x 0 3) := by
  intro x w
  have HC := hide (fun w' => within_any x 0 3 w')
  show Calls _ _ _ _ fun e w' => e = .returned (.bool (!inB x 0 3)) ∧ _
  generalize inB x 0 3 = R at *
  go_enter Try.func30, Try.ntmps30
  go_wp2_with (go_at_call 31; (with_reducible refine (HC.out _).mono ?_); rintro e w1 ⟨rfl, rfl⟩)
  go_ret
  exact ⟨rfl, Below.refl _ _⟩

def outValid (p : List (List Ins)) (o : List Int) : Bool := progValid p && (decide (o.length = 3 * p.length + 3) && o.all fun x => inB x 0 3)

set_option maxHeartbeats 800000 in
theorem OutcomeValid_any (v v' : Value) (p : List (List Ins)) (o : List Int) (w : World) (hp : RepP w v p) (ho : Rep IntE w v' o) (hl : p.flatten.length ≤ 1048576) (hpl : p.length ≤ 1048576) :
    Calls Try.prog 14 #[v, v'] w fun e w' => e = .returned (.bool (outValid p o)) ∧ Below w.heap.size w w' := by
  have HP := hide hp; have HO := hide ho
  have HV := hide (ProgramValid_any v p w hp hl)
  have HC := hide (fun w' h => ContainsFuncN_i_OutcomeValid_1 v' o _ w' h OutcomeValid_1)
  obtain ⟨a, c, rfl, hc1, hc2, hc3, -⟩ := hp.open
  obtain ⟨a', c', rfl, hc1', hc2', hc3', -⟩ := ho.open
  have E : Hid (outValid p o = (progValid p && (decide (o.length = 3 * p.length + 3) && o.all fun x => inB x 0 3))) := hide rfl
  have EA : Hid ((o.any fun x => !inB x 0 3) = !(o.all fun x => inB x 0 3)) := hide (by rw [List.not_all_eq_any_not])
  clear hp ho
  generalize outValid p o = R at *
  generalize progValid p = b at *
  generalize (o.any fun x => !inB x 0 3) = A at *
  generalize (o.all fun x => inB x 0 3) = D at *
  generalize p.length = n at *
  generalize o.length = m at *
  cases b
  · obtain rfl : R = false := by rw [E.out]; rfl
    go_enter Try.func14, Try.ntmps14
    go_wp2_with fail
    (with_reducible refine HV.out.mono ?_); rintro e w1 ⟨rfl, hb1⟩
    go_wp2_with fail
    go_ret
    exact ⟨rfl, hb1⟩
  · by_cases hm : m = 3 * n + 3
    · have E2 : Hid (R = !A) := hide (by rw [E.out, EA.out, hm]; simp)
      have hm' : ((m : Int) == 3 * (n : Int) + 2 + 1) = true := by simp; omega
      clear hm
      go_enter Try.func14, Try.ntmps14
      go_wp2_with fail
      (with_reducible refine HV.out.mono ?_); rintro e w1 ⟨rfl, hb1⟩
      go_wp2_with fail
      (with_reducible refine (HC.out _ (HO.out.below hb1)).mono ?_); rintro e w2 ⟨rfl, hb2⟩
      go_wp2_with fail
      go_ret
      exact ⟨by rw [E2.out]; rfl, hb1.trans (hb2.mono hb1.size)⟩
    · obtain rfl : R = false := by rw [E.out]; simp [hm]
      have hm' : ((m : Int) == 3 * (n : Int) + 2 + 1) = false := by simp; omega
      clear hm
      go_enter Try.func14, Try.ntmps14
      go_wp2_with fail
      (with_reducible refine HV.out.mono ?_); rintro e w1 ⟨rfl, hb1⟩
      go_wp2_with fail
      go_ret
      exact ⟨rfl, hb1⟩

end Go.Proofs.Ytblheabgjjeigaa

namespace Go.Proofs.Ytblheabgjjeigaa

theorem outL_bound {p : List (List Ins)} {x : Xc} (hok : execOk p x = true) (hv : valsOk p x.fr = true) : ∀ y ∈ outL p (evAll p) x (valsL p x.fr), 0 ≤ y ∧ y ≤ 3 := by
  intro y hy
  unfold outL at hy
  rcases List.mem_append.1 hy with hy | hy
  · unfold outTo at hy
    rw [List.mem_flatMap] at hy
    obtain ⟨t, -, hy⟩ := hy
    cases hr : p[t]? with
    | none => rw [hr] at hy; simp at hy
    | some r =>
      rw [hr] at hy
      simp only [outRow, List.mem_map, List.mem_range] at hy
      obtain ⟨g, -, rfl⟩ := hy
      unfold regV regOf
      split
      · omega
      · rename_i hlt
        rcases lastRd_cases p (evAll p) (t : Int) (r.length : Int) (g : Int) with h | ⟨k, e, h1, h2, h3⟩
        · rw [h] at hlt; omega
        · obtain ⟨j, v, h4, h5, h6⟩ := val_read hok hv h2 h3
          rw [h1, valAt_eq h4 h5]; exact h6
  · simp only [outMem, List.mem_map, List.mem_range] at hy
    obtain ⟨l, hl, rfl⟩ := hy
    obtain ⟨o, j, v, h1, -, h3, h4, h5⟩ := val_order hok hv hl
    rw [memV_eq h1 h3 h4]; exact h5

theorem outL_mem {p : List (List Ins)} {x : Xc} (hok : execOk p x = true) (hv : valsOk p x.fr = true) {l : Nat} (hl : l < 3) :
    ∃ (o : List Int) (j : Nat) (v : Int), x.od[l]? = some o ∧ 0 < o.length ∧ o.length ≤ (evAll p).length ∧ o[o.length - 1]? = some (j : Int) ∧ (valsL p x.fr)[j]? = some v ∧ (outL p (evAll p) x (valsL p x.fr))[3 * p.length + l]? = some v := by
  obtain ⟨o, j, v, h1, h2, h3, h4, h5⟩ := val_order hok hv hl
  have hole : o.length ≤ (evAll p).length := by
    unfold execOk at hok
    simp only [Bool.and_eq_true] at hok
    obtain ⟨o', h6, h7⟩ := ordersOk_get hok.2.2.2.2 hl
    obtain rfl : o' = o := by rw [h6] at h1; simpa using h1
    unfold orderOk at h7
    simp only [Bool.and_eq_true, decide_eq_true_eq] at h7
    rw [h7.1.length_eq]
    exact wrL_length _ _
  refine ⟨o, j, v, h1, h2, hole, h3, h4, ?_⟩
  unfold outL
  have hlen := outTo_length p (evAll p) x.fr (valsL p x.fr) p.length (Nat.le_refl _)
  rw [List.getElem?_append_right (by omega), hlen, show 3 * p.length + l - 3 * p.length = l by omega]
  simp only [outMem, List.getElem?_map, List.getElem?_range hl, Option.map_some]
  rw [memV_eq h1 h3 h4]

theorem outL_valid {p : List (List Ins)} {x : Xc} (hok : execOk p x = true) (hv : valsOk p x.fr = true) : outValid p (outL p (evAll p) x (valsL p x.fr)) = true := by
  have hp : progValid p = true := by
    unfold execOk at hok
    simp only [Bool.and_eq_true] at hok
    exact hok.1
  unfold outValid
  simp only [hp, Bool.true_and, Bool.and_eq_true, decide_eq_true_eq, List.all_eq_true]
  refine ⟨outL_length _ _ _ _, fun y hy => ?_⟩
  have := outL_bound hok hv y hy
  unfold inB
  simp [this.1, this.2]

end Go.Proofs.Ytblheabgjjeigaa

namespace Go.Proofs.Ytblheabgjjeigaa
open Go.RowKit

theorem w64e {x : Int} {n : Nat} (h : x = (n : Int)) (h2 : n ≤ 1000000) : IntKind.i64.wrap x = (n : Int) := by subst h; rw [IntKind.wrap_i64]; omega

set_option maxRecDepth 100000 in
set_option maxHeartbeats 6400000 in
theorem lawFnOutcomeOf (v : Value) (xs : List Int) (w : World) (h : Rep ByteE w v xs ∧ ∀ x ∈ xs, 0 ≤ x ∧ x ≤ 255) :
    Calls Try.prog 4 #[v] w fun e w' => e = .returned (.bool true) ∧ Below w.heap.size w w' := by
  obtain ⟨hx, hb⟩ := h
  obtain ⟨a0, c0, rfl, -, hm, -, hx⟩ := hx.open
  have HD := hide (DrawOutcomeOf_any (.slice a0 xs.length c0) xs w hx hb)
  clear hx hb
  generalize xs.length = n at *
  by_cases hl : (n : Int) > 1048576
  · go_enter Try.func4, Try.ntmps4
    go_wp2_with fail
    go_ret
    exact ⟨rfl, Below.refl _ _⟩
  · have hl' : decide ((n : Int) > 1048576) = false := decide_eq_false hl
    go_enter Try.func4, Try.ntmps4
    go_wp2_with fail
    (with_reducible refine HD.out.mono ?_); rintro e w1 ⟨v1, ⟨f1, f2, f3⟩, ⟨o1, o2, o3⟩, x, lo, rfl, -, hQ, hLX, hxf, hxo, hxr, hb1⟩
    obtain ⟨P, hP, hPl, hPr⟩ := hQ.open
    have hfl := flatten_bound9 hPl hPr
    obtain ⟨pa, pc, rfl, hpc1, hpc2, hpc3, hP⟩ := hP.open
    have HP := hide hP; have HB1 := hide hb1; have HX := hide hLX.now
    have HI := hide (fun w' h h2 => OutcomeOf_any (.slice pa P.length pc) (.slice f1 f2 f3) (.slice o1 o2 o3) P x w' h h2 (by omega) (fun o ho => by have := hxr o ho; omega))
    have HS := hide (fun w' h h2 => sOutcomeOf_any (.slice pa P.length pc) (.slice f1 f2 f3) (.slice o1 o2 o3) P x w' h h2 (by omega) (by omega))
    have HVV := hide (fun w' h h2 => ValuesOf_any (.slice pa P.length pc) (.slice f1 f2 f3) (.slice o1 o2 o3) P x w' h h2 (by omega) (fun o ho => by have := hxr o ho; omega))
    have HOV := hide (fun v o w' h h2 => OutcomeValid_any (.slice pa P.length pc) v P o w' h h2 (by omega) (by omega))
    have HG : Hid (outF P x = if execOk P x = true ∧ valsOk P x.fr = true then (outL P (evAll P) x (valsL P x.fr), true) else ([], false)) := hide rfl
    have HGV : Hid (valF P x = if execOk P x = true ∧ valsOk P x.fr = true then (valsL P x.fr, true) else ([], false)) := hide rfl
    have HMM := hide (fun h1 h2 l hl => outL_mem (p := P) (x := x) h1 h2 (l := l) hl)
    have HVA := hide (fun h1 h2 => outL_valid (p := P) (x := x) h1 h2)
    have HOL := hide (outL_length P (evAll P) x (valsL P x.fr))
    have HEL := hide (fun h => evAll_le (p := P) h)
    have HEX := hide (fun (h : execOk P x = true) => (show progValid P = true ∧ x.od.length = 3 by unfold execOk at h; simp only [Bool.and_eq_true, decide_eq_true_eq] at h; exact ⟨h.1, h.2.2.1⟩))
    have hpl3 : P.length ≤ 5 := hPl
    clear hP hb1 HD hPr hfl hPl hQ hLX hxf hxo hxr
    generalize hpn : P.length = pn at *
    clear hpn
    generalize outF P x = R at *
    generalize valF P x = RV at *
    generalize valsOk P x.fr = vo at *
    generalize execOk P x = eo at *
    generalize progValid P = pv at *
    generalize outL P (evAll P) x (valsL P x.fr) = OL at *
    generalize valsL P x.fr = VL at *
    generalize (evAll P).length = el at *
    have HB2 := hide (belowAlloc w1 (.cells #[.slice f1 f2 f3, .slice o1 o2 o3] 27))
    have HBX := hide (heap_alloc_new w1 (.cells #[.slice f1 f2 f3, .slice o1 o2 o3] 27))
    go_wp2_with fail
    (with_reducible refine (HI.out _ (HP.out.below HB2.out) (HX.out.below HB2.out)).mono ?_); rintro e w3 ⟨⟨ua, un, uc⟩, rfl, ho3, hb3⟩
    have hbk3 := (hb3.block w1.heap.size (by simp)).trans HBX.out
    have c0' := cell_of_heapV hbk3 (k := 0) rfl
    have c1' := cell_of_heapV hbk3 (k := 1) rfl
    have cl := lt_of_cell c0'
    have HBX3 := hide hbk3
    have HB3 := hide (HB2.out.trans (hb3.mono HB2.out.size))
    have O3 : Hid (Rep IntE w3 (.slice ua un uc) R.1) := hide ho3.rep
    have HU2 : Hid (un = R.1.length) := hide (Own.len ho3)
    clear ho3 hb3 hbk3 HI
    have HW := hide (fun v v' l w' hx hy => wmInts_any v v' l w' hx hy)
    by_cases hok : eo = true ∧ vo = true
    · obtain rfl : R = (OL, true) := by rw [HG.out, if_pos hok]
      obtain rfl : RV = (VL, true) := by rw [HGV.out, if_pos hok]
      have HOK := hide hok
      clear hok
      go_wp2_with fail
      (with_reducible refine (HS.out _ (HP.out.below HB3.out) (HX.out.below HB3.out)).mono ?_); rintro e w4 ⟨⟨z1, z2, z3⟩, rfl, ho4, hb4⟩
      have hbk4 := (hb4.block w1.heap.size cl).trans HBX3.out
      have c0'' := cell_of_heapV hbk4 (k := 0) rfl
      have c1'' := cell_of_heapV hbk4 (k := 1) rfl
      have cl4 := lt_of_cell c0''
      have HBX4 := hide hbk4
      have HB4 := hide (HB3.out.trans (hb4.mono HB3.out.size))
      have O4 := hide (O3.out.below hb4)
      have R4 : Hid (Rep IntE w4 (.slice z1 z2 z3) OL) := hide ho4.rep
      clear ho4 hb4 hbk4 HS c0' c1' cl O3 HBX3
      go_wp2_with fail
      (with_reducible refine (HVV.out _ (HP.out.below HB4.out) (HX.out.below HB4.out)).mono ?_); rintro e w5 ⟨⟨y1, y2, y3⟩, rfl, ho5, hb5⟩
      have hbk5 := (hb5.block w1.heap.size cl4).trans HBX4.out
      have HBX5 := hide hbk5
      have HB5 := hide (HB4.out.trans (hb5.mono HB4.out.size))
      have O5 := hide (O4.out.below hb5); have R5 := hide (R4.out.below hb5)
      have V5 : Hid (Rep IntE w5 (.slice y1 y2 y3) VL) := hide ho5.rep
      have HY2 : Hid (y2 = VL.length) := hide (Own.len ho5)
      clear ho5 hb5 hbk5 HVV c0'' c1'' cl4 O4 R4 HBX4
      go_wp2_with fail
      (with_reducible refine (HW.out _ _ _ _ O5.out R5.out).mono ?_); rintro e w6 ⟨rfl, hb6⟩
      have hbk6 := (hb6.block w1.heap.size (Array.getElem?_eq_some_iff.1 HBX5.out).1).trans HBX5.out
      have HBX6 := hide hbk6
      have HB6 := hide (HB5.out.trans (hb6.mono HB5.out.size))
      have O6 := hide (O5.out.below hb6); have V6 := hide (V5.out.below hb6)
      clear hb6 O5 R5 V5 hbk6 HBX5
      have hun : un = 3 * pn + 3 := HU2.out.trans HOL.out
      clear HU2
      subst hun
      have HMK := hide (fun l hl => HMM.out HOK.out.1 HOK.out.2 l hl)
      have hva := HVA.out HOK.out.1 HOK.out.2
      have HOVK := HOV.out (.slice ua (3 * pn + 3) uc) OL
      rw [hva] at HOVK
      have HOVK := hide HOVK
      have hel := HEL.out (HEX.out HOK.out.1).1
      have hod3 := (HEX.out HOK.out.1).2
      have HXX := HX
      obtain ⟨oa', oc', ho', hoc1, -, -, -⟩ := HX.out.od.open
      simp only [Value.slice.injEq] at ho'
      obtain ⟨-, ho2, -⟩ := ho'
      obtain rfl : o2 = 3 := by omega
      clear hva HVA HMM HOV HEX HEL hod3 ho2 hoc1
      generalize hm : 3 * pn = M at *
      go_wp2_with fail
      go_loopw [11, 12] (fun i l wr => ∃ k : Nat, k ≤ 3 ∧ i = .int .i64 k ∧ Below w6.heap.size w6 wr) (fun i _ _ => 3 - (intOf i).toNat)
      case atStart => exact ⟨0, Nat.zero_le _, rfl, Below.refl _ _⟩
      case round =>
        obtain ⟨k, hk, rfl, hb⟩ := hrel
        by_cases hlt : k < 3
        · obtain ⟨o, j, vv, e1, e2, e3, e4, e5, e6⟩ := HMK.out k hlt
          have hB := HB6.out.trans (hb.mono HB6.out.size)
          obtain ⟨b2, q2, ra, rc, hoa, hbl2, q0, q1⟩ := (HX.out.od.below hB).row e1
          have hoa' : o1 = some ⟨b2, q2, none⟩ := hoa
          subst hoa'
          obtain ⟨L, hL⟩ : ∃ L, o.length = L + 1 := ⟨o.length - 1, by omega⟩
          rw [hL] at q0 q1 e4 e3
          rw [Nat.add_sub_cancel] at e4
          obtain ⟨b3, q3, rfl, hbl3, q4⟩ := q1.int e4
          obtain ⟨b4, q5, rfl, hbl4, q6⟩ := (V6.out.below hb).int e5
          obtain ⟨b5, q7, rfl, hbl5, q8⟩ := (O6.out.below hb).int e6
          have hjl : j < y2 := by have := (List.getElem?_eq_some_iff.1 e5).1; have := HY2.out; omega
          have hBX := (hb.block w1.heap.size (Array.getElem?_eq_some_iff.1 HBX6.out).1).trans HBX6.out
          have d1 : wr.cell? ⟨w1.heap.size, 1, none⟩ = some (.slice (some ⟨b2, q2, none⟩) 3 o3) := cell_of_heapV hBX (k := 1) rfl
          have dl := lt_of_cell d1
          have hk2 : (k : Int) ≤ 2 := by omega
          have hltk := nat_of_lt hlt
          have hM : M ≤ 15 := by omega
          have HBB := hide hb
          clear e1 e2 e4 e5 e6 q1 hb hBX hB HMK HOVK HXX HX HB2 HBX HBX6 V6 O6
          have hi1 : IntKind.i64.wrap (((M + 3 : Nat) : Int) - 1) = ((M + 2 : Nat) : Int) := w64e (by omega) (by omega)
          have hi2 : IntKind.i64.wrap (((M + 2 : Nat) : Int) - 2) = ((M : Nat) : Int) := w64e (by omega) (by omega)
          have hi3 : IntKind.i64.wrap ((M : Int) + (k : Int)) = ((M + k : Nat) : Int) := w64e (by omega) (by omega)
          have hi4 : IntKind.i64.wrap (((L + 1 : Nat) : Int) - 1) = (L : Int) := w64e (by omega) (by omega)
          go_wp2_with fail
          refine wp_region_bw (by kernel_rfl) (by kernel_rfl) ?_
          repeat (go_big_quiet_step (fail))
          go_wp2_with fail
          refine wpQuiet_nil ?_
          intro w7 hb7
          go_wp2_with fail
          go_roundw
          case rel => exact ⟨k + 1, by omega, by go_num, HBB.out.trans (hb7.mono HBB.out.size)⟩
          case measure => simp [intOf]; omega
        · obtain rfl : k = 3 := by omega
          have hB := HB6.out.trans (hb.mono HB6.out.size)
          have HF := hide (HOVK.out wr (HP.out.below hB) (O6.out.below hb))
          have HB7 := hide hB
          clear hb hB HOVK O6 V6
          go_wp2_with fail
          (with_reducible refine HF.out.mono ?_); rintro e w8 ⟨rfl, hb8⟩
          go_wp2_with fail
          go_ret
          exact ⟨by simp, HB1.out.trans ((HB7.out.trans (hb8.mono HB7.out.size)).mono HB1.out.size)⟩
    · obtain rfl : R = ([], false) := by rw [HG.out, if_neg hok]
      obtain rfl : RV = ([], false) := by rw [HGV.out, if_neg hok]
      clear hok
      go_wp2_with fail
      (with_reducible refine (HS.out _ (HP.out.below HB3.out) (HX.out.below HB3.out)).mono ?_); rintro e w4 ⟨⟨z1, z2, z3⟩, rfl, ho4, hb4⟩
      have HB4 := hide (HB3.out.trans (hb4.mono HB3.out.size))
      have O4 := hide (O3.out.below hb4)
      have R4 : Hid (Rep IntE w4 (.slice z1 z2 z3) []) := hide ho4.rep
      have hbk4 := (hb4.block w1.heap.size cl).trans HBX3.out
      have c0'' := cell_of_heapV hbk4 (k := 0) rfl
      have c1'' := cell_of_heapV hbk4 (k := 1) rfl
      have cl4 := lt_of_cell c0''
      clear ho4 hb4 HS c0' c1' cl O3
      go_wp2_with fail
      (with_reducible refine (HVV.out _ (HP.out.below HB4.out) (HX.out.below HB4.out)).mono ?_); rintro e w5 ⟨⟨y1, y2, y3⟩, rfl, ho5, hb5⟩
      have HB5 := hide (HB4.out.trans (hb5.mono HB4.out.size))
      have O5 := hide (O4.out.below hb5); have R5 := hide (R4.out.below hb5)
      clear ho5 hb5 O4 R4
      go_wp2_with fail
      (with_reducible refine (HW.out _ _ _ _ O5.out R5.out).mono ?_); rintro e w6 ⟨rfl, hb6⟩
      have HB6 := hide (HB5.out.trans (hb6.mono HB5.out.size))
      have O6 := hide (O5.out.below hb6); have R6 := hide (R5.out.below hb6)
      clear hb6 O5 R5
      go_wp2_with fail
      (with_reducible refine (HW.out _ _ _ _ O6.out R6.out).mono ?_); rintro e w7 ⟨rfl, hb7⟩
      go_wp2_with fail
      go_ret
      exact ⟨rfl, HB1.out.trans ((HB6.out.trans (hb7.mono HB6.out.size)).mono HB1.out.size)⟩

end Go.Proofs.Ytblheabgjjeigaa

namespace Go.Proofs.Ytblheabgjjeigaa
open Go.RowKit Go.ChangeShapes Go.WideShapes Go.ChangeAt
open Go.ChangeMaps (open_string)

theorem fnOutcomeOf_reads : ∀ t ∈ Try.f4.params.toList, Try.prog.readableRec t = true ∧ t < Try.prog.types.size := by
  intro t ht
  have : t = 22 := by simpa [Try.params4] using ht
  subst this
  exact ⟨by kernel_rfl, of_decide_eq_true (by kernel_rfl)⟩

set_option maxRecDepth 100000 in
theorem fnOutcomeOf_lifted (os : Os) (started : os.Started) (H : Type) (enc : TypeId × Value → H) :
    ReturnsInHanded {} Try.checked os 4 .any (Rows.fnOutcomeOfSpec.pre6 enc Try.prog Try.f4 Rows.fnOutcomeOfRow.domain false) (Rows.fnOutcomeOfSpec.post enc Try.prog Try.f4 false true false false) := by
  refine returnsInHanded_of_change (C := Try.checked) Try.own started (by kernel_rfl) Try.func4
    (ChangeSpec.witness6 (enc := enc) (C := Try.checked) false ⟨#[], #[.slice none 0 0], []⟩ 8 (by kernel_rfl) (by kernel_rfl) (by kernel_rfl) (by kernel_rfl)) ?_
  intro W base args ds gs before hval0 hW hcnd _
  have hval : ∀ (j : Nat) t v, Try.f4.params[j]? = some t → args[j]? = some v → Value.okWide Try.prog W .any base t v := hval0
  have hW' := hW
  obtain ⟨p, q, hA0, hV, rfl, hfz, hnd⟩ := hW
  have hA : DataW.TrodAll enc Try.prog W 0 (fun _ => true) true Try.f4.params.toList args.toList ds p := hA0
  rw [Try.params4] at hA hval
  obtain ⟨v0, d0, rfl, rfl, h0⟩ := trodAll_one hA
  obtain ⟨rfl, rfl⟩ := trodVars_none hV
  obtain ⟨B0, hB0⟩ := bytes_of_trod (okWide_slice Try.underlying22 (hval 0 22 v0 rfl rfl)) h0
  refine (lawFnOutcomeOf v0 B0 W hB0).mono fun e W' ⟨he, hb⟩ => ?_
  exact ⟨_, he, post_law Try.laidOut fnOutcomeOf_reads rfl rfl (by kernel_rfl) Try.underlying4 hW' hb⟩

theorem fnOutcomeOf_holds : Rows.FnOutcomeOfSaid :=
  OpenClaim.holds_of_wide 4 Try.f4 rfl rfl rfl rfl rfl rfl rfl ⟨rfl, rfl, rfl, rfl, rfl⟩ rfl rfl rfl rfl rfl (by kernel_rfl) Try.func4 (by kernel_rfl)
    (of_decide_eq_true (by kernel_rfl)) (by unfold Func.isWrapper; first | (rw [if_pos (by decide +kernel)]; kernel_rfl) | (rw [if_neg (by decide +kernel)]; exact ⟨rfl, rfl⟩))
    (fun os started H enc _ => fnOutcomeOf_lifted os started H enc)

end Go.Proofs.Ytblheabgjjeigaa
