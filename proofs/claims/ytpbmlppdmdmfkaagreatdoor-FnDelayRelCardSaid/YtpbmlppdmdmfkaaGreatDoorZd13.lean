/-
  All lists with one element of each list of choices, in the program: at numbers and at slices of numbers. Condition: bounds on lengths.
-/
import Derived.Test.YtpbmlppdmdmfkaaGreatDoorZd11
import Derived.Test.YtpbmlppdmdmfkaaGreatDoorZd12
import Derived.Test.YtpbmlppdmdmfkaaGreatDoorZd05
import Derived.Deep.AppendLies
import Derived.Test.YtpbmlppdmdmfkaaGreatDoorZd09
namespace Go.Proofs.YtpbmlppdmdmfkaaGreatDoor
open Go.RowKit

/-- One element is appended: and where the row lies then. -/
theorem wpList_appL {α : Type} (E : El α) {P : Program} {w : World} {ops : Array Oper} {rest : List Oper} {o : Oper} {a : Act} {Q : Exit → Act → World → Prop}
    (T : TypeId) {zv : Value} {bytes : Nat} (hinfo : (P.info? T).map (fun i => (i.zero, i.size, i.bytes)) = some (some zv, E.sz, bytes)) (hz : zv.cells.size = E.sz) {t : TypeId} (h1 : P.underlying t = some (.slice T))
    (base : Nat) (v : Value) (xs : List α) (x : α) (hown : Own E T w base v xs) (hby : bytes ≤ 256) (hn : xs.length ≤ 68719476736) (hbase : base ≤ w.heap.size)
    (hg : o.guard = none) (s y : Operand) (hop : o.op = .call { callee := .builtin .append, args := #[s, y], argTypes := #[t, t] })
    (hs : a.eval s = v) (b off c : Nat) (hy : a.eval y = .slice (some ⟨b, off, none⟩) 1 c) (hnews : ∀ j u, (E.c x)[j]? = some u → w.cell? ⟨b, off + j, none⟩ = some u)
    (hK : ∀ (u : Slc) w', Own E T w' base u.v (xs ++ [x]) → w.grownBy w' v.ownBlock → (u.v.ownBlock = v.ownBlock ∨ u.v.ownBlock = some w.heap.size) → wpList P ops Q rest (a.put o.dst (.slice u.a u.n u.cap)) w') :
    wpList P ops Q (o :: rest) a w := by
  obtain ⟨it, hi, hz0, hz1, hz2⟩ := info_parts hinfo
  refine wpList_append_lies w hg s y t hop base T it zv E.sz bytes h1 hi hz0 hz1 hz2 hz E.pos v xs.length _ hs hown ⟨b, off, none⟩ 1 c (E.c x) hy (by rw [E.len, Nat.one_mul]) ?_ (E.one x) (by omega) (by unfold maxLen; omega) ?_ hbase _ rfl ?_
  · intro j u hu
    have hadd : (⟨b, off, none⟩ : Addr).add j = ⟨b, off + j, none⟩ := by unfold Addr.add; split <;> simp_all
    rw [hadd]
    exact hnews j u hu
  · have := Nat.mul_le_mul (show xs.length + 1 ≤ 68719476737 by omega) hby
    omega
  · intro g cap w' h2 h3 h4 _
    refine hK ⟨some ⟨g, 0, none⟩, xs.length + 1, cap⟩ w' ?_ h3 ?_
    · unfold Own
      simpa [List.flatMap_append, Slc.v] using h2
    · rcases h4 with h4 | h4
      · exact .inl (by rw [h4]; rfl)
      · exact .inr (by rw [h4]; rfl)

theorem one_nil (w : World) : RowsI (w.alloc (.cells #[.slice none 0 0] 25)) w.heap.size (.slice (some ⟨w.heap.size, 0, none⟩) 1 1) [[]] := by
  have h1 := Own.lit1 (E := SlcE) (T := 25) w (base := w.heap.size) (Nat.le_refl _) ⟨none, 0, 0⟩
  refine ⟨[⟨none, 0, 0⟩], [⟨w.heap.size, w.heap.size, []⟩], rfl, rfl, by simp, h1, fun i u d x h2 h3 h4 => ?_⟩
  cases i with
  | succ i => simp at h2
  | zero =>
    simp at h2 h3 h4
    subst h2; subst h3; subst h4
    have h0 := Own.nil (E := IntE) 3 w w.heap.size
    exact ⟨Nat.le_refl _, (PhiI.loc (u := ⟨none, 0, 0⟩) h0).below ((Below.refl _ w).alloc (Nat.le_refl _) _)⟩

set_option maxRecDepth 100000 in
set_option maxHeartbeats 6400000 in
theorem orders_any (n : Nat) : ∀ (v : Value) (xs : List Int) (w : World), xs.length = n → fact n ≤ 3000 → Rep IntE w v xs →
    Calls Tryz.prog 136 #[v] w fun e w' => ∃ u : Slc, e = .returned (.slice u.a u.n u.cap) ∧ RowsI w' w.heap.size u.v (permsL xs) ∧ Below w.heap.size w w' := by
  induction n with
  | zero =>
    intro v xs w hx _ he
    obtain rfl : xs = [] := List.length_eq_zero_iff.1 hx
    obtain ⟨a, c, rfl, -, -, -, -⟩ := he.open
    rw [permsL_nil]
    go_enter Tryz.func136, Tryz.ntmps136
    go_wp2_with fail
    go_ret
    exact ⟨⟨some ⟨w.heap.size, 0, none⟩, 1, 1⟩, rfl, one_nil w, (Below.refl _ _).alloc (Nat.le_refl _) _⟩
  | succ n ih =>
    intro v xs w hx hfact he
    have hn6 := fact_lt hfact
    have HI := hide (fun v' xs' w' h1 h2 => ih v' xs' w' h1 (Nat.le_trans (fact_mono (Nat.le_succ n)) hfact) h2)
    have HP0 : Hid (permTo xs 0 = []) := hide rfl
    have HPS := hide (permTo_succ xs)
    have HPL := hide (fun k (hk : k ≤ n + 1) => Nat.le_trans (permTo_length xs k (by omega)) (by rw [hx]; exact hfact))
    have HPE : Hid (permsL xs = permTo xs (n + 1)) := hide (by rw [permsL_step (by omega), hx]; rfl)
    have HE := hide he
    have HXL := hide hx
    have HCL := hide (CloneV_any v xs)
    obtain ⟨a, c, rfl, hnc, -, -, -⟩ := he.open
    obtain ⟨x0, hx0⟩ := get_of_lt (xs := xs) (k := 0) (by omega)
    obtain ⟨b, o, rfl, hbl, -⟩ := he.int hx0
    rw [hx] at hnc ⊢
    have hne : (((n + 1 : Nat) : Int) == 0) = false := by simp; omega
    rw [hx] at HE HCL
    have HFA : Hid (fact (n + 1) ≤ 3000) := hide hfact
    clear he ih hx hx0 hfact
    generalize permsL xs = R at *
    generalize hm : n + 1 = m at *
    have HM := hide hm
    clear hm
    go_enter Tryz.func136, Tryz.ntmps136
    go_wp2_with fail
    go_loopw [3, 14] (fun s i wr => ∃ k : Nat, k ≤ m ∧ i = .int .i64 k ∧ RowsI wr w.heap.size s (permTo xs k) ∧ Below w.heap.size w wr) (fun _ i _ => m - (intOf i).toNat)
    case atStart => exact ⟨0, Nat.zero_le _, rfl, by rw [HP0.out]; exact OwnF.nil _ w _, Below.refl _ _⟩
    case round =>
      obtain ⟨k, hk, rfl, hrows, hbr⟩ := hrel
      by_cases hlt : k < m
      · obtain ⟨x, hxk⟩ := get_of_lt (xs := xs) (k := k) (by rw [HXL.out]; exact hlt)
        have hltk := nat_of_lt hlt
        have PS := hide (HPS.out k)
        have hgd : xs.getD k 0 = x := by simp [List.getD, hxk]
        rw [hgd] at PS
        have PL := hide (HPL.out k hk)
        generalize permTo xs k = G at *
        have HEr := HE.out.below hbr
        obtain ⟨b', o', hbo, hbf, f0⟩ := HEr.int hxk
        simp only [Option.some.injEq, Addr.mk.injEq, and_true] at hbo
        obtain ⟨rfl, rfl⟩ := hbo
        have hwk : wrap64 ((k : Int) + 1) = (k : Int) + 1 := by unfold wrap64; omega
        have hwk2 : IntKind.i64.wrap ((k : Int) + 1) = (k : Int) + 1 := by rw [IntKind.wrap_i64]; omega
        have HC1 := hide (HCL.out wr HEr (by omega))
        have HEE := hide HEr
        have HRO := hide hrows; have HBR := hide hbr
        clear HEr hrows hbr
        go_wp2_with fail
        (with_reducible refine HC1.out.mono ?_); rintro e w1 ⟨vc, rfl, oc, hb1⟩
        have HD := hide (Delete_any vc xs w1 wr.heap.size k oc (by rw [HXL.out]; exact hlt))
        have HB1 := hide hb1; have HOC := hide oc
        obtain ⟨⟨ca, cn, cc⟩, rfl, -⟩ := oc.toSlc
        clear oc hb1 HC1
        go_wp2_with fail
        (with_reducible refine HD.out.mono ?_); rintro e w2 ⟨⟨da, dn, dc⟩, rfl, od, hg2⟩
        have HB2 := hide (HB1.out.grown hg2 HB1.out.size (fun q hq => (World.ownsRow.lt HOC.out q hq).1))
        have HC := hide (HI.out _ (xs.eraseIdx k) w2 (by rw [List.length_eraseIdx, HXL.out, if_pos hlt]; have := HM.out; omega) od.rep)
        have HRL := hide (fun r (hr : r ∈ permsL (xs.eraseIdx k)) => permsL_row n (xs.eraseIdx k) (by rw [List.length_eraseIdx, HXL.out, if_pos hlt]; have := HM.out; omega) r hr)
        have HRN0 := hide (permsL_length (xs.eraseIdx k))
        have HEL : Hid (fact (xs.eraseIdx k).length ≤ 3000) := hide (by
          rw [List.length_eraseIdx, HXL.out, if_pos hlt]
          refine Nat.le_trans (fact_mono (Nat.sub_le m 1)) ?_
          have := HFA.out
          exact this)
        have HB7 := hide (HBR.out.trans (HB2.out.mono HBR.out.size))
        have HR7 := hide (OwnF.below HRO.out HB2.out)
        have HQ3 : Hid (∀ q, u3.ownBlock = some q → q < w2.heap.size) := hide (fun q hq => by
          obtain ⟨us, ds, hU⟩ := HRO.out
          exact Nat.lt_of_lt_of_le (World.ownsRow.lt hU.own q hq).2 HB2.out.size)
        clear od hg2 HB2 HD HB1 HOC HRO HBR hwk hwk2 hbf f0 HEE
        generalize permsL (xs.eraseIdx k) = RR at *
        go_wp2_with fail
        (with_reducible refine HC.out.mono ?_); rintro e w8 ⟨⟨ra, rn, rc⟩, rfl, ou, hb8⟩
        have hrn : rn = RR.length := by
          rcases ou.shape with ⟨h1, h2⟩ | ⟨g, cap, h1, -⟩
          · simp only [Slc.v, Value.slice.injEq] at h1; rw [h1.2.1, h2]; rfl
          · simp only [Slc.v, Value.slice.injEq] at h1; exact h1.2.1
        have HRN : Hid (RR.length = rn) := hide hrn.symm
        have hrb : rn ≤ 3000 := by have := HRN0.out; have := HEL.out; omega
        have HRS := hide ou
        have HQ8 : Hid (∀ q, (Slc.v ⟨ra, rn, rc⟩).ownBlock = some q → w2.heap.size ≤ q ∧ q < w8.heap.size) := hide (fun q hq => by
          obtain ⟨us, ds, hU⟩ := ou
          exact World.ownsRow.lt hU.own q hq)
        have HR8 := hide (OwnF.below HR7.out hb8)
        have HB8 := hide (HB7.out.trans (hb8.mono HB7.out.size))
        have h78 := hb8.size
        clear ou hb8 hrn HR7 HB7 HC
        go_wp2_with fail
        go_loopw [3, 27] (fun s i wr => ∃ j : Nat, j ≤ rn ∧ i = .int .i64 j ∧ RowsI wr w.heap.size s (G ++ (RR.take j).map (x :: ·)) ∧ RowsI wr w2.heap.size (.slice ra rn rc) RR ∧ Hid (∀ q, s.ownBlock = some q → q < w2.heap.size ∨ w8.heap.size ≤ q) ∧ Below w.heap.size w wr ∧ w8.heap.size ≤ wr.heap.size) (fun _ i _ => rn - (intOf i).toNat)
        case atStart => exact ⟨0, Nat.zero_le _, rfl, by rw [List.take_zero, List.map_nil, List.append_nil]; exact HR8.out, HRS.out, hide (fun q hq => .inl (HQ3.out q hq)), HB8.out, Nat.le_refl _⟩
        case round =>
          obtain ⟨j, hj, rfl, hrows, hrest, hsq, hbr, hsz⟩ := hrel
          by_cases hltj : j < rn
          · obtain ⟨r, hrj⟩ := get_of_lt (xs := RR) (k := j) (by rw [HRN.out]; exact hltj)
            have hltj' := nat_of_lt hltj
            obtain ⟨⟨sa, sn, sc⟩, g, hga, hg, g0, hrep⟩ := RowsI.row hrest hrj
            subst hga
            have hgq := HQ8.out g rfl
            have RS : Hid (G ++ (RR.take (j + 1)).map (x :: ·) = (G ++ (RR.take j).map (x :: ·)) ++ [x :: r]) := hide (by rw [map_take_succ (x :: ·) hrj, List.append_assoc])
            have hrl := HRL.out r (List.mem_of_getElem? hrj)
            have hlen : (G ++ (RR.take j).map (x :: ·)).length ≤ 68719476736 := by
              rw [List.length_append, List.length_map, List.length_take]
              have := PL.out; have := HRN.out; omega
            have hn1 : ([x] : List Int).length + r.length ≤ 68719476736 := by have := HM.out; simp; omega
            have HRP := hide (hrep.below ((Below.refl wr.heap.size wr).alloc (Nat.le_refl _) (.cells #[.int .i64 x] 3)))
            obtain ⟨us, ds, hU⟩ := hrows
            have HUL : Hid (us.length ≤ 68719476736) := hide (by rw [hU.lu]; exact hlen)
            have HU := hide hU
            have HBR2 := hide hbr
            have HRS2 := hide hrest
            have HLT : Hid (Own IntE 3 (wr.alloc (.cells #[.int .i64 x] 3)) wr.heap.size (.slice (some ⟨wr.heap.size, 0, none⟩) 1 1) [x]) := hide (Own.lit1 (E := IntE) (T := 3) wr (Nat.le_refl _) x)
            have hbs : w.heap.size ≤ wr.heap.size := hbr.size
            have HQ7 : Hid (∀ q, u3.ownBlock = some q → w.heap.size ≤ q ∧ q ≠ g) := hide (fun q hq => ⟨(World.ownsRow.lt hU.own q hq).1, by have := hsq.out q hq; omega⟩)
            generalize G ++ (RR.take j).map (x :: ·) = GG at *
            clear hrj hrep hbr hrl hU hlen hrest
            go_wp2_with (at_builtin; first
              | (refine wpList_appS IntE 3 Tryz.infoInt rfl Tryz.underlying25 wr.heap.size _ [x] r _ HLT.out HRP.out (by decide) hn1 (by simp) rfl _ _ rfl rfl rfl ?_; intro v6 w6 hown6 hgr6; obtain ⟨⟨a6, n6, c6⟩, rfl, -⟩ := hown6.toSlc; have O6 := hide hown6; have B6 := hide (((Below.refl wr.heap.size wr).alloc (Nat.le_refl _) (.cells #[.int .i64 x] 3)).grown hgr6 (by simp) (fun q hq => by simp [Value.ownBlock] at hq; omega)); have hb6 := B6.out.size; clear hown6 hgr6)
              | (refine wpList_appL SlcE 25 Tryz.infoIntS rfl Tryz.underlying33 w.heap.size _ us ⟨a6, n6, c6⟩ ((HU.out.own.below B6.out).alloc _) (by decide) HUL.out (by simp; omega) rfl _ _ rfl rfl w6.heap.size 0 1 rfl news_alloc ?_; rintro ⟨ua, un, uc⟩ w9 hown8 hgr8 hv8))
            have R8 := RowsI.app HU.out B6.out hbs rfl O6.out hown8 hgr8
            have B8 := (HBR2.out.trans (B6.out.mono hbs)).alloc (by omega) (.cells #[.slice a6 n6 c6] 25)
            have B9 := B8.grown hgr8 (by simp; omega) (fun q hq => (HQ7.out q hq).1)
            have ba := (Below.refl w6.heap.size w6).alloc (Nat.le_refl _) (.cells #[.slice a6 n6 c6] 25)
            have S9 := OwnF.grown_ne (OwnF.below (OwnF.below HRS2.out B6.out) ba) ((HU.out.own.below B6.out).below ba) hgr8 (.inr fun e => (HQ7.out g e.symm).2 rfl)
            have hs9 := hgr8.size
            simp only [World.size_alloc] at hs9 hv8
            have HQ9 : Hid (∀ q, (Value.slice ua un uc).ownBlock = some q → q < w2.heap.size ∨ w8.heap.size ≤ q) := hide (fun q hq => by
              rcases hv8 with h | h
              · rw [show (Value.slice ua un uc).ownBlock = _ from h] at hq; exact hsq.out q hq
              · rw [show (Value.slice ua un uc).ownBlock = _ from h] at hq; simp at hq; omega)
            have HR8 := hide R8; have HS9 := hide S9; have HB9 := hide B9
            clear R8 S9 B9 B8
            go_roundw
            case rel => exact ⟨j + 1, by omega, by go_num, by rw [RS.out]; exact HR8.out, HS9.out, HQ9, HB9.out, by omega⟩
            case measure => simp [intOf]; omega
          · obtain rfl : j = rn := by omega
            rw [List.take_of_length_le (by rw [HRN.out]; exact Nat.le_refl _), ← PS.out] at hrows
            go_wp2_with fail
            go_roundw
            case rel => exact ⟨k + 1, by omega, by go_num, hrows, hbr⟩
            case measure => simp [intOf]; omega
      · obtain rfl : k = m := by omega
        obtain ⟨us, ds, hU⟩ := hrows
        obtain ⟨⟨qa, qn, qc⟩, rfl, -⟩ := hU.own.toSlc
        have hrows : RowsI _ _ _ _ := ⟨us, ds, hU⟩
        clear hU
        go_wp2_with fail
        go_ret
        exact ⟨⟨qa, qn, qc⟩, rfl, by rw [HPE.out]; exact hrows, hbr⟩

end Go.Proofs.YtpbmlppdmdmfkaaGreatDoor

namespace Go.Proofs.YtpbmlppdmdmfkaaGreatDoor
open Go.RowKit

theorem Tryz.infoIntSS : (Tryz.prog.info? 33).map (fun i => (i.zero, i.size, i.bytes)) = some (some (.slice none 0 0), 1, 24) := by kernel_rfl

theorem below_lit2 {w w' : World} {l : Array Value} {T : TypeId} {n c : Nat} (hg : (w.alloc (.cells l T)).grownBy w' (Value.slice (some ⟨w.heap.size, 0, none⟩) n c).ownBlock) : Below w.heap.size w w' :=
  ((Below.refl w.heap.size w).alloc (Nat.le_refl _) (.cells l T)).grown hg (by simp) (fun q hq => by simp [Value.ownBlock] at hq; omega)
def Rany (_ _ : Dd) : Prop := True
def PhiO (d : Dd) (W : World) (u : Slc) (o : List (List Int)) : Prop := d.us.length = o.length ∧ Rep SlcE W u.v d.us ∧ ∀ (i : Nat) (s : Slc) (r : List Int), d.us[i]? = some s → o[i]? = some r → Rep IntE W s.v r
abbrev RowsO (w : World) (base : Nat) (v : Value) (L : List (List (List Int))) : Prop := OwnF SlcE 33 Rany PhiO w base v L
/-- The list itself lies higher than the parts of its elements. -/
def RowsH (w : World) (lo base : Nat) (v : Value) (L : List (List (List Int))) : Prop := ∃ us ds, OwnFU SlcE 33 Rany PhiO us ds w lo v L ∧ Own SlcE 33 w base v us
theorem PhiO.rep2 {d : Dd} {W : World} {u : Slc} {o : List (List Int)} (h : PhiO d W u o) : RepNN W u.v o := ⟨d.us, h.1, h.2.1, h.2.2⟩
theorem PhiO.cons {w : World} {lo lo' : Nat} {s f u : Slc} {us : List Slc} {x : List Int} {o : List (List Int)} {a b : Nat} (h1 : Own SlcE 25 w lo' s.v (f :: us)) (hlo : lo ≤ lo') (h2 : LocR 33 lo w.heap.size w (fun W => Rep IntE W f.v x)) (h3 : LocR 33 lo w.heap.size w (fun W => PhiO ⟨a, b, us⟩ W u o)) :
    LocR 33 lo w.heap.size w (fun W => PhiO ⟨lo, w.heap.size, f :: us⟩ W s (x :: o)) := by
  have h4 := (LocR.own (T := 33) (by decide) h1).wide hlo (Nat.le_refl _) (Nat.le_refl _)
  refine ((h4.and h2).and h3).map fun V ⟨⟨k1, k2⟩, k3⟩ => ⟨by simp [k3.1], k1.rep, fun i s' r hs hr => ?_⟩
  cases i with
  | zero => simp at hs hr; subst hs; subst hr; exact k2
  | succ i => exact k3.2.2 i s' r (by simpa using hs) (by simpa using hr)
/-- Row k. -/
theorem RowsO.row {w : World} {base : Nat} {a : Option Addr} {n c : Nat} {L : List (List (List Int))} (h : RowsO w base (.slice a n c) L) {k : Nat} {o : List (List Int)} (hr : L[k]? = some o) :
    ∃ (u : Slc) (us : List Slc) (g p q : Nat), a = some ⟨g, 0, none⟩ ∧ g < w.heap.size ∧ w.cell? ⟨g, k, none⟩ = some (.slice u.a u.n u.cap) ∧ LocR 33 base w.heap.size w (fun W => PhiO ⟨p, q, us⟩ W u o) := by
  obtain ⟨us, ds, h⟩ := h
  obtain ⟨u, d, g, -, -, h1, -, h2, h3, hb, h4⟩ := h.at hr
  have h5 := h3 0 _ rfl
  simp only [SlcE, Nat.mul_one, Nat.add_zero] at h5
  exact ⟨u, d.us, g, d.lo, d.hi, h1, h2, h5, h4.wide hb h4.le (Nat.le_refl _)⟩
theorem RowsO.len {w : World} {base : Nat} {a : Option Addr} {n c : Nat} {L : List (List (List Int))} (h : RowsO w base (.slice a n c) L) : n = L.length := by
  rcases h.shape with ⟨h1, h2⟩ | ⟨g, cap, h1, -⟩
  · simp only [Value.slice.injEq] at h1; rw [h1.2.1, h2]; rfl
  · simp only [Value.slice.injEq] at h1; exact h1.2.1
theorem RowsI.len {w : World} {base : Nat} {a : Option Addr} {n c : Nat} {L : List (List Int)} (h : RowsI w base (.slice a n c) L) : n = L.length := by
  rcases h.shape with ⟨h1, h2⟩ | ⟨g, cap, h1, -⟩
  · simp only [Value.slice.injEq] at h1; rw [h1.2.1, h2]; rfl
  · simp only [Value.slice.injEq] at h1; exact h1.2.1
theorem RowsH.rows {w : World} {lo base : Nat} {v : Value} {L : List (List (List Int))} (h : RowsH w lo base v L) : RowsO w lo v L := by
  obtain ⟨us, ds, h, -⟩ := h
  exact ⟨us, ds, h⟩
theorem RowsH.below {w w' : World} {lo base : Nat} {v : Value} {L : List (List (List Int))} (h : RowsH w lo base v L) (hb : Below w.heap.size w w') : RowsH w' lo base v L := by
  obtain ⟨us, ds, h, k⟩ := h
  exact ⟨us, ds, h.below hb, k.below hb⟩
theorem RowsH.app {us : List Slc} {ds : List Dd} {w w2 : World} {lo base : Nat} {v v' : Value} {L : List (List (List Int))} (h : OwnFU SlcE 33 Rany PhiO us ds w lo v L) {s : Slc} {d : Dd} {o : List (List Int)} (hlb : lo ≤ base)
    (hn : LocR 33 d.lo d.hi w (fun W => PhiO d W s o)) (hd : lo ≤ d.lo) (ho : Own SlcE 33 w2 base v' (us ++ [s])) (hg : w.grownBy w2 v.ownBlock) : RowsH w2 lo base v' (L ++ [o]) :=
  ⟨us ++ [s], ds ++ [d], OwnFU.app h (ho.mono hlb) hg hd hn (fun _ _ => trivial), ho⟩

def ordQ (es : List Ev) (l : Nat) (q : List Int) : List (List (List Int)) := (ordsL es (l + 1)).map (((wrL es l).headD 0 :: q) :: ·)
theorem ordsL_row {es : List Ev} : ∀ (n l : Nat), l + n = 3 → ∀ o ∈ ordsL es l, o.length = n := by
  intro n
  induction n with
  | zero =>
    intro l hl o ho
    obtain rfl : l = 3 := by omega
    rw [ordsL_end] at ho; simp at ho; subst ho; rfl
  | succ n ih =>
    intro l hl o ho
    rw [ordsL_step (by omega), List.mem_flatMap] at ho
    obtain ⟨q, -, hq⟩ := ho
    rw [List.mem_map] at hq
    obtain ⟨y, hy, rfl⟩ := hq
    rw [List.length_cons, ih (l + 1) (by omega) y hy]

set_option maxRecDepth 100000 in
set_option maxHeartbeats 6400000 in
theorem l6Orders_any (es : List Ev) (hl : es.length ≤ 1048576) (hords : ∀ l, (ordsL es l).length ≤ 3000) (hperms : ∀ l : Nat, l < 3 → fact (wrL es l).tail.length ≤ 3000) (hwr : ∀ l : Nat, l < 3 → 0 < (wrL es l).length) (n : Nat) : ∀ (v : Value) (l : Nat) (w : World), l + n = 3 → Rep EvE w v es →
    Calls Tryz.prog 233 #[v, .int .i64 l] w fun e w' => ∃ u : Slc, e = .returned (.slice u.a u.n u.cap) ∧ RowsO w' w.heap.size u.v (ordsL es l) ∧ Below w.heap.size w w' := by
  induction n with
  | zero =>
    intro v l w hi he
    obtain ⟨a, c, rfl, -, -, -, -⟩ := he.open
    obtain rfl : l = 3 := by omega
    rw [ordsL_end]
    generalize es.length = m at *
    go_enter Tryz.func233, Tryz.ntmps233
    go_wp2_with fail
    go_ret
    have hb1 := (Below.refl w.heap.size w).alloc (Nat.le_refl _) (.cells #[] 25)
    have h0 := Own.empty (E := SlcE) 25 w (Nat.le_refl _)
    have hz : (w.alloc (.cells #[] 25)).heap.size = w.heap.size + 1 := by simp
    have h1 := Own.lit1 (E := SlcE) (T := 33) (w.alloc (.cells #[] 25)) (base := w.heap.size) (by omega) ⟨some ⟨w.heap.size, 0, none⟩, 0, 0⟩
    refine ⟨⟨some ⟨w.heap.size + 1, 0, none⟩, 1, 1⟩, rfl, ⟨[⟨some ⟨w.heap.size, 0, none⟩, 0, 0⟩], [⟨w.heap.size, w.heap.size + 1, []⟩], rfl, rfl, by simp, by rw [hz] at h1; exact h1, fun i u d x h2 h3 h4 => ?_⟩, hb1.alloc (by omega) _⟩
    cases i with
    | succ i => simp at h2
    | zero =>
      simp at h2 h3 h4
      subst h2; subst h3; subst h4
      refine ⟨Nat.le_refl _, ?_⟩
      have h5 := (LocR.own (T := 33) (by decide) h0).below ((Below.refl _ (w.alloc (.cells #[] 25))).alloc (Nat.le_refl _) (.cells (SlcE.c ⟨some ⟨w.heap.size, 0, none⟩, 0, 0⟩).toArray 33))
      rw [hz] at h5
      exact h5.map fun V k => ⟨rfl, k.rep, fun i s r hs => by simp at hs⟩
  | succ n ih =>
    intro v l w hi he
    have hl3 : l < 3 := by omega
    have hcast : ((l + 1 : Nat) : Int) = (l : Int) + 1 := by omega
    have HI := hide (fun w' h => ih v (l + 1) w' (by omega) h)
    rw [hcast] at HI
    have HW := hide (fun w' h => l6Writers_any v es (l : Int) w' h (by omega))
    have HP := hide (fun v w' h => l6Perms_any (wrL es l).tail.length v (wrL es l).tail w' rfl (hperms l hl3) h)
    have HPR := hide (fun r (hr : r ∈ permsL (wrL es l).tail) => permsL_row _ (wrL es l).tail rfl r hr)
    have HPN := hide (Nat.le_trans (permsL_length (wrL es l).tail) (hperms l hl3))
    have HTL := hide (fact_lt (hperms l hl3))
    have HROW := hide (fun r (hr : r ∈ ordsL es (l + 1)) => ordsL_row n (l + 1) (by omega) r hr)
    have HF1 := hide (hords (l + 1)); have HF0 := hide (hords l)
    have HST : Hid (ordsL es l = (permsL (wrL es l).tail).flatMap (ordQ es l)) := hide (ordsL_step (es := es) (l := l) hl3)
    obtain ⟨x, hx0⟩ := get_of_lt (xs := wrL es l) (k := 0) (hwr l hl3)
    have HQ : Hid (∀ q, ordQ es l q = (ordsL es (l + 1)).map ((x :: q) :: ·)) := hide (fun q => by
      unfold ordQ
      have : (wrL es l).headD 0 = x := by
        cases h : wrL es l with
        | nil => rw [h] at hx0; cases hx0
        | cons y ys => rw [h] at hx0; simpa using hx0
      rw [this])
    have HWLEN := hide (hwr l hl3)
    have HX0 := hide hx0
    have HE := hide he
    obtain ⟨a, c, rfl, -, -, -, -⟩ := he.open
    have hl2 : (l : Int) ≤ 2 := by omega
    have hgt : decide ((2 : Int) < (l : Int)) = false := by simp; omega
    clear he ih hcast hords hperms hwr hx0
    generalize hm : es.length = m at *
    clear hm
    generalize ordsL es l = R at *
    generalize ordsL es (l + 1) = RR at *
    generalize ordQ es l = F at *
    generalize wrL es (l : Int) = WR at *
    go_enter Tryz.func233, Tryz.ntmps233
    go_wp2_with fail
    (with_reducible refine (HI.out _ HE.out).mono ?_); rintro e w2 ⟨⟨ra, rn, rc⟩, rfl, ou, hb2⟩
    have HRN : Hid (RR.length = rn) := hide (RowsO.len ou).symm
    have hrb : rn ≤ 3000 := by have := HRN.out; have := HF1.out; omega
    have HRR := hide ou; have HB2 := hide hb2
    have HW2 := hide (HW.out w2 (HE.out.below hb2))
    have hs12 := hb2.size
    clear ou hb2 HI HW
    go_wp2_with fail
    (with_reducible refine HW2.out.mono ?_); rintro e w3 ⟨vw, rfl, ow, hb3⟩
    rcases ow.shape with ⟨rfl, h0⟩ | ⟨gw, wcap, rfl, hgw1, hgw2, hgw3, -⟩
    · exfalso
      have := HWLEN.out
      rw [h0] at this; simp at this
    have HWN : Hid (0 < WR.length ∧ WR.length ≤ 7) := hide ⟨HWLEN.out, by have := HTL.out; rw [List.length_tail] at this; omega⟩
    have HOW := hide ow
    have HB3 := hide (HB2.out.trans (hb3.mono HB2.out.size))
    have HRR3 := hide (OwnF.below HRR.out hb3)
    have hwt : WR.tail = WR.drop 1 := by cases WR <;> rfl
    have T1 := hide (ow.rep.dropV (k := 1) HWLEN.out)
    rw [← hwt] at T1
    obtain ⟨wn, hwn⟩ : ∃ wn, WR.length = wn := ⟨_, rfl⟩
    rw [hwn] at T1 HOW HWN hgw3 ⊢
    have hwn1 : 1 ≤ wn := HWN.out.1
    have hwn7 : wn ≤ 7 := HWN.out.2
    have h1w : (1 : Int) ≤ (wn : Int) := by omega
    have hwcap : (wn : Int) ≤ (wcap : Int) := by omega
    have hs23 := hb3.size
    clear ow hb3 HB2 HRR HW2 hwt hwn
    go_upto_region 5 with fail
    go_cut [7] (fun s7 W => ∃ u : Slc, s7 = .slice u.a u.n u.cap ∧ RowsI W w3.heap.size u.v (permsL WR.tail) ∧ Below w3.heap.size w3 W)
    case first =>
      by_cases hck : wcap = 1
      · rw [if_pos hck] at T1
        obtain rfl : wn = 1 := by omega
        subst hck
        have HC := hide (HP.out _ w3 T1.out)
        go_wp2_with fail
        (with_reducible refine HC.out.mono ?_); rintro e w4 ⟨u, rfl, ou, hb4⟩
        go_wp2_with fail
        go_meet
        exact ⟨u, rfl, ou, hb4⟩
      · rw [if_neg hck] at T1
        have HC := hide (HP.out _ w3 T1.out)
        simp only [Nat.zero_add] at HC
        go_wp2_with fail
        (with_reducible refine HC.out.mono ?_); rintro e w4 ⟨u, rfl, ou, hb4⟩
        go_wp2_with fail
        go_meet
        exact ⟨u, rfl, ou, hb4⟩
    case rest =>
      obtain ⟨⟨pa, pn, pc⟩, rfl, hpr, hbc⟩ := hcut
      have HPLN : Hid ((permsL WR.tail).length = pn) := hide (RowsI.len hpr).symm
      have hpb : pn ≤ 3000 := by have := HPLN.out; have := HPN.out; omega
      have HPM := hide hpr
      have HRC := hide (OwnF.below HRR3.out hbc)
      have HBC := hide (HB3.out.trans (hbc.mono HB3.out.size))
      have HOC := hide (HOW.out.below hbc)
      have hs34 := hbc.size
      clear hpr hbc T1 HRR3 HB3 HOW HP
      generalize permsL WR.tail = PM at *
      go_wp2_with fail
      go_loopw [8, 9] (fun s i wr => ∃ k : Nat, k ≤ pn ∧ i = .int .i64 k ∧ RowsH wr w.heap.size wc.heap.size s ((PM.take k).flatMap F) ∧ Below wc.heap.size wc wr) (fun _ i _ => pn - (intOf i).toNat)
      case atStart => exact ⟨0, Nat.zero_le _, rfl, ⟨[], [], ⟨rfl, rfl, .nil, Own.empty _ _ (by omega), fun i u d x h => by simp at h⟩, Own.empty _ _ (Nat.le_refl _)⟩, (Below.refl _ _).alloc (Nat.le_refl _) _⟩
      case round =>
        obtain ⟨k, hk, rfl, hrows, hbr⟩ := hrel
        by_cases hlt : k < pn
        · obtain ⟨q, hqk⟩ := get_of_lt (xs := PM) (k := k) (by rw [HPLN.out]; exact hlt)
          have hltk := nat_of_lt hlt
          have GS := hide (flatMap_take_succ F hqk)
          rw [HQ.out q] at GS
          have HGL : Hid (((PM.take k).flatMap F).length ≤ 3000) := hide (by
            have := flatMap_take_le F PM k
            rw [← HST.out] at this
            exact Nat.le_trans this HF0.out)
          obtain ⟨⟨sa, sn, sc⟩, g, hga, hg, g0, hrep⟩ := RowsI.row (OwnF.below HPM.out hbr) hqk
          have hgc : g < wc.heap.size := by
            obtain ⟨-, g', hga', hgc, -⟩ := RowsI.row HPM.out hqk
            rw [hga] at hga'; simp at hga'; omega
          subst hga
          obtain ⟨b', o', hbo, hbf, f0⟩ := (HOC.out.below hbr).rep.int HX0.out
          simp only [Option.some.injEq, Addr.mk.injEq, and_true] at hbo
          obtain ⟨rfl, rfl⟩ := hbo
          simp only [Nat.add_zero] at f0
          have hqr := HPR.out q (List.mem_of_getElem? hqk)
          have hn1 : ([x] : List Int).length + q.length ≤ 68719476736 := by
            rw [hqr, List.length_tail]
            have := HTL.out
            rw [List.length_tail] at this
            simp; omega
          have HRP := hide (hrep.below ((Below.refl wr.heap.size wr).alloc (Nat.le_refl _) (.cells #[.int .i64 x] 3)).drew)
          have HLT : Hid (Own IntE 3 (wr.alloc (.cells #[.int .i64 x] 3)).drew wr.heap.size (.slice (some ⟨wr.heap.size, 0, none⟩) 1 1) [x]) := hide (Own.lit1 (E := IntE) (T := 3) wr (Nat.le_refl _) x)
          generalize (PM.take k).flatMap F = G at *
          have HRO := hide hrows; have HBR := hide hbr
          have h01 : 0 < wn := by omega
          clear hrows hbr hqk hrep hqr
          go_wp2_with fail
          go_region_held3 (fun V => V.cell? ⟨gw, 0, none⟩ = some (.int .i64 x) ∧ V.cell? ⟨g, k, none⟩ = some (.slice sa sn sc)) ((simp [go_sem, *]))
            (first
              | (refine step_appS IntE 3 Tryz.infoInt rfl Tryz.underlying25 wr.heap.size _ [x] q _ HLT.out HRP.out (by decide) hn1 (by simp) (by rfl) _ _ (by rfl) (by rfl) (by rfl) ?_; intro v6 w6 hown6 hgr6; obtain ⟨⟨a6, n6, c6⟩, rfl, -⟩ := hown6.toSlc; have O6 := hide hown6; have hk6 : (∀ o, w6.cell? ⟨gw, o, none⟩ = wr.cell? ⟨gw, o, none⟩) := (kept_d hgr6 hbf (fun q hq => by simp [Value.ownBlock] at hq; omega)); have hk7 : (∀ o, w6.cell? ⟨g, o, none⟩ = wr.cell? ⟨g, o, none⟩) := (kept_d hgr6 hg (fun q hq => by simp [Value.ownBlock] at hq; omega)); have B6 := hide (below_lit hgr6); have hb6 := B6.out.size; have hz6 : gw < w6.heap.size := (Nat.lt_of_lt_of_le hbf hb6); have hz7 : g < w6.heap.size := (Nat.lt_of_lt_of_le hg hb6); clear hown6 hgr6))
          have O6' : Hid (Own IntE 3 w6 wc.heap.size (Slc.v ⟨a6, n6, c6⟩) (x :: q)) := hide (O6.out.mono HBR.out.size)
          have HR6 := hide (HRO.out.below B6.out)
          have HB6 := hide (HBR.out.trans (B6.out.mono HBR.out.size))
          clear O6 HRO HBR B6 hb6 hz6 hz7 hk6 hk7 HLT HRP hn1 g0 hg hgc f0 hbf h01
          go_wp2_with fail
          go_loopw [8, 11] (fun s i wr => ∃ j : Nat, j ≤ rn ∧ i = .int .i64 j ∧ RowsH wr w.heap.size wc.heap.size s (G ++ (RR.take j).map ((x :: q) :: ·)) ∧ Below wc.heap.size wc wr ∧ Own IntE 3 wr wc.heap.size (.slice a6 n6 c6) (x :: q)) (fun _ i _ => rn - (intOf i).toNat)
          case atStart => exact ⟨0, Nat.zero_le _, rfl, by rw [List.take_zero, List.map_nil, List.append_nil]; exact HR6.out, HB6.out, O6'.out⟩
          case round =>
            obtain ⟨j, hj, rfl, hrows, hbr, hfst⟩ := hrel
            by_cases hltj : j < rn
            · obtain ⟨o, hoj⟩ := get_of_lt (xs := RR) (k := j) (by rw [HRN.out]; exact hltj)
              have hltj' := nat_of_lt hltj
              obtain ⟨⟨sa, sn, sc⟩, uss, g, p1, p2, hga, hg, g0, hphi⟩ := RowsO.row (OwnF.below HRC.out hbr) hoj
              subst hga
              have RS : Hid (G ++ (RR.take (j + 1)).map ((x :: q) :: ·) = (G ++ (RR.take j).map ((x :: q) :: ·)) ++ [(x :: q) :: o]) := hide (by rw [map_take_succ ((x :: q) :: ·) hoj, List.append_assoc])
              have hol := HROW.out o (List.mem_of_getElem? hoj)
              have hlen : (G ++ (RR.take j).map ((x :: q) :: ·)).length ≤ 68719476736 := by
                rw [List.length_append, List.length_map, List.length_take]
                have := HGL.out; have := HRN.out; omega
              have hul : ([⟨a6, n6, c6⟩] : List Slc).length + uss.length ≤ 68719476736 := by
                rw [hphi.now.1, hol]; simp; omega
              have hla := (Below.refl wr.heap.size wr).alloc (Nat.le_refl _) (.cells #[.slice a6 n6 c6] 25)
              have HRP := hide ((hphi.below hla).now.2.1)
              have HLT : Hid (Own SlcE 25 (wr.alloc (.cells #[.slice a6 n6 c6] 25)) wr.heap.size (.slice (some ⟨wr.heap.size, 0, none⟩) 1 1) [⟨a6, n6, c6⟩]) := hide (Own.lit1 (E := SlcE) (T := 25) wr (Nat.le_refl _) ⟨a6, n6, c6⟩)
              obtain ⟨us, ds, hU, hO⟩ := hrows
              have HUL : Hid (us.length ≤ 68719476736) := hide (by rw [hU.lu]; exact hlen)
              have HU := hide hU; have HO := hide hO
              have HBR := hide hbr; have HF := hide hfst; have HPH := hide hphi
              have hbs : wc.heap.size ≤ wr.heap.size := hbr.size
              generalize G ++ (RR.take j).map ((x :: q) :: ·) = GG at *
              clear hoj hol hlen hla hU hO hbr hfst hphi
              go_wp2_with (first
                | (at_builtin; refine wpList_appS SlcE 25 Tryz.infoIntS rfl Tryz.underlying33 wr.heap.size _ [⟨a6, n6, c6⟩] uss _ HLT.out HRP.out (by decide) hul (by simp) rfl _ _ rfl rfl rfl ?_; intro v7 w7 hown7 hgr7; obtain ⟨⟨a7, n7, c7⟩, rfl, -⟩ := hown7.toSlc; have O7 := hide hown7; have B7 := hide (below_lit2 hgr7); have hb7 := B7.out.size; clear hown7 hgr7)
                | (at_builtin; refine wpList_app SlcE 33 Tryz.infoIntSS rfl Tryz.underlying152 wc.heap.size _ us ⟨a7, n7, c7⟩ ((HO.out.below B7.out).alloc _) (by decide) HUL.out (by simp; omega) rfl _ _ rfl rfl _ 0 1 rfl (news_allocV (by simp)) ?_; intro v8 w8 hown8 hgr8))
              have ba7 := (Below.refl w7.heap.size w7).alloc (Nat.le_refl _) (.cells #[.slice a7 n7 c7] 33)
              have F7 := HF.out.below B7.out
              have P7 := PhiO.cons (w := w7) (lo := w.heap.size) (s := ⟨a7, n7, c7⟩) (f := ⟨a6, n6, c6⟩) (us := uss) (x := x :: q) (o := o) O7.out (by omega) (((LocR.own (T := 33) (by decide) F7).wide (by omega) (Nat.le_refl _) (Nat.le_refl _)).map fun V k => k.rep) ((HPH.out.below B7.out).wide (Nat.le_refl _) hb7 (Nat.le_refl _))
              have R8 := RowsH.app ((HU.out.below B7.out).below ba7) (by omega) (d := ⟨w.heap.size, w7.heap.size, ⟨a6, n6, c6⟩ :: uss⟩) (P7.below ba7) (Nat.le_refl _) hown8 hgr8
              have B8 := (HBR.out.trans (B7.out.mono hbs)).alloc (by omega) (.cells #[.slice a7 n7 c7] 33)
              have B9 := B8.grown hgr8 (by simp; omega) (fun q hq => (World.ownsRow.lt HO.out q hq).1)
              have F8 := (F7.below ba7).grown hgr8 (own_or (by decide) ((HO.out.below B7.out).below ba7) (F7.below ba7))
              go_roundw
              case rel => exact ⟨j + 1, by omega, by go_num, by rw [RS.out]; exact R8, B9, F8⟩
              case measure => simp [intOf]; omega
            · obtain rfl : j = rn := by omega
              rw [List.take_of_length_le (by rw [HRN.out]; exact Nat.le_refl _), ← GS.out] at hrows
              go_wp2_with fail
              go_roundw
              case rel => exact ⟨k + 1, by omega, by go_num, hrows, hbr⟩
              case measure => simp [intOf]; omega
        · obtain rfl : k = pn := by omega
          obtain ⟨us, ds, hU, hO⟩ := hrows
          obtain ⟨⟨qa, qn, qc⟩, rfl, -⟩ := hU.own.toSlc
          have hrows : RowsO _ _ _ _ := ⟨us, ds, hU⟩
          clear hU hO
          go_wp2_with fail
          go_ret
          refine ⟨⟨qa, qn, qc⟩, rfl, ?_, ?_⟩
          · rw [HST.out]
            have h := hrows
            rw [List.take_of_length_le (by rw [HPLN.out]; exact Nat.le_refl _)] at h
            exact h
          · exact HBC.out.trans (hbr.mono HBC.out.size)

end Go.Proofs.YtpbmlppdmdmfkaaGreatDoor

namespace Go.Proofs.YtpbmlppdmdmfkaaGreatDoor
open Go.RowKit

/-- Rows that a call owns. -/
def PhiG {α : Type} (E : El α) (T : TypeId) (d : Dd) (W : World) (u : Slc) (x : List α) : Prop := Own E T W d.lo u.v x ∧ ∀ q, u.v.ownBlock = some q → q < d.hi
abbrev RowsG {α : Type} (E : El α) (T TS : TypeId) (w : World) (base : Nat) (v : Value) (L : List (List α)) : Prop := OwnF SlcE TS Rafter (PhiG E T) w base v L
section
variable {α : Type} {E : El α} {T TS : TypeId}
theorem PhiG.loc (hT : T ≠ TS) {w : World} {lo : Nat} {u : Slc} {x : List α} (h : Own E T w lo u.v x) : LocR TS lo w.heap.size w (fun W => PhiG E T ⟨lo, w.heap.size, []⟩ W u x) :=
  (LocR.own hT h).map fun _ k => ⟨k, fun q hq => (World.ownsRow.lt h q hq).2⟩
theorem RowsG.row {w : World} {base : Nat} {a : Option Addr} {n c : Nat} {L : List (List α)} (h : RowsG E T TS w base (.slice a n c) L) {k : Nat} {r : List α} (hr : L[k]? = some r) :
    ∃ (u : Slc) (g : Nat), a = some ⟨g, 0, none⟩ ∧ g < w.heap.size ∧ w.cell? ⟨g, k, none⟩ = some (.slice u.a u.n u.cap) ∧ Rep E w u.v r := by
  obtain ⟨us, ds, h⟩ := h
  obtain ⟨u, d, g, -, -, h1, -, h2, h3, -, h4⟩ := h.at hr
  have h5 := h3 0 _ rfl
  simp only [SlcE, Nat.mul_one, Nat.add_zero] at h5
  exact ⟨u, g, h1, h2, h5, h4.now.1.rep⟩
theorem RowsG.len {w : World} {base : Nat} {a : Option Addr} {n c : Nat} {L : List (List α)} (h : RowsG E T TS w base (.slice a n c) L) : n = L.length := by
  rcases h.shape with ⟨h1, h2⟩ | ⟨g, cap, h1, -⟩
  · simp only [Value.slice.injEq] at h1; rw [h1.2.1, h2]; rfl
  · simp only [Value.slice.injEq] at h1; exact h1.2.1
theorem RowsG.app (hT : T ≠ TS) {us : List Slc} {ds : List Dd} {w w1 w2 : World} {base lo : Nat} {v v' : Value} {L : List (List α)} (h : OwnFU SlcE TS Rafter (PhiG E T) us ds w base v L) (hb : Below w.heap.size w w1) (hbase : base ≤ w.heap.size) {r : List α} {s : Slc} {ob : Obj}
    (hlo : lo = w.heap.size) (hu : Own E T w1 lo s.v r) (ho : Own SlcE TS w2 base v' (us ++ [s])) (hg : (w1.alloc ob).grownBy w2 v.ownBlock) : RowsG E T TS w2 base v' (L ++ [r]) := by
  subst hlo
  have hba := (Below.refl w1.heap.size w1).alloc (Nat.le_refl _) ob
  have hd := h.hi
  exact ⟨us ++ [s], ds ++ [⟨w.heap.size, w1.heap.size, []⟩], OwnFU.app (d := ⟨w.heap.size, w1.heap.size, []⟩) ((h.below hb).below hba) ho hg hbase ((PhiG.loc hT hu).below hba) (fun d' h' => (hd d' h' : d'.hi ≤ w.heap.size))⟩
theorem RowsG.one (hT : T ≠ TS) (w : World) : RowsG E T TS (w.alloc (.cells #[.slice none 0 0] TS)) w.heap.size (.slice (some ⟨w.heap.size, 0, none⟩) 1 1) [[]] := by
  have h1 := Own.lit1 (E := SlcE) (T := TS) w (base := w.heap.size) (Nat.le_refl _) ⟨none, 0, 0⟩
  refine ⟨[⟨none, 0, 0⟩], [⟨w.heap.size, w.heap.size, []⟩], rfl, rfl, by simp, h1, fun i u d x h2 h3 h4 => ?_⟩
  cases i with
  | succ i => simp at h2
  | zero =>
    simp at h2 h3 h4
    subst h2; subst h3; subst h4
    have h0 := Own.nil (E := E) T w w.heap.size
    exact ⟨Nat.le_refl _, (PhiG.loc hT (u := ⟨none, 0, 0⟩) h0).below ((Below.refl _ w).alloc (Nat.le_refl _) _)⟩
end
theorem prodR_part {α : Type} {cs : List (List α)} {c : List α} {k : Nat} (hc : cs[k]? = some c) (hb : ∀ k, (prodR (cs.take k)).length ≤ 3000) (i : Nat) : (((prodR (cs.take k)).take i).flatMap fun x => c.map (x ++ [·])).length ≤ 3000 := by
  have h := flatMap_take_le (fun x => c.map (x ++ [·])) (prodR (cs.take k)) i
  rw [← prodR_take_succ hc] at h
  exact Nat.le_trans h (hb (k + 1))

set_option maxRecDepth 100000 in
set_option maxHeartbeats 6400000 in
theorem productN_any (v : Value) (cs : List (List Int)) (w : World) (hx : Rep2 IntE w v cs) (hl : cs.length ≤ 1048576) (hcl : ∀ c ∈ cs, c.length ≤ 1048576) (hb : ∀ k, (prodR (cs.take k)).length ≤ 3000) :
    Calls Tryz.prog 137 #[v] w fun e w' => ∃ u : Slc, e = .returned (.slice u.a u.n u.cap) ∧ RowsG IntE 3 25 w' w.heap.size u.v (prodR cs) ∧ Below w.heap.size w w' := by
  obtain ⟨a0, c0, rfl, hc1, hc2, hc3, hx⟩ := hx.open
  have HX := hide hx
  have HP := hide (fun k c hc => prodR_take_succ (cs := cs) (k := k) (c := c) hc)
  have HPR := hide (fun k r (hr : r ∈ prodR (cs.take k)) => prodR_row _ r hr)
  have HPB := hide hb
  have HPP := hide (fun k c (hc : cs[k]? = some c) i => prodR_part hc hb i)
  have HP0 : Hid (prodR (cs.take 0) = [[]]) := hide rfl
  have HPE : Hid (prodR cs = prodR (cs.take cs.length)) := hide (by rw [List.take_length])
  have HCLL := hide hcl
  clear hx hb hcl
  generalize hn : cs.length = n at *
  have H := hide hn; clear hn
  have HT : Hid (3 ≠ 25) := hide (by decide)
  go_enter Tryz.func137, Tryz.ntmps137
  go_wp2_with fail
  go_loopw [3, 14] (fun s i wr => ∃ k : Nat, k ≤ n ∧ i = .int .i64 k ∧ RowsG IntE 3 25 wr w.heap.size s (prodR (cs.take k)) ∧ Below w.heap.size w wr) (fun _ i _ => n - (intOf i).toNat)
  case atStart => exact ⟨0, Nat.zero_le _, rfl, by rw [HP0.out]; exact RowsG.one HT.out w, (Below.refl _ _).alloc (Nat.le_refl _) _⟩
  case round =>
    obtain ⟨k, hk, rfl, hrows, hbr⟩ := hrel
    by_cases hlt : k < n
    · obtain ⟨c, hck⟩ := get_of_lt (xs := cs) (k := k) (by rw [H.out]; exact hlt)
      have hltk := nat_of_lt hlt
      obtain ⟨b, o, ca, cc, rfl, hbf, f0, hrow⟩ := (HX.out.below hbr).row hck
      have PS := hide (HP.out k c hck)
      have PR := hide (HPR.out k)
      have PB := hide (HPB.out k)
      have PP := hide (HPP.out k c hck)
      have hclen := HCLL.out c (List.mem_of_getElem? hck)
      have HRC := hide hrow; have HBR := hide hbr
      obtain ⟨us0, ds0, hU0⟩ := hrows
      obtain ⟨⟨aa, an, ac⟩, hsv, -⟩ := hU0.own.toSlc
      simp only [Slc.v] at hsv
      subst hsv
      have hA : RowsG _ _ _ _ _ _ _ := ⟨us0, ds0, hU0⟩
      have HAN : Hid ((prodR (cs.take k)).length = an) := hide (RowsG.len hA).symm
      have HA := hide hA
      clear hrow hbr hck hU0 hA
      generalize prodR (cs.take k) = A at *
      generalize hcn : c.length = cn at *
      have HCN := hide hcn; clear hcn
      have hanb : an ≤ 3000 := by have := PB.out; have := HAN.out; omega
      obtain ⟨wA, rfl⟩ : ∃ W : World, W = wr := ⟨_, rfl⟩
      go_wp2_with fail
      go_loopw [6, 20] (fun s i wr => ∃ j : Nat, j ≤ an ∧ i = .int .i64 j ∧ RowsG IntE 3 25 wr wA.heap.size s ((A.take j).flatMap fun x => c.map (x ++ [·])) ∧ Below wA.heap.size wA wr) (fun _ i _ => an - (intOf i).toNat)
      case atStart => exact ⟨0, Nat.zero_le _, rfl, OwnF.nil _ wA _, Below.refl _ _⟩
      case round =>
        obtain ⟨j, hj, rfl, hrows, hbr⟩ := hrel
        by_cases hltj : j < an
        · obtain ⟨x, hxj⟩ := get_of_lt (xs := A) (k := j) (by rw [HAN.out]; exact hltj)
          have hltj' := nat_of_lt hltj
          obtain ⟨⟨sa, sn, sc⟩, g, hga, hg, g00, hrep⟩ := RowsG.row HA.out hxj
          subst hga
          have g0 := (hbr.cell (p := ⟨g, j, none⟩) hg).trans g00
          have GS := hide (flatMap_take_succ (fun x => c.map (x ++ [·])) hxj)
          have hxr := PR.out x (List.mem_of_getElem? hxj)
          have hxl : x.length ≤ 1048576 := by rw [hxr, List.length_take]; omega
          have P1 := hide (PP.out (j + 1))
          rw [GS.out] at P1
          generalize (A.take j).flatMap (fun x => c.map (x ++ [·])) = G at *
          have HXX := hide hrep
          have HRO := hide hrows; have HB2 := hide hbr
          clear hrows hbr hxj hrep hxr g00
          go_wp2_with fail
          go_loopw [6, 26] (fun s i wr => ∃ t : Nat, t ≤ cn ∧ i = .int .i64 t ∧ RowsG IntE 3 25 wr wA.heap.size s (G ++ (c.take t).map (x ++ [·])) ∧ Below wA.heap.size wA wr) (fun _ i _ => cn - (intOf i).toNat)
          case atStart => exact ⟨0, Nat.zero_le _, rfl, by rw [List.take_zero, List.map_nil, List.append_nil]; exact HRO.out, HB2.out⟩
          case round =>
            obtain ⟨t, ht, rfl, hrows, hbr⟩ := hrel
            by_cases hltt : t < cn
            · obtain ⟨y, hyt⟩ := get_of_lt (xs := c) (k := t) (by rw [HCN.out]; exact hltt)
              have hltt' := nat_of_lt hltt
              obtain ⟨d1, e1, rfl, hd1, q0⟩ := (HRC.out.below hbr).int hyt
              have RS : Hid (G ++ (c.take (t + 1)).map (x ++ [·]) = (G ++ (c.take t).map (x ++ [·])) ++ [x ++ [y]]) := hide (by rw [map_take_succ (x ++ [·]) hyt, List.append_assoc])
              have hlen : (G ++ (c.take t).map (x ++ [·])).length ≤ 68719476736 := by
                have h1 := P1.out
                rw [List.length_append, List.length_map] at h1 ⊢
                rw [List.length_take]
                omega
              have HC := hide (CloneV_any _ x wr (HXX.out.below hbr) hxl)
              obtain ⟨us, ds, hU⟩ := hrows
              have HUL : Hid (us.length ≤ 68719476736) := hide (by rw [hU.lu]; exact hlen)
              have HU := hide hU; have HB3 := hide hbr
              have hbs : wA.heap.size ≤ wr.heap.size := hbr.size
              generalize G ++ (c.take t).map (x ++ [·]) = GG at *
              clear hyt hU hbr hlen
              go_wp2_with fail
              (with_reducible refine HC.out.mono ?_); rintro e w5 ⟨vc, rfl, oc, hb5⟩
              have O5 := hide oc; have B5 := hide hb5
              clear oc hb5 HC
              go_wp2_with (at_builtin; first
                | (refine wpList_appL IntE 3 Tryz.infoInt rfl Tryz.underlying25 wr.heap.size _ x y (O5.out.alloc _) (by decide) (by omega) (by have := B5.out.size; simp; omega) rfl _ _ rfl rfl w5.heap.size 0 1 rfl news_alloc ?_; rintro ⟨a6, n6, c6⟩ w6 hown6 hgr6 -; have O6 := hide hown6; have B6 := hide ((B5.out.alloc B5.out.size (.cells #[.int .i64 y] 3)).grown hgr6 (by have := B5.out.size; simp; omega) (fun q hq => (World.ownsRow.lt O5.out q hq).1)); have hb6 := B6.out.size; clear hown6 hgr6)
                | (refine wpList_appL SlcE 25 Tryz.infoIntS rfl Tryz.underlying33 wA.heap.size _ us ⟨a6, n6, c6⟩ ((HU.out.own.below B6.out).alloc _) (by decide) HUL.out (by simp; omega) rfl _ _ rfl rfl w6.heap.size 0 1 rfl news_alloc ?_; rintro ⟨ua, un, uc⟩ w9 hown8 hgr8 -))
              have R8 := RowsG.app HT.out HU.out B6.out hbs rfl O6.out hown8 hgr8
              have B8 := (HB3.out.trans (B6.out.mono hbs)).alloc (by omega) (.cells #[.slice a6 n6 c6] 25)
              have B9 := B8.grown hgr8 (by simp; omega) (fun q hq => (World.ownsRow.lt HU.out.own q hq).1)
              have HR8 := hide R8; have HB9 := hide B9
              clear R8 B9 B8
              go_roundw
              case rel => exact ⟨t + 1, by omega, by go_num, by rw [RS.out]; exact HR8.out, HB9.out⟩
              case measure => simp [intOf]; omega
            · obtain rfl : t = cn := by omega
              rw [List.take_of_length_le (by rw [HCN.out]; exact Nat.le_refl _), ← GS.out] at hrows
              go_wp2_with fail
              go_roundw
              case rel => exact ⟨j + 1, by omega, by go_num, hrows, hbr⟩
              case measure => simp [intOf]; omega
        · obtain rfl : j = an := by omega
          rw [List.take_of_length_le (by rw [HAN.out]; exact Nat.le_refl _), ← PS.out] at hrows
          have HR := hide (OwnF.mono hrows HBR.out.size)
          have HB := hide (HBR.out.trans (hbr.mono HBR.out.size))
          clear hrows hbr
          go_wp2_with fail
          go_roundw
          case rel => exact ⟨k + 1, by omega, by go_num, HR.out, HB.out⟩
          case measure => simp [intOf]; omega
    · obtain rfl : k = n := by omega
      obtain ⟨us, ds, hU⟩ := hrows
      obtain ⟨⟨qa, qn, qc⟩, rfl, -⟩ := hU.own.toSlc
      have hrows : RowsG _ _ _ _ _ _ _ := ⟨us, ds, hU⟩
      clear hU
      go_wp2_with fail
      go_ret
      exact ⟨⟨qa, qn, qc⟩, rfl, by rw [HPE.out]; exact hrows, hbr⟩

theorem CloneS_any (v : Value) (xs : List Slc) (w : World) (hx : Rep SlcE w v xs) (hl : xs.length ≤ 1048576) :
    Calls Tryz.prog 218 #[v] w (RetOwn SlcE 25 w xs) := by
  obtain ⟨a, c, rfl, hc1, hc2, hc3, hx⟩ := hx.open
  have HX := hide hx; clear hx
  generalize hn : xs.length = n at *
  have H := hide hn; clear hn
  have hlen : ([] : List Slc).length + n ≤ 68719476736 := by simp; omega
  cases a with
  | none =>
    have hE := fun w' : World => eql_slice_nil Tryz.prog w' 33 25 none n c 0 0 Tryz.underlying33
    have hn0 : xs = [] := by
      cases xs with
      | nil => rfl
      | cons x xs => obtain ⟨b, o, he, _⟩ := HX.out.slc (k := 0) (x := x) rfl; cases he
    subst hn0
    go_enter Tryz.func218, Tryz.ntmps218
    go_wp2_with fail
    go_ret
    exact ⟨_, rfl, Own.nil _ _ _, Below.refl _ _⟩
  | some ad =>
    have hE := fun w' : World => eql_slice_nil Tryz.prog w' 33 25 (some ad) n c 0 0 Tryz.underlying33
    go_enter Tryz.func218, Tryz.ntmps218
    go_wp2_with (at_builtin; refine wpList_appS SlcE 25 Tryz.infoIntS rfl Tryz.underlying33 w.heap.size _ [] xs _ (Own.empty _ w (Nat.le_refl _)) (HX.out.below ((Below.refl _ _).alloc (Nat.le_refl _) _)) (by decide) (by rw [H.out]; exact hlen) (by simp) rfl _ _ rfl rfl rfl ?_; intro v' w1 hown1 hgr1)
    go_ret
    exact ⟨_, rfl, by simpa using hown1, ((Below.refl _ _).alloc (Nat.le_refl _) _).grown hgr1 (by simp) (fun k hk => by simp [Value.ownBlock] at hk; omega)⟩

set_option maxRecDepth 100000 in
set_option maxHeartbeats 6400000 in
theorem productS_any (v : Value) (cs : List (List Slc)) (w : World) (hx : Rep2 SlcE w v cs) (hl : cs.length ≤ 1048576) (hcl : ∀ c ∈ cs, c.length ≤ 1048576) (hb : ∀ k, (prodR (cs.take k)).length ≤ 3000) :
    Calls Tryz.prog 138 #[v] w fun e w' => ∃ u : Slc, e = .returned (.slice u.a u.n u.cap) ∧ RowsG SlcE 25 33 w' w.heap.size u.v (prodR cs) ∧ Below w.heap.size w w' := by
  obtain ⟨a0, c0, rfl, hc1, hc2, hc3, hx⟩ := hx.open
  have HX := hide hx
  have HP := hide (fun k c hc => prodR_take_succ (cs := cs) (k := k) (c := c) hc)
  have HPR := hide (fun k r (hr : r ∈ prodR (cs.take k)) => prodR_row _ r hr)
  have HPB := hide hb
  have HPP := hide (fun k c (hc : cs[k]? = some c) i => prodR_part hc hb i)
  have HP0 : Hid (prodR (cs.take 0) = [[]]) := hide rfl
  have HPE : Hid (prodR cs = prodR (cs.take cs.length)) := hide (by rw [List.take_length])
  have HCLL := hide hcl
  clear hx hb hcl
  generalize hn : cs.length = n at *
  have H := hide hn; clear hn
  have HT : Hid (25 ≠ 33) := hide (by decide)
  go_enter Tryz.func138, Tryz.ntmps138
  go_wp2_with fail
  go_loopw [3, 14] (fun s i wr => ∃ k : Nat, k ≤ n ∧ i = .int .i64 k ∧ RowsG SlcE 25 33 wr w.heap.size s (prodR (cs.take k)) ∧ Below w.heap.size w wr) (fun _ i _ => n - (intOf i).toNat)
  case atStart => exact ⟨0, Nat.zero_le _, rfl, by rw [HP0.out]; exact RowsG.one HT.out w, (Below.refl _ _).alloc (Nat.le_refl _) _⟩
  case round =>
    obtain ⟨k, hk, rfl, hrows, hbr⟩ := hrel
    by_cases hlt : k < n
    · obtain ⟨c, hck⟩ := get_of_lt (xs := cs) (k := k) (by rw [H.out]; exact hlt)
      have hltk := nat_of_lt hlt
      obtain ⟨b, o, ca, cc, rfl, hbf, f0, hrow⟩ := (HX.out.below hbr).row hck
      have PS := hide (HP.out k c hck)
      have PR := hide (HPR.out k)
      have PB := hide (HPB.out k)
      have PP := hide (HPP.out k c hck)
      have hclen := HCLL.out c (List.mem_of_getElem? hck)
      have HRC := hide hrow; have HBR := hide hbr
      obtain ⟨us0, ds0, hU0⟩ := hrows
      obtain ⟨⟨aa, an, ac⟩, hsv, -⟩ := hU0.own.toSlc
      simp only [Slc.v] at hsv
      subst hsv
      have hA : RowsG _ _ _ _ _ _ _ := ⟨us0, ds0, hU0⟩
      have HAN : Hid ((prodR (cs.take k)).length = an) := hide (RowsG.len hA).symm
      have HA := hide hA
      clear hrow hbr hck hU0 hA
      generalize prodR (cs.take k) = A at *
      generalize hcn : c.length = cn at *
      have HCN := hide hcn; clear hcn
      have hanb : an ≤ 3000 := by have := PB.out; have := HAN.out; omega
      obtain ⟨wA, rfl⟩ : ∃ W : World, W = wr := ⟨_, rfl⟩
      go_wp2_with fail
      go_loopw [6, 20] (fun s i wr => ∃ j : Nat, j ≤ an ∧ i = .int .i64 j ∧ RowsG SlcE 25 33 wr wA.heap.size s ((A.take j).flatMap fun x => c.map (x ++ [·])) ∧ Below wA.heap.size wA wr) (fun _ i _ => an - (intOf i).toNat)
      case atStart => exact ⟨0, Nat.zero_le _, rfl, OwnF.nil _ wA _, Below.refl _ _⟩
      case round =>
        obtain ⟨j, hj, rfl, hrows, hbr⟩ := hrel
        by_cases hltj : j < an
        · obtain ⟨x, hxj⟩ := get_of_lt (xs := A) (k := j) (by rw [HAN.out]; exact hltj)
          have hltj' := nat_of_lt hltj
          obtain ⟨⟨sa, sn, sc⟩, g, hga, hg, g00, hrep⟩ := RowsG.row HA.out hxj
          subst hga
          have g0 := (hbr.cell (p := ⟨g, j, none⟩) hg).trans g00
          have GS := hide (flatMap_take_succ (fun x => c.map (x ++ [·])) hxj)
          have hxr := PR.out x (List.mem_of_getElem? hxj)
          have hxl : x.length ≤ 1048576 := by rw [hxr, List.length_take]; omega
          have P1 := hide (PP.out (j + 1))
          rw [GS.out] at P1
          generalize (A.take j).flatMap (fun x => c.map (x ++ [·])) = G at *
          have HXX := hide hrep
          have HRO := hide hrows; have HB2 := hide hbr
          clear hrows hbr hxj hrep hxr g00
          go_wp2_with fail
          go_loopw [6, 26] (fun s i wr => ∃ t : Nat, t ≤ cn ∧ i = .int .i64 t ∧ RowsG SlcE 25 33 wr wA.heap.size s (G ++ (c.take t).map (x ++ [·])) ∧ Below wA.heap.size wA wr) (fun _ i _ => cn - (intOf i).toNat)
          case atStart => exact ⟨0, Nat.zero_le _, rfl, by rw [List.take_zero, List.map_nil, List.append_nil]; exact HRO.out, HB2.out⟩
          case round =>
            obtain ⟨t, ht, rfl, hrows, hbr⟩ := hrel
            by_cases hltt : t < cn
            · obtain ⟨y, hyt⟩ := get_of_lt (xs := c) (k := t) (by rw [HCN.out]; exact hltt)
              have hltt' := nat_of_lt hltt
              obtain ⟨d1, e1, rfl, hd1, q0⟩ := (HRC.out.below hbr).slc hyt
              have RS : Hid (G ++ (c.take (t + 1)).map (x ++ [·]) = (G ++ (c.take t).map (x ++ [·])) ++ [x ++ [y]]) := hide (by rw [map_take_succ (x ++ [·]) hyt, List.append_assoc])
              have hlen : (G ++ (c.take t).map (x ++ [·])).length ≤ 68719476736 := by
                have h1 := P1.out
                rw [List.length_append, List.length_map] at h1 ⊢
                rw [List.length_take]
                omega
              have HC := hide (CloneS_any _ x wr (HXX.out.below hbr) hxl)
              obtain ⟨us, ds, hU⟩ := hrows
              have HUL : Hid (us.length ≤ 68719476736) := hide (by rw [hU.lu]; exact hlen)
              have HU := hide hU; have HB3 := hide hbr
              have hbs : wA.heap.size ≤ wr.heap.size := hbr.size
              generalize G ++ (c.take t).map (x ++ [·]) = GG at *
              clear hyt hU hbr hlen
              go_wp2_with fail
              (with_reducible refine HC.out.mono ?_); rintro e w5 ⟨vc, rfl, oc, hb5⟩
              have O5 := hide oc; have B5 := hide hb5
              clear oc hb5 HC
              go_wp2_with (at_builtin; first
                | (refine wpList_appL SlcE 25 Tryz.infoIntS rfl Tryz.underlying33 wr.heap.size _ x y (O5.out.alloc _) (by decide) (by omega) (by have := B5.out.size; simp; omega) rfl _ _ rfl rfl w5.heap.size 0 1 rfl news_alloc ?_; rintro ⟨a6, n6, c6⟩ w6 hown6 hgr6 -; have O6 := hide hown6; have B6 := hide ((B5.out.alloc B5.out.size (.cells #[.slice y.a y.n y.cap] 25)).grown hgr6 (by have := B5.out.size; simp; omega) (fun q hq => (World.ownsRow.lt O5.out q hq).1)); have hb6 := B6.out.size; clear hown6 hgr6)
                | (refine wpList_appL SlcE 33 Tryz.infoIntSS rfl Tryz.underlying152 wA.heap.size _ us ⟨a6, n6, c6⟩ ((HU.out.own.below B6.out).alloc _) (by decide) HUL.out (by simp; omega) rfl _ _ rfl rfl w6.heap.size 0 1 rfl news_alloc ?_; rintro ⟨ua, un, uc⟩ w9 hown8 hgr8 -))
              have R8 := RowsG.app HT.out HU.out B6.out hbs rfl O6.out hown8 hgr8
              have B8 := (HB3.out.trans (B6.out.mono hbs)).alloc (by omega) (.cells #[.slice a6 n6 c6] 33)
              have B9 := B8.grown hgr8 (by simp; omega) (fun q hq => (World.ownsRow.lt HU.out.own q hq).1)
              have HR8 := hide R8; have HB9 := hide B9
              clear R8 B9 B8
              go_roundw
              case rel => exact ⟨t + 1, by omega, by go_num, by rw [RS.out]; exact HR8.out, HB9.out⟩
              case measure => simp [intOf]; omega
            · obtain rfl : t = cn := by omega
              rw [List.take_of_length_le (by rw [HCN.out]; exact Nat.le_refl _), ← GS.out] at hrows
              go_wp2_with fail
              go_roundw
              case rel => exact ⟨j + 1, by omega, by go_num, hrows, hbr⟩
              case measure => simp [intOf]; omega
        · obtain rfl : j = an := by omega
          rw [List.take_of_length_le (by rw [HAN.out]; exact Nat.le_refl _), ← PS.out] at hrows
          have HR := hide (OwnF.mono hrows HBR.out.size)
          have HB := hide (HBR.out.trans (hbr.mono HBR.out.size))
          clear hrows hbr
          go_wp2_with fail
          go_roundw
          case rel => exact ⟨k + 1, by omega, by go_num, HR.out, HB.out⟩
          case measure => simp [intOf]; omega
    · obtain rfl : k = n := by omega
      obtain ⟨us, ds, hU⟩ := hrows
      obtain ⟨⟨qa, qn, qc⟩, rfl, -⟩ := hU.own.toSlc
      have hrows : RowsG _ _ _ _ _ _ _ := ⟨us, ds, hU⟩
      clear hU
      go_wp2_with fail
      go_ret
      exact ⟨⟨qa, qn, qc⟩, rfl, by rw [HPE.out]; exact hrows, hbr⟩

end Go.Proofs.YtpbmlppdmdmfkaaGreatDoor
