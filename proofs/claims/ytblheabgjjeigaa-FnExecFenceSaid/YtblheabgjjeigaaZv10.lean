/-
  A region that draws its order and ends in one operation that waits for all others, by an invariant: each operation is walked once. No program in sight.
-/
import Derived.Test.YtblheabgjjeigaaZv05
import Derived.Test.YtblheabgjjeigaaZv09
import Derived.Deep.RegionLaw
import Derived.Test.YtblheabgjjeigaaZv02
import Derived.Maps.AppendAt
import Derived.Test.YtblheabgjjeigaaZv00
import Derived.OrdersIn
import Derived.Orders
namespace Go.Proofs.Ytblheabgjjeigaa
open Go.RowKit

theorem LocR.outs {T : TypeId} {lo hi a b : Nat} {w w' : World} {φ : World → Prop} (h : LocR T lo hi w φ) (ho : Outside a b w w') (hb : b ≤ lo) : LocR T lo hi w' φ :=
  h.step ho.size fun k ob h1 _ h3 _ => (ho.block k (Array.getElem?_eq_some_iff.1 h3).1 (.inr (by omega))).trans h3
theorem OwnFU.outs {α β : Type} {E : El α} {T : TypeId} {R : Dd → Dd → Prop} {φ : Dd → World → α → β → Prop} {us : List α} {ds : List Dd} {w w' : World} {base a b : Nat} {v : Value} {xs : List β} (h : OwnFU E T R φ us ds w base v xs) (ho : Outside a b w w') (hb : b ≤ base) : OwnFU E T R φ us ds w' base v xs :=
  ⟨h.lu, h.ld, h.pw, ho.own h.own fun q hq => .inr (by have := (World.ownsRow.lt h.own q hq).1; omega), fun i u d x h1 h2 h3 => ⟨(h.rows i u d x h1 h2 h3).1, (h.rows i u d x h1 h2 h3).2.outs ho (Nat.le_trans hb (h.rows i u d x h1 h2 h3).1)⟩⟩

/-- A program and a candidate. -/
def QD (lo : Nat) (v : Value) (w : World) : Prop := ∃ (u : Value) (f o : Slc) (P : List (List Ins)) (x : Xc), v = .tuple #[u, .agg #[.slice f.a f.n f.cap, .slice o.a o.n o.cap]] ∧ OwnP w lo u P ∧ P.length ≤ 4 ∧ (∀ r ∈ P, r.length ≤ 8) ∧ progValid P = true ∧
  x ∈ allX (evAll P) ∧ LocR 27 lo w.heap.size w (fun W => RepX W f.v o.v x)

set_option maxRecDepth 100000 in
set_option maxHeartbeats 3200000 in
theorem l6Draw_any (b : Nat) (a : Option Addr) (c : Nat) (xs : List Int) (p : Int) (w : World) (hr : Rd w b a c xs p) (hp : p ≤ 700000000) :
    Calls Try.prog 45 #[.pointer (some ⟨b, 0, none⟩)] w (RetRd w b a c xs p 61 (QD w.heap.size)) := by
  have HP := hide (fun (p : Int) n w' h hp (hn : n ≤ 3000) (hn0 : 0 ≤ n) => pick_any b a c xs p n w' h hp (by omega) (by omega))
  have HD := hide (fun (p : Int) w' h hp => l1Draw_anyV b a c xs p w' h hp)
  have hlt := hr.lt
  have R0 := hide (hr.allocNew (.cells #[.slice none 0 0, .slice none 0 0] 27))
  have O0 := hide (Outside.of_below (lo := b) (hi := b + 1) (belowAlloc w (.cells #[.slice none 0 0, .slice none 0 0] 27)))
  have HBX := hide (heap_alloc_new w (.cells #[.slice none 0 0, .slice none 0 0] 27))
  clear hr
  go_enter Try.func45, Try.ntmps45
  go_wp2_with fail
  (with_reducible refine (HD.out p _ R0.out (by omega)).mono ?_); rintro e w1 ⟨v1, p1, rfl, ⟨P, hP, hPl, hPr, hPv⟩, hp1, hr1, ho1⟩
  have hz0 : (w.alloc (.cells #[.slice none 0 0, .slice none 0 0] 27)).heap.size = w.heap.size + 1 := by simp
  have R1 := hide hr1; have O1 := hide (O0.out.trans ho1)
  have HP1 := hide (hP.mono (show w.heap.size + 1 ≤ _ by omega))
  have hfl : P.flatten.length ≤ 1048576 := by
    have := flatten_bound P 8 hPr
    have : P.length * 8 ≤ 4 * 8 := Nat.mul_le_mul_right _ hPl
    omega
  have HA := hide (l6All_any v1 P w1 hP.rep hfl hPv)
  have hbx : w1.heap[w.heap.size]? = some (.cells #[.slice none 0 0, .slice none 0 0] 27 (0, 0)) := (ho1.block _ (by omega) (.inr (by omega))).trans HBX.out
  have HBX1 := hide hbx
  have HNE := hide (allX_ne hPv); have HLE := hide (allX_le hPv)
  have HPl := hide hPl; have HPr := hide hPr; have HPv := hide hPv
  have hs1 := O1.out.size
  clear hP hPl hPr hPv hr1 ho1 hbx R0 O0 HBX HD hz0 hfl
  go_wp2_with fail
  (with_reducible refine HA.out.mono ?_); rintro e w2 ⟨⟨la, ln, lc⟩, rfl, hrows, hb2⟩
  have hln : ln = (allX (evAll P)).length := by
    rcases hrows.shape with ⟨h1, h2⟩ | ⟨g, cap, h1, -⟩
    · simp only [Slc.v, Value.slice.injEq] at h1; rw [h1.2.1, h2]; rfl
    · simp only [Slc.v, Value.slice.injEq] at h1; exact h1.2.1
  have hn1 : 1 ≤ ln := by have := HNE.out; omega
  have hn2 : ln ≤ 3000 := by have := HLE.out; omega
  have HLN : Hid ((allX (evAll P)).length = ln) := hide hln.symm
  clear hln HA
  have R2 := hide (R1.out.keep hb2 R1.out.lt); have O2 := hide (O1.out.trans (Outside.of_below hb2))
  have HP2 := hide (HP1.out.below hb2)
  have HBX2 := hide ((hb2.block w.heap.size (Array.getElem?_eq_some_iff.1 HBX1.out).1).trans HBX1.out)
  have HRW := hide hrows
  have hbw1 : b < w1.heap.size := R1.out.lt
  have hs2 := hb2.size
  clear hrows hb2 R1 O1 HP1 HBX1
  generalize hL : allX (evAll P) = L at *
  have HL : Hid (allX (evAll P) = L) := hide hL
  clear hL
  rcases OwnF.shape HRW.out with ⟨-, h0⟩ | ⟨g, cap, hla, hg1, hg2⟩
  · exfalso
    have := HNE.out
    rw [h0] at this; simp at this
  simp only [Slc.v, Value.slice.injEq] at hla
  obtain ⟨rfl, -, -⟩ := hla
  have HAT := hide (fun (Q : Nat) (w3 : World) (hQ : Q < ln) (ho3 : Outside b (b + 1) w2.drew w3) => by
    obtain ⟨us, ds, hU⟩ := HRW.out
    obtain ⟨x, hx⟩ := get_of_lt (xs := L) (k := Q) (by rw [HLN.out]; exact hQ)
    obtain ⟨u, d, g', -, -, hga, -, hg, hcell, hb, hloc⟩ := ((hU.below (Below.refl _ _).drew).outs ho3 (show b + 1 ≤ w1.heap.size by omega)).at hx
    simp only [Option.some.injEq, Addr.mk.injEq, and_true] at hga
    obtain rfl := hga
    have h0 := hcell 0 _ rfl
    have h1 := hcell 1 _ rfl
    simp only [XE, Nat.add_zero] at h0 h1
    exact (⟨u, x, hx, hg, h0, h1, hloc.wide (lo' := w.heap.size) (by omega) hloc.le (Nat.le_refl _)⟩ : ∃ (u : Sl2) (x : Xc), L[Q]? = some x ∧ g < w3.heap.size ∧ w3.cell? ⟨g, Q * 2, none⟩ = some (.slice u.f.a u.f.n u.f.cap) ∧ w3.cell? ⟨g, Q * 2 + 1, none⟩ = some (.slice u.o.a u.o.n u.o.cap) ∧ LocR 27 w.heap.size w3.heap.size w3 (fun W => RepX W u.f.v u.o.v x)))
  have HC := hide (HP.out p1 (ln : Int) w2.drew (R2.out.keep (Below.refl _ _).drew R2.out.lt) (by omega) (by omega) (by omega))
  go_wp2_with fail
  go_region_law (first
      | (go_simp; go_at_call 63; (with_reducible refine HC.out.mono ?_); rintro e w3 ⟨v3, p3, rfl, ⟨q, rfl, hq0, hqn⟩, hp3, hr3, ho3⟩; obtain ⟨Q, rfl⟩ : ∃ Q : Nat, q = (Q : Int) := ⟨q.toNat, by omega⟩; have hs3 : w2.heap.size ≤ w3.heap.size := ho3.size; have hQ : Q < ln := (by have := hqn (by omega); omega); have hQ' : (Q : Int) < (ln : Int) := (by omega); obtain ⟨⟨⟨f1, f2, f3⟩, ⟨o1, o2, o3⟩⟩, x, hx, hg3, c0, c1, hloc⟩ := HAT.out Q w3 hQ ho3; have hbx3 := (ho3.block w.heap.size (Array.getElem?_eq_some_iff.1 HBX2.out).1 (.inr (by omega))).trans HBX2.out; have r0 : w3.cell? ⟨w.heap.size, 0, none⟩ = some (.slice none 0 0) := cell_of_heapV hbx3 (k := 0) rfl; have r1 : w3.cell? ⟨w.heap.size, 1, none⟩ = some (.slice none 0 0) := cell_of_heapV hbx3 (k := 1) rfl; have rfz := frozen_of_heapV hbx3; have rlt := lt_of_cell r0))
  all_goals
    have hlt' : b < w.heap.size := hlt
    have P3 := (HP2.out.below (Below.refl _ _).drew).outHi ho3 (show b + 1 ≤ w.heap.size + 1 by omega)
    have S1 : Outside w.heap.size (w.heap.size + 1) w3 ((w3.setCell ⟨w.heap.size, 0, none⟩ (.slice f1 f2 f3)).setCell ⟨w.heap.size, 1, none⟩ (.slice o1 o2 o3)) := ⟨rfl, rfl, rfl, by simp, fun q _ hq => by rw [heap_setCell_other _ ⟨w.heap.size, 1, none⟩ q _ (show q ≠ w.heap.size by omega), heap_setCell_other _ ⟨w.heap.size, 0, none⟩ q _ (show q ≠ w.heap.size by omega)]⟩
    have P4 := (P3.outHi S1 (Nat.le_refl _)).mono (show w.heap.size ≤ w.heap.size + 1 by omega)
    have L2 : LocR 27 w.heap.size w3.heap.size ((w3.setCell ⟨w.heap.size, 0, none⟩ (.slice f1 f2 f3)).setCell ⟨w.heap.size, 1, none⟩ (.slice o1 o2 o3)) (fun V => RepX V (.slice f1 f2 f3) (.slice o1 o2 o3) x) := LocR.step hloc (by simp) (fun k' ob _ _ h1 h2 => by
      have hne : k' ≠ w.heap.size := by
        rintro rfl
        rw [hbx3] at h1
        simp only [Option.some.injEq] at h1
        exact h2 _ _ h1.symm
      rw [heap_setCell_other _ ⟨w.heap.size, 1, none⟩ k' _ hne, heap_setCell_other _ ⟨w.heap.size, 0, none⟩ k' _ hne]; exact h1)
    have hs : ((w3.setCell ⟨w.heap.size, 0, none⟩ (.slice f1 f2 f3)).setCell ⟨w.heap.size, 1, none⟩ (.slice o1 o2 o3)).heap.size = w3.heap.size := by simp
    go_wp2_with fail
    refine bodyPost_ret (v := .tuple #[v1, .agg #[.slice f1 f2 f3, .slice o1 o2 o3]]) (by simp [results, Try.results45, go_sem, *]) rfl ⟨_, p3, rfl, ⟨v1, ⟨f1, f2, f3⟩, ⟨o1, o2, o3⟩, P, x, rfl, P4, HPl.out, HPr.out, HPv.out, by rw [HL.out]; exact List.mem_of_getElem? hx, by rw [hs]; exact L2⟩, by omega, ((hr3.setNew hlt _ _).setNew hlt _ _), ((((O2.out.trans (Outside.of_below (Below.refl _ _).drew)).trans ho3).setNew (Nat.le_refl _) _ _).setNew (Nat.le_refl _) _ _)⟩

end Go.Proofs.Ytblheabgjjeigaa

namespace Go.Proofs.Ytblheabgjjeigaa
open Go.RowKit

theorem Rep.gap {w : World} {a : Option Addr} {n c : Nat} {xs : List Gp} (h : Rep GapE w (.slice a n c) xs) {k : Nat} {x : Gp} (hx : xs[k]? = some x) :
    ∃ b o, a = some ⟨b, o, none⟩ ∧ b < w.heap.size ∧ w.cell? ⟨b, o + k * 2, none⟩ = some (.int .i64 x.t) ∧ w.cell? ⟨b, o + k * 2 + 1, none⟩ = some (.int .i64 x.i) := by
  obtain ⟨a', c', hv, _, _, h⟩ := h
  simp only [Value.slice.injEq] at hv
  obtain ⟨rfl, rfl, rfl⟩ := hv
  obtain ⟨b, o, rfl, h'⟩ := h k x hx
  exact ⟨b, o, rfl, lt_of_cell (h' 0 _ rfl), h' 0 _ rfl, h' 1 _ rfl⟩

theorem Own.gap {T : TypeId} {w : World} {base g n cap : Nat} {xs : List Gp} (h : Own GapE T w base (.slice (some ⟨g, 0, none⟩) n cap) xs) {k : Nat} {x : Gp} (hx : xs[k]? = some x) :
    g < w.heap.size ∧ w.cell? ⟨g, k * 2, none⟩ = some (.int .i64 x.t) ∧ w.cell? ⟨g, k * 2 + 1, none⟩ = some (.int .i64 x.i) ∧ ∀ j, w.frozen? ⟨g, j, none⟩ = false :=
  ⟨(World.ownsRow.lt h g rfl).2, h.cell hx (j := 0) rfl, h.cell hx (j := 1) rfl, fun j => h.frozen j⟩

theorem Own.setGap {T : TypeId} {w : World} {base g n cap : Nat} {xs : List Gp} (h : Own GapE T w base (.slice (some ⟨g, 0, none⟩) n cap) xs) {k : Nat} {z : Gp} (hz : xs[k]? = some z) (x : Gp) :
    Own GapE T ((w.setCell ⟨g, k * 2, none⟩ (.int .i64 x.t)).setCell ⟨g, k * 2 + 1, none⟩ (.int .i64 x.i)) base (.slice (some ⟨g, 0, none⟩) n cap) (xs.set k x) := by
  have h0 := h.set (i := k) (j := 0) ⟨x.t, z.i⟩ (u := .int .i64 x.t) (by decide) hz rfl
  have h1 := h0.set (i := k) (j := 1) x (u := .int .i64 x.i) (by decide) (get_set_self hz _) rfl
  simp only [List.set_set] at h1
  exact h1

/-- The gap whose fields are numbered from m on. -/
def markG (m : Int) : Gp := ⟨m, m + 1⟩
/-- So many gaps, numbered from m on. -/
def marksG : Nat → Int → List Gp
  | 0, _ => []
  | n + 1, m => markG m :: marksG n (m + 2)

theorem marksG_length (n : Nat) (m : Int) : (marksG n m).length = n := by
  induction n generalizing m with
  | zero => rfl
  | succ n ih => simp [marksG, ih]

theorem marksG_get (n : Nat) (m : Int) {k : Nat} (h : k < n) : (marksG n m)[k]? = some (markG (m + 2 * k)) := by
  induction n generalizing m k with
  | zero => omega
  | succ n ih =>
    cases k with
    | zero => simp [marksG]
    | succ k => simp only [marksG, List.getElem?_cons_succ]; rw [ih _ (by omega)]; congr 2; omega

/-- The first k marked, the rest as they were. -/
theorem marksG_step (xs : List Gp) (m : Int) {k : Nat} (hk : k < xs.length) : ((marksG k m) ++ xs.drop k).set k (markG (m + 2 * k)) = marksG (k + 1) m ++ xs.drop (k + 1) := by
  have h1 : marksG (k + 1) m = marksG k m ++ [markG (m + 2 * k)] := by
    apply List.ext_getElem?
    intro i
    by_cases hi : i < k
    · rw [marksG_get _ _ (by omega), List.getElem?_append_left (by rw [marksG_length]; exact hi), marksG_get _ _ hi]
    · by_cases hi2 : i = k
      · subst hi2
        rw [marksG_get _ _ (by omega), List.getElem?_append_right (by rw [marksG_length]; omega), marksG_length]; simp
      · rw [List.getElem?_eq_none (by rw [marksG_length]; omega), List.getElem?_eq_none (by simp [marksG_length]; omega)]
  rw [List.set_append_right _ _ (by rw [marksG_length]; omega), marksG_length, Nat.sub_self, List.drop_eq_getElem_cons hk, List.set_cons_zero, h1]
  simp

end Go.Proofs.Ytblheabgjjeigaa

namespace Go.Proofs.Ytblheabgjjeigaa
open Go.RowKit

def OneStr (ys : List ByteArray) (v : Value) (_ : World) : Prop := ∃ y ∈ ys, v = .string y

theorem QP.below {lo : Nat} {v : Value} {w w' : World} (h : QP lo v w) (hb : Below w.heap.size w w') : QP lo v w' := by
  obtain ⟨P, h1, h2, h3⟩ := h
  exact ⟨P, h1.below hb, h2, h3⟩
theorem QP.mono {lo lo' : Nat} {v : Value} {w : World} (h : QP lo v w) (hl : lo' ≤ lo) : QP lo' v w := by
  obtain ⟨P, h1, h2, h3⟩ := h
  exact ⟨P, h1.mono hl, h2, h3⟩
theorem QP.outside {lo b : Nat} {v : Value} {w w' : World} (h : QP lo v w) (ho : Outside b (b + 1) w w') (hb : b < lo) : QP lo v w' := by
  obtain ⟨P, h1, h2, h3⟩ := h
  exact ⟨P, h1.outside ho hb, h2, h3⟩

set_option maxRecDepth 100000 in
set_option maxHeartbeats 1600000 in
theorem l1Execs200_any (v : Value) (p : List (List Ins)) (w : World) (hp : RepP w v p) (hl : p.flatten.length ≤ 1048576) (hpl : p.length ≤ 1048576) :
    Calls Try.prog 72 #[v, .int .i64 200] w fun e w' => ∃ k : Int, e = .returned (.int .i64 k) ∧ Below w.heap.size w w' := by
  have HP := hide hp; clear hp
  have HL := hide hl; clear hl
  go_enter Try.func72, Try.ntmps72
  go_wp2_with fail
  go_loopw [5, 6] (fun q i wr => ∃ (k : Nat) (N : Int), k ≤ 3 ∧ i = .int .i64 k ∧ q = .int .i64 N ∧ Below w.heap.size w wr) (fun _ i _ => 3 - (intOf i).toNat)
  case atStart => exact ⟨0, 1, by omega, rfl, rfl, Below.refl _ _⟩
  case round =>
    obtain ⟨k, N, hk, rfl, rfl, hb⟩ := hrel
    by_cases hlt : k < 3
    · have hlt' : (k : Int) ≤ 2 := by omega
      have hbR := Nat.le_trans (cnt_le_flatten (fR k) p) HL.out
      have hbW := Nat.le_trans (cnt_le_flatten (fW k) p) HL.out
      have C1 : ∀ w', RepP w' v p → Calls Try.prog 93 #[v, .int .i64 (k : Int), .bool true] w' fun e w2 => e = .returned (.int .i64 (cnt (fW k) p : Nat)) ∧ Below w'.heap.size w' w2 := fun w' h => by
        have := l1Count_any v p k true w' h HL.out hpl; rwa [fRW_true] at this
      have C2 : ∀ w', RepP w' v p → Calls Try.prog 93 #[v, .int .i64 (k : Int), .bool false] w' fun e w2 => e = .returned (.int .i64 (cnt (fR k) p : Nat)) ∧ Below w'.heap.size w' w2 := fun w' h => by
        have := l1Count_any v p k false w' h HL.out hpl; rwa [fRW_false] at this
      generalize hR : cnt (fR k) p = R at *
      generalize hW : cnt (fW k) p = W at *
      have D1 := hide C1; have D2 := hide C2
      clear hR hW C1 C2
      go_wp2_with (go_at_call 93; (with_reducible refine (D1.out _ (HP.out.below hb)).mono ?_); rintro e w1 ⟨rfl, hb1⟩)
      have hb := hb.trans (hb1.mono hb.size)
      clear hb1
      go_loopw [5, 8] (fun q i wr => ∃ (t : Nat) (M : Int), t ≤ R ∧ i = .int .i64 t ∧ q = .int .i64 M ∧ Below w.heap.size w wr) (fun _ i _ => R - (intOf i).toNat)
      case atStart => exact ⟨0, N, by omega, rfl, rfl, hb⟩
      case round =>
        clear hb
        obtain ⟨t, M, ht, rfl, rfl, hb⟩ := hrel
        by_cases hlt3 : t < R
        · have hlt3' := nat_of_lt hlt3
          by_cases hM : M ≤ 200
          · go_wp2_with (go_at_call 93; (with_reducible refine (D2.out _ (HP.out.below hb)).mono ?_); rintro e w1 ⟨rfl, hb1⟩)
            go_roundw
            case rel => exact ⟨t + 1, _, by omega, by go_num, rfl, hb.trans (hb1.mono hb.size)⟩
            case measure => simp [intOf]; omega
          · have hM' : decide (M ≤ 200) = false := decide_eq_false hM
            clear hM
            go_wp2_with (go_at_call 93; (with_reducible refine (D2.out _ (HP.out.below hb)).mono ?_); rintro e w1 ⟨rfl, hb1⟩)
            have hb := hb.trans (hb1.mono hb.size)
            clear hb1
            go_loopw [5, 9] (fun q i wr => ∃ (s : Nat) (L : Int), 1 ≤ s ∧ s ≤ W + 1 ∧ i = .int .i64 (s + 1) ∧ q = .int .i64 L ∧ Below w.heap.size w wr) (fun _ i _ => W + 1 - (intOf i).toNat)
            case atStart => exact ⟨1, M, by omega, by omega, rfl, rfl, hb⟩
            case round =>
              clear hb
              obtain ⟨s, L, hs1, hs2, rfl, rfl, hb⟩ := hrel
              by_cases hlt5 : (s : Int) + 1 ≤ W
              · by_cases hL : L ≤ 200
                · go_wp2_with fail
                  go_roundw
                  case rel => exact ⟨s + 1, _, by omega, by omega, by go_num, rfl, hb⟩
                  case measure => simp [intOf]; omega
                · have hL' : decide (L ≤ 200) = false := decide_eq_false hL
                  clear hL
                  go_wp2_with fail
                  go_roundw
                  case rel => exact ⟨k + 1, L, by omega, by go_num, rfl, hb⟩
                  case measure => simp [intOf]; omega
              · have hlt5' : decide ((s : Int) + 1 ≤ W) = false := decide_eq_false hlt5
                go_wp2_with fail
                go_roundw
                case rel => exact ⟨k + 1, L, by omega, by go_num, rfl, hb⟩
                case measure => simp [intOf]; omega
        · have hlt3' : decide (t < R) = false := decide_eq_false hlt3
          have hlt3'' : decide ((t : Int) < R) = false := decide_eq_false (by omega)
          go_wp2_with (go_at_call 93; (with_reducible refine (D2.out _ (HP.out.below hb)).mono ?_); rintro e w1 ⟨rfl, hb1⟩)
          have hb := hb.trans (hb1.mono hb.size)
          clear hb1
          go_loopw [5, 9] (fun q i wr => ∃ (s : Nat) (L : Int), 1 ≤ s ∧ s ≤ W + 1 ∧ i = .int .i64 (s + 1) ∧ q = .int .i64 L ∧ Below w.heap.size w wr) (fun _ i _ => W + 1 - (intOf i).toNat)
          case atStart => exact ⟨1, M, by omega, by omega, rfl, rfl, hb⟩
          case round =>
            clear hb
            obtain ⟨s, L, hs1, hs2, rfl, rfl, hb⟩ := hrel
            by_cases hlt5 : (s : Int) + 1 ≤ W
            · by_cases hL : L ≤ 200
              · go_wp2_with fail
                go_roundw
                case rel => exact ⟨s + 1, _, by omega, by omega, by go_num, rfl, hb⟩
                case measure => simp [intOf]; omega
              · have hL' : decide (L ≤ 200) = false := decide_eq_false hL
                clear hL
                go_wp2_with fail
                go_roundw
                case rel => exact ⟨k + 1, L, by omega, by go_num, rfl, hb⟩
                case measure => simp [intOf]; omega
            · have hlt5' : decide ((s : Int) + 1 ≤ W) = false := decide_eq_false hlt5
              go_wp2_with fail
              go_roundw
              case rel => exact ⟨k + 1, L, by omega, by go_num, rfl, hb⟩
              case measure => simp [intOf]; omega
    · have e : k = 3 := by omega
      subst e
      by_cases h3 : 200 < N
      · go_wp2_with fail
        go_ret
        first | exact ⟨_, rfl, hb⟩ | exact ⟨⟨_, rfl⟩, hb⟩
      · have h3' : decide (200 < N) = false := decide_eq_false h3
        go_wp2_with fail
        go_ret
        first | exact ⟨_, rfl, hb⟩ | exact ⟨⟨_, rfl⟩, hb⟩

def texts9 : List ByteArray := [⟨#[120, 61, 49, 59, 97, 61, 121, 124, 121, 61, 49, 59, 97, 61, 120]⟩, ⟨#[120, 61, 49, 59, 121, 61, 49, 124, 97, 61, 121, 59, 98, 61, 120]⟩, ⟨#[120, 61, 49, 59, 102, 101, 110, 99, 101, 59, 97, 61, 121, 124, 121, 61, 49, 59, 102, 101, 110, 99, 101, 59, 97, 61, 120]⟩]
theorem texts9_le : ∀ x ∈ texts9, x.size ≤ 1000 := by
  have h : (texts9.all fun x => decide (x.size ≤ 1000)) = true := by rfl
  intro x hx
  have := List.all_eq_true.1 h x hx
  simpa using this

def texts10 : List ByteArray := [⟨#[97, 61, 120, 58, 49, 59, 121, 61, 49, 124, 98, 61, 120, 58, 50]⟩, ⟨#[120, 61, 49, 59, 120, 61, 50, 124, 121, 61, 49, 59, 97, 61, 121]⟩, ⟨#[97, 61, 122, 58, 49, 124, 98, 61, 122, 58, 50, 124, 99, 61, 122, 58, 51]⟩, ⟨#[97, 61, 120, 124, 98, 61, 120]⟩, ⟨#[120, 61, 49, 59, 97, 61, 120, 58, 50, 124, 98, 61, 121, 59, 121, 61, 51]⟩, ⟨#[97, 61, 120, 58, 49, 59, 98, 61, 121, 58, 49, 124, 97, 61, 121, 58, 50, 59, 98, 61, 120, 58, 50]⟩]
theorem texts10_le : ∀ x ∈ texts10, x.size ≤ 1000 := by
  have h : (texts10.all fun x => decide (x.size ≤ 1000)) = true := by rfl
  intro x hx
  have := List.all_eq_true.1 h x hx
  simpa using this

end Go.Proofs.Ytblheabgjjeigaa

namespace Go.Proofs.Ytblheabgjjeigaa
open Go.RowKit

/-- A row that was appended to is laid back: in its own block, or in a new one. -/
theorem Own2U.rowput2 {α : Type} {E : El α} {T1 T2 : TypeId} {us : List Slc} {w w' : World} {base g n cap : Nat} {p : List (List α)} (h : Own2U E T1 T2 us w base (.slice (some ⟨g, 0, none⟩) n cap) p) {k : Nat} {s s' : Slc} (hs : us[k]? = some s) {r' : List α}
    (ho : Own E T2 w' base s'.v r') (hg : w.grownBy w' s.v.ownBlock) (hb : s'.v.ownBlock = s.v.ownBlock ∨ ∃ q, s'.v.ownBlock = some q ∧ w.heap.size ≤ q) : Own2U E T1 T2 (us.set k s') (w'.setCell ⟨g, k, none⟩ s'.v) base (.slice (some ⟨g, 0, none⟩) n cap) (p.set k r') := by
  obtain ⟨h1, h2, h3, h4, h5⟩ := h
  have hk := (List.getElem?_eq_some_iff.1 hs).1
  have hglt := (World.ownsRow.lt h2 g rfl).2
  have h2' := h2.grown hg (.inr (fun e => h5 k s hs g (by rw [← e]; rfl) rfl))
  have h2s := h2'.set (i := k) (j := 0) s' (u := s'.v) (by decide) hs rfl
  simp only [SlcE, Nat.mul_one, Nat.add_zero] at h2s
  have hgs : w'.grownBy (w'.setCell ⟨g, k, none⟩ s'.v) (some g) := grown_set (World.grownBy.refl _ _) _ _
  have hlt : ∀ (i : Nat) (u : Slc), us[i]? = some u → ∀ q, u.v.ownBlock = some q → q < w.heap.size := fun i u hi q hq => by
    obtain ⟨r, hr⟩ := get_of_lt (xs := p) (k := i) (by have := (List.getElem?_eq_some_iff.1 hi).1; omega)
    exact (World.ownsRow.lt (h3 i u r hi hr) q hq).2
  have hs5 : ∀ q, s'.v.ownBlock = some q → q ≠ g := fun q hq e => by
    subst e
    rcases hb with hb | ⟨q', h6, h7⟩
    · exact h5 k s hs q (by rw [← hb]; exact hq) rfl
    · rw [h6] at hq; simp at hq; omega
  have hs4 : ∀ (i : Nat) (u : Slc), us[i]? = some u → i ≠ k → ∀ q, u.v.ownBlock = some q → s'.v.ownBlock ≠ some q := fun i u hi hne q hq hq' => by
    rcases hb with hb | ⟨q', h6, h7⟩
    · exact h4 i k u s hi hs hne q hq (by rw [← hb]; exact hq')
    · rw [h6] at hq'; simp at hq'; have := hlt i u hi q hq; omega
  have split : ∀ (i : Nat) (u : Slc), (us.set k s')[i]? = some u → (i = k ∧ u = s') ∨ (i ≠ k ∧ us[i]? = some u) := fun i u hi => by
    rw [List.getElem?_set] at hi
    by_cases e : k = i
    · subst e; rw [if_pos rfl, if_pos hk] at hi; simp at hi; exact .inl ⟨rfl, hi.symm⟩
    · rw [if_neg e] at hi; exact .inr ⟨fun h => e h.symm, hi⟩
  refine ⟨by simp [h1], h2s, ?_, ?_, ?_⟩
  · intro i u r hi hr
    rcases split i u hi with ⟨e1, e2⟩ | ⟨hne, hi'⟩
    · rw [e1, List.getElem?_set, if_pos rfl, if_pos (by omega)] at hr
      simp at hr; subst hr
      rw [e2]
      refine ho.grown hgs ?_
      rcases hq : s'.v.ownBlock with _ | q
      · exact .inl rfl
      · exact .inr (fun e => hs5 q hq (by simpa using e))
    · rw [List.getElem?_set, if_neg (fun e => hne e.symm)] at hr
      refine ((h3 i u r hi' hr).grown hg ?_).grown hgs ?_
      · rcases hq : u.v.ownBlock with _ | q
        · exact .inl rfl
        · exact .inr (fun e => h4 i k u s hi' hs hne q hq e.symm)
      · rcases hq : u.v.ownBlock with _ | q
        · exact .inl rfl
        · exact .inr (fun e => h5 i u hi' q hq (by rw [e]; rfl))
  · intro i j u u' hi hj hij q hq hq'
    rcases split i u hi with ⟨e1, e2⟩ | ⟨hne, hi'⟩
    · rcases split j u' hj with ⟨e3, e4⟩ | ⟨hne', hj'⟩
      · omega
      · rw [e2] at hq; exact hs4 j u' hj' hne' q hq' hq
    · rcases split j u' hj with ⟨e3, e4⟩ | ⟨hne', hj'⟩
      · rw [e4] at hq'; exact hs4 i u hi' hne q hq hq'
      · exact h4 i j u u' hi' hj' hij q hq hq'
  · intro i u hi q hq hq'
    rcases split i u hi with ⟨e1, e2⟩ | ⟨hne, hi'⟩
    · rw [e2] at hq; exact hs5 q hq (by simp [Value.ownBlock] at hq'; exact hq'.symm)
    · exact h5 i u hi' q hq hq'

/-- 'append(s, x)' of one element, and where the result lies. -/
theorem wpList_appAt {α : Type} (E : El α) {P : Program} {w : World} {ops : Array Oper} {rest : List Oper} {o : Oper} {a : Act} {Q : Exit → Act → World → Prop}
    (T : TypeId) {zv : Value} {bytes : Nat} (hinfo : (P.info? T).map (fun i => (i.zero, i.size, i.bytes)) = some (some zv, E.sz, bytes)) (hz : zv.cells.size = E.sz) {t : TypeId} (h1 : P.underlying t = some (.slice T))
    (base : Nat) (v : Value) (xs : List α) (x : α) (hown : Own E T w base v xs) (hby : bytes ≤ 256) (hn : xs.length ≤ 68719476736) (hbase : base ≤ w.heap.size)
    (hg : o.guard = none) (s y : Operand) (hop : o.op = .call { callee := .builtin .append, args := #[s, y], argTypes := #[t, t] })
    (hs : a.eval s = v) (b off c : Nat) (hy : a.eval y = .slice (some ⟨b, off, none⟩) 1 c) (hnews : ∀ j u, (E.c x)[j]? = some u → w.cell? ⟨b, off + j, none⟩ = some u)
    (hK : ∀ v' w', Own E T w' base v' (xs ++ [x]) → w.grownBy w' v.ownBlock → (v'.ownBlock = v.ownBlock ∨ ∃ q, v'.ownBlock = some q ∧ w.heap.size ≤ q) → wpList P ops Q rest (a.put o.dst v') w') :
    wpList P ops Q (o :: rest) a w := by
  obtain ⟨it, hi, hz0, hz1, hz2⟩ := info_parts hinfo
  refine wpList_append_own_at w hg s y t hop base T it zv E.sz bytes h1 hi hz0 hz1 hz2 hz E.pos v xs.length _ hs hown ⟨b, off, none⟩ 1 c (E.c x) hy (by rw [E.len, Nat.one_mul]) ?_ (E.one x) (by unfold maxLen; omega) ?_ hbase ?_
  · intro j u hu
    have hadd : (⟨b, off, none⟩ : Addr).add j = ⟨b, off + j, none⟩ := by unfold Addr.add; split <;> simp_all
    rw [hadd]
    exact hnews j u hu
  · have := Nat.mul_le_mul (show xs.length + 1 ≤ 68719476737 by omega) hby
    omega
  · intro v' w' h2 h3 _ h5
    refine hK v' w' ?_ h3 ?_
    · unfold Own
      simpa [List.flatMap_append] using h2
    · rcases h5 with h5 | h5
      · exact .inl h5
      · exact .inr ⟨_, h5, Nat.le_refl _⟩

/-- The same, at a step of a region that draws. -/
theorem step_appAt {α : Type} (E : El α) {P : Program} {w : World} {ops : Array Oper} {o : Oper} {a : Act} {K : Act → World → Prop} {Q : Exit → Act → World → Prop} {F : Prop}
    (T : TypeId) {zv : Value} {bytes : Nat} (hinfo : (P.info? T).map (fun i => (i.zero, i.size, i.bytes)) = some (some zv, E.sz, bytes)) (hz : zv.cells.size = E.sz) {t : TypeId} (h1 : P.underlying t = some (.slice T))
    (base : Nat) (v : Value) (xs : List α) (x : α) (hown : Own E T w base v xs) (hby : bytes ≤ 256) (hn : xs.length ≤ 68719476736) (hbase : base ≤ w.heap.size)
    (hg : o.guard = none) (s y : Operand) (hop : o.op = .call { callee := .builtin .append, args := #[s, y], argTypes := #[t, t] })
    (hs : a.eval s = v) (b off c : Nat) (hy : a.eval y = .slice (some ⟨b, off, none⟩) 1 c) (hnews : ∀ j u, (E.c x)[j]? = some u → w.cell? ⟨b, off + j, none⟩ = some u)
    (hK : ∀ (s' : Slc) w', Own E T w' base s'.v (xs ++ [x]) → w.grownBy w' v.ownBlock → (s'.v.ownBlock = v.ownBlock ∨ ∃ q, s'.v.ownBlock = some q ∧ w.heap.size ≤ q) → K (a.put o.dst (.slice s'.a s'.n s'.cap)) w') :
    if Region.wanted o (yielded ops a.tmps) = true then Oper.wp P o a w K Q else F := by
  obtain ⟨it, hi, hz0, hz1, hz2⟩ := info_parts hinfo
  refine step_append_lies w hg s y t hop base T it zv E.sz bytes h1 hi hz0 hz1 hz2 hz E.pos v xs.length _ hs hown ⟨b, off, none⟩ 1 c (E.c x) hy (by rw [E.len, Nat.one_mul]) ?_ (E.one x) (by omega) (by unfold maxLen; omega) ?_ hbase _ rfl ?_
  · intro j u hu
    have hadd : (⟨b, off, none⟩ : Addr).add j = ⟨b, off + j, none⟩ := by unfold Addr.add; split <;> simp_all
    rw [hadd]
    exact hnews j u hu
  · have := Nat.mul_le_mul (show xs.length + 1 ≤ 68719476737 by omega) hby
    omega
  · intro g cap w' h2 h3 h4 _
    refine hK ⟨some ⟨g, 0, none⟩, xs.length + 1, cap⟩ w' ?_ h3 ?_
    · unfold Own
      simpa [List.flatMap_append] using h2
    · rcases h4 with h4 | h4
      · exact .inl h4.symm
      · exact .inr ⟨g, rfl, by omega⟩

/-- The first element is left out. -/
theorem Rep.tail {α : Type} {E : El α} {w : World} {g o n c : Nat} {xs : List α} (h : Rep E w (.slice (some ⟨g, o, none⟩) n c) xs) (hn : 1 ≤ n) : Rep E w (.slice (some ⟨g, o + E.sz, none⟩) (n - 1) (c - 1)) xs.tail := by
  obtain ⟨a', c', hv, h1, h2, h3⟩ := h
  simp only [Value.slice.injEq] at hv
  obtain ⟨rfl, rfl, rfl⟩ := hv
  refine ⟨_, c - 1, by rw [List.length_tail], by rw [List.length_tail]; omega, by omega, fun i x hx => ?_⟩
  rw [List.getElem?_tail] at hx
  obtain ⟨b, o', hb, hi⟩ := h3 (i + 1) x hx
  simp only [Option.some.injEq, Addr.mk.injEq, and_true] at hb
  obtain ⟨rfl, rfl⟩ := hb
  refine ⟨g, o + E.sz, rfl, fun j u hu => ?_⟩
  have := hi j u hu
  rw [Nat.add_mul, Nat.one_mul] at this
  rw [← this]
  congr 2
  omega

end Go.Proofs.Ytblheabgjjeigaa

namespace Go.Proofs.Ytblheabgjjeigaa
open Go.RowKit

/-- What the order's rule asks of operation i: it has not come, and what it waits for has. -/
structure MayCome (md : Region.Mode) (ops : Array Oper) (listed : Array Bool) (i : Nat) (o : Oper) : Prop where
  op : ops[i]? = some o
  new : listed[i]? = some false
  after : ∀ e ∈ o.after, Region.binds md e = true → listed[e.on]? = some true

theorem ready_spec {md : Region.Mode} {ops : Array Oper} {listed : Array Bool} (hs : listed.size = ops.size) {i : Nat} (h : i ∈ Region.ready md ops listed) : ∃ o, MayCome md ops listed i o := by
  unfold Region.ready at h
  rw [List.mem_filter] at h
  obtain ⟨h1, h2⟩ := h
  rw [List.mem_range] at h1
  rw [Bool.and_eq_true] at h2
  obtain ⟨h2, h3⟩ := h2
  rw [Array.getElem?_eq_getElem h1] at h3
  refine ⟨ops[i], Array.getElem?_eq_getElem h1, ?_, fun e he hb => ?_⟩
  · rw [Array.getElem?_eq_getElem (by omega)]
    have : listed.getD i true = listed[i]'(by omega) := by simp [Array.getD, show i < listed.size by omega]
    rw [this] at h2
    simpa using h2
  · simp only [Option.map_some, Option.getD_some, Array.all_eq_true'] at h3
    have h4 := h3 e he
    rw [hb] at h4
    simp only [Bool.not_true, Bool.false_or] at h4
    by_cases hl : e.on < listed.size
    · rw [Array.getElem?_eq_getElem hl]
      have : listed.getD e.on false = listed[e.on] := by simp [Array.getD, hl]
      rw [this] at h4; rw [h4]
    · have : listed.getD e.on false = false := by simp [Array.getD, hl]
      rw [this] at h4; cases h4

/-- Each operation waits for earlier ones alone. -/
def earlier (ops : Array Oper) : Bool := (List.range ops.size).all fun i => (ops[i]?.map fun o => o.after.all fun e => decide (e.on < i)).getD true

theorem ready_nil {md : Region.Mode} {ops : Array Oper} {listed : Array Bool} (hs : listed.size = ops.size) (he : earlier ops = true) (h : Region.ready md ops listed = []) : ∀ i, i < ops.size → listed[i]? = some true := by
  intro i
  induction i using Nat.strongRecOn with
  | ind i ih =>
    intro hi
    rw [Array.getElem?_eq_getElem (by omega)]
    by_cases e : listed[i]'(by omega) = true
    · rw [e]
    · exfalso
      have hm : i ∈ Region.ready md ops listed := by
        unfold Region.ready
        rw [List.mem_filter, List.mem_range]
        refine ⟨hi, ?_⟩
        rw [Bool.and_eq_true]
        refine ⟨?_, ?_⟩
        · have : listed.getD i true = listed[i]'(by omega) := by simp [Array.getD, show i < listed.size by omega]
          rw [this]; simpa using e
        · rw [Array.getElem?_eq_getElem hi]
          simp only [Option.map_some, Option.getD_some, Array.all_eq_true']
          intro x hx
          unfold earlier at he
          rw [List.all_eq_true] at he
          have h1 := he i (by simpa using hi)
          rw [Array.getElem?_eq_getElem hi] at h1
          simp only [Option.map_some, Option.getD_some, Array.all_eq_true'] at h1
          have h2 := h1 x hx
          simp only [decide_eq_true_eq] at h2
          have h3 := ih x.on h2 (by omega)
          have : listed.getD x.on false = true := by
            have hl : x.on < listed.size := by omega
            rw [Array.getElem?_eq_getElem hl] at h3
            simp only [Option.some.injEq] at h3
            simp [Array.getD, hl, h3]
          rw [this, Bool.or_true]
      rw [h] at hm; cases hm

def falses (l : Array Bool) : Nat := l.toList.countP fun b => !b

theorem falses_set {l : Array Bool} {i : Nat} (h : l[i]? = some false) : falses (l.setIfInBounds i true) + 1 = falses l := by
  unfold falses
  rw [Array.toList_setIfInBounds]
  have h' : l.toList[i]? = some false := by rw [Array.getElem?_toList]; exact h
  obtain ⟨h1, h2⟩ := List.getElem?_eq_some_iff.1 h'
  generalize l.toList = L at *
  clear h h' l
  induction L generalizing i with
  | nil => simp at h1
  | cons x L ih =>
    cases i with
    | zero => simp at h2; subst h2; simp
    | succ i =>
      simp at h1 h2
      have := ih h1 h2
      simp only [List.set_cons_succ, List.countP_cons]
      omega

theorem falses_zero {l : Array Bool} (h : falses l = 0) (i : Nat) : l[i]? ≠ some false := by
  intro e
  have := falses_set e
  omega

variable {F : Fence} {n : Nat} {P : Program} {ops : Array Oper} {Q : Exit → Act → World → Prop}

theorem wpAnyIn_inv {md : Region.Mode} (I : Array Bool → Act → World → Prop) (he : earlier ops = true)
    (hstep : ∀ (listed : Array Bool) (a : Act) (w : World), listed.size = ops.size → I listed a w → ∀ (i : Nat) (o : Oper), MayCome md ops listed i o → ∀ K : Act → World → Prop, (∀ a' w', I (listed.setIfInBounds i true) a' w' → K a' w') →
      if Region.wanted o (yielded ops a.tmps) = true then Oper.wpIn F n P o a w K Q else (∀ f, o.about P w a.eval = some f → F.fn f) ∧ K (a.put o.dst undef) w)
    (hend : ∀ (listed : Array Bool) (a : Act) (w : World), (∀ i, i < ops.size → listed[i]? = some true) → I listed a w → Q .normal a w) :
    ∀ (fuel : Nat) (listed : Array Bool) (a : Act) (w : World), listed.size = ops.size → falses listed ≤ fuel → I listed a w → wpAnyIn F n P md ops Q fuel listed a w := by
  intro fuel
  induction fuel with
  | zero =>
    intro listed a w hs hf hi
    have hr : Region.ready md ops listed = [] := by
      rcases hq : Region.ready md ops listed with _ | ⟨i, rest⟩
      · rfl
      · exfalso
        obtain ⟨o, ho⟩ := ready_spec hs (i := i) (by rw [hq]; simp)
        exact falses_zero (by omega) i ho.new
    exact ⟨hr, hend listed a w (ready_nil hs he hr) hi⟩
  | succ fuel ih =>
    intro listed a w hs hf hi
    refine ⟨fun hr => hend listed a w (ready_nil hs he hr) hi, fun i hm => ?_⟩
    obtain ⟨o, ho⟩ := ready_spec hs hm
    have hK := hstep listed a w hs hi i o ho (wpAnyIn F n P md ops Q fuel (listed.setIfInBounds i true)) (fun a' w' h => ih _ a' w' (by simp [hs]) (by have := falses_set ho.new; omega) h)
    unfold wpOpIn
    rw [ho.op]
    simp only
    exact hK

/-- A region that draws its order, by an invariant. -/
theorem wpIn_region_inv {id : Nat} {a : Act} {w : World} (hm : P.follows .mixedOrders = true) (I : Array Bool → Act → World → Prop) (he : earlier ops = true)
    (h0 : I (Array.replicate ops.size false) a w.drew)
    (hstep : ∀ (listed : Array Bool) (a : Act) (w : World), listed.size = ops.size → I listed a w → ∀ (i : Nat) (o : Oper), MayCome .any ops listed i o → ∀ K : Act → World → Prop, (∀ a' w', I (listed.setIfInBounds i true) a' w' → K a' w') →
      if Region.wanted o (yielded ops a.tmps) = true then Oper.wpIn F n P o a w K Q else (∀ f, o.about P w a.eval = some f → F.fn f) ∧ K (a.put o.dst undef) w)
    (hend : ∀ (listed : Array Bool) (a : Act) (w : World), (∀ i, i < ops.size → listed[i]? = some true) → I listed a w → Q .normal a w) :
    (Code.region id ops true).wpIn F n P Q a w :=
  wpIn_region_any hm (wpAnyIn_inv I he hstep hend ops.size _ a _ (by simp) (by unfold falses; refine Nat.le_trans List.countP_le_length ?_; simp) h0)

end Go.Proofs.Ytblheabgjjeigaa

namespace Go.Proofs.Ytblheabgjjeigaa
open Go.RowKit

section
variable {P : Program} {ops : Array Oper} {Q : Exit → Act → World → Prop}

theorem wpAny_invR {md : Region.Mode} (I : Array Bool → Act → World → Prop) (he : earlier ops = true)
    (hstep : ∀ (listed : Array Bool) (a : Act) (w : World), listed.size = ops.size → I listed a w → ∀ (i : Nat) (o : Oper), MayCome md ops listed i o → ∀ K : Act → World → Prop, (∀ a' w', I (listed.setIfInBounds i true) a' w' → K a' w') →
      if Region.wanted o (yielded ops a.tmps) = true then Oper.wp P o a w K Q else K (a.put o.dst undef) w)
    (hend : ∀ (listed : Array Bool) (a : Act) (w : World), (∀ i, i < ops.size → listed[i]? = some true) → I listed a w → Q .normal a w) :
    ∀ (fuel : Nat) (listed : Array Bool) (a : Act) (w : World), listed.size = ops.size → falses listed ≤ fuel → I listed a w → wpAny P md ops Q fuel listed a w := by
  intro fuel
  induction fuel with
  | zero =>
    intro listed a w hs hf hi
    have hr : Region.ready md ops listed = [] := by
      rcases hq : Region.ready md ops listed with _ | ⟨i, rest⟩
      · rfl
      · exfalso
        obtain ⟨o, ho⟩ := ready_spec hs (i := i) (by rw [hq]; simp)
        exact falses_zero (by omega) i ho.new
    exact ⟨hr, hend listed a w (ready_nil hs he hr) hi⟩
  | succ fuel ih =>
    intro listed a w hs hf hi
    refine ⟨fun hr => hend listed a w (ready_nil hs he hr) hi, fun i hm => ?_⟩
    obtain ⟨o, ho⟩ := ready_spec hs hm
    have hK := hstep listed a w hs hi i o ho (wpAny P md ops Q fuel (listed.setIfInBounds i true)) (fun a' w' h => ih _ a' w' (by simp [hs]) (by have := falses_set ho.new; omega) h)
    unfold wpOp
    rw [ho.op]
    simp only
    split
    · rename_i hw
      rw [if_pos hw] at hK
      exact .inl hK
    · rename_i hw
      rw [if_neg hw] at hK
      exact hK

/-- The last operation waits for all others. -/
def lastWaits (ops : Array Oper) (n : Nat) : Bool := (List.range n).all fun i => (ops[n]?.map fun o => o.after.any fun e => e.on == i && Region.binds .any e).getD false

/-- A region that draws its order, by an invariant, its last operation by itself. -/
theorem wp_region_inv {id n : Nat} {a : Act} {w : World} (hm : P.follows .mixedOrders = true) (hn : ops.size = n + 1) (he : earlier ops = true) (hlw : lastWaits ops n = true) (I : Act → Array Bool → Act → World → Prop)
    (h0 : I a (Array.replicate (n + 1) false) a w.drew)
    (hstep : ∀ (ls : Array Bool) (a' : Act) (w' : World), ls.size = n + 1 → ls[n]? = some false → I a ls a' w' → ∀ (i : Nat) (o : Oper), i < n → MayCome .any ops ls i o → ∀ K : Act → World → Prop, (∀ a'' w'', I a (ls.setIfInBounds i true) a'' w'' → K a'' w'') →
      if Region.wanted o (yielded ops a'.tmps) = true then Oper.wp P o a' w' K Q else K (a'.put o.dst undef) w')
    (hlast : ∀ (ls : Array Bool) (a' : Act) (w' : World), (∀ i, i < n → ls[i]? = some true) → I a ls a' w' → ∀ o, ops[n]? = some o →
      if Region.wanted o (yielded ops a'.tmps) = true then Oper.wp P o a' w' (fun a'' w'' => Q .normal a'' w'') Q else Q .normal (a'.put o.dst undef) w') :
    (Code.region id ops true).wp P Q a w := by
  refine wp_region_any hm (wpAny_invR (fun ls a' w' => (ls[n]? = some false ∧ I a ls a' w') ∨ (ls[n]? = some true ∧ (∀ i, i < n → ls[i]? = some true) ∧ Q .normal a' w')) he ?_ ?_ ops.size _ a _ (by simp) (by unfold falses; refine Nat.le_trans List.countP_le_length ?_; simp) (.inl ⟨by simp [hn], by rw [hn]; exact h0⟩))
  · intro ls a' w' hs hI i o mc K hK
    rcases hI with ⟨hf, hI⟩ | ⟨ht, hal, hQ⟩
    · by_cases hi : i = n
      · subst hi
        have hall : ∀ j, j < i → ls[j]? = some true := fun j hj => by
          unfold lastWaits at hlw
          rw [List.all_eq_true] at hlw
          have h1 := hlw j (List.mem_range.2 hj)
          rw [mc.op] at h1
          simp only [Option.map_some, Option.getD_some, Array.any_eq_true'] at h1
          obtain ⟨e, he1, he2⟩ := h1
          rw [Bool.and_eq_true] at he2
          have h3 := mc.after e he1 he2.2
          have h4 : e.on = j := by simpa using he2.1
          rw [h4] at h3; exact h3
        have h := hlast ls a' w' hall hI o mc.op
        have hset : (ls.setIfInBounds i true)[i]? = some true := by
          rw [Array.getElem?_setIfInBounds]; simp [hs, hn]
        have hall2 : ∀ j, j < i → (ls.setIfInBounds i true)[j]? = some true := fun j hj => by
          rw [Array.getElem?_setIfInBounds, if_neg (by omega)]; exact hall j hj
        split
        · rename_i hw
          rw [if_pos hw] at h
          exact Oper.wp_mono (fun a2 w2 h2 => hK a2 w2 (.inr ⟨hset, hall2, h2⟩)) h
        · rename_i hw
          rw [if_neg hw] at h
          exact hK _ _ (.inr ⟨hset, hall2, h⟩)
      · have hlt : i < n := by
          have := (Array.getElem?_eq_some_iff.1 mc.op).1
          omega
        have h := hstep ls a' w' (by rw [hs, hn]) hf hI i o hlt mc K (fun a2 w2 h2 => hK a2 w2 (.inl ⟨by rw [Array.getElem?_setIfInBounds]; simp [hi]; exact hf, h2⟩))
        exact h
    · exfalso
      by_cases hi : i = n
      · subst hi; rw [mc.new] at ht; cases ht
      · have hlt : i < n := by
          have := (Array.getElem?_eq_some_iff.1 mc.op).1
          omega
        have := hal i hlt
        rw [mc.new] at this; cases this
  · intro ls a' w' hall hI
    rcases hI with ⟨hf, -⟩ | ⟨-, -, hQ⟩
    · have := hall n (by omega)
      rw [hf] at this; cases this
    · exact hQ
end

/-- Values laid into slots. -/
def putAll (a : Act) : List (Tmp × Value) → Act
  | [] => a
  | (d, v) :: l => putAll (a.put (some d) v) l

/-- Operation k, if it has come, has put v, and what it waits for has come. -/
def Vd (ls : Array Bool) (k : Nat) (D : List Nat) (x v : Value) : Prop := ls[k]? = some true → (∀ d ∈ D, ls[d]? = some true) ∧ x = v
theorem ls_set {ls : Array Bool} {i j : Nat} (h : i ≠ j) : (ls.setIfInBounds i true)[j]? = ls[j]? := by
  rw [Array.getElem?_setIfInBounds, if_neg h]
theorem ls_got {ls : Array Bool} {i : Nat} (h : i < ls.size) : (ls.setIfInBounds i true)[i]? = some true := by
  rw [Array.getElem?_setIfInBounds, if_pos rfl, if_pos h]
theorem ls_keep {ls : Array Bool} {i j : Nat} (h : ls[j]? = some true) : (ls.setIfInBounds i true)[j]? = some true := by
  by_cases e : i = j
  · subst e; exact ls_got (Array.getElem?_eq_some_iff.1 h).1
  · rw [ls_set e]; exact h
theorem Vd.start {n k : Nat} {D : List Nat} {x v : Value} : Vd (Array.replicate n false) k D x v := fun h => by
  rw [Array.getElem?_replicate] at h; split at h <;> simp at h
theorem Vd.set {ls : Array Bool} {i k : Nat} {D : List Nat} {x v : Value} (h : Vd ls k D x v) (hik : i ≠ k) : Vd (ls.setIfInBounds i true) k D x v := fun e => by
  rw [ls_set hik] at e
  exact ⟨fun d hd => ls_keep ((h e).1 d hd), (h e).2⟩
theorem Vd.same {ls : Array Bool} {k : Nat} {D : List Nat} {v : Value} (hD : ∀ d ∈ D, ls[d]? = some true) : Vd (ls.setIfInBounds k true) k D v v := fun _ => ⟨fun d hd => ls_keep (hD d hd), rfl⟩
theorem Vd.void {ls : Array Bool} {i k : Nat} {D : List Nat} {x v v' : Value} (h : Vd ls k D x v) (hd : i ∈ D) (hik : i ≠ k) (hn : ls[i]? = some false) : Vd (ls.setIfInBounds i true) k D x v' := fun e => by
  rw [ls_set hik] at e
  have := (h e).1 i hd
  rw [hn] at this; cases this
theorem Vd.get {ls : Array Bool} {k : Nat} {D : List Nat} {x v : Value} (h : Vd ls k D x v) (e : ls[k]? = some true) : x = v := (h e).2

/-- Whether operation k has come. -/
def fl (ls : Array Bool) (k : Nat) : Bool := ls[k]? == some true
theorem fl_start {n k : Nat} : fl (Array.replicate n false) k = false := by
  unfold fl; rw [Array.getElem?_replicate]; split <;> simp
theorem fl_set {ls : Array Bool} {i k : Nat} (h : i ≠ k) : fl (ls.setIfInBounds i true) k = fl ls k := by unfold fl; rw [ls_set h]
theorem fl_got {ls : Array Bool} {n k : Nat} (hs : ls.size = n + 1) (h : k < n) : fl (ls.setIfInBounds k true) k = true := by unfold fl; rw [ls_got (by omega)]; rfl
theorem fl_no {ls : Array Bool} {k : Nat} (h : ls[k]? = some false) : fl ls k = false := by unfold fl; rw [h]; rfl
theorem fl_yes {ls : Array Bool} {k : Nat} (h : ls[k]? = some true) : fl ls k = true := by unfold fl; rw [h]; rfl

end Go.Proofs.Ytblheabgjjeigaa
