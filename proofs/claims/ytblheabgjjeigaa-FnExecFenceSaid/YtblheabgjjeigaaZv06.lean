/-
  Relations as rows of bits; conflicts. Plain.
-/
import Derived.Test.YtblheabgjjeigaaZv05
import Derived.Deep.RegionHeld3
import Derived.Deep.DeepCutAuto
import Derived.Test.YtblheabgjjeigaaZv01
import Derived.Test.YtblheabgjjeigaaZv03
namespace Go.Proofs.Ytblheabgjjeigaa
open Go.RowKit

theorem cell_of_block2 {w w' : World} {b : Nat} (h : w'.heap[b]? = w.heap[b]?) (o : Nat) : w'.cell? ⟨b, o, none⟩ = w.cell? ⟨b, o, none⟩ := by
  unfold World.cell?
  rw [h]

theorem kept_cell {w w' : World} {ob : Obj} {row : Option Nat} (hg : (w.alloc ob).grownBy w' row) {b : Nat} (hb : b < w.heap.size) (hne : ∀ q, row = some q → q ≠ b) (o : Nat) : w'.cell? ⟨b, o, none⟩ = w.cell? ⟨b, o, none⟩ := by
  refine cell_of_block2 ?_ o
  rw [hg.block b (by simp; omega) (fun e => hne b e.symm rfl), heap_alloc_old w ob hb]

set_option maxRecDepth 100000 in
set_option maxHeartbeats 3200000 in
theorem events_any (v : Value) (p : List (List Ins)) (w : World) (hp : RepP w v p) (hl : p.flatten.length ≤ 1048576) :
    Calls Try.prog 26 #[v] w (RetOwn EvE 36 w (evAll p)) := by
  obtain ⟨a, c, rfl, hc1, hc2, hc3, hp⟩ := hp.open
  have HP := hide hp; clear hp
  have HL := hide hl; clear hl
  have PP : Hid (evAll p = evHead 3 ++ evTo p p.length) := hide rfl
  have HGL := hide (evTo_length p)
  generalize hn : p.length = n at *
  have H := hide hn; clear hn
  go_enter Try.func26, Try.ntmps26
  go_wp2_with fail
  go_loopw [3, 9] (fun s i wr => ∃ j : Nat, j ≤ 3 ∧ i = .int .i64 j ∧ OwnE wr w.heap.size s (evHead j) ∧ Below w.heap.size w wr) (fun _ i _ => 3 - (intOf i).toNat)
  case atStart => exact ⟨0, by omega, rfl, Own.nil _ _ _, Below.refl _ _⟩
  case round =>
    obtain ⟨j, hj, rfl, hown, hb⟩ := hrel
    by_cases hlt : j < 3
    · have hlt' : (j : Int) < 3 := by omega
      have HS := hide (evHead_succ j)
      have hlen : (evHead j).length ≤ 68719476736 := by rw [evHead_length]; omega
      generalize evHead j = G at *
      go_wp2_with (at_builtin; refine wpList_app EvE 36 Try.infoEvent rfl Try.underlying33 w.heap.size _ _ ⟨-1, (j : Int), (j : Int), false, true⟩ (hown.alloc _) (by decide) hlen (by simp; have := hb.size; omega) rfl _ _ rfl rfl wr.heap.size 0 1 rfl news_alloc ?_; intro v' w1 hown1 hgr1)
      have hb1 := below_app hb hown hgr1
      go_roundw
      case rel => exact ⟨j + 1, by omega, by go_num, by rw [HS.out]; exact hown1, hb1⟩
      case measure => simp [intOf]; omega
    · obtain rfl : j = 3 := by omega
      have E3 : Hid (evHead 3 = evHead 3 ++ evTo p 0) := hide (by simp [evTo])
      have H3 : Hid ((evHead 3).length = 3) := hide (evHead_length 3)
      generalize evHead 3 = G3 at *
      go_wp2_with fail
      go_loopw [3, 21] (fun s i wr => ∃ j : Nat, j ≤ n ∧ i = .int .i64 j ∧ OwnE wr w.heap.size s (G3 ++ evTo p j) ∧ Below w.heap.size w wr) (fun _ i _ => n - (intOf i).toNat)
      case atStart => exact ⟨0, by omega, rfl, by rw [← E3.out]; exact hown, hb⟩
      case round =>
        obtain ⟨j, hj, rfl, hown, hb2⟩ := hrel
        by_cases hlt2 : j < n
        · obtain ⟨x, hxk⟩ := get_of_lt (xs := p) (k := j) (by rw [H.out]; exact hlt2)
          obtain ⟨b, o, ra, rc, rfl, hbl0, i00, i1⟩ := HP.out.row hxk
          have i0 := (hb2.cell (p := ⟨b, o + j, none⟩) hbl0).trans i00
          have hbl : b < wr.heap.size := by have := hb2.size; omega
          have I1 := hide i1
          have hlt2' := nat_of_lt hlt2
          have GS := hide (evTo_succ hxk)
          have hgl : (evTo p j).length ≤ 1048576 := Nat.le_trans (HGL.out j (by omega)) (Nat.le_trans (flatten_take_le p j) HL.out)
          have hxl := Nat.le_trans (row_le_flatten hxk) HL.out
          clear hxk i1 i00
          generalize hG : evTo p j = G at *
          clear hG
          have HO := hide hown; clear hown
          go_wp2_with fail
          go_loopw [3, 28] (fun s i wr => ∃ t : Nat, t ≤ x.length ∧ i = .int .i64 t ∧ OwnE wr w.heap.size s (G3 ++ (G ++ evRow j x t)) ∧ Below w.heap.size w wr) (fun _ i _ => x.length - (intOf i).toNat)
          case atStart => exact ⟨0, by omega, rfl, by simpa [evRow] using HO.out, hb2⟩
          case round =>
            obtain ⟨t, ht, rfl, hown, hb3⟩ := hrel
            by_cases hlt3 : t < x.length
            · obtain ⟨y, hy⟩ := get_of_lt (xs := x) (k := t) hlt3
              obtain ⟨d1, e1, rfl, hd1, q0, q1, q2, q3⟩ := (I1.out.below hb3).ins hy
              have hlt3' := nat_of_lt hlt3
              have RS := hide (evRow_succ (t := j) hy)
              have hrl := evRow_length j x t
              have Y := hide hy; clear hy
              by_cases hop : y.op = 4
              · have k1 : (y.op != 4) = false := by simp [hop]
                have RS2 : Hid (evRow j x (t + 1) = evRow j x t) := hide (by rw [RS.out, evOf, if_pos hop, List.append_nil])
                clear hop
                go_wp2_with fail
                go_roundw
                case rel => exact ⟨t + 1, by omega, by go_num, by rw [RS2.out]; exact hown.alloc _, hb3.alloc hb3.size _⟩
                case measure => simp [intOf]; omega
              · have k1 : (y.op != 4) = true := by simp [hop]
                have RS2 : Hid (evRow j x (t + 1) = evRow j x t ++ [⟨j, t, y.loc, isRop y.op, isWop y.op⟩]) := hide (by rw [RS.out, evOf, if_neg hop])
                have hlen : (G3 ++ (G ++ evRow j x t)).length ≤ 68719476736 := by rw [List.length_append, List.length_append, H3.out]; omega
                clear hop hrl
                generalize evRow j x t = RG at *
                have HO3 := hide (hown.alloc (.cells #[.int .i64 y.op, .int .i64 y.loc, .int .i64 y.reg, .int .i64 y.val] 53))
                have HB3 := hide (hb3.alloc hb3.size (.cells #[.int .i64 y.op, .int .i64 y.loc, .int .i64 y.reg, .int .i64 y.val] 53))
                have HRd := hide (fun w' => reads_raw y.op y.loc y.reg y.val w')
                have HWr := hide (fun w' => writes_raw y.op y.loc y.reg y.val w')
                generalize isRop y.op = rb at *
                generalize isWop y.op = wb at *
                have HOW := hide hown
                clear hown
                go_wp2_with fail
                go_region_held3 (fun V => V.cell? ⟨wr.heap.size, 0, none⟩ = some (.int .i64 y.op) ∧ V.cell? ⟨wr.heap.size, 1, none⟩ = some (.int .i64 y.loc) ∧ V.cell? ⟨wr.heap.size, 2, none⟩ = some (.int .i64 y.reg) ∧ V.cell? ⟨wr.heap.size, 3, none⟩ = some (.int .i64 y.val)) ((simp [go_sem, *]))
                  (first
                    | (go_at_call 58; (with_reducible refine (HRd.out _).mono ?_); rintro e u1 ⟨rfl, hb4⟩; have hb5 := hide (HB3.out.drew.trans (hb4.mono HB3.out.drew.size)); have hO5 := hide ((HO3.out.below (Below.refl _ _).drew).below hb4); obtain ⟨hc4, hf4⟩ := bcell hb4)
                    | (go_at_call 59; (with_reducible refine (HWr.out _).mono ?_); rintro e u2 ⟨rfl, hb6⟩; have hb7 := hide (hb5.out.trans (hb6.mono hb5.out.size)); have hO7 := hide (hO5.out.below hb6); obtain ⟨hc6, hf6⟩ := bcell (hb4.trans (hb6.mono hb4.size)); have hz6 : wr.heap.size < u2.heap.size := (by have h1 := hb4.size; have h2 := hb6.size; simp at h1; omega))
                    | (refine step_app EvE 36 Try.infoEvent rfl Try.underlying33 w.heap.size _ _ ⟨(j : Int), (t : Int), y.loc, rb, wb⟩ (hO7.out.alloc _) (by decide) hlen (by have := hb7.out.size; simp; omega) (by rfl) _ _ (by rfl) (by rfl) u2.heap.size 0 1 (by rfl) news_alloc ?_; intro v' w6 hown6 hgr6; have hk6 : (∀ o, w6.cell? ⟨wr.heap.size, o, none⟩ = u2.cell? ⟨wr.heap.size, o, none⟩) := (kept_cell hgr6 hz6 (fun q hq => by have := (World.ownsRow.lt HOW.out q hq).2; omega))))
                have hb8 := below_app hb7.out hO7.out hgr6
                go_wp2_with fail
                go_roundw
                case rel =>
                  have hown7 : OwnE w6 w.heap.size v' (G3 ++ (G ++ evRow j x (t + 1))) := by rw [RS2.out]; simpa [List.append_assoc] using hown6
                  repeat apply Exists.intro
                  exact ⟨⟨t + 1, by omega, by go_num, hown7, hb8⟩, rfl⟩
                case measure => simp [intOf]; omega
            · have e : t = x.length := by omega
              rw [e] at hown
              go_wp2_with fail
              go_roundw
              case rel => exact ⟨j + 1, by omega, by go_num, by rw [GS.out]; exact hown, hb3⟩
              case measure => simp [intOf]; omega
        · have e : j = n := by omega
          go_wp2_with fail
          go_ret
          rw [PP.out, ← e]
          exact ⟨_, rfl, hown, hb2⟩

end Go.Proofs.Ytblheabgjjeigaa

namespace Go.Proofs.Ytblheabgjjeigaa
open Go.RowKit

set_option maxRecDepth 100000 in
set_option maxHeartbeats 3200000 in
theorem l6Events_any (v : Value) (p : List (List Ins)) (w : World) (hp : RepP w v p) (hl : p.flatten.length ≤ 1048576) :
    Calls Try.prog 53 #[v] w (RetOwn EvE 36 w (evAll p)) := by
  obtain ⟨a, c, rfl, hc1, hc2, hc3, hp⟩ := hp.open
  have HP := hide hp; clear hp
  have HL := hide hl; clear hl
  have PP : Hid (evAll p = evHead 3 ++ evTo p p.length) := hide rfl
  have HGL := hide (evTo_length p)
  generalize hn : p.length = n at *
  have H := hide hn; clear hn
  go_enter Try.func53, Try.ntmps53
  go_wp2_with fail
  go_loopw [3, 4] (fun s i wr => ∃ j : Nat, j ≤ 3 ∧ i = .int .i64 j ∧ OwnE wr w.heap.size s (evHead j) ∧ Below w.heap.size w wr) (fun _ i _ => 3 - (intOf i).toNat)
  case atStart => exact ⟨0, by omega, rfl, Own.empty (E := EvE) _ w (Nat.le_refl _), (Below.refl _ _).alloc (Nat.le_refl _) _⟩
  case round =>
    obtain ⟨j, hj, rfl, hown, hb⟩ := hrel
    by_cases hlt : j < 3
    · have hlt' : (j : Int) ≤ 2 := by omega
      have HS := hide (evHead_succ j)
      have hlen : (evHead j).length ≤ 68719476736 := by rw [evHead_length]; omega
      generalize evHead j = G at *
      go_wp2_with (at_builtin; refine wpList_app EvE 36 Try.infoEvent rfl Try.underlying33 w.heap.size _ _ ⟨-1, (j : Int), (j : Int), false, true⟩ (hown.alloc _) (by decide) hlen (by simp; have := hb.size; omega) rfl _ _ rfl rfl wr.heap.size 0 1 rfl news_alloc ?_; intro v' w1 hown1 hgr1)
      have hb1 := below_app hb hown hgr1
      go_roundw
      case rel => exact ⟨j + 1, by omega, by go_num, by rw [HS.out]; exact hown1, hb1⟩
      case measure => simp [intOf]; omega
    · obtain rfl : j = 3 := by omega
      have E3 : Hid (evHead 3 = evHead 3 ++ evTo p 0) := hide (by simp [evTo])
      have H3 : Hid ((evHead 3).length = 3) := hide (evHead_length 3)
      generalize evHead 3 = G3 at *
      go_wp2_with fail
      go_loopw [3, 5] (fun s i wr => ∃ j : Nat, j ≤ n ∧ i = .int .i64 j ∧ OwnE wr w.heap.size s (G3 ++ evTo p j) ∧ Below w.heap.size w wr) (fun _ i _ => n - (intOf i).toNat)
      case atStart => exact ⟨0, by omega, rfl, by rw [← E3.out]; exact hown, hb⟩
      case round =>
        obtain ⟨j, hj, rfl, hown, hb2⟩ := hrel
        by_cases hlt2 : j < n
        · obtain ⟨x, hxk⟩ := get_of_lt (xs := p) (k := j) (by rw [H.out]; exact hlt2)
          obtain ⟨b, o, ra, rc, rfl, hbl0, i00, i1⟩ := HP.out.row hxk
          have i0 := (hb2.cell (p := ⟨b, o + j, none⟩) hbl0).trans i00
          have hbl : b < wr.heap.size := by have := hb2.size; omega
          have I1 := hide i1
          have hlt2' := nat_of_lt hlt2
          have GS := hide (evTo_succ hxk)
          have hgl : (evTo p j).length ≤ 1048576 := Nat.le_trans (HGL.out j (by omega)) (Nat.le_trans (flatten_take_le p j) HL.out)
          have hxl := Nat.le_trans (row_le_flatten hxk) HL.out
          have I00 := hide i00
          clear hxk i1 i00
          generalize hG : evTo p j = G at *
          clear hG
          have HO := hide hown; clear hown
          go_wp2_with fail
          go_loopw [3, 6] (fun s i wr => ∃ t : Nat, t ≤ x.length ∧ i = .int .i64 t ∧ OwnE wr w.heap.size s (G3 ++ (G ++ evRow j x t)) ∧ Below w.heap.size w wr) (fun _ i _ => x.length - (intOf i).toNat)
          case atStart => exact ⟨0, by omega, rfl, by simpa [evRow] using HO.out, hb2⟩
          case round =>
            obtain ⟨t, ht, rfl, hown, hb3⟩ := hrel
            have i0 := (hb3.cell (p := ⟨b, o + j, none⟩) hbl0).trans I00.out
            have hbl : b < wr.heap.size := by have := hb3.size; omega
            by_cases hlt3 : t < x.length
            · obtain ⟨y, hy⟩ := get_of_lt (xs := x) (k := t) hlt3
              obtain ⟨d1, e1, rfl, hd1, q0, q1, q2, q3⟩ := (I1.out.below hb3).ins hy
              have hlt3' := nat_of_lt hlt3
              have RS := hide (evRow_succ (t := j) hy)
              have hrl := evRow_length j x t
              have Y := hide hy; clear hy
              by_cases hop : y.op = 4
              · have k1 : (y.op != 4) = false := by simp [hop]
                have RS2 : Hid (evRow j x (t + 1) = evRow j x t) := hide (by rw [RS.out, evOf, if_pos hop, List.append_nil])
                clear hop
                go_wp2_with fail
                go_roundw
                case rel => exact ⟨t + 1, by omega, by go_num, by rw [RS2.out]; exact hown.alloc _, hb3.alloc hb3.size _⟩
                case measure => simp [intOf]; omega
              · have k1 : (y.op != 4) = true := by simp [hop]
                have RS2 : Hid (evRow j x (t + 1) = evRow j x t ++ [⟨j, t, y.loc, isRop y.op, isWop y.op⟩]) := hide (by rw [RS.out, evOf, if_neg hop])
                have hlen : (G3 ++ (G ++ evRow j x t)).length ≤ 68719476736 := by rw [List.length_append, List.length_append, H3.out]; omega
                clear hop hrl
                generalize evRow j x t = RG at *
                have HO3 := hide (hown.alloc (.cells #[.int .i64 y.op, .int .i64 y.loc, .int .i64 y.reg, .int .i64 y.val] 53))
                have HB3 := hide (hb3.alloc hb3.size (.cells #[.int .i64 y.op, .int .i64 y.loc, .int .i64 y.reg, .int .i64 y.val] 53))
                have HRd := hide (fun w' => l1Reads_raw y.op y.loc y.reg y.val w')
                have HWr := hide (fun w' => l1Writes_raw y.op y.loc y.reg y.val w')
                generalize isRop y.op = rb at *
                generalize isWop y.op = wb at *
                have HOW := hide hown
                clear hown
                go_wp2_with fail
                go_region_held3 (fun V => V.cell? ⟨wr.heap.size, 0, none⟩ = some (.int .i64 y.op) ∧ V.cell? ⟨wr.heap.size, 1, none⟩ = some (.int .i64 y.loc) ∧ V.cell? ⟨wr.heap.size, 2, none⟩ = some (.int .i64 y.reg) ∧ V.cell? ⟨wr.heap.size, 3, none⟩ = some (.int .i64 y.val)) ((simp [go_sem, *]))
                  (first
                    | (go_at_call 85; (with_reducible refine (HRd.out _).mono ?_); rintro e u1 ⟨rfl, hb4⟩; have hb5 := hide (HB3.out.drew.trans (hb4.mono HB3.out.drew.size)); have hO5 := hide ((HO3.out.below (Below.refl _ _).drew).below hb4); obtain ⟨hc4, hf4⟩ := bcell hb4)
                    | (go_at_call 86; (with_reducible refine (HWr.out _).mono ?_); rintro e u2 ⟨rfl, hb6⟩; have hb7 := hide (hb5.out.trans (hb6.mono hb5.out.size)); have hO7 := hide (hO5.out.below hb6); obtain ⟨hc6, hf6⟩ := bcell (hb4.trans (hb6.mono hb4.size)); have hz6 : wr.heap.size < u2.heap.size := (by have h1 := hb4.size; have h2 := hb6.size; simp at h1; omega))
                    | (refine step_app EvE 36 Try.infoEvent rfl Try.underlying33 w.heap.size _ _ ⟨(j : Int), (t : Int), y.loc, rb, wb⟩ (hO7.out.alloc _) (by decide) hlen (by have := hb7.out.size; simp; omega) (by rfl) _ _ (by rfl) (by rfl) u2.heap.size 0 1 (by rfl) news_alloc ?_; intro v' w6 hown6 hgr6; have hk6 : (∀ o, w6.cell? ⟨wr.heap.size, o, none⟩ = u2.cell? ⟨wr.heap.size, o, none⟩) := (kept_cell hgr6 hz6 (fun q hq => by have := (World.ownsRow.lt HOW.out q hq).2; omega))))
                have hb8 := below_app hb7.out hO7.out hgr6
                go_wp2_with fail
                go_roundw
                case rel =>
                  have hown7 : OwnE w6 w.heap.size v' (G3 ++ (G ++ evRow j x (t + 1))) := by rw [RS2.out]; simpa [List.append_assoc] using hown6
                  repeat apply Exists.intro
                  exact ⟨⟨t + 1, by omega, by go_num, hown7, hb8⟩, rfl⟩
                case measure => simp [intOf]; omega
            · have e : t = x.length := by omega
              rw [e] at hown
              go_wp2_with fail
              go_roundw
              case rel => exact ⟨j + 1, by omega, by go_num, by rw [GS.out]; exact hown, hb3⟩
              case measure => simp [intOf]; omega
        · have e : j = n := by omega
          go_wp2_with fail
          go_ret
          rw [PP.out, ← e]
          exact ⟨_, rfl, hown, hb2⟩

end Go.Proofs.Ytblheabgjjeigaa

namespace Go.Proofs.Ytblheabgjjeigaa
open Go.RowKit

/-- What a candidate is in memory. -/
structure RepX (w : World) (vf vo : Value) (x : Xc) : Prop where
  fr : Rep IntE w vf x.fr
  od : RepNN w vo x.od
theorem RepX.below {w w' : World} {vf vo : Value} {x : Xc} (h : RepX w vf vo x) (hb : Below w.heap.size w w') : RepX w' vf vo x := ⟨h.fr.below hb, h.od.below hb⟩

def orderS (xs ws : List Int) : Bool := decide (xs.length = ws.length) && ((xs.head? == ws.head?) && ws.all fun y => xs.contains y)
theorem all_succ {f : Int → Bool} {ys : List Int} {t : Nat} {y : Int} (h : ∀ z ∈ ys.take t, f z = true) (hy : ys[t]? = some y) (hf : f y = true) : ∀ z ∈ ys.take (t + 1), f z = true := by
  intro z hz
  rw [List.take_add_one, hy] at hz
  simp at hz
  rcases hz with hz | rfl
  · exact h z hz
  · exact hf

set_option maxRecDepth 100000 in
set_option maxHeartbeats 1600000 in
theorem l6Order_any (v v' : Value) (xs ws : List Int) (w : World) (hx : Rep IntE w v xs) (hy : Rep IntE w v' ws) (h0 : 0 < ws.length) :
    Calls Try.prog 56 #[v, v'] w fun e w' => e = .returned (.bool (orderS xs ws)) ∧ Below w.heap.size w w' := by
  have HPL := hide (fun y w' h => l6Place_any v xs y w' h)
  obtain ⟨a, c, rfl, hc1, hc2, hc3, hx⟩ := hx.open
  obtain ⟨a', c', rfl, hc1', hc2', hc3', hy⟩ := hy.open
  have HX := hide hx; have HY := hide hy; clear hx hy
  have HR : Hid (orderS xs ws = (decide (xs.length = ws.length) && ((xs.head? == ws.head?) && ws.all fun y => xs.contains y))) := hide rfl
  generalize orderS xs ws = R at *
  generalize hn : xs.length = n at *
  generalize hm : ws.length = m at *
  have H := hide hn; have H2 := hide hm; clear hn hm
  by_cases hnm : n = m
  · subst hnm
    obtain ⟨x0, hx0⟩ := get_of_lt (xs := xs) (k := 0) (by rw [H.out]; exact h0)
    obtain ⟨y0, hy0⟩ := get_of_lt (xs := ws) (k := 0) (by rw [H2.out]; exact h0)
    obtain ⟨b, o, rfl, hbl, i0⟩ := HX.out.int hx0
    obtain ⟨b', o', rfl, hbl', j0⟩ := HY.out.int hy0
    have h00 : (0 : Int) < (n : Int) := by omega
    simp only [Nat.add_zero] at i0 j0
    have E0 : Hid ((xs.head? == ws.head?) = (x0 == y0)) := hide (by rw [List.head?_eq_getElem?, List.head?_eq_getElem?, hx0, hy0]; rfl)
    have k0 : ((n : Int) != (n : Int)) = false := by simp
    clear hx0 hy0
    by_cases hxy : x0 = y0
    · have k1 : (x0 != y0) = false := by simp [hxy]
      have E1 : Hid (R = ws.all fun y => xs.contains y) := hide (by rw [HR.out, E0.out, hxy]; simp)
      clear hxy HR E0
      go_enter Try.func56, Try.ntmps56
      go_wp2_with fail
      refine wp_region_bw (by kernel_rfl) (by kernel_rfl) ?_
      repeat (go_big_quiet_step (fail))
      refine wpQuiet_nil ?_
      intro w1 hb1
      clear i0 j0
      go_wp2_with fail
      go_loopw [5] (fun i wr => ∃ t : Nat, t ≤ n ∧ i = .int .i64 t ∧ Hid (∀ z ∈ ws.take t, xs.contains z = true) ∧ Below w.heap.size w wr) (fun i _ => n - (intOf i).toNat)
      case atStart => exact ⟨0, Nat.zero_le _, rfl, hide (by simp), hb1⟩
      case round =>
        obtain ⟨t, ht, rfl, hall, hb⟩ := hrel
        by_cases hlt : t < n
        · obtain ⟨y, hy⟩ := get_of_lt (xs := ws) (k := t) (by rw [H2.out]; exact hlt)
          obtain ⟨b2, o2, hbe, hbl2, j1⟩ := (HY.out.below hb).int hy
          simp only [Option.some.injEq, Addr.mk.injEq, and_true] at hbe
          obtain ⟨rfl, rfl⟩ := hbe
          have hlt' := nat_of_lt hlt
          have Y := hide hy; clear hy
          have HXr := hide (HX.out.below hb)
          cases hcy : xs.contains y
          · have E2 : Hid (R = false) := hide (by rw [E1.out, List.all_eq_false]; exact ⟨y, List.mem_of_getElem? Y.out, by rw [hcy]; simp⟩)
            have HC := hide hcy; clear hcy
            go_wp2_with fail
            (with_reducible refine (HPL.out _ _ HXr.out).mono ?_); rintro e w2 ⟨⟨q, rfl, hq⟩, rfl⟩
            have k2 : decide (q < 0) = true := by rw [hq.lt, HC.out]; rfl
            clear hq
            go_wp2_with fail
            go_ret
            exact ⟨by rw [E2.out]; rfl, hb⟩
          · have NO : Hid (∀ z ∈ ws.take (t + 1), xs.contains z = true) := hide (all_succ hall.out Y.out hcy)
            have HC := hide hcy; clear hcy
            go_wp2_with fail
            (with_reducible refine (HPL.out _ _ HXr.out).mono ?_); rintro e w2 ⟨⟨q, rfl, hq⟩, rfl⟩
            have k2 : decide (q < 0) = false := by rw [hq.lt, HC.out]; rfl
            clear hq
            go_wp2_with fail
            go_roundw
            case rel => exact ⟨t + 1, by omega, by go_num, NO, hb⟩
            case measure => simp [intOf]; omega
        · have E2 : Hid (R = true) := hide (by
            rw [E1.out, List.all_eq_true]
            intro z hz
            exact hall.out z (by rw [List.take_of_length_le (by rw [H2.out]; omega)]; exact hz))
          go_wp2_with fail
          go_ret
          exact ⟨by rw [E2.out]; rfl, hb⟩
    · have k1 : (x0 != y0) = true := by simp [hxy]
      have E1 : Hid (R = false) := hide (by rw [HR.out, E0.out]; simp [hxy])
      clear hxy HR E0
      go_enter Try.func56, Try.ntmps56
      go_wp2_with fail
      refine wp_region_bw (by kernel_rfl) (by kernel_rfl) ?_
      repeat (go_big_quiet_step (fail))
      refine wpQuiet_nil ?_
      intro w1 hb1
      go_wp2_with fail
      go_ret
      exact ⟨by rw [E1.out]; rfl, hb1⟩
  · have k0 : ((n : Int) != (m : Int)) = true := by simp; omega
    have E1 : Hid (R = false) := hide (by rw [HR.out]; simp [hnm])
    clear hnm HR
    go_enter Try.func56, Try.ntmps56
    go_wp2_with fail
    refine wp_region_bw (by kernel_rfl) (by kernel_rfl) ?_
    repeat (go_big_quiet_step (fail))
    refine wpQuiet_nil ?_
    intro w1 hb1
    go_wp2_with fail
    go_ret
    exact ⟨by rw [E1.out]; rfl, hb1⟩

theorem orderS_eq {p : List (List Ins)} {l : Nat} (hl : l < 3) (o : List Int) : orderS o (wrL (evAll p) l) = orderOk (evAll p) l o := by
  unfold orderS orderOk
  rw [head_wrL hl, Bool.eq_iff_iff]
  simp only [Bool.and_eq_true, decide_eq_true_eq, List.all_eq_true, List.contains_iff_mem]
  constructor
  · rintro ⟨h1, h2, h3⟩
    exact ⟨perm_of_sub (wrL_nodup _ _) h3 (by omega), h2⟩
  · rintro ⟨h1, h2⟩
    exact ⟨h1.length_eq, h2, fun y hy => h1.symm.mem_iff.1 hy⟩
theorem wrL_pos {p : List (List Ins)} {l : Nat} (hl : l < 3) : 0 < (wrL (evAll p) l).length := by
  have := head_wrL (p := p) hl
  cases h : wrL (evAll p) l with
  | nil => rw [h] at this; cases this
  | cons x xs => simp

set_option maxRecDepth 100000 in
set_option maxHeartbeats 3200000 in
theorem sExecValid_any (v vf vo : Value) (p : List (List Ins)) (x : Xc) (w : World) (hp : RepP w v p) (hx : RepX w vf vo x) (hl : p.flatten.length ≤ 1048576) (hpl : p.length ≤ 1048576) :
    Calls Try.prog 24 #[v, .agg #[vf, vo]] w fun e w' => e = .returned (.bool (execOk p x)) ∧ Below w.heap.size w w' := by
  have HP := hide hp
  have HXX := hide hx
  have HV := hide (fun w' h => sProgramValid_any v p w' h hl hpl)
  have HE := hide (fun w' h => l6Events_any v p w' h hl)
  obtain ⟨fa, fc, rfl, hf1, hf2, hf3, hfr⟩ := hx.fr.open
  obtain ⟨oa, oc, rfl, ho1, ho2, ho3, hod⟩ := hx.od.open
  clear hp hfr hod hx
  have HR : Hid (execOk p x = (progValid p && (decide (x.fr.length = (evAll p).length) && (decide (x.od.length = 3) && (fromsOk (evAll p) x.fr (evAll p).length && ordersOk (evAll p) x.od 3))))) := hide rfl
  have HEL := hide (evAll_length p)
  have HOS := hide (fun (l : Nat) (o : List Int) (h : l < 3) => orderS_eq (p := p) h o)
  have HWP := hide (fun (l : Nat) (h : l < 3) => wrL_pos (p := p) h)
  have HB0 := hide ((Below.refl w.heap.size w).alloc (Nat.le_refl _) (.cells #[.slice fa x.fr.length fc, .slice oa x.od.length oc] 27))
  have HPV : Hid (progValid p = true → (evAll p).length ≤ 15) := hide evAll_le
  have HP0 := hide (HP.out.below HB0.out)
  generalize execOk p x = R at *
  generalize hfn : x.fr.length = fn at *
  generalize hon : x.od.length = on at *
  generalize hes : evAll p = es at *
  generalize hen : es.length = en at *
  generalize progValid p = b at *
  have HF := hide hfn; have HO := hide hon; have HN := hide hen
  clear hfn hon hes hen
  go_enter Try.func24, Try.ntmps24
  cases b
  · obtain rfl : R = false := by rw [HR.out]; rfl
    go_wp2_with fail
    (with_reducible refine (HV.out _ HP0.out).mono ?_); rintro e w1 ⟨rfl, hb1⟩
    go_wp2_with fail
    go_ret
    exact ⟨rfl, HB0.out.trans (hb1.mono HB0.out.size)⟩
  · have hen15 := HPV.out rfl
    go_wp2_with fail
    (with_reducible refine (HV.out _ HP0.out).mono ?_); rintro e w1 ⟨rfl, hb1⟩
    have HP1 := hide (HP0.out.below hb1)
    have HB1 := hide hb1; clear hb1
    go_wp2_with fail
    (with_reducible refine (HE.out _ HP1.out).mono ?_); rintro e w2 ⟨ve, rfl, oe, hb2⟩
    have hre := oe.rep
    obtain ⟨ea, ec, rfl, he1, he2, he3, hre⟩ := hre.open
    rw [HN.out] at he1 he2 hre ⊢
    have HRE := hide hre
    have HB2 := hide (HB1.out.trans (hb2.mono HB1.out.size))
    have hbl0 : w.heap.size < (w.alloc (.cells #[.slice fa fn fc, .slice oa on oc] 27)).heap.size := by simp
    have hz : (w.alloc (.cells #[.slice fa fn fc, .slice oa on oc] 27)).cell? ⟨w.heap.size, 0, none⟩ = some (.slice fa fn fc) ∧ (w.alloc (.cells #[.slice fa fn fc, .slice oa on oc] 27)).cell? ⟨w.heap.size, 1, none⟩ = some (.slice oa on oc) := by simp [go_sem]
    have HZ0 := hide hz.1; have HZ1 := hide hz.2
    have HX0 := hide (HXX.out.below HB0.out)
    have HBW := hide (HB0.out)
    clear oe hre hb2 hz HB1 HV HE
    generalize w.alloc (.cells #[.slice fa fn fc, .slice oa on oc] 27) = w0 at *
    have z0 := (HB2.out.cell (p := ⟨w.heap.size, 0, none⟩) hbl0).trans HZ0.out
    have z1 := (HB2.out.cell (p := ⟨w.heap.size, 1, none⟩) hbl0).trans HZ1.out
    have hbl2 : w.heap.size < w2.heap.size := Nat.lt_of_lt_of_le hbl0 HB2.out.size
    by_cases c1 : fn = en
    · by_cases c2 : on = 3
      · have k1 : ((fn : Int) != (en : Int)) = false := by simp [c1]
        have k2 : ((on : Int) != 3) = false := by subst c2; rfl
        have E1 : Hid (R = (fromsOk es x.fr en && ordersOk es x.od 3)) := hide (by rw [HR.out, c1, c2]; simp)
        have C1 := hide c1; have C2 := hide c2
        clear c1 c2 HR
        go_wp2_with fail
        clear k1 k2 z0 z1
        go_loopw [6] (fun i wr => ∃ t : Nat, t ≤ en ∧ i = .int .i64 t ∧ Hid (fromsOk es x.fr t = true) ∧ Below w2.heap.size w2 wr) (fun i _ => en - (intOf i).toNat)
        case atStart => exact ⟨0, Nat.zero_le _, rfl, hide (by simp [fromsOk]), Below.refl _ _⟩
        case round =>
          obtain ⟨t, ht, rfl, hok, hb⟩ := hrel
          have HXr := hide ((HX0.out.below HB2.out).below hb)
          have HREr := hide (HRE.out.below hb)
          have z0 := (hb.cell (p := ⟨w.heap.size, 0, none⟩) hbl2).trans ((HB2.out.cell (p := ⟨w.heap.size, 0, none⟩) hbl0).trans HZ0.out)
          have hblr : w.heap.size < wr.heap.size := Nat.lt_of_lt_of_le hbl2 hb.size
          by_cases hlt : t < en
          · obtain ⟨e, he⟩ := get_of_lt (xs := es) (k := t) (by rw [HN.out]; exact hlt)
            obtain ⟨f, hf⟩ := get_of_lt (xs := x.fr) (k := t) (by rw [HF.out, C1.out]; exact hlt)
            obtain ⟨b, o, rfl, hbl, i0, i1, i2, i3, i4⟩ := HREr.out.ev he
            obtain ⟨b', o', rfl, hbl', j0⟩ := HXr.out.fr.int hf
            have hlt' := nat_of_lt hlt
            have hltf : (t : Int) < (fn : Int) := by have := C1.out; omega
            have FS := hide (fromsOk_succ he hf)
            have FN : Hid (fromOk es t e f = false → R = false) := hide (fun h => by rw [E1.out, fromsOk_no he hf hlt h]; rfl)
            clear he hf
            obtain ⟨et, ei, el, er, ew⟩ := e
            simp only at i0 i1 i2 i3 i4
            cases er
            · have FO : Hid (fromOk es t ⟨et, ei, el, false, ew⟩ f = (f == -1)) := hide rfl
              have nt : ((-1 : Int) == (t : Int)) = false := by simp
              by_cases hf1 : f = -1
              · subst hf1
                have OK : Hid (fromsOk es x.fr (t + 1) = true) := hide (by rw [FS.out, hok.out, FO.out]; rfl)
                go_wp2_with fail
                refine wp_region_bw (by kernel_rfl) (by kernel_rfl) ?_
                repeat (go_big_quiet_step (fail))
                refine wpQuiet_nil ?_
                intro w3 hb3
                obtain ⟨hc3, hf3⟩ := bcell hb3
                have hz3 := hb3.size
                have h1 : b < w3.heap.size := Nat.lt_of_lt_of_le hbl hz3
                have h2 : b' < w3.heap.size := Nat.lt_of_lt_of_le hbl' hz3
                have h3 : w.heap.size < w3.heap.size := Nat.lt_of_lt_of_le hblr hz3
                go_wp2_with fail
                go_roundw
                case rel => exact ⟨t + 1, by omega, by go_num, OK, hb.trans (hb3.mono hb.size)⟩
                case measure => simp [intOf]; omega
              · have k1 : (f != -1) = true := by simp [hf1]
                obtain rfl : R = false := FN.out (by rw [FO.out]; simp [hf1])
                clear hf1
                go_wp2_with fail
                refine wp_region_bw (by kernel_rfl) (by kernel_rfl) ?_
                repeat (go_big_quiet_step (fail))
                refine wpQuiet_nil ?_
                intro w3 hb3
                obtain ⟨hc3, hf3⟩ := bcell hb3
                have hz3 := hb3.size
                have h1 : b < w3.heap.size := Nat.lt_of_lt_of_le hbl hz3
                have h2 : b' < w3.heap.size := Nat.lt_of_lt_of_le hbl' hz3
                have h3 : w.heap.size < w3.heap.size := Nat.lt_of_lt_of_le hblr hz3
                go_wp2_with fail
                go_ret
                have hb4 := hb.trans (hb3.mono hb.size)
                have hb5 := HB2.out.trans (hb4.mono HB2.out.size)
                exact ⟨rfl, HBW.out.trans (hb5.mono HBW.out.size)⟩
            · have FO : Hid (fromOk es t ⟨et, ei, el, true, ew⟩ f = ((f != (t : Int)) && (wrL es el).contains f)) := hide rfl
              have HWR := hide (fun w' h => l6Writers_any (.slice (some ⟨b, o, none⟩) en ec) es el w' h (by rw [HN.out]; omega))
              have HPL := hide (fun v w' h => l6Place_any v (wrL es el) f w' h)
              generalize wrL es el = ws at *
              cases hcf : ws.contains f
              · obtain rfl : R = false := FN.out (by rw [FO.out, hcf]; simp)
                have HC := hide hcf; clear hcf
                go_wp2_with fail
                go_region_held3 (fun V => V.cell? ⟨b, o + t * 5 + 3, none⟩ = some (.bool true) ∧ V.cell? ⟨b, o + t * 5 + 2, none⟩ = some (.int .i64 el) ∧ V.cell? ⟨w.heap.size, 0, none⟩ = some (.slice (some ⟨b', o', none⟩) fn fc) ∧ V.cell? ⟨b', o' + t, none⟩ = some (.int .i64 f)) ((simp [go_sem, *]))
                  (first
                    | (go_at_call 55; (with_reducible refine (HWR.out _ (HREr.out.below (Below.refl _ _).drew)).mono ?_); rintro e' w4 ⟨vw, rfl, ow, hb4⟩; have HOW := hide ow.rep; have hb5 := (Below.refl wr.heap.size wr).drew.trans (hb4.mono (by simp)); have HB4 := hide hb5; have m0 := (hb5.cell (p := ⟨b, o + t * 5 + 3, none⟩) hbl).trans i3; have m1 := (hb5.cell (p := ⟨b, o + t * 5 + 2, none⟩) hbl).trans i2; have m2 := (hb5.cell (p := ⟨w.heap.size, 0, none⟩) hblr).trans z0; have m3 := (hb5.cell (p := ⟨b', o' + t, none⟩) hbl').trans j0; have l1 := Nat.lt_of_lt_of_le hbl hb5.size; have l2 := Nat.lt_of_lt_of_le hbl' hb5.size; have l3 := Nat.lt_of_lt_of_le hblr hb5.size; clear ow hb4 hb5)
                    | (go_at_call 54; (with_reducible refine (HPL.out _ _ HOW.out).mono ?_); rintro e' w5 ⟨⟨q, rfl, hq⟩, rfl⟩; have k2 : decide (q < 0) = true := (by rw [hq.lt, HC.out]; rfl); clear hq))
                all_goals
                  go_wp2_with fail
                  go_ret
                  have hb6 := hb.trans (HB4.out.mono hb.size)
                  have hb7 := HB2.out.trans (hb6.mono HB2.out.size)
                  exact ⟨rfl, HBW.out.trans (hb7.mono HBW.out.size)⟩
              · have HC := hide hcf
                by_cases hft : f = (t : Int)
                · obtain rfl : R = false := FN.out (by rw [FO.out, hft]; simp)
                  have k3 : (f == (t : Int)) = true := by simp [hft]
                  clear hcf hft
                  go_wp2_with fail
                  go_region_held3 (fun V => V.cell? ⟨b, o + t * 5 + 3, none⟩ = some (.bool true) ∧ V.cell? ⟨b, o + t * 5 + 2, none⟩ = some (.int .i64 el) ∧ V.cell? ⟨w.heap.size, 0, none⟩ = some (.slice (some ⟨b', o', none⟩) fn fc) ∧ V.cell? ⟨b', o' + t, none⟩ = some (.int .i64 f)) ((simp [go_sem, *]))
                    (first
                      | (go_at_call 55; (with_reducible refine (HWR.out _ (HREr.out.below (Below.refl _ _).drew)).mono ?_); rintro e' w4 ⟨vw, rfl, ow, hb4⟩; have HOW := hide ow.rep; have hb5 := (Below.refl wr.heap.size wr).drew.trans (hb4.mono (by simp)); have HB4 := hide hb5; have m0 := (hb5.cell (p := ⟨b, o + t * 5 + 3, none⟩) hbl).trans i3; have m1 := (hb5.cell (p := ⟨b, o + t * 5 + 2, none⟩) hbl).trans i2; have m2 := (hb5.cell (p := ⟨w.heap.size, 0, none⟩) hblr).trans z0; have m3 := (hb5.cell (p := ⟨b', o' + t, none⟩) hbl').trans j0; have l1 := Nat.lt_of_lt_of_le hbl hb5.size; have l2 := Nat.lt_of_lt_of_le hbl' hb5.size; have l3 := Nat.lt_of_lt_of_le hblr hb5.size; clear ow hb4 hb5)
                      | (go_at_call 54; (with_reducible refine (HPL.out _ _ HOW.out).mono ?_); rintro e' w5 ⟨⟨q, rfl, hq⟩, rfl⟩; have k2 : decide (q < 0) = false := (by rw [hq.lt, HC.out]; rfl); clear hq))
                  all_goals
                    go_wp2_with fail
                    go_ret
                    have hb6 := hb.trans (HB4.out.mono hb.size)
                    have hb7 := HB2.out.trans (hb6.mono HB2.out.size)
                    exact ⟨rfl, HBW.out.trans (hb7.mono HBW.out.size)⟩
                · have OK : Hid (fromsOk es x.fr (t + 1) = true) := hide (by rw [FS.out, hok.out, FO.out, hcf]; simp [hft])
                  have k3 : (f == (t : Int)) = false := by simp [hft]
                  clear hcf hft
                  go_wp2_with fail
                  go_region_held3 (fun V => V.cell? ⟨b, o + t * 5 + 3, none⟩ = some (.bool true) ∧ V.cell? ⟨b, o + t * 5 + 2, none⟩ = some (.int .i64 el) ∧ V.cell? ⟨w.heap.size, 0, none⟩ = some (.slice (some ⟨b', o', none⟩) fn fc) ∧ V.cell? ⟨b', o' + t, none⟩ = some (.int .i64 f)) ((simp [go_sem, *]))
                    (first
                      | (go_at_call 55; (with_reducible refine (HWR.out _ (HREr.out.below (Below.refl _ _).drew)).mono ?_); rintro e' w4 ⟨vw, rfl, ow, hb4⟩; have HOW := hide ow.rep; have hb5 := (Below.refl wr.heap.size wr).drew.trans (hb4.mono (by simp)); have HB4 := hide hb5; have m0 := (hb5.cell (p := ⟨b, o + t * 5 + 3, none⟩) hbl).trans i3; have m1 := (hb5.cell (p := ⟨b, o + t * 5 + 2, none⟩) hbl).trans i2; have m2 := (hb5.cell (p := ⟨w.heap.size, 0, none⟩) hblr).trans z0; have m3 := (hb5.cell (p := ⟨b', o' + t, none⟩) hbl').trans j0; have l1 := Nat.lt_of_lt_of_le hbl hb5.size; have l2 := Nat.lt_of_lt_of_le hbl' hb5.size; have l3 := Nat.lt_of_lt_of_le hblr hb5.size; clear ow hb4 hb5)
                      | (go_at_call 54; (with_reducible refine (HPL.out _ _ HOW.out).mono ?_); rintro e' w5 ⟨⟨q, rfl, hq⟩, rfl⟩; have k2 : decide (q < 0) = false := (by rw [hq.lt, HC.out]; rfl); clear hq))
                  all_goals
                    go_wp2_with fail
                    go_roundw
                    case rel => exact ⟨t + 1, by omega, by go_num, OK, hb.trans (HB4.out.mono hb.size)⟩
                    case measure => simp [intOf]; omega
          · have OKF : Hid (fromsOk es x.fr en = true) := hide (by rw [show en = t by omega]; exact hok.out)
            have E2 : Hid (R = ordersOk es x.od 3) := hide (by rw [E1.out, OKF.out]; rfl)
            clear E1 hok OKF
            have HB3 := hide (HB2.out.trans (hb.mono HB2.out.size))
            go_wp2_with fail
            go_loopw [7] (fun i wq => ∃ k : Nat, k ≤ 3 ∧ i = .int .i64 k ∧ Hid (ordersOk es x.od k = true) ∧ Below wr.heap.size wr wq) (fun i _ => 3 - (intOf i).toNat)
            case atStart => exact ⟨0, by omega, rfl, hide (by simp [ordersOk]), Below.refl _ _⟩
            case round =>
              obtain ⟨k, hk, rfl, hok, hbq⟩ := hrel
              have HXq := hide (HXr.out.below hbq)
              have HREq := hide (HREr.out.below hbq)
              have z1 := (hbq.cell (p := ⟨w.heap.size, 1, none⟩) hblr).trans ((HB3.out.cell (p := ⟨w.heap.size, 1, none⟩) hbl0).trans HZ1.out)
              have hblq : w.heap.size < wr.heap.size := Nat.lt_of_lt_of_le hblr hbq.size
              clear z0
              by_cases hlt3 : k < 3
              · have hlt3' : (k : Int) ≤ 2 := by omega
                obtain ⟨r, hr⟩ := get_of_lt (xs := x.od) (k := k) (by rw [HO.out, C2.out]; exact hlt3)
                obtain ⟨b, o, ra, rc, rfl, hbl, i0, i1⟩ := HXq.out.od.row hr
                have hkon : (k : Int) < (on : Int) := by have := C2.out; omega
                have FS := hide (ordersOk_succ (es := es) hr)
                have FN : Hid (orderOk es k r = false → R = false) := hide (fun h => by rw [E2.out, ordersOk_no hr hlt3 h])
                have HOE := hide (HOS.out k r hlt3)
                have HWR := hide (fun w' h => l6Writers_any (.slice ea en ec) es (k : Int) w' h (by rw [HN.out]; omega))
                have hwp := HWP.out k hlt3
                have I1 := hide i1
                clear hr i1
                generalize hbb : orderOk es k r = bb at *
                have hLO : ∀ v' w', Rep IntE w' (.slice ra r.length rc) r → Rep IntE w' v' (wrL es (k : Int)) → Calls Try.prog 56 #[.slice ra r.length rc, v'] w' fun e w1 => e = .returned (.bool bb) ∧ Below w'.heap.size w' w1 :=
                  fun v' w' h h' => (l6Order_any _ v' r (wrL es (k : Int)) w' h h' hwp).mono fun _ _ ⟨a, b⟩ => ⟨by rw [a, HOE.out], b⟩
                have HLO := hide hLO
                clear hLO hwp HOE hbb
                generalize wrL es (k : Int) = ws at *
                generalize r.length = rn at *
                cases bb
                · obtain rfl : R = false := FN.out rfl
                  go_wp2_with fail
                  go_region_held3 (fun V => V.cell? ⟨w.heap.size, 1, none⟩ = some (.slice (some ⟨b, o, none⟩) on oc) ∧ V.cell? ⟨b, o + k, none⟩ = some (.slice ra rn rc)) ((simp [go_sem, *]))
                    (first
                      | (go_at_call 55; (with_reducible refine (HWR.out _ (HREq.out.below (Below.refl _ _).drew)).mono ?_); rintro e' w4 ⟨vw, rfl, ow, hb4⟩; have HOW := hide ow.rep; have hb5 := (Below.refl wr.heap.size wr).drew.trans (hb4.mono (by simp)); have HB4 := hide hb5; have m0 := (hb5.cell (p := ⟨w.heap.size, 1, none⟩) hblq).trans z1; have m1 := (hb5.cell (p := ⟨b, o + k, none⟩) hbl).trans i0; have l1 := Nat.lt_of_lt_of_le hbl hb5.size; have l2 := Nat.lt_of_lt_of_le hblq hb5.size; have I2 := hide (I1.out.below hb5); clear ow hb4 hb5)
                      | (go_at_call 56; (with_reducible refine (HLO.out _ _ I2.out HOW.out).mono ?_); rintro e' w5 ⟨rfl, hb6⟩; have hb7 := HB4.out.trans (hb6.mono HB4.out.size); have m2 := (hb7.cell (p := ⟨w.heap.size, 1, none⟩) hblq).trans z1; have m3 := (hb7.cell (p := ⟨b, o + k, none⟩) hbl).trans i0; have HB7 := hide hb7; clear hb6 hb7))
                  all_goals
                    go_wp2_with fail
                    go_ret
                    have hb8 := HB3.out.trans ((hbq.trans (HB7.out.mono hbq.size)).mono HB3.out.size)
                    exact ⟨rfl, HBW.out.trans (hb8.mono HBW.out.size)⟩
                · have OK : Hid (ordersOk es x.od (k + 1) = true) := hide (by rw [FS.out, hok.out]; rfl)
                  go_wp2_with fail
                  go_region_held3 (fun V => V.cell? ⟨w.heap.size, 1, none⟩ = some (.slice (some ⟨b, o, none⟩) on oc) ∧ V.cell? ⟨b, o + k, none⟩ = some (.slice ra rn rc)) ((simp [go_sem, *]))
                    (first
                      | (go_at_call 55; (with_reducible refine (HWR.out _ (HREq.out.below (Below.refl _ _).drew)).mono ?_); rintro e' w4 ⟨vw, rfl, ow, hb4⟩; have HOW := hide ow.rep; have hb5 := (Below.refl wr.heap.size wr).drew.trans (hb4.mono (by simp)); have HB4 := hide hb5; have m0 := (hb5.cell (p := ⟨w.heap.size, 1, none⟩) hblq).trans z1; have m1 := (hb5.cell (p := ⟨b, o + k, none⟩) hbl).trans i0; have l1 := Nat.lt_of_lt_of_le hbl hb5.size; have l2 := Nat.lt_of_lt_of_le hblq hb5.size; have I2 := hide (I1.out.below hb5); clear ow hb4 hb5)
                      | (go_at_call 56; (with_reducible refine (HLO.out _ _ I2.out HOW.out).mono ?_); rintro e' w5 ⟨rfl, hb6⟩; have hb7 := HB4.out.trans (hb6.mono HB4.out.size); have m2 := (hb7.cell (p := ⟨w.heap.size, 1, none⟩) hblq).trans z1; have m3 := (hb7.cell (p := ⟨b, o + k, none⟩) hbl).trans i0; have HB7 := hide hb7; clear hb6 hb7))
                  all_goals
                    go_wp2_with fail
                    go_roundw
                    case rel => exact ⟨k + 1, by omega, by go_num, OK, hbq.trans (HB7.out.mono hbq.size)⟩
                    case measure => simp [intOf]; omega
              · obtain rfl : k = 3 := by omega
                obtain rfl : R = true := by rw [E2.out, hok.out]
                go_wp2_with fail
                go_ret
                have hb6 := HB3.out.trans (hbq.mono HB3.out.size)
                exact ⟨rfl, HBW.out.trans (hb6.mono HBW.out.size)⟩
      · have k1 : ((fn : Int) != (en : Int)) = false := by simp [c1]
        have k2 : ((on : Int) != 3) = true := by simpa using (by omega : ¬ (on : Int) = 3)
        obtain rfl : R = false := by rw [HR.out]; simp [c2]
        clear c1 c2 HR
        go_wp2_with fail
        go_ret
        exact ⟨rfl, HBW.out.trans (HB2.out.mono HBW.out.size)⟩
    · have k1 : ((fn : Int) != (en : Int)) = true := by simp; omega
      obtain rfl : R = false := by rw [HR.out]; simp [c1]
      clear c1 HR
      go_wp2_with fail
      go_ret
      exact ⟨rfl, HBW.out.trans (HB2.out.mono HBW.out.size)⟩

end Go.Proofs.Ytblheabgjjeigaa

namespace Go.Proofs.Ytblheabgjjeigaa
open Go.RowKit

set_option maxHeartbeats 800000 in
theorem IndexN_any (v : Value) (xs : List Int) (x : Int) (w : World) (hx : Rep IntE w v xs) :
    Calls Try.prog 81 #[v, .int .i64 x] w fun e w' => (∃ q : Int, e = .returned (.int .i64 q) ∧ PlaceOf xs x q) ∧ w = w' := by
  obtain ⟨a, c, rfl, hc1, hc2, hc3, hx⟩ := hx.open
  have HX := hide hx; clear hx
  generalize hn : xs.length = n at *
  have H := hide hn; clear hn
  go_enter Try.func81, Try.ntmps81
  go_wp2_with fail
  go_loop [8] (fun i => ∃ t : Nat, t ≤ n ∧ i = .int .i64 t ∧ Hid (x ∉ xs.take t)) (fun i => n - (intOf i).toNat)
  case atStart => exact ⟨0, Nat.zero_le _, rfl, hide (by simp)⟩
  case round =>
    obtain ⟨t, ht, rfl, hno⟩ := hrel
    by_cases hlt : t < n
    · obtain ⟨y, hy⟩ := get_of_lt (xs := xs) (k := t) (by rw [H.out]; exact hlt)
      obtain ⟨b, o, rfl, hbl, i0⟩ := HX.out.int hy
      have hlt' := nat_of_lt hlt
      have X := hide hy; clear hy
      by_cases hxy : y = x
      · have k1 : (x == y) = true := by simp [hxy]
        have XE := hide hxy
        clear hxy
        go_wp2_with fail
        go_ret
        exact ⟨⟨_, rfl, .inr ⟨t, rfl, XE.out ▸ X.out, hno.out⟩⟩, rfl⟩
      · have k1 : (x == y) = false := by simpa using fun e => hxy e.symm
        have NO : Hid (x ∉ xs.take (t + 1)) := hide (notin_succ hno.out X.out hxy)
        clear hxy
        go_wp2_with fail
        go_round
        case rel => exact ⟨t + 1, by omega, by go_num, NO⟩
        case measure => simp [intOf]; omega
    · go_wp2_with fail
      go_ret
      refine ⟨⟨_, rfl, .inl ⟨rfl, ?_⟩⟩, rfl⟩
      have h := hno.out
      rwa [List.take_of_length_le (by rw [H.out]; omega)] at h

theorem PlaceOf.ge {xs : List Int} {x q : Int} (h : PlaceOf xs x q) : decide (0 ≤ q) = xs.contains x := by
  rcases h with ⟨rfl, h⟩ | ⟨k, rfl, h, -⟩
  · simp [h]
  · have := List.mem_of_getElem? h
    simp [this]

theorem ContainsN_any (v : Value) (xs : List Int) (x : Int) (w : World) (hx : Rep IntE w v xs) :
    Calls Try.prog 48 #[v, .int .i64 x] w fun e w' => e = .returned (.bool (xs.contains x)) ∧ w = w' := by
  have HI := hide (IndexN_any v xs x w hx)
  obtain ⟨a, c, rfl, -⟩ := hx.open
  clear hx
  generalize hb : xs.contains x = b
  have HB := hide hb; clear hb
  go_enter Try.func48, Try.ntmps48
  go_wp2_with fail
  (with_reducible refine HI.out.mono ?_); rintro e w1 ⟨⟨q, rfl, hq⟩, rfl⟩
  have E : Hid (decide (0 ≤ q) = b) := hide (by rw [← HB.out]; exact hq.ge)
  clear hq
  go_wp2_with fail
  go_ret
  exact ⟨by rw [← E.out]; rfl, rfl⟩

theorem CloneV_any (v : Value) (xs : List Int) (w : World) (hx : Rep IntE w v xs) (hl : xs.length ≤ 1048576) :
    Calls Try.prog 50 #[v] w (RetOwn IntE 3 w xs) := by
  obtain ⟨a, c, rfl, hc1, hc2, hc3, hx⟩ := hx.open
  have HX := hide hx; clear hx
  generalize hn : xs.length = n at *
  have H := hide hn; clear hn
  have hlen : ([] : List Int).length + n ≤ 68719476736 := by simp; omega
  cases a with
  | none =>
    have hE := fun w' : World => eql_slice_nil Try.prog w' 24 3 none n c 0 0 Try.underlying24
    have hn0 : xs = [] := by
      cases xs with
      | nil => rfl
      | cons x xs => obtain ⟨b, o, he, _⟩ := HX.out.int (k := 0) (x := x) rfl; cases he
    subst hn0
    go_enter Try.func50, Try.ntmps50
    go_wp2_with fail
    go_ret
    exact ⟨_, rfl, Own.nil _ _ _, Below.refl _ _⟩
  | some ad =>
    have hE := fun w' : World => eql_slice_nil Try.prog w' 24 3 (some ad) n c 0 0 Try.underlying24
    go_enter Try.func50, Try.ntmps50
    go_wp2_with (at_builtin; refine wpList_appS IntE 3 Try.infoInt rfl Try.underlying24 w.heap.size _ [] xs _ (Own.empty _ w (Nat.le_refl _)) (HX.out.below ((Below.refl _ _).alloc (Nat.le_refl _) _)) (by decide) (by rw [H.out]; exact hlen) (by simp) rfl _ _ rfl rfl rfl ?_; intro v' w1 hown1 hgr1)
    go_ret
    exact ⟨_, rfl, by simpa using hown1, ((Below.refl _ _).alloc (Nat.le_refl _) _).grown hgr1 (by simp) (fun k hk => by simp [Value.ownBlock] at hk; omega)⟩

end Go.Proofs.Ytblheabgjjeigaa

namespace Go.Proofs.Ytblheabgjjeigaa

def rowIns (t k : Nat) : List Gp := (List.range k).map fun (i : Nat) => ⟨t, i⟩
def instrsTo (p : List (List Ins)) (j : Nat) : List Gp := (List.range j).flatMap fun t => match p[t]? with
  | some r => rowIns t r.length
  | none => []
def insAll (p : List (List Ins)) : List Gp := instrsTo p p.length

theorem rowIns_succ (t k : Nat) : rowIns t (k + 1) = rowIns t k ++ [⟨t, k⟩] := by simp [rowIns, List.range_succ]
theorem instrsTo_succ {p : List (List Ins)} {j : Nat} {r : List Ins} (h : p[j]? = some r) : instrsTo p (j + 1) = instrsTo p j ++ rowIns j r.length := by
  unfold instrsTo
  rw [List.range_succ, List.flatMap_append]
  simp [h]
theorem rowIns_length (t k : Nat) : (rowIns t k).length = k := by simp [rowIns]
theorem instrsTo_length (p : List (List Ins)) : ∀ j, j ≤ p.length → (instrsTo p j).length = (p.take j).flatten.length := by
  intro j
  induction j with
  | zero => intro _; simp [instrsTo]
  | succ j ih =>
    intro hj
    obtain ⟨r, hr⟩ := get_of_lt (xs := p) (k := j) hj
    rw [instrsTo_succ hr, List.take_add_one, hr, List.flatten_append, List.length_append, List.length_append, ih (by omega), rowIns_length]
    simp

theorem mem_instrsTo {p : List (List Ins)} {j : Nat} {g : Gp} (h : g ∈ instrsTo p j) : ∃ (t i : Nat) (r : List Ins) (x : Ins), g = ⟨t, i⟩ ∧ t < j ∧ p[t]? = some r ∧ r[i]? = some x := by
  unfold instrsTo at h
  rw [List.mem_flatMap] at h
  obtain ⟨t, ht, hg⟩ := h
  cases hr : p[t]? with
  | none => rw [hr] at hg; simp at hg
  | some r =>
    rw [hr] at hg
    simp only [rowIns, List.mem_map, List.mem_range] at hg
    obtain ⟨i, hi, rfl⟩ := hg
    obtain ⟨x, hx⟩ := get_of_lt (xs := r) (k := i) hi
    exact ⟨t, i, r, x, rfl, by simpa using ht, hr, hx⟩

def insAt (p : List (List Ins)) (g : Gp) : Option Ins := (p[g.t.toNat]?).bind fun r => r[g.i.toNat]?
theorem insAt_eq {p : List (List Ins)} {t i : Nat} {r : List Ins} {x : Ins} (hr : p[t]? = some r) (hx : r[i]? = some x) : insAt p ⟨t, i⟩ = some x := by simp [insAt, hr, hx]

def conflictR (o l o2 l2 : Int) : Bool := o != 4 && o2 != 4 && l == l2 && (isWop o || isWop o2)
def conflictB (x y : Ins) : Bool := conflictR x.op x.loc y.op y.loc
def plainB (x : Ins) : Bool := x.op != 5
def raceB (p : List (List Ins)) (a b : Gp) : Bool := decide (a.t < b.t) && match insAt p a, insAt p b with
  | some x, some y => conflictB x y && (plainB x || plainB y)
  | _, _ => false

structure Rc where
  a : Gp
  b : Gp
deriving DecidableEq
def RcE : El Rc := ⟨4, by decide, fun x => [.int .i64 x.a.t, .int .i64 x.a.i, .int .i64 x.b.t, .int .i64 x.b.i], fun _ => rfl, fun x u h => by simp at h; rcases h with rfl | rfl | rfl | rfl <;> rfl⟩

def racesOf (p : List (List Ins)) (a : Gp) (L : List Gp) : List Rc := (L.filter (raceB p a)).map fun b => ⟨a, b⟩
def racesTo (p : List (List Ins)) (L : List Gp) : List Rc := L.flatMap fun a => racesOf p a (insAll p)
def racesP (p : List (List Ins)) : List Rc := racesTo p (insAll p)
def racesV (p : List (List Ins)) : List Rc := if progValid p = true then racesP p else []

theorem racesOf_succ (p : List (List Ins)) (a : Gp) {L : List Gp} {m : Nat} {b : Gp} (h : L[m]? = some b) : racesOf p a (L.take (m + 1)) = racesOf p a (L.take m) ++ if raceB p a b = true then [⟨a, b⟩] else [] := by
  unfold racesOf
  rw [List.take_add_one, h, List.filter_append, List.map_append]
  by_cases e : raceB p a b = true <;> simp [e]
theorem racesOf_snoc (p : List (List Ins)) (a : Gp) (L : List Gp) (b : Gp) : racesOf p a (L ++ [b]) = racesOf p a L ++ if raceB p a b = true then [⟨a, b⟩] else [] := by
  unfold racesOf
  rw [List.filter_append, List.map_append]
  by_cases e : raceB p a b = true <;> simp [e]
theorem racesTo_succ (p : List (List Ins)) {L : List Gp} {k : Nat} {a : Gp} (h : L[k]? = some a) : racesTo p (L.take (k + 1)) = racesTo p (L.take k) ++ racesOf p a (insAll p) := by
  unfold racesTo
  rw [List.take_add_one, h, List.flatMap_append]; simp
theorem racesOf_length (p : List (List Ins)) (a : Gp) (L : List Gp) : (racesOf p a L).length ≤ L.length := by
  unfold racesOf; rw [List.length_map]; exact List.length_filter_le _ _
theorem racesTo_length (p : List (List Ins)) (L : List Gp) : (racesTo p L).length ≤ L.length * (insAll p).length := by
  unfold racesTo
  induction L with
  | nil => simp
  | cons a L ih =>
    rw [List.flatMap_cons, List.length_append, List.length_cons, Nat.add_mul]
    have := racesOf_length p a (insAll p)
    omega

theorem raceB_eq {p : List (List Ins)} {t i u k : Nat} {r s : List Ins} {x y : Ins} (hr : p[t]? = some r) (hx : r[i]? = some x) (hs : p[u]? = some s) (hy : s[k]? = some y) :
    raceB p ⟨t, i⟩ ⟨u, k⟩ = (decide ((t : Int) < u) && (conflictB x y && (plainB x || plainB y))) := by
  unfold raceB; rw [insAt_eq hr hx, insAt_eq hs hy]

end Go.Proofs.Ytblheabgjjeigaa

namespace Go.Proofs.Ytblheabgjjeigaa
open Go.RowKit

/-- The row of those k below n for which f holds. -/
def bitsTo (f : Nat → Bool) : Nat → Int
  | 0 => 0
  | k + 1 => if f k = true then bits .or .i64 (bitsTo f k) (wrap64 ((2 : Int) ^ k)) else bitsTo f k

def relOf (n : Nat) (f : Nat → Nat → Bool) : List Int := (List.range n).map fun i => bitsTo (f i) n

theorem relOf_length (n : Nat) (f : Nat → Nat → Bool) : (relOf n f).length = n := by simp [relOf]
theorem relOf_get {n : Nat} {f : Nat → Nat → Bool} {i : Nat} (h : i < n) : (relOf n f)[i]? = some (bitsTo (f i) n) := by
  simp [relOf, h]

/-- Do the events at i and k conflict? -/
def confB (L : List Ev) (i k : Nat) : Bool := match L[i]?, L[k]? with
  | some a, some b => decide (0 ≤ a.t) && (decide (0 ≤ b.t) && ((a.t != b.t) && ((a.l == b.l) && (a.w || b.w))))
  | _, _ => false

theorem confB_eq {L : List Ev} {i k : Nat} {a b : Ev} (hi : L[i]? = some a) (hk : L[k]? = some b) : confB L i k = (decide (0 ≤ a.t) && (decide (0 ≤ b.t) && ((a.t != b.t) && ((a.l == b.l) && (a.w || b.w))))) := by
  unfold confB; rw [hi, hk]

def conflicts (p : List (List Ins)) : List Int := relOf (evAll p).length (confB (evAll p))
def conflictV (p : List (List Ins)) : List Int := if progValid p = true then conflicts p else []

theorem mem_evOf {t i : Nat} {x : Ins} {e : Ev} (h : e ∈ evOf t i x) : e = ⟨t, i, x.loc, isRop x.op, isWop x.op⟩ ∧ x.op ≠ 4 := by
  unfold evOf at h
  split at h
  · simp at h
  · simp at h; exact ⟨h, by assumption⟩

/-- An event is an initial write, or it is of an instruction. -/
theorem mem_evAll {p : List (List Ins)} {e : Ev} (h : e ∈ evAll p) : (e.t = -1) ∨ ∃ (t i : Nat) (r : List Ins) (x : Ins), p[t]? = some r ∧ r[i]? = some x ∧ e = ⟨t, i, x.loc, isRop x.op, isWop x.op⟩ ∧ x.op ≠ 4 := by
  unfold evAll at h
  rcases List.mem_append.1 h with h | h
  · left
    simp only [evHead, List.mem_map, List.mem_range] at h
    obtain ⟨l, _, rfl⟩ := h
    rfl
  · right
    unfold evTo at h
    rw [List.mem_flatMap] at h
    obtain ⟨t, ht, h⟩ := h
    cases hr : p[t]? with
    | none => rw [hr] at h; simp at h
    | some r =>
      rw [hr] at h
      simp only [evRow, List.mem_flatMap, List.mem_range] at h
      obtain ⟨i, hi, h⟩ := h
      obtain ⟨x, hx⟩ := get_of_lt (xs := r) (k := i) hi
      rw [hx] at h
      obtain ⟨rfl, hx4⟩ := mem_evOf h
      exact ⟨t, i, r, x, hr, hx, rfl, hx4⟩

theorem conflictR_ev {o l o2 l2 : Int} (h : o ≠ 4) (h2 : o2 ≠ 4) : conflictR o l o2 l2 = ((l == l2) && (isWop o || isWop o2)) := by
  have g1 : (o != 4) = true := by simp [h]
  have g2 : (o2 != 4) = true := by simp [h2]
  unfold conflictR
  rw [g1, g2]; rfl

end Go.Proofs.Ytblheabgjjeigaa
