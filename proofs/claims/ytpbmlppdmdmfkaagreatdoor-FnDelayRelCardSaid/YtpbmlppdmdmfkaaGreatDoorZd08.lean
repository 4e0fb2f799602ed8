/-
  SwapStores, of the program and of the reference. Condition: bounds on lengths.
-/
import Derived.Test.YtpbmlppdmdmfkaaGreatDoorZd06
import Derived.Test.YtpbmlppdmdmfkaaGreatDoorZd07
import Derived.Shelf.Sort.Plain
import Derived.Ground.NamesProg
import Derived.Test.YtpbmlppdmdmfkaaGreatDoorProg
import Derived.Test.YtpbmlppdmdmfkaaGreatDoorZd05
import Derived.Shelf.Slices.In.SortNone
import Derived.Sort.OwnSortedInts
import Derived.Test.YtpbmlppdmdmfkaaGreatDoorZd04
namespace Go.Proofs.YtpbmlppdmdmfkaaGreatDoor
open Go.RowKit

theorem fenceOp_any (o l r x : Int) (w : World) :
    Calls Tryz.prog 227 #[.agg #[.int .i64 o, .int .i64 l, .int .i64 r, .int .i64 x]] w fun e w' => e = .returned (.bool (o == 4)) ∧ Below w.heap.size w w' := by
  have HB := hide (belowAlloc w (.cells #[.int .i64 o, .int .i64 l, .int .i64 r, .int .i64 x] 84))
  go_enter Tryz.func227, Tryz.ntmps227
  go_wp2_with fail
  go_ret
  exact ⟨rfl, HB.out⟩

theorem pure_any (t i l : Int) (r w0 b : Bool) (w : World) :
    Calls Tryz.prog 228 #[.agg #[.int .i64 t, .int .i64 i, .int .i64 l, .bool r, .bool w0], .bool b] w fun e w' => e = .returned (.bool ((w0 == b) && (r != b))) ∧ Below w.heap.size w w' := by
  have HB := hide (belowAlloc w (.cells #[.int .i64 t, .int .i64 i, .int .i64 l, .bool r, .bool w0] 147))
  cases w0 <;> cases b <;> cases r
  all_goals
    go_enter Tryz.func228, Tryz.ntmps228
    go_wp2_with fail
    go_ret
    exact ⟨rfl, HB.out⟩

set_option maxHeartbeats 1600000 in
theorem isBefore_any (f1 o1 : Option Addr) (f2 f3 o2 o3 : Nat) (x : Xc) (l : Nat) (i k : Int) (w : World) (hx : RepX w (.slice f1 f2 f3) (.slice o1 o2 o3) x) (hl : l < x.od.length) :
    Calls Tryz.prog 225 #[.agg #[.slice f1 f2 f3, .slice o1 o2 o3], .int .i64 l, .int .i64 i, .int .i64 k] w fun e w' => e = .returned (.bool (bef (odA x l) i k)) ∧ Below w.heap.size w w' := by
  obtain ⟨o, ho⟩ := get_of_lt hl
  have hod : odA x l = o := by simp [odA, ho]
  rw [hod]
  have HX := hide hx
  obtain ⟨oa, oc, hoe, -, -, -, hoo⟩ := hx.od.open
  simp only [Value.slice.injEq] at hoe
  obtain ⟨rfl, rfl, rfl⟩ := hoe
  have HB := hide (belowAlloc w (.cells #[.slice f1 f2 f3, .slice o1 x.od.length o3] 35))
  have HBX := hide (heap_alloc_new w (.cells #[.slice f1 f2 f3, .slice o1 x.od.length o3] 35))
  obtain ⟨b2, q2, ra, rc, rfl, hbl2, q0, q1⟩ := (hoo.below HB.out).row ho
  have HI := hide (fun (y : Int) (z : BW (w.alloc (.cells #[.slice f1 f2 f3, .slice (some ⟨b2, q2, none⟩) x.od.length o3] 35))) => (IndexN_any _ o y z.val (q1.below z.prop)).mono (R' := fun e w' => e = .returned (.int .i64 (plc o y)) ∧ z.val = w') (fun e w' ⟨⟨q, h1, h2⟩, h3⟩ => ⟨by rw [h1, h2.eq], h3⟩))
  have hl' := nat_of_lt hl
  have HE : Hid (bef o i k = (decide (0 ≤ plc o i) && (decide (0 ≤ plc o k) && decide (plc o i < plc o k)))) := hide rfl
  clear hx hoo q1 ho hod HX
  generalize bef o i k = R at *
  generalize x.od.length = on at *
  generalize hW : w.alloc (.cells #[.slice f1 f2 f3, .slice (some ⟨b2, q2, none⟩) on o3] 35) = W at *
  have d1 : W.cell? ⟨w.heap.size, 1, none⟩ = some (.slice (some ⟨b2, q2, none⟩) on o3) := cell_of_heapV HBX.out (k := 1) rfl
  have dl := lt_of_cell d1
  go_enter Tryz.func225, Tryz.ntmps225
  go_wp2_with fail
  refine wp_region_bw (by kernel_rfl) (by kernel_rfl) ?_
  repeat (go_big_quiet_step ((go_at_call 222; (with_reducible exact Calls.bw_same (HI.out _ _)))))
  refine wpQuiet_nil ?_
  intro w5 hb5
  have HB5 := hide (HB.out.trans (hb5.mono HB.out.size))
  clear hb5 d1 dl
  generalize plc o i = qi at *
  generalize plc o k = qk at *
  by_cases g1 : 0 ≤ qi
  · by_cases g2 : 0 ≤ qk
    · have E : Hid (R = decide (qi < qk)) := hide (by rw [HE.out]; simp [g1, g2])
      go_wp2_with fail
      go_ret
      exact ⟨by rw [E.out]; rfl, HB5.out⟩
    · have k2 : decide (0 ≤ qk) = false := decide_eq_false g2
      have E : Hid (R = false) := hide (by rw [HE.out, k2]; simp)
      clear g2
      go_wp2_with fail
      go_ret
      exact ⟨by rw [E.out]; rfl, HB5.out⟩
  · have k1 : decide (0 ≤ qi) = false := decide_eq_false g1
    have E : Hid (R = false) := hide (by rw [HE.out, k1]; simp)
    clear g1
    go_wp2_with fail
    go_ret
    exact ⟨by rw [E.out]; rfl, HB5.out⟩

end Go.Proofs.YtpbmlppdmdmfkaaGreatDoor

namespace Go.Proofs.YtpbmlppdmdmfkaaGreatDoor
open Go.RowKit

/-- Where the events a and b lie. -/
structure EvAt (W : World) (b7 b8 : Nat) (a b : Ev) : Prop where
  h7 : b7 < W.heap.size
  h8 : b8 < W.heap.size
  a0 : W.cell? ⟨b7, 0, none⟩ = some (.int .i64 a.t)
  a1 : W.cell? ⟨b7, 1, none⟩ = some (.int .i64 a.i)
  a2 : W.cell? ⟨b7, 2, none⟩ = some (.int .i64 a.l)
  a3 : W.cell? ⟨b7, 3, none⟩ = some (.bool a.r)
  a4 : W.cell? ⟨b7, 4, none⟩ = some (.bool a.w)
  c0 : W.cell? ⟨b8, 0, none⟩ = some (.int .i64 b.t)
  c1 : W.cell? ⟨b8, 1, none⟩ = some (.int .i64 b.i)
  c2 : W.cell? ⟨b8, 2, none⟩ = some (.int .i64 b.l)
  c3 : W.cell? ⟨b8, 3, none⟩ = some (.bool b.r)
  c4 : W.cell? ⟨b8, 4, none⟩ = some (.bool b.w)


set_option maxRecDepth 100000 in
set_option maxHeartbeats 3200000 in
theorem isPair_po (pv : Value) (f1 o1 la : Option Addr) (f2 f3 o2 o3 lc : Nat) (p : List (List Ins)) (x : Xc) (i k : Nat) (w : World) (hp : RepP w pv p) (hx : RepX w (.slice f1 f2 f3) (.slice o1 o2 o3) x) (hL : Rep EvE w (.slice la (evAll p).length lc) (evAll p)) (hi : i < (evAll p).length) (hk : k < (evAll p).length) :
    Calls Tryz.prog 165 #[pv, .agg #[.slice f1 f2 f3, .slice o1 o2 o3], .slice la (evAll p).length lc, .string ⟨#[112, 111]⟩, .int .i64 i, .int .i64 k] w fun e w' => e = .returned (.bool (relN p x 0 i k)) ∧ Below w.heap.size w w' := by
  obtain ⟨a, ha⟩ := get_of_lt hi
  obtain ⟨b, hbb⟩ := get_of_lt hk
  have CE : Hid (relN p x 0 i k = relE p x 0 a b i k) := hide (relN_eq ha hbb)
  have HPO : Hid (poE a b = (decide (0 ≤ a.t) && ((a.t == b.t) && decide (a.i < b.i)))) := hide rfl
  obtain ⟨d, o, rfl, hd, i0, i1, i2, i3, i4⟩ := hL.ev ha
  obtain ⟨d', o', hde, hd', j0, j1, j2, j3, j4⟩ := hL.ev hbb
  simp only [Option.some.injEq, Addr.mk.injEq, and_true] at hde
  obtain ⟨rfl, rfl⟩ := hde
  have HBW := hide (belowAlloc w (.cells #[.slice f1 f2 f3, .slice o1 o2 o3] 35))
  have HBX := hide (heap_alloc_new w (.cells #[.slice f1 f2 f3, .slice o1 o2 o3] 35))
  have hi' := nat_of_lt hi; have hk' := nat_of_lt hk

  have HP := hide (hp.below HBW.out); have HX := hide (hx.below HBW.out)
  clear hbb hL hp hx
  generalize relN p x 0 i k = R at *
  have RE : Hid (R = relE p x 0 a b i k) := CE
  clear CE
  generalize (evAll p).length = n at *
  generalize hW : w.alloc (.cells #[.slice f1 f2 f3, .slice o1 o2 o3] 35) = W0 at *
  have e0 := (HBW.out.cell (p := ⟨d, o + i * 5, none⟩) hd).trans i0; have e1 := (HBW.out.cell (p := ⟨d, o + i * 5 + 1, none⟩) hd).trans i1; have e2 := (HBW.out.cell (p := ⟨d, o + i * 5 + 2, none⟩) hd).trans i2; have e3 := (HBW.out.cell (p := ⟨d, o + i * 5 + 3, none⟩) hd).trans i3; have e4 := (HBW.out.cell (p := ⟨d, o + i * 5 + 4, none⟩) hd).trans i4
  have u0 := (HBW.out.cell (p := ⟨d, o + k * 5, none⟩) hd').trans j0; have u1 := (HBW.out.cell (p := ⟨d, o + k * 5 + 1, none⟩) hd').trans j1; have u2 := (HBW.out.cell (p := ⟨d, o + k * 5 + 2, none⟩) hd').trans j2; have u3 := (HBW.out.cell (p := ⟨d, o + k * 5 + 3, none⟩) hd').trans j3; have u4 := (HBW.out.cell (p := ⟨d, o + k * 5 + 4, none⟩) hd').trans j4
  have hdW := lt_of_cell e0
  generalize hPB : poE a b = PB at *
  clear i0 i1 i2 i3 i4 j0 j1 j2 j3 j4 ha
  go_enter Tryz.func165, Tryz.ntmps165
  go_wp2_with fail
  clear hW
  go_cut [13, 14] (fun s13 s14 W => ∃ b7 b8 : Nat, s13 = .pointer (some ⟨b7, 0, none⟩) ∧ s14 = .pointer (some ⟨b8, 0, none⟩) ∧ EvAt W b7 b8 a b ∧ Below W0.heap.size W0 W)
  case first =>
    go_region_held3 (fun W => W.cell? ⟨d, o + i * 5, none⟩ = some (.int .i64 a.t) ∧ W.cell? ⟨d, o + i * 5 + 1, none⟩ = some (.int .i64 a.i) ∧ W.cell? ⟨d, o + i * 5 + 2, none⟩ = some (.int .i64 a.l) ∧ W.cell? ⟨d, o + i * 5 + 3, none⟩ = some (.bool a.r) ∧ W.cell? ⟨d, o + i * 5 + 4, none⟩ = some (.bool a.w) ∧
      W.cell? ⟨d, o + k * 5, none⟩ = some (.int .i64 b.t) ∧ W.cell? ⟨d, o + k * 5 + 1, none⟩ = some (.int .i64 b.i) ∧ W.cell? ⟨d, o + k * 5 + 2, none⟩ = some (.int .i64 b.l) ∧ W.cell? ⟨d, o + k * 5 + 3, none⟩ = some (.bool b.r) ∧ W.cell? ⟨d, o + k * 5 + 4, none⟩ = some (.bool b.w)) ((simp [go_sem, *])) (first | fail)
    all_goals
      go_wp2_with fail
      go_meet
      refine ⟨_, _, rfl, rfl, ⟨by first | (simp; done) | (simp; omega), by first | (simp; done) | (simp; omega), by simp [go_sem], by simp [go_sem], by simp [go_sem], by simp [go_sem], by simp [go_sem], by simp [go_sem], by simp [go_sem], by simp [go_sem], by simp [go_sem], by simp [go_sem]⟩, ?_⟩
      exact (((Below.refl _ _).alloc (Nat.le_refl _) _).alloc (by simp) _).drew
  case rest =>
    obtain ⟨b7, b8, rfl, rfl, EA, hbW⟩ := hcut
    have HE := hide EA
    obtain ⟨h7, h8, a0, a1, a2, a3, a4, c0, c1, c2, c3, c4⟩ := EA
    have HBC := hide (HBW.out.trans (hbW.mono HBW.out.size))
    have HB0 := hide hbW
    have hwx := (hbW.block w.heap.size (Array.getElem?_eq_some_iff.1 HBX.out).1).trans HBX.out
    have x0 : wc.cell? ⟨w.heap.size, 0, none⟩ = some (.slice f1 f2 f3) := cell_of_heapV hwx (k := 0) rfl
    have x1 : wc.cell? ⟨w.heap.size, 1, none⟩ = some (.slice o1 o2 o3) := cell_of_heapV hwx (k := 1) rfl
    have xl := lt_of_cell x0
    clear e0 e1 e2 e3 e4 u0 u1 u2 u3 u4 hwx hbW
    go_upto_region 2 with fail
    go_cut [15] (fun s15 W => s15 = .bool PB ∧ W = wc)
    case first =>
      by_cases g1 : 0 ≤ a.t
      · by_cases g2 : a.t = b.t
        · have k2 : (a.t == b.t) = true := by simp [g2]
          have E : Hid (PB = decide (a.i < b.i)) := hide (by rw [HPO.out, k2]; simp [g1])
          clear g2
          go_wp2_with fail
          go_meet
          exact ⟨by rw [E.out], rfl⟩
        · have k2 : (a.t == b.t) = false := by simp [g2]
          have E : Hid (PB = false) := hide (by rw [HPO.out, k2]; simp)
          clear g2
          go_wp2_with fail
          go_meet
          exact ⟨by rw [E.out], rfl⟩
      · have k1 : decide (0 ≤ a.t) = false := decide_eq_false g1
        have E : Hid (PB = false) := hide (by rw [HPO.out, k1]; simp)
        clear g1
        go_wp2_with fail
        go_meet
        exact ⟨by rw [E.out], rfl⟩
    case rest =>
      obtain ⟨rfl, rfl⟩ := hcut
      have n0 : ((⟨#[112, 111]⟩ : ByteArray).toList == [112, 111]) = true := by kernel_rfl
      have RP : Hid (R = PB) := hide (by rw [RE.out]; exact hPB)
      go_wp2_with fail
      go_ret
      exact ⟨by rw [RP.out]; rfl, HBC.out⟩

end Go.Proofs.YtpbmlppdmdmfkaaGreatDoor

namespace Go.Proofs.YtpbmlppdmdmfkaaGreatDoor
open Go.Proofs Go.Shelf
def Tryz.lays189_ren : Go.Shelf.Ren := ⟨fun | 189 => 162 | 125 => 224 | 257 => 223 | 128 => 273 | 129 => 274 | 294 => 264 | 295 => 265 | 296 => 266 | 297 => 267 | 298 => 268 | 299 => 269 | 216 => 270 | 300 => 271 | 301 => 272 | 328 => 312 | 329 => 313 | 330 => 314 | 331 => 315 | 332 => 316 | 215 => 310 | 343 => 338 | n => n, fun | 28 => 25 | 3 => 3 | 46 => 89 | 0 => 0 | 51 => 160 | 53 => 162 | 4 => 4 | 183 => 248 | 182 => 247 | 131 => 67 | 5 => 5 | 9 => 9 | 218 => 277 | 222 => 281 | 228 => 293 | 229 => 294 | n => n, fun | n => n⟩
theorem Tryz.lays189 : Go.Proofs.Lays.n189 Tryz.prog Tryz.lays189_ren := {
  mixed := by kernel_rfl
  f125 := Tryz.func224.trans (congrArg some (by kernel_rfl))
  f128 := Tryz.func273.trans (congrArg some (by kernel_rfl))
  f129 := Tryz.func274.trans (congrArg some (by kernel_rfl))
  f189 := Tryz.func162.trans (congrArg some (by kernel_rfl))
  f215 := Tryz.func310.trans (congrArg some (by kernel_rfl))
  f216 := Tryz.func270.trans (congrArg some (by kernel_rfl))
  f257 := Tryz.func223.trans (congrArg some (by kernel_rfl))
  f294 := Tryz.func264.trans (congrArg some (by kernel_rfl))
  f295 := Tryz.func265.trans (congrArg some (by kernel_rfl))
  f296 := Tryz.func266.trans (congrArg some (by kernel_rfl))
  f297 := Tryz.func267.trans (congrArg some (by kernel_rfl))
  f298 := Tryz.func268.trans (congrArg some (by kernel_rfl))
  f299 := Tryz.func269.trans (congrArg some (by kernel_rfl))
  f300 := Tryz.func271.trans (congrArg some (by kernel_rfl))
  f301 := Tryz.func272.trans (congrArg some (by kernel_rfl))
  f328 := Tryz.func312.trans (congrArg some (by kernel_rfl))
  f329 := Tryz.func313.trans (congrArg some (by kernel_rfl))
  f330 := Tryz.func314.trans (congrArg some (by kernel_rfl))
  f331 := Tryz.func315.trans (congrArg some (by kernel_rfl))
  f332 := Tryz.func316.trans (congrArg some (by kernel_rfl))
  f343 := Tryz.func338.trans (congrArg some (by kernel_rfl))
  t0 := Tryz.underlying0
  a0 := Tryz.isAgg0
  z0 := Tryz.sizeOf0
  v0 := Tryz.zeroValue0
  t3 := Tryz.underlying3
  a3 := Tryz.isAgg3
  z3 := Tryz.sizeOf3
  v3 := Tryz.zeroValue3
  t4 := Tryz.underlying4
  a4 := Tryz.isAgg4
  z4 := Tryz.sizeOf4
  v4 := Tryz.zeroValue4
  t5 := Tryz.underlying5
  a5 := Tryz.isAgg5
  z5 := Tryz.sizeOf5
  v5 := Tryz.zeroValue5
  t9 := Tryz.underlying9
  a9 := Tryz.isAgg9
  z9 := Tryz.sizeOf9
  v9 := Tryz.zeroValue9
  t28 := Tryz.underlying25
  a28 := Tryz.isAgg25
  z28 := Tryz.sizeOf25
  v28 := Tryz.zeroValue25
  t46 := Tryz.underlying89
  a46 := Tryz.isAgg89
  z46 := Tryz.sizeOf89
  v46 := Tryz.zeroValue89
  t51 := Tryz.underlying160
  a51 := Tryz.isAgg160
  z51 := Tryz.sizeOf160
  v51 := Tryz.zeroValue160
  t53 := Tryz.underlying162
  a53 := Tryz.isAgg162
  z53 := Tryz.sizeOf162
  v53 := Tryz.zeroValue162
  t131 := Tryz.underlying67
  a131 := Tryz.isAgg67
  z131 := Tryz.sizeOf67
  v131 := Tryz.zeroValue67
  t182 := Tryz.underlying247
  a182 := Tryz.isAgg247
  z182 := Tryz.sizeOf247
  v182 := Tryz.zeroValue247
  t183 := Tryz.underlying248
  a183 := Tryz.isAgg248
  z183 := Tryz.sizeOf248
  v183 := Tryz.zeroValue248
  t218 := Tryz.underlying277
  a218 := Tryz.isAgg277
  z218 := Tryz.sizeOf277
  v218 := Tryz.zeroValue277
  t222 := Tryz.underlying281
  a222 := Tryz.isAgg281
  z222 := Tryz.sizeOf281
  v222 := Tryz.zeroValue281
  t228 := Tryz.underlying293
  a228 := Tryz.isAgg293
  z228 := Tryz.sizeOf293
  v228 := Tryz.zeroValue293
  t229 := Tryz.underlying294
  a229 := Tryz.isAgg294
  z229 := Tryz.sizeOf294
  v229 := Tryz.zeroValue294 }
end Go.Proofs.YtpbmlppdmdmfkaaGreatDoor

namespace Go.Proofs.YtpbmlppdmdmfkaaGreatDoor
open Go.RowKit Go.Shelf Go.Sort

def sortL (xs : List Int) : List Int := xs.mergeSort fun x y => decide (x ≤ y)
theorem intE_map (xs : List Int) : xs.flatMap IntE.c = xs.map (Value.int .i64) := by
  induction xs with
  | nil => rfl
  | cons x xs ih => rw [List.flatMap_cons, ih]; rfl

theorem SortN_any (v : Value) (xs : List Int) (w : World) (base : Nat) (h : Own IntE 3 w base v xs) (hl : xs.length ≤ 1048576) :
    Calls Tryz.prog 162 #[v] w fun e w' => e = .returned (.tuple #[]) ∧ Own IntE 3 w' base v (sortL xs) ∧ w.grownBy w' v.ownBlock := by
  rcases h.2 with ⟨rfl, h0⟩ | ⟨g, cap, cur, rfl, hbase, hb, h1, h2, h3, h4⟩
  · obtain rfl : xs = [] := List.eq_nil_of_length_eq_zero h0
    have hc := Any.slices_Sort_int_none Tryz.lays189 none 0 w
    change Calls Tryz.prog 162 _ _ _ at hc
    exact hc.mono fun _ _ ⟨a, b⟩ => by subst b; exact ⟨a, by simpa [sortL] using h, World.grownBy.refl _ _⟩
  · have hH : Holds (Value.int .i64) w g 0 xs.toArray := holds_of_blockI hb (by rw [← intE_map]; simpa [IntE] using h4)
    have hc := Any.slices_Sort_int Tryz.lays189 g 0 cap xs w hH (Array.getElem?_eq_some_iff.1 hb).1 (by omega)
    change Calls Tryz.prog 162 _ _ _ at hc
    refine hc.mono fun _ w' ⟨a, n, os, b⟩ => ?_
    subst b
    have hlen : (xs.mergeSort fun x y => decide (x ≤ y)).length = xs.length := List.length_mergeSort _
    refine ⟨a, ?_, grownBy_sortedI _⟩
    have h5 := ownsRow_sortedI (n := n) (os := os) (ts := xs.mergeSort fun x y => decide (x ≤ y)) hlen hbase hb h1 h2 (by simpa [IntE] using h3)
    unfold Own sortL
    rw [intE_map, hlen]
    exact h5

end Go.Proofs.YtpbmlppdmdmfkaaGreatDoor

namespace Go.Proofs.YtpbmlppdmdmfkaaGreatDoor
open Go.RowKit

theorem sort_eq {p : List (List Ins)} {l : Nat} (o : List Int) : decide (sortL o = wrL (evAll p) l) = decide (o.Perm (wrL (evAll p) l)) := by
  congr 1
  apply propext
  constructor
  · intro h
    rw [← h]
    exact (List.mergeSort_perm o _).symm
  · intro h
    have h1 : (sortL o).Perm (wrL (evAll p) l) := (List.mergeSort_perm o _).trans h
    have h2 : (sortL o).Pairwise (· ≤ ·) := by
      have := List.pairwise_mergeSort (le := fun x y : Int => decide (x ≤ y)) (fun a b c h1 h2 => by simp at *; omega) (fun a b => by simp; omega) o
      exact this.imp (fun h => by simpa using h)
    have h3 : (wrL (evAll p) l).Pairwise (· ≤ ·) := (wrL_sorted _ _).imp (fun h => Int.le_of_lt h)
    exact h1.eq_of_pairwise (fun a b _ _ h4 h5 => Int.le_antisymm h4 h5) h2 h3

theorem head_get {o : List Int} {x : Int} (h : o[0]? = some x) (l : Nat) : (o.head? == some (l : Int)) = (x == (l : Int)) := by
  rw [List.head?_eq_getElem?, h]; rfl

set_option maxRecDepth 100000 in
set_option maxHeartbeats 6400000 in
theorem ExecValid_any (v vf vo : Value) (p : List (List Ins)) (x : Xc) (w : World) (hp : RepP w v p) (hx : RepX w vf vo x) (hl : p.flatten.length ≤ 1048576) (hol : ∀ o ∈ x.od, o.length ≤ 1048576) :
    Calls Tryz.prog 73 #[v, .agg #[vf, vo]] w fun e w' => e = .returned (.bool (execOk p x)) ∧ Below w.heap.size w w' := by
  have HP := hide hp
  have HXX := hide hx
  have HV := hide (fun w' h => ProgramValid_any v p w' h hl)
  have HE := hide (fun w' h => events_any v p w' h hl)
  obtain ⟨fa, fc, rfl, hf1, hf2, hf3, hfr⟩ := hx.fr.open
  obtain ⟨oa, oc, rfl, ho1, ho2, ho3, hod⟩ := hx.od.open
  clear hp hfr hod hx
  have HR : Hid (execOk p x = (progValid p && (decide (x.fr.length = (evAll p).length) && (decide (x.od.length = 3) && (fromsOk (evAll p) x.fr (evAll p).length && ordersOk (evAll p) x.od 3))))) := hide rfl
  have HEL := hide (evAll_length p)
  have HSE := hide (fun (l : Nat) (o : List Int) => sort_eq (p := p) (l := l) o)
  have HWP := hide (fun (l : Nat) (h : l < 3) => wrL_pos (p := p) h)
  have HOL := hide hol; clear hol
  have HB0 := hide ((Below.refl w.heap.size w).alloc (Nat.le_refl _) (.cells #[.slice fa x.fr.length fc, .slice oa x.od.length oc] 35))
  have HPV : Hid (progValid p = true → (evAll p).length ≤ 15) := hide evAll_le
  have HP0 := hide (HP.out.below HB0.out)
  generalize execOk p x = R at *
  generalize hfn : x.fr.length = fn at *
  generalize hon : x.od.length = on at *
  generalize hes : evAll p = es at *
  generalize hen : es.length = en at *
  generalize progValid p = b at *
  have HF := hide hfn; have HO := hide hon; have HN := hide hen
  clear hfn hon hes hen
  go_enter Tryz.func73, Tryz.ntmps73
  cases b
  · obtain rfl : R = false := by rw [HR.out]; rfl
    go_wp2_with fail
    (with_reducible refine (HV.out _ HP0.out).mono ?_); rintro e w1 ⟨rfl, hb1⟩
    go_wp2_with fail
    go_ret
    exact ⟨rfl, HB0.out.trans (hb1.mono HB0.out.size)⟩
  · have hen15 := HPV.out rfl
    go_wp2_with fail
    (with_reducible refine (HV.out _ HP0.out).mono ?_); rintro e w1 ⟨rfl, hb1⟩
    have HP1 := hide (HP0.out.below hb1)
    have HB1 := hide hb1; clear hb1
    go_wp2_with fail
    (with_reducible refine (HE.out _ HP1.out).mono ?_); rintro e w2 ⟨ve, rfl, oe, hb2⟩
    have hre := oe.rep
    obtain ⟨ea, ec, rfl, he1, he2, he3, hre⟩ := hre.open
    rw [HN.out] at he1 he2 hre ⊢
    have HRE := hide hre
    have HB2 := hide (HB1.out.trans (hb2.mono HB1.out.size))
    have hbl0 : w.heap.size < (w.alloc (.cells #[.slice fa fn fc, .slice oa on oc] 35)).heap.size := by simp
    have hz : (w.alloc (.cells #[.slice fa fn fc, .slice oa on oc] 35)).cell? ⟨w.heap.size, 0, none⟩ = some (.slice fa fn fc) ∧ (w.alloc (.cells #[.slice fa fn fc, .slice oa on oc] 35)).cell? ⟨w.heap.size, 1, none⟩ = some (.slice oa on oc) := by simp [go_sem]
    have HZ0 := hide hz.1; have HZ1 := hide hz.2
    have HX0 := hide (HXX.out.below HB0.out)
    have HBW := hide (HB0.out)
    clear oe hre hb2 hz HB1 HV HE
    generalize w.alloc (.cells #[.slice fa fn fc, .slice oa on oc] 35) = w0 at *
    have z0 := (HB2.out.cell (p := ⟨w.heap.size, 0, none⟩) hbl0).trans HZ0.out
    have z1 := (HB2.out.cell (p := ⟨w.heap.size, 1, none⟩) hbl0).trans HZ1.out
    have hbl2 : w.heap.size < w2.heap.size := Nat.lt_of_lt_of_le hbl0 HB2.out.size
    by_cases c1 : fn = en
    · by_cases c2 : on = 3
      · have k1 : ((fn : Int) != (en : Int)) = false := by simp [c1]
        have k2 : ((on : Int) != 3) = false := by subst c2; rfl
        have E1 : Hid (R = (fromsOk es x.fr en && ordersOk es x.od 3)) := hide (by rw [HR.out, c1, c2]; simp)
        have C1 := hide c1; have C2 := hide c2
        clear c1 c2 HR
        go_wp2_with fail
        clear k1 k2 z0 z1
        go_loopw [31] (fun i wr => ∃ t : Nat, t ≤ en ∧ i = .int .i64 t ∧ Hid (fromsOk es x.fr t = true) ∧ Below w2.heap.size w2 wr) (fun i _ => en - (intOf i).toNat)
        case atStart => exact ⟨0, Nat.zero_le _, rfl, hide (by simp [fromsOk]), Below.refl _ _⟩
        case round =>
          obtain ⟨t, ht, rfl, hok, hb⟩ := hrel
          have HXr := hide ((HX0.out.below HB2.out).below hb)
          have HREr := hide (HRE.out.below hb)
          have z0 := (hb.cell (p := ⟨w.heap.size, 0, none⟩) hbl2).trans ((HB2.out.cell (p := ⟨w.heap.size, 0, none⟩) hbl0).trans HZ0.out)
          have hblr : w.heap.size < wr.heap.size := Nat.lt_of_lt_of_le hbl2 hb.size
          by_cases hlt : t < en
          · obtain ⟨e, he⟩ := get_of_lt (xs := es) (k := t) (by rw [HN.out]; exact hlt)
            obtain ⟨f, hf⟩ := get_of_lt (xs := x.fr) (k := t) (by rw [HF.out, C1.out]; exact hlt)
            obtain ⟨b, o, rfl, hbl, i0, i1, i2, i3, i4⟩ := HREr.out.ev he
            obtain ⟨b', o', rfl, hbl', j0⟩ := HXr.out.fr.int hf
            have hlt' := nat_of_lt hlt
            have hltf : (t : Int) < (fn : Int) := by have := C1.out; omega
            have FS := hide (fromsOk_succ he hf)
            have FN : Hid (fromOk es t e f = false → R = false) := hide (fun h => by rw [E1.out, fromsOk_no he hf hlt h]; rfl)
            clear he hf
            obtain ⟨et, ei, el, er, ew⟩ := e
            simp only at i0 i1 i2 i3 i4
            have HBA := hide (hb.alloc hb.size (.cells #[.int .i64 et, .int .i64 ei, .int .i64 el, .bool er, .bool ew] 147))
            cases er
            · have FO : Hid (fromOk es t ⟨et, ei, el, false, ew⟩ f = (f == -1)) := hide rfl
              by_cases hf1 : f = -1
              · subst hf1
                have OK : Hid (fromsOk es x.fr (t + 1) = true) := hide (by rw [FS.out, hok.out, FO.out]; rfl)
                go_wp2_with fail
                go_roundw
                case rel => exact ⟨t + 1, by omega, by go_num, OK, HBA.out⟩
                case measure => simp [intOf]; omega
              · have k1 : (f != -1) = true := by simp [hf1]
                obtain rfl : R = false := FN.out (by rw [FO.out]; simp [hf1])
                clear hf1
                go_wp2_with fail
                go_ret
                have hb5 := HB2.out.trans (HBA.out.mono HB2.out.size)
                exact ⟨rfl, HBW.out.trans (hb5.mono HBW.out.size)⟩
            · have FO : Hid (fromOk es t ⟨et, ei, el, true, ew⟩ f = ((f != (t : Int)) && (wrL es el).contains f)) := hide rfl
              have HWR := hide (writersOf_any (.slice (some ⟨b, o, none⟩) en ec) es el _ (HREr.out.below ((Below.refl wr.heap.size wr).alloc (Nat.le_refl _) (.cells #[.int .i64 et, .int .i64 ei, .int .i64 el, .bool true, .bool ew] 147))) (by rw [HN.out]; omega))
              have HPL := hide (fun v w' h => ContainsN_any v (wrL es el) f w' h)
              generalize wrL es el = ws at *
              by_cases hft : f = (t : Int)
              · obtain rfl : R = false := FN.out (by rw [FO.out, hft]; simp)
                have k3 : (f == (t : Int)) = true := by simp [hft]
                clear hft
                go_wp2_with fail
                go_ret
                have hb5 := HB2.out.trans (HBA.out.mono HB2.out.size)
                exact ⟨rfl, HBW.out.trans (hb5.mono HBW.out.size)⟩
              · have k3 : (f == (t : Int)) = false := by simp [hft]
                generalize hcf : ws.contains f = cf at *
                cases cf
                · obtain rfl : R = false := FN.out (by rw [FO.out]; simp)
                  clear hcf hft
                  go_wp2_with fail
                  (with_reducible refine HWR.out.mono ?_); rintro e w4 ⟨vw, rfl, ow, hb4⟩
                  have HOW := hide ow.rep; have HB4 := hide (HBA.out.trans (hb4.mono HBA.out.size)); clear ow hb4
                  go_wp2_with fail
                  (with_reducible refine (HPL.out _ _ HOW.out).mono ?_); rintro e w5 ⟨rfl, rfl⟩
                  go_wp2_with fail
                  go_ret
                  have hb5 := HB2.out.trans (HB4.out.mono HB2.out.size)
                  exact ⟨rfl, HBW.out.trans (hb5.mono HBW.out.size)⟩
                · have OK : Hid (fromsOk es x.fr (t + 1) = true) := hide (by rw [FS.out, hok.out, FO.out]; simp [hft])
                  clear hcf hft
                  go_wp2_with fail
                  (with_reducible refine HWR.out.mono ?_); rintro e w4 ⟨vw, rfl, ow, hb4⟩
                  have HOW := hide ow.rep; have HB4 := hide (HBA.out.trans (hb4.mono HBA.out.size)); clear ow hb4
                  go_wp2_with fail
                  (with_reducible refine (HPL.out _ _ HOW.out).mono ?_); rintro e w5 ⟨rfl, rfl⟩
                  go_wp2_with fail
                  go_roundw
                  case rel => exact ⟨t + 1, by omega, by go_num, OK, HB4.out⟩
                  case measure => simp [intOf]; omega
          · have OKF : Hid (fromsOk es x.fr en = true) := hide (by rw [show en = t by omega]; exact hok.out)
            have E2 : Hid (R = ordersOk es x.od 3) := hide (by rw [E1.out, OKF.out]; rfl)
            clear E1 hok OKF
            have HB3 := hide (HB2.out.trans (hb.mono HB2.out.size))
            have z1 := (HB3.out.cell (p := ⟨w.heap.size, 1, none⟩) hbl0).trans HZ1.out
            go_wp2_with fail
            clear z0 z1
            go_loopw [70] (fun i wq => ∃ k : Nat, k ≤ 3 ∧ i = .int .i64 k ∧ Hid (ordersOk es x.od k = true) ∧ Below wr.heap.size wr wq) (fun i _ => 3 - (intOf i).toNat)
            case atStart => exact ⟨0, by omega, rfl, hide (by simp [ordersOk]), Below.refl _ _⟩
            case round =>
              obtain ⟨k, hk, rfl, hok, hbq⟩ := hrel
              have HXq := hide (HXr.out.below hbq)
              have HREq := hide (HREr.out.below hbq)
              by_cases hlt3 : k < 3
              · obtain ⟨r, hr⟩ := get_of_lt (xs := x.od) (k := k) (by rw [HO.out, C2.out]; exact hlt3)
                obtain ⟨b, o, ra, rc, rfl, hbl, i0, i1⟩ := HXq.out.od.row hr
                have hkon : (k : Int) < (on : Int) := by have := C2.out; omega
                have hrl := HOL.out r (List.mem_of_getElem? hr)
                have FS := hide (ordersOk_succ (es := es) hr)
                have FN : Hid (orderOk es k r = false → R = false) := hide (fun h => by rw [E2.out, ordersOk_no hr hlt3 h])
                have HOE : Hid (orderOk es k r = (decide (r.Perm (wrL es (k : Int))) && (r.head? == some (k : Int)))) := hide rfl
                have HSK := hide (HSE.out k r)
                have hwp := HWP.out k hlt3
                have HCL := hide (CloneV_any _ r wr i1 hrl)
                have I1 := hide i1
                clear hr i1
                have HWR := hide (fun w' h => writersOf_any (.slice ea en ec) es (k : Int) w' h (by rw [HN.out]; omega))
                generalize hws : wrL es (k : Int) = ws at *
                go_wp2_with fail
                (with_reducible refine HCL.out.mono ?_); rintro e w4 ⟨vc, rfl, oc4, hb4⟩
                have HS4 := hide (SortN_any vc r w4 _ oc4 (by omega))
                have HB4 := hide hb4
                have HO4 := hide oc4
                clear hb4 oc4
                go_wp2_with fail
                (with_reducible refine HS4.out.mono ?_); rintro e w5 ⟨rfl, o5, hg5⟩
                have HB5 := hide (HB4.out.grown hg5 HB4.out.size (fun q hq => (World.ownsRow.lt HO4.out q hq).1))
                have HO5 := hide o5
                clear o5 hg5
                have HB5r := hide (hbq.trans (HB5.out.mono hbq.size))
                have HREs := hide (HREq.out.below HB5.out)
                go_wp2_with fail
                (with_reducible refine (HWR.out _ HREs.out).mono ?_); rintro e w6 ⟨vw, rfl, ow, hb6⟩
                have HEQ := hide (EqualN_any vc vw (sortL r) ws w6 (HO5.out.below hb6).rep ow.rep)
                have HB6 := hide (HB5.out.trans (hb6.mono HB5.out.size))
                clear ow hb6
                rw [HSK.out] at HEQ
                have HRR := hide (I1.out.below HB6.out)
                generalize hpm : decide (r.Perm ws) = pm at *
                cases pm
                · obtain rfl : R = false := FN.out (by rw [HOE.out]; rfl)
                  clear hpm hws
                  go_wp2_with fail
                  (with_reducible refine HEQ.out.mono ?_); rintro e w7 ⟨rfl, hb7⟩
                  go_wp2_with fail
                  go_ret
                  have hb8 := HB3.out.trans ((hbq.trans ((HB6.out.trans (hb7.mono HB6.out.size)).mono hbq.size)).mono HB3.out.size)
                  exact ⟨rfl, HBW.out.trans (hb8.mono HBW.out.size)⟩
                · have hr0 : 0 < r.length := by rw [(of_decide_eq_true hpm).length_eq]; exact hwp
                  obtain ⟨x0, hx0⟩ := get_of_lt (xs := r) (k := 0) hr0
                  have HH := hide (head_get hx0 k)
                  have X0 := hide hx0
                  clear hpm hws hx0
                  go_wp2_with fail
                  (with_reducible refine HEQ.out.mono ?_); rintro e w7 ⟨rfl, hb7⟩
                  obtain ⟨b2, o2, rfl, hbl3, j0⟩ := (HRR.out.below hb7).int X0.out
                  simp only [Nat.add_zero] at j0
                  have hr0' : (0 : Int) < (r.length : Int) := by omega
                  have HB7 := hide (HB6.out.trans (hb7.mono HB6.out.size))
                  clear hb7
                  by_cases hxk : x0 = (k : Int)
                  · have k1 : (x0 != (k : Int)) = false := by simp [hxk]
                    have OK : Hid (ordersOk es x.od (k + 1) = true) := hide (by rw [FS.out, hok.out, HOE.out, HH.out, hxk]; simp)
                    clear hxk
                    go_wp2_with fail
                    go_roundw
                    case rel => exact ⟨k + 1, by omega, by go_num, OK, hbq.trans (HB7.out.mono hbq.size)⟩
                    case measure => simp [intOf]; omega
                  · have k1 : (x0 != (k : Int)) = true := by simp [hxk]
                    obtain rfl : R = false := FN.out (by rw [HOE.out, HH.out]; simp [hxk])
                    clear hxk
                    go_wp2_with fail
                    go_ret
                    have hb8 := HB3.out.trans ((hbq.trans (HB7.out.mono hbq.size)).mono HB3.out.size)
                    exact ⟨rfl, HBW.out.trans (hb8.mono HBW.out.size)⟩
              · obtain rfl : k = 3 := by omega
                obtain rfl : R = true := by rw [E2.out, hok.out]
                have hon := C2.out
                clear C2
                subst hon
                go_wp2_with fail
                go_ret
                have hb6 := HB3.out.trans (hbq.mono HB3.out.size)
                exact ⟨rfl, HBW.out.trans (hb6.mono HBW.out.size)⟩
      · have k1 : ((fn : Int) != (en : Int)) = false := by simp [c1]
        have k2 : ((on : Int) != 3) = true := by simpa using (by omega : ¬ (on : Int) = 3)
        obtain rfl : R = false := by rw [HR.out]; simp [c2]
        clear c1 c2 HR
        go_wp2_with fail
        go_ret
        exact ⟨rfl, HBW.out.trans (HB2.out.mono HBW.out.size)⟩
    · have k1 : ((fn : Int) != (en : Int)) = true := by simp; omega
      obtain rfl : R = false := by rw [HR.out]; simp [c1]
      clear c1 HR
      go_wp2_with fail
      go_ret
      exact ⟨rfl, HBW.out.trans (HB2.out.mono HBW.out.size)⟩

end Go.Proofs.YtpbmlppdmdmfkaaGreatDoor

namespace Go.Proofs.YtpbmlppdmdmfkaaGreatDoor
open Go.RowKit

def TestsP_rel (a1 a2 a3 a4 : Addr) (n : Nat) (f : Nat → Nat → Bool) (w0 : World) : Prop := ∀ (i k : Nat) (w : World), i < n → k < n → Below w0.heap.size w0 w →
  Calls Tryz.prog 164 #[.int .i64 i, .int .i64 k, .pointer (some a1), .pointer (some a2), .pointer (some a3), .pointer (some a4)] w fun e w' => e = .returned (.bool (f i k)) ∧ Below w.heap.size w w'

set_option maxHeartbeats 800000 in
theorem pairsOf_rel (a1 a2 a3 a4 : Addr) (n : Nat) (f : Nat → Nat → Bool) (w : World) (hn : n ≤ 60) (hf : TestsP_rel a1 a2 a3 a4 n f w) :
    Calls Tryz.prog 127 #[.int .i64 n, .func (.func 164) #[] #[.pointer (some a1), .pointer (some a2), .pointer (some a3), .pointer (some a4)]] w (RetOwn IntE 3 w (relOf n f)) := by
  have HF := hide hf; clear hf
  go_enter Tryz.func127, Tryz.ntmps127
  go_wp2_with (at_make; refine wpList_make IntE 3 0 Tryz.infoInt rfl Tryz.underlying25 n (by decide) (by omega) rfl _ _ rfl rfl rfl ?_; intro w1 hown hgr)
  have hb1 := below_of_grown hgr
  go_loopw [11] (fun i wr => ∃ t : Nat, t ≤ n ∧ i = .int .i64 t ∧ OwnN wr w.heap.size (.slice (some ⟨w.heap.size, 0, none⟩) n n) ((relOf n f).take t ++ List.replicate (n - t) 0) ∧ Below w.heap.size w wr) (fun i _ => n - (intOf i).toNat)
  case atStart => exact ⟨0, by omega, rfl, by simpa using hown, hb1⟩
  case round =>
    obtain ⟨t, ht, rfl, ho, hb⟩ := hrel
    by_cases hlt : t < n
    · have hlt' := nat_of_lt hlt
      go_wp2_with fail
      go_loopw [15] (fun i wr => ∃ k : Nat, k ≤ n ∧ i = .int .i64 k ∧ OwnN wr w.heap.size (.slice (some ⟨w.heap.size, 0, none⟩) n n) (((relOf n f).take t ++ List.replicate (n - t) 0).set t (bitsTo (f t) k)) ∧ Below w.heap.size w wr) (fun i _ => n - (intOf i).toNat)
      case atStart => exact ⟨0, by omega, rfl, by rw [rel_start n t f hlt]; exact ho, hb⟩
      case round =>
        obtain ⟨k, hk, rfl, ho, hb⟩ := hrel
        by_cases hlt2 : k < n
        · have hlt2' := nat_of_lt hlt2
          have HC := hide (HF.out t k wr hlt hlt2 hb)
          have BS : Hid (bitsTo (f t) (k + 1) = if f t k = true then bits .or .i64 (bitsTo (f t) k) (wrap64 ((2 : Int) ^ k)) else bitsTo (f t) k) := hide rfl
          generalize f t k = fb at *
          cases fb
          · go_wp2_with fail
            (with_reducible refine HC.out.mono ?_); rintro e w2 ⟨rfl, hb2⟩
            go_wp2_with fail
            go_roundw
            case rel => exact ⟨k + 1, by omega, by go_num, by rw [BS.out]; exact ho.below hb2, hb.trans (hb2.mono hb.size)⟩
            case measure => simp [intOf]; omega
          · go_wp2_with fail
            (with_reducible refine HC.out.mono ?_); rintro e w2 ⟨rfl, hb2⟩
            have ho2 := ho.below hb2
            obtain ⟨hgl, c0, hfr⟩ := ho2.int (rel_get n t k f hlt)
            have ho3 := ho2.setInt (rel_get n t k f hlt) (bits .or .i64 (bitsTo (f t) k) (wrap64 ((2 : Int) ^ k)))
            rw [List.set_set] at ho3
            have HO3 := hide ho3; clear ho3
            go_wp2_with fail
            go_region
            go_wp2_with fail
            go_roundw
            case rel => exact ⟨k + 1, by omega, by go_num, by rw [BS.out]; exact HO3.out.below (Below.refl _ _).drew, ((hb.trans (hb2.mono hb.size)).setCell (Nat.le_refl _) _).drew⟩
            case measure => simp [intOf]; omega
        · have e : k = n := by omega
          rw [e, rel_done n t f hlt] at ho
          go_wp2_with fail
          go_roundw
          case rel => exact ⟨t + 1, by omega, by go_num, ho, hb⟩
          case measure => simp [intOf]; omega
    · have e : t = n := by omega
      rw [e, Nat.sub_self, List.replicate_zero, List.append_nil, List.take_of_length_le (by rw [relOf_length]; exact Nat.le_refl _)] at ho
      go_wp2_with fail
      go_ret
      exact ⟨_, rfl, ho, hb⟩



/-- What isPair says at one name. -/
def IsPairAt (p : List (List Ins)) (x : Xc) (nm : ByteArray) (f : Nat → Nat → Bool) : Prop := ∀ (pv : Value) (f1 o1 la : Option Addr) (f2 f3 o2 o3 lc : Nat) (i k : Nat) (w : World), RepP w pv p → RepX w (.slice f1 f2 f3) (.slice o1 o2 o3) x → Rep EvE w (.slice la (evAll p).length lc) (evAll p) → i < (evAll p).length → k < (evAll p).length →
    Calls Tryz.prog 165 #[pv, .agg #[.slice f1 f2 f3, .slice o1 o2 o3], .slice la (evAll p).length lc, .string nm, .int .i64 i, .int .i64 k] w fun e w' => e = .returned (.bool (f i k)) ∧ Below w.heap.size w w'
theorem isPairAt_po (p : List (List Ins)) (x : Xc) : IsPairAt p x ⟨#[112, 111]⟩ (relN p x 0) := fun pv f1 o1 la f2 f3 o2 o3 lc i k w h1 h2 h3 h4 h5 => isPair_po pv f1 o1 la f2 f3 o2 o3 lc p x i k w h1 h2 h3 h4 h5

set_option maxHeartbeats 800000 in
theorem relOf_1 (B1 B2 B3 B4 : Nat) (pa f1 o1 la : Option Addr) (pn pc f2 f3 o2 o3 lc : Nat) (nm : ByteArray) (p : List (List Ins)) (x : Xc) (f : Nat → Nat → Bool) (w0 : World) (hI : IsPairAt p x nm f) (h1 : w0.cell? ⟨B1, 0, none⟩ = some (.slice pa pn pc)) (h2 : w0.cell? ⟨B2, 0, none⟩ = some (.slice f1 f2 f3)) (h2' : w0.cell? ⟨B2, 1, none⟩ = some (.slice o1 o2 o3))
    (h3 : w0.cell? ⟨B3, 0, none⟩ = some (.slice la (evAll p).length lc)) (h4 : w0.cell? ⟨B4, 0, none⟩ = some (.string nm)) (hP : RepP w0 (.slice pa pn pc) p) (hX : RepX w0 (.slice f1 f2 f3) (.slice o1 o2 o3) x) (hL : Rep EvE w0 (.slice la (evAll p).length lc) (evAll p)) :
    TestsP_rel ⟨B1, 0, none⟩ ⟨B2, 0, none⟩ ⟨B3, 0, none⟩ ⟨B4, 0, none⟩ (evAll p).length f w0 := by
  intro i k w hi hk hb
  have q1 := (hb.cell (p := ⟨B1, 0, none⟩) (lt_of_cell h1)).trans h1
  have q2 := (hb.cell (p := ⟨B2, 0, none⟩) (lt_of_cell h2)).trans h2
  have q2' := (hb.cell (p := ⟨B2, 1, none⟩) (lt_of_cell h2)).trans h2'
  have q3 := (hb.cell (p := ⟨B3, 0, none⟩) (lt_of_cell h3)).trans h3
  have q4 := (hb.cell (p := ⟨B4, 0, none⟩) (lt_of_cell h4)).trans h4
  have l1 := lt_of_cell q1; have l2 := lt_of_cell q2; have l3 := lt_of_cell q3; have l4 := lt_of_cell q4
  have HC := hide (hI _ f1 o1 la f2 f3 o2 o3 lc i k w (hP.below hb) (hX.below hb) (hL.below hb) hi hk)
  clear hP hX hL hI h1 h2 h2' h3 h4 hb
  generalize (evAll p).length = n at *
  go_enter Tryz.func164, Tryz.ntmps164
  go_wp2_with fail
  (with_reducible refine HC.out.mono ?_); rintro e w1 ⟨rfl, hb1⟩
  go_wp2_with fail
  go_ret
  exact ⟨rfl, hb1⟩

set_option maxHeartbeats 1600000 in
theorem relOf_any (pv : Value) (f1 o1 : Option Addr) (f2 f3 o2 o3 : Nat) (nm : ByteArray) (p : List (List Ins)) (x : Xc) (f : Nat → Nat → Bool) (w : World) (hI : IsPairAt p x nm f) (hp : RepP w pv p) (hx : RepX w (.slice f1 f2 f3) (.slice o1 o2 o3) x) (hpv : progValid p = true) (hl : p.flatten.length ≤ 1048576) :
    Calls Tryz.prog 75 #[pv, .agg #[.slice f1 f2 f3, .slice o1 o2 o3], .string nm] w (RetOwn IntE 3 w (relOf (evAll p).length f)) := by
  obtain ⟨pa, pc, rfl, -, hpn, -, -⟩ := hp.open
  have hen := evAll_le hpv
  generalize hA : ((w.alloc (.cells #[.slice pa p.length pc] 23)).alloc (.cells #[.slice f1 f2 f3, .slice o1 o2 o3] 35)).alloc (.cells #[.string nm] 9) = A0
  have HB : Hid (Below w.heap.size w A0) := hide (by rw [← hA]; exact (((Below.refl _ _).alloc (Nat.le_refl _) _).alloc (by simp) _).alloc (by simp; omega) _)
  have Z1 : Hid (A0.heap[w.heap.size]? = some (.cells #[.slice pa p.length pc] 23 (0, 0))) := hide (by rw [← hA, heap_alloc_old _ _ (by simp; omega), heap_alloc_old _ _ (by simp)]; exact heap_alloc_new w _)
  have Z2 : Hid (A0.heap[w.heap.size + 1]? = some (.cells #[.slice f1 f2 f3, .slice o1 o2 o3] 35 (0, 0))) := hide (by
    rw [← hA, heap_alloc_old _ _ (by simp)]
    have h := heap_alloc_new (w.alloc (.cells #[.slice pa p.length pc] 23)) (.cells #[.slice f1 f2 f3, .slice o1 o2 o3] 35); simpa using h)
  have Z4 : Hid (A0.heap[w.heap.size + 1 + 1]? = some (.cells #[.string nm] 9 (0, 0))) := hide (by
    rw [← hA]
    have h := heap_alloc_new ((w.alloc (.cells #[.slice pa p.length pc] 23)).alloc (.cells #[.slice f1 f2 f3, .slice o1 o2 o3] 35)) (.cells #[.string nm] 9); simpa using h)
  have c1 : A0.cell? ⟨w.heap.size, 0, none⟩ = some (.slice pa p.length pc) := cell_of_heapV Z1.out (k := 0) rfl
  have cl := lt_of_cell c1
  have HP := hide (hp.below HB.out); have HX := hide (hx.below HB.out)
  have HEV := hide (events_any _ p A0 HP.out hl)
  have HIS := hide hI
  clear hp hx hI
  have HN := hide hen
  clear hen
  go_enter Tryz.func75, Tryz.ntmps75
  go_wp2_with fail
  clear hA
  (with_reducible refine HEV.out.mono ?_); rintro e w1 ⟨ve, rfl, oe, hb1⟩
  obtain ⟨ea, ec, rfl, -, -, -, -⟩ := oe.rep.open
  have k1 := (hb1.block w.heap.size (by omega)).trans Z1.out
  have k2 := (hb1.block (w.heap.size + 1) (Array.getElem?_eq_some_iff.1 Z2.out).1).trans Z2.out
  have k4 := (hb1.block (w.heap.size + 1 + 1) (Array.getElem?_eq_some_iff.1 Z4.out).1).trans Z4.out
  have HB2 : Hid (Below w1.heap.size w1 (w1.alloc (.cells #[.slice ea (evAll p).length ec] 143))) := hide ((Below.refl _ _).alloc (Nat.le_refl _) _)
  have K1 := heap_alloc_new w1 (.cells #[.slice ea (evAll p).length ec] 143)
  have T := relOf_1 w.heap.size (w.heap.size + 1) w1.heap.size (w.heap.size + 1 + 1) pa f1 o1 ea p.length pc f2 f3 o2 o3 ec nm p x f (w1.alloc (.cells #[.slice ea (evAll p).length ec] 143)) HIS.out
    (cell_of_heapV ((HB2.out.block _ (Array.getElem?_eq_some_iff.1 k1).1).trans k1) (k := 0) rfl) (cell_of_heapV ((HB2.out.block _ (Array.getElem?_eq_some_iff.1 k2).1).trans k2) (k := 0) rfl) (cell_of_heapV ((HB2.out.block _ (Array.getElem?_eq_some_iff.1 k2).1).trans k2) (k := 1) rfl)
    (cell_of_heapV K1 (k := 0) rfl) (cell_of_heapV ((HB2.out.block _ (Array.getElem?_eq_some_iff.1 k4).1).trans k4) (k := 0) rfl) ((HP.out.below hb1).below HB2.out) ((HX.out.below hb1).below HB2.out) (oe.rep.below HB2.out)
  have HPA := hide (pairsOf_rel _ _ _ _ (evAll p).length f _ (by have := HN.out; omega) T)
  have HBA := hide (HB.out.trans ((hb1.trans (HB2.out.mono hb1.size)).mono HB.out.size))
  clear T K1 k1 k2 k4 oe hb1 HEV HIS c1 cl
  generalize (evAll p).length = n at *
  go_wp2_with fail
  (with_reducible refine HPA.out.mono ?_); rintro e w5 ⟨v5, rfl, o5, hb5⟩
  have HO5 := hide (o5.mono HBA.out.size); have HB5 := hide (HBA.out.trans (hb5.mono HBA.out.size))
  clear o5 hb5
  go_wp2_with fail
  go_ret
  exact ⟨_, rfl, HO5.out, HB5.out⟩

/-- RelOf at a name of relations. -/
theorem RelOf_any (pv : Value) (f1 o1 : Option Addr) (f2 f3 o2 o3 : Nat) (nm : ByteArray) (p : List (List Ins)) (x : Xc) (f : Nat → Nat → Bool) (w : World) (hI : IsPairAt p x nm f) (hp : RepP w pv p) (hx : RepX w (.slice f1 f2 f3) (.slice o1 o2 o3) x) (hX : execOk p x = true) (hl : p.flatten.length ≤ 1048576)
    (hol : ∀ o ∈ x.od, o.length ≤ 1048576) (hg : Glob w) (hn : isName nm = true) :
    Calls Tryz.prog 20 #[pv, .agg #[.slice f1 f2 f3, .slice o1 o2 o3], .string nm] w (RetOwn IntE 3 w (relOf (evAll p).length f)) := by
  have hpv : progValid p = true := by unfold execOk at hX; simp only [Bool.and_eq_true] at hX; exact hX.1
  obtain ⟨pa, pc, rfl, -, hpn, -, -⟩ := hp.open
  have HB := hide (belowAlloc w (.cells #[.slice f1 f2 f3, .slice o1 o2 o3] 35))
  have HBX := hide (heap_alloc_new w (.cells #[.slice f1 f2 f3, .slice o1 o2 o3] 35))
  have HE := hide (ExecValid_any _ _ _ p x _ (hp.below HB.out) (hx.below HB.out) hl hol)
  rw [hX] at HE
  have HR := hide (fun w' (hb : Below w.heap.size w w') => relOf_any (.slice pa p.length pc) f1 o1 f2 f3 o2 o3 nm p x f w' hI (hp.below hb) (hx.below hb) hpv hl)
  have HNm := hide (fun w' (hb : Below w.heap.size w w') => isRelName_any nm w' (hg.below hb))
  rw [hn] at HNm
  clear hp hx hX hI hg hpv hn
  generalize (evAll p).length = n at *
  go_enter Tryz.func20, Tryz.ntmps20
  go_wp2_with fail
  (with_reducible refine HE.out.mono ?_); rintro e w1 ⟨rfl, hb1⟩
  have HB1 := hide (HB.out.trans (hb1.mono HB.out.size))
  have hwx := (hb1.block w.heap.size (Array.getElem?_eq_some_iff.1 HBX.out).1).trans HBX.out
  have x0 : w1.cell? ⟨w.heap.size, 0, none⟩ = some (.slice f1 f2 f3) := cell_of_heapV hwx (k := 0) rfl
  have x1 : w1.cell? ⟨w.heap.size, 1, none⟩ = some (.slice o1 o2 o3) := cell_of_heapV hwx (k := 1) rfl
  have xl := lt_of_cell x0
  clear hb1 hwx HBX HE
  go_wp2_with fail
  (with_reducible refine (HNm.out _ HB1.out).mono ?_); rintro e w2 ⟨rfl, rfl⟩
  go_wp2_with fail
  (with_reducible refine (HR.out _ HB1.out).mono ?_); rintro e w5 ⟨v5, rfl, o5, hb5⟩
  have HO5 := hide (o5.mono HB1.out.size); have HB5 := hide (HB1.out.trans (hb5.mono HB1.out.size))
  clear o5 hb5
  go_wp2_with fail
  go_ret
  exact ⟨_, rfl, HO5.out, HB5.out⟩

end Go.Proofs.YtpbmlppdmdmfkaaGreatDoor

namespace Go.Proofs.YtpbmlppdmdmfkaaGreatDoor

def lexE (a b : Ev) : Prop := a.t < b.t ∨ (a.t = b.t ∧ a.i < b.i)
theorem evHead_lex : ∀ k, (evHead k).Pairwise lexE := by
  intro k
  induction k with
  | zero => exact List.Pairwise.nil
  | succ k ih =>
    rw [evHead_succ, List.pairwise_append]
    refine ⟨ih, by simp, fun a ha b hb => ?_⟩
    simp only [evHead, List.mem_map, List.mem_range] at ha
    obtain ⟨l, hl, rfl⟩ := ha
    simp at hb; subst hb
    exact .inr ⟨rfl, by show (l : Int) < k; omega⟩
theorem mem_evRowL {t : Nat} {r : List Ins} {e : Ev} : ∀ {k}, e ∈ evRow t r k → e.t = t ∧ 0 ≤ e.i ∧ e.i < k := by
  intro k he
  simp only [evRow, List.mem_flatMap, List.mem_range] at he
  obtain ⟨i, hi, h⟩ := he
  cases hr : r[i]? with
  | none => rw [hr] at h; cases h
  | some x =>
    rw [hr] at h
    obtain ⟨rfl, -⟩ := mem_evOf h
    exact ⟨rfl, by show (0 : Int) ≤ i; omega, by show (i : Int) < k; omega⟩
theorem evRow_lex (t : Nat) (r : List Ins) : ∀ k, k ≤ r.length → (evRow t r k).Pairwise lexE := by
  intro k
  induction k with
  | zero => intro _; exact List.Pairwise.nil
  | succ k ih =>
    intro hk
    obtain ⟨x, hx⟩ := get_of_lt (xs := r) (k := k) (by omega)
    rw [evRow_succ hx, List.pairwise_append]
    refine ⟨ih (by omega), ?_, fun a ha b hb => ?_⟩
    · unfold evOf; split <;> simp
    · obtain ⟨h1, -, h2⟩ := mem_evRowL ha
      obtain ⟨rfl, -⟩ := mem_evOf hb
      exact .inr ⟨h1, h2⟩
theorem mem_evToL {p : List (List Ins)} {e : Ev} : ∀ {j}, e ∈ evTo p j → 0 ≤ e.t ∧ e.t < j := by
  intro j he
  simp only [evTo, List.mem_flatMap, List.mem_range] at he
  obtain ⟨t, ht, h⟩ := he
  cases hr : p[t]? with
  | none => rw [hr] at h; cases h
  | some r =>
    rw [hr] at h
    obtain ⟨h1, -⟩ := mem_evRowL h
    rw [h1]; omega
theorem evTo_lex (p : List (List Ins)) : ∀ j, j ≤ p.length → (evTo p j).Pairwise lexE := by
  intro j
  induction j with
  | zero => intro _; exact List.Pairwise.nil
  | succ j ih =>
    intro hj
    obtain ⟨r, hr⟩ := get_of_lt (xs := p) (k := j) (by omega)
    rw [evTo_succ hr, List.pairwise_append]
    refine ⟨ih (by omega), evRow_lex _ _ _ (Nat.le_refl _), fun a ha b hb => ?_⟩
    have h1 := (mem_evToL ha).2
    have h2 := (mem_evRowL hb).1
    exact .inl (by omega)
theorem evAll_lex (p : List (List Ins)) : (evAll p).Pairwise lexE := by
  unfold evAll
  rw [List.pairwise_append]
  refine ⟨evHead_lex 3, evTo_lex p _ (Nat.le_refl _), fun a ha b hb => ?_⟩
  simp only [evHead, List.mem_map, List.mem_range] at ha
  obtain ⟨l, -, rfl⟩ := ha
  have h2 := (mem_evToL hb).1
  exact .inl (by show (-1 : Int) < b.t; omega)
theorem po_total {p : List (List Ins)} {i j : Nat} {a b : Ev} (hi : (evAll p)[i]? = some a) (hj : (evAll p)[j]? = some b) (hne : i ≠ j) (h0 : 0 ≤ a.t) (ht : a.t = b.t) : poE a b = true ∨ poE b a = true := by
  obtain ⟨hi1, hi2⟩ := List.getElem?_eq_some_iff.1 hi
  obtain ⟨hj1, hj2⟩ := List.getElem?_eq_some_iff.1 hj
  have hl := List.pairwise_iff_getElem.1 (evAll_lex p)
  unfold poE
  simp only [Bool.and_eq_true, decide_eq_true_eq, beq_iff_eq]
  rcases Nat.lt_or_gt_of_ne hne with h | h
  · have := hl i j hi1 hj1 h
    rw [hi2, hj2] at this
    rcases this with h2 | ⟨-, h2⟩
    · omega
    · exact .inl ⟨h0, ht, h2⟩
  · have := hl j i hj1 hi1 h
    rw [hi2, hj2] at this
    rcases this with h2 | ⟨-, h2⟩
    · omega
    · exact .inr ⟨by omega, ht.symm, h2⟩

/-- The facts of a candidate that models speak of. -/
structure Cand (p : List (List Ins)) (x : Xc) : Prop where
  rf : ∀ (j : Nat) (b : Ev), (evAll p)[j]? = some b → b.r = true → ∃ (i : Nat) (a : Ev), frA x j = (i : Int) ∧ (evAll p)[i]? = some a ∧ a.w = true ∧ a.l = b.l ∧ i ≠ j
  nrf : ∀ (j : Nat) (b : Ev), (evAll p)[j]? = some b → b.r = false → frA x j = -1
  od : ∀ (i : Nat) (a b : Ev) (j : Nat), (evAll p)[i]? = some a → (evAll p)[j]? = some b → ((j : Int) ∈ odA x a.l ↔ b.w = true ∧ b.l = a.l)

theorem ev_loc {p : List (List Ins)} (hp : progValid p = true) {i : Nat} {a : Ev} (h : (evAll p)[i]? = some a) : ∃ l : Nat, l < 3 ∧ a.l = l := by
  rcases mem_evAll (List.mem_of_getElem? h) with h1 | ⟨t, k, r, y, h1, h2, rfl, h4⟩
  · have hm := List.mem_of_getElem? h
    unfold evAll at hm
    rcases List.mem_append.1 hm with hm | hm
    · simp only [evHead, List.mem_map, List.mem_range] at hm
      obtain ⟨l, hl, rfl⟩ := hm
      exact ⟨l, hl, rfl⟩
    · have := (mem_evToL hm).1; omega
  · have hv : insValid y = true := by
      unfold progValid shapeOk at hp
      simp only [Bool.and_eq_true, List.all_eq_true] at hp
      have h5 := hp.1.1.1.2 r (List.mem_of_getElem? h1)
      unfold rowOk at h5
      simp only [Bool.and_eq_true, List.all_eq_true] at h5
      exact h5.1 y (List.mem_of_getElem? h2)
    rcases insValid_loc hv with h5 | h5 | h5
    · exact ⟨0, by omega, h5⟩
    · exact ⟨1, by omega, h5⟩
    · exact ⟨2, by omega, h5⟩

theorem cand_of {p : List (List Ins)} {x : Xc} (h : execOk p x = true) : Cand p x := by
  unfold execOk at h
  simp only [Bool.and_eq_true, decide_eq_true_eq] at h
  obtain ⟨hp, hfl, hol, hf, ho⟩ := h
  have hfr : ∀ (j : Nat) (b : Ev), (evAll p)[j]? = some b → ∃ f, frA x j = f ∧ fromOk (evAll p) j b f = true := fun j b hb => by
    obtain ⟨e, f, h1, h2, h3⟩ := fromsOk_get hf (List.getElem?_eq_some_iff.1 hb).1
    rw [hb] at h1; simp only [Option.some.injEq] at h1; subst h1
    exact ⟨f, by simp [frA, h2], h3⟩
  refine ⟨fun j b hb hr => ?_, fun j b hb hr => ?_, fun i a b j ha hb => ?_⟩
  · obtain ⟨f, h1, h2⟩ := hfr j b hb
    unfold fromOk at h2
    rw [if_pos hr] at h2
    simp only [Bool.and_eq_true, bne_iff_ne, ne_eq, List.contains_iff_mem] at h2
    obtain ⟨k, e, h3, h4, h5, h6, h7⟩ := mem_wrL.1 h2.2
    subst h4
    exact ⟨k, e, h1, h5, h6, h7, fun e => h2.1 (by rw [e])⟩
  · obtain ⟨f, h1, h2⟩ := hfr j b hb
    unfold fromOk at h2
    rw [if_neg (by rw [hr]; simp)] at h2
    rw [h1]; simpa using h2
  · obtain ⟨l, hl, hal⟩ := ev_loc hp ha
    obtain ⟨o, h1, h2⟩ := ordersOk_get ho hl
    unfold orderOk at h2
    simp only [Bool.and_eq_true, decide_eq_true_eq] at h2
    have ho' : odA x a.l = o := by unfold odA; rw [hal]; simp [h1]
    rw [ho', h2.1.mem_iff, mem_wrL]
    constructor
    · rintro ⟨k, e, -, h4, h5, h6, h7⟩
      have : k = j := by omega
      subst this
      rw [hb] at h5; simp only [Option.some.injEq] at h5; subst h5
      exact ⟨h6, by rw [h7, hal]⟩
    · rintro ⟨h4, h5⟩
      exact ⟨j, b, (List.getElem?_eq_some_iff.1 hb).1, rfl, hb, h4, by rw [h5, hal]⟩

end Go.Proofs.YtpbmlppdmdmfkaaGreatDoor

namespace Go.Proofs.YtpbmlppdmdmfkaaGreatDoor
open Go.RowKit

/-- The first k done by f. -/
def mapPre {α : Type} (f : α → α) (k : Nat) (xs : List α) : List α := (xs.take k).map f ++ xs.drop k

section
variable {α : Type} {f : α → α} {k : Nat} {xs : List α}
theorem mapPre_zero : mapPre f 0 xs = xs := by simp [mapPre]
theorem mapPre_all (h : xs.length ≤ k) : mapPre f k xs = xs.map f := by simp [mapPre, List.take_of_length_le h, List.drop_of_length_le h]
theorem mapPre_length : (mapPre f k xs).length = xs.length := by simp [mapPre]; omega
theorem mapPre_get {x : α} (h : xs[k]? = some x) : (mapPre f k xs)[k]? = some x := by
  have hk := (List.getElem?_eq_some_iff.1 h).1
  unfold mapPre
  rw [List.getElem?_append_right (by simp; omega), List.getElem?_drop]
  simp only [List.length_map, List.length_take]
  rw [Nat.min_eq_left (by omega), Nat.sub_self, Nat.add_zero, h]
theorem mapPre_set {x : α} (h : xs[k]? = some x) : (mapPre f k xs).set k (f x) = mapPre f (k + 1) xs := by
  have hk := (List.getElem?_eq_some_iff.1 h).1
  unfold mapPre
  rw [List.set_append_right _ _ (by simp; omega), List.drop_eq_getElem_cons hk]
  simp only [List.length_map, List.length_take]
  rw [Nat.min_eq_left (by omega), Nat.sub_self, List.set_cons_zero, List.take_add_one, h]
  simp
theorem mapPre_same {x : α} (h : xs[k]? = some x) (hf : f x = x) : mapPre f (k + 1) xs = mapPre f k xs := by
  rw [← mapPre_set h, hf]
  have hg := mapPre_get (f := f) h
  apply List.ext_getElem?
  intro i
  rw [List.getElem?_set]
  by_cases e : k = i
  · subst e; rw [if_pos rfl, if_pos (by rw [mapPre_length]; exact (List.getElem?_eq_some_iff.1 h).1), hg]
  · rw [if_neg e]
end

def swapI (reg : Int) (x : Ins) : Ins := if x.op = 2 then ⟨5, x.loc, reg, x.val⟩ else x
def swapP (reg : Int) (p : List (List Ins)) : List (List Ins) := p.map fun r => r.map (swapI reg)
def swapOk (p : List (List Ins)) (reg : Int) : Bool := progValid p && inB reg 0 2 && progValid (swapP reg p)
def swapV (p : List (List Ins)) (reg : Int) : List (List Ins) := if swapOk p reg = true then swapP reg p else []

theorem grown_alloc {w w' : World} {row : Option Nat} (h : w.grownBy w' row) (o : Obj) : w.grownBy (w'.alloc o) row :=
  ⟨h.os, h.tape, h.output, by have := h.size; simp; omega, fun q hq hne => (heap_alloc_old w' o (by have := h.size; omega)).trans (h.block q hq hne)⟩

/-- What a function that makes a program, or none, hands back. -/
def RetOwn2B {α : Type} (E : El α) (T1 T2 : TypeId) (w : World) (p : List (List α)) (b : Bool) (e : Ending) (w' : World) : Prop := ∃ v, e = .returned (.tuple #[v, .bool b]) ∧ Own2 E T1 T2 w' w.heap.size v p ∧ Below w.heap.size w w'

theorem swapP_lengths (reg : Int) (p : List (List Ins)) : (swapP reg p).flatten.length = p.flatten.length := by
  unfold swapP
  induction p with
  | nil => rfl
  | cons r p ih => simp at ih ⊢; omega

theorem row_of_valid {p : List (List Ins)} (h : progValid p = true) : ∀ r ∈ p, r.length ≤ 1048576 := fun r hr => by
  have := ((valid_le h).2.2.1 r hr).1; omega

end Go.Proofs.YtpbmlppdmdmfkaaGreatDoor
