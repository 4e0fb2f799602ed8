/-
  The arguments that are drawn for CondSame. Condition: none but the bytes' own.
-/
import Derived.Test.YthglefilfpnikaaD5
import Derived.Deep.RegionHeld3
import Derived.Deep.DeepCutAuto
namespace Go.Proofs.Ythglefilfpnikaa
open Go.RowKit

/-- Two conditions that were drawn. -/
def RetTwo (w : World) (e : Ending) (w' : World) : Prop := ∃ (o t q x : Int) (s : Slc) (ks : List Cd) (o' t' q' x' : Int) (s' : Slc) (ks' : List Cd),
  e = .returned (.tuple #[.agg #[.int .i64 o, .int .i64 t, .int .i64 q, .int .i64 x, .slice s.a s.n s.cap], .agg #[.int .i64 o', .int .i64 t', .int .i64 q', .int .i64 x', .slice s'.a s'.n s'.cap]]) ∧ RepK 0 w' s ks ∧ RepK 0 w' s' ks' ∧ Below w.heap.size w w'

theorem below_of_outside {b : Nat} {w w' : World} {B : Nat} (h : Outside b (b + 1) w w') (hB : B ≤ b) (hB2 : B ≤ w.heap.size) : Below B w w' := h.below hB hB2

set_option maxRecDepth 100000 in
set_option maxHeartbeats 6400000 in
theorem DrawCondSame_any (v : Value) (xs0 : List Int) (w : World) (hx : Rep ByteE w v xs0) (hb : ∀ x ∈ xs0, 0 ≤ x ∧ x ≤ 255) :
    Calls Try.prog 18 #[v] w (RetTwo w) := by
  obtain ⟨a0, c0, rfl, -, -, -, hx⟩ := hx.open
  have hbW : Below w.heap.size w ((w.alloc (.cells #[.int .i64 0, .int .i64 0, .int .i64 0, .int .i64 0, .slice none 0 0] 44)).alloc (.cells #[.int .i64 0, .int .i64 0, .int .i64 0, .int .i64 0, .slice none 0 0] 44)) := ((Below.refl _ _).alloc (Nat.le_refl _) _).alloc (by simp) _
  have HO := hide (l17Open_any (.slice a0 xs0.length c0) xs0 _ (hx.below hbW) hb)
  have BH := hide ((Box.new w 0 0 0 0 none 0 0 44).alloc (.cells #[.int .i64 0, .int .i64 0, .int .i64 0, .int .i64 0, .slice none 0 0] 44))
  have BH1 : Hid (Box ((w.alloc (.cells #[.int .i64 0, .int .i64 0, .int .i64 0, .int .i64 0, .slice none 0 0] 44)).alloc (.cells #[.int .i64 0, .int .i64 0, .int .i64 0, .int .i64 0, .slice none 0 0] 44)) (w.heap.size + 1) 0 0 0 0 ⟨none, 0, 0⟩) := hide (by have h := Box.new (w.alloc (.cells #[.int .i64 0, .int .i64 0, .int .i64 0, .int .i64 0, .slice none 0 0] 44)) 0 0 0 0 none 0 0 44; simpa using h)
  have HBW := hide hbW
  clear hx hbW hb
  go_enter Try.func18, Try.ntmps18
  go_wp2_with fail
  (with_reducible refine HO.out.mono ?_); rintro e w1 ⟨b, a, c, xs, rfl, hr1, hbs, hb1⟩
  have hbs' : w.heap.size + 2 ≤ b := by simpa using hbs
  have BH' := hide (BH.out.below hb1 (by simp; omega))
  have BH1' := hide (BH1.out.below hb1 (by simp))
  have HB1 := hide (HBW.out.trans (hb1.mono HBW.out.size))
  have R1 := hide hr1
  clear hr1 hbs hb1 HO BH BH1 HBW
  have hb1 := R1.out.lt
  have HS := hide (fun p' w' h hp => l11Some_any b a c xs p' w' h hp)
  have HM := hide (fun p' o t q x a1 n1 c1 ks K w' h hp lo h1 h2 hf hd hK => l11Mutate_any b a c xs p' o t q x a1 n1 c1 ks K w' h hp lo h1 h2 hf hd hK)
  have HPK := hide (fun p' w' h hp => pick_any b a c xs p' 2 w' h hp (by omega) (by omega))
  go_wp2_with fail
  (with_reducible refine (HS.out 0 _ R1.out (by omega)).mono ?_); rintro e w2 ⟨v2, p2, rfl, ⟨o, t, q, x, s, ks, rfl, hF, hd⟩, hp2, hr2, ho2⟩
  have hsz2 := ho2.size
  have F2 := hide (hF.below (belowAlloc w2 (.cells #[.int .i64 o, .int .i64 t, .int .i64 q, .int .i64 x, .slice s.a s.n s.cap] 44)))
  have R2 := hide (hr2.allocNew (.cells #[.int .i64 o, .int .i64 t, .int .i64 q, .int .i64 x, .slice s.a s.n s.cap] 44))
  have B5 := hide (Box.new w2 o t q x s.a s.n s.cap 44)
  have BH2 := hide ((BH'.out.outside ho2 (by omega)).alloc (.cells #[.int .i64 o, .int .i64 t, .int .i64 q, .int .i64 x, .slice s.a s.n s.cap] 44))
  have BH12 := hide ((BH1'.out.outside ho2 (by omega)).alloc (.cells #[.int .i64 o, .int .i64 t, .int .i64 q, .int .i64 x, .slice s.a s.n s.cap] 44))
  have HB2 := hide (HB1.out.trans ((below_of_outside ho2 (B := w.heap.size) (by omega) (by omega)).trans ((belowAlloc w2 (.cells #[.int .i64 o, .int .i64 t, .int .i64 q, .int .i64 x, .slice s.a s.n s.cap] 44)).mono (by omega))))
  clear hF hr2 ho2 BH' BH1' HB1 R1
  go_wp2_with fail
  generalize hV : w2.alloc (.cells #[.int .i64 o, .int .i64 t, .int .i64 q, .int .i64 x, .slice s.a s.n s.cap] 44) = V2 at *
  have hg5 : b < w2.heap.size := by omega
  have hw12 : w1.heap.size < V2.heap.size := by rw [← hV]; simp; omega
  clear hV
  generalize w2.heap.size = g5 at *
  (with_reducible refine (HPK.out p2 _ R2.out (by omega)).mono ?_); rintro e w3 ⟨v3, p3, rfl, ⟨k0, rfl, -, -⟩, hp3, hr3, ho3⟩
  have hsz3 := ho3.size
  have F3 := hide (F2.out.outside ho3 (by omega))
  have R3 := hide hr3
  have B53 := hide (B5.out.outside ho3 (by omega))
  have BH3 := hide (BH2.out.outside ho3 (by omega))
  have BH13 := hide (BH12.out.outside ho3 (by omega))
  have HB3 := hide (HB2.out.trans (below_of_outside ho3 (B := w.heap.size) (by omega) (by omega)))
  clear hr3 ho3 F2 R2 B5 BH2 BH12 HB2
  by_cases z : k0 = 0
  · obtain rfl : k0 = 0 := z
    obtain ⟨l5, m0, m1, m2, m3, m4, mf⟩ := B53.out
    obtain ⟨lh, n0, n1, n2, n3, n4, nf⟩ := BH3.out
    obtain ⟨lh1, u0, u1, u2, u3, u4, uf⟩ := BH13.out
    have ne1 : g5 ≠ b := by omega
    have ne2 : w.heap.size ≠ b := by omega
    have ne3 : w.heap.size + 1 ≠ b := by omega
    have ne4 : w.heap.size ≠ g5 := by omega
    have ne5 : w.heap.size + 1 ≠ g5 := by omega
    go_wp2_with fail
    go_region_held3 (fun V => V.cell? ⟨g5, 0, none⟩ = some (.int .i64 o) ∧ V.cell? ⟨g5, 1, none⟩ = some (.int .i64 t) ∧ V.cell? ⟨g5, 2, none⟩ = some (.int .i64 q) ∧ V.cell? ⟨g5, 3, none⟩ = some (.int .i64 x) ∧ V.cell? ⟨g5, 4, none⟩ = some (.slice s.a s.n s.cap)) ((simp [go_sem, *])) (first | (go_at_call 53; (with_reducible refine (HS.out p3 _ (R3.out.keep (Below.refl _ _).drew R3.out.lt) (by omega)).mono ?_); rintro e w4 ⟨v4, p4, rfl, ⟨o', t', q', x', s', ks', rfl, hF4, hd4⟩, hp4, hr4, ho4⟩; obtain ⟨k5, k0, k1, k2, k3, k4, kf⟩ := (B53.out.below (Below.refl w3.heap.size w3).drew l5).outside ho4 ne1; obtain ⟨j5, j0, j1, j2, j3, j4, jf⟩ := (BH3.out.below (Below.refl w3.heap.size w3).drew lh).outside ho4 ne2; obtain ⟨i5, i0, i1, i2, i3, i4, if'⟩ := (BH13.out.below (Below.refl w3.heap.size w3).drew lh1).outside ho4 ne3; have HF4 := hide hF4; have HO4 := hide ho4; clear hF4 ho4 hr4))
    all_goals
      have FB := hide (((F3.out.below (Below.refl w3.heap.size w3).drew).outside HO4.out (by simp; omega)))
      have HB4 := hide (HB3.out.drew.trans (below_of_outside HO4.out (B := w.heap.size) (by omega) (by simp; omega)))
      have hl3 : w.heap.size + 1 < w3.heap.size := lh1
      clear HO4
      go_wp2_with fail
      refine bodyPost_ret (v := .tuple #[.agg #[.int .i64 o, .int .i64 t, .int .i64 q, .int .i64 x, .slice s.a s.n s.cap], .agg #[.int .i64 o', .int .i64 t', .int .i64 q', .int .i64 x', .slice s'.a s'.n s'.cap]]) (by simp [results, Try.results18, go_sem, *]) rfl ⟨o, t, q, x, s, ks, o', t', q', x', s', ks', rfl, ?_, ?_, ?_⟩
      · refine Foot.rep (ok := fun q => w1.heap.size ≤ q) ?_
        exact ((((((((((FB.out.set (by simp; omega) _ _).set (by simp; omega) _ _).set (by simp; omega) _ _).set (by simp; omega) _ _).set (by simp; omega) _ _).set (by simp; omega) _ _).set (by simp; omega) _ _).set (by simp; omega) _ _).set (by simp; omega) _ _).set (by simp; omega) _ _)
      · refine Foot.rep (ok := fun q => w3.drew.heap.size ≤ q) ?_
        exact ((((((((((HF4.out.set (by simp; omega) _ _).set (by simp; omega) _ _).set (by simp; omega) _ _).set (by simp; omega) _ _).set (by simp; omega) _ _).set (by simp; omega) _ _).set (by simp; omega) _ _).set (by simp; omega) _ _).set (by simp; omega) _ _).set (by simp; omega) _ _)
      · exact ((((((((((HB4.out.setCell (by simp) _).setCell (by simp) _).setCell (by simp) _).setCell (by simp) _).setCell (by simp) _).setCell (by simp) _).setCell (by simp) _).setCell (by simp) _).setCell (by simp) _).setCell (by simp) _)
  · have z' : (k0 == 0) = false := by simp [z]
    clear z
    obtain ⟨l5, m0, m1, m2, m3, m4, mf⟩ := B53.out
    obtain ⟨lh, n0, n1, n2, n3, n4, nf⟩ := BH3.out
    obtain ⟨lh1, u0, u1, u2, u3, u4, uf⟩ := BH13.out
    have ne1 : g5 ≠ b := by omega
    have ne2 : w.heap.size ≠ b := by omega
    have ne3 : w.heap.size + 1 ≠ b := by omega
    have ne4 : w.heap.size ≠ g5 := by omega
    have ne5 : w.heap.size + 1 ≠ g5 := by omega
    go_wp2_with fail
    go_region_held3 (fun V => V.cell? ⟨g5, 0, none⟩ = some (.int .i64 o) ∧ V.cell? ⟨g5, 1, none⟩ = some (.int .i64 t) ∧ V.cell? ⟨g5, 2, none⟩ = some (.int .i64 q) ∧ V.cell? ⟨g5, 3, none⟩ = some (.int .i64 x) ∧ V.cell? ⟨g5, 4, none⟩ = some (.slice s.a s.n s.cap)) ((simp [go_sem, *]))
      (first
        | (go_at_call 55; (with_reducible refine (HM.out p3 o t q x s.a s.n s.cap ks 40 _ (R3.out.keep (Below.refl _ _).drew R3.out.lt) (by omega) w1.heap.size (by omega) (by simp; omega) (F3.out.below (Below.refl _ _).drew) hd (by omega)).mono ?_); rintro e w4 ⟨v4, p4, rfl, ⟨o3, t3, q3, x3, s3, ks3, rfl, hF4, hd4⟩, hp4, hr4, ho4⟩; obtain ⟨k5, k0', k1, k2, k3, k4, kf⟩ := (B53.out.below (Below.refl w3.heap.size w3).drew l5).outside ho4 ne1; obtain ⟨j5, j0, j1, j2, j3, j4, jf⟩ := (BH3.out.below (Below.refl w3.heap.size w3).drew lh).outside ho4 ne2; obtain ⟨i5, i0, i1, i2, i3, i4, if'⟩ := (BH13.out.below (Below.refl w3.heap.size w3).drew lh1).outside ho4 ne3; have HF4 := hide hF4; have HO4 := hide ho4; have HR4 := hide hr4; have hsz4 := ho4.size; clear hF4 ho4 hr4)
        | (go_at_call 55; (with_reducible refine (HM.out p4 o3 t3 q3 x3 s3.a s3.n s3.cap ks3 (40 + 20) _ HR4.out (by omega) w1.heap.size (by omega) (by simp at hsz4; omega) HF4.out hd4 (by omega)).mono ?_); rintro e w5 ⟨v5, p5, rfl, ⟨o', t', q', x', s', ks', rfl, hF5, hd5⟩, hp5, hr5, ho5⟩; have ho45 := HO4.out.trans ho5; obtain ⟨k5, k0', k1, k2, k3, k4, kf⟩ := (B53.out.below (Below.refl w3.heap.size w3).drew l5).outside ho45 ne1; obtain ⟨j5, j0, j1, j2, j3, j4, jf⟩ := (BH3.out.below (Below.refl w3.heap.size w3).drew lh).outside ho45 ne2; obtain ⟨i5, i0, i1, i2, i3, i4, if'⟩ := (BH13.out.below (Below.refl w3.heap.size w3).drew lh1).outside ho45 ne3; have HF5 := hide hF5; have HO5 := hide ho45; clear hF5 ho5 ho45 hr5))
    all_goals
      have FB := hide (((F3.out.below (Below.refl w3.heap.size w3).drew).outside HO5.out (by simp; omega)))
      have HB4 := hide (HB3.out.drew.trans (below_of_outside HO5.out (B := w.heap.size) (by omega) (by simp; omega)))
      have hl3 : w.heap.size + 1 < w3.heap.size := lh1
      clear HO5
      go_wp2_with fail
      refine bodyPost_ret (v := .tuple #[.agg #[.int .i64 o, .int .i64 t, .int .i64 q, .int .i64 x, .slice s.a s.n s.cap], .agg #[.int .i64 o', .int .i64 t', .int .i64 q', .int .i64 x', .slice s'.a s'.n s'.cap]]) (by simp [results, Try.results18, go_sem, *]) rfl ⟨o, t, q, x, s, ks, o', t', q', x', s', ks', rfl, ?_, ?_, ?_⟩
      · refine Foot.rep (ok := fun q => w1.heap.size ≤ q) ?_
        exact ((((((((((FB.out.set (by simp; omega) _ _).set (by simp; omega) _ _).set (by simp; omega) _ _).set (by simp; omega) _ _).set (by simp; omega) _ _).set (by simp; omega) _ _).set (by simp; omega) _ _).set (by simp; omega) _ _).set (by simp; omega) _ _).set (by simp; omega) _ _)
      · refine Foot.rep (ok := fun q => w1.heap.size ≤ q) ?_
        exact ((((((((((HF5.out.set (by simp; omega) _ _).set (by simp; omega) _ _).set (by simp; omega) _ _).set (by simp; omega) _ _).set (by simp; omega) _ _).set (by simp; omega) _ _).set (by simp; omega) _ _).set (by simp; omega) _ _).set (by simp; omega) _ _).set (by simp; omega) _ _)
      · exact ((((((((((HB4.out.setCell (by simp) _).setCell (by simp) _).setCell (by simp) _).setCell (by simp) _).setCell (by simp) _).setCell (by simp) _).setCell (by simp) _).setCell (by simp) _).setCell (by simp) _).setCell (by simp) _)

end Go.Proofs.Ythglefilfpnikaa
