/-
  The walk of FnRacesOf: it answers true and turns nothing that was there. No condition but the bytes' own.
-/
import Derived.Test.YthglefilfpnikaaD15
import Derived.Test.YthglefilfpnikaaF17
import Derived.Test.YthglefilfpnikaaR1
import Derived.Test.YthglefilfpnikaaP9
namespace Go.Proofs.Ythglefilfpnikaa
open Go.RowKit

theorem racesV_le (p : List (List Ins)) : (racesV p).length ≤ 441 := by
  unfold racesV
  split
  · rename_i h
    obtain ⟨hv1, hv2, hv3, -, -⟩ := valid_le h
    have hfl : p.flatten.length ≤ 21 := by
      have := flatten_le7 (p := p) (fun r hr => (hv3 r hr).1)
      omega
    have hLl : (insAll p).length ≤ 21 := by unfold insAll; rw [instrsTo_length p p.length (Nat.le_refl _), List.take_length]; exact hfl
    exact Nat.le_trans (racesTo_length p (insAll p)) (Nat.mul_le_mul hLl hLl)
  · simp

set_option maxRecDepth 100000 in
set_option maxHeartbeats 3200000 in
theorem lawFnRacesOf (v : Value) (xs : List Int) (w : World) (hx : Rep ByteE w v xs) (hb : ∀ x ∈ xs, 0 ≤ x ∧ x ≤ 255) :
    Calls Try.prog 3 #[v] w fun e w' => e = .returned (.bool true) ∧ Below w.heap.size w w' := by
  obtain ⟨a0, c0, rfl, -, hm, -, hx⟩ := hx.open
  have HD := hide (DrawRacesOf_any (.slice a0 xs.length c0) xs w hx hb)
  clear hx hb
  generalize xs.length = n at *
  by_cases hl : (n : Int) > 1048576
  · go_enter Try.func3, Try.ntmps3
    go_wp2_with fail
    go_ret
    exact ⟨rfl, Below.refl _ _⟩
  · have hl' : decide ((n : Int) > 1048576) = false := decide_eq_false hl
    go_enter Try.func3, Try.ntmps3
    go_wp2_with fail
    (with_reducible refine HD.out.mono ?_); rintro e w1 ⟨v1, P, rfl, hP, hPl, hPr, hb1⟩
    have hfl := flatten_bound9 hPl hPr
    have HP := hide hP; have HB1 := hide hb1
    have HI := hide (RacesOf_any v1 P w1 hP (by omega))
    have HS := hide (fun w' h => sRacesOf_any v1 P w' h (by omega) (by omega))
    have hgl := racesV_le P
    have HT := hide (fun x h => race_told (p := P) (x := x) h)
    clear hP hb1 HD hPr hfl
    generalize racesV P = G at *
    go_wp2_with fail
    (with_reducible refine HI.out.mono ?_); rintro e w2 ⟨g0, rfl, o2, hb2⟩
    have O2 := hide o2; have HB2 := hide (HB1.out.trans (hb2.mono HB1.out.size)); have HP2 := hide (HP.out.below hb2)
    clear o2 hb2 HI HP HB1
    go_wp2_with fail
    (with_reducible refine (HS.out _ HP2.out).mono ?_); rintro e w3 ⟨g1, rfl, o3, hb3⟩
    have R3 := hide o3.rep; have HB3 := hide (HB2.out.trans (hb3.mono HB2.out.size)); have HP3 := hide (HP2.out.below hb3); have R2 := hide (O2.out.below hb3).rep
    clear o3 hb3 HS HP2 HB2 O2
    obtain ⟨ga, gc, rfl, gc1, gc2, gc3, hR2⟩ := R2.out.open
    obtain ⟨ha, hc, rfl, hc1, hc2, hc3, hR3⟩ := R3.out.open
    obtain ⟨pa, pc, rfl, pc1, pc2, pc3, hP3⟩ := HP3.out.open
    have HR2 := hide hR2; have HR3 := hide hR3; have HPP := hide hP3
    clear hR2 hR3 hP3 R2 R3 HP3
    generalize hn : G.length = N at *
    have HN := hide hn
    generalize hpn : P.length = M at *
    have HM := hide hpn
    clear hn hpn
    have hne : ((N : Int) != (N : Int)) = false := by simp
    go_wp2_with fail
    go_loopw [6] (fun i wr => ∃ k : Nat, k ≤ N ∧ i = .int .i64 k ∧ Below w3.heap.size w3 wr) (fun i _ => N - (intOf i).toNat)
    case atStart => exact ⟨0, by omega, rfl, Below.refl _ _⟩
    case round =>
      obtain ⟨k, hk, rfl, hbr⟩ := hrel
      by_cases hlt : k < N
      · obtain ⟨x, hxk⟩ := get_of_lt (xs := G) (k := k) (by rw [HN.out]; exact hlt)
        obtain ⟨t, i, u, m, r, s, y, z, rfl, h1, h2, h3, h4, htu, hloc⟩ := HT.out x (List.mem_of_getElem? hxk)
        obtain ⟨gb, go, rfl, gbl, i0, i1, i2, i3⟩ := (HR2.out.below hbr).rc hxk
        have hb6 := ((hbr.alloc hbr.size (.cells #[.int .i64 t, .int .i64 i] 28)).alloc (by have := hbr.size; simp; omega) (.cells #[.int .i64 u, .int .i64 m] 28))
        have A0 : Hid (((wr.alloc (.cells #[.int .i64 t, .int .i64 i] 28)).alloc (.cells #[.int .i64 u, .int .i64 m] 28)).cell? ⟨wr.heap.size, 0, none⟩ = some (.int .i64 t)) := hide (by simp [go_sem])
        have A1 : Hid (((wr.alloc (.cells #[.int .i64 t, .int .i64 i] 28)).alloc (.cells #[.int .i64 u, .int .i64 m] 28)).cell? ⟨wr.heap.size, 1, none⟩ = some (.int .i64 i)) := hide (by simp [go_sem])
        have A2 : Hid (((wr.alloc (.cells #[.int .i64 t, .int .i64 i] 28)).alloc (.cells #[.int .i64 u, .int .i64 m] 28)).cell? ⟨wr.heap.size + 1, 0, none⟩ = some (.int .i64 u)) := hide (by simp [go_sem])
        have A3 : Hid (((wr.alloc (.cells #[.int .i64 t, .int .i64 i] 28)).alloc (.cells #[.int .i64 u, .int .i64 m] 28)).cell? ⟨wr.heap.size + 1, 1, none⟩ = some (.int .i64 m)) := hide (by simp [go_sem])
        have AL : wr.heap.size + 1 < ((wr.alloc (.cells #[.int .i64 t, .int .i64 i] 28)).alloc (.cells #[.int .i64 u, .int .i64 m] 28)).heap.size := by simp
        have ht : t < M := by rw [← HM.out]; exact (List.getElem?_eq_some_iff.1 h1).1
        have hu : u < M := by rw [← HM.out]; exact (List.getElem?_eq_some_iff.1 h3).1
        have hi : i < r.length := (List.getElem?_eq_some_iff.1 h2).1
        have hm' : m < s.length := (List.getElem?_eq_some_iff.1 h4).1
        have hlt' := nat_of_lt hlt
        have X := hide hxk; have H1 := hide h1; have H2 := hide h2; have H3 := hide h3; have H4 := hide h4; have HLOC := hide hloc; have HB6 := hide hb6; have HAL := hide AL
        clear hxk h1 h2 h3 h4 hloc hb6 AL
        go_wp2_with fail
        clear i0 i1 i2 i3
        generalize hV : (wr.alloc (.cells #[.int .i64 t, .int .i64 i] 28)).alloc (.cells #[.int .i64 u, .int .i64 m] 28) = V at *
        clear hV
        obtain ⟨gb', go', he, gbl', i0, i1, i2, i3⟩ := (HR2.out.below HB6.out).rc X.out
        simp only [Option.some.injEq, Addr.mk.injEq, and_true] at he
        obtain ⟨rfl, rfl⟩ := he
        obtain ⟨hb', ho, rfl, hbl, j0, j1, j2, j3⟩ := (HR3.out.below HB6.out).rc X.out
        obtain ⟨pb, po, ra, rc, rfl, pbl, p0, p1⟩ := (HPP.out.below HB6.out).row H1.out
        obtain ⟨pb', po', sa, sc, he, pbl', q0, q1⟩ := (HPP.out.below HB6.out).row H3.out
        simp only [Option.some.injEq, Addr.mk.injEq, and_true] at he
        obtain ⟨rfl, rfl⟩ := he
        obtain ⟨rb, ro, rfl, rbl, -, r1, -, -⟩ := p1.ins H2.out
        obtain ⟨sb, so, rfl, sbl, -, s1, -, -⟩ := q1.ins H4.out
        rw [HLOC.out] at r1
        have ht' := nat_of_lt ht; have hu' := nat_of_lt hu; have hi' := nat_of_lt hi; have hm'' := nat_of_lt hm'
        have hge : decide (t ≥ u) = false := decide_eq_false (by omega)
        have hge' : decide ((t : Int) ≥ (u : Int)) = false := decide_eq_false (by omega)
        have a0 := A0.out; have a1 := A1.out; have a2 := A2.out; have a3 := A3.out; have al := HAL.out
        have al2 : wr.heap.size < V.heap.size := by omega
        clear p1 q1 X H1 H2 H3 H4 HLOC A0 A1 A2 A3 gbl
        generalize r.length = rn at *
        generalize s.length = sn at *
        refine wp_region_bw (by kernel_rfl) (by kernel_rfl) ?_
        repeat (go_big_quiet_step (fail))
        refine wpQuiet_nil ?_
        intro w5 hb5
        have hb7 := HB6.out.trans (hb5.mono HB6.out.size)
        go_wp2_with fail
        go_roundw
        case rel => exact ⟨k + 1, by omega, by go_num, hb7⟩
        case measure => simp [intOf]; omega
      · have e : k = N := by omega
        subst e
        go_wp2_with fail
        go_ret
        exact ⟨rfl, HB3.out.trans (hbr.mono HB3.out.size)⟩

theorem lawFnRacesOf3 (v : Value) (xs : List Int) (w : World) (h : Rep ByteE w v xs ∧ ∀ x ∈ xs, 0 ≤ x ∧ x ≤ 255) :
    Calls Try.prog 3 #[v] w fun e w' => e = .returned (.bool true) ∧ Below w.heap.size w w' := lawFnRacesOf v xs w h.1 h.2

end Go.Proofs.Ythglefilfpnikaa
