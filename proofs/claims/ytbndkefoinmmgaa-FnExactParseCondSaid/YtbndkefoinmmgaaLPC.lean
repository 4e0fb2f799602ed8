/-
  The walk of FnExactParseCond: it answers true and turns nothing that was there. No condition.
-/
import Derived.Test.YtbndkefoinmmgaaP23
import Derived.Test.YtbndkefoinmmgaaT11
namespace Go.Proofs.Ytbndkefoinmmgaa
open Go.RowKit

theorem parseV_descs (s : ByteArray) : descs (parseV s).1.kids ≤ 4096 := by
  have hz : descs zeroC.kids ≤ 4096 := by decide
  unfold parseV
  split
  · exact hz
  · rw [← parse_eq]
    unfold parseS
    split
    · have := sP_descs 10 s.data.toList 0
      simp only at *
      omega
    · exact hz

/-- What ParseCond hands back, its parts written out. -/
def RetPVr (w : World) (o t q x : Int) (ks : List Cd) (b : Bool) (e : Ending) (w' : World) : Prop :=
  ∃ s : Slc, e = .returned (.tuple #[.agg #[.int .i64 o, .int .i64 t, .int .i64 q, .int .i64 x, .slice s.a s.n s.cap], .bool b]) ∧ OwnC 45 w' w.heap.size w'.heap.size s ks ∧ Below w.heap.size w w'
theorem RetPV.raw {w : World} {o t q x : Int} {ks : List Cd} {b : Bool} {e : Ending} {w' : World} (h : RetPV w (.mk o t q x ks, b) e w') : RetPVr w o t q x ks b e w' := by
  obtain ⟨o', t', q', x', ks', s, e1, h1, h2, h3⟩ := h
  simp only [Cd.mk.injEq] at e1
  obtain ⟨rfl, rfl, rfl, rfl, rfl⟩ := e1
  exact ⟨s, h1, h2, h3⟩

theorem BoxC.outs {w w' : World} {lo hi b : Nat} {o t q x : Int} {a : Option Addr} {n c : Nat} (h : BoxC w b o t q x a n c) (ho : Outside lo hi w w') (hb : b < lo ∨ hi ≤ b) : BoxC w' b o t q x a n c := by
  have e := ho.block b h.lt hb
  exact ⟨Nat.lt_of_lt_of_le h.lt ho.size, (cell_of_block e 0).trans h.c0, (cell_of_block e 1).trans h.c1, (cell_of_block e 2).trans h.c2, (cell_of_block e 3).trans h.c3, (cell_of_block e 4).trans h.c4⟩

set_option maxRecDepth 100000 in
set_option maxHeartbeats 3200000 in
theorem lawParseCond (s : ByteArray) (w : World) :
    Calls Try.prog 6 #[.string s] w fun e w' => e = .returned (.bool true) ∧ Below w.heap.size w w' := by
  by_cases hs : s.size > 1048576
  · have hs' : decide ((s.size : Int) > 1048576) = true := decide_eq_true (by omega)
    go_enter Try.func6, Try.ntmps6
    go_wp2_with fail
    go_ret
    exact ⟨rfl, Below.refl _ _⟩
  · have hs' : decide ((s.size : Int) > 1048576) = false := decide_eq_false (by omega)
    clear hs
    have HD := parseV_descs s
    have HI := fun w' => ParseCond_any s w'
    have HS := fun w' => sParseCond_any s w'
    generalize parseV s = r at *
    obtain ⟨⟨o, t, q, x, ks⟩, b⟩ := r
    simp only [Cd.kids] at HD
    have HI : Hid (∀ w', Calls Try.prog 30 #[.string s] w' (RetPVr w' o t q x ks b)) := hide (fun w' => (HI w').mono fun _ _ h => h.raw)
    have HS : Hid (∀ w', Calls Try.prog 29 #[.string s] w' (RetPVr w' o t q x ks b)) := hide (fun w' => (HS w').mono fun _ _ h => h.raw)
    have hbb : (b != b) = false := by cases b <;> rfl
    go_enter Try.func6, Try.ntmps6
    go_wp2_with fail
    (with_reducible refine (HS.out _).mono ?_); rintro e w1 ⟨s1, rfl, own1, hb1⟩
    have B3 := BoxC.new w1 o t q x s1.a s1.n s1.cap 45
    have h2 := belowAlloc w1 (.cells #[.int .i64 o, .int .i64 t, .int .i64 q, .int .i64 x, .slice s1.a s1.n s1.cap] 45)
    have O2 := hide (own1.keepB h2)
    have H2 := hide (hb1.trans (h2.mono hb1.size))
    have hz1 := hb1.size
    clear own1 hb1
    go_wp2_with fail
    (with_reducible refine (HI.out _).mono ?_); rintro e w3 ⟨s3, rfl, own3, hb3⟩
    have hz3 := hb3.size
    simp at hz3
    have O3 := hide (O2.out.keepB hb3)
    have H3 := hide (H2.out.trans (hb3.mono H2.out.size))
    have OI : Hid (OwnC 45 w3 (w1.heap.size + 1) w3.heap.size s3 ks) := hide (by simpa using own3)
    have B3' := B3.below hb3
    have h4 := belowAlloc w3 (.cells #[.int .i64 o, .int .i64 t, .int .i64 q, .int .i64 x, .slice s3.a s3.n s3.cap] 45)
    have B4 := B3'.below h4
    have B5 := BoxC.new w3 o t q x s3.a s3.n s3.cap 45
    generalize hW : w3.alloc (.cells #[.int .i64 o, .int .i64 t, .int .i64 q, .int .i64 x, .slice s3.a s3.n s3.cap] 45) = W4 at *
    have hz4 : W4.heap.size = w3.heap.size + 1 := by rw [← hW]; simp
    have O4 := hide (O3.out.keepB h4)
    have OI4 := hide (OI.out.keepB h4)
    have H4 := hide (H3.out.trans (h4.mono H3.out.size))
    clear own3 hb3 B3 B3' h2 h4 O2 H2 O3 H3 OI
    have BA4 := hide B4; have BB4 := hide B5
    have HQ1 := hide (eqCond_any o t q x o t q x ks ks s3.a s1.a s3.n s3.cap s1.n s1.cap true W4 (OI4.out.rep.low (Nat.zero_le _)) (O4.out.rep.low (Nat.zero_le _)) (by simp))
    obtain ⟨b3l, b30, b31, b32, b33, b34⟩ := B4
    obtain ⟨b5l, b50, b51, b52, b53, b54⟩ := B5
    go_wp2_with fail
    (with_reducible refine HQ1.out.mono ?_); rintro e w5 ⟨rfl, hb5⟩
    have BA5 := hide (BA4.out.below hb5); have BB5 := hide (BB4.out.below hb5); have O5 := hide (O4.out.keepB hb5); have OI5 := hide (OI4.out.keepB hb5); have H5 := hide (H4.out.trans (hb5.mono H4.out.size)); have hz5 := hb5.size
    clear b3l b30 b31 b32 b33 b34 b5l b50 b51 b52 b53 b54 BA4 BB4 O4 OI4 H4 hb5 HQ1 hW
    obtain ⟨b5l, b50, b51, b52, b53, b54⟩ := BB5.out
    have HM := hide (markCond_any o t q x ks (w1.heap.size + 1) w3.heap.size s3.a s3.n s3.cap 1 w5 OI5.out hz3 (by omega) (by omega))
    go_wp2_with fail
    (with_reducible refine HM.out.mono ?_); rintro e w6 ⟨qm, xs, rfl, hmk, hds, own6, out6⟩
    have hle := hmk.le
    have hqb : qm ≤ 1099511627776 := by omega
    have hq0 : ¬ qm < 0 := by omega
    have hqq : (qm != qm) = false := by simp
    have BA6 := hide (BA5.out.outs out6 (.inl (by omega))); have BB6 := hide (BB5.out.outs out6 (.inr (by omega))); have O6 := hide (O5.out.apart out6 (.inl (by omega))); have OI6 := hide own6; have H6 := hide (H5.out.trans (out6.below (B := w.heap.size) (by omega) H5.out.size)); have hz6 := out6.size
    have MK := hide hmk
    clear b5l b50 b51 b52 b53 b54 BA5 BB5 O5 OI5 H5 own6 out6 HM hmk hle hds
    obtain ⟨b5l, b50, b51, b52, b53, b54⟩ := BB6.out
    have HH := hide (heldCond_any o t q x xs s3.a s3.n s3.cap 1 qm w6 (OI6.out.rep.low (Nat.zero_le _)) MK.out (by omega) hqb)
    go_wp2_with fail
    (with_reducible refine HH.out.mono ?_); rintro e w7 ⟨rfl, hb7⟩
    have BA7 := hide (BA6.out.below hb7); have BB7 := hide (BB6.out.below hb7); have O7 := hide (O6.out.keepB hb7); have OI7 := hide (OI6.out.keepB hb7); have H7 := hide (H6.out.trans (hb7.mono H6.out.size))
    clear b5l b50 b51 b52 b53 b54 BA6 BB6 O6 OI6 H6 hb7 HH
    go_wp2_with fail
    (with_reducible refine (HI.out _).mono ?_); rintro e w8 ⟨s8, rfl, own8, hb8⟩
    have h9 := belowAlloc w8 (.cells #[.int .i64 o, .int .i64 t, .int .i64 q, .int .i64 x, .slice s8.a s8.n s8.cap] 45)
    have hb9 := hb8.trans (h9.mono hb8.size)
    have BA9 := hide (BA7.out.below hb9); have BB9 := hide (BB7.out.below hb9); have O9 := hide (O7.out.keepB hb9); have OI9 := hide (OI7.out.keepB hb9); have H9 := hide (H7.out.trans (hb9.mono H7.out.size))
    have BC9 := BoxC.new w8 o t q x s8.a s8.n s8.cap 45
    have OC9 := hide (own8.keepB h9)
    clear BA7 BB7 O7 OI7 H7 hb8 own8 h9 hb9
    generalize hW : w8.alloc (.cells #[.int .i64 o, .int .i64 t, .int .i64 q, .int .i64 x, .slice s8.a s8.n s8.cap] 45) = W9 at *
    obtain ⟨b3l, b30, b31, b32, b33, b34⟩ := BA9.out
    obtain ⟨b9l, b90, b91, b92, b93, b94⟩ := BC9
    have HQ2 := hide (eqCond_any o t q x o t q x ks ks s8.a s1.a s8.n s8.cap s1.n s1.cap true W9 (OC9.out.rep.low (Nat.zero_le _)) (O9.out.rep.low (Nat.zero_le _)) (by simp))
    go_wp2_with fail
    (with_reducible refine HQ2.out.mono ?_); rintro e w10 ⟨rfl, hb10⟩
    have BB10 := hide (BB9.out.below hb10); have OI10 := hide (OI9.out.keepB hb10); have H10 := hide (H9.out.trans (hb10.mono H9.out.size))
    clear b3l b30 b31 b32 b33 b34 b9l b90 b91 b92 b93 b94 BA9 BB9 O9 OI9 H9 OC9 hb10 HQ2 hW
    obtain ⟨b5l, b50, b51, b52, b53, b54⟩ := BB10.out
    have HH := hide (heldCond_any o t q x xs s3.a s3.n s3.cap 1 qm w10 (OI10.out.rep.low (Nat.zero_le _)) MK.out (by omega) hqb)
    go_wp2_with fail
    (with_reducible refine HH.out.mono ?_); rintro e w11 ⟨rfl, hb11⟩
    go_wp2_with fail
    go_ret
    exact ⟨rfl, H10.out.trans (hb11.mono H10.out.size)⟩

end Go.Proofs.Ytbndkefoinmmgaa
