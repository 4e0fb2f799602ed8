/-
  The laws' marking of conditions. Condition: bounds on sizes.
-/
import Derived.Test.YtpnmphfdfadlcaaT10
import Derived.Deep.LoopGhost
namespace Go.Proofs.Ytpnmphfdfadlcaa
open Go.RowKit

/-- What a marking of the parts hands back. -/
def RetMk (T : TypeId) (lo hi : Nat) (s : Slc) (ks : List Cd) (m : Int) (w : World) (e : Ending) (w' : World) : Prop :=
  ∃ (q : Int) (xs : List Cd), e = .returned (.int .i64 q) ∧ MkL m xs q ∧ descs xs = descs ks ∧ OwnC T w' lo hi s xs ∧ Outside lo hi w w'

/-- The parts ks are marked right. -/
def MarkK (ks : List Cd) : Prop := ∀ (lo hi : Nat) (a : Option Addr) (n c : Nat) (m : Int) (w : World), OwnC 25 w lo hi ⟨a, n, c⟩ ks → lo ≤ hi → 0 ≤ m → m + 4 * (descs ks : Nat) ≤ 1099511627776 →
  Calls Try.prog 123 #[.slice a n c, .int .i64 m] w (RetMk 25 lo hi ⟨a, n, c⟩ ks m w)

set_option maxHeartbeats 1600000 in
theorem markK_any : ∀ ks, MarkK ks := Cd.all (by
  intro ks ih lo hi a n c m w h hlh hm0 hm1
  cases h with
  | nil =>
    go_enter Try.func123, Try.ntmps123
    go_wp2_with fail
    go_loopw [1, 5] (fun q i wr => i = .int .i64 0 ∧ q = .int .i64 m ∧ wr = w) (fun _ i _ => (intOf i).toNat)
    case atStart => exact ⟨rfl, rfl, rfl⟩
    case round =>
      obtain ⟨rfl, rfl, rfl⟩ := hrel
      go_wp2_with fail
      go_ret
      exact ⟨m, [], rfl, .nil, rfl, .nil, Outside.refl _ _ _⟩
  | node cut h1 h2 h3 h4 h5 h6 h7 h8 =>
    rename_i g us
    have hn := h2.len
    have hcap : us.length ≤ c ∧ c ≤ maxLen := by
      rcases h2.shape with ⟨he, -⟩ | ⟨g', c', he, -, -, h9, h10⟩
      · simp at he
      · simp only [Value.slice.injEq] at he
        obtain ⟨-, -, rfl⟩ := he
        exact ⟨h9, h10⟩
    have hnb : n ≤ 9223372036854775807 := by have := hcap.2; unfold maxLen at this; omega
    have ST := hide (show MkSt 25 w w lo hi g n c cut ks m 0 m us ks from ⟨hn.symm, by rw [hn, h1], h2, h7, h8, .nil, rfl, rfl, Outside.refl _ _ _⟩)
    have IH := hide ih
    have HD := hide (fun i x hx => descs_kid (ks := ks) (k := i) (x := x) hx)
    have HKL : Hid (ks.length = n) := hide (by rw [hn, h1])
    clear h1 h2 h7 h8 hn hcap ih
    have H5 := hide h5; have H6 := hide h6
    clear h5 h6
    go_enter Try.func123, Try.ntmps123
    go_wp2_with fail
    go_loopw [1, 5] (fun q i wr => ∃ (k : Nat) (p : Int) (vs : List Cs) (xs : List Cd), k ≤ n ∧ i = .int .i64 k ∧ q = .int .i64 p ∧ Hid (MkSt 25 w wr lo hi g n c cut ks m k p vs xs)) (fun _ i _ => n - (intOf i).toNat)
    case atStart => exact ⟨0, m, us, ks, Nat.zero_le _, rfl, rfl, ST⟩
    case round =>
      obtain ⟨k, p, vs, xs, hk, rfl, rfl, HS⟩ := hrel
      have hp := HS.out.mkd.le
      rw [HS.out.ds] at hp
      by_cases hlt : k < n
      · obtain ⟨x, hx⟩ := get_of_lt (xs := ks) (k := k) (by rw [HKL.out]; exact hlt)
        obtain ⟨u, hu⟩ := get_of_lt (xs := vs) (k := k) (by rw [HS.out.ul]; exact hlt)
        have hlt' := nat_of_lt hlt
        have hxx : xs[k]? = some x := by
          have := congrArg (fun l => l[0]?) HS.out.dr
          simpa [List.getElem?_drop, hx] using this
        have hdk := HD.out k x hx
        have hkid := HS.out.kid k u x hu hxx
        obtain ⟨hgl, f0, f1, f2, f3, f4, hfr⟩ := HS.out.own.cs hu
        have HOC := hide (hkid.keep (w' := wset4 wr g k p) (fun b _ hb2 _ => wset4_other wr g k p (by have := H6.out (k + 1); omega)))
        have hp0 : 0 ≤ p := by omega
        have hpb : p + 4 * ((descs x.kids : Nat) : Int) + 4 ≤ 1099511627776 := by omega
        obtain ⟨uo, ut, up, uv, ⟨sa, sn, sc⟩⟩ := u
        have HC := hide (IH.out x (List.mem_of_getElem? hx) (cut k) (cut (k + 1)) sa sn sc (p + 1 + 1 + 1 + 1) (wset4 wr g k p) HOC.out (H5.out k) (by omega) (by omega))
        have HX := hide hx; have HU := hide hu
        clear hx hu hxx hdk hkid hp
        unfold wset4 at HC
        go_wp2_with fail
        (with_reducible refine HC.out.mono ?_); rintro e w2 ⟨q2, ks2, rfl, hmk, hds, hown, hout⟩
        have HST := hide (HS.out.step h3 h4 H5.out H6.out HX.out HU.out hmk hds hown hout)
        clear hmk hds hown hout HC HOC
        go_wp2_with fail
        go_roundw
        case rel => exact ⟨k + 1, q2, _, _, by omega, by go_num, rfl, HST⟩
        case measure => simp [intOf]; omega
      · have e : k = n := by omega
        subst e
        go_wp2_with fail
        go_ret
        refine ⟨p, xs, rfl, ?_, ?_, ?_, HS.out.out⟩
        · have := HS.out.mkd
          rwa [List.take_of_length_le (by rw [HS.out.xl]; exact Nat.le_refl _)] at this
        · have := HS.out.ds
          rwa [List.take_of_length_le (by rw [HS.out.xl]; exact Nat.le_refl _), List.take_of_length_le (by rw [HKL.out]; exact Nat.le_refl _)] at this
        · exact .node cut (by rw [HS.out.ul, HS.out.xl]) HS.out.own h3 h4 H5.out H6.out HS.out.fld HS.out.kid)

/-- The parts xs are found as they were marked. -/
def HeldK (xs : List Cd) : Prop := ∀ (a : Option Addr) (n c : Nat) (m q : Int) (w : World), RepK 0 w ⟨a, n, c⟩ xs → MkL m xs q → 0 ≤ m → q ≤ 1099511627776 →
  Calls Try.prog 124 #[.slice a n c, .int .i64 m] w fun e w' => e = .returned (.int .i64 q) ∧ w = w'

theorem MkL.pos {m q : Int} {xs : List Cd} (h : MkL m xs q) : m ≤ q := by have := h.le; omega

set_option maxHeartbeats 1600000 in
theorem heldK_any : ∀ xs, HeldK xs := Cd.all (by
  intro xs ih a n c m q w h hmk hm0 hq1
  obtain ⟨e1, hc1, hc2, hc3⟩ := h.open
  simp only at e1 hc1 hc2 hc3
  have HX := hide h; have HM := hide hmk; have IH := hide ih
  have HL := hide e1.symm
  rw [HL.out] at hc1 hc2
  clear h hmk ih e1
  go_enter Try.func124, Try.ntmps124
  go_wp2_with fail
  go_loop [1, 5] (fun v i => ∃ (k : Nat) (p : Int), k ≤ n ∧ i = .int .i64 k ∧ v = .int .i64 p ∧ 0 ≤ p ∧ Hid (MkL p (xs.drop k) q)) (fun _ i => n - (intOf i).toNat)
  case atStart => exact ⟨0, m, Nat.zero_le _, rfl, rfl, hm0, hide (by simpa using HM.out)⟩
  case round =>
    obtain ⟨k, p, hk, rfl, rfl, hp0, HD⟩ := hrel
    by_cases hlt : k < n
    · obtain ⟨x, hx⟩ := get_of_lt (xs := xs) (k := k) (by rw [HL.out]; exact hlt)
      have hlt' := nat_of_lt hlt
      have hd : xs.drop k = x :: xs.drop (k + 1) := by
        rw [List.drop_eq_getElem_cons (by rw [HL.out]; exact hlt)]
        congr 1
        exact (List.getElem?_eq_some_iff.1 hx).2
      obtain ⟨b, o, s, rfl, hbl, i0, i1, i2, i3, i4, i5⟩ := HX.out.kid hx
      have hD := HD.out
      rw [hd] at hD
      have hxm := List.mem_of_getElem? hx
      cases hD with
      | cons g1 g2 =>
        rename_i m1 ks
        have hp1 := g1.pos; have hp2 := g2.pos
        have HC := hide (IH.out _ hxm s.a s.n s.cap _ _ w i5 g1 (by omega) (by omega))
        have G2 := hide g2
        simp only [Cd.op, Cd.th, Cd.pl, Cd.val] at i0 i1 i2 i3
        clear hx hd hxm i5 g1 g2
        have hmn : ¬ m1 < 0 := by omega
        go_wp2_with fail
        (with_reducible refine HC.out.mono ?_); rintro e w2 ⟨rfl, rfl⟩
        go_wp2_with fail
        go_round
        case rel => exact ⟨k + 1, m1, by omega, by go_num, rfl, by omega, G2⟩
        case measure => simp [intOf]; omega
    · have e : k = n := by omega
      subst e
      have hD := HD.out
      rw [List.drop_of_length_le (by rw [HL.out]; exact Nat.le_refl _)] at hD
      cases hD
      go_wp2_with fail
      go_ret
      exact ⟨rfl, rfl⟩)

theorem markCond_any (o t p x : Int) (ks : List Cd) (lo hi : Nat) (a : Option Addr) (n c : Nat) (m : Int) (w : World) (h : OwnC 25 w lo hi ⟨a, n, c⟩ ks) (hlh : lo ≤ hi) (hm0 : 0 ≤ m) (hm1 : m + 4 * (descs ks : Nat) ≤ 1099511627776) :
    Calls Try.prog 48 #[.agg #[.int .i64 o, .int .i64 t, .int .i64 p, .int .i64 x, .slice a n c], .int .i64 m] w (RetMk 25 lo hi ⟨a, n, c⟩ ks m w) := by
  have HB := hide (belowAlloc w (.cells #[.int .i64 o, .int .i64 t, .int .i64 p, .int .i64 x, .slice a n c] 25))
  have HC := hide (markK_any ks lo hi a n c m _ (h.keepB HB.out) hlh hm0 hm1)
  clear h
  go_enter Try.func48, Try.ntmps48
  go_wp2_with fail
  (with_reducible refine HC.out.mono ?_); rintro e w2 ⟨q2, ks2, rfl, hmk, hds, hown, hout⟩
  have HO := hide ((Outside.of_below (lo := lo) (hi := hi) HB.out).trans hout)
  have HK := hide hmk; have HW := hide hown; have HS := hide hds
  clear hmk hds hown hout
  go_wp2_with fail
  go_ret
  exact ⟨q2, ks2, rfl, HK.out, HS.out, HW.out, HO.out⟩

theorem heldCond_any (o t p x : Int) (xs : List Cd) (a : Option Addr) (n c : Nat) (m q : Int) (w : World) (h : RepK 0 w ⟨a, n, c⟩ xs) (hmk : MkL m xs q) (hm0 : 0 ≤ m) (hq1 : q ≤ 1099511627776) :
    Calls Try.prog 49 #[.agg #[.int .i64 o, .int .i64 t, .int .i64 p, .int .i64 x, .slice a n c], .int .i64 m] w fun e w' => e = .returned (.int .i64 q) ∧ Below w.heap.size w w' := by
  have HB := hide (belowAlloc w (.cells #[.int .i64 o, .int .i64 t, .int .i64 p, .int .i64 x, .slice a n c] 25))
  have HC := hide (heldK_any xs a n c m q _ (h.below HB.out) hmk hm0 hq1)
  have hp := hmk.pos
  have hqn : ¬ q < 0 := by omega
  clear h hmk
  go_enter Try.func49, Try.ntmps49
  go_wp2_with fail
  (with_reducible refine HC.out.mono ?_); rintro e w2 ⟨rfl, rfl⟩
  go_wp2_with fail
  go_ret
  exact ⟨rfl, HB.out⟩

end Go.Proofs.Ytpnmphfdfadlcaa
