/-
  PutFences of the reference; gaps as the laws take them. Condition: bounds on lengths.
-/
import Derived.Test.YtpnmphfdfadlcaaF11
import Derived.Test.YtpnmphfdfadlcaaF20
namespace Go.Proofs.Ytpnmphfdfadlcaa
open Go.RowKit

theorem subG_take {L all : List Gp} {k : Nat} {x : Gp} (h : subG (L.take k) all = true) (hx : L[k]? = some x) (hin : inL all x = true) : subG (L.take (k + 1)) all = true := by
  unfold subG at *
  rw [List.take_add_one, hx, List.all_append, h]
  simpa [inL] using hin
theorem subG_no {L all : List Gp} {k : Nat} {x : Gp} (hx : L[k]? = some x) (hin : inL all x = false) : subG L all = false := by
  unfold subG
  rw [List.all_eq_false]
  exact ⟨x, List.mem_of_getElem? hx, by unfold inL at hin; simpa using hin⟩

theorem putP_flat {f : Gp → Bool} {p : List (List Ins)} (h1 : p.length ≤ 3) (h2 : ∀ r ∈ p, r.length ≤ 7) : (putP f p).flatten.length ≤ 42 := by
  have hr := putP_rows (f := f) (p := p) (n := 7) h2
  have hl := putP_length f p
  generalize putP f p = q at *
  have : ∀ (q : List (List Ins)), (∀ r ∈ q, r.length ≤ 2 * 7) → q.flatten.length ≤ q.length * (2 * 7) := by
    intro q
    induction q with
    | nil => simp
    | cons r q ih =>
      intro h
      have a := h r (by simp)
      have b := ih (fun r hr => h r (by simp [hr]))
      rw [List.flatten_cons, List.length_append, List.length_cons, Nat.add_mul]
      omega
  have := this q hr
  omega

set_option maxRecDepth 100000 in
set_option maxHeartbeats 1600000 in
theorem sPutFences_any (v v2 : Value) (p : List (List Ins)) (L : List Gp) (w : World) (hp : RepP w v p) (hL : Rep GapE w v2 L) (hl : p.flatten.length ≤ 1048576) (hpl : p.length ≤ 1048576) :
    Calls Try.prog 33 #[v, v2] w (RetOwn2B InsE 73 72 w (putV p L) (putOk p L)) := by
  obtain ⟨a2, c2, rfl, hd1, hd2, hd3, hL⟩ := hL.open
  have HP := hide hp; have HL := hide hL
  have HV := hide (fun w' h => sProgramValid_any v p w' h hl hpl)
  have HG := hide (fun w' h => l9Gaps_any v p w' h hl)
  have HPUT := hide (fun w' (h : RepP w' v p) h2 (h3 : p.length ≤ 1048576) h4 => l9Put_any v (.slice a2 L.length c2) p L w' h h2 h3 h4)
  clear hp hL
  have HB0 := hide ((Below.refl w.heap.size w).alloc (Nat.le_refl _) (.cells #[] 73))
  generalize hm : L.length = m at *
  have HM := hide hm; clear hm
  generalize hb : progValid p = b at *
  have B := hide hb; clear hb
  cases b
  · have E1 : Hid (putOk p L = false) := hide (by unfold putOk; rw [B.out]; rfl)
    have E2 : Hid (putV p L = []) := hide (by unfold putV; rw [E1.out]; rfl)
    go_enter Try.func33, Try.ntmps33
    go_wp2_with (go_at_call 84; (with_reducible refine (HV.out _ (HP.out.below HB0.out)).mono ?_); rintro e w1 ⟨rfl, hb1⟩)
    go_ret2
    rw [E1.out, E2.out]
    exact ⟨_, rfl, (Own2.empty _ _ w (Nat.le_refl _)).below hb1, HB0.out.trans (hb1.mono HB0.out.size)⟩
  · obtain ⟨hv1, hv2, hv3, -, -⟩ := valid_le B.out
    have HR := hide (row_of_valid B.out)
    have hfl : Hid ((putP (inL L) p).flatten.length ≤ 42) := hide (putP_flat hv1 (fun r hr => (hv3 r hr).1))
    have hpl3 : Hid ((putP (inL L) p).length ≤ 1048576) := hide (by rw [putP_length]; omega)
    clear hv3
    go_enter Try.func33, Try.ntmps33
    go_wp2_with fail
    (with_reducible refine (HV.out _ (HP.out.below HB0.out)).mono ?_); rintro e w1 ⟨rfl, hb1⟩
    have HB1 := hide (HB0.out.trans (hb1.mono HB0.out.size))
    have HE1 := hide ((Own2.empty (E := InsE) 73 72 w (Nat.le_refl _)).below hb1)
    clear hb1
    go_wp2_with fail
    (with_reducible refine (HG.out _ (HP.out.below HB1.out)).mono ?_); rintro e w2 ⟨vg, rfl, hvg, hb2⟩
    obtain ⟨⟨ga, gn, gc⟩, rfl, -⟩ := hvg.toSlc
    replace hvg : Own GapE 70 w2 _ (.slice ga gn gc) (gapsP p) := hvg
    have HB2 := hide (HB1.out.trans (hb2.mono HB1.out.size))
    have HE2 := hide (HE1.out.below hb2)
    have HH := hide (fun w' (hb : Below w2.heap.size w2 w') x => l9Has_any (.slice ga gn gc) (gapsP p) x w' (hvg.below hb).rep)
    clear hvg hb2 HE1
    have E0 : Hid (putOk p L = (subG L (gapsP p) && progValid (putP (inL L) p))) := hide (by unfold putOk; rw [B.out]; rfl)
    have E2 : Hid (putOk p L = true → putV p L = putP (inL L) p) := hide (fun h => by unfold putV; rw [h]; rfl)
    have E3 : Hid (putOk p L = false → putV p L = []) := hide (fun h => by unfold putV; rw [h]; rfl)
    go_wp2_with fail
    go_loopw [8] (fun i wr => ∃ k : Nat, k ≤ m ∧ i = .int .i64 k ∧ Hid (subG (L.take k) (gapsP p) = true) ∧ Below w2.heap.size w2 wr) (fun i _ => m - (intOf i).toNat)
    case atStart => exact ⟨0, Nat.zero_le _, rfl, hide (by simp [subG]), Below.refl _ _⟩
    case round =>
      obtain ⟨k, hk, rfl, hs, hb⟩ := hrel
      by_cases hlt : k < m
      · obtain ⟨x, hxk⟩ := get_of_lt (xs := L) (k := k) (by rw [HM.out]; exact hlt)
        obtain ⟨b, o, rfl, hbl, i0, i1⟩ := (HL.out.below (HB2.out.trans (hb.mono HB2.out.size))).gap hxk
        have hlt' := nat_of_lt hlt
        have X := hide hxk; clear hxk
        obtain ⟨ib, hib⟩ : ∃ ib, inL (gapsP p) x = ib := ⟨_, rfl⟩
        have HC := HH.out wr hb x
        rw [hib] at HC
        have HC := hide HC; have IB := hide hib
        clear hib
        cases ib
        · have E4 : Hid (putOk p L = false) := hide (by rw [E0.out, subG_no X.out IB.out]; rfl)
          go_wp2_with fail
          (with_reducible refine HC.out.mono ?_); rintro e w3 ⟨rfl, hb3⟩
          go_wp2_with fail
          go_ret2
          rw [E4.out, E3.out E4.out]
          exact ⟨_, rfl, (HE2.out.below hb).below hb3, HB2.out.trans ((hb.trans (hb3.mono hb.size)).mono HB2.out.size)⟩
        · have S2 := hide (subG_take hs.out X.out IB.out)
          go_wp2_with fail
          (with_reducible refine HC.out.mono ?_); rintro e w3 ⟨rfl, hb3⟩
          go_wp2_with fail
          go_roundw
          case rel => exact ⟨k + 1, by omega, by go_num, S2, hb.trans (hb3.mono hb.size)⟩
          case measure => simp [intOf]; omega
      · have HS : Hid (subG L (gapsP p) = true) := hide (by have h := hs.out; rwa [List.take_of_length_le (by rw [HM.out]; omega)] at h)
        have HB3 := hide (HB2.out.trans (hb.mono HB2.out.size))
        have HE3 := hide (HE2.out.below hb)
        go_wp2_with fail
        (with_reducible refine (HPUT.out _ (HP.out.below HB3.out) (HL.out.below HB3.out) (by omega) HR.out).mono ?_); rintro e w4 ⟨u, rfl, hu, hb4⟩
        have HU := hide hu
        have HB4 := hide (HB3.out.trans (hb4.mono HB3.out.size))
        have HE4 := hide (HE3.out.below hb4)
        have hs3 := HB3.out.size
        obtain ⟨pb, hpb⟩ : ∃ pb, progValid (putP (inL L) p) = pb := ⟨_, rfl⟩
        have HPV := sProgramValid_any u (putP (inL L) p) w4 hu.rep (by have := hfl.out; omega) hpl3.out
        rw [hpb] at HPV
        have HPV := hide HPV; have PB := hide hpb
        clear hpb hu hb4
        cases pb
        · have E4 : Hid (putOk p L = false) := hide (by rw [E0.out, PB.out, Bool.and_false])
          go_wp2_with fail
          (with_reducible refine HPV.out.mono ?_); rintro e w5 ⟨rfl, hb5⟩
          go_wp2_with fail
          go_ret2
          rw [E4.out, E3.out E4.out]
          exact ⟨_, rfl, HE4.out.below hb5, HB4.out.trans (hb5.mono HB4.out.size)⟩
        · have E4 : Hid (putOk p L = true) := hide (by rw [E0.out, PB.out, HS.out]; rfl)
          go_wp2_with fail
          (with_reducible refine HPV.out.mono ?_); rintro e w5 ⟨rfl, hb5⟩
          go_wp2_with fail
          go_ret2
          rw [E4.out, E2.out E4.out]
          exact ⟨_, rfl, (HU.out.below hb5).mono hs3, HB4.out.trans (hb5.mono HB4.out.size)⟩

theorem szGapS_any (a : Option Addr) (n c : Nat) (l : Int) (w : World) (hn : n ≤ 9223372036854775807) (h0 : 0 ≤ l) (h1 : l ≤ 1048576) :
    Calls Try.prog 32 #[.slice a n c, .int .i64 l] w fun e w' => e = .returned (.int .i64 (if l - n < 0 then -1 else l - n)) ∧ w = w' := by
  by_cases h : l - n < 0
  · rw [if_pos h]
    go_enter Try.func32, Try.ntmps32
    go_wp2
    go_ret
    exact ⟨rfl, rfl⟩
  · rw [if_neg h]
    go_enter Try.func32, Try.ntmps32
    go_wp2
    go_ret
    exact ⟨rfl, rfl⟩

theorem toGap_any (x : Gp) (w : World) :
    Calls Try.prog 102 #[x.v] w fun e w' => e = .returned x.v ∧ Below w.heap.size w w' := by
  obtain ⟨x0, x1⟩ := x
  go_enter Try.func102, Try.ntmps102
  go_wp2
  refine bodyPost_ret (v := .agg #[.int .i64 x0, .int .i64 x1]) (by simp [results, Try.results102, go_sem]) rfl ⟨rfl, ?_⟩
  exact (((Below.refl _ _).alloc (Nat.le_refl _) _).alloc (by simp) _).alloc (by simp; omega) _

set_option maxHeartbeats 400000 in
theorem toGapS_any (v : Value) (xs : List Gp) (w : World) (hx : Rep GapE w v xs) (hl : xs.length ≤ 1048576) :
    Calls Try.prog 35 #[v] w (RetOwn GapE 70 w xs) := by
  obtain ⟨a, c, rfl, hc1, hc2, hc3, hx⟩ := hx.open
  have HX := hide hx; clear hx
  generalize hn : xs.length = n at *
  have H := hide hn; clear hn
  go_enter Try.func35, Try.ntmps35
  go_wp2_with (at_make; refine wpList_make GapE 70 ⟨0, 0⟩ Try.infoGap rfl Try.underlying54 n (by decide) (by omega) rfl _ _ rfl rfl rfl ?_; intro w1 hown hgr)
  have hb1 := below_of_grown hgr
  go_loopw [4] (fun i wr => ∃ k : Nat, k ≤ n ∧ i = .int .i64 k ∧ OwnG wr w.heap.size (.slice (some ⟨w.heap.size, 0, none⟩) n n) (xs.take k ++ List.replicate (n - k) ⟨0, 0⟩) ∧ Below w.heap.size w wr) (fun i _ => n - (intOf i).toNat)
  case atStart => exact ⟨0, Nat.zero_le _, rfl, by simpa using hown, hb1⟩
  case round =>
    obtain ⟨k, hk, rfl, ho, hb⟩ := hrel
    by_cases hlt : k < n
    · obtain ⟨x, hxk⟩ := get_of_lt (xs := xs) (k := k) (by rw [H.out]; exact hlt)
      obtain ⟨b, o, rfl, hbl, i0, i1⟩ := (HX.out.below hb).gap hxk
      have hlt' := nat_of_lt hlt
      have X := hide hxk; clear hxk
      go_wp2_with fail
      go_wp2_with (go_at_call 102; refine (toGap_any x _).mono ?_; rintro e w2 ⟨rfl, hb2⟩; obtain ⟨hgl, f0, f1, hfr⟩ := (ho.below hb2).gap (k := k) (by rw [← H.out]; exact get_pad xs _ (by rw [H.out]; exact hlt)))
      have ho2 := (ho.below hb2).setGap (k := k) (by rw [← H.out]; exact get_pad xs _ (by rw [H.out]; exact hlt)) x
      rw [← H.out, set_pad xs _ X.out, H.out] at ho2
      go_roundw
      case rel => exact ⟨k + 1, by omega, by go_num, ho2, ((hb.trans (hb2.mono hb.size)).setCell (Nat.le_refl _) _).setCell (Nat.le_refl _) _⟩
      case measure => simp [intOf]; omega
    · go_wp2_with fail
      go_ret
      rw [← H.out, pad_all xs _ (by rw [H.out]; omega), H.out] at ho
      exact ⟨_, rfl, ho, hb⟩

end Go.Proofs.Ytpnmphfdfadlcaa
