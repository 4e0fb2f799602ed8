/-
  The laws' own functions on programs: copy, mark, held. No condition but bounds on lengths.
-/
import Derived.Test.YtpnmphfdfadlcaaF1
namespace Go.Proofs.Ytpnmphfdfadlcaa
open Go.RowKit

set_option maxHeartbeats 400000 in
theorem toInstrSS_any (v : Value) (xs : List (List Ins)) (w : World) (hx : RepP w v xs) (hl : xs.length ≤ 1048576) (hl2 : ∀ r ∈ xs, r.length ≤ 1048576) :
    Calls Try.prog 34 #[v] w (RetOwn2 InsE 73 72 w xs) := by
  obtain ⟨a, c, rfl, hc1, hc2, hc3, hx⟩ := hx.open
  have HX := hide hx; clear hx
  have HL2 := hide hl2; clear hl2
  generalize hn : xs.length = n at *
  have H := hide hn; clear hn
  go_enter Try.func34, Try.ntmps34
  go_wp2_with (at_make; refine wpList_make SlcE 73 ⟨none, 0, 0⟩ Try.infoInsS rfl Try.underlying34 n (by decide) (by omega) rfl _ _ rfl rfl rfl ?_; intro w1 hown hgr)
  have hb1 := below_of_grown hgr
  go_loopw [4] (fun i wr => ∃ k : Nat, k ≤ n ∧ i = .int .i64 k ∧ OwnP wr w.heap.size (.slice (some ⟨w.heap.size, 0, none⟩) n n) (xs.take k ++ List.replicate (n - k) []) ∧ Below w.heap.size w wr) (fun i _ => n - (intOf i).toNat)
  case atStart => exact ⟨0, Nat.zero_le _, rfl, by simpa using Own2.made hown, hb1⟩
  case round =>
    obtain ⟨k, hk, rfl, ho, hb⟩ := hrel
    by_cases hlt : k < n
    · obtain ⟨x, hxk⟩ := get_of_lt (xs := xs) (k := k) (by rw [H.out]; exact hlt)
      obtain ⟨b, o, ra, rc, rfl, hbl, i0, i1⟩ := (HX.out.below hb).row hxk
      have hlt' := nat_of_lt hlt
      have hxl : x.length ≤ 1048576 := HL2.out x (List.mem_of_getElem? hxk)
      have X := hide hxk; clear hxk
      have I1 := hide i1; clear i1
      go_wp2_with (go_at_call 101; refine (toInstrS_any _ x _ I1.out hxl).mono ?_; rintro e w2 ⟨u, rfl, hu, hb2⟩; obtain ⟨s, rfl, -⟩ := hu.toSlc; obtain ⟨hgl, ⟨_, f0⟩, hfr⟩ := (ho.below hb2).cellAt (k := k) (by rw [← H.out, length_pad _ _ (by rw [H.out]; omega), H.out]; exact hlt))
      have ho2 := ho.put hb2 hb.size (k := k) (by rw [← H.out, length_pad _ _ (by rw [H.out]; omega), H.out]; exact hlt) hu
      rw [← H.out, set_pad xs _ X.out, H.out] at ho2
      go_roundw
      case rel => exact ⟨k + 1, by omega, by go_num, ho2, (hb.trans (hb2.mono hb.size)).setCell (Nat.le_refl _) _⟩
      case measure => simp [intOf]; omega
    · go_wp2_with fail
      go_ret
      rw [← H.out, pad_all xs _ (by rw [H.out]; omega), H.out] at ho
      exact ⟨_, rfl, ho, hb⟩

/-- The instruction whose fields are numbered from m on. -/
def markI (m : Int) : Ins := ⟨m, m + 1, m + 1 + 1, m + 1 + 1 + 1⟩
/-- So many instructions, numbered from m on. -/
def marksI : Nat → Int → List Ins
  | 0, _ => []
  | n + 1, m => markI m :: marksI n (m + 4)

theorem marksI_length (n : Nat) (m : Int) : (marksI n m).length = n := by
  induction n generalizing m with
  | zero => rfl
  | succ n ih => simp [marksI, ih]

theorem marksI_get (n : Nat) (m : Int) {k : Nat} (h : k < n) : (marksI n m)[k]? = some (markI (m + 4 * k)) := by
  induction n generalizing m k with
  | zero => omega
  | succ n ih =>
    cases k with
    | zero => simp [marksI]
    | succ k => simp only [marksI, List.getElem?_cons_succ]; rw [ih _ (by omega)]; congr 2; omega

/-- The first k marked, the rest as they were. -/
theorem marks_step (xs : List Ins) (m : Int) {k : Nat} (hk : k < xs.length) : ((marksI k m) ++ xs.drop k).set k (markI (m + 4 * k)) = marksI (k + 1) m ++ xs.drop (k + 1) := by
  have h1 : marksI (k + 1) m = marksI k m ++ [markI (m + 4 * k)] := by
    apply List.ext_getElem?
    intro i
    by_cases hi : i < k
    · rw [marksI_get _ _ (by omega), List.getElem?_append_left (by rw [marksI_length]; exact hi), marksI_get _ _ hi]
    · by_cases hi2 : i = k
      · subst hi2
        rw [marksI_get _ _ (by omega), List.getElem?_append_right (by rw [marksI_length]; omega), marksI_length]; simp
      · rw [List.getElem?_eq_none (by rw [marksI_length]; omega), List.getElem?_eq_none (by simp [marksI_length]; omega)]
  rw [List.set_append_right _ _ (by rw [marksI_length]; omega), marksI_length, Nat.sub_self, List.drop_eq_getElem_cons hk, List.set_cons_zero, h1]
  simp

set_option maxHeartbeats 800000 in
theorem markInstrS_any (v : Value) (xs : List Ins) (m : Int) (w : World) (base : Nat) (hx : OwnI w base v xs) (hl : xs.length ≤ 1099511627776) (hm0 : 0 ≤ m) (hm1 : m ≤ 1099511627776) :
    Calls Try.prog 112 #[v, .int .i64 m] w fun e w' => e = .returned (.int .i64 (m + 4 * xs.length)) ∧ OwnI w' base v (marksI xs.length m) ∧ w.grownBy w' v.ownBlock := by
  rcases hx.shape with ⟨rfl, rfl⟩ | ⟨g, c, rfl, hg1, hg2, hc1, hc2⟩
  · go_enter Try.func112, Try.ntmps112
    go_wp2_with fail
    go_loopw [1, 5] (fun q i wr => i = .int .i64 0 ∧ q = .int .i64 m ∧ wr = w) (fun _ i _ => (intOf i).toNat)
    case atStart => exact ⟨rfl, rfl, rfl⟩
    case round =>
      obtain ⟨rfl, rfl, rfl⟩ := hrel
      go_wp2_with fail
      go_ret
      exact ⟨by simp, hx, World.grownBy.refl _ _⟩
  · generalize hn : xs.length = n at *
    have H := hide hn; clear hn
    go_enter Try.func112, Try.ntmps112
    go_wp2_with fail
    go_loopw [1, 5] (fun q i wr => ∃ k : Nat, k ≤ n ∧ i = .int .i64 k ∧ q = .int .i64 (m + 4 * k) ∧ OwnI wr base (.slice (some ⟨g, 0, none⟩) n c) (marksI k m ++ xs.drop k) ∧ w.grownBy wr (some g)) (fun _ i _ => n - (intOf i).toNat)
    case atStart => exact ⟨0, Nat.zero_le _, rfl, by simp, by simpa [marksI] using hx, World.grownBy.refl _ _⟩
    case round =>
      obtain ⟨k, hk, rfl, rfl, ho, hb⟩ := hrel
      by_cases hlt : k < n
      · obtain ⟨x, hxk⟩ := get_of_lt (xs := xs) (k := k) (by rw [H.out]; exact hlt)
        have hlt' := nat_of_lt hlt
        have hget : (marksI k m ++ xs.drop k)[k]? = some x := by rw [List.getElem?_append_right (by rw [marksI_length]; omega), marksI_length, Nat.sub_self, List.getElem?_drop]; simpa using hxk
        obtain ⟨hgl, f0, f1, f2, f3, hfr⟩ := ho.ins hget
        have ho2 := ho.setIns hget (markI (m + 4 * k))
        rw [marks_step xs m (by rw [H.out]; exact hlt)] at ho2
        have X := hide hxk; clear hxk
        have G := hide hget; clear hget
        go_wp2_with fail
        go_roundw
        case rel => exact ⟨k + 1, by omega, by go_num, by go_num, ho2, grown_set (grown_set (grown_set (grown_set hb _ _) _ _) _ _) _ _⟩
        case measure => simp [intOf]; omega
      · have e : k = n := by omega
        subst e
        go_wp2_with fail
        go_ret
        rw [List.drop_of_length_le (by rw [H.out]; omega), List.append_nil] at ho
        exact ⟨rfl, ho, hb⟩

set_option maxHeartbeats 800000 in
/-- Instructions that are numbered from m on are found so. -/
theorem heldInstrS_any (v : Value) (n : Nat) (m : Int) (w : World) (hx : Rep InsE w v (marksI n m)) (hl : n ≤ 1099511627776) (hm0 : 0 ≤ m) (hm1 : m ≤ 1099511627776) :
    Calls Try.prog 113 #[v, .int .i64 m] w fun e w' => e = .returned (.int .i64 (m + 4 * n)) ∧ w = w' := by
  obtain ⟨a, c, rfl, hc1, hc2, hc3, hx⟩ := hx.open
  rw [marksI_length] at *
  go_enter Try.func113, Try.ntmps113
  go_wp2_with fail
  go_loop [1, 5] (fun q i => ∃ k : Nat, k ≤ n ∧ i = .int .i64 k ∧ q = .int .i64 (m + 4 * k)) (fun _ i => n - (intOf i).toNat)
  case atStart => exact ⟨0, Nat.zero_le _, rfl, by simp⟩
  case round =>
    obtain ⟨k, hk, rfl, rfl⟩ := hrel
    by_cases hlt : k < n
    · obtain ⟨b, o, rfl, hbl, i0, i1, i2, i3⟩ := hx.ins (marksI_get n m hlt)
      simp only [markI] at i0 i1 i2 i3
      have hlt' := nat_of_lt hlt
      go_wp2_with fail
      go_round
      case rel => exact ⟨k + 1, by omega, by go_num, by go_num⟩
      case measure => simp [intOf]; omega
    · have e : k = n := by omega
      subst e
      go_wp2_with fail
      go_ret
      exact ⟨rfl, rfl⟩

/-- Programs whose instructions are numbered from m on. -/
def marksP : List Nat → Int → List (List Ins)
  | [], _ => []
  | n :: ns, m => marksI n m :: marksP ns (m + 4 * n)

def sumN : List Nat → Nat
  | [] => 0
  | n :: ns => n + sumN ns

theorem sumN_take_succ (ns : List Nat) {k n : Nat} (h : ns[k]? = some n) : sumN (ns.take (k + 1)) = sumN (ns.take k) + n := by
  induction ns generalizing k with
  | nil => simp at h
  | cons x ns ih =>
    cases k with
    | zero => simp at h; simp [sumN, h]
    | succ k => simp only [List.take_succ_cons, sumN]; rw [ih (by simpa using h)]; omega

theorem sumN_take_le (ns : List Nat) (k : Nat) : sumN (ns.take k) ≤ sumN ns := by
  induction ns generalizing k with
  | nil => simp [sumN]
  | cons x ns ih => cases k with
    | zero => simp [sumN]
    | succ k => simp only [List.take_succ_cons, sumN]; have := ih k; omega

theorem le_sumN {ns : List Nat} {k n : Nat} (h : ns[k]? = some n) : sumN (ns.take k) + n ≤ sumN ns := by
  rw [← sumN_take_succ ns h]; exact sumN_take_le ns _

theorem marksP_length (ns : List Nat) (m : Int) : (marksP ns m).length = ns.length := by
  induction ns generalizing m with
  | nil => rfl
  | cons n ns ih => simp [marksP, ih]

theorem marksP_get (ns : List Nat) (m : Int) {k n : Nat} (h : ns[k]? = some n) : (marksP ns m)[k]? = some (marksI n (m + 4 * sumN (ns.take k))) := by
  induction ns generalizing m k with
  | nil => simp at h
  | cons x ns ih =>
    cases k with
    | zero => simp at h; simp [marksP, sumN, h]
    | succ k => simp only [marksP, List.getElem?_cons_succ]; rw [ih _ (by simpa using h)]; simp only [List.take_succ_cons, sumN]; congr 2; omega

/-- The first k rows marked. -/
theorem marksP_step (p : List (List Ins)) (m : Int) {k : Nat} {r : List Ins} (hr : p[k]? = some r) :
    (marksP ((p.map List.length).take k) m ++ p.drop k).set k (marksI r.length (m + 4 * sumN ((p.map List.length).take k))) = marksP ((p.map List.length).take (k + 1)) m ++ p.drop (k + 1) := by
  have hk := (List.getElem?_eq_some_iff.1 hr).1
  have hl : (marksP ((p.map List.length).take k) m).length = k := by rw [marksP_length]; simp; omega
  rw [List.set_append_right _ _ (by omega), hl, Nat.sub_self, List.drop_eq_getElem_cons hk, List.set_cons_zero]
  have hn : (p.map List.length)[k]? = some r.length := by simp [hr]
  have e : marksP ((p.map List.length).take (k + 1)) m = marksP ((p.map List.length).take k) m ++ [marksI r.length (m + 4 * sumN ((p.map List.length).take k))] := by
    apply List.ext_getElem?
    intro i
    by_cases hi : i < k
    · obtain ⟨q, hq⟩ := get_of_lt (xs := p.map List.length) (k := i) (by simp; omega)
      rw [List.getElem?_append_left (by omega), marksP_get _ m (k := i) (n := q) (by rw [List.getElem?_take, if_pos (by omega)]; exact hq), marksP_get _ m (k := i) (n := q) (by rw [List.getElem?_take, if_pos (by omega)]; exact hq), List.take_take, List.take_take, Nat.min_eq_left (by omega), Nat.min_eq_left (by omega)]
    · by_cases hi2 : i = k
      · subst hi2
        rw [List.getElem?_append_right (by omega), hl, marksP_get _ m (k := i) (n := r.length) (by rw [List.getElem?_take, if_pos (by omega)]; exact hn), List.take_take, Nat.min_eq_left (by omega)]; simp
      · rw [List.getElem?_eq_none (by rw [marksP_length]; simp; omega), List.getElem?_eq_none (by simp [hl]; omega)]
  rw [e]; simp

set_option maxHeartbeats 800000 in
theorem markInstrSS_any (v : Value) (p : List (List Ins)) (m : Int) (w0 w : World) (base : Nat) (hx : OwnP w0 base v p) (hw : Below w0.heap.size w0 w) (hl : sumN (p.map List.length) ≤ 268435456) (hpl : p.length ≤ 1048576) (hm0 : 0 ≤ m) (hm1 : m ≤ 1048576) :
    Calls Try.prog 39 #[v, .int .i64 m] w fun e w' => e = .returned (.int .i64 (m + 4 * sumN (p.map List.length))) ∧ OwnP w' base v (marksP (p.map List.length) m) ∧ Outside base w0.heap.size w w' := by
  obtain ⟨us, hU, hlt⟩ := hx.told
  have HLT := hide hlt; clear hlt
  have hU := hU.below hw
  generalize hsz : w0.heap.size = hi at *
  clear hx hsz hw
  rcases hU.2.1.shape with ⟨rfl, h0⟩ | ⟨g, c, rfl, hg1, hg2, hc1, hc2⟩
  · subst h0
    obtain rfl : p = [] := List.eq_nil_of_length_eq_zero hU.1.symm
    go_enter Try.func39, Try.ntmps39
    go_wp2_with fail
    go_loopw [1, 5] (fun q i wr => i = .int .i64 0 ∧ q = .int .i64 m ∧ wr = w) (fun _ i _ => (intOf i).toNat)
    case atStart => exact ⟨rfl, rfl, rfl⟩
    case round =>
      obtain ⟨rfl, rfl, rfl⟩ := hrel
      go_wp2_with fail
      go_ret
      exact ⟨by simp [sumN], hU.own, Outside.refl _ _ _⟩
  · have hul := hU.1
    generalize hn : us.length = n at *
    have H := hide hul; clear hul
    have hnb : n ≤ 1048576 := by have := H.out; omega
    clear hn
    go_enter Try.func39, Try.ntmps39
    go_wp2_with fail
    go_loopw [1, 5] (fun q i wr => ∃ k : Nat, k ≤ n ∧ i = .int .i64 k ∧ q = .int .i64 (m + 4 * sumN ((p.map List.length).take k)) ∧ Own2U InsE 73 72 us wr base (.slice (some ⟨g, 0, none⟩) n c) (marksP ((p.map List.length).take k) m ++ p.drop k) ∧ Outside base hi w wr) (fun _ i _ => n - (intOf i).toNat)
    case atStart => exact ⟨0, Nat.zero_le _, rfl, by simp [sumN], by simpa [marksP] using hU, Outside.refl _ _ _⟩
    case round =>
      obtain ⟨k, hk, rfl, rfl, ho, hb⟩ := hrel
      by_cases hlt : k < n
      · obtain ⟨x, hxk⟩ := get_of_lt (xs := p) (k := k) (by rw [← H.out]; exact hlt)
        have hlt' := nat_of_lt hlt
        have hget : (marksP ((p.map List.length).take k) m ++ p.drop k)[k]? = some x := by
          have hl : (marksP ((p.map List.length).take k) m).length = k := by rw [marksP_length]; simp; have := H.out; omega
          rw [List.getElem?_append_right (by omega), hl, Nat.sub_self, List.getElem?_drop]; simpa using hxk
        obtain ⟨s, hs, hgl, f0, hrow, hback⟩ := ho.row hget
        have hsum := le_sumN (ns := p.map List.length) (k := k) (n := x.length) (by simp [hxk])
        have hst := marksP_step p m hxk
        have hsum2 := sumN_take_succ (p.map List.length) (k := k) (n := x.length) (by simp [hxk])
        generalize hS : sumN ((p.map List.length).take k) = S at *
        have ST := hide hst; have S2 := hide hsum2; have SS := hide hS; have G := hide hget; have SK := hide hs; have X := hide hxk; have BK := hide hback; have RW := hide hrow
        clear hst hsum2 hS hget hs hxk hback hrow
        go_wp2_with (go_at_call 112; refine (markInstrS_any s.v x _ _ base RW.out (by omega) (by omega) (by omega)).mono ?_; rintro e w2 ⟨rfl, hu, hgr⟩)
        have ho2 := BK.out _ _ hu hgr
        rw [ST.out] at ho2
        go_roundw
        case rel => exact ⟨k + 1, by omega, by go_num, by rw [S2.out]; go_num, ho2, hb.grown hgr (fun q hq => HLT.out k s SK.out q hq)⟩
        case measure => simp [intOf]; omega
      · have e : k = n := by omega
        subst e
        go_wp2_with fail
        go_ret
        rw [List.drop_of_length_le (by rw [← H.out]; omega), List.append_nil, List.take_of_length_le (by simp [← H.out])] at ho
        rw [List.take_of_length_le (by simp [← H.out])]
        exact ⟨rfl, ho.own, hb⟩

set_option maxHeartbeats 800000 in
theorem heldInstrSS_any (v : Value) (ns : List Nat) (m : Int) (w : World) (hx : RepP w v (marksP ns m)) (hl : sumN ns ≤ 268435456) (hm0 : 0 ≤ m) (hm1 : m ≤ 1048576) :
    Calls Try.prog 41 #[v, .int .i64 m] w fun e w' => e = .returned (.int .i64 (m + 4 * sumN ns)) ∧ w = w' := by
  obtain ⟨a, c, rfl, hc1, hc2, hc3, hx⟩ := hx.open
  rw [marksP_length] at *
  have HX := hide hx; clear hx
  generalize hn : ns.length = n at *
  have H := hide hn; clear hn
  go_enter Try.func41, Try.ntmps41
  go_wp2_with fail
  go_loop [1, 5] (fun q i => ∃ k : Nat, k ≤ n ∧ i = .int .i64 k ∧ q = .int .i64 (m + 4 * sumN (ns.take k))) (fun _ i => n - (intOf i).toNat)
  case atStart => exact ⟨0, Nat.zero_le _, rfl, by simp [sumN]⟩
  case round =>
    obtain ⟨k, hk, rfl, rfl⟩ := hrel
    by_cases hlt : k < n
    · obtain ⟨x, hxk⟩ := get_of_lt (xs := ns) (k := k) (by rw [H.out]; exact hlt)
      obtain ⟨b, o, ra, rc, rfl, hbl, i0, i1⟩ := HX.out.row (marksP_get ns m hxk)
      have hlt' := nat_of_lt hlt
      have hsum := le_sumN hxk
      have S2 := hide (sumN_take_succ ns hxk)
      rw [marksI_length] at i0 i1
      have I1 := hide i1; clear i1 hxk
      generalize hS : sumN (ns.take k) = S at *
      clear hS
      go_wp2_with (go_at_call 113; refine (heldInstrS_any _ x _ _ I1.out (by omega) (by omega) (by omega)).mono ?_; rintro e w2 ⟨rfl, rfl⟩)
      go_round
      case rel => exact ⟨k + 1, by omega, by go_num, by rw [S2.out]; go_num⟩
      case measure => simp [intOf]; omega
    · have e : k = n := by omega
      subst e
      go_wp2_with fail
      go_ret
      rw [List.take_of_length_le (by rw [H.out]; exact Nat.le_refl _)]
      exact ⟨rfl, rfl⟩

end Go.Proofs.Ytpnmphfdfadlcaa
