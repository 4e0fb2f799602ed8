/-
  Copies of programs: the program's and the reference's. Condition: bounds on lengths.
-/
import Derived.Test.YtpnmphfdfadlcaaBase2
import Derived.Test.YtpnmphfdfadlcaaF6
namespace Go.Proofs.Ytpnmphfdfadlcaa
open Go.RowKit

theorem eql_slice_nil (P : Program) (w : World) (t e : TypeId) (a : Option Addr) (n c n' c' : Nat) (h : P.underlying t = some (.slice e)) : (binOp .eql t (.slice a n c) (.slice none n' c')).run P w = .ok (.bool a.isNone) w := Lib.run_eql_slice_nil w t e a n c n' c' h

set_option maxHeartbeats 400000 in
theorem CloneI_any (v : Value) (xs : List Ins) (w : World) (hx : Rep InsE w v xs) (hl : xs.length ≤ 1048576) :
    Calls Try.prog 177 #[v] w (RetOwn InsE 72 w xs) := by
  obtain ⟨a, c, rfl, hc1, hc2, hc3, hx⟩ := hx.open
  have HX := hide hx; clear hx
  have hlen : ([] : List Ins).length + xs.length ≤ 68719476736 := by simp; omega
  generalize hn : xs.length = n at *
  have H := hide hn; clear hn
  cases a with
  | none =>
    have hE := fun w' : World => eql_slice_nil Try.prog w' 73 72 none n c 0 0 Try.underlying73
    have hxs : Hid (xs = []) := hide (by
      cases xs with
      | nil => rfl
      | cons y ys => obtain ⟨b, o, hb, _⟩ := HX.out.ins (k := 0) rfl; cases hb)
    go_enter Try.func177, Try.ntmps177
    go_wp2_with fail
    go_ret
    rw [hxs.out]
    exact ⟨_, rfl, Own.nil _ _ _, Below.refl _ _⟩
  | some ad =>
    have hE := fun w' : World => eql_slice_nil Try.prog w' 73 72 (some ad) n c 0 0 Try.underlying73
    go_enter Try.func177, Try.ntmps177
    go_wp2_with (at_builtin; refine wpList_appS InsE 72 Try.infoIns rfl Try.underlying73 w.heap.size _ [] xs _ (Own.empty _ w (Nat.le_refl _)) (HX.out.below ((Below.refl _ _).alloc (Nat.le_refl _) _)) (by decide) (by rw [H.out]; exact hlen) (by simp) rfl _ _ rfl rfl rfl ?_; intro v' w1 hown1 hgr1)
    go_ret
    exact ⟨_, rfl, by simpa using hown1, ((Below.refl _ _).alloc (Nat.le_refl _) _).grown hgr1 (by simp) (fun k hk => by simp [Value.ownBlock] at hk; omega)⟩

set_option maxHeartbeats 400000 in
theorem cloneProgram_any (v : Value) (xs : List (List Ins)) (w : World) (hx : RepP w v xs) (hl : xs.length ≤ 1048576) (hl2 : ∀ r ∈ xs, r.length ≤ 1048576) :
    Calls Try.prog 107 #[v] w (RetOwn2 InsE 73 72 w xs) := by
  obtain ⟨a, c, rfl, hc1, hc2, hc3, hx⟩ := hx.open
  have HX := hide hx; clear hx
  have HL2 := hide hl2; clear hl2
  generalize hn : xs.length = n at *
  have H := hide hn; clear hn
  go_enter Try.func107, Try.ntmps107
  go_wp2_with (at_make; refine wpList_make SlcE 73 ⟨none, 0, 0⟩ Try.infoInsS rfl Try.underlying34 n (by decide) (by omega) rfl _ _ rfl rfl rfl ?_; intro w1 hown hgr)
  have hb1 := below_of_grown hgr
  go_loopw [11] (fun i wr => ∃ k : Nat, k ≤ n ∧ i = .int .i64 k ∧ OwnP wr w.heap.size (.slice (some ⟨w.heap.size, 0, none⟩) n n) (xs.take k ++ List.replicate (n - k) []) ∧ Below w.heap.size w wr) (fun i _ => n - (intOf i).toNat)
  case atStart => exact ⟨0, Nat.zero_le _, rfl, by simpa using Own2.made hown, hb1⟩
  case round =>
    obtain ⟨k, hk, rfl, ho, hb⟩ := hrel
    by_cases hlt : k < n
    · obtain ⟨x, hxk⟩ := get_of_lt (xs := xs) (k := k) (by rw [H.out]; exact hlt)
      obtain ⟨b, o, ra, rc, rfl, hbl, i0, i1⟩ := (HX.out.below hb).row hxk
      have hlt' := nat_of_lt hlt
      have hxl : x.length ≤ 1048576 := HL2.out x (List.mem_of_getElem? hxk)
      have X := hide hxk; clear hxk
      have I1 := hide i1; clear i1
      go_wp2_with (go_at_call 177; (with_reducible refine (CloneI_any _ x _ I1.out hxl).mono ?_); rintro e w2 ⟨u, rfl, hu, hb2⟩; obtain ⟨s, rfl, -⟩ := hu.toSlc; obtain ⟨hgl, ⟨_, f0⟩, hfr⟩ := (ho.below hb2).cellAt (k := k) (by rw [← H.out, length_pad _ _ (by rw [H.out]; omega), H.out]; exact hlt))
      have ho2 := ho.put hb2 hb.size (k := k) (by rw [← H.out, length_pad _ _ (by rw [H.out]; omega), H.out]; exact hlt) hu
      rw [← H.out, set_pad xs _ X.out, H.out] at ho2
      go_roundw
      case rel => exact ⟨k + 1, by omega, by go_num, ho2, (hb.trans (hb2.mono hb.size)).setCell (Nat.le_refl _) _⟩
      case measure => simp [intOf]; omega
    · go_wp2_with fail
      go_ret
      rw [← H.out, pad_all xs _ (by rw [H.out]; omega), H.out] at ho
      exact ⟨_, rfl, ho, hb⟩

set_option maxHeartbeats 800000 in
theorem l1Copy_any (v : Value) (xs : List (List Ins)) (w : World) (hx : RepP w v xs) (hl : xs.length ≤ 1048576) (hl2 : ∀ r ∈ xs, r.length ≤ 1048576) :
    Calls Try.prog 193 #[v] w (RetOwn2 InsE 73 72 w xs) := by
  obtain ⟨a, c, rfl, hc1, hc2, hc3, hx⟩ := hx.open
  have HX := hide hx; clear hx
  have HL2 := hide hl2; clear hl2
  generalize hn : xs.length = n at *
  have H := hide hn; clear hn
  go_enter Try.func193, Try.ntmps193
  go_wp2_with fail
  go_loopw [3, 4] (fun s i wr => ∃ k : Nat, k ≤ n ∧ i = .int .i64 k ∧ OwnP wr w.heap.size s (xs.take k) ∧ Below w.heap.size w wr) (fun _ i _ => n - (intOf i).toNat)
  case atStart => exact ⟨0, Nat.zero_le _, rfl, by simpa using Own2.empty _ _ w (Nat.le_refl _), (Below.refl _ _).alloc (Nat.le_refl _) _⟩
  case round =>
    obtain ⟨k, hk, rfl, ho, hb⟩ := hrel
    by_cases hlt : k < n
    · obtain ⟨x, hxk⟩ := get_of_lt (xs := xs) (k := k) (by rw [H.out]; exact hlt)
      obtain ⟨b, o, ra, rc, rfl, hbl, i0, i1⟩ := (HX.out.below hb).row hxk
      have hlt' := nat_of_lt hlt
      have hxl : x.length ≤ 1048576 := HL2.out x (List.mem_of_getElem? hxk)
      have htk : (xs.take k).length ≤ 1048576 := by simp; omega
      have TS : Hid (xs.take (k + 1) = xs.take k ++ [x]) := hide (by rw [List.take_add_one, hxk]; rfl)
      have X := hide hxk; clear hxk
      have I1 := hide i1; clear i1
      generalize hT : xs.take k = T at *
      clear hT
      have hlen : ([] : List Ins).length + x.length ≤ 68719476736 := by simp; omega
      have hbx := (Below.refl wr.heap.size wr).alloc (Nat.le_refl _) (.cells #[] 72)
      have HBX := hide hbx; clear hbx
      obtain ⟨us, hU, -⟩ := ho.told
      have HU := hide hU; clear hU
      have hub : us.length ≤ 68719476736 := by have := HU.out.1; omega
      go_wp2_with (first | (at_builtin; refine wpList_appS InsE 72 Try.infoIns rfl Try.underlying73 wr.heap.size _ [] x _ (Own.empty _ wr (Nat.le_refl _)) (I1.out.below HBX.out) (by decide) hlen (by simp) rfl (.tmp 13) (.tmp 17) rfl rfl rfl ?_; intro u w2 hown1 hgr1; obtain ⟨s, rfl, -⟩ := Own.toSlc hown1; have hb2 := HBX.out.grown hgr1 (by simp) (fun k hk => by simp [Value.ownBlock] at hk; omega)) | (at_builtin; refine wpList_app SlcE 73 Try.infoInsS rfl Try.underlying34 w.heap.size _ us s ((HU.out.2.1.below hb2).alloc _) (by decide) hub (by simp; have := hb.size; have := hb2.size; omega) rfl (.tmp 12) (.tmp 19) rfl rfl w2.heap.size 0 1 rfl news_alloc ?_; intro v' w3 hown3 hgr3))
      have hown1' : OwnI w2 wr.heap.size s.v x := by simpa using hown1
      have ho2 := (HU.out).app (by decide) (hb2.trans ((Below.refl _ _).alloc hb2.size _)) hb.size (hown1'.alloc _) hown3 hgr3
      rw [← TS.out] at ho2
      have hb3 := below_app (hb.trans (hb2.mono hb.size)) (HU.out.2.1.below hb2) hgr3
      go_roundw
      case rel => exact ⟨k + 1, by omega, by go_num, ho2, hb3⟩
      case measure => simp [intOf]; omega
    · go_wp2_with fail
      go_ret
      rw [List.take_of_length_le (by rw [H.out]; omega)] at ho
      exact ⟨_, rfl, ho, hb⟩

end Go.Proofs.Ytpnmphfdfadlcaa
