/-
  Plain: the outcome of a candidate.
-/
import Derived.Test.YtpbmlppdmdmfkaaGreatDoorZd01
import Derived.Test.YtpbmlppdmdmfkaaGreatDoorZd04
import Derived.Test.YtpbmlppdmdmfkaaGreatDoorZd05
import Derived.Test.YtpbmlppdmdmfkaaGreatDoorRows
import Derived.ProofKit
import Derived.LaidMore
import Derived.OpenShut
import Derived.Stop.Joined
namespace Go.Proofs.YtpbmlppdmdmfkaaGreatDoor
open Go.RowKit

/-- The listed variable holds the names. -/
def Glob (w : World) : Prop := ∀ (k : Nat) (s : ByteArray), nameTab[k]? = some s → w.cell? ⟨0, k, none⟩ = some (.string s)
theorem Glob.below {w w' : World} (h : Glob w) (hb : Below w.heap.size w w') : Glob w' := fun k s hs => (hb.cell (p := ⟨0, k, none⟩) (lt_of_cell (h k s hs))).trans (h k s hs)
theorem Glob.rep {w : World} (h : Glob w) : Rep StrE w (.slice (some ⟨0, 0, none⟩) 10 10) nameTab := by
  refine ⟨some ⟨0, 0, none⟩, 10, rfl, by decide, by decide, fun i x hx => ⟨0, 0, rfl, fun j u hu => ?_⟩⟩
  cases j with
  | zero =>
    simp only [StrE, List.getElem?_cons_zero, Option.some.injEq] at hu
    subst hu
    have := h i x hx
    simpa [StrE] using this
  | succ j => simp [StrE] at hu

set_option maxHeartbeats 800000 in
theorem IndexB_any (v : Value) (xs : List ByteArray) (x : ByteArray) (w : World) (hx : Rep StrE w v xs) :
    Calls Tryz.prog 198 #[v, .string x] w fun e w' => (∃ q : Int, e = .returned (.int .i64 q) ∧ decide (0 ≤ q) = xs.any (fun s => x.toList == s.toList)) ∧ w = w' := by
  obtain ⟨a, c, rfl, hc1, hc2, hc3, hx⟩ := hx.open
  have HX := hide hx; clear hx
  generalize hn : xs.length = n at *
  have H := hide hn; clear hn
  go_enter Tryz.func198, Tryz.ntmps198
  go_wp2_with fail
  go_loop [8] (fun i => ∃ t : Nat, t ≤ n ∧ i = .int .i64 t ∧ Hid ((xs.take t).any (fun s => x.toList == s.toList) = false)) (fun i => n - (intOf i).toNat)
  case atStart => exact ⟨0, Nat.zero_le _, rfl, hide (by simp)⟩
  case round =>
    obtain ⟨t, ht, rfl, hno⟩ := hrel
    by_cases hlt : t < n
    · obtain ⟨y, hy⟩ := get_of_lt (xs := xs) (k := t) (by rw [H.out]; exact hlt)
      obtain ⟨b, o, rfl, hbl, i0⟩ := HX.out.str hy
      have hlt' := nat_of_lt hlt
      have X := hide hy; clear hy
      by_cases hxy : (x.toList == y.toList) = true
      · have k1 := hxy
        have XE := hide hxy
        clear hxy
        go_wp2_with fail
        go_ret
        refine ⟨⟨_, rfl, ?_⟩, rfl⟩
        have h1 : xs.any (fun s => x.toList == s.toList) = true := List.any_eq_true.2 ⟨y, List.mem_of_getElem? X.out, XE.out⟩
        rw [h1]; simp
      · have k1 : (x.toList == y.toList) = false := by simpa using hxy
        have NO : Hid ((xs.take (t + 1)).any (fun s => x.toList == s.toList) = false) := hide (by
          rw [List.take_add_one, X.out, List.any_append, hno.out]
          simp [k1])
        clear hxy
        go_wp2_with fail
        go_round
        case rel => exact ⟨t + 1, by omega, by go_num, NO⟩
        case measure => simp [intOf]; omega
    · go_wp2_with fail
      go_ret
      refine ⟨⟨_, rfl, ?_⟩, rfl⟩
      have h := hno.out
      rw [List.take_of_length_le (by rw [H.out]; omega)] at h
      rw [h]; rfl

theorem ContainsB_any (v : Value) (xs : List ByteArray) (x : ByteArray) (w : World) (hx : Rep StrE w v xs) :
    Calls Tryz.prog 163 #[v, .string x] w fun e w' => e = .returned (.bool (xs.any fun s => x.toList == s.toList)) ∧ w = w' := by
  have HI := hide (IndexB_any v xs x w hx)
  obtain ⟨a, c, rfl, -⟩ := hx.open
  clear hx
  generalize hb : (xs.any fun s => x.toList == s.toList) = b at *
  go_enter Tryz.func163, Tryz.ntmps163
  go_wp2_with fail
  (with_reducible refine HI.out.mono ?_); rintro e w1 ⟨⟨q, rfl, hq⟩, rfl⟩
  have HQ := hide hq
  clear hq hb
  go_wp2_with fail
  go_ret
  exact ⟨by rw [← HQ.out]; rfl, rfl⟩

theorem isRelName_any (x : ByteArray) (w : World) (hg : Glob w) :
    Calls Tryz.prog 74 #[.string x] w fun e w' => e = .returned (.bool (isName x)) ∧ w = w' := by
  have HC := hide (ContainsB_any _ nameTab x w hg.rep)
  have c0 := hg 0 _ rfl
  have HB : Hid (isName x = nameTab.any fun s => x.toList == s.toList) := hide rfl
  rw [← HB.out] at HC
  go_enter Tryz.func74, Tryz.ntmps74
  go_wp2_with fail
  (with_reducible refine HC.out.mono ?_); rintro e w1 ⟨rfl, rfl⟩
  go_wp2_with fail
  go_ret
  exact ⟨rfl, rfl⟩

end Go.Proofs.YtpbmlppdmdmfkaaGreatDoor

namespace Go.Proofs.YtpbmlppdmdmfkaaGreatDoor
open Go.ChangeShapes Go.WideShapes Go.ChangeAt Go.WideMaps Go.WideElems Go.RowKit

abbrev laidL : List (String × DataW Unit) := [("loop.example/weakmemory/impl.relNames", Rows.laid_loop_example_weakmemory_impl_relNames)]
theorem gNames : Tryz.prog.globalNamed "loop.example/weakmemory/impl.relNames" = some 0 := by kernel_rfl
theorem tNames : (Tryz.prog.globals[0]?).map (·.type) = some 169 := by kernel_rfl
theorem door_met (os : Os) (args : Array Value) : laidMetH Tryz.prog laidL ((World.doorLaid Tryz.prog 14 os).forCall (fun _ _ => 0) ⟨#[], args, []⟩).memory :=
  laidMetH_of_parts3 (fuel := 8) (laidMet_of_run' 8 (by kernel_rfl) (by kernel_rfl)) (by kernel_rfl) (by kernel_rfl)

theorem glob_of_laid {W : World} (h : laidMetH Tryz.prog laidL W) : Glob W := by
  rw [MakeChecks.laidMetH_plain _ _ _ (by kernel_rfl)] at h
  obtain ⟨ps, ⟨g0, t0, cs0, f0, p0, q0, hg0, ht0, hv0, hd0, _⟩, _, _⟩ := h
  obtain rfl := Option.some.inj (gNames.symm.trans hg0)
  obtain rfl := Option.some.inj (tNames.symm.trans ht0)
  obtain ⟨xs, m1, -, hx1, hlen, hn3, hel⟩ := DataW.trod_array Tryz.underlying169 hd0
  have c3 : Tryz.prog.cellsOf 9 = 1 := by kernel_rfl
  intro k s hs
  have hk : k < 10 := (List.getElem?_eq_some_iff.1 hs).1
  have h0 := hel k hk
  obtain ⟨y, hy⟩ := get_of_lt (xs := xs) (k := k) (by rw [hn3]; exact hk)
  rw [hy, c3, Nat.mul_one] at h0
  obtain ⟨s', e1, e2, -⟩ := DataW.trod_string Tryz.underlying9 h0
  simp only [Prod.mk.injEq] at hx1
  have hx2 : xs.map (·.1) = nameTab.map fun s => (DataW.lit (.string s.data.toList) : DataW Unit) := by
    have h4 : (Rows.laid_loop_example_weakmemory_impl_relNames : DataW Unit) = .agg (nameTab.map fun s => (DataW.lit (.string s.data.toList) : DataW Unit)) := by kernel_rfl
    exact (DataW.agg.inj (h4.symm.trans hx1.1)).symm
  have h5 : (xs.map (·.1))[k]? = some y.1 := by rw [List.getElem?_map, hy]; rfl
  rw [hx2, List.getElem?_map, hs] at h5
  simp only [Option.map_some, Option.some.injEq] at h5
  rw [e2] at h5
  simp only [DataW.lit.injEq, Lit.string.injEq] at h5
  have h6 : s' = s := by
    have h7 : s'.data = s.data := by
      have := congrArg List.toArray h5
      simpa using this.symm
    cases s'; cases s; simp_all
  subst h6
  have h7 := World.var?_cell hg0 hv0 k
  rw [h7]
  have h8 : cs0.toList[k]? = some (.string s') := by
    have h9 : (cs0.toList.drop k)[0]? = some (.string s') := by
      have := congrArg (fun l => l[0]?) e1
      simp only [List.getElem?_cons_zero] at this
      rw [List.getElem?_take_of_lt (by omega)] at this
      exact this
    rw [List.getElem?_drop] at h9
    simpa using h9
  simpa using h8

end Go.Proofs.YtpbmlppdmdmfkaaGreatDoor

namespace Go.Proofs.YtpbmlppdmdmfkaaGreatDoor

def rowIns (t k : Nat) : List Gp := (List.range k).map fun (i : Nat) => ⟨t, i⟩
def instrsTo (p : List (List Ins)) (j : Nat) : List Gp := (List.range j).flatMap fun t => match p[t]? with
  | some r => rowIns t r.length
  | none => []
def insAll (p : List (List Ins)) : List Gp := instrsTo p p.length

theorem rowIns_succ (t k : Nat) : rowIns t (k + 1) = rowIns t k ++ [⟨t, k⟩] := by simp [rowIns, List.range_succ]
theorem instrsTo_succ {p : List (List Ins)} {j : Nat} {r : List Ins} (h : p[j]? = some r) : instrsTo p (j + 1) = instrsTo p j ++ rowIns j r.length := by
  unfold instrsTo
  rw [List.range_succ, List.flatMap_append]
  simp [h]
theorem rowIns_length (t k : Nat) : (rowIns t k).length = k := by simp [rowIns]
theorem instrsTo_length (p : List (List Ins)) : ∀ j, j ≤ p.length → (instrsTo p j).length = (p.take j).flatten.length := by
  intro j
  induction j with
  | zero => intro _; simp [instrsTo]
  | succ j ih =>
    intro hj
    obtain ⟨r, hr⟩ := get_of_lt (xs := p) (k := j) hj
    rw [instrsTo_succ hr, List.take_add_one, hr, List.flatten_append, List.length_append, List.length_append, ih (by omega), rowIns_length]
    simp

theorem mem_instrsTo {p : List (List Ins)} {j : Nat} {g : Gp} (h : g ∈ instrsTo p j) : ∃ (t i : Nat) (r : List Ins) (x : Ins), g = ⟨t, i⟩ ∧ t < j ∧ p[t]? = some r ∧ r[i]? = some x := by
  unfold instrsTo at h
  rw [List.mem_flatMap] at h
  obtain ⟨t, ht, hg⟩ := h
  cases hr : p[t]? with
  | none => rw [hr] at hg; simp at hg
  | some r =>
    rw [hr] at hg
    simp only [rowIns, List.mem_map, List.mem_range] at hg
    obtain ⟨i, hi, rfl⟩ := hg
    obtain ⟨x, hx⟩ := get_of_lt (xs := r) (k := i) hi
    exact ⟨t, i, r, x, rfl, by simpa using ht, hr, hx⟩

def insAt (p : List (List Ins)) (g : Gp) : Option Ins := (p[g.t.toNat]?).bind fun r => r[g.i.toNat]?
theorem insAt_eq {p : List (List Ins)} {t i : Nat} {r : List Ins} {x : Ins} (hr : p[t]? = some r) (hx : r[i]? = some x) : insAt p ⟨t, i⟩ = some x := by simp [insAt, hr, hx]

def conflictR (o l o2 l2 : Int) : Bool := o != 4 && o2 != 4 && l == l2 && (isWop o || isWop o2)
def conflictB (x y : Ins) : Bool := conflictR x.op x.loc y.op y.loc
def plainB (x : Ins) : Bool := x.op != 5
def raceB (p : List (List Ins)) (a b : Gp) : Bool := decide (a.t < b.t) && match insAt p a, insAt p b with
  | some x, some y => conflictB x y && (plainB x || plainB y)
  | _, _ => false

structure Rc where
  a : Gp
  b : Gp
deriving DecidableEq
def RcE : El Rc := ⟨4, by decide, fun x => [.int .i64 x.a.t, .int .i64 x.a.i, .int .i64 x.b.t, .int .i64 x.b.i], fun _ => rfl, fun x u h => by simp at h; rcases h with rfl | rfl | rfl | rfl <;> rfl⟩

def racesOf (p : List (List Ins)) (a : Gp) (L : List Gp) : List Rc := (L.filter (raceB p a)).map fun b => ⟨a, b⟩
def racesTo (p : List (List Ins)) (L : List Gp) : List Rc := L.flatMap fun a => racesOf p a (insAll p)
def racesP (p : List (List Ins)) : List Rc := racesTo p (insAll p)
def racesV (p : List (List Ins)) : List Rc := if progValid p = true then racesP p else []

theorem racesOf_succ (p : List (List Ins)) (a : Gp) {L : List Gp} {m : Nat} {b : Gp} (h : L[m]? = some b) : racesOf p a (L.take (m + 1)) = racesOf p a (L.take m) ++ if raceB p a b = true then [⟨a, b⟩] else [] := by
  unfold racesOf
  rw [List.take_add_one, h, List.filter_append, List.map_append]
  by_cases e : raceB p a b = true <;> simp [e]
theorem racesOf_snoc (p : List (List Ins)) (a : Gp) (L : List Gp) (b : Gp) : racesOf p a (L ++ [b]) = racesOf p a L ++ if raceB p a b = true then [⟨a, b⟩] else [] := by
  unfold racesOf
  rw [List.filter_append, List.map_append]
  by_cases e : raceB p a b = true <;> simp [e]
theorem racesTo_succ (p : List (List Ins)) {L : List Gp} {k : Nat} {a : Gp} (h : L[k]? = some a) : racesTo p (L.take (k + 1)) = racesTo p (L.take k) ++ racesOf p a (insAll p) := by
  unfold racesTo
  rw [List.take_add_one, h, List.flatMap_append]; simp
theorem racesOf_length (p : List (List Ins)) (a : Gp) (L : List Gp) : (racesOf p a L).length ≤ L.length := by
  unfold racesOf; rw [List.length_map]; exact List.length_filter_le _ _
theorem racesTo_length (p : List (List Ins)) (L : List Gp) : (racesTo p L).length ≤ L.length * (insAll p).length := by
  unfold racesTo
  induction L with
  | nil => simp
  | cons a L ih =>
    rw [List.flatMap_cons, List.length_append, List.length_cons, Nat.add_mul]
    have := racesOf_length p a (insAll p)
    omega

theorem raceB_eq {p : List (List Ins)} {t i u k : Nat} {r s : List Ins} {x y : Ins} (hr : p[t]? = some r) (hx : r[i]? = some x) (hs : p[u]? = some s) (hy : s[k]? = some y) :
    raceB p ⟨t, i⟩ ⟨u, k⟩ = (decide ((t : Int) < u) && (conflictB x y && (plainB x || plainB y))) := by
  unfold raceB; rw [insAt_eq hr hx, insAt_eq hs hy]

end Go.Proofs.YtpbmlppdmdmfkaaGreatDoor

namespace Go.Proofs.YtpbmlppdmdmfkaaGreatDoor
open Go.RowKit

/-- The row of those k below n for which f holds. -/
def bitsTo (f : Nat → Bool) : Nat → Int
  | 0 => 0
  | k + 1 => if f k = true then bits .or .i64 (bitsTo f k) (wrap64 ((2 : Int) ^ k)) else bitsTo f k

def relOf (n : Nat) (f : Nat → Nat → Bool) : List Int := (List.range n).map fun i => bitsTo (f i) n

theorem relOf_length (n : Nat) (f : Nat → Nat → Bool) : (relOf n f).length = n := by simp [relOf]
theorem relOf_get {n : Nat} {f : Nat → Nat → Bool} {i : Nat} (h : i < n) : (relOf n f)[i]? = some (bitsTo (f i) n) := by
  simp [relOf, h]

/-- Do the events at i and k conflict? -/
def confB (L : List Ev) (i k : Nat) : Bool := match L[i]?, L[k]? with
  | some a, some b => decide (0 ≤ a.t) && (decide (0 ≤ b.t) && ((a.t != b.t) && ((a.l == b.l) && (a.w || b.w))))
  | _, _ => false

theorem confB_eq {L : List Ev} {i k : Nat} {a b : Ev} (hi : L[i]? = some a) (hk : L[k]? = some b) : confB L i k = (decide (0 ≤ a.t) && (decide (0 ≤ b.t) && ((a.t != b.t) && ((a.l == b.l) && (a.w || b.w))))) := by
  unfold confB; rw [hi, hk]

def conflicts (p : List (List Ins)) : List Int := relOf (evAll p).length (confB (evAll p))
def conflictV (p : List (List Ins)) : List Int := if progValid p = true then conflicts p else []

theorem mem_evOf {t i : Nat} {x : Ins} {e : Ev} (h : e ∈ evOf t i x) : e = ⟨t, i, x.loc, isRop x.op, isWop x.op⟩ ∧ x.op ≠ 4 := by
  unfold evOf at h
  split at h
  · simp at h
  · simp at h; exact ⟨h, by assumption⟩

/-- An event is an initial write, or it is of an instruction. -/
theorem mem_evAll {p : List (List Ins)} {e : Ev} (h : e ∈ evAll p) : (e.t = -1) ∨ ∃ (t i : Nat) (r : List Ins) (x : Ins), p[t]? = some r ∧ r[i]? = some x ∧ e = ⟨t, i, x.loc, isRop x.op, isWop x.op⟩ ∧ x.op ≠ 4 := by
  unfold evAll at h
  rcases List.mem_append.1 h with h | h
  · left
    simp only [evHead, List.mem_map, List.mem_range] at h
    obtain ⟨l, _, rfl⟩ := h
    rfl
  · right
    unfold evTo at h
    rw [List.mem_flatMap] at h
    obtain ⟨t, ht, h⟩ := h
    cases hr : p[t]? with
    | none => rw [hr] at h; simp at h
    | some r =>
      rw [hr] at h
      simp only [evRow, List.mem_flatMap, List.mem_range] at h
      obtain ⟨i, hi, h⟩ := h
      obtain ⟨x, hx⟩ := get_of_lt (xs := r) (k := i) hi
      rw [hx] at h
      obtain ⟨rfl, hx4⟩ := mem_evOf h
      exact ⟨t, i, r, x, hr, hx, rfl, hx4⟩

theorem conflictR_ev {o l o2 l2 : Int} (h : o ≠ 4) (h2 : o2 ≠ 4) : conflictR o l o2 l2 = ((l == l2) && (isWop o || isWop o2)) := by
  have g1 : (o != 4) = true := by simp [h]
  have g2 : (o2 != 4) = true := by simp [h2]
  unfold conflictR
  rw [g1, g2]; rfl

end Go.Proofs.YtpbmlppdmdmfkaaGreatDoor

namespace Go.Proofs.YtpbmlppdmdmfkaaGreatDoor
open Go.RowKit

/-- The row as a natural number. -/
def maskTo (f : Nat → Bool) : Nat → Nat
  | 0 => 0
  | k + 1 => if f k = true then maskTo f k ||| 2 ^ k else maskTo f k

theorem maskTo_testBit (f : Nat → Bool) : ∀ n k, (maskTo f n).testBit k = (decide (k < n) && f k) := by
  intro n
  induction n with
  | zero => intro k; simp [maskTo]
  | succ n ih =>
    intro k
    unfold maskTo
    by_cases h : f n = true
    · rw [if_pos h, Nat.testBit_or, ih, Nat.testBit_two_pow]
      by_cases e : n = k
      · subst e; simp [h]
      · have : decide (n = k) = false := by simp [e]
        rw [this, Bool.or_false]
        by_cases hk : k < n
        · simp [hk, show k < n + 1 by omega]
        · simp [hk, show ¬ k < n + 1 by omega]
    · rw [if_neg h, ih]
      by_cases e : n = k
      · subst e; simp [h]
      · by_cases hk : k < n
        · simp [hk, show k < n + 1 by omega]
        · simp [hk, show ¬ k < n + 1 by omega]

theorem maskTo_lt (f : Nat → Bool) (n : Nat) : maskTo f n < 2 ^ n := by
  apply Nat.lt_pow_two_of_testBit
  intro i hi
  rw [maskTo_testBit]
  simp; omega

theorem maskTo_congr {f g : Nat → Bool} {n : Nat} (h : ∀ k, k < n → f k = g k) : maskTo f n = maskTo g n := by
  apply Nat.eq_of_testBit_eq
  intro k
  rw [maskTo_testBit, maskTo_testBit]
  by_cases hk : k < n
  · rw [h k hk]
  · simp [hk]

theorem pow_le60 {n : Nat} (h : n ≤ 60) : 2 ^ n ≤ 1152921504606846976 := by
  have := Nat.pow_le_pow_right (n := 2) (by decide) h
  exact this

theorem bits_nat (op : Nat → Nat → Nat) (bop : BinOp) (a b : Nat) (hop : op a b < 9223372036854775808)
    (h : bits bop .i64 (a : Int) (b : Int) = IntKind.i64.wrap ((op a b : Nat) : Int)) : bits bop .i64 (a : Int) (b : Int) = ((op a b : Nat) : Int) := by
  rw [h, IntKind.wrap_i64]
  omega

theorem toNat64 {a : Nat} (ha : a < 9223372036854775808) : (BitVec.ofInt 64 (a : Int)).toNat = a := by
  rw [BitVec.ofInt_natCast, BitVec.toNat_ofNat]; exact Nat.mod_eq_of_lt (by omega)

theorem bits_or_nat (a b : Nat) (ha : a < 9223372036854775808) (hb : b < 9223372036854775808) : bits .or .i64 (a : Int) (b : Int) = ((a ||| b : Nat) : Int) := by
  have hx : a ||| b < 2 ^ 63 := Nat.or_lt_two_pow (by omega) (by omega)
  refine bits_nat (· ||| ·) .or a b (by omega) ?_
  show IntKind.i64.wrap ((BitVec.ofInt 64 (a : Int) ||| BitVec.ofInt 64 (b : Int)).toNat : Int) = _
  rw [BitVec.toNat_or, toNat64 ha, toNat64 hb]

theorem bits_and_nat (a b : Nat) (ha : a < 9223372036854775808) (hb : b < 9223372036854775808) : bits .and .i64 (a : Int) (b : Int) = ((a &&& b : Nat) : Int) := by
  have hx : a &&& b < 2 ^ 63 := Nat.and_lt_two_pow _ (by omega)
  refine bits_nat (· &&& ·) .and a b (by omega) ?_
  show IntKind.i64.wrap ((BitVec.ofInt 64 (a : Int) &&& BitVec.ofInt 64 (b : Int)).toNat : Int) = _
  rw [BitVec.toNat_and, toNat64 ha, toNat64 hb]

theorem wrap_pow {k : Nat} (h : k < 60) : wrap64 ((2 : Int) ^ k) = ((2 ^ k : Nat) : Int) := by
  have h1 := pow_le60 (n := k) (by omega)
  have h2 : ((2 : Int) ^ k) = ((2 ^ k : Nat) : Int) := by simp
  rw [h2]
  generalize (2 ^ k : Nat) = z at *
  exact IntWalk.wrap64_in _ ⟨by omega, by omega⟩

theorem bitsTo_mask (f : Nat → Bool) : ∀ n, n ≤ 60 → bitsTo f n = (maskTo f n : Int) := by
  intro n
  induction n with
  | zero => intro _; rfl
  | succ n ih =>
    intro h
    unfold bitsTo maskTo
    rw [ih (by omega)]
    split
    · have h1 := maskTo_lt f n
      have h2 := pow_le60 (n := n) (by omega)
      rw [wrap_pow (by omega), bits_or_nat _ _ (by omega) (by omega)]
    · rfl

theorem bitsTo_lt (f : Nat → Bool) (n : Nat) (h : n ≤ 60) : 0 ≤ bitsTo f n ∧ bitsTo f n < (2 : Int) ^ n := by
  rw [bitsTo_mask f n h]
  have h1 := maskTo_lt f n
  have h2 : ((2 : Int) ^ n) = ((2 ^ n : Nat) : Int) := by simp
  rw [h2]
  omega

theorem bitsTo_congr {f g : Nat → Bool} {n : Nat} (hn : n ≤ 60) (h : ∀ k, k < n → f k = g k) : bitsTo f n = bitsTo g n := by
  rw [bitsTo_mask f n hn, bitsTo_mask g n hn, maskTo_congr h]

theorem bitsTo_or (f g : Nat → Bool) {n : Nat} (hn : n ≤ 60) : bits .or .i64 (bitsTo f n) (bitsTo g n) = bitsTo (fun k => f k || g k) n := by
  have h1 := maskTo_lt f n; have h2 := maskTo_lt g n; have h3 := pow_le60 hn
  rw [bitsTo_mask f n hn, bitsTo_mask g n hn, bitsTo_mask _ n hn, bits_or_nat _ _ (by omega) (by omega)]
  congr 1
  apply Nat.eq_of_testBit_eq
  intro k
  rw [Nat.testBit_or, maskTo_testBit, maskTo_testBit, maskTo_testBit, Bool.and_or_distrib_left]

theorem bitsTo_and (f g : Nat → Bool) {n : Nat} (hn : n ≤ 60) : bits .and .i64 (bitsTo f n) (bitsTo g n) = bitsTo (fun k => f k && g k) n := by
  have h1 := maskTo_lt f n; have h2 := maskTo_lt g n; have h3 := pow_le60 hn
  rw [bitsTo_mask f n hn, bitsTo_mask g n hn, bitsTo_mask _ n hn, bits_and_nat _ _ (by omega) (by omega)]
  congr 1
  apply Nat.eq_of_testBit_eq
  intro k
  rw [Nat.testBit_and, maskTo_testBit, maskTo_testBit, maskTo_testBit]
  cases decide (k < n) <;> simp

/-- Is the bit there? -/
theorem bitsTo_bit (f : Nat → Bool) {n k : Nat} (hn : n ≤ 60) (hk : k < n) : bits .and .i64 (bitsTo f n / (2 : Int) ^ k) 1 = if f k = true then 1 else 0 := by
  have h1 := maskTo_lt f n; have h3 := pow_le60 hn
  rw [bitsTo_mask f n hn]
  have h2 : ((2 : Int) ^ k) = ((2 ^ k : Nat) : Int) := by simp
  have h4 : maskTo f n / 2 ^ k ≤ maskTo f n := Nat.div_le_self _ _
  rw [h2, ← Int.natCast_ediv]
  have := bits_and_nat (maskTo f n / 2 ^ k) 1 (by omega) (by omega)
  rw [show ((1 : Nat) : Int) = 1 from rfl] at this
  rw [this, Nat.and_one_is_mod]
  have ht := maskTo_testBit f n k
  rw [Nat.testBit_eq_decide_div_mod_eq] at ht
  simp only [hk, decide_true, Bool.true_and] at ht
  cases hf : f k with
  | true =>
    rw [hf] at ht
    have := of_decide_eq_true ht
    rw [this]; rfl
  | false =>
    rw [hf] at ht
    have := of_decide_eq_false ht
    have h5 : maskTo f n / 2 ^ k % 2 = 0 := by omega
    rw [h5]; rfl

theorem bitsTo_zero (n : Nat) : bitsTo (fun _ => false) n = 0 := by
  induction n with
  | zero => rfl
  | succ n ih => unfold bitsTo; simpa using ih

/-! Relations. -/

theorem relOf_congr {n : Nat} {f g : Nat → Nat → Bool} (hn : n ≤ 60) (h : ∀ i k, i < n → k < n → f i k = g i k) : relOf n f = relOf n g := by
  unfold relOf
  apply List.map_congr_left
  intro i hi
  rw [List.mem_range] at hi
  exact bitsTo_congr hn (fun k hk => h i k hi hk)

theorem relOf_mem {n : Nat} {f : Nat → Nat → Bool} {x : Int} (h : x ∈ relOf n f) : ∃ i, i < n ∧ x = bitsTo (f i) n := by
  unfold relOf at h
  rw [List.mem_map] at h
  obtain ⟨i, hi, rfl⟩ := h
  exact ⟨i, by simpa using hi, rfl⟩

def fOr (f g : Nat → Nat → Bool) : Nat → Nat → Bool := fun i k => f i k || g i k
def fAnd (f g : Nat → Nat → Bool) : Nat → Nat → Bool := fun i k => f i k && g i k
def fInv (f : Nat → Nat → Bool) : Nat → Nat → Bool := fun i k => f k i
/-- One after the other, over the first m elements in between. -/
def fComp (m : Nat) (f g : Nat → Nat → Bool) : Nat → Nat → Bool := fun i k => (List.range m).any fun j => f i j && g j k

theorem fComp_succ (m : Nat) (f g : Nat → Nat → Bool) (i : Nat) : (fun k => fComp (m + 1) f g i k) = fun k => fComp m f g i k || (f i m && g m k) := by
  funext k
  unfold fComp
  rw [List.range_succ, List.any_append]; simp

theorem fComp_assoc (n : Nat) (f g h : Nat → Nat → Bool) (i k : Nat) : fComp n (fComp n f g) h i k = fComp n f (fComp n g h) i k := by
  unfold fComp
  rw [Bool.eq_iff_iff]
  simp only [List.any_eq_true, List.mem_range, Bool.and_eq_true]
  constructor
  · rintro ⟨j, hj, ⟨m, hm, h1, h2⟩, h3⟩
    exact ⟨m, hm, h1, j, hj, h2, h3⟩
  · rintro ⟨m, hm, h1, j, hj, h2, h3⟩
    exact ⟨j, hj, ⟨m, hm, h1, h2⟩, h3⟩

/-- One step of the closure: row i takes row m in, if it has m. -/
def wStep (f : Nat → Nat → Bool) (m i : Nat) : Nat → Nat → Bool := fun a k => if a = i ∧ f i m = true then f i k || f m k else f a k
def wIn (f : Nat → Nat → Bool) (m : Nat) : Nat → Nat → Nat → Bool
  | 0 => f
  | i + 1 => wStep (wIn f m i) m i
def wOut (n : Nat) (f : Nat → Nat → Bool) : Nat → Nat → Nat → Bool
  | 0 => f
  | m + 1 => wIn (wOut n f m) m n
def fClo (n : Nat) (f : Nat → Nat → Bool) : Nat → Nat → Bool := wOut n f n

theorem wStep_no {f : Nat → Nat → Bool} {m i : Nat} (h : f i m = false) : wStep f m i = f := by
  funext a k
  unfold wStep
  rw [if_neg (by rw [h]; simp)]

theorem wStep_yes {n : Nat} {f : Nat → Nat → Bool} {m i : Nat} (hn : n ≤ 60) (hi : i < n) (h : f i m = true) :
    relOf n (wStep f m i) = (relOf n f).set i (bits .or .i64 (bitsTo (f i) n) (bitsTo (f m) n)) := by
  rw [bitsTo_or _ _ hn]
  apply List.ext_getElem?
  intro a
  rw [List.getElem?_set, relOf_length]
  by_cases e : i = a
  · subst e
    rw [if_pos rfl, if_pos hi, relOf_get hi]
    congr 1
    apply bitsTo_congr hn
    intro k _
    unfold wStep
    rw [if_pos ⟨rfl, h⟩]
  · rw [if_neg e]
    by_cases ha : a < n
    · rw [relOf_get ha, relOf_get ha]
      congr 1
      apply bitsTo_congr hn
      intro k _
      unfold wStep
      rw [if_neg (fun h => e h.1.symm)]
    · rw [List.getElem?_eq_none (by rw [relOf_length]; omega), List.getElem?_eq_none (by rw [relOf_length]; omega)]

end Go.Proofs.YtpbmlppdmdmfkaaGreatDoor

namespace Go.Proofs.YtpbmlppdmdmfkaaGreatDoor

theorem wIn_eq (f : Nat → Nat → Bool) (m : Nat) : ∀ j a k, wIn f m j a k = if a < j then (f a k || (f a m && f m k)) else f a k := by
  intro j
  induction j with
  | zero => intro a k; simp [wIn]
  | succ j ih =>
    intro a k
    have hm : ∀ k, wIn f m j m k = f m k := fun k => by
      rw [ih]; split
      · cases f m k <;> cases f m m <;> rfl
      · rfl
    have hj : ∀ k, wIn f m j j k = f j k := fun k => by rw [ih, if_neg (Nat.lt_irrefl j)]
    show wStep (wIn f m j) m j a k = _
    unfold wStep
    by_cases h : a = j ∧ wIn f m j j m = true
    · obtain ⟨rfl, h2⟩ := h
      rw [if_pos ⟨rfl, h2⟩, hj k, hm k, if_pos (Nat.lt_succ_self _)]
      rw [hj] at h2
      rw [h2, Bool.true_and]
    · rw [if_neg h, ih]
      by_cases hlt : a < j
      · rw [if_pos hlt, if_pos (by omega)]
      · rw [if_neg hlt]
        by_cases e : a = j
        · subst e
          have h2 : f a m = false := by
            rw [← hj m]
            cases hh : wIn f m a a m with
            | false => rfl
            | true => exact absurd ⟨rfl, hh⟩ h
          rw [if_pos (Nat.lt_succ_self _), h2, Bool.false_and, Bool.or_false]
        · rw [if_neg (by omega)]

theorem wOut_succ {n : Nat} {f : Nat → Nat → Bool} {m a k : Nat} (ha : a < n) : wOut n f (m + 1) a k = (wOut n f m a k || (wOut n f m a m && wOut n f m m k)) := by
  show wIn _ _ _ _ _ = _
  rw [wIn_eq, if_pos ha]

/-- Connected by a path. -/
inductive Pth (n : Nat) (f : Nat → Nat → Bool) : Nat → Nat → Prop
  | one {i k : Nat} (hi : i < n) (hk : k < n) (h : f i k = true) : Pth n f i k
  | more {i j k : Nat} (hi : i < n) (hj : j < n) (h : f i j = true) (t : Pth n f j k) : Pth n f i k
theorem Pth.lt1 {n : Nat} {f : Nat → Nat → Bool} {i k : Nat} (h : Pth n f i k) : i < n := by cases h <;> assumption
theorem Pth.lt2 {n : Nat} {f : Nat → Nat → Bool} {i k : Nat} (h : Pth n f i k) : k < n := by induction h <;> assumption
theorem Pth.trans {n : Nat} {f : Nat → Nat → Bool} {i j k : Nat} (h : Pth n f i j) (t : Pth n f j k) : Pth n f i k := by
  induction h with
  | one hi hk h => exact .more hi hk h t
  | more hi hj h _ ih => exact .more hi hj h (ih t)
theorem Pth.mono {n : Nat} {f g : Nat → Nat → Bool} (hfg : ∀ i k, i < n → k < n → f i k = true → g i k = true) {i k : Nat} (h : Pth n f i k) : Pth n g i k := by
  induction h with
  | one hi hk h => exact .one hi hk (hfg _ _ hi hk h)
  | more hi hj h _ ih => exact .more hi hj (hfg _ _ hi hj h) ih
/-- What is transitive and holds of steps holds of paths. -/
theorem Pth.into {n : Nat} {f : Nat → Nat → Bool} {R : Nat → Nat → Prop} (h1 : ∀ i k, i < n → k < n → f i k = true → R i k) (h2 : ∀ i j k, i < n → j < n → k < n → R i j → R j k → R i k) {i k : Nat} (h : Pth n f i k) : R i k := by
  induction h with
  | one hi hk h => exact h1 _ _ hi hk h
  | more hi hj h t ih => exact h2 _ _ _ hi hj t.lt2 (h1 _ _ hi hj h) ih

theorem wOut_sound {n : Nat} {f : Nat → Nat → Bool} : ∀ m, m ≤ n → ∀ i k, i < n → k < n → wOut n f m i k = true → Pth n f i k := by
  intro m
  induction m with
  | zero => intro _ i k hi hk h; exact .one hi hk h
  | succ m ih =>
    intro hm i k hi hk h
    rw [wOut_succ hi] at h
    simp only [Bool.or_eq_true, Bool.and_eq_true] at h
    rcases h with h | ⟨h1, h2⟩
    · exact ih (by omega) i k hi hk h
    · exact (ih (by omega) i m hi (by omega) h1).trans (ih (by omega) m k (by omega) hk h2)
theorem wOut_base {n : Nat} {f : Nat → Nat → Bool} {i k : Nat} (hi : i < n) (h : f i k = true) : ∀ m, wOut n f m i k = true := by
  intro m
  induction m with
  | zero => exact h
  | succ m ih => rw [wOut_succ hi, ih, Bool.true_or]
theorem wOut_tr {n : Nat} {f : Nat → Nat → Bool} : ∀ m, m ≤ n → ∀ i j k, i < n → j < m → wOut n f m i j = true → wOut n f m j k = true → wOut n f m i k = true := by
  intro m
  induction m with
  | zero => intro _ i j k _ hj; omega
  | succ m ih =>
    intro hm i j k hi hj h1 h2
    have IH := ih (by omega)
    rw [wOut_succ hi] at h1 ⊢
    rw [wOut_succ (by omega)] at h2
    simp only [Bool.or_eq_true, Bool.and_eq_true] at h1 h2 ⊢
    by_cases e : j = m
    · subst e
      rcases h1 with h1 | ⟨h1, -⟩
      · rcases h2 with h2 | ⟨-, h2⟩
        · exact .inr ⟨h1, h2⟩
        · exact .inr ⟨h1, h2⟩
      · rcases h2 with h2 | ⟨-, h2⟩
        · exact .inr ⟨h1, h2⟩
        · exact .inr ⟨h1, h2⟩
    · have hj' : j < m := by omega
      rcases h1 with h1 | ⟨h1, h3⟩
      · rcases h2 with h2 | ⟨h2, h4⟩
        · exact .inl (IH i j k hi hj' h1 h2)
        · exact .inr ⟨IH i j m hi hj' h1 h2, h4⟩
      · rcases h2 with h2 | ⟨h2, h4⟩
        · exact .inr ⟨h1, IH m j k (by omega) hj' h3 h2⟩
        · exact .inr ⟨h1, h4⟩

theorem fClo_iff {n : Nat} {f : Nat → Nat → Bool} {i k : Nat} (hi : i < n) (hk : k < n) : fClo n f i k = true ↔ Pth n f i k :=
  ⟨wOut_sound n (Nat.le_refl _) i k hi hk, fun h => by
    induction h with
    | one hi hk h => exact wOut_base hi h n
    | more hi hj h t ih => exact wOut_tr n (Nat.le_refl _) _ _ _ hi hj (wOut_base hi h n) (ih hj hk)⟩

/-- No element is connected with itself. -/
def acyB (n : Nat) (f : Nat → Nat → Bool) : Bool := (List.range n).all fun i => !fClo n f i i
def irrB (n : Nat) (f : Nat → Nat → Bool) : Bool := (List.range n).all fun i => !f i i
def empB (n : Nat) (f : Nat → Nat → Bool) : Bool := (List.range n).all fun i => (List.range n).all fun k => !f i k
theorem acyB_iff {n : Nat} {f : Nat → Nat → Bool} : acyB n f = true ↔ ∀ i, i < n → ¬ Pth n f i i := by
  simp only [acyB, List.all_eq_true, List.mem_range, Bool.not_eq_true']
  refine ⟨fun h i hi hp => ?_, fun h i hi => ?_⟩
  · have := h i hi
    rw [(fClo_iff hi hi).2 hp] at this; cases this
  · cases hc : fClo n f i i with
    | false => rfl
    | true => exact absurd ((fClo_iff hi hi).1 hc) (h i hi)
theorem irrB_iff {n : Nat} {f : Nat → Nat → Bool} : irrB n f = true ↔ ∀ i, i < n → f i i = false := by
  simp only [irrB, List.all_eq_true, List.mem_range, Bool.not_eq_true']

end Go.Proofs.YtpbmlppdmdmfkaaGreatDoor

namespace Go.Proofs.YtpbmlppdmdmfkaaGreatDoor

/-- The value at the end of a chain, with so many links at most. -/
def chain (d : Nat → Int ⊕ Nat) : Nat → Nat → Option Int
  | 0, _ => none
  | k + 1, i => match d i with
    | .inl v => some v
    | .inr j => chain d k j

theorem chain_inl {d : Nat → Int ⊕ Nat} {i : Nat} {v : Int} (h : d i = .inl v) (k : Nat) : chain d (k + 1) i = some v := by simp [chain, h]
theorem chain_inr {d : Nat → Int ⊕ Nat} {i j : Nat} (h : d i = .inr j) (k : Nat) : chain d (k + 1) i = chain d k j := by simp [chain, h]

theorem chain_mono1 {d : Nat → Int ⊕ Nat} : ∀ {k i : Nat} {v : Int}, chain d k i = some v → chain d (k + 1) i = some v := by
  intro k
  induction k with
  | zero => intro i v h; simp [chain] at h
  | succ k ih =>
    intro i v h
    rcases hd : d i with a | j
    · rw [chain_inl hd] at h ⊢; exact h
    · rw [chain_inr hd] at h ⊢; exact ih h
theorem chain_mono {d : Nat → Int ⊕ Nat} {k k' i : Nat} {v : Int} (h : chain d k i = some v) (hk : k ≤ k') : chain d k' i = some v := by
  obtain ⟨m, rfl⟩ := Nat.exists_eq_add_of_le hk
  clear hk
  induction m with
  | zero => exact h
  | succ m ih => exact chain_mono1 ih

/-- j is so many links behind i. -/
inductive Reach (d : Nat → Int ⊕ Nat) : Nat → Nat → Nat → Prop
  | zero (i : Nat) : Reach d 0 i i
  | step {i j m k : Nat} (h : d i = .inr j) (hr : Reach d m j k) : Reach d (m + 1) i k

theorem Reach.snoc {d : Nat → Int ⊕ Nat} {m i j k : Nat} (h : Reach d m i j) (hd : d j = .inr k) : Reach d (m + 1) i k := by
  induction h with
  | zero i => exact .step hd (.zero k)
  | step h _ ih => exact .step h (ih hd)
theorem chain_reach {d : Nat → Int ⊕ Nat} {m i j : Nat} (h : Reach d m i j) (k : Nat) : chain d (k + m) i = chain d k j := by
  induction h with
  | zero i => rfl
  | step h _ ih => rw [← ih, ← Nat.add_assoc, chain_inr h]
theorem chain_none {d : Nat → Int ⊕ Nat} {m i j : Nat} (h : Reach d m i j) : ∀ k, k ≤ m → chain d k i = none := by
  induction h with
  | zero i => intro k hk; obtain rfl : k = 0 := by omega
              rfl
  | step h _ ih =>
    intro k hk
    cases k with
    | zero => rfl
    | succ k => rw [chain_inr h]; exact ih k (by omega)
/-- A chain that comes back has no end. -/
theorem chain_cyc {d : Nat → Int ⊕ Nat} {m i : Nat} (h : Reach d (m + 1) i i) : ∀ k, chain d k i = none := by
  intro k
  induction k using Nat.strongRecOn with
  | _ k ih =>
    by_cases hk : k ≤ m + 1
    · exact chain_none h k hk
    · have := chain_reach h (k - (m + 1))
      rw [show k - (m + 1) + (m + 1) = k by omega] at this
      rw [this]
      exact ih _ (by omega)

def nodesV (d : Nat → Int ⊕ Nat) : Nat → Nat → List Nat
  | 0, _ => []
  | k + 1, i => i :: match d i with
    | .inl _ => []
    | .inr j => nodesV d k j
theorem mem_nodes {d : Nat → Int ⊕ Nat} {x : Nat} : ∀ {k i : Nat}, x ∈ nodesV d k i → ∃ m, Reach d m i x := by
  intro k
  induction k with
  | zero => intro i h; simp [nodesV] at h
  | succ k ih =>
    intro i h
    rcases hd : d i with a | j
    · simp [nodesV, hd] at h; subst h; exact ⟨0, .zero _⟩
    · simp [nodesV, hd] at h
      rcases h with rfl | h
      · exact ⟨0, .zero _⟩
      · obtain ⟨m, hm⟩ := ih h; exact ⟨m + 1, .step hd hm⟩
theorem nodes_nodup {d : Nat → Int ⊕ Nat} : ∀ {k i : Nat} {v : Int}, chain d k i = some v → (nodesV d k i).Nodup := by
  intro k
  induction k with
  | zero => intro i v h; simp [chain] at h
  | succ k ih =>
    intro i v h
    rcases hd : d i with a | j
    · simp [nodesV, hd]
    · have h2 := h
      rw [chain_inr hd] at h2
      simp only [nodesV, hd, List.nodup_cons]
      refine ⟨fun hm => ?_, ih h2⟩
      obtain ⟨m, hm⟩ := mem_nodes hm
      rw [chain_cyc (.step hd hm)] at h; cases h
theorem chain_nodes {d : Nat → Int ⊕ Nat} : ∀ {k i : Nat} {v : Int}, chain d k i = some v → chain d (nodesV d k i).length i = some v := by
  intro k
  induction k with
  | zero => intro i v h; simp [chain] at h
  | succ k ih =>
    intro i v h
    rcases hd : d i with a | j
    · rw [chain_inl hd] at h
      simp only [nodesV, hd, List.length_cons]
      rw [chain_inl hd]; exact h
    · rw [chain_inr hd] at h
      simp only [nodesV, hd, List.length_cons]
      rw [chain_inr hd]; exact ih h
theorem nodes_lt {d : Nat → Int ⊕ Nat} {n : Nat} (hn : ∀ i j, i < n → d i = .inr j → j < n) : ∀ {k i : Nat}, i < n → ∀ x ∈ nodesV d k i, x < n := by
  intro k
  induction k with
  | zero => intro i _ x h; simp [nodesV] at h
  | succ k ih =>
    intro i hi x h
    rcases hd : d i with a | j
    · simp [nodesV, hd] at h; omega
    · simp [nodesV, hd] at h
      rcases h with rfl | h
      · exact hi
      · exact ih (hn i j hi hd) x h
theorem nodup_lt : ∀ (n : Nat) (xs : List Nat), xs.Nodup → (∀ x ∈ xs, x < n) → xs.length ≤ n := by
  intro n
  induction n with
  | zero => intro xs _ h; cases xs with
    | nil => simp
    | cons x xs => exact absurd (h x (by simp)) (by omega)
  | succ n ih =>
    intro xs hn h
    have h1 := ih (xs.erase n) (hn.erase n) (fun x hx => by
      have h2 := h x (List.mem_of_mem_erase hx)
      have h3 : x ≠ n := fun e => by subst e; exact hn.not_mem_erase hx
      omega)
    have h2 : xs.length ≤ (xs.erase n).length + 1 := by
      by_cases hm : n ∈ xs
      · rw [List.length_erase_of_mem hm]; omega
      · rw [List.erase_of_not_mem hm]; omega
    omega
/-- As many links as there are places are enough. -/
theorem chain_stable {d : Nat → Int ⊕ Nat} {n : Nat} (hn : ∀ i j, i < n → d i = .inr j → j < n) {k i : Nat} {v : Int} (hi : i < n) (h : chain d k i = some v) : chain d n i = some v :=
  chain_mono (chain_nodes h) (nodup_lt n _ (nodes_nodup h) (nodes_lt hn hi))
theorem chain_next {d : Nat → Int ⊕ Nat} {n : Nat} (hn : ∀ i j, i < n → d i = .inr j → j < n) {i j : Nat} (hi : i < n) (hd : d i = .inr j) : chain d n i = chain d n j := by
  have hj := hn i j hi hd
  cases h : chain d n j with
  | some v => exact chain_stable hn hi (k := n + 1) (by rw [chain_inr hd]; exact h)
  | none =>
    cases h2 : chain d n i with
    | none => rfl
    | some v =>
      have h3 := chain_mono1 h2
      rw [chain_inr hd, h] at h3; cases h3
theorem chain_end {d : Nat → Int ⊕ Nat} {n i : Nat} {v : Int} (hi : i < n) (hd : d i = .inl v) : chain d n i = some v := by
  obtain ⟨m, rfl⟩ : ∃ m, n = m + 1 := ⟨n - 1, by omega⟩
  exact chain_inl hd m

end Go.Proofs.YtpbmlppdmdmfkaaGreatDoor

namespace Go.Proofs.YtpbmlppdmdmfkaaGreatDoor

/-- The instruction of an event. -/
def insE (p : List (List Ins)) (e : Ev) : Ins := ((p[e.t.toNat]?).bind fun r => r[e.i.toNat]?).getD ⟨0, 0, 0, 0⟩
/-- Whether an event of a thread, ahead of an index, reads into a register. -/
def hitR (p : List (List Ins)) (t idx reg : Int) (e : Ev) : Bool := (e.t == t) && (decide (e.i < idx) && (e.r && ((insE p e).reg == reg)))
def lastTo (p : List (List Ins)) (es : List Ev) (t idx reg : Int) (k : Nat) : Int := (List.range k).foldl (fun (a : Int) (i : Nat) => match es[i]? with
  | some e => if hitR p t idx reg e = true then (i : Int) else a
  | none => a) (-1)
/-- The last such event, or -1. -/
def lastRd (p : List (List Ins)) (es : List Ev) (t idx reg : Int) : Int := lastTo p es t idx reg es.length
theorem lastTo_succ (p : List (List Ins)) {es : List Ev} (t idx reg : Int) {k : Nat} {e : Ev} (h : es[k]? = some e) :
    lastTo p es t idx reg (k + 1) = if hitR p t idx reg e = true then (k : Int) else lastTo p es t idx reg k := by
  unfold lastTo
  rw [List.range_succ, List.foldl_append]
  simp [h]
theorem lastTo_cases (p : List (List Ins)) (es : List Ev) (t idx reg : Int) : ∀ k, k ≤ es.length → lastTo p es t idx reg k = -1 ∨ ∃ (i : Nat) (e : Ev), lastTo p es t idx reg k = i ∧ i < k ∧ es[i]? = some e ∧ hitR p t idx reg e = true := by
  intro k
  induction k with
  | zero => intro _; exact .inl rfl
  | succ k ih =>
    intro hk
    obtain ⟨e, he⟩ := get_of_lt (xs := es) (k := k) hk
    rw [lastTo_succ p t idx reg he]
    by_cases hh : hitR p t idx reg e = true
    · rw [if_pos hh]; exact .inr ⟨k, e, rfl, by omega, he, hh⟩
    · rw [if_neg hh]
      rcases ih (by omega) with h | ⟨i, e', h1, h2, h3⟩
      · exact .inl h
      · exact .inr ⟨i, e', h1, by omega, h3⟩

/-- What the value of an event is, or from which event it comes. -/
def depV (p : List (List Ins)) (es : List Ev) (fr : List Int) (i : Nat) : Int ⊕ Nat :=
  match es[i]? with
  | none => .inl 0
  | some e => if e.t < 0 then .inl 0 else if (insE p e).op = 3 then (if lastRd p es e.t e.i (insE p e).reg < 0 then .inl 0 else .inr ((fr[(lastRd p es e.t e.i (insE p e).reg).toNat]?).getD 0).toNat) else .inl (insE p e).val

theorem insE_of {p : List (List Ins)} {e : Ev} {t i : Nat} {r : List Ins} {x : Ins} (h1 : p[t]? = some r) (h2 : r[i]? = some x) (ht : e.t = t) (hi : e.i = i) : insE p e = x := by
  unfold insE
  rw [ht, hi]; simp [h1, h2]
/-- An event of a program is a first write, or of an instruction. -/
theorem ev_cases {p : List (List Ins)} {k : Nat} {e : Ev} (h : (evAll p)[k]? = some e) : (e.t = -1) ∨ ∃ (t i : Nat) (r : List Ins), e.t = t ∧ e.i = i ∧ p[t]? = some r ∧ r[i]? = some (insE p e) ∧ e.r = isRop (insE p e).op ∧ e.w = isWop (insE p e).op ∧ e.l = (insE p e).loc := by
  rcases mem_evAll (List.mem_of_getElem? h) with h | ⟨t, i, r, x, h1, h2, h3, -⟩
  · exact .inl h
  · have e1 : insE p e = x := insE_of h1 h2 (by rw [h3]) (by rw [h3])
    exact .inr ⟨t, i, r, by rw [h3], by rw [h3], h1, by rw [e1]; exact h2, by rw [e1, h3], by rw [e1, h3], by rw [e1, h3]⟩

theorem insValid_val {x : Ins} (h : insValid x = true) : 0 ≤ x.val ∧ x.val ≤ 3 := by
  unfold insValid inB at h
  split at h
  · simp at h; omega
  · split at h
    · simp at h; omega
    · split at h
      · simp at h; omega
      · split at h
        · simp at h; omega
        · cases h

theorem dep_val {p : List (List Ins)} {fr : List Int} (hp : progValid p = true) {i : Nat} {v : Int} (h : depV p (evAll p) fr i = .inl v) : 0 ≤ v ∧ v ≤ 3 := by
  unfold depV at h
  split at h
  · simp at h; omega
  · rename_i e he
    split at h
    · simp at h; omega
    · split at h
      · split at h
        · simp at h; omega
        · simp at h
      · simp at h; subst h
        rename_i h0 _
        rcases ev_cases he with h1 | ⟨t, k, r, -, -, h1, h2, -⟩
        · omega
        · exact insValid_val (((valid_le hp).2.2.1 r (List.mem_of_getElem? h1)).2 _ (List.mem_of_getElem? h2))

/-- What a read reads from is a write. -/
theorem from_write {es : List Ev} {fr : List Int} {k : Nat} (h : fromsOk es fr es.length = true) {e : Ev} (he : es[k]? = some e) (hr : e.r = true) : ∃ (j : Nat) (e' : Ev), fr[k]? = some (j : Int) ∧ es[j]? = some e' ∧ e'.w = true ∧ e'.l = e.l ∧ j ≠ k := by
  obtain ⟨e2, f, h1, h2, h3⟩ := fromsOk_get h (List.getElem?_eq_some_iff.1 he).1
  rw [he] at h1; simp at h1; subst h1
  unfold fromOk at h3
  rw [if_pos hr] at h3
  simp at h3
  obtain ⟨i, e', h4, h5, h6, h7, h8⟩ := mem_wrL.1 h3.2
  subst h5
  exact ⟨i, e', h2, h6, h7, h8, fun e => h3.1 (by rw [e])⟩
theorem dep_inr {p : List (List Ins)} {es : List Ev} {fr : List Int} (h : fromsOk es fr es.length = true) {i j : Nat} (hd : depV p es fr i = .inr j) : ∃ e', es[j]? = some e' ∧ e'.w = true := by
  unfold depV at hd
  split at hd
  · cases hd
  · rename_i e he
    split at hd
    · cases hd
    · split at hd
      · split at hd
        · cases hd
        · rename_i h1 h2 h3
          rcases lastTo_cases p es e.t e.i (insE p e).reg es.length (Nat.le_refl _) with h4 | ⟨r, e2, h4, h5, h6, h7⟩
          · exfalso; exact h3 (by unfold lastRd; omega)
          · have h4' : lastRd p es e.t e.i (insE p e).reg = r := h4
            rw [h4'] at hd
            have hrr : e2.r = true := by unfold hitR at h7; simp at h7; exact h7.2.2.1
            obtain ⟨j2, e', h8, h9, h10, -⟩ := from_write h h6 hrr
            simp [h8] at hd
            subst hd
            exact ⟨e', h9, h10⟩
      · cases hd
theorem dep_lt {p : List (List Ins)} {es : List Ev} {fr : List Int} (h : fromsOk es fr es.length = true) (i j : Nat) (_ : i < es.length) (hd : depV p es fr i = .inr j) : j < es.length := by
  obtain ⟨e', h1, -⟩ := dep_inr h hd
  exact (List.getElem?_eq_some_iff.1 h1).1
theorem chain_val {d : Nat → Int ⊕ Nat} (hd : ∀ i v, d i = .inl v → 0 ≤ v ∧ v ≤ 3) : ∀ {k i : Nat} {v : Int}, chain d k i = some v → 0 ≤ v ∧ v ≤ 3 := by
  intro k
  induction k with
  | zero => intro i v h; simp [chain] at h
  | succ k ih =>
    intro i v h
    rcases he : d i with a | j
    · rw [chain_inl he] at h; simp at h; subst h; exact hd i _ he
    · rw [chain_inr he] at h; exact ih h

/-- The value of one event, if it is known. -/
def val1 (c : Nat → Option Int) (i : Nat) (e : Ev) : Int := if e.w = true then (c i).getD (-1) else -1
def valTo (es : List Ev) (c : Nat → Option Int) (k : Nat) : List Int := (List.range k).flatMap fun i => match es[i]? with
  | some e => [val1 c i e]
  | none => []
def okTo (es : List Ev) (c : Nat → Option Int) (k : Nat) : Bool := (List.range k).all fun i => match es[i]? with
  | some e => !e.w || (c i).isSome
  | none => true
theorem valTo_succ {es : List Ev} (c : Nat → Option Int) {k : Nat} {e : Ev} (h : es[k]? = some e) : valTo es c (k + 1) = valTo es c k ++ [val1 c k e] := by
  unfold valTo
  rw [List.range_succ, List.flatMap_append]
  simp [h]
theorem okTo_succ {es : List Ev} (c : Nat → Option Int) {k : Nat} {e : Ev} (h : es[k]? = some e) : okTo es c (k + 1) = (okTo es c k && (!e.w || (c k).isSome)) := by
  unfold okTo
  rw [List.range_succ, List.all_append]
  simp [h]
theorem okTo_no {es : List Ev} (c : Nat → Option Int) {k : Nat} {e : Ev} (h : es[k]? = some e) (hw : e.w = true) (hc : c k = none) : okTo es c es.length = false := by
  unfold okTo
  rw [List.all_eq_false]
  exact ⟨k, List.mem_range.2 (List.getElem?_eq_some_iff.1 h).1, by simp [h, hw, hc]⟩
theorem valTo_length (es : List Ev) (c : Nat → Option Int) : ∀ k, k ≤ es.length → (valTo es c k).length = k := by
  intro k
  induction k with
  | zero => intro _; rfl
  | succ k ih =>
    intro hk
    obtain ⟨e, he⟩ := get_of_lt (xs := es) (k := k) hk
    rw [valTo_succ c he, List.length_append, ih (by omega)]; rfl
theorem valTo_get {es : List Ev} (c : Nat → Option Int) {i : Nat} {e : Ev} : ∀ {k : Nat}, i < k → k ≤ es.length → es[i]? = some e → (valTo es c k)[i]? = some (val1 c i e) := by
  intro k
  induction k with
  | zero => intro h; omega
  | succ k ih =>
    intro hi hk he
    obtain ⟨e', he'⟩ := get_of_lt (xs := es) (k := k) hk
    rw [valTo_succ c he']
    by_cases e2 : i = k
    · subst e2
      rw [he] at he'; simp at he'; subst he'
      rw [List.getElem?_append_right (by rw [valTo_length es c i (by omega)]; exact Nat.le_refl _), valTo_length es c i (by omega)]; simp
    · rw [List.getElem?_append_left (by rw [valTo_length es c k (by omega)]; omega)]
      exact ih (by omega) (by omega) he

/-- The values of a candidate: the link of each event, the chain's end. -/
def cX (p : List (List Ins)) (fr : List Int) : Nat → Option Int := chain (depV p (evAll p) fr) (evAll p).length
def valsL (p : List (List Ins)) (fr : List Int) : List Int := valTo (evAll p) (cX p fr) (evAll p).length
def valsOk (p : List (List Ins)) (fr : List Int) : Bool := okTo (evAll p) (cX p fr) (evAll p).length
/-- What ValuesOf hands back. -/
def valF (p : List (List Ins)) (x : Xc) : List Int × Bool := if execOk p x = true ∧ valsOk p x.fr = true then (valsL p x.fr, true) else ([], false)

theorem valF_le (p : List (List Ins)) (x : Xc) : (valF p x).1.length ≤ 15 := by
  unfold valF
  split
  · rename_i h
    have h2 := h.1
    unfold execOk at h2
    simp only [Bool.and_eq_true] at h2
    simp only [valsL]
    rw [valTo_length _ _ _ (Nat.le_refl _)]
    exact evAll_le h2.1
  · simp

/-- What the reference knows in the midst of a round. -/
structure KInv (d : Nat → Int ⊕ Nat) (es : List Ev) (r i : Nat) (K : List Int) : Prop where
  len : K.length = es.length
  at_ : ∀ (t : Nat) (e : Ev), es[t]? = some e → ∃ v, K[t]? = some v ∧ (v = -1 ∨ (e.w = true ∧ chain d es.length t = some v)) ∧ (e.w = true → (chain d (if t < i then r + 1 else r) t).isSome = true → v ≠ -1)

theorem KInv.start (d : Nat → Int ⊕ Nat) (es : List Ev) : KInv d es 0 0 (List.replicate es.length (-1)) := by
  refine ⟨by simp, fun t e h => ⟨-1, ?_, .inl rfl, fun _ h2 => ?_⟩⟩
  · rw [List.getElem?_replicate, if_pos (List.getElem?_eq_some_iff.1 h).1]
  · simp [chain] at h2
theorem KInv.next {d : Nat → Int ⊕ Nat} {es : List Ev} {r i : Nat} {K : List Int} (h : KInv d es r i K) (hi : i = es.length) : KInv d es (r + 1) 0 K := by
  refine ⟨h.len, fun t e he => ?_⟩
  obtain ⟨v, h1, h2, h3⟩ := h.at_ t e he
  refine ⟨v, h1, h2, fun hw hs => h3 hw ?_⟩
  rw [if_pos (by rw [hi]; exact (List.getElem?_eq_some_iff.1 he).1)]
  rw [if_neg (by omega)] at hs
  exact hs
theorem KInv.skip {d : Nat → Int ⊕ Nat} {es : List Ev} {r i : Nat} {K : List Int} (h : KInv d es r i K) {e : Ev} (he : es[i]? = some e) (hw : e.w = false) : KInv d es r (i + 1) K := by
  refine ⟨h.len, fun t e2 he2 => ?_⟩
  obtain ⟨v, h1, h2, h3⟩ := h.at_ t e2 he2
  refine ⟨v, h1, h2, fun hw2 hs => ?_⟩
  by_cases ht : t = i
  · subst ht; rw [he] at he2; simp at he2; subst he2; rw [hw] at hw2; cases hw2
  · refine h3 hw2 ?_
    by_cases hlt : t < i
    · rw [if_pos hlt]; rw [if_pos (by omega)] at hs; exact hs
    · rw [if_neg hlt]; rw [if_neg (by omega)] at hs; exact hs
/-- What the reference's step writes. -/
def linkV (d : Nat → Int ⊕ Nat) (K : List Int) (i : Nat) : Int := match d i with
  | .inl v => v
  | .inr j => (K[j]?).getD (-1)
theorem KInv.step {d : Nat → Int ⊕ Nat} {es : List Ev} {r i : Nat} {K : List Int} (h : KInv d es r i K) {e : Ev} (he : es[i]? = some e) (hw : e.w = true) (hlt : ∀ i j, i < es.length → d i = .inr j → j < es.length)
    (hj : ∀ j, d i = .inr j → ∃ e', es[j]? = some e' ∧ e'.w = true) (hv : ∀ i v, d i = .inl v → 0 ≤ v ∧ v ≤ 3) : KInv d es r (i + 1) (K.set i (linkV d K i)) := by
  have hil := (List.getElem?_eq_some_iff.1 he).1
  refine ⟨by simp [h.len], fun t e2 he2 => ?_⟩
  by_cases ht : t = i
  · subst ht
    rw [he] at he2; simp at he2; subst he2
    refine ⟨linkV d K t, by rw [List.getElem?_set, if_pos rfl, if_pos (by rw [h.len]; exact hil)], ?_, fun _ hs => ?_⟩
    · unfold linkV
      rcases hd : d t with v | j
      · exact .inr ⟨hw, chain_end hil hd⟩
      · obtain ⟨e', h1, h2⟩ := hj j hd
        obtain ⟨u, h3, h4, -⟩ := h.at_ j e' h1
        simp only [h3, Option.getD_some]
        rcases h4 with h4 | ⟨-, h4⟩
        · exact .inl h4
        · exact .inr ⟨hw, by rw [chain_next hlt hil hd]; exact h4⟩
    · rw [if_pos (by omega)] at hs
      unfold linkV
      rcases hd : d t with v | j
      · have := hv t v hd; simp only; omega
      · obtain ⟨e', h1, h2⟩ := hj j hd
        obtain ⟨u, h3, -, h5⟩ := h.at_ j e' h1
        simp only [h3, Option.getD_some]
        refine h5 h2 ?_
        rw [chain_inr hd] at hs
        obtain ⟨u2, hu⟩ := Option.isSome_iff_exists.1 hs
        rw [chain_mono hu (k' := if j < t then r + 1 else r) (by split <;> omega)]; rfl
  · obtain ⟨v, h1, h2, h3⟩ := h.at_ t e2 he2
    refine ⟨v, by rw [List.getElem?_set, if_neg (fun e => ht e.symm)]; exact h1, h2, fun hw2 hs => h3 hw2 ?_⟩
    by_cases hlt2 : t < i
    · rw [if_pos hlt2]; rw [if_pos (by omega)] at hs; exact hs
    · rw [if_neg hlt2]; rw [if_neg (by omega)] at hs; exact hs
/-- After as many rounds as there are events all is known that can be. -/
theorem KInv.done {d : Nat → Int ⊕ Nat} {es : List Ev} {r : Nat} {K : List Int} (h : KInv d es r 0 K) (hr : r = es.length) : K = valTo es (chain d es.length) es.length := by
  subst hr
  apply List.ext_getElem?
  intro t
  by_cases ht : t < es.length
  · obtain ⟨e, he⟩ := get_of_lt (xs := es) (k := t) ht
    obtain ⟨v, h1, h2, h3⟩ := h.at_ t e he
    rw [valTo_get _ ht (Nat.le_refl _) he, h1]
    congr 1
    unfold val1
    rw [if_neg (by omega)] at h3
    by_cases hw : e.w = true
    · rw [if_pos hw]
      rcases h2 with rfl | ⟨-, h2⟩
      · cases hc : chain d es.length t with
        | none => rfl
        | some u => exact absurd rfl (h3 hw (by rw [hc]; rfl))
      · rw [h2]; rfl
    · rw [if_neg hw]
      rcases h2 with h2 | ⟨h2, -⟩
      · exact h2
      · exact absurd h2 hw
  · rw [List.getElem?_eq_none (by rw [h.len]; omega), List.getElem?_eq_none (by rw [valTo_length _ _ _ (Nat.le_refl _)]; omega)]

end Go.Proofs.YtpbmlppdmdmfkaaGreatDoor

namespace Go.Proofs.YtpbmlppdmdmfkaaGreatDoor

def valAt (vals : List Int) (j : Int) : Int := (vals[j.toNat]?).getD 0
def frAt (fr : List Int) (r : Int) : Int := (fr[r.toNat]?).getD 0
def regOf (fr vals : List Int) (r : Int) : Int := if r < 0 then 0 else valAt vals (frAt fr r)
def regV (p : List (List Ins)) (es : List Ev) (fr vals : List Int) (t idx g : Int) : Int := regOf fr vals (lastRd p es t idx g)
def lastO (od : List (List Int)) (l : Nat) : Int := (((od[l]?).getD []).getLast?).getD 0
def memV (od : List (List Int)) (vals : List Int) (l : Nat) : Int := valAt vals (lastO od l)
def outRow (p : List (List Ins)) (es : List Ev) (fr vals : List Int) (t n : Nat) (k : Nat) : List Int := (List.range k).map fun (g : Nat) => regV p es fr vals (t : Int) (n : Int) (g : Int)
def outTo (p : List (List Ins)) (es : List Ev) (fr vals : List Int) (j : Nat) : List Int := (List.range j).flatMap fun t => match p[t]? with
  | some r => outRow p es fr vals t r.length 3
  | none => []
def outMem (od : List (List Int)) (vals : List Int) (k : Nat) : List Int := (List.range k).map (memV od vals)
def outL (p : List (List Ins)) (es : List Ev) (x : Xc) (vals : List Int) : List Int := outTo p es x.fr vals p.length ++ outMem x.od vals 3
/-- What OutcomeOf hands back. -/
def outF (p : List (List Ins)) (x : Xc) : List Int × Bool := if execOk p x = true ∧ valsOk p x.fr = true then (outL p (evAll p) x (valsL p x.fr), true) else ([], false)

theorem outRow_succ (p : List (List Ins)) (es : List Ev) (fr vals : List Int) (t n k : Nat) : outRow p es fr vals t n (k + 1) = outRow p es fr vals t n k ++ [regV p es fr vals (t : Int) (n : Int) (k : Int)] := by
  simp [outRow, List.range_succ]
theorem outMem_succ (od : List (List Int)) (vals : List Int) (k : Nat) : outMem od vals (k + 1) = outMem od vals k ++ [memV od vals k] := by
  simp [outMem, List.range_succ]
theorem outTo_succ {p : List (List Ins)} (es : List Ev) (fr vals : List Int) {j : Nat} {r : List Ins} (h : p[j]? = some r) : outTo p es fr vals (j + 1) = outTo p es fr vals j ++ outRow p es fr vals j r.length 3 := by
  unfold outTo
  rw [List.range_succ, List.flatMap_append]
  simp [h]
theorem outRow_length (p : List (List Ins)) (es : List Ev) (fr vals : List Int) (t n k : Nat) : (outRow p es fr vals t n k).length = k := by simp [outRow]
theorem outMem_length (od : List (List Int)) (vals : List Int) (k : Nat) : (outMem od vals k).length = k := by simp [outMem]
theorem outTo_length (p : List (List Ins)) (es : List Ev) (fr vals : List Int) : ∀ j, j ≤ p.length → (outTo p es fr vals j).length = 3 * j := by
  intro j
  induction j with
  | zero => intro _; rfl
  | succ j ih =>
    intro hj
    obtain ⟨r, hr⟩ := get_of_lt (xs := p) (k := j) hj
    rw [outTo_succ es fr vals hr, List.length_append, ih (by omega), outRow_length]; omega
theorem outL_length (p : List (List Ins)) (es : List Ev) (x : Xc) (vals : List Int) : (outL p es x vals).length = 3 * p.length + 3 := by
  unfold outL
  rw [List.length_append, outTo_length p es x.fr vals p.length (Nat.le_refl _), outMem_length]

end Go.Proofs.YtpbmlppdmdmfkaaGreatDoor
