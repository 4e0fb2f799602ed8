/-
  The programs that are drawn for ProgramValid and GapsOf. Condition: bytes.
-/
import Derived.Test.YtblheabgjjeigaaZv18
import Derived.Test.YtblheabgjjeigaaZv17
import Derived.Test.YtblheabgjjeigaaZv00
import Derived.Test.YtblheabgjjeigaaZv06
import Derived.Test.YtblheabgjjeigaaZv05
import Derived.Test.YtblheabgjjeigaaZv09
import Derived.Test.YtblheabgjjeigaaZv12
namespace Go.Proofs.Ytblheabgjjeigaa
open Go.RowKit

theorem RowsG.loc {α : Type} {E : El α} {T TS T' : TypeId} (h1 : TS ≠ T') (h2 : T ≠ T') {w : World} {base : Nat} {a : Option Addr} {n c : Nat} {L : List (List α)} (h : RowsG E T TS w base (.slice a n c) L) :
    LocR T' base w.heap.size w (fun V => ∀ (k : Nat) (r : List α), L[k]? = some r → ∃ (u : Slc) (g : Nat), a = some ⟨g, 0, none⟩ ∧ g < V.heap.size ∧ V.cell? ⟨g, k, none⟩ = some (.slice u.a u.n u.cap) ∧ Rep E V u.v r) := by
  obtain ⟨us, ds, h⟩ := h
  have k1 := LocR.own h1 h.own
  have k2 : LocR T' base w.heap.size w (fun W => ∀ (i : Nat) (u : Slc) (r : List α), us[i]? = some u → L[i]? = some r → Rep E W u.v r) := by
    refine LocR.all (Nat.le_refl _) fun i => LocR.all (Nat.le_refl _) fun u => LocR.all (Nat.le_refl _) fun r => LocR.imp (Nat.le_refl _) fun hu => LocR.imp (Nat.le_refl _) fun hr => ?_
    obtain ⟨d, hd⟩ := get_of_lt (xs := ds) (k := i) (by rw [h.ld]; exact (List.getElem?_eq_some_iff.1 hr).1)
    obtain ⟨r1, r2⟩ := h.rows i u d r hu hd hr
    exact ((LocR.own h2 r2.now.1).wide r1 (Nat.le_refl _) (Nat.le_refl _)).map fun V k => k.rep
  refine (k1.and k2).map fun V ⟨ha, hb⟩ k r hr => ?_
  obtain ⟨u, hu⟩ := get_of_lt (xs := us) (k := k) (by rw [h.lu]; exact (List.getElem?_eq_some_iff.1 hr).1)
  rcases ha.shape with ⟨-, hn⟩ | ⟨g, cap, hv, -⟩
  · rw [hn] at hu; simp at hu
  · simp only [Value.slice.injEq] at hv
    obtain ⟨rfl, rfl, rfl⟩ := hv
    obtain ⟨z1, z2, -⟩ := ha.slcc hu
    exact ⟨u, g, rfl, z1, z2, hb k u r hu hr⟩

theorem RowsI.locO {w : World} {base : Nat} {s : Slc} {L : List (List Int)} (h : RowsI w base s.v L) : ∃ us : List Slc, LocR 25 base w.heap.size w (fun W => PhiO ⟨base, w.heap.size, us⟩ W s L) := by
  obtain ⟨us, ds, h⟩ := h
  have k1 := LocR.own (T := 25) (by decide) h.own
  have k2 : LocR 25 base w.heap.size w (fun W => ∀ (i : Nat) (u : Slc) (r : List Int), us[i]? = some u → L[i]? = some r → Rep IntE W u.v r) := by
    refine LocR.all (Nat.le_refl _) fun i => LocR.all (Nat.le_refl _) fun u => LocR.all (Nat.le_refl _) fun r => LocR.imp (Nat.le_refl _) fun hu => LocR.imp (Nat.le_refl _) fun hr => ?_
    obtain ⟨d, hd⟩ := get_of_lt (xs := ds) (k := i) (by rw [h.ld]; exact (List.getElem?_eq_some_iff.1 hr).1)
    obtain ⟨r1, r2⟩ := h.rows i u d r hu hd hr
    exact ((LocR.own (by decide) r2.now.1).wide r1 (Nat.le_refl _) (Nat.le_refl _)).map fun V k => k.rep
  exact ⟨us, (k1.and k2).map fun V ⟨a, b⟩ => ⟨h.lu, a.rep, b⟩⟩

theorem RowsO.app {us : List Slc} {ds : List Dd} {w w1 w2 : World} {base : Nat} {v v' : Value} {L : List (List (List Int))} (h : OwnFU SlcE 25 Rany PhiO us ds w base v L) (hb : Below w.heap.size w w1) {lo : Nat} (hlo : base ≤ lo) {o : List (List Int)} {s : Slc} {ob : Obj}
    (hu : RowsI w1 lo s.v o) (ho : Own SlcE 25 w2 base v' (us ++ [s])) (hg : (w1.alloc ob).grownBy w2 v.ownBlock) : RowsO w2 base v' (L ++ [o]) := by
  have hba := (Below.refl w1.heap.size w1).alloc (Nat.le_refl _) ob
  obtain ⟨xs, hx⟩ := hu.locO
  exact ⟨us ++ [s], ds ++ [⟨lo, w1.heap.size, xs⟩], OwnFU.app (d := ⟨lo, w1.heap.size, xs⟩) ((h.below hb).below hba) ho hg hlo (hx.below hba) (fun _ _ => trivial)⟩

/-- Lists of choices whose slices read as other choices. -/
def Reads2 (w : World) (Ps : List (List (Slc × List Int))) : Prop := ∀ c ∈ Ps, ∀ q ∈ c, Rep IntE w q.1.v q.2
theorem Reads2.below {w w' : World} {Ps : List (List (Slc × List Int))} (h : Reads2 w Ps) (hb : Below w.heap.size w w') : Reads2 w' Ps := fun c hc q hq => (h c hc q hq).below hb
theorem RowsO.pairs {w : World} {base : Nat} {v : Value} {L : List (List (List Int))} (h : RowsO w base v L) : ∃ Ps : List (List (Slc × List Int)), L = Ps.map (List.map Prod.snd) ∧ Rep2 SlcE w v (Ps.map (List.map Prod.fst)) ∧ Reads2 w Ps := by
  obtain ⟨us, ds, h⟩ := h
  have hz : ∀ (i : Nat) (d : Dd) (l : List (List Int)), ds[i]? = some d → L[i]? = some l → d.us.length = l.length := fun i d l h1 h2 => by
    obtain ⟨u, hu⟩ := get_of_lt (xs := us) (k := i) (by rw [h.lu]; exact (List.getElem?_eq_some_iff.1 h2).1)
    exact (h.rows i u d l hu h1 h2).2.now.1
  refine ⟨(ds.zip L).map fun q => q.1.us.zip q.2, ?_, ?_, ?_⟩
  · apply List.ext_getElem?
    intro i
    simp only [List.getElem?_map, List.map_map]
    cases hL : L[i]? with
    | none => rw [List.getElem?_eq_none (by simp; have := List.getElem?_eq_none_iff.1 hL; omega)]; rfl
    | some l =>
      obtain ⟨d, hd⟩ := get_of_lt (xs := ds) (k := i) (by rw [h.ld]; exact (List.getElem?_eq_some_iff.1 hL).1)
      have hzl : (ds.zip L)[i]? = some (d, l) := List.getElem?_zip_eq_some.2 ⟨hd, hL⟩
      rw [hzl]
      simp only [Option.map_some, Function.comp, Option.some.injEq]
      rw [List.map_snd_zip (by rw [hz i d l hd hL]; exact Nat.le_refl _)]
  · refine ⟨us, by simp [h.lu, h.ld], h.own.rep, fun i u r h1 h2 => ?_⟩
    simp only [List.getElem?_map, List.map_map] at h2
    cases hL : L[i]? with
    | none => rw [List.getElem?_eq_none (by simp; have := List.getElem?_eq_none_iff.1 hL; omega)] at h2; cases h2
    | some l =>
      obtain ⟨d, hd⟩ := get_of_lt (xs := ds) (k := i) (by rw [h.ld]; exact (List.getElem?_eq_some_iff.1 hL).1)
      have hzl : (ds.zip L)[i]? = some (d, l) := List.getElem?_zip_eq_some.2 ⟨hd, hL⟩
      rw [hzl] at h2
      simp only [Option.map_some, Function.comp, Option.some.injEq] at h2
      rw [List.map_fst_zip (by rw [hz i d l hd hL]; exact Nat.le_refl _)] at h2
      subst h2
      exact (h.rows i u d l h1 hd hL).2.now.2.1
  · intro c hc q hq
    obtain ⟨⟨d, l⟩, hm, rfl⟩ := List.mem_map.1 hc
    obtain ⟨i, hi⟩ := List.mem_iff_getElem?.1 hm
    obtain ⟨hd, hL⟩ := List.getElem?_zip_eq_some.1 hi
    obtain ⟨j, hj⟩ := List.mem_iff_getElem?.1 hq
    obtain ⟨e1, e2⟩ := List.getElem?_zip_eq_some.1 hj
    obtain ⟨u, hu⟩ := get_of_lt (xs := us) (k := i) (by rw [h.lu]; exact (List.getElem?_eq_some_iff.1 hL).1)
    exact (h.rows i u d l hu hd hL).2.now.2.2 j q.1 q.2 e1 e2

theorem prodR_read {w : World} {Ps : List (List (Slc × List Int))} (h : Reads2 w Ps) {j : Nat} {o : List (List Int)} (ho : (prodR (Ps.map (List.map Prod.snd)))[j]? = some o) :
    ∃ r : List Slc, (prodR (Ps.map (List.map Prod.fst)))[j]? = some r ∧ r.length = o.length ∧ ∀ (i : Nat) (s : Slc) (x : List Int), r[i]? = some s → o[i]? = some x → Rep IntE w s.v x := by
  rw [prodR_map, List.getElem?_map] at ho
  cases hq : (prodR Ps)[j]? with
  | none => rw [hq] at ho; cases ho
  | some q =>
    rw [hq] at ho
    simp only [Option.map_some, Option.some.injEq] at ho
    subst ho
    refine ⟨q.map Prod.fst, by rw [prodR_map, List.getElem?_map, hq]; rfl, by simp, fun i s x h1 h2 => ?_⟩
    rw [List.getElem?_map] at h1 h2
    cases hp : q[i]? with
    | none => rw [hp] at h1; cases h1
    | some y =>
      rw [hp] at h1 h2
      simp only [Option.map_some, Option.some.injEq] at h1 h2
      subst h1; subst h2
      obtain ⟨c, hc, hy⟩ := prodR_mem Ps q (List.mem_of_getElem? hq) y (List.mem_of_getElem? hp)
      exact h c hc y hy

theorem chsF_get {es : List Ev} {k : Nat} {e : Ev} (h : es[k]? = some e) : (chsF es)[k]? = some (if e.r = true then (wrL es e.l).filter (fun x => !(x == (k : Int))) else [-1]) := by
  obtain ⟨hk, rfl⟩ := List.getElem?_eq_some_iff.1 h
  simp [chsF, hk, chF]
theorem chsF_length (es : List Ev) : (chsF es).length = es.length := by simp [chsF]
theorem chsF_row {es : List Ev} {c : List Int} (h : c ∈ chsF es) : c.length ≤ es.length + 1 := by
  obtain ⟨i, hi, rfl⟩ := List.mem_map.1 h
  unfold chF
  split
  · split
    · have h1 := List.length_filter_le (fun x => !(x == (i : Int))) (wrL es ‹Ev›.l)
      have := wrL_length es ‹Ev›.l
      omega
    · simp
  · simp
theorem chsO_get (es : List Ev) {k : Nat} (h : k < 3) : (chsO es)[k]? = some (chO es k) := by simp [chsO, h]
theorem chsO_length (es : List Ev) : (chsO es).length = 3 := by simp [chsO]

end Go.Proofs.Ytblheabgjjeigaa

namespace Go.Proofs.Ytblheabgjjeigaa
open Go.RowKit

theorem below_of_rowK {B g : Nat} {w w' : World} (h : w.grownBy w' (some g)) (hg : B ≤ g) (hs : B ≤ w.heap.size) : Below B w w' := ⟨h.os, h.tape, h.output, h.size, fun k hk => h.block k (by omega) (by simp; omega)⟩
theorem DelPost.toSlc {w w' : World} {base : Nat} {T : TypeId} {v : Value} {ys : List Int} {e : Ending} (h : DelPost IntE T w base v ys e w') : ∃ u : Slc, e = .returned (.slice u.a u.n u.cap) ∧ Own IntE T w' base u.v ys ∧ w.grownBy w' v.ownBlock := by
  obtain ⟨v', rfl, h1, h2, -⟩ := h
  obtain ⟨u, rfl, -⟩ := h1.toSlc
  exact ⟨u, rfl, h1, h2⟩

/-- What a function value that tests a number does, wherever it is called as long as what lay in w0 is as it was. -/
def TestsN (a1 : Addr) (f : Int → Bool) (w0 : World) : Prop := ∀ (x : Int) (w : World), Below w0.heap.size w0 w → Calls Try.prog 66 #[.int .i64 x, .pointer (some a1)] w fun e w' => e = .returned (.bool (f x)) ∧ Below w.heap.size w w'
theorem testsN (b i : Nat) (w0 : World) (h : w0.cell? ⟨b, 0, none⟩ = some (.int .i64 i)) : TestsN ⟨b, 0, none⟩ (fun k => k == (i : Int)) w0 := by
  intro x w hb
  have f0 := (hb.cell (p := ⟨b, 0, none⟩) (lt_of_cell h)).trans h
  clear h
  go_enter Try.func66, Try.ntmps66
  go_wp2
  go_ret
  exact ⟨rfl, Below.refl _ _⟩

set_option maxHeartbeats 400000 in
theorem IndexFunc_ae (a1 : Addr) (v : Value) (xs : List Int) (f : Int → Bool) (w0 w : World) (hx : Rep IntE w v xs) (hf : TestsN a1 f w0) (hw : Below w0.heap.size w0 w) :
    Calls Try.prog 62 #[v, .func (.func 66) #[] #[.pointer (some a1)]] w fun e w' => (∃ q : Int, e = .returned (.int .i64 q) ∧ IdxOfS f xs q) ∧ Below w.heap.size w w' := by
  obtain ⟨a, c, rfl, hc1, hc2, hc3, hx⟩ := hx.open
  have HX := hide hx; clear hx
  have HF := hide hf; clear hf
  generalize hn : xs.length = n at *
  have H := hide hn; clear hn
  go_enter Try.func62, Try.ntmps62
  go_wp2_with fail
  go_loopw [8] (fun i wr => ∃ t : Nat, t ≤ n ∧ i = .int .i64 t ∧ Hid (∀ x ∈ xs.take t, f x = false) ∧ Below w.heap.size w wr) (fun i _ => n - (intOf i).toNat)
  case atStart => exact ⟨0, Nat.zero_le _, rfl, hide (by simp), Below.refl _ _⟩
  case round =>
    obtain ⟨t, ht, rfl, hno, hb⟩ := hrel
    by_cases hlt : t < n
    · obtain ⟨x, hxk⟩ := get_of_lt (xs := xs) (k := t) (by rw [H.out]; exact hlt)
      obtain ⟨b, o, rfl, hbl, i0⟩ := (HX.out.below hb).int hxk
      have hlt' := nat_of_lt hlt
      have X := hide hxk; clear hxk
      generalize hfx : f x = fx
      have FX := hide hfx; clear hfx
      have hcall := HF.out x _ (hw.trans (hb.mono hw.size))
      rw [FX.out] at hcall
      have HC := hide hcall; clear hcall
      cases fx
      · have NO : Hid (∀ x ∈ xs.take (t + 1), f x = false) := hide (none_succS hno.out X.out FX.out)
        go_wp2_with fail
        (with_reducible refine HC.out.mono ?_); rintro e w2 ⟨rfl, hb2⟩
        go_wp2_with fail
        go_roundw
        case rel => exact ⟨t + 1, by omega, by go_num, NO, hb.trans (hb2.mono hb.size)⟩
        case measure => simp [intOf]; omega
      · go_wp2_with fail
        (with_reducible refine HC.out.mono ?_); rintro e w2 ⟨rfl, hb2⟩
        go_wp2_with fail
        go_ret
        exact ⟨⟨_, rfl, .inr ⟨t, x, rfl, X.out, FX.out, hno.out⟩⟩, hb.trans (hb2.mono hb.size)⟩
    · go_wp2_with fail
      go_ret
      refine ⟨⟨_, rfl, .inl ⟨rfl, ?_⟩⟩, hb⟩
      have h := hno.out
      rwa [List.take_of_length_le (by rw [H.out]; omega)] at h

set_option maxRecDepth 100000 in
set_option maxHeartbeats 800000 in
theorem DeleteFunc_ae (a1 : Addr) (v : Value) (xs : List Int) (f : Int → Bool) (w0 w : World) (base : Nat) (hx : Own IntE 3 w base v xs) (hl : xs.length ≤ 1048576) (hf : TestsN a1 f w0) (hw : Below w0.heap.size w0 w) (hbase : w0.heap.size ≤ base) :
    Calls Try.prog 65 #[v, .func (.func 66) #[] #[.pointer (some a1)]] w fun e w' => DelPost IntE 3 w base v (xs.filter fun x => !f x) e w' := by
  have DP : Hid (∀ v' w', Own IntE 3 w' base v' (xs.filter fun x => !f x) → w.grownBy w' v.ownBlock → v'.ownBlock = v.ownBlock → DelPost IntE 3 w base v (xs.filter fun x => !f x) (.returned v') w') := hide (fun v' w' h1 h2 h3 => ⟨v', rfl, h1, h2, h3⟩)
  have HF := hide hf; clear hf
  have HX := hide hx; clear hx
  have HI := hide (fun h => IndexFunc_ae a1 v xs f w0 w h HF.out hw)
  generalize hG : (xs.filter fun x => !f x) = G at *
  have HG := hide hG; clear hG
  go_enter Try.func65, Try.ntmps65
  go_wp2_with fail
  (with_reducible refine (HI.out HX.out.rep).mono ?_); rintro e w1 ⟨⟨q, rfl, hq⟩, hb1⟩
  have HX1 := hide (HX.out.below hb1)
  have hg1 := grown_of_below hb1 v.ownBlock
  rcases hq with ⟨rfl, hno⟩ | ⟨t, x0, rfl, ht, hft, hno⟩
  · have e1 : G = xs := by rw [← HG.out]; exact filter_all (fun x h => by rw [hno x h]; rfl)
    have HE := hide e1; clear e1 hno
    go_wp2_with fail
    go_ret
    exact DP.out _ _ (by rw [HE.out]; exact HX1.out) hg1 rfl
  · rcases HX.out.shape with ⟨-, rfl⟩ | ⟨g, c, rfl, hg, hgl, hc1, hc2⟩
    · simp at ht
    · have htl := (List.getElem?_eq_some_iff.1 ht).1
      have hstart := del_start ht hft hno
      have ST := hide hstart; clear hstart ht hft hno
      generalize hn : xs.length = n at *
      have H := hide hn; clear hn
      have htl' := nat_of_lt htl
      have hm1 : ((t : Int) == -1) = false := by rw [beq_eq_false_iff_ne]; omega
      go_wp2_with fail
      go_loopw [5, 6] (fun si sj wr => ∃ (i j : Nat) (L : List Int), i < j ∧ j ≤ n ∧ si = .int .i64 i ∧ sj = .int .i64 j ∧ Own IntE 3 wr base (.slice (some ⟨g, 0, none⟩) n c) L ∧ Hid (DelInv f xs L i j) ∧ w.grownBy wr (some g)) (fun _ sj _ => n - (intOf sj).toNat)
      case atStart => exact ⟨t, t + 1, xs, by omega, by omega, rfl, rfl, HX1.out, hide ST.out, hg1⟩
      case round =>
        obtain ⟨i, j, L, hij, hj, rfl, rfl, ho, hI, hgr⟩ := hrel
        have hLl : L.length = n := ho.len.symm
        have HLL := hide hLl; clear hLl
        have hbr := hw.trans (below_of_rowK hgr (by omega) hw.size)
        by_cases hlt : j < n
        · obtain ⟨x, hxk⟩ := get_of_lt (xs := xs) (k := j) (by rw [H.out]; exact hlt)
          have hLj := hI.out.get hxk
          obtain ⟨y, hyi⟩ := get_of_lt (xs := L) (k := i) (by rw [HLL.out]; omega)
          obtain ⟨-, m0, -⟩ := ho.int hyi
          obtain ⟨hgl2, j0, hfr⟩ := ho.int hLj
          have hset := ho.setInt hyi x
          have hlt' := nat_of_lt hlt
          have hij' := nat_of_lt hij
          have X := hide hxk; have SET := hide hset; have YI := hide hyi; have LJ := hide hLj
          clear hxk hset hyi hLj
          have hcall := HF.out x _ hbr
          generalize hfx : f x = fx at *
          have FX := hide hfx; have HC := hide hcall
          clear hfx hcall
          cases fx
          · have KEEP := hide (hI.out.keep hij X.out FX.out)
            go_wp2_with fail
            (with_reducible refine HC.out.mono ?_); rintro e w2 ⟨rfl, hb2⟩
            obtain ⟨hc2, hf2⟩ := bcell hb2
            have hsz2 : wr.heap.size ≤ w2.heap.size := hb2.size
            have hset2 := ho.below hb2
            have hset3 := hset2.setInt YI.out x
            have S3 := hide hset3; clear hset2 hset3
            have hgr2 := grown_trans hgr (grown_of_below hb2 (some g))
            go_wp2_with fail
            go_roundw
            case rel => exact ⟨i + 1, j + 1, L.set i x, by omega, by omega, by go_num, by go_num, S3.out, hide KEEP.out, grown_set hgr2 _ _⟩
            case measure => simp [intOf]; omega
          · have SKIP := hide (hI.out.skip X.out FX.out)
            go_wp2_with fail
            (with_reducible refine HC.out.mono ?_); rintro e w2 ⟨rfl, hb2⟩
            have hset2 := ho.below hb2
            have hgr2 := grown_trans hgr (grown_of_below hb2 (some g))
            go_wp2_with fail
            go_roundw
            case rel => exact ⟨i, j + 1, L, by omega, by omega, rfl, by go_num, hset2, hide SKIP.out, hgr2⟩
            case measure => simp [intOf]; omega
        · have e : j = n := by omega
          subst e
          have hin := hij
          have hin' := nat_of_lt hij
          have hic : i ≤ c := by omega
          have DONE := hide (hI.out.done (by rw [H.out]; exact Nat.le_refl _))
          go_wp2_with (refine wpList_clear IntE 3 0 Try.infoInt rfl Try.underlying24 base g _ c i _ L ho hin rfl _ rfl (by rw [show i * IntE.sz = i from Nat.mul_one i]; rfl) ?_; intro w3 ho3 hgr3)
          go_ret
          have hcut := ho3.cut (i := i) (by omega)
          have hLi : (L.take i).length = i := by rw [List.length_take, HLL.out]; omega
          rw [List.take_append_of_le_length (by omega), List.take_take, Nat.min_self, DONE.out, HG.out] at hcut
          exact DP.out _ _ hcut (grown_trans hgr hgr3) rfl

end Go.Proofs.Ytblheabgjjeigaa

namespace Go.Proofs.Ytblheabgjjeigaa
open Go.RowKit

theorem permsL_inner {xs : List Int} {r : List Int} (h : r ∈ permsL xs) : r.length = xs.length := permsL_mem _ xs rfl r h

set_option maxRecDepth 100000 in
set_option maxHeartbeats 6400000 in
theorem allExecs_any (v : Value) (p : List (List Ins)) (w : World) (hp : RepP w v p) (hl : p.flatten.length ≤ 1048576) (hpv : progValid p = true) :
    Calls Try.prog 33 #[v] w fun e w' => ∃ u : Slc, e = .returned (.slice u.a u.n u.cap) ∧ RowsX w' w.heap.size u.v (allX (evAll p)) ∧ Below w.heap.size w w' := by
  have hfew := few hpv
  have hen := evAll_le hpv
  have hfc := fewC hpv (fromsL_ne hpv (evAll p).length 0 (by omega)) (ordsL_ne (evAll p) 3 0 rfl)
  have HE := hide (fun w' h => events_any v p w' h hl)
  have HWR := hide (fun ve l w' h => writersOf_any ve (evAll p) l w' h (by omega))
  have HOR := hide (fun v' (l : Nat) (hl3 : l < 3) w' h => orders_any (wrL (evAll p) l).tail.length v' (wrL (evAll p) l).tail w' rfl (hfew.perms l hl3) h)
  have HWP := hide (fun (l : Nat) hl3 => wrL_pos (p := p) (l := l) hl3)
  have HPN := hide (fun v' w' h => productN_any v' (chsF (evAll p)) w' h (by rw [chsF_length]; omega) (fun c hc => by have := chsF_row hc; omega) hfc.fr)
  have HPO : Hid (∀ (Ps : List (List (Slc × List Int))) v' w', chsO (evAll p) = Ps.map (List.map Prod.snd) → Rep2 SlcE w' v' (Ps.map (List.map Prod.fst)) → Calls Try.prog 69 #[v'] w' fun e w'' => ∃ u : Slc, e = .returned (.slice u.a u.n u.cap) ∧ RowsG SlcE 24 25 w'' w'.heap.size u.v (prodR (Ps.map (List.map Prod.fst))) ∧ Below w'.heap.size w' w'') := hide (fun Ps v' w' e h => by
    have hcl : ∀ c ∈ Ps, c.length ≤ 3000 := fun c hc => by
      have h1 : c.map Prod.snd ∈ chsO (evAll p) := by rw [e]; exact List.mem_map.2 ⟨c, hc, rfl⟩
      obtain ⟨l, hl3, h2⟩ := List.mem_map.1 h1
      have h3 : c.length = (chO (evAll p) l).length := by rw [h2, List.length_map]
      rw [h3]
      unfold chO
      rw [List.length_map]
      exact Nat.le_trans (permsL_length _) (hfew.perms l (List.mem_range.1 hl3))
    have hlen : Ps.length = 3 := by have := congrArg List.length e; rw [chsO_length, List.length_map] at this; exact this.symm
    refine productS_any v' _ w' h (by rw [List.length_map, hlen]; decide) (fun c hc => ?_) (fun k => ?_)
    · obtain ⟨c', hc', rfl⟩ := List.mem_map.1 hc
      rw [List.length_map]; have := hcl c' hc'; omega
    · have h1 := hfc.od k
      rw [e, ← List.map_take, prodR_map, List.length_map] at h1
      rw [← List.map_take, prodR_map, List.length_map]; exact h1)
  have HA : Hid (allX (evAll p) = (prodR (chsF (evAll p))).flatMap fun f => (prodR (chsO (evAll p))).map (⟨f, ·⟩)) := hide (allX_eq p)
  have HAL : Hid (∀ k, (((prodR (chsF (evAll p))).take k).flatMap fun f => (prodR (chsO (evAll p))).map (Xc.mk f ·)).length ≤ 3000) := hide (fun k => by
    have h1 := flatMap_take_le (fun f => (prodR (chsO (evAll p))).map (Xc.mk f ·)) (prodR (chsF (evAll p))) k
    have h2 := allX_le hpv
    rw [allX_eq] at h2
    omega)
  have HFL := hide (show (prodR (chsF (evAll p))).length ≤ 3000 by have := hfc.fr (chsF (evAll p)).length; rwa [List.take_length] at this)
  have HOL := hide (show (prodR (chsO (evAll p))).length ≤ 3000 by have := hfc.od (chsO (evAll p)).length; rwa [List.take_length] at this)
  have HFW := hide (fun r (hr : r ∈ prodR (chsF (evAll p))) => show r.length ≤ 1048576 by rw [prodR_row _ r hr, chsF_length]; omega)
  have HOW := hide (fun o (ho : o ∈ prodR (chsO (evAll p))) => show o.length ≤ 1048576 ∧ ∀ r ∈ o, r.length ≤ 1048576 by
    refine ⟨by rw [prodR_row _ o ho, chsO_length]; decide, fun r hr => ?_⟩
    obtain ⟨c, hc, hr⟩ := prodR_mem _ o ho r hr
    obtain ⟨l, -, rfl⟩ := List.mem_map.1 hc
    obtain ⟨q, hq, rfl⟩ := List.mem_map.1 hr
    have h1 := permsL_inner hq
    have h2 := wrL_length (evAll p) l
    simp at h1 ⊢; omega)
  have HGF := hide (fun k e (he : (evAll p)[k]? = some e) => (List.take_add_one (l := chsF (evAll p)) (i := k)).trans (by rw [chsF_get he]))
  have HGO := hide (fun k (hk : k < 3) => (List.take_add_one (l := chsO (evAll p)) (i := k)).trans (by rw [chsO_get (evAll p) hk]))
  have HFT : Hid ((chsF (evAll p)).take (evAll p).length = chsF (evAll p)) := hide (by rw [← chsF_length, List.take_length])
  have HOT : Hid ((chsO (evAll p)).take 3 = chsO (evAll p)) := hide (by rw [← chsO_length (evAll p), List.take_length])
  have HCO : Hid (∀ l : Nat, chO (evAll p) l = (permsL (wrL (evAll p) l).tail).map ((l : Int) :: ·)) := hide (fun l => rfl)
  have HPL := hide (fun (l : Nat) (hl3 : l < 3) => Nat.le_trans (permsL_length (wrL (evAll p) l).tail) (hfew.perms l hl3))
  have HWL := hide (wrL_length (evAll p))
  have HP := hide hp
  obtain ⟨pa, pc, rfl, -, hpn, -, -⟩ := hp.open
  clear hp hfew hpv hfc
  generalize allX (evAll p) = R at *
  generalize hes : evAll p = es at *
  have HEN : Hid (es.length ≤ 15) := hide hen
  clear hes hen
  generalize hpn' : p.length = pn at *
  clear hpn'
  go_enter Try.func33, Try.ntmps33
  go_wp2_with fail
  (with_reducible refine (HE.out _ HP.out).mono ?_); rintro e w2 ⟨ve, rfl, oe, hb2⟩
  have HRE := hide oe.rep
  obtain ⟨ea, ec, rfl, -, -, -, -⟩ := oe.rep.open
  have HB2 := hide hb2
  clear oe hb2 HE
  generalize hen : es.length = en at *
  have hen15 : en ≤ 15 := HEN.out
  have HN := hide hen
  clear hen
  go_wp2_with fail
  go_loopw [4, 22] (fun s i wr => ∃ k : Nat, k ≤ en ∧ i = .int .i64 k ∧ RowsI wr w2.heap.size s ((chsF es).take k) ∧ Below w2.heap.size w2 wr) (fun _ i _ => en - (intOf i).toNat)
  case atStart => exact ⟨0, Nat.zero_le _, rfl, by rw [List.take_zero]; exact OwnF.nil _ w2 _, Below.refl _ _⟩
  case round =>
    obtain ⟨k, hk, rfl, hrows, hbr⟩ := hrel
    by_cases hlt : k < en
    · obtain ⟨e, hek⟩ := get_of_lt (xs := es) (k := k) (by rw [HN.out]; exact hlt)
      obtain ⟨b, o, rfl, hbl, i0, i1, i2, i3, i4⟩ := (HRE.out.below hbr).ev hek
      have hlt' := nat_of_lt hlt
      have GS := hide (HGF.out k e hek)
      have hlen : ((chsF es).take k).length ≤ 68719476736 := by have := HEN.out; have := HN.out; rw [List.length_take]; omega
      obtain ⟨us, ds, hU⟩ := hrows
      have HUL : Hid (us.length ≤ 68719476736) := hide (by rw [hU.lu]; exact hlen)
      have HU := hide hU
      have HBR := hide hbr
      have hbs := hbr.size
      clear hek hU hbr hlen
      obtain ⟨et, ei, el, er, ew⟩ := e
      simp only at i0 i1 i2 i3 i4
      generalize (chsF es).take k = G at *
      cases er
      · have GS2 : Hid ((chsF es).take (k + 1) = G ++ [[-1]]) := hide (by rw [GS.out]; rfl)
        have B6 : Hid (Below wr.heap.size wr (((wr.alloc (.cells #[.int .i64 k] 3)).alloc (.cells #[.int .i64 et, .int .i64 ei, .int .i64 el, .bool false, .bool ew] 36)).alloc (.cells #[.int .i64 (-1)] 3))) :=
          hide ((((Below.refl wr.heap.size wr).alloc (Nat.le_refl _) _).alloc (by simp) _).alloc (by simp; omega) _)
        have O6 : Hid (Own IntE 3 (((wr.alloc (.cells #[.int .i64 k] 3)).alloc (.cells #[.int .i64 et, .int .i64 ei, .int .i64 el, .bool false, .bool ew] 36)).alloc (.cells #[.int .i64 (-1)] 3)) wr.heap.size (Slc.v ⟨some ⟨wr.heap.size + 1 + 1, 0, none⟩, 1, 1⟩) [-1]) := hide (by
          have h := Own.lit1 (E := IntE) (T := 3) ((wr.alloc (.cells #[.int .i64 k] 3)).alloc (.cells #[.int .i64 et, .int .i64 ei, .int .i64 el, .bool false, .bool ew] 36)) (base := wr.heap.size) (by simp; omega) (-1)
          simpa [Slc.v, IntE] using h)
        go_wp2_with (at_builtin; refine wpList_appL SlcE 24 Try.infoIntS rfl Try.underlying25 w2.heap.size _ us ⟨some ⟨wr.heap.size + 1 + 1, 0, none⟩, 1, 1⟩ ((HU.out.own.below B6.out).alloc _) (by decide) HUL.out (by simp; omega) rfl _ _ rfl rfl _ 0 1 rfl (news_allocV (by simp)) ?_; rintro ⟨ua, un, uc⟩ w9 hown8 hgr8 hv8)
        have R8 := RowsI.app HU.out B6.out hbs rfl O6.out hown8 hgr8
        have B8 := (HBR.out.trans (B6.out.mono hbs)).alloc (by simp; omega) (.cells #[.slice (some ⟨wr.heap.size + 1 + 1, 0, none⟩) 1 1] 24)
        have B9 := B8.grown hgr8 (by simp; omega) (fun q hq => (World.ownsRow.lt HU.out.own q hq).1)
        have HR8 := hide R8; have HB9 := hide B9
        clear R8 B9 B8
        go_roundw
        case rel => exact ⟨k + 1, by omega, by go_num, by rw [GS2.out]; exact HR8.out, HB9.out⟩
        case measure => simp [intOf]; omega
      · have GS2 : Hid ((chsF es).take (k + 1) = G ++ [(wrL es el).filter (fun x => !(x == (k : Int)))]) := hide (by rw [GS.out]; rfl)
        have B5 : Hid (Below wr.heap.size wr ((((wr.alloc (.cells #[.int .i64 k] 3)).alloc (.cells #[.int .i64 et, .int .i64 ei, .int .i64 el, .bool true, .bool ew] 36)).alloc (.cells #[.int .i64 (-1)] 3)))) :=
          hide ((((Below.refl wr.heap.size wr).alloc (Nat.le_refl _) _).alloc (by simp) _).alloc (by simp; omega) _)
        have HW5 := hide (HWR.out _ el _ (HRE.out.below (HBR.out.trans (B5.out.mono hbs))))
        have C5 : Hid (World.cell? ((((wr.alloc (.cells #[.int .i64 k] 3)).alloc (.cells #[.int .i64 et, .int .i64 ei, .int .i64 el, .bool true, .bool ew] 36)).alloc (.cells #[.int .i64 (-1)] 3))) ⟨wr.heap.size, 0, none⟩ = some (.int .i64 k)) := hide (by
          have h := heap_alloc_new wr (.cells #[.int .i64 k] 3)
          refine cell_of_heapV (cur := #[.int .i64 k]) (t := 3) (k := 0) ?_ rfl
          rw [heap_alloc_old _ _ (by simp; omega), heap_alloc_old _ _ (by simp)]; exact h)
        go_wp2_with fail
        (with_reducible refine HW5.out.mono ?_); rintro e w5 ⟨v5, rfl, o5, hb5⟩
        have T5 := testsN wr.heap.size k _ C5.out
        have hl5 : ((wrL es el).length) ≤ 15 := by have := HWL.out el; have := HN.out; omega
        have HD := hide (DeleteFunc_ae ⟨wr.heap.size, 0, none⟩ v5 (wrL es el) (fun x => x == (k : Int)) _ w5 _ o5 (by omega) T5 hb5 (Nat.le_refl _))
        have hb5' := B5.out.trans (hb5.mono B5.out.size)
        have hq5 : ∀ q, v5.ownBlock = some q → wr.heap.size ≤ q := fun q hq => Nat.le_trans B5.out.size (World.ownsRow.lt o5 q hq).1
        have HB5' := hide hb5'; have HQ5 := hide hq5; have HZ5 := hide B5.out.size
        have hs5 := hb5'.size
        obtain ⟨⟨va, vn, vc⟩, rfl, -⟩ := o5.toSlc
        clear hb5 T5 C5 HW5 o5 hb5' hq5
        generalize (wrL es el).filter (fun x => !(x == (k : Int))) = FL at *
        go_wp2_with fail
        (with_reducible refine HD.out.mono ?_); rintro e w6 hdp
        obtain ⟨⟨da, dn, dc⟩, rfl, o6, hg6⟩ := hdp.toSlc
        have B6 := hide (HB5'.out.grown hg6 hs5 (fun q hq => HQ5.out q hq))
        have O6 := hide (o6.mono HZ5.out)
        have hs6 := B6.out.size
        clear o6 hg6 hdp HD B5 HB5' HQ5 HZ5
        go_wp2_with (at_builtin; refine wpList_appL SlcE 24 Try.infoIntS rfl Try.underlying25 w2.heap.size _ us ⟨da, dn, dc⟩ ((HU.out.own.below B6.out).alloc _) (by decide) HUL.out (by simp; omega) rfl _ _ rfl rfl _ 0 1 rfl (news_allocV (by simp)) ?_; rintro ⟨ua, un, uc⟩ w9 hown8 hgr8 hv8)
        have R8 := RowsI.app HU.out B6.out hbs rfl O6.out hown8 hgr8
        have B8 := (HBR.out.trans (B6.out.mono hbs)).alloc (by omega) (.cells #[.slice da dn dc] 24)
        have B9 := B8.grown hgr8 (by simp; omega) (fun q hq => (World.ownsRow.lt HU.out.own q hq).1)
        have HR8 := hide R8; have HB9 := hide B9
        clear R8 B9 B8
        go_roundw
        case rel => exact ⟨k + 1, by omega, by go_num, by rw [GS2.out]; exact HR8.out, HB9.out⟩
        case measure => simp [intOf]; omega
    · obtain rfl : k = en := by omega
      rw [HFT.out] at hrows
      obtain ⟨us, ds, hU⟩ := hrows
      have hfr := RowsI.loc (T := 27) ⟨us, ds, hU⟩ (by decide) (by decide)
      obtain ⟨⟨fa, fn, fc⟩, rfl, -⟩ := hU.own.toSlc
      have HFR := hide hfr.now
      have HBW := hide (HB2.out.trans (hbr.mono HB2.out.size))
      have HRW := hide (HRE.out.below hbr)
      have HWW : Hid (w.heap.size ≤ wr.heap.size) := hide HBW.out.size
      clear hU hfr hbr HB2 HRE HGF HFT
      obtain ⟨w8, hw8⟩ : ∃ w8 : World, w8 = wr := ⟨_, rfl⟩
      subst hw8
      go_wp2_with fail
      go_loopw [8, 41] (fun s i W => ∃ l : Nat, l ≤ 3 ∧ i = .int .i64 l ∧ RowsO W w8.heap.size s ((chsO es).take l) ∧ Below w8.heap.size w8 W) (fun _ i _ => 3 - (intOf i).toNat)
      case atStart => exact ⟨0, by omega, rfl, by rw [List.take_zero]; exact OwnF.nil _ w8 _, Below.refl _ _⟩
      case round =>
        obtain ⟨l, hl3, rfl, hrows, hbr⟩ := hrel
        by_cases hlt : l < 3
        · have hlt' := nat_of_lt hlt
          have GS := hide (HGO.out l hlt)
          have HW5 := hide (HWR.out _ (l : Int) _ (HRW.out.below hbr))
          have HO5 := hide (fun v' w' h => HOR.out v' l hlt w' h)
          have HWP5 := hide (HWP.out l hlt)
          have HPL5 := hide (HPL.out l hlt)
          have HC5 := hide (HCO.out l)
          have hl15 : (wrL es l).length ≤ 15 := by have := HWL.out l; have := HN.out; omega
          obtain ⟨us, ds, hU⟩ := hrows
          have hUL : us.length ≤ 3 := by rw [hU.lu, List.length_take]; omega
          have HU := hide hU
          have HBR := hide hbr
          have hbs := hbr.size
          clear hU hbr
          generalize (chsO es).take l = G at *
          generalize hwr : wrL es l = WR at *
          clear hwr
          go_upto_region 16 with fail
          go_cut [48, 49, 50] (fun s48 s49 s50 W => ∃ u : Slc, s48 = .slice u.a u.n u.cap ∧ s49 = .int .i64 u.n ∧ s50 = .int .i64 0 ∧ (∃ B, RowsI W B u.v (permsL WR.tail) ∧ wr.heap.size ≤ B) ∧ Below wr.heap.size wr W)
          case first =>
            go_wp2_with fail
            (with_reducible refine HW5.out.mono ?_); rintro e w3 ⟨vw, rfl, ow, hb3⟩
            rcases ow.shape with ⟨rfl, h0⟩ | ⟨gw, wcap, rfl, hgw1, hgw2, hgw3, -⟩
            · exfalso
              have := HWP5.out
              rw [h0] at this; simp at this
            have hwt : WR.tail = WR.drop 1 := by cases WR <;> rfl
            have T1 := hide (ow.rep.dropV (k := 1) HWP5.out)
            rw [← hwt] at T1
            have hw0 := HWP5.out
            obtain ⟨wn, hwn⟩ : ∃ wn, WR.length = wn := ⟨_, rfl⟩
            rw [hwn] at T1 hgw3 hl15 hw0 ⊢
            have h1w : (1 : Int) ≤ (wn : Int) := by omega
            have hwcap : (wn : Int) ≤ (wcap : Int) := by omega
            have HB3 := hide hb3
            have hs3 := hb3.size
            clear ow hb3 hwt hwn HW5
            by_cases hck : wcap = 1
            · rw [if_pos hck] at T1
              obtain rfl : wn = 1 := by omega
              subst hck
              have HC := hide (HO5.out _ w3 T1.out)
              go_wp2_with fail
              (with_reducible refine HC.out.mono ?_); rintro e w4 ⟨u, rfl, ou, hb4⟩
              go_wp2_with fail
              go_meet
              exact ⟨u, rfl, rfl, rfl, ⟨_, ou, hs3⟩, HB3.out.trans (hb4.mono hs3)⟩
            · rw [if_neg hck] at T1
              have HC := hide (HO5.out _ w3 T1.out)
              simp only [Nat.zero_add] at HC
              go_wp2_with fail
              (with_reducible refine HC.out.mono ?_); rintro e w4 ⟨u, rfl, ou, hb4⟩
              go_wp2_with fail
              go_meet
              exact ⟨u, rfl, rfl, rfl, ⟨_, ou, hs3⟩, HB3.out.trans (hb4.mono hs3)⟩
          case rest =>
            obtain ⟨⟨qa, qn, qc⟩, rfl, rfl, rfl, ⟨B5, hq, hB5⟩, hbq⟩ := hcut
            have HBQ := hide (HBR.out.trans (hbq.mono hbs))
            have HBQ1 := hide hbq
            have hbz := hbq.size
            have HPN5 : Hid ((permsL WR.tail).length = qn) := hide (RowsI.len hq).symm
            have HPR : Hid (∀ r ∈ permsL WR.tail, r.length ≤ 15) := hide (fun r hr => by have := permsL_inner hr; rw [List.length_tail] at this; omega)
            have HQ := hide hq
            have hqn : qn ≤ 3000 := by have := HPL5.out; have := HPN5.out; omega
            clear hq hbq HW5 HO5 HWP5 HPL5 hl15
            rw [HC5.out] at GS
            generalize permsL WR.tail = PM at *
            clear HC5
            obtain ⟨w9, hw9⟩ : ∃ w9 : World, w9 = wr := ⟨_, rfl⟩
            subst hw9
            go_wp2_with fail
            go_loopw [10, 50] (fun s i W => ∃ j : Nat, j ≤ qn ∧ i = .int .i64 j ∧ RowsI W wc.heap.size s ((PM.take j).map ((l : Int) :: ·)) ∧ Below wc.heap.size wc W) (fun _ i _ => qn - (intOf i).toNat)
            case atStart => exact ⟨0, Nat.zero_le _, rfl, by rw [List.take_zero]; exact OwnF.nil _ wc _, Below.refl _ _⟩
            case round =>
              obtain ⟨j, hj, rfl, hrows, hbr⟩ := hrel
              by_cases hltj : j < qn
              · obtain ⟨r, hrj⟩ := get_of_lt (xs := PM) (k := j) (by rw [HPN5.out]; exact hltj)
                have hltj' := nat_of_lt hltj
                obtain ⟨⟨sa, sn, sc⟩, g, hga, hg, g0, hrep⟩ := RowsI.row (OwnF.below HQ.out hbr) hrj
                subst hga
                have RS : Hid ((PM.take (j + 1)).map ((l : Int) :: ·) = (PM.take j).map ((l : Int) :: ·) ++ [(l : Int) :: r]) := hide (map_take_succ ((l : Int) :: ·) hrj)
                have hrl := HPR.out r (List.mem_of_getElem? hrj)
                have hlen : ((PM.take j).map ((l : Int) :: ·)).length ≤ 68719476736 := by
                  rw [List.length_map, List.length_take]; omega
                have hn1 : ([(l : Int)] : List Int).length + r.length ≤ 68719476736 := by simp; omega
                have HRP := hide (hrep.below ((Below.refl wr.heap.size wr).alloc (Nat.le_refl _) (.cells #[.int .i64 l] 3)))
                obtain ⟨us2, ds2, hU2⟩ := hrows
                have HUL2 : Hid (us2.length ≤ 68719476736) := hide (by rw [hU2.lu]; exact hlen)
                have HU2 := hide hU2
                have HBR2 := hide hbr
                have HLT : Hid (Own IntE 3 (wr.alloc (.cells #[.int .i64 l] 3)) wr.heap.size (.slice (some ⟨wr.heap.size, 0, none⟩) 1 1) [(l : Int)]) := hide (Own.lit1 (E := IntE) (T := 3) wr (Nat.le_refl _) (l : Int))
                have hbs2 := hbr.size
                generalize (PM.take j).map ((l : Int) :: ·) = GG at *
                clear hrj hrep hbr hrl hU2 hlen
                go_wp2_with (at_builtin; first
                  | (refine wpList_appS IntE 3 Try.infoInt rfl Try.underlying24 wr.heap.size _ [(l : Int)] r _ HLT.out HRP.out (by decide) hn1 (by simp) rfl _ _ rfl rfl rfl ?_; intro v6 w6 hown6 hgr6; obtain ⟨⟨a6, n6, c6⟩, rfl, -⟩ := hown6.toSlc; have O6 := hide hown6; have B6 := hide (((Below.refl wr.heap.size wr).alloc (Nat.le_refl _) (.cells #[.int .i64 l] 3)).grown hgr6 (by simp) (fun q hq => by simp [Value.ownBlock] at hq; omega)); have hb6 := B6.out.size; clear hown6 hgr6)
                  | (refine wpList_appL SlcE 24 Try.infoIntS rfl Try.underlying25 wc.heap.size _ us2 ⟨a6, n6, c6⟩ ((HU2.out.own.below B6.out).alloc _) (by decide) HUL2.out (by simp; omega) rfl _ _ rfl rfl w6.heap.size 0 1 rfl news_alloc ?_; rintro ⟨ua, un, uc⟩ wx hown8 hgr8 hv8))
                have R8 := RowsI.app HU2.out B6.out hbs2 rfl O6.out hown8 hgr8
                have B8 := (HBR2.out.trans (B6.out.mono hbs2)).alloc (by omega) (.cells #[.slice a6 n6 c6] 24)
                have B9 := B8.grown hgr8 (by simp; omega) (fun q hq => (World.ownsRow.lt HU2.out.own q hq).1)
                have HR8 := hide R8; have HB9 := hide B9
                clear R8 B9 B8
                go_roundw
                case rel => exact ⟨j + 1, by omega, by go_num, by rw [RS.out]; exact HR8.out, HB9.out⟩
                case measure => simp [intOf]; omega
              · obtain rfl : j = qn := by omega
                rw [List.take_of_length_le (by rw [HPN5.out]; exact Nat.le_refl _)] at hrows
                have hown := hrows
                obtain ⟨us2, ds2, hU2⟩ := hown
                obtain ⟨⟨ca, cn, cc⟩, rfl, -⟩ := hU2.own.toSlc
                have HRO := hide hrows
                have HBR2 := hide (HBQ1.out.trans (hbr.mono hbz))
                have hbs2 := HBR2.out.size
                have HUL : Hid (us.length ≤ 68719476736) := hide (by omega)
                clear hrows hU2 hbr
                go_wp2_with (at_builtin; refine wpList_appL SlcE 25 Try.infoIntSS rfl Try.underlying87 w8.heap.size _ us ⟨ca, cn, cc⟩ ((HU.out.own.below HBR2.out).alloc _) (by decide) HUL.out (by simp; omega) rfl _ _ rfl rfl _ 0 1 rfl (news_allocV (by simp)) ?_; rintro ⟨ua, un, uc⟩ wx hown8 hgr8 hv8)
                have R8 := RowsO.app HU.out HBR2.out (show w8.heap.size ≤ wc.heap.size by omega) HRO.out hown8 hgr8
                have B8 := (HBR.out.trans (HBR2.out.mono hbs)).alloc (by omega) (.cells #[.slice ca cn cc] 25)
                have B9 := B8.grown hgr8 (by simp; omega) (fun q hq => (World.ownsRow.lt HU.out.own q hq).1)
                have HR8 := hide R8; have HB9 := hide B9
                clear R8 B9 B8
                go_roundw
                case rel => exact ⟨l + 1, by omega, by go_num, by rw [GS.out]; exact HR8.out, HB9.out⟩
                case measure => simp [intOf]; omega
        · obtain rfl : l = 3 := by omega
          rw [HOT.out] at hrows
          obtain ⟨Ps, hPs, hrep2, hreads⟩ := hrows.pairs
          obtain ⟨qa, qc, rfl, -, -, -, hrep2⟩ := hrep2.open
          obtain ⟨w9, hw9⟩ : ∃ w9 : World, w9 = wr := ⟨_, rfl⟩
          subst hw9
          have HPS := hide hPs; have HRP2 := hide hrep2; have HRD := hide hreads
          have HPO1 := hide (fun v' w' h => HPO.out Ps v' w' hPs h)
          have HPN1 := hide (HPN.out _ _ (HFR.out.below hbr))
          have HBW9 := hide (HBW.out.trans (hbr.mono HWW.out))
          clear hrows hPs hrep2 hreads HPN HPO HFR hbr HRW HGO HOT HCO HPL HWL HOR HWP HWR HBW HWW
          generalize (Ps.map (List.map Prod.fst)).length = ql at *
          generalize prodR (chsF es) = FS at *
          go_wp2_with fail
          (with_reducible refine HPN1.out.mono ?_); rintro e w10 ⟨⟨xa, xn, xc⟩, rfl, hfs, hb10⟩
          have HFN : Hid (FS.length = xn) := hide (RowsG.len hfs).symm
          have HFS := hide hfs
          have HB10 := hide (HBW9.out.trans (hb10.mono HBW9.out.size))
          have HRP3 := hide (HRP2.out.below hb10); have HRD3 := hide (HRD.out.below hb10)
          have hxn : xn ≤ 3000 := by have := HFN.out; have := HFL.out; omega
          clear hfs hb10 HPN1 HBW9 HRP2 HRD
          go_wp2_with fail
          go_loopw [13, 70] (fun s i W => ∃ k : Nat, k ≤ xn ∧ i = .int .i64 k ∧ RowsX W w10.heap.size s ((FS.take k).flatMap fun f => (prodR (chsO es)).map (⟨f, ·⟩)) ∧ Below w10.heap.size w10 W) (fun _ i _ => xn - (intOf i).toNat)
          case atStart => exact ⟨0, Nat.zero_le _, rfl, OwnF.nil _ w10 _, Below.refl _ _⟩
          case round =>
            obtain ⟨k2, hk2, rfl, hrows, hbr⟩ := hrel
            by_cases hltk : k2 < xn
            · obtain ⟨x, hxk⟩ := get_of_lt (xs := FS) (k := k2) (by rw [HFN.out]; exact hltk)
              have hltk' := nat_of_lt hltk
              obtain ⟨⟨sa, sn, sc⟩, g, hga, hg', g0', hrep⟩ := RowsG.row HFS.out hxk
              subst hga
              have g0 := (hbr.cell (p := ⟨g, k2, none⟩) hg').trans g0'
              have hg : g < wr.heap.size := Nat.lt_of_lt_of_le hg' hbr.size
              have GS := hide (flatMap_take_succ (fun f => (prodR (chsO es)).map (Xc.mk f ·)) hxk)
              have HGL := hide (HAL.out k2)
              have HXL := hide (HFW.out x (List.mem_of_getElem? hxk))
              have HRO := hide hrows; have HBR := hide hbr; have HSX := hide hrep
              have HPO2 := hide (HPO1.out _ _ (HRP3.out.below hbr))
              have hbs := hbr.size
              generalize ((FS.take k2).flatMap fun f => (prodR (chsO es)).map (Xc.mk f ·)) = G at *
              obtain ⟨w11, hw11⟩ : ∃ w11 : World, w11 = wr := ⟨_, rfl⟩
              subst hw11
              clear hrows hbr hxk hrep
              go_wp2_with fail
              (with_reducible refine HPO2.out.mono ?_); rintro e w12 ⟨⟨ya, yn, yc⟩, rfl, hos, hb12⟩
              have hyn : yn = (prodR (chsO es)).length := by
                have h1 := RowsG.len hos
                rw [prodR_map, List.length_map] at h1
                rw [HPS.out, prodR_map, List.length_map]; exact h1
              have HLO12 := hide (RowsG.loc (T' := 27) (by decide) (by decide) hos)
              have HON := hide hyn
              have HB12 := hide (HBR.out.trans (hb12.mono hbs))
              have HRO12 := hide (OwnF.below HRO.out hb12)
              have hon : yn ≤ 3000 := by have := HOL.out; omega
              have hb12s := hb12.size
              have HB11 := hide hb12
              clear hos hyn hb12 HRO HPO2 g0'
              go_wp2_with fail
              go_loopw [13, 77] (fun s i W => ∃ j : Nat, j ≤ yn ∧ i = .int .i64 j ∧ RowsX W w10.heap.size s (G ++ ((prodR (chsO es)).take j).map (Xc.mk x ·)) ∧ Below w10.heap.size w10 W ∧ Hid (LocR 27 w11.heap.size w12.heap.size W (fun V => ∀ (k : Nat) (r : List Slc), (prodR (Ps.map (List.map Prod.fst)))[k]? = some r → ∃ (u : Slc) (g : Nat), ya = some ⟨g, 0, none⟩ ∧ g < V.heap.size ∧ V.cell? ⟨g, k, none⟩ = some (.slice u.a u.n u.cap) ∧ Rep SlcE V u.v r))) (fun _ i _ => yn - (intOf i).toNat)
              case atStart => exact ⟨0, Nat.zero_le _, rfl, by rw [List.take_zero, List.map_nil, List.append_nil]; exact HRO12.out, HB12.out, HLO12⟩
              case round =>
                obtain ⟨j, hj, rfl, hrows, hbr, hloc⟩ := hrel
                by_cases hltj : j < yn
                · obtain ⟨o, hoj⟩ := get_of_lt (xs := prodR (chsO es)) (k := j) (by rw [← HON.out]; exact hltj)
                  have hltj' := nat_of_lt hltj
                  obtain ⟨r, hr1, hr2, hr3⟩ := prodR_read (HRD3.out.below hbr) (by rw [← HPS.out]; exact hoj)
                  obtain ⟨⟨ta, tn, tc⟩, g2, hga2, hg2, h0, hsr⟩ := hloc.out.now j r hr1
                  subst hga2
                  have hX : RepX wr (.slice sa sn sc) (.slice ta tn tc) ⟨x, o⟩ := ⟨HSX.out.below hbr, r, hr2, hsr, hr3⟩
                  have hlo := HOW.out o (List.mem_of_getElem? hoj)
                  have HC := hide (cloneExec_any _ _ ⟨x, o⟩ wr hX HXL.out hlo.1 hlo.2)
                  have RS : Hid (G ++ ((prodR (chsO es)).take (j + 1)).map (Xc.mk x ·) = (G ++ ((prodR (chsO es)).take j).map (Xc.mk x ·)) ++ [⟨x, o⟩]) := hide (by rw [map_take_succ (Xc.mk x ·) hoj, List.append_assoc])
                  have hlen : (G ++ ((prodR (chsO es)).take j).map (Xc.mk x ·)).length ≤ 68719476736 := by
                    rw [List.length_append, List.length_map, List.length_take]
                    have := HGL.out; omega
                  obtain ⟨us, ds, hU⟩ := hrows
                  have HUL : Hid (us.length ≤ 68719476736) := hide (by rw [hU.lu]; exact hlen)
                  have HU := hide hU; have HBR5 := hide hbr
                  have hbs5 : w10.heap.size ≤ wr.heap.size := hbr.size
                  generalize G ++ ((prodR (chsO es)).take j).map (Xc.mk x ·) = GG at *
                  clear hoj hlen hU hbr hX hr1 hr2 hr3 hsr hlo
                  go_wp2_with fail
                  (with_reducible refine HC.out.mono ?_); rintro e w6 ⟨⟨f1, f2, f3⟩, ⟨o1, o2, o3⟩, rfl, hof, hb6⟩
                  have HLO := hide hof; have B6 := hide hb6
                  have hb7 := hb6.size
                  clear hof hb6 HC
                  go_wp2_with (at_builtin; refine wpList_appL XE 27 Try.infoExecY rfl Try.underlying40 w10.heap.size _ us ⟨⟨f1, f2, f3⟩, ⟨o1, o2, o3⟩⟩ ((HU.out.own.below B6.out).alloc _) (by decide) HUL.out (by simp; omega) rfl _ _ rfl rfl _ 0 1 rfl (news_allocV (by simp)) ?_; rintro ⟨ua, un, uc⟩ wx hown8 hgr8 hv8)
                  have R8 := RowsX.app HU.out B6.out hbs5 (s := ⟨⟨f1, f2, f3⟩, ⟨o1, o2, o3⟩⟩) (x := ⟨x, o⟩) HLO.out hown8 hgr8
                  have ba := (Below.refl w6.heap.size w6).alloc (Nat.le_refl _) (.cells #[.slice f1 f2 f3, .slice o1 o2 o3] 27)
                  have L8 := ((hloc.out.below B6.out).below ba).grown ((HU.out.own.below B6.out).below ba) hgr8
                  have B8 := (HBR5.out.trans (B6.out.mono hbs5)).alloc (by omega) (.cells #[.slice f1 f2 f3, .slice o1 o2 o3] 27)
                  have B9 := B8.grown hgr8 (by simp; omega) (fun q hq => (World.ownsRow.lt HU.out.own q hq).1)
                  have HR8 := hide R8; have HB9 := hide B9; have HL8 := hide L8
                  clear R8 B8 B9 L8 ba
                  go_roundw
                  case rel => exact ⟨j + 1, by omega, by go_num, by rw [RS.out]; exact HR8.out, HB9.out, HL8⟩
                  case measure => simp [intOf]; omega
                · obtain rfl : j = yn := by omega
                  rw [List.take_of_length_le (by rw [HON.out]; exact Nat.le_refl _), ← GS.out] at hrows
                  go_wp2_with fail
                  go_roundw
                  case rel => exact ⟨k2 + 1, by omega, by go_num, hrows, hbr⟩
                  case measure => simp [intOf]; omega
            · obtain rfl : k2 = xn := by omega
              obtain ⟨us, ds, hU⟩ := hrows
              obtain ⟨⟨ra, rn, rc⟩, rfl, -⟩ := hU.own.toSlc
              have hrows : RowsX _ _ _ _ := ⟨us, ds, hU⟩
              clear hU
              go_wp2_with fail
              go_ret
              refine ⟨⟨ra, rn, rc⟩, rfl, ?_, ?_⟩
              · rw [HA.out]
                have h := hrows
                rw [List.take_of_length_le (by rw [HFN.out]; exact Nat.le_refl _)] at h
                exact h.mono HB10.out.size
              · exact HB10.out.trans (hbr.mono HB10.out.size)

end Go.Proofs.Ytblheabgjjeigaa

namespace Go.Proofs.Ytblheabgjjeigaa
open Go.RowKit

/-- Three empty rows. -/
theorem three_empty (w : World) (TI TS : TypeId) : Own2U InsE TS TI [⟨some ⟨w.heap.size, 0, none⟩, 0, 0⟩, ⟨some ⟨w.heap.size + 1, 0, none⟩, 0, 0⟩, ⟨some ⟨w.heap.size + 2, 0, none⟩, 0, 0⟩]
    ((((w.alloc (.cells #[] TI)).alloc (.cells #[] TI)).alloc (.cells #[] TI)).alloc (.cells #[.slice (some ⟨w.heap.size, 0, none⟩) 0 0, .slice (some ⟨w.heap.size + 1, 0, none⟩) 0 0, .slice (some ⟨w.heap.size + 2, 0, none⟩) 0 0] TS))
    w.heap.size (.slice (some ⟨w.heap.size + 3, 0, none⟩) 3 3) [[], [], []] := by
  have e1 := ((Own.empty (E := InsE) TI w (base := w.heap.size) (Nat.le_refl _)).alloc (.cells #[] TI)).alloc (.cells #[] TI) |>.alloc (.cells #[.slice (some ⟨w.heap.size, 0, none⟩) 0 0, .slice (some ⟨w.heap.size + 1, 0, none⟩) 0 0, .slice (some ⟨w.heap.size + 2, 0, none⟩) 0 0] TS)
  have e2 := ((Own.empty (E := InsE) TI (w.alloc (.cells #[] TI)) (base := w.heap.size) (by simp)).alloc (.cells #[] TI)).alloc (.cells #[.slice (some ⟨w.heap.size, 0, none⟩) 0 0, .slice (some ⟨w.heap.size + 1, 0, none⟩) 0 0, .slice (some ⟨w.heap.size + 2, 0, none⟩) 0 0] TS)
  have e3 := (Own.empty (E := InsE) TI ((w.alloc (.cells #[] TI)).alloc (.cells #[] TI)) (base := w.heap.size) (by simp; omega)).alloc (.cells #[.slice (some ⟨w.heap.size, 0, none⟩) 0 0, .slice (some ⟨w.heap.size + 1, 0, none⟩) 0 0, .slice (some ⟨w.heap.size + 2, 0, none⟩) 0 0] TS)
  have e4 := Own.lit (E := SlcE) (T := TS) (w := ((w.alloc (.cells #[] TI)).alloc (.cells #[] TI)).alloc (.cells #[] TI)) (base := w.heap.size) (by simp; omega)
    [⟨some ⟨w.heap.size, 0, none⟩, 0, 0⟩, ⟨some ⟨w.heap.size + 1, 0, none⟩, 0, 0⟩, ⟨some ⟨w.heap.size + 2, 0, none⟩, 0, 0⟩] #[.slice (some ⟨w.heap.size, 0, none⟩) 0 0, .slice (some ⟨w.heap.size + 1, 0, none⟩) 0 0, .slice (some ⟨w.heap.size + 2, 0, none⟩) 0 0] 3 rfl rfl (by omega)
  simp only [World.size_alloc] at e1 e2 e3 e4
  refine ⟨rfl, e4, ?_, ?_, ?_⟩
  · intro i u r hu hr
    match i, hu, hr with
    | 0, hu, hr => simp at hu hr; subst hu; subst hr; exact e1
    | 1, hu, hr => simp at hu hr; subst hu; subst hr; exact e2
    | 2, hu, hr => simp at hu hr; subst hu; subst hr; exact e3
  · intro i j u u' hi hj hij q hq hq'
    match i, j, hi, hj with
    | 0, 0, _, _ => exact hij rfl
    | 1, 1, _, _ => exact hij rfl
    | 2, 2, _, _ => exact hij rfl
    | 0, 1, hi, hj => simp at hi hj; subst hi; subst hj; simp [Value.ownBlock] at hq hq'; omega
    | 0, 2, hi, hj => simp at hi hj; subst hi; subst hj; simp [Value.ownBlock] at hq hq'; omega
    | 1, 0, hi, hj => simp at hi hj; subst hi; subst hj; simp [Value.ownBlock] at hq hq'; omega
    | 1, 2, hi, hj => simp at hi hj; subst hi; subst hj; simp [Value.ownBlock] at hq hq'; omega
    | 2, 0, hi, hj => simp at hi hj; subst hi; subst hj; simp [Value.ownBlock] at hq hq'; omega
    | 2, 1, hi, hj => simp at hi hj; subst hi; subst hj; simp [Value.ownBlock] at hq hq'; omega
  · intro i u hu q hq hq'
    match i, hu with
    | 0, hu => simp at hu; subst hu; simp [Value.ownBlock] at hq hq'; omega
    | 1, hu => simp at hu; subst hu; simp [Value.ownBlock] at hq hq'; omega
    | 2, hu => simp at hu; subst hu; simp [Value.ownBlock] at hq hq'; omega

set_option maxRecDepth 100000 in
set_option maxHeartbeats 1600000 in
theorem DrawProgramValid_any (v : Value) (xs0 : List Int) (w : World) (hx : Rep ByteE w v xs0) (hb : ∀ x ∈ xs0, 0 ≤ x ∧ x ≤ 255) :
    Calls Try.prog 32 #[v] w (RetProg w) := by
  have HO := hide (l17Open_any v xs0 w hx hb)
  clear hx hb
  go_enter Try.func32, Try.ntmps32
  go_wp2_with fail
  (with_reducible refine HO.out.mono ?_); rintro e w1 ⟨b, a, c, xs, rfl, hr1, hbs, hb1⟩
  have R1 := hide hr1; have HB1 := hide hb1
  have hlt := hr1.lt
  clear hr1 hb1 HO
  go_wp2_with fail
  (with_reducible refine (pick_any b a c xs 0 20 _ R1.out (by omega) (by omega) (by omega)).mono ?_); rintro e w2 ⟨v2, p2, rfl, ⟨q2, rfl, -, -⟩, hp2, hr2, ho2⟩
  have R2 := hide hr2; have HB2 := hide (HB1.out.trans (below_of_outside ho2 hbs HB1.out.size))
  have hlt2 := hr2.lt
  clear hr2 ho2 R1 HB1
  by_cases hq : q2 = 0
  · subst hq
    have U0 : Own2U InsE 51 53 [⟨some ⟨w2.heap.size, 0, none⟩, 0, 0⟩, ⟨some ⟨w2.heap.size + 1, 0, none⟩, 0, 0⟩, ⟨some ⟨w2.heap.size + 1 + 1, 0, none⟩, 0, 0⟩] ((((w2.alloc (.cells #[] 53)).alloc (.cells #[] 53)).alloc (.cells #[] 53)).alloc (.cells #[.slice (some ⟨w2.heap.size, 0, none⟩) 0 0, .slice (some ⟨w2.heap.size + 1, 0, none⟩) 0 0, .slice (some ⟨w2.heap.size + 1 + 1, 0, none⟩) 0 0] 51)) w2.heap.size (.slice (some ⟨w2.heap.size + 1 + 1 + 1, 0, none⟩) 3 3) [[], [], []] := three_empty w2 53 51
    have HB3 := (((HB2.out.alloc HB2.out.size (.cells #[] 53)).alloc (by have := HB2.out.size; simp; omega) (.cells #[] 53)).alloc (by have := HB2.out.size; simp; omega) (.cells #[] 53)).alloc (by have := HB2.out.size; simp; omega) (.cells #[.slice (some ⟨w2.heap.size, 0, none⟩) 0 0, .slice (some ⟨w2.heap.size + 1, 0, none⟩) 0 0, .slice (some ⟨w2.heap.size + 1 + 1, 0, none⟩) 0 0] 51)
    have U := hide U0; have HB := hide HB3
    have hsz := HB2.out.size
    clear U0 HB3
    go_wp2_with fail
    go_loopw [5] (fun i wr => ∃ k : Nat, k ≤ 9 ∧ i = .int .i64 k ∧ Hid (∃ (us : List Slc) (P : List (List Ins)), Own2U InsE 51 53 us wr w2.heap.size (.slice (some ⟨w2.heap.size + 1 + 1 + 1, 0, none⟩) 3 3) P ∧ P.length = 3 ∧ ∀ r ∈ P, r.length ≤ k) ∧ Hid (Below w.heap.size w wr) ∧ Hid (w2.heap.size + 1 + 1 + 1 < wr.heap.size)) (fun i _ => 9 - (intOf i).toNat)
    case atStart => exact ⟨0, by omega, rfl, hide ⟨_, _, U.out, rfl, fun r hr => by simp at hr; rcases hr with rfl | rfl | rfl <;> simp⟩, HB, hide (by simp)⟩
    case round =>
      obtain ⟨k, hk, rfl, hU, hb, hz⟩ := hrel
      by_cases hlt3 : k < 9
      · obtain ⟨us, P, hU2, hPl, hPr⟩ := hU.out
        have hkm : k % 3 < 3 := Nat.mod_lt _ (by decide)
        obtain ⟨r, hr⟩ := get_of_lt (xs := P) (k := k % 3) (by omega)
        obtain ⟨⟨sa, sn, sc⟩, hs, hgl, hcell, hrow, -⟩ := hU2.row hr
        have hfz := hU2.2.1.frozen (k % 3)
        have hrl := hPr r (List.mem_of_getElem? hr)
        have hlo : w2.heap.size ≤ wr.heap.size := by have := hz.out; omega
        have HU2 := hide hU2; have HS := hide hs; have HROW := hide hrow; have HPL := hide hPl; have HPR := hide hPr
        have hrg : ∀ q, (Value.slice sa sn sc).ownBlock = some q → q ≠ w2.heap.size + 1 + 1 + 1 := fun q hq e => hU2.2.2.2.2 _ _ hs q hq (by rw [e]; rfl)
        have hm : ((k : Int) % 3) = ((k % 3 : Nat) : Int) := by omega
        have hm2 : Int.tmod (k : Int) 3 = ((k % 3 : Nat) : Int) := by rw [Int.tmod_eq_emod_of_nonneg (by omega)]; omega
        have hlt9 : (k : Int) < 9 := by omega
        have hk3 : ((k % 3 : Nat) : Int) < 3 := by omega
        have hrl2 : r.length ≤ 68719476736 := by omega
        clear hU2 hs hrow hr hPl hPr hU
        generalize hkm' : k % 3 = km at *
        clear hkm'
        go_wp2_with (at_builtin; (refine wpList_appAt InsE 53 Try.infoIns rfl Try.underlying51 w2.heap.size (.slice sa sn sc) r ⟨5, 0, 0, 1⟩ (HROW.out.alloc _) (by decide) hrl2 (Nat.le_trans hlo (belowAlloc _ _).size) rfl _ _ rfl rfl wr.heap.size 0 1 rfl news_alloc ?_; intro v' w3 hown3 hgr3 hat3; obtain ⟨⟨va, vn, vc⟩, rfl, -⟩ := hown3.toSlc; obtain ⟨hg7, hg8⟩ := row_far hgr3 (g := w2.heap.size + 1 + 1 + 1) hz.out (fun q hq e => hrg q hq e); have hc3 := (hg7 km).trans hcell; have hf3 := (hg8 km).trans hfz; have hl3 := lt_of_cell hc3; have HO3 := hide hown3; have HG3 := hide hgr3; have HA3 := hide hat3; clear hown3 hgr3 hat3 hg7 hg8))
        have U3 := (HU2.out.below (belowAlloc wr (.cells #[.int .i64 5, .int .i64 0, .int .i64 0, .int .i64 1] 53))).rowput2 (s' := ⟨va, vn, vc⟩) HS.out HO3.out HG3.out HA3.out
        have B3 := (((hb.out.alloc (hb.out.size) (.cells #[.int .i64 5, .int .i64 0, .int .i64 0, .int .i64 1] 53))).grown HG3.out (Nat.le_trans hb.out.size (belowAlloc _ _).size) (fun q hq => by have := HROW.out.rowGe q hq; omega)).setCell (p := ⟨w2.heap.size + 1 + 1 + 1, km, none⟩) (show _ ≤ w2.heap.size + 1 + 1 + 1 by omega) (.slice va vn vc)
        have HB3 := hide B3
        have HU3 := hide (show ∃ (us : List Slc) (P : List (List Ins)), Own2U InsE 51 53 us (w3.setCell ⟨w2.heap.size + 1 + 1 + 1, km, none⟩ (.slice va vn vc)) w2.heap.size (.slice (some ⟨w2.heap.size + 1 + 1 + 1, 0, none⟩) 3 3) P ∧ P.length = 3 ∧ ∀ r ∈ P, r.length ≤ k + 1 from ⟨_, _, U3, by rw [List.length_set]; exact HPL.out, mem_set_le (fun r hr => Nat.le_trans (HPR.out r hr) (by omega)) (by simp; omega)⟩)
        clear U3 B3
        go_roundw
        case rel => exact ⟨k + 1, by omega, by go_num, HU3, HB3, hide (by simpa using hl3)⟩
        case measure => simp [intOf]; omega
      · have hkg : decide ((k : Int) < 9) = false := decide_eq_false (by omega)
        obtain ⟨us, P, hU2, hPl, hPr⟩ := hU.out
        have HU2 := hide hU2; have HPR := hide hPr; have HPL := hide hPl
        clear hU hU2 hPr hPl
        go_wp2_with fail
        go_ret
        exact ⟨_, P, rfl, HU2.out.own.rep, by have := HPL.out; omega, fun r hr => Nat.le_trans (HPR.out r hr) hk, hb.out⟩
  · have hq' : (q2 == 0) = false := by simp [hq]
    clear hq
    go_wp2_with fail
    (with_reducible refine (l1Draw_any b a c xs p2 _ R2.out (by omega)).mono ?_); rintro e w3 ⟨v3, p3, rfl, ⟨P, hP, hl, hl2⟩, hp3, hr3, ho3⟩
    have R3 := hide hr3; have O3 := hide ho3; have HP := hide hP; have HL2 := hide hl2
    clear hr3 ho3 hP hl2 R2
    go_wp2_with fail
    (with_reducible refine (l1Mutate_any b a c xs p3 v3 P _ R3.out (by omega) HP.out.rep hl HL2.out).mono ?_); rintro e w4 ⟨v4, p4, rfl, hQ4, hp4, hr4, ho4⟩
    obtain ⟨P4, hP4, hl4, hl5⟩ := hQ4.open
    have HL5 := hide hl5
    have HB4 := hide (HB2.out.trans (below_of_outside (O3.out.trans ho4) hbs HB2.out.size))
    clear hr4 ho4 hQ4 hl5
    go_wp2_with fail
    go_ret
    exact ⟨_, P4, rfl, hP4, hl4, HL5.out, HB4.out⟩

end Go.Proofs.Ytblheabgjjeigaa
