/-
  The reference's draw of a program, an outcome and a condition. No condition.
-/
import Derived.Test.YtpjebgiejkglpaaZh18
import Derived.Test.YtpjebgiejkglpaaZh02
import Derived.Test.YtpjebgiejkglpaaZh12
import Derived.Test.YtpjebgiejkglpaaZh09
namespace Go.Proofs.Ytpjebgiejkglpaa
open Go.RowKit

/-- A valid program and some numbers that were drawn. -/
def QPO (lo : Nat) (v : Value) (w : World) : Prop := ∃ (vp : Value) (so : Slc) (P : List (List Ins)) (o : List Int), v = .tuple #[vp, .slice so.a so.n so.cap] ∧ OwnP w lo vp P ∧ P.length ≤ 4 ∧ (∀ r ∈ P, r.length ≤ 8) ∧ progValid P = true ∧ Own IntE 3 w lo so.v o ∧ o.length ≤ 20

set_option maxRecDepth 100000 in
set_option maxHeartbeats 6400000 in
theorem l3Draw_any (b : Nat) (a : Option Addr) (c : Nat) (xs : List Int) (p : Int) (w : World) (hr : Rd w b a c xs p) (hp : p ≤ 700000000) :
    Calls Try.prog 16 #[.pointer (some ⟨b, 0, none⟩)] w (RetRd w b a c xs p 70 (QPO w.heap.size)) := by
  have HL1 := hide (l1Draw_anyV b a c xs p w hr (by omega))
  have HPK := hide (fun (p : Int) n w' h hp hn hn0 => pick_any b a c xs p n w' h hp hn hn0)
  have HNU := hide (fun (p : Int) y0 y1 y2 y3 y4 w' G hG hb h hp => numLit5 b a c xs p y0 y1 y2 y3 y4 w' G hG hb h hp)
  have hlt := hr.lt
  have kf : ∀ (x y : Value) (w : World), (Instr.field 59 (.agg #[x, y]) 1).run Try.prog w = .ok y w := fun x y w => by kernel_rfl
  clear hr
  go_enter Try.func16, Try.ntmps16
  go_wp2_with fail
  (with_reducible refine HL1.out.mono ?_); rintro e w1 ⟨v1, p1, rfl, ⟨P, hP, hPl, hPr, hPv⟩, hp1, hr1, ho1⟩
  have HSEQ := hide (l3Seq_any v1 P w1 hP.rep hPv)
  have R1 := hide hr1; have O1 := hide ho1; have HP1 := hide hP
  have hs1 := ho1.size
  have hlt1 := hr1.lt
  have HPV := hide hPv; have HPR := hide hPr
  clear hr1 ho1 hP HL1 hPv hPr
  go_wp2_with fail
  (with_reducible refine HSEQ.out.mono ?_); rintro e w2 ⟨seen, taken, outs, hall, cn, vo, hcn, rfl, hol, hb2⟩
  obtain ⟨hne, hfew, hout⟩ := sq_outs (valid_ins HPV.out) (valid_le HPV.out).1 hall
  have R2 := hide (R1.out.keep hb2 hlt1); have O2 := hide (O1.out.trans (Outside.of_below hb2)); have HP2 := hide (HP1.out.below hb2)
  have hs2 := hb2.size
  have HOL := hide hol
  obtain ⟨-, us, hul, hown, hrows⟩ := hol
  obtain ⟨⟨voa, von, voc⟩, hvo, hvn⟩ := hown.toSlc
  obtain ⟨vo1, vo2, vo3⟩ := vo
  simp only [Slc.v, Value.slice.injEq] at hvo
  obtain ⟨rfl, rfl, rfl⟩ := hvo
  have hvn2 : vo2 = outs.length := by rw [← hul]; exact hvn
  have HOUT := hide hout; have HOWN := hide hown; have HROWS := hide hrows; have HUL := hide hul
  have hpos : 0 < outs.length := List.length_pos_iff.2 hne
  clear hall hown hrows hvn hb2 HSEQ hout hul R1 O1 HP1 hne HOL
  subst hvn2
  generalize hon : outs.length = n at *
  have HON := hide hon
  clear hon
  have EL := hide (Own.empty (E := IntE) 3 w2 (Nat.le_refl _))
  have R2a := hide (R2.out.allocNew (.cells #[] 3))
  go_wp2_with fail
  (with_reducible refine (HPK.out p1 (n : Int) _ R2a.out (by omega) (by omega) (by omega)).mono ?_); rintro e w3 ⟨v3, p3, rfl, ⟨q, rfl, hq0, hqn⟩, hp3, hr3, ho3⟩
  obtain ⟨qn, rfl⟩ : ∃ qn : Nat, q = qn := ⟨q.toNat, by omega⟩
  have hqn := hqn (by omega)
  obtain ⟨r, hrk⟩ := get_of_lt (xs := outs) (k := qn) (by have := HON.out; omega)
  obtain ⟨⟨ua, un, uc⟩, huk⟩ := get_of_lt (xs := us) (k := qn) (by have := HON.out; have := HUL.out; omega)
  have hA := belowAlloc w2 (.cells #[] 3)
  have hown3 := ho3.ownHi (HOWN.out.below hA) (show b < w1.heap.size by omega)
  have hrow3 := ho3.ownHi ((HROWS.out qn _ r huk hrk).now.below hA) (show b < w1.heap.size by omega)
  obtain ⟨g, go, hge, hgl, i0⟩ := hown3.rep.slc huk
  obtain ⟨hrl, hrr⟩ := HOUT.out r (List.mem_of_getElem? hrk)
  have hPl3 := (valid_le HPV.out).1
  have hPl1 := (valid_le HPV.out).2.1
  have EL3 := hide (ho3.ownHi EL.out (show b < w2.heap.size by omega))
  have RW3 := hide hrow3
  have R3 := hide hr3; have O3 := hide ((O2.out.allocNew (.cells #[] 3)).trans ho3); have HP3 := hide ((HP2.out.below hA).outHi ho3 (show b + 1 ≤ w.heap.size by omega))
  have hs3 := ho3.size
  simp only [World.size_alloc] at hs3
  have hrl2 : r.length ≤ 12 := by omega
  have hrl3 : 3 ≤ r.length := by omega
  have hn3 : ([] : List Int).length + r.length ≤ 68719476736 := by simp; omega
  clear hr3 ho3 hown3 hrow3 R2a EL hA hrk huk hrr HROWS HOWN HUL HON HOUT hrl R2 O2 HP2
  subst hge
  go_wp2_with (at_builtin; refine wpList_appS IntE 3 Try.infoInt rfl Try.underlying24 w2.heap.size _ [] r _ EL3.out RW3.out.rep (by decide) hn3 (by omega) rfl _ _ rfl rfl rfl ?_; intro v4 w4 hown4 hgr4; rw [List.nil_append] at hown4; have O4 := hide hown4; have R4 := hide (R3.out.grownNew hgr4 (fun q hq => by simp [Value.ownBlock] at hq; omega)); have OU4 := hide (O3.out.grownNew hgr4 (fun q hq => by simp [Value.ownBlock] at hq; omega)); have hs4 := hgr4.size; have HP4 := hide ((LocT.own2 HP3.out (L := [3]) (B := 0) (by decide) (by decide)).keep w4 (KpT.grown EL3.out (by decide) (Nat.zero_le _) hgr4)); clear hown4 hgr4)
  have hb4 : b < w4.heap.size := by omega
  clear RW3 R3 EL3 HP3 O3 i0 hgl hqn hq0
  rcases O4.out.shape with ⟨_, e⟩ | ⟨g4, c4, rfl, hg4, hg4', hc4, -⟩
  · rw [e] at hrl3; simp at hrl3
  (with_reducible refine (HPK.out p3 6 w4 R4.out (by omega) (by omega) (by omega)).mono ?_); rintro e w5 ⟨v5, p5, rfl, ⟨q5, rfl, hq50, hq5n⟩, hp5, hr5, ho5⟩
  have R5 := hide hr5; have OU5 := hide (OU4.out.trans ho5); have O5 := hide (ho5.ownHi O4.out (show b < w2.heap.size by omega)); have HP5 := hide (HP4.out.outHi ho5 (show b + 1 ≤ w.heap.size by omega))
  have hs5 := ho5.size
  have hb5 : b < w5.heap.size := by omega
  clear hr5 ho5 R4 OU4 O4 HP4
  generalize hrn : r.length = rn at *
  have HRN := hide hrn
  clear hrn
  by_cases h0 : q5 = 0
  · subst h0
    go_wp2_with fail
    (with_reducible refine (HPK.out p5 (rn : Int) w5 R5.out (by omega) (by omega) (by omega)).mono ?_); rintro e w6 ⟨v6, p6, rfl, ⟨q6, rfl, hq60, hq6n⟩, hp6, hr6, ho6⟩
    obtain ⟨qn6, rfl⟩ : ∃ qn : Nat, q6 = qn := ⟨q6.toNat, by omega⟩
    have hq6n := hq6n (by omega)
    have R6 := hide hr6; have OU6 := hide (OU5.out.trans ho6); have O6 := hide (ho6.ownHi O5.out (show b < w2.heap.size by omega)); have HP6 := hide (HP5.out.outHi ho6 (show b + 1 ≤ w.heap.size by omega))
    have hs6 := ho6.size
    have hb6 : b < w6.heap.size := by omega
    clear hr6 ho6 R5 OU5 O5 HP5
    go_wp2_with fail
    (with_reducible refine (HNU.out p6 1 0 3 4 (-1) w6 _ rfl hb6 (R6.out.allocNew _) (by omega)).mono ?_); rintro e w7 ⟨v7, p7, rfl, ⟨y7, -, rfl⟩, hp7, hr7, ho7⟩
    have R7 := hide hr7; have OU7 := hide ((OU6.out.allocNew _).trans ho7); have O7 := hide (ho7.ownHi (O6.out.alloc _) (show b < w2.heap.size by omega)); have HP7 := hide ((HP6.out.below (belowAlloc _ _)).outHi ho7 (show b + 1 ≤ w.heap.size by omega))
    have hs7 := ho7.size
    clear hr7 ho7 R6 OU6 O6 HP6
    obtain ⟨z, hz⟩ := get_of_lt (xs := r) (k := qn6) (by have := HRN.out; omega)
    obtain ⟨k1, k2, k3, k4, k5⟩ := O7.out.int1 hz y7
    have K4 := hide k4; have K5 := hide k5
    have k3 := k3 qn6
    clear k4 k5 hz
    go_wp2_with fail
    have hkp : KpT [3] 0 w7 (w7.setCell ⟨g4, qn6, none⟩ (.int .i64 y7)) := KpT.grown O7.out (by decide) (Nat.zero_le _) K5.out
    refine bodyPost_ret (v := .tuple #[v1, .slice (some ⟨g4, 0, none⟩) rn c4]) (by simp [results, Try.results16, go_sem, *]) rfl ⟨_, p7, rfl, ⟨v1, ⟨some ⟨g4, 0, none⟩, rn, c4⟩, P, _, rfl, (LocT.own2 HP7.out (L := [3]) (B := 0) (by decide) (by decide)).keep _ hkp, hPl, HPR.out, HPV.out, K4.out.mono (by omega), by rw [List.length_set]; have := HRN.out; omega⟩, by omega, R7.out.setNew (by omega) _ _, OU7.out.setNew (by omega) _ _⟩
  · have h0' : (q5 == 0) = false := by simpa using h0
    clear h0
    by_cases h1 : q5 = 1
    · subst h1
      go_wp2_with fail
      (with_reducible refine (HPK.out p5 4 w5 R5.out (by omega) (by omega) (by omega)).mono ?_); rintro e w6 ⟨v6, p6, rfl, ⟨q6, rfl, hq60, hq6n⟩, hp6, hr6, ho6⟩
      have R6 := hide hr6; have OU6 := hide (OU5.out.trans ho6); have O6 := hide (ho6.ownHi O5.out (show b < w2.heap.size by omega)); have HP6 := hide (HP5.out.outHi ho6 (show b + 1 ≤ w.heap.size by omega))
      have hs6 := ho6.size
      have hb6 : b < w6.heap.size := by omega
      clear hr6 ho6 R5 OU5 O5 HP5
      by_cases h2 : q6 = 0
      · subst h2
        have hrl9 : r.length ≤ 68719476736 := by have := HRN.out; omega
        go_wp2_with (at_builtin; refine wpList_app IntE 3 Try.infoInt rfl Try.underlying24 w2.heap.size _ r 0 (O6.out.alloc _) (by decide) hrl9 (by simp; omega) rfl _ _ rfl rfl _ 0 1 rfl news_alloc ?_; intro v7 w7 hown7 hgr7; obtain ⟨⟨a7, n7, c7⟩, rfl, -⟩ := hown7.toSlc; have O7 := hide hown7; have G7 := hide hgr7; clear hown7 hgr7)
        have hkp : KpT [3] 0 (w6.alloc (.cells #[.int .i64 0] 3)) w7 := KpT.grown (O6.out.alloc _) (by decide) (Nat.zero_le _) G7.out
        refine bodyPost_ret (v := .tuple #[v1, .slice a7 n7 c7]) (by simp [results, Try.results16, go_sem, *]) rfl ⟨_, p6, rfl, ⟨v1, ⟨a7, n7, c7⟩, P, _, rfl, (LocT.own2 (HP6.out.below (belowAlloc _ _)) (L := [3]) (B := 0) (by decide) (by decide)).keep _ hkp, hPl, HPR.out, HPV.out, O7.out.mono (by omega), by have := HRN.out; simp; omega⟩, by omega, (R6.out.allocNew _).grownNew G7.out (fun q hq => by simp [Value.ownBlock] at hq; omega), (OU6.out.allocNew _).grownNew G7.out (fun q hq => by simp [Value.ownBlock] at hq; omega)⟩
      · have h2' : (q6 == 0) = false := by simpa using h2
        clear h2
        go_wp2_with fail
        exact bodyPost_ret (v := .tuple #[v1, .slice (some ⟨g4, 0, none⟩) rn c4]) (by simp [results, Try.results16, go_sem, *]) rfl ⟨_, p6, rfl, ⟨v1, ⟨some ⟨g4, 0, none⟩, rn, c4⟩, P, r, rfl, HP6.out, hPl, HPR.out, HPV.out, O6.out.mono (by omega), by have := HRN.out; omega⟩, by omega, R6.out, OU6.out⟩
    · have h1' : (q5 == 1) = false := by simpa using h1
      clear h1
      go_wp2_with fail
      exact bodyPost_ret (v := .tuple #[v1, .slice (some ⟨g4, 0, none⟩) rn c4]) (by simp [results, Try.results16, go_sem, *]) rfl ⟨_, p5, rfl, ⟨v1, ⟨some ⟨g4, 0, none⟩, rn, c4⟩, P, r, rfl, HP5.out, hPl, HPR.out, HPV.out, O5.out.mono (by omega), by have := HRN.out; omega⟩, by omega, R5.out, OU5.out⟩

end Go.Proofs.Ytpjebgiejkglpaa

namespace Go.Proofs.Ytpjebgiejkglpaa
open Go.RowKit

/-- A valid program, numbers and a condition that were drawn. -/
def RetCH (w : World) (e : Ending) (w' : World) : Prop := ∃ (vp : Value) (so : Slc) (P : List (List Ins)) (os : List Int) (o t q x : Int) (s : Slc) (ks : List Cd),
  e = .returned (.tuple #[vp, .slice so.a so.n so.cap, .agg #[.int .i64 o, .int .i64 t, .int .i64 q, .int .i64 x, .slice s.a s.n s.cap]]) ∧ RepP w' vp P ∧ progValid P = true ∧ Rep IntE w' so.v os ∧ os.length ≤ 20 ∧ RepK 0 w' s ks ∧ descs ks ≤ 100 ∧ Below w.heap.size w w'
theorem Own.setLowM {α : Type} {E : El α} {T : TypeId} {w : World} {base g j : Nat} {v u : Value} {xs : List α} (h : Own E T w base v xs) (hg : g < base) : Own E T (w.setCell ⟨g, j, none⟩ u) base v xs :=
  h.sameT fun q hq => heap_setCell_other w ⟨g, j, none⟩ q u (show q ≠ g by have := (World.ownsRow.lt h q hq).1; omega)

set_option maxRecDepth 100000 in
set_option maxHeartbeats 6400000 in
theorem DrawCondHolds_any (v : Value) (xs0 : List Int) (w : World) (hx : Rep ByteE w v xs0) (hb : ∀ x ∈ xs0, 0 ≤ x ∧ x ≤ 255) :
    Calls Try.prog 6 #[v] w (RetCH w) := by
  obtain ⟨a0, c0, rfl, -, -, -, hx⟩ := hx.open
  have hbW := belowAlloc w (.cells #[.int .i64 0, .int .i64 0, .int .i64 0, .int .i64 0, .slice none 0 0] 27)
  have HO := hide (l17Open_any (.slice a0 xs0.length c0) xs0 _ (hx.below hbW) hb)
  have BH := hide (Box.new w 0 0 0 0 none 0 0 27)
  have HBW := hide hbW
  clear hx hbW hb
  go_enter Try.func6, Try.ntmps6
  go_wp2_with fail
  (with_reducible refine HO.out.mono ?_); rintro e w1 ⟨b, a, c, xs, rfl, hr1, hbs, hb1⟩
  have hbs' : w.heap.size + 1 ≤ b := by simpa using hbs
  have BH1 := hide (BH.out.below hb1 (by simp))
  have HB1 := hide (HBW.out.trans (hb1.mono HBW.out.size))
  have R1 := hide hr1
  have hlt1 := hr1.lt
  have HD := hide (l3Draw_any b a c xs 0 w1 hr1 (by omega))
  clear hr1 hbs hb1 HO BH HBW
  go_wp2_with fail
  (with_reducible refine HD.out.mono ?_); rintro e w2 ⟨v2, p2, rfl, ⟨vp, ⟨soa, son, soc⟩, P, os, rfl, hP, hPl, hPr, hPv, hos, hol⟩, hp2, hr2, ho2⟩
  have hs2 := ho2.size
  have R2 := hide hr2; have HP2 := hide hP; have HO2 := hide hos
  have BH2 := hide (BH1.out.outside ho2 (by omega))
  have HB2 := hide (HB1.out.trans (below_of_outside ho2 (B := w.heap.size) (by omega) (by have := HB1.out.size; omega)))
  have HSM := hide (l11Some_any b a c xs p2 w2 hr2 (by omega))
  have HPV := hide hPv
  clear hr2 ho2 hP hos R1 HD BH1 HB1 hPv
  go_wp2_with fail
  (with_reducible refine HSM.out.mono ?_); rintro e w3 ⟨v3, p3, rfl, ⟨o, t, q, x, s, ks, rfl, hF, hd⟩, hp3, hr3, ho3⟩
  have hs3 := ho3.size
  have HP3 := hide (HP2.out.outHi ho3 (show b + 1 ≤ w1.heap.size by omega)); have HO3 := hide (ho3.ownHi HO2.out (show b < w1.heap.size by omega))
  have BH3 := hide (BH2.out.outside ho3 (by omega))
  have HB3 := hide (HB2.out.trans (below_of_outside ho3 (B := w.heap.size) (by omega) (by have := HB2.out.size; omega)))
  have HMU := hide (l11Mutate_any b a c xs p3 o t q x s.a s.n s.cap ks 40 w3 hr3 (by omega) w2.heap.size (by omega) hs3 hF hd (by omega))
  clear hr3 ho3 hF hd R2 HSM BH2 HB2 HP2 HO2
  go_wp2_with fail
  (with_reducible refine HMU.out.mono ?_); rintro e w4 ⟨v4, p4, rfl, ⟨o4, t4, q4, x4, s4, ks4, rfl, hF4, hd4⟩, hp4, hr4, ho4⟩
  have hs4 := ho4.size
  have HP4 := hide (HP3.out.outHi ho4 (show b + 1 ≤ w1.heap.size by omega)); have HO4 := hide (ho4.ownHi HO3.out (show b < w1.heap.size by omega))
  have BH4 := hide (BH3.out.outside ho4 (by omega))
  have HB4 := hide (HB3.out.trans (below_of_outside ho4 (B := w.heap.size) (by omega) (by have := HB3.out.size; omega)))
  have HF4 := hide hF4
  clear hr4 ho4 hF4 HMU BH3 HB3 HP3 HO3
  obtain ⟨lh, n0, n1, n2, n3, n4, nf⟩ := BH4.out
  go_wp2_with fail
  refine bodyPost_ret (v := .tuple #[vp, .slice soa son soc, .agg #[.int .i64 o4, .int .i64 t4, .int .i64 q4, .int .i64 x4, .slice s4.a s4.n s4.cap]]) (by simp [results, Try.results6, go_sem, *]) rfl ⟨vp, ⟨soa, son, soc⟩, P, os, o4, t4, q4, x4, s4, ks4, rfl, ?_, HPV.out, ?_, hol, ?_, by omega, ?_⟩
  · exact (((((HP4.out.setLow (by omega)).setLow (by omega)).setLow (by omega)).setLow (by omega)).setLow (by omega)).rep
  · exact (((((HO4.out.setLowM (by omega)).setLowM (by omega)).setLowM (by omega)).setLowM (by omega)).setLowM (by omega)).rep
  · exact Foot.rep (ok := fun q => w2.heap.size ≤ q) (((((HF4.out.set (by omega) _ _).set (by omega) _ _).set (by omega) _ _).set (by omega) _ _).set (by omega) _ _)
  · exact ((((HB4.out.setCell (Nat.le_refl _) _).setCell (Nat.le_refl _) _).setCell (Nat.le_refl _) _).setCell (Nat.le_refl _) _).setCell (Nat.le_refl _) _

end Go.Proofs.Ytpjebgiejkglpaa
