/-
  Programs that are drawn and sometimes made invalid. Condition: not too many numbers were taken.
-/
import Derived.Test.YtngekjpklkjnbaaGreatZu14
import Derived.Deep.DrawnRows
set_option maxHeartbeats 6400000
set_option maxRecDepth 100000
namespace Go.Proofs.YtngekjpklkjnbaaGreat
open Go.RowKit
attribute [local go_sem ↓] Go.wp_at_zero Go.wp_at_succ
def QM (lo:Nat) (v:Value) (w:World):Prop:=∃ P:List (List Ins),(Kl w lo v P∨(∃ (g n c:Nat) (x:List Ins),Kl w lo (.slice (some ⟨g,0,none⟩) n c) (x :: P)∧v = .slice (some ⟨g,1,none⟩) (n - 1) (c - 1))∨∃ g,P=[]∧v = .slice (some ⟨g,0,none⟩) 0 0)∧P.length≤5∧∀ r∈P,r.length≤9
theorem Yv.tail {α:Type}{E:El α}{w:World}{g n c:Nat}{x:List α}{P:List (List α)}(h:Yv E w (.slice (some ⟨g,0,none⟩) n c) (x :: P)):Yv E w (.slice (some ⟨g,1,none⟩) (n - 1) (c - 1)) P:=by
 obtain⟨us,h1,h2,h3⟩:=h;cases us with
 | nil=>simp at h1
 | cons u us =>
  have hn:1≤n:=by
   obtain⟨a',c',hv,-⟩:=h2;simp only[Value.slice.injEq]at hv;obtain⟨-,rfl,-⟩:=hv;simp
  refine⟨us,by simpa using h1,?_,fun i u' r hu hr=>h3 (i+1) u' r (by simpa using hu) (by simpa using hr)⟩;have:=h2.tail hn;simpa[Zw] using this
theorem QM.open {lo:Nat}{v:Value}{w:World}(h:QM lo v w):∃ P:List (List Ins),Z5 w v P∧P.length≤5∧∀ r∈P,r.length≤9:=by
 obtain⟨P,h,h1,h2⟩:=h;refine⟨P,?_,h1,h2⟩;rcases h with h | ⟨g,n,c,x,h,rfl⟩ | ⟨g,rfl,rfl⟩
 ·exact h.rep
 ·exact h.rep.tail
 ·exact⟨[],rfl,⟨_,0,rfl,Nat.le_refl _,Nat.zero_le _,fun i x h=>by simp at h⟩,fun i u r h=>by simp at h⟩
theorem QM.outside {lo b:Nat}{v:Value}{w w':World}(h:QM lo v w) (ho:Outside b (b+1) w w') (hb:b < lo):QM lo v w':=by
 obtain⟨P,h,h1,h2⟩:=h;refine⟨P,?_,h1,h2⟩;rcases h with h | ⟨g,n,c,x,h,rfl⟩ | ⟨g,rfl,rfl⟩
 ·exact .inl (h.outside ho hb)
 ·exact .inr (.inl ⟨g,n,c,x,h.outside ho hb,rfl⟩)
 ·exact .inr (.inr ⟨g,rfl,rfl⟩)
theorem QM.below {lo:Nat}{v:Value}{w w':World}(h:QM lo v w) (hb:Below w.heap.size w w'):QM lo v w':=by
 obtain⟨P,h,h1,h2⟩:=h;refine⟨P,?_,h1,h2⟩;rcases h with h | ⟨g,n,c,x,h,rfl⟩ | ⟨g,rfl,rfl⟩
 ·exact .inl (h.below hb)
 ·exact .inr (.inl ⟨g,n,c,x,h.below hb,rfl⟩)
 ·exact .inr (.inr ⟨g,rfl,rfl⟩)
theorem Iy (b:Nat) (a:Option Addr) (c:Nat) (xs:List Int) (p:Int) (G n:Nat) (ys:List Int) (w':World) (base:Nat) (hb:b < base) (h:Rd w' b a c xs p) (hp:p≤1000000000) (ho:Own Zo 3 w' base (.slice (some ⟨G,0,none⟩) n n) ys) (h1:1≤ys.length) (h2:ys.length≤100) :
 Calls Tryz.prog 100 #[.pointer (some ⟨b,0,none⟩),.slice (some ⟨G,0,none⟩) n n] w' (QL w' b a c xs p 1 (K7 ys)):=by
 have hG:=(World.ownsRow.lt ho G rfl).1;exact GY b a c xs p (.slice (some ⟨G,0,none⟩) n n) ys w' h hp ho.rep h2 h1 (by intro g o e;simp at e;omega)
theorem Rm {w w':World}{ob:Obj}{row:Option Nat}(hg:(w.alloc ob).grownBy w' row) {g:Nat}(hb:g < w.heap.size) (hne:∀ q,row=some q→q≠g):(∀ o,w'.cell? ⟨g,o,none⟩=w.cell? ⟨g,o,none⟩)∧∀ o,w'.frozen? ⟨g,o,none⟩=w.frozen? ⟨g,o,none⟩:=by
 have e:w'.heap[g]? = w.heap[g]?:=by
  rw[hg.block g So (fun e=>hne g e.symm rfl),heap_alloc_old w ob hb]
 refine⟨fun o=>ZR e o,fun o => ?_⟩;unfold World.frozen?;rw[e]
theorem AJ {w:World}{l:List Value}{T:TypeId}{G:Nat}(hG:w.heap.size=G):∀ (j:Nat) (u:Value),l[j]? = some u→(w.alloc (.cells l.toArray T)).cell? ⟨G,0+j,none⟩=some u:=by
 subst hG;exact Zp
def La:Value→Nat
 | .slice _ n _=>n
 | _=>0
theorem JG {P:List (List Ins)}{I m:Nat}{r:List Ins}(h:∀ r∈P,r.length≤m) (hr:r.length≤m):∀ x∈P.set I r,x.length≤m:=by
 intro x hx;rcases List.mem_or_eq_of_mem_set hx with h' | rfl
 ·exact h x h'
 ·exact hr
theorem GO (b : Nat) (a : Option Addr) (c : Nat) (xs : List Int) (p : Int) (v : Value) (P : List (List Ins)) (w : World) (hr : Rd w b a c xs p) (hp : p ≤ 800000000) (hP : Z5 w v P) (hl : P.length ≤ 4) (hl2 : ∀ r ∈ P, r.length ≤ 8) :
    Calls Tryz.prog 77 #[.pointer (some ⟨b, 0, none⟩), v] w (QL w b a c xs p 4 (QM w.heap.size)) := by
  have HC := Za (VX v P w hP (by omega) (fun r h => Nat.le_trans (hl2 r h) (by omega)))
  have HP := Za (fun (p : Int) n w' h hp (hn : n ≤ 100) (hn0 : 0 ≤ n) => Jf b a c xs p n w' h hp (by omega) (by omega))
  have HNO := Za (fun (p : Int) G n ys w' base hb h hp ho h1 h2 => Iy b a c xs p G n ys w' base hb h hp ho h1 h2)
  have HL2 := Za hl2
  have R0 := Za hr
  have hlt := hr.lt
  clear hP hl2 hr
  go_enter Tryz.func77, Tryz.ntmps77
  go_wp2_with fail
  (with_reducible refine HC.out.mono ?_); rintro e w1 ⟨v1, rfl, hO, hb1⟩
  obtain ⟨us, hU, hold⟩ := hO.told
  have R1 := Za (R0.out.keep hb1 hlt); have O1 := Za (Outside.Zf (lo := b) (hi := b + 1) hb1)
  have hs1 := hb1.size
  have HOLD := Za hold
  clear hO hb1 R0 HC hold
  rcases hU.2.1.shape with ⟨rfl, h0⟩ | ⟨g, cap, rfl, hg1, hg2, hc1, hc2⟩
  · obtain rfl : P = [] := List.eq_nil_of_length_eq_zero (by rw [← hU.1, h0]; rfl)
    have HU := Za hU
    clear hU
    go_wp2_with fail
    go_ret
    exact ⟨_, p, rfl, ⟨[], .inl HU.out.own, by simp, by simp⟩, by omega, R1.out, O1.out⟩
  · have HU := Za hU
    have hul : us.length = P.length := hU.1
    clear hU
    generalize hn : us.length = n at *
    have HN := Za hn
    have HPN := Za hul.symm
    clear hn hul
    by_cases hn0 : n = 0
    · subst hn0
      obtain rfl : P = [] := List.eq_nil_of_length_eq_zero HPN.out
      go_wp2_with fail
      go_ret
      exact ⟨_, p, rfl, ⟨[], .inl HU.out.own, by simp, by simp⟩, by omega, R1.out, O1.out⟩
    · have hn0' : ((n : Int) == 0) = false := by simp; omega
      have hn4 : (n : Int) ≤ 4 := by have := HPN.out; omega
      go_wp2_with fail
      (with_reducible refine (HP.out p _ _ R1.out (by omega) (by omega) (by omega)).mono ?_); rintro e w2 ⟨v2, p2, rfl, ⟨q2, rfl, hq2, hq2'⟩, hp2, hr2, ho2⟩
      obtain ⟨I, rfl⟩ := Int.eq_ofNat_of_zero_le hq2
      have hI : I < n := by have := hq2' (by omega); omega
      have hI1 : (I : Int) < n := by omega
      have R2 := Za hr2; have O2 := Za (O1.out.trans ho2); have U2 := Za (HU.out.outside ho2 hlt)
      clear hr2 ho2 R1 O1 HU hq2 hq2'
      go_wp2_with fail
      (with_reducible refine (HP.out p2 _ _ R2.out (by omega) (by omega) (by omega)).mono ?_); rintro e w3 ⟨v3, p3, rfl, ⟨k, rfl, hk, -⟩, hp3, hr3, ho3⟩
      have R3 := Za hr3; have O3 := Za (O2.out.trans ho3); have U3 := Za (U2.out.outside ho3 hlt)
      have hs3 := O3.out.size
      clear hr3 ho3 R2 O2 U2
      obtain ⟨r, hrI⟩ := Zd (xs := P) (k := I) (by rw [HPN.out]; exact hI)
      have hrl := HL2.out r (List.mem_of_getElem? hrI)
      obtain ⟨⟨sa, sn, sc⟩, hsI, hgl, hcell, hrow, -⟩ := U3.out.row hrI
      have hsn : sn = r.length := Own.len hrow
      have hgb : b < g := by omega
      have hfz := U3.out.2.1.frozen 0
      by_cases h0 : k = 0
      · subst h0
        have hI0 : (0 : Int) ≤ (I : Int) := by omega
        have hrg : ∀ q, (Value.slice sa sn sc).ownBlock = some q → q ≠ g := fun q hq e => U3.out.2.2.2.2 I _ hsI q hq (by rw [e]; rfl)
        have HRW := Za hrow; have HSI := Za hsI; have HRI := Za hrI; have HSN := Za hsn
        have hfz := U3.out.2.1.frozen I
        clear hrow hsI hrI hsn
        have LA := Za ((Own.lit (E := Zo) (T := 3) (w := w3) (base := w.heap.size) (by omega) [0, 6, 1, 4] #[.int .i64 0, .int .i64 6, .int .i64 1, .int .i64 4] 4 rfl rfl (by omega)).below (Below.refl _ _).drew)
        have RA := Za ((R3.out.Zm (.cells #[.int .i64 0, .int .i64 6, .int .i64 1, .int .i64 4] 3)).keep (Below.refl _ _).drew (R3.out.Zm (.cells #[.int .i64 0, .int .i64 6, .int .i64 1, .int .i64 4] 3)).lt)
        have OA := Za (Outside.Zf (lo := b) (hi := b + 1) ((Ze w3 (.cells #[.int .i64 0, .int .i64 6, .int .i64 1, .int .i64 4] 3)).drew))
        have LABa := Za (((Own.lit (E := Zo) (T := 3) (w := w3) (base := w.heap.size) (by omega) [0, 6, 1, 4] #[.int .i64 0, .int .i64 6, .int .i64 1, .int .i64 4] 4 rfl rfl (by omega)).alloc (.cells #[.int .i64 0, .int .i64 3, .int .i64 (-1)] 3)).below (Below.refl _ _).drew)
        have LABb := Za ((Own.lit (E := Zo) (T := 3) (w := w3.alloc (.cells #[.int .i64 0, .int .i64 6, .int .i64 1, .int .i64 4] 3)) (base := w.heap.size) (by simp; omega) [0, 3, -1] #[.int .i64 0, .int .i64 3, .int .i64 (-1)] 3 rfl rfl (by omega)).below (Below.refl _ _).drew)
        have RAB := Za (((R3.out.Zm (.cells #[.int .i64 0, .int .i64 6, .int .i64 1, .int .i64 4] 3)).Zm (.cells #[.int .i64 0, .int .i64 3, .int .i64 (-1)] 3)).keep (Below.refl _ _).drew ((R3.out.Zm (.cells #[.int .i64 0, .int .i64 6, .int .i64 1, .int .i64 4] 3)).Zm (.cells #[.int .i64 0, .int .i64 3, .int .i64 (-1)] 3)).lt)
        have OAB := Za (Outside.Zf (lo := b) (hi := b + 1) (((Ze w3 (.cells #[.int .i64 0, .int .i64 6, .int .i64 1, .int .i64 4] 3)).alloc (by simp) (.cells #[.int .i64 0, .int .i64 3, .int .i64 (-1)] 3)).drew))
        have LBAb := Za (((Own.lit (E := Zo) (T := 3) (w := w3) (base := w.heap.size) (by omega) [0, 3, -1] #[.int .i64 0, .int .i64 3, .int .i64 (-1)] 3 rfl rfl (by omega)).alloc (.cells #[.int .i64 0, .int .i64 6, .int .i64 1, .int .i64 4] 3)).below (Below.refl _ _).drew)
        have LBAa := Za ((Own.lit (E := Zo) (T := 3) (w := w3.alloc (.cells #[.int .i64 0, .int .i64 3, .int .i64 (-1)] 3)) (base := w.heap.size) (by simp; omega) [0, 6, 1, 4] #[.int .i64 0, .int .i64 6, .int .i64 1, .int .i64 4] 4 rfl rfl (by omega)).below (Below.refl _ _).drew)
        have RBA := Za (((R3.out.Zm (.cells #[.int .i64 0, .int .i64 3, .int .i64 (-1)] 3)).Zm (.cells #[.int .i64 0, .int .i64 6, .int .i64 1, .int .i64 4] 3)).keep (Below.refl _ _).drew ((R3.out.Zm (.cells #[.int .i64 0, .int .i64 3, .int .i64 (-1)] 3)).Zm (.cells #[.int .i64 0, .int .i64 6, .int .i64 1, .int .i64 4] 3)).lt)
        have OBA := Za (Outside.Zf (lo := b) (hi := b + 1) (((Ze w3 (.cells #[.int .i64 0, .int .i64 3, .int .i64 (-1)] 3)).alloc (by simp) (.cells #[.int .i64 0, .int .i64 6, .int .i64 1, .int .i64 4] 3)).drew))
        go_wp2_with fail
        go_region_law
                  (first
                    | (go_simp; go_at_call 100; (with_reducible refine (HNO.out p3 _ 4 [0, 6, 1, 4] _ w.heap.size hlt (by first | exact RA.out | exact RAB.out | exact RBA.out) (by omega) (by first | exact LA.out | simpa using LABa.out | simpa using LBAa.out) (by simp) (by simp)).mono ?_); rintro e u1 ⟨v4, p4, rfl, ⟨ya, -, rfl⟩, hp4, hr4, ho4⟩; have R4 := Za hr4; have P4 : Hid (Outside b (b + 1) w3 u1) := Za (by first | exact OA.out.trans ho4 | exact OAB.out.trans ho4 | exact OBA.out.trans ho4); have O4 := Za (O3.out.trans P4.out); (first | have LB4 := Za (ho4.Qz LABb.out hlt) | have LB4 := Za (ho4.Qz LBAb.out hlt) | have LB4 := True.intro); have hc4 : u1.cell? ⟨g, I, none⟩ = some (.slice sa sn sc) := ((ZR (P4.out.block g hgl (by omega)) I).trans hcell); have hs4 := O4.out.size; have hz4 : g < u1.heap.size := (by have := P4.out.size; omega); clear hr4 ho4)
                    | (go_simp; go_at_call 100; (with_reducible refine (HNO.out p4 _ 3 [0, 3, -1] _ w.heap.size hlt (by first | exact R4.out | exact R4.out.Zm _) (by omega) (by first | simpa using LB4.out | exact Own.lit (E := Zo) (T := 3) (w := u1) (base := w.heap.size) (by omega) [0, 3, -1] #[.int .i64 0, .int .i64 3, .int .i64 (-1)] 3 rfl rfl (by omega)) (by simp) (by simp)).mono ?_); rintro e u2 ⟨v5, p5, rfl, ⟨yb, -, rfl⟩, hp5, hr5, ho5⟩; have R5 := Za hr5; have P5 : Hid (Outside b (b + 1) w3 u2) := Za (by first | exact P4.out.trans ho5 | exact (P4.out.Zm _).trans ho5); have O5 := Za (O3.out.trans P5.out); have hc5 : u2.cell? ⟨g, I, none⟩ = some (.slice sa sn sc) := ((ZR (P5.out.block g hgl (by omega)) I).trans hcell); have hf5 : u2.frozen? ⟨g, I, none⟩ = false := ((Ho P5.out).2 g I hgl (by omega)).trans hfz; have hz5 : g < u2.heap.size := (by have := P5.out.size; omega); clear hr5 ho5)
                    | (refine Ur ZH 44 Tryz.Y2 rfl Tryz.underlying42 w.heap.size (.slice sa sn sc) r ⟨ya, yb, 0, 0⟩ ((P5.out.Qz HRW.out hlt).alloc _) (by decide) (by omega) (by have := O5.out.size; simp; omega) (by rfl) _ _ (by rfl) (by rfl) _ 0 1 (by rfl) Zp ?_; intro s' w6 hown6 hgr6 hat6; obtain ⟨hg7, hg8⟩ := Rm hgr6 (g := g) (by have := P5.out.size; omega) (fun q hq e => hrg q hq e); have hc6 : w6.cell? ⟨g, I, none⟩ = some (.slice sa sn sc) := (hg7 I).trans hc5; have hf6 : w6.frozen? ⟨g, I, none⟩ = false := (hg8 I).trans hf5; have hz6 : g < w6.heap.size := (Nat.lt_of_lt_of_le hz5 (Nat.le_trans (Ze _ _).size hgr6.size)); clear hg7 hg8; have HOWN6 := Za hown6; have HGR6 := Za hgr6; have HAT6 := Za hat6; clear hown6 hgr6 hat6))
        all_goals
          have U5 := (U3.out.outside P5.out hlt).below (Ze _ (.cells #[.int .i64 ya, .int .i64 yb, .int .i64 0, .int .i64 0] 44))
          have U6 := U5.Vq HSI.out HOWN6.out HGR6.out HAT6.out
          have R6 := ((R5.out.Zm _).ZW HGR6.out (fun q hq => by have := HRW.out.XE q hq; omega)).Zv (g := g) hgb I (.slice s'.a s'.n s'.cap)
          have O6 := ((O5.out.Zm _).ZW HGR6.out (fun q hq => HRW.out.XE q hq)).Zv (g := g) hg1 I (.slice s'.a s'.n s'.cap)
          have HU6 := Za U6; have HR6 := Za R6; have HO6 := Za O6
          clear U5 U6 R6 O6
          go_wp2_with fail
          go_ret
          exact ⟨_, _, rfl, ⟨_, .inl HU6.out.own, by simp; omega, JG (fun r hr => Nat.le_trans (HL2.out r hr) (by omega)) (by simp; omega)⟩, by omega, HR6.out, HO6.out⟩
      have k0 : (k == 0) = false := by simp [h0]
      by_cases h1 : k = 1
      · subst h1
        have hI0 : (0 : Int) ≤ (I : Int) := by omega
        have hrg : ∀ q, (Value.slice sa sn sc).ownBlock = some q → q ≠ g := fun q hq e => U3.out.2.2.2.2 I _ hsI q hq (by rw [e]; rfl)
        have HRW := Za hrow; have HSI := Za hsI; have HRI := Za hrI; have HSN := Za hsn
        have hfz := U3.out.2.1.frozen I
        clear hrow hsI hrI hsn
        have LA := Za ((Own.lit (E := Zo) (T := 3) (w := w3) (base := w.heap.size) (by omega) [4, -1, 3] #[.int .i64 4, .int .i64 (-1), .int .i64 3] 3 rfl rfl (by omega)).below (Below.refl _ _).drew)
        have RA := Za ((R3.out.Zm (.cells #[.int .i64 4, .int .i64 (-1), .int .i64 3] 3)).keep (Below.refl _ _).drew (R3.out.Zm (.cells #[.int .i64 4, .int .i64 (-1), .int .i64 3] 3)).lt)
        have OA := Za (Outside.Zf (lo := b) (hi := b + 1) ((Ze w3 (.cells #[.int .i64 4, .int .i64 (-1), .int .i64 3] 3)).drew))
        go_wp2_with fail
        go_region_law
                  (first
                    | (go_simp; go_at_call 100; (with_reducible refine (HNO.out p3 _ 3 [4, -1, 3] _ w.heap.size hlt RA.out (by omega) LA.out (by simp) (by simp)).mono ?_); rintro e u2 ⟨v5, p5, rfl, ⟨yb, -, rfl⟩, hp5, hr5, ho5⟩; have R5 := Za hr5; have P5 : Hid (Outside b (b + 1) w3 u2) := Za (OA.out.trans ho5); have O5 := Za (O3.out.trans P5.out); have hc5 : u2.cell? ⟨g, I, none⟩ = some (.slice sa sn sc) := ((ZR (P5.out.block g hgl (by omega)) I).trans hcell); have hf5 : u2.frozen? ⟨g, I, none⟩ = false := ((Ho P5.out).2 g I hgl (by omega)).trans hfz; have hz5 : g < u2.heap.size := (by have := P5.out.size; omega); clear hr5 ho5)
                    | (refine Ur ZH 44 Tryz.Y2 rfl Tryz.underlying42 w.heap.size (.slice sa sn sc) r ⟨2, 0, 0, yb⟩ ((P5.out.Qz HRW.out hlt).alloc _) (by decide) (by omega) (by have := O5.out.size; simp; omega) (by rfl) _ _ (by rfl) (by rfl) _ 0 1 (by rfl) Zp ?_; intro s' w6 hown6 hgr6 hat6; obtain ⟨hg7, hg8⟩ := Rm hgr6 (g := g) (by have := P5.out.size; omega) (fun q hq e => hrg q hq e); have hc6 : w6.cell? ⟨g, I, none⟩ = some (.slice sa sn sc) := (hg7 I).trans hc5; have hf6 : w6.frozen? ⟨g, I, none⟩ = false := (hg8 I).trans hf5; have hz6 : g < w6.heap.size := (Nat.lt_of_lt_of_le hz5 (Nat.le_trans (Ze _ _).size hgr6.size)); clear hg7 hg8; have HOWN6 := Za hown6; have HGR6 := Za hgr6; have HAT6 := Za hat6; clear hown6 hgr6 hat6))
        all_goals
          have U5 := (U3.out.outside P5.out hlt).below (Ze _ (.cells #[.int .i64 2, .int .i64 0, .int .i64 0, .int .i64 yb] 44))
          have U6 := U5.Vq HSI.out HOWN6.out HGR6.out HAT6.out
          have R6 := ((R5.out.Zm _).ZW HGR6.out (fun q hq => by have := HRW.out.XE q hq; omega)).Zv (g := g) hgb I (.slice s'.a s'.n s'.cap)
          have O6 := ((O5.out.Zm _).ZW HGR6.out (fun q hq => HRW.out.XE q hq)).Zv (g := g) hg1 I (.slice s'.a s'.n s'.cap)
          have HU6 := Za U6; have HR6 := Za R6; have HO6 := Za O6
          clear U5 U6 R6 O6
          go_wp2_with fail
          go_ret
          exact ⟨_, _, rfl, ⟨_, .inl HU6.out.own, by simp; omega, JG (fun r hr => Nat.le_trans (HL2.out r hr) (by omega)) (by simp; omega)⟩, by omega, HR6.out, HO6.out⟩
      have k1 : (k == 1) = false := by simp [h1]
      by_cases h2 : k = 2
      · subst h2
        clear hsn hrow hcell hfz hsI hrI hgl
        go_wp2_with fail
        go_loopw [5] (fun o wr => ∃ (P' : List (List Ins)) (oa : Option Addr) (on oc : Nat), o = .slice oa on oc ∧ Hid (on = P'.length) ∧ on ≤ 4 ∧ Hid (∀ r ∈ P', r.length ≤ 8) ∧ Hid (Kl wr w.heap.size (.slice oa on oc) P') ∧ Hid (Rd wr b a c xs p3) ∧ Hid (Outside b (b + 1) w wr)) (fun o _ => 4 - La o)
        case atStart => exact ⟨P, some ⟨g, 0, none⟩, n, cap, rfl, Za HPN.out.symm, by omega, HL2, Za U3.out.own, R3, O3⟩
        case round =>
          obtain ⟨P', oa, on, oc, rfl, HON, hon4, HPL, HOW, HRR, HOO⟩ := hrel
          obtain ⟨wm, rfl⟩ : ∃ wm : World, wm = wr := ⟨_, rfl⟩
          have hsm := HOO.out.size
          by_cases hle : on ≤ 3
          · have hle' : (on : Int) ≤ 3 := by omega
            obtain ⟨us', hU', hold'⟩ := HOW.out.told
            have HU' := Za hU'; have HOLD' := Za hold'
            have hub : us'.length ≤ 68719476736 := by have := HON.out; have := hU'.1; omega
            clear hU' hold'
            go_wp2_with (at_builtin; refine Z3 Zw 42 Tryz.YT rfl Tryz.underlying28 w.heap.size _ us' ⟨some ⟨wm.heap.size, 0, none⟩, 0, 0⟩ ((HU'.out.2.1.alloc _).alloc _) (by decide) hub (by simp; omega) rfl _ _ rfl rfl _ 0 1 rfl (AJ (by simp)) ?_; intro v5 w5 ho5 hgr5)
            have hem := (Own.empty (E := ZH) 44 wm (Nat.le_refl _)).alloc (.cells #[.slice (some ⟨wm.heap.size, 0, none⟩) 0 0] 42)
            have ho6 := ((HU'.out.below (Ze _ _)).below (Ze _ _)).Bl (by decide) (fun i u hu q hq => (HOLD'.out i u hu q hq).2) hsm (s := ⟨some ⟨wm.heap.size, 0, none⟩, 0, 0⟩) hem ho5 hgr5
            have R6 := ((HRR.out.Zm _).Zm _).ZW hgr5 (fun q hq => by have := HU'.out.2.1.XE q hq; omega)
            have O6 := ((HOO.out.Zm _).Zm _).ZW hgr5 (fun q hq => HU'.out.2.1.XE q hq)
            obtain ⟨va, vn, vc, rfl, hvn⟩ := ho5.Jv
            have hvn2 : vn = on + 1 := by rw [hvn, List.length_append, HU'.out.1, ← HON.out]; rfl
            have E1 := Za (show vn = (P' ++ [[]]).length by rw [hvn2, List.length_append, ← HON.out]; rfl)
            have HO6 := Za ho6; have HR6 := Za R6; have HO7 := Za O6
            have hvn4 : vn ≤ 4 := by omega
            have hvn5 : 4 - vn < 4 - on := by omega
            clear ho5 ho6 R6 O6 hgr5 hem hvn hvn2
            go_roundw
            case rel => exact ⟨P' ++ [[]], va, vn, vc, rfl, E1, hvn4, Za (fun r hr => by
              rcases List.mem_append.1 hr with h | h
              · exact HPL.out r h
              · rw [List.mem_singleton.1 h]; simp), HO6, HR6, HO7⟩
            case measure => simpa [La] using hvn5
          · have hle' : decide ((on : Int) ≤ 3) = false := decide_eq_false (by omega)
            go_wp2_with fail
            go_ret
            exact ⟨_, p3, rfl, ⟨P', .inl HOW.out, by have := HON.out; omega, fun r hr => Nat.le_trans (HPL.out r hr) (by omega)⟩, by omega, HRR.out, HOO.out⟩
      have k2 : (k == 2) = false := by simp [h2]
      by_cases h3 : k = 3
      · subst h3
        have HRI := Za hrI
        have U4 : Hid (Yt ZH 42 44 us w3 w.heap.size (.slice (some ⟨g, 0, none⟩) n cap) (P.set I r)) := Za (by
          have e : P.set I r = P := by
            apply List.ext_getElem?
            intro j
            rw [List.getElem?_set]
            split
            · rename_i e; subst e; rw [if_pos (by have := HPN.out; omega), HRI.out]
            · rfl
          rw [e]; exact U3.out)
        clear hsn hrow hcell hfz hsI hrI U3
        go_wp2_with fail
        go_loopg [] (8 - r.length) (fun gk wr => ∃ (r' : List Ins) (us' : List Zt), Hid (r'.length + gk = 8) ∧ Hid (us'.length = n) ∧ Hid (Yt ZH 42 44 us' wr w.heap.size (.slice (some ⟨g, 0, none⟩) n cap) (P.set I r')) ∧ Hid (Rd wr b a c xs p3) ∧ Hid (Outside b (b + 1) w wr))
        case atStart => exact ⟨r, us, Za (by omega), HN, U4, R3, O3⟩
        case round =>
          obtain ⟨r', us', HGK, HUN, HU', HRR, HOO⟩ := hrel
          have hIP : (P.set I r')[I]? = some r' := by rw [List.getElem?_set, if_pos rfl, if_pos (by have := HPN.out; omega)]
          obtain ⟨⟨sa, sn, sc⟩, hsI, hgl, hcell, hrow, -⟩ := HU'.out.row hIP
          have hsn : sn = r'.length := Own.len hrow
          have hrg : ∀ q, (Value.slice sa sn sc).ownBlock = some q → q ≠ g := fun q hq e => HU'.out.2.2.2.2 I _ hsI q hq (by rw [e]; rfl)
          have hfz := HU'.out.2.1.frozen I
          have hsm := HOO.out.size
          have hgk := HGK.out
          by_cases hle : sn ≤ 7
          · have hle' : (sn : Int) ≤ 7 := by omega
            have hrb : r'.length ≤ 68719476736 := by omega
            have HRW := Za hrow; have HSI := Za hsI; have HSN := Za hsn; have HRG := Za hrg
            clear hrow hsI hsn hrg hIP hgk
            go_wp2_with (at_builtin; refine ZA ZH 44 Tryz.Y2 rfl Tryz.underlying42 w.heap.size (.slice sa sn sc) r' ⟨1, 0, 0, 0⟩ (HRW.out.alloc _) (by decide) hrb (by simp; omega) rfl _ _ rfl rfl _ 0 1 rfl Zp ?_; intro v6 w6 hown6 hgr6 hat6; obtain ⟨⟨s1, s2, s3⟩, rfl, -⟩ := Own.YL hown6; obtain ⟨hg7, hg8⟩ := Rm hgr6 (g := g) hgl (fun q hq e => HRG.out q hq e); have hc6 : w6.cell? ⟨g, I, none⟩ = some (.slice sa sn sc) := (hg7 I).trans hcell; have hf6 : w6.frozen? ⟨g, I, none⟩ = false := (hg8 I).trans hfz; have hz6 : g < w6.heap.size := (Nat.lt_of_lt_of_le hgl (Nat.le_trans (Ze _ _).size hgr6.size)); clear hg7 hg8; have HOWN6 := Za hown6; have HGR6 := Za hgr6; have HAT6 := Za hat6; clear hown6 hgr6 hat6)
            have U5 := HU'.out.below (Ze _ (.cells #[.int .i64 1, .int .i64 0, .int .i64 0, .int .i64 0] 44))
            have U6 := U5.Vq (s' := ⟨s1, s2, s3⟩) HSI.out HOWN6.out HGR6.out HAT6.out
            rw [List.set_set] at U6
            have R6 := ((HRR.out.Zm _).ZW HGR6.out (fun q hq => by have := HRW.out.XE q hq; omega)).Zv (g := g) hgb I (.slice s1 s2 s3)
            have O6 := ((HOO.out.Zm _).ZW HGR6.out (fun q hq => HRW.out.XE q hq)).Zv (g := g) hg1 I (.slice s1 s2 s3)
            have HU6 := Za U6; have HR6 := Za R6; have HO6 := Za O6
            have hgk2 : gk - 1 < gk := by have := HGK.out; have := HSN.out; omega
            clear U5 U6 R6 O6 HOWN6 HAT6 HGR6
            go_roundg (gk - 1)
            case rel => exact ⟨r' ++ [⟨1, 0, 0, 0⟩], us'.set I ⟨s1, s2, s3⟩, Za (by rw [List.length_append]; have := HGK.out; simp; omega), Za (by rw [List.length_set]; exact HUN.out), HU6, HR6, HO6⟩
            case measure => exact hgk2
          · have hle' : decide ((sn : Int) ≤ 7) = false := decide_eq_false (by omega)
            clear hsI hrow hrg hsn hIP
            have HRW := hgk
            clear hgk
            go_wp2_with fail
            go_ret
            exact ⟨_, p3, rfl, ⟨_, .inl HU'.out.own, by rw [List.length_set]; omega, JG (fun r hr => Nat.le_trans (HL2.out r hr) (by omega)) (by have := HGK.out; omega)⟩, by omega, HRR.out, HOO.out⟩
      have k3 : (k == 3) = false := by simp [h3]
      clear h0 h1 h2 h3 hsn hrow hcell hfz hsI hrI
      by_cases h4 : k = 4
      · subst h4
        have hc1' : (1 : Int) ≤ (cap : Int) := by omega
        have hn1' : (1 : Int) ≤ (n : Int) := by omega
        obtain ⟨x, P', rfl⟩ : ∃ x P', P = x :: P' := by
          cases P with
          | nil => exact absurd HPN.out (by simp; omega)
          | cons x P' => exact ⟨x, P', rfl⟩
        by_cases hc : cap = 1
        · subst hc
          obtain rfl : n = 1 := by omega
          obtain rfl : P' = [] := List.eq_nil_of_length_eq_zero (by have := HPN.out; simp at this; simpa using this)
          go_wp2_with fail
          go_ret
          exact ⟨_, p3, rfl, ⟨[], .inr (.inr ⟨g, rfl, rfl⟩), by simp, by simp⟩, by omega, R3.out, O3.out⟩
        · have hc' : ((cap : Int) == 1) = false := by simp; omega
          have hc3 : (1 : Int) < (cap : Int) := by omega
          have hc4 : 1 < cap := by omega
          clear hc
          go_wp2_with fail
          go_ret
          exact ⟨_, p3, rfl, ⟨P', .inr (.inl ⟨g, n, cap, x, U3.out.own, rfl⟩), by simp at hl; omega, fun r hr => Nat.le_trans (HL2.out r (by simp [hr])) (by omega)⟩, by omega, R3.out, O3.out⟩
      · have k4 : (k == 4) = false := by simp [h4]
        clear h4
        go_wp2_with fail
        go_ret
        exact ⟨_, p3, rfl, ⟨P, .inl U3.out.own, by omega, fun r hr => Nat.le_trans (HL2.out r hr) (by omega)⟩, by omega, R3.out, O3.out⟩
end Go.Proofs.YtngekjpklkjnbaaGreat