/-
  slices.Backward on gaps. Condition: a bound on the length.
-/
import Derived.Test.YtlddmagfbcomgaaGreatZq02
import Derived.RangeFuncNested
import Derived.RangeFuncBound
import Derived.RangeFuncCalls
import Derived.RangeFuncLeaves
import Derived.Shelf.Abstract
import Derived.Shelf.RegionOpen
import Derived.OwnWalkIn
import Derived.TacticsInMore
import Derived.LoopNIn
import Derived.LoopIn
set_option maxHeartbeats 6400000
set_option maxRecDepth 100000
namespace Go.Proofs.YtlddmagfbcomgaaGreat
open Go.RowKit Go.Shelf
attribute [local go_sem] Oper.semAt_some
structure Keep2 (x y:Nat) (W W':World):Prop where
 one:W'.heap[x]? = W.heap[x]?
 two:W'.heap[y]? = W.heap[y]?
 size:W.heap.size≤W'.heap.size
theorem Keep2.refl (x y:Nat) (W:World):Keep2 x y W W:=⟨rfl,rfl,Nat.le_refl _⟩
theorem Keep2.trans {x y:Nat} {A B C:World} (h:Keep2 x y A B) (k:Keep2 x y B C):Keep2 x y A C:=⟨k.one.trans h.one,k.two.trans h.two,Nat.le_trans h.size k.size⟩
theorem keep2_b {x y:Nat} {w:World} (hx:x < w.heap.size) (hy:y < w.heap.size) (W:World) (l:Nat) (o o':Obj) (hl:w.heap.size≤l) (h:W.heap[l]? = some o) (_:o.isCells=false) (_:o.isWalk=false):Keep2 x y W (W.putObj l o'):=by
 have hg:=grownBy_putObj' W l o'
 have hlt:=(Array.getElem?_eq_some_iff.1 h).1
 exact ⟨hg.block x (by omega) (by simp;omega),hg.block y (by omega) (by simp;omega),hg.size⟩
theorem cell_of_blk {w w':World} {b:Nat} (h:w'.heap[b]? = w.heap[b]?) {o:Nat} {v:Value} (hc:w.cell? ⟨b,o,none⟩=some v):w'.cell? ⟨b,o,none⟩=some v:=by
 rw [← hc];unfold World.cell?;rw [h]
theorem back_take {α:Type} (zs:List α) {k m:Nat} {z:α} (hz:zs[m]? = some z) (hk:k+(m+1)=zs.length):zs.zipIdx.reverse.take (k+1)=zs.zipIdx.reverse.take k++[(z,m)]:=by
 rw [List.take_add_one]
 congr 1
 have hml:=(List.getElem?_eq_some_iff.1 hz).1
 rw [List.getElem?_reverse (by rw [List.length_zipIdx];omega),List.length_zipIdx,show zs.length - 1 - k=m by omega,List.getElem?_zipIdx,hz]
 simp
theorem backG_in {Pr : Gp → Prop} (n : Nat) (hn : 1 ≤ n) (l Bs b off cap : Nat) (zs : List {g : Gp // Pr g}) (J Jx : List ({g : Gp // Pr g} × Nat) → World → Prop)
    (hY : ∀ pre x W, J pre W → pre.length < zs.length → YieldAt Fence.wide (n - 1) Tryz.prog l #[.int .i64 (x.2 : Int), x.1.1.v] W fun e W' =>
      (e = .returned (.bool true) ∧ J (pre ++ [x]) W' ∧ Keep2 Bs b W W') ∨ (e = .returned (.bool false) ∧ Jx (pre ++ [x]) W'))
    (W : World) (hBs : W.cell? ⟨Bs, 0, none⟩ = some (.slice (some ⟨b, off, none⟩) zs.length cap))
    (hc : ∀ (j : Nat) z, zs[j]? = some z → W.cell? ⟨b, off + j * 2, none⟩ = some (.int .i64 z.1.t) ∧ W.cell? ⟨b, off + j * 2 + 1, none⟩ = some (.int .i64 z.1.i)) (h0 : J [] W) (hl : zs.length ≤ 1048576) :
    CallsIn Fence.wide n Tryz.prog 107 #[.func (.yield l) #[] #[], .pointer (some ⟨Bs, 0, none⟩)] W fun e W' => (∃ v, e = .returned v) ∧
      ((∃ ys, ys = zs.zipIdx.reverse ∧ J ys W') ∨ (∃ pre, Jx pre W')) := by
  refine callsIn_of_wp Tryz.func107 rfl trivial ?_ rfl
  simp only [Tryz.ntmps107, List.size_toArray, List.length_cons, List.length_nil, Nat.reduceAdd, Nat.reduceSub, Array.replicate_succ, Array.replicate_zero, List.push_toArray, List.append_toArray, List.nil_append, List.cons_append]
  have BT := hide (fun (k m : Nat) z h1 h2 => back_take zs (k := k) (m := m) (z := z) h1 h2)
  have BA : Hid (zs.zipIdx.reverse.take zs.length = zs.zipIdx.reverse) := hide (List.take_of_length_le (by simp))
  have BL : Hid (∀ k, k ≤ zs.length → (zs.zipIdx.reverse.take k).length = k) := hide (fun k hk => by simp; omega)
  generalize hlen : zs.length = len at *
  have HLEN := hide hlen
  clear hlen
  have hBlt := lt_of_cell hBs
  gi_wp2
  gi_loopw [3] (fun i wr => ∃ k m : Nat, k + m = len ∧ i = .int .i64 ((m : Int) - 1) ∧ J (zs.zipIdx.reverse.take k) wr ∧ Keep2 Bs b W wr) (fun i _ => (intOf i + 1).toNat)
  case atStart => exact ⟨0, len, by omega, rfl, by simpa using h0, Keep2.refl _ _ _⟩
  case round =>
    obtain ⟨k, m, hkm, rfl, hJs, hkp⟩ := hrel
    have hB2 := cell_of_blk hkp.one hBs
    have hBlt2 := lt_of_cell hB2
    cases m with
    | zero =>
      have e0 : decide ((((0 : Nat) : Int) - 1) ≥ 0) = false := by decide
      gi_wp2
      go_end0
      exact ⟨⟨_, rfl⟩, .inl ⟨_, rfl, by rw [← BA.out]; have : k = len := by omega
                                        rw [← this]; exact hJs⟩⟩
    | succ m =>
      have em : (((m + 1 : Nat) : Int) - 1) = (m : Int) := by omega
      rw [em]
      obtain ⟨z, hz⟩ := get_of_lt (xs := zs) (k := m) (by have := HLEN.out; omega)
      obtain ⟨c0, c1⟩ := hc m z hz
      have d0 := cell_of_blk hkp.two c0
      have d1 := cell_of_blk hkp.two c1
      have hblt2 := lt_of_cell d0
      have hml : (m : Int) < len := by omega
      obtain ⟨fn, tmps, assign, body, hy, hR⟩ := hY _ (z, m) wr hJs (by rw [BL.out k (by omega)]; omega)
      have BT2 := hide (BT.out k m z hz (by have := HLEN.out; omega))
      have HR := hide hR
      clear hR c0 c1 hz
      dsimp only at hy
      gi_wp2
      refine HR.out.mono ?_
      rintro e W3 (⟨rfl, hJ3, hk3⟩ | ⟨rfl, hJx3⟩)
      · gi_wp2
        go_roundw
        case rel => exact ⟨k + 1, m, by omega, by go_num, by rw [BT2.out]; exact hJ3, hkp.trans hk3⟩
        case measure => simp [intOf]
      · gi_wp2
        refine bodyPost_ret (results_none rfl _ _ _) rfl ?_
        exact ⟨⟨_, rfl⟩, .inr ⟨_, hJx3⟩⟩
theorem backG_nil_in {Pr:Gp→Prop} (n:Nat) (l Bs:Nat) (a:Option Addr) (c:Nat) (J:List ({g:Gp // Pr g} × Nat)→World→Prop)
 (W:World) (hBs:W.cell? ⟨Bs,0,none⟩=some (.slice a 0 c)) (h0:J [] W) :
 CallsIn Fence.wide n Tryz.prog 107 #[.func (.yield l) #[] #[], .pointer (some ⟨Bs,0,none⟩)] W fun e W'=>(∃ v,e = .returned v)∧J [] W':=by
 refine callsIn_of_wp Tryz.func107 rfl trivial ?_ rfl
 simp only [Tryz.ntmps107,List.size_toArray,List.length_cons,List.length_nil,Nat.reduceAdd,Nat.reduceSub,Array.replicate_succ,Array.replicate_zero,List.push_toArray,List.append_toArray,List.nil_append,List.cons_append]
 have hBlt:=lt_of_cell hBs
 gi_wp2
 gi_loopw [3] (fun i wr=>i = .int .i64 (-1)∧J [] wr) (fun _ _=>0)
 case atStart=>exact ⟨rfl,h0⟩
 case round =>
  obtain ⟨rfl,hJs⟩:=hrel
  gi_wp2
  go_end0
  exact ⟨⟨_,rfl⟩,hJs⟩
theorem Backward_any (a:Option Addr) (len cap:Nat) (w:World) :
 Calls Tryz.prog 51 #[.slice a len cap] w fun e w'=>e = .returned (.func (.func 107) #[] #[.pointer (some ⟨w.heap.size,0,none⟩)])∧w'=w.alloc (.cells #[.slice a len cap] 24):=by
 go_enter Tryz.func51,Tryz.ntmps51
 go_wp2
 go_ret
 exact ⟨rfl,rfl⟩
theorem backG_stops {Pr:Gp→Prop} (n:Nat) (hn:1≤n) (Bs b:Nat) (v:Value) (zs:List {g:Gp // Pr g}) (hl:zs.length≤1048576) (w:World) (hBs:Bs < w.heap.size) (hc:w.cell? ⟨Bs,0,none⟩=some v)
 (hr:Rep GapE w v (zs.map (·.1))) (hb:∀ g o,v = .slice (some ⟨g,o,none⟩) zs.length (match v with | .slice _ _ c=>c | _=>0)→zs≠[]→g=b) :
 SeqStopsK Fence.wide n Tryz.prog 107 #[.pointer (some ⟨Bs,0,none⟩)] (fun x:{g:Gp // Pr g} × Nat => #[Value.int .i64 (x.2:Int),x.1.1.v]) (Keep2 Bs b) (fun ys=>ys=zs.zipIdx.reverse)
  (fun _=>True) zs.length w:=fun l J Jx W hW _ _ hY h0=>by
 have hc':=(hW.cell (p:=⟨Bs,0,none⟩) hBs).trans hc
 have hr':=hr.below hW
 obtain ⟨a,c,rfl,h1,h2,hx⟩:=hr'
 rw [List.length_map] at hc' h1
 by_cases hz:zs=[]
 ·subst hz
  exact (backG_nil_in n l Bs _ _ J W hc' h0).mono fun e W' ⟨he,hj⟩=>⟨he, .inl ⟨_,rfl,hj⟩⟩
 ·obtain ⟨z0,hz0⟩:=get_of_lt (xs:=zs) (k:=0) (List.length_pos_iff.2 hz)
  obtain ⟨b',o,rfl, -⟩:=hx 0 z0.1 (by rw [List.getElem?_map,hz0];rfl)
  obtain rfl:b'=b:=hb b' o (by rw [List.length_map]) hz
  refine (backG_in n hn l Bs b' o c zs J Jx hY W hc' (fun j z hj => ?_) h0 hl).mono fun e W' ⟨he,h⟩=>⟨he,h.imp (fun ⟨ys,e,hj⟩=>⟨ys,e,hj⟩) (fun ⟨pre,hj⟩=>⟨pre,trivial,hj⟩)⟩
  obtain ⟨b2,o2,e2,h2⟩:=hx j z.1 (by rw [List.getElem?_map,hj];rfl)
  simp only [Option.some.injEq,Addr.mk.injEq,and_true] at e2
  obtain ⟨rfl,rfl⟩:=e2
  exact ⟨h2 0 _ rfl,h2 1 _ rfl⟩
end Go.Proofs.YtlddmagfbcomgaaGreat