/-
  The arguments that are drawn for CondSame. Condition: none but the bytes' own.
-/
import Derived.Test.YtlddmagfbcomgaaGreatZq00
import Derived.Deep.RegionHeld3
import Derived.Deep.DeepCutAuto
set_option maxHeartbeats 6400000
set_option maxRecDepth 100000
namespace Go.Proofs.YtlddmagfbcomgaaGreat
open Go.RowKit
def Pick (n:Int) (v:Value) (_:World):Prop:=∃ q:Int,v = .int .i64 q∧0≤q∧(1≤n→q < n)
theorem Outside.of_below {lo hi:Nat} {w w':World} (h:Below w.heap.size w w'):Outside lo hi w w':=⟨h.os,h.tape,h.output,h.size,fun k hk _=>h.block k hk⟩
theorem xor64_nat (a b:Nat) (ha:a < 9223372036854775808) (hb:b < 9223372036854775808):bits .xor .i64 (a:Int) (b:Int)=((a ^^^ b:Nat):Int):=by
 have hx:a ^^^ b < 2 ^ 63:=Nat.xor_lt_two_pow (by omega) (by omega)
 have h1:(BitVec.ofInt 64 (a:Int)).toNat=a:=by
  rw [BitVec.ofInt_natCast,BitVec.toNat_ofNat];exact Nat.mod_eq_of_lt (by omega)
 have h2:(BitVec.ofInt 64 (b:Int)).toNat=b:=by
  rw [BitVec.ofInt_natCast,BitVec.toNat_ofNat];exact Nat.mod_eq_of_lt (by omega)
 show IntKind.i64.wrap ((BitVec.ofInt 64 (a:Int) ^^^ BitVec.ofInt 64 (b:Int)).toNat:Int)=_
 rw [BitVec.toNat_xor,h1,h2,IntKind.wrap_i64]
 omega
theorem xor64_nonneg (x:Int) (h0:0≤x) (h1:x < 9223372036854775808):0≤bits .xor .i64 x (x / 64):=by
 obtain ⟨X,rfl⟩:=Int.eq_ofNat_of_zero_le h0
 have d:((X:Int) / 64)=((X / 64:Nat):Int):=by simp
 rw [d,xor64_nat X (X / 64) (by omega) (by omega)]
 omega
theorem pick_any (b:Nat) (a:Option Addr) (c:Nat) (xs:List Int) (p n:Int) (w:World) (hr:Rd w b a c xs p) (hp:p≤1000000000) (hn:n≤1000000000) (hn0 : -1000000000≤n) :
 Calls Tryz.prog 101 #[.pointer (some ⟨b,0,none⟩), .int .i64 n] w (RetRd w b a c xs p 1 (Pick n)):=by
 have h0:=hr.c0;have h1:=hr.c1;have hf:=hr.f1;have hlt:=hr.lt;have hp0:=hr.p0
 have HS:=hide (hr.step (p+1) (by omega))
 have HO:Hid (Outside b (b+1) w (w.setCell ⟨b,1,none⟩ (.int .i64 (p+1)))):=hide ((Outside.refl b (b+1) w).grown (row:=some b) ⟨rfl,rfl,rfl,by simp,fun q _ hq=>heap_setCell_other w ⟨b,1,none⟩ q _ (fun e=>hq (by simp [e]))⟩ (fun q hq=>by simp at hq;omega))
 by_cases hn1:n < 1
 ·go_enter Tryz.func101,Tryz.ntmps101
  go_wp2_with fail
  go_ret
  exact ⟨_,_,rfl,⟨0,rfl,by omega,fun h=>by omega⟩,Int.le_refl _,HS.out,HO.out⟩
 ·have hn1':decide (n < 1)=false:=decide_eq_false hn1
  obtain ⟨aa,cc,hv,hc1,hc2,hc3, -⟩:=hr.rep.open
  simp only [Value.slice.injEq,true_and] at hv
  obtain ⟨rfl,rfl⟩:=hv
  by_cases hx:xs.length=0
  ·have hx':((xs.length:Int)==0)=true:=by rw [hx];rfl
   generalize hl:xs.length=l at *
   clear hl
   go_enter Tryz.func101,Tryz.ntmps101
   go_wp2_with fail
   go_ret
   exact ⟨_,_,rfl,⟨0,rfl,by omega,fun h=>by omega⟩,Int.le_refl _,HS.out,HO.out⟩
  ·have hx':((xs.length:Int)==0)=false:=by simp;intro h;exact hx (by rw [h];rfl)
   obtain ⟨P,rfl⟩:=Int.eq_ofNat_of_zero_le hp0
   by_cases hk:P < xs.length
   ·obtain ⟨y,hy⟩:=get_of_lt hk
    obtain ⟨g,o,rfl,hg,i0⟩:=hr.rep.byte hy
    have hgb:=hr.far g o (by intro e;simp [e] at hk) rfl
    have hyb:=hr.by' y (List.mem_of_getElem? hy)
    have hk':=nat_of_lt hk
    have hgne:g≠b:=by omega
    clear hy hr
    generalize xs.length=l at *
    go_enter Tryz.func101,Tryz.ntmps101
    go_wp2_with fail
    go_ret
    exact ⟨_,_,rfl,⟨y % n,rfl,Int.emod_nonneg _ (by omega),fun h=>Int.emod_lt_of_pos _ (by omega)⟩,Int.le_refl _,HS.out,HO.out⟩
   ·have hxl:0 < xs.length:=by omega
    obtain ⟨K1,hK1⟩:∃ K:Nat,(P:Int) % (xs.length:Int)=(K:Int):=⟨P % xs.length,by simp⟩
    obtain ⟨K2,hK2⟩:∃ K:Nat,((P:Int) * 7+3) % (xs.length:Int)=(K:Int):=⟨(P * 7+3) % xs.length,by simp⟩
    have hl1:(K1:Int) < xs.length:=by rw [← hK1];exact Int.emod_lt_of_pos _ (by omega)
    have hl2:(K2:Int) < xs.length:=by rw [← hK2];exact Int.emod_lt_of_pos _ (by omega)
    have hl1':K1 < xs.length:=by omega
    have hl2':K2 < xs.length:=by omega
    obtain ⟨y1,hy1⟩:=get_of_lt hl1'
    obtain ⟨y2,hy2⟩:=get_of_lt hl2'
    obtain ⟨g,o,rfl,hg,i0⟩:=hr.rep.byte hy1
    obtain ⟨g',o',hge,hg',j0⟩:=hr.rep.byte hy2
    simp only [Option.some.injEq,Addr.mk.injEq,and_true] at hge
    obtain ⟨rfl,rfl⟩:=hge
    have hgb:=hr.far g o (by intro e;simp [e] at hxl) rfl
    have hyb1:=hr.by' y1 (List.mem_of_getElem? hy1)
    have hyb2:=hr.by' y2 (List.mem_of_getElem? hy2)
    have hgne:g≠b:=by omega
    have hkge:decide ((P:Int) < xs.length)=false:=decide_eq_false (by omega)
    have hq1:0≤(P:Int) / (xs.length:Int):=Int.ediv_nonneg (by omega) (by omega)
    have hq2:(P:Int) / (xs.length:Int)≤(P:Int):=Int.ediv_le_self _ (by omega)
    clear hy1 hy2 hr hx
    generalize xs.length=l at *
    generalize hQ:(P:Int) / (l:Int)=Q at *
    have hQ2:(P:Int) / (l:Int)=Q:=hQ
    go_enter Tryz.func101,Tryz.ntmps101
    go_wp2_with fail
    refine wp_region_bw (by kernel_rfl) (by kernel_rfl) ?_
    repeat (go_big_quiet_step (fail))
    refine wpQuiet_nil ?_
    intro w1 hb1
    go_wp2_with fail
    go_ret
    have hX0:0≤y1 * 131+y2 * 1117+(P:Int) * 29+Q * 53:=by omega
    have hX1:y1 * 131+y2 * 1117+(P:Int) * 29+Q * 53 < 9223372036854775808:=by omega
    have hz:=xor64_nonneg _ hX0 hX1
    refine ⟨_,_,rfl,⟨_,rfl,Int.tmod_nonneg _ hz,fun h=>Int.tmod_lt_of_pos _ (by omega)⟩,Int.le_refl _,HS.out.keep hb1 (by simpa using hlt),HO.out.trans (Outside.of_below hb1)⟩
theorem cell_of_block3 {w w':World} {b:Nat} (h:w'.heap[b]? = w.heap[b]?) (o:Nat):w'.cell? ⟨b,o,none⟩=w.cell? ⟨b,o,none⟩:=by
 unfold World.cell?
 rw [h]
def OneOf (ys:List Int) (v:Value) (_:World):Prop:=∃ y∈ys,v = .int .i64 y
theorem num_any (b:Nat) (a:Option Addr) (c:Nat) (xs:List Int) (p:Int) (v:Value) (ys:List Int) (w:World) (hr:Rd w b a c xs p) (hp:p≤1000000000) (hy:Rep IntE w v ys) (hl:ys.length≤100) (h0:1≤ys.length) (hfar:∀ g o,v = .slice (some ⟨g,o,none⟩) ys.length (match v with | .slice _ _ c=>c | _=>0)→g≠b) :
 Calls Tryz.prog 102 #[.pointer (some ⟨b,0,none⟩),v] w (RetRd w b a c xs p 1 (OneOf ys)):=by
 obtain ⟨a2,c2,rfl, -, -, -,hy⟩:=hy.open
 have HY:=hide hy;clear hy
 have HF:=hide hfar;clear hfar
 have HP:=hide (fun w' h=>pick_any b a c xs p ys.length w' h hp (by omega) (by omega))
 generalize hn:ys.length=n at *
 have H:=hide hn;clear hn
 go_enter Tryz.func102,Tryz.ntmps102
 go_wp2_with fail
 (with_reducible refine (HP.out _ hr).mono ?_);rintro e w1 ⟨v1,p1,rfl,⟨q,rfl,hq0,hq1⟩,hp1,hr1,ho1⟩
 obtain ⟨Q,rfl⟩:=Int.eq_ofNat_of_zero_le hq0
 have hQ:Q < n:=by have:=hq1 (by omega);omega
 obtain ⟨y,hyq⟩:=get_of_lt (xs:=ys) (k:=Q) (by rw [H.out];exact hQ)
 obtain ⟨g,o,rfl,hg,i0⟩:=HY.out.int hyq
 have hgb:=HF.out g o rfl
 have i1:w1.cell? ⟨g,o+Q,none⟩=some (.int .i64 y):=by
  rw [← i0]
  refine cell_of_block3 (ho1.block g hg (by omega)) _
 have hQ':=nat_of_lt hQ
 have hm:=List.mem_of_getElem? hyq
 clear hyq i0
 go_wp2_with fail
 go_ret
 exact ⟨_,p1,rfl,⟨y,hm,rfl⟩,hp1,hr1,ho1⟩
end Go.Proofs.YtlddmagfbcomgaaGreat
namespace Go.Proofs.YtlddmagfbcomgaaGreat
open Go.RowKit
theorem belowAlloc (w:World) (o:Obj):Below w.heap.size w (w.alloc o):=(Below.refl _ _).alloc (Nat.le_refl _) o
theorem ocell {b:Nat} {W w1:World} (h:Outside b (b+1) W w1):(∀ g o,g < W.heap.size→g≠b→w1.cell? ⟨g,o,none⟩=W.cell? ⟨g,o,none⟩)∧(∀ g o,g < W.heap.size→g≠b→w1.frozen? ⟨g,o,none⟩=W.frozen? ⟨g,o,none⟩):=by
 refine ⟨fun g o hg hne=>cell_of_block (h.block g hg (by omega)) o,fun g o hg hne => ?_⟩
 have:=h.block g hg (by omega)
 unfold World.frozen?
 rw [this]
theorem Outside.setNew {lo hi:Nat} {w w':World} (h:Outside lo hi w w') {g:Nat} (hg:w.heap.size≤g) (j:Nat) (v:Value):Outside lo hi w (w'.setCell ⟨g,j,none⟩ v):=
 ⟨h.os,h.tape,h.output,by simpa using h.size,fun k hk hlh=>(heap_setCell_other w' ⟨g,j,none⟩ k v (fun e=>by simp at e;omega)).trans (h.block k hk hlh)⟩
theorem Outside.allocNew {lo hi:Nat} {w w':World} (h:Outside lo hi w w') (o:Obj):Outside lo hi w (w'.alloc o):=h.trans (Outside.of_below (belowAlloc _ _))
theorem Rd.setNew {w:World} {b:Nat} {a:Option Addr} {c:Nat} {xs:List Int} {p:Int} (h:Rd w b a c xs p) {g:Nat} (hg:b < g) (j:Nat) (v:Value):Rd (w.setCell ⟨g,j,none⟩ v) b a c xs p:=
 h.keep (B:=b+1) ((Below.refl _ _).setCell (show b+1≤g from hg) v) (Nat.lt_succ_self _)
theorem Rd.allocNew {w:World} {b:Nat} {a:Option Addr} {c:Nat} {xs:List Int} {p:Int} (h:Rd w b a c xs p) (o:Obj):Rd (w.alloc o) b a c xs p:=
 h.keep (belowAlloc w o) h.lt
theorem rep_lit (w:World) (ys:List Int) (T:TypeId) (h:ys.length≤100):Rep IntE (w.alloc (.cells (ys.map (Value.int .i64)).toArray T)) (.slice (some ⟨w.heap.size,0,none⟩) ys.length ys.length) ys:=by
 refine ⟨_,_,rfl,Nat.le_refl _,by unfold maxLen;omega,fun i x hx=>⟨w.heap.size,0,rfl,fun j u hu => ?_⟩⟩
 rw [cell_of_row _ _ _ _ T (0,0) (heap_alloc_new w _)]
 have hj:j=0:=by have:=(List.getElem?_eq_some_iff.1 hu).1;simp [IntE] at this;omega
 subst hj
 simp [IntE] at hu
 simp [IntE,hx,hu]
end Go.Proofs.YtlddmagfbcomgaaGreat
namespace Go.Proofs.YtlddmagfbcomgaaGreat
open Go.RowKit
theorem numLit3 (b:Nat) (a:Option Addr) (c:Nat) (xs:List Int) (p:Int) (y0 y1 y2:Int) (w':World) (G:Nat) (hG:w'.heap.size=G) (hb:b < G) (h:Rd (w'.alloc (.cells #[.int .i64 y0, .int .i64 y1, .int .i64 y2] 3)) b a c xs p) (hp:p≤1000000000) :
 Calls Tryz.prog 102 #[.pointer (some ⟨b,0,none⟩), .slice (some ⟨G,0,none⟩) 3 3] (w'.alloc (.cells #[.int .i64 y0, .int .i64 y1, .int .i64 y2] 3)) (RetRd (w'.alloc (.cells #[.int .i64 y0, .int .i64 y1, .int .i64 y2] 3)) b a c xs p 1 (OneOf [y0,y1,y2])):=by
 subst hG
 exact num_any b a c xs p (Value.slice (some (Addr.mk w'.heap.size 0 none)) 3 3) [y0,y1,y2] _ h hp (rep_lit w' [y0,y1,y2] 3 (by simp)) (by simp) (by simp) (by intro g o e;simp at e;omega)
theorem numLit5 (b:Nat) (a:Option Addr) (c:Nat) (xs:List Int) (p:Int) (y0 y1 y2 y3 y4:Int) (w':World) (G:Nat) (hG:w'.heap.size=G) (hb:b < G) (h:Rd (w'.alloc (.cells #[.int .i64 y0, .int .i64 y1, .int .i64 y2, .int .i64 y3, .int .i64 y4] 3)) b a c xs p) (hp:p≤1000000000) :
 Calls Tryz.prog 102 #[.pointer (some ⟨b,0,none⟩), .slice (some ⟨G,0,none⟩) 5 5] (w'.alloc (.cells #[.int .i64 y0, .int .i64 y1, .int .i64 y2, .int .i64 y3, .int .i64 y4] 3)) (RetRd (w'.alloc (.cells #[.int .i64 y0, .int .i64 y1, .int .i64 y2, .int .i64 y3, .int .i64 y4] 3)) b a c xs p 1 (OneOf [y0,y1,y2,y3,y4])):=by
 subst hG
 exact num_any b a c xs p (Value.slice (some (Addr.mk w'.heap.size 0 none)) 5 5) [y0,y1,y2,y3,y4] _ h hp (rep_lit w' [y0,y1,y2,y3,y4] 3 (by simp)) (by simp) (by simp) (by intro g o e;simp at e;omega)
end Go.Proofs.YtlddmagfbcomgaaGreat
namespace Go.Proofs.YtlddmagfbcomgaaGreat
open Go.RowKit
end Go.Proofs.YtlddmagfbcomgaaGreat
namespace Go.Proofs.YtlddmagfbcomgaaGreat
open Go.RowKit
def RetOpen (w:World) (e:Ending) (w':World):Prop:=∃ (B:Nat) (a:Option Addr) (c:Nat) (xs:List Int),e = .returned (.pointer (some ⟨B,0,none⟩))∧Rd w' B a c xs 0∧w.heap.size≤B∧Below w.heap.size w w'
theorem Rep.take {w:World} {a:Option Addr} {n c:Nat} {xs:List Int} (h:Rep ByteE w (.slice a n c) xs) {k:Nat} (hk:k≤xs.length):Rep ByteE w (.slice a k c) (xs.take k):=by
 obtain ⟨a',c',hv,h1,h2,h3⟩:=h
 simp only [Value.slice.injEq] at hv
 obtain ⟨rfl,rfl,rfl⟩:=hv
 refine ⟨a,c,by rw [List.length_take,Nat.min_eq_left hk],by rw [List.length_take];omega,h2,fun i x hx => ?_⟩
 rw [List.getElem?_take] at hx
 split at hx
 ·exact h3 i x hx
 ·cases hx
theorem rep_lt {w:World} {a:Option Addr} {n c:Nat} {xs:List Int} (h:Rep ByteE w (.slice a n c) xs) (g o:Nat) (hne:xs≠[]) (e:a=some ⟨g,o,none⟩):g < w.heap.size:=by
 cases xs with
 | nil=>exact absurd rfl hne
 | cons x xs =>
  obtain ⟨b,o',hb,hlt, -⟩:=h.byte (k:=0) (x:=x) rfl
  rw [e] at hb
  simp only [Option.some.injEq,Addr.mk.injEq,and_true] at hb
  omega
theorem l17Open_any (v:Value) (xs:List Int) (w:World) (hx:Rep ByteE w v xs) (hb:∀ x∈xs,0≤x∧x≤255) :
 Calls Tryz.prog 42 #[v] w (RetOpen w):=by
 obtain ⟨a,c,rfl,hc1,hc2,hc3,hx⟩:=hx.open
 have HX:=hide hx;clear hx
 by_cases hl:xs.length > 2000
 ·have hT:=hide (HX.out.take (k:=2000) (by omega))
  have hlt:(2000:Int) < (xs.length:Int):=by omega
  have hc4:2000≤c:=by omega
  have htl:(xs.take 2000).length=2000:=by rw [List.length_take];omega
  have HTL:=hide htl;clear htl
  generalize hn:xs.length=n at *
  clear hn
  go_enter Tryz.func42,Tryz.ntmps42
  go_wp2_with fail
  go_ret
  have h2:Rd (w.alloc (.cells #[.slice a 2000 c, .int .i64 0] 115)) w.heap.size a c (xs.take 2000) 0:=
   ⟨by simp,by rw [HTL.out];simp [go_sem],by simp [go_sem],by simp [go_sem],by rw [HTL.out];exact hT.out.below ((Below.refl _ _).alloc (Nat.le_refl _) _),fun g o hne e=>rep_lt hT.out g o hne e,fun x hx=>hb x (List.mem_of_mem_take hx),by omega⟩
  exact ⟨w.heap.size,a,c,_,rfl,h2,Nat.le_refl _,(Below.refl _ _).alloc (Nat.le_refl _) _⟩
 ·have hge:decide ((xs.length:Int) > 2000)=false:=decide_eq_false (by omega)
  clear hl
  have HXR:=hide (fun g o hne e=>rep_lt HX.out g o hne e)
  generalize hn:xs.length=n at *
  have H:=hide hn;clear hn
  go_enter Tryz.func42,Tryz.ntmps42
  go_wp2_with fail
  go_ret
  have h2:Rd (w.alloc (.cells #[.slice a n c, .int .i64 0] 115)) w.heap.size a c xs 0:=
   ⟨by simp,by rw [H.out];simp [go_sem],by simp [go_sem],by simp [go_sem],by rw [H.out];exact HX.out.below ((Below.refl _ _).alloc (Nat.le_refl _) _),HXR.out,hb,by omega⟩
  exact ⟨w.heap.size,a,c,_,rfl,h2,Nat.le_refl _,(Below.refl _ _).alloc (Nat.le_refl _) _⟩
end Go.Proofs.YtlddmagfbcomgaaGreat
namespace Go.Proofs.YtlddmagfbcomgaaGreat
open Go.RowKit
theorem below_of_outside {b:Nat} {w w':World} {B:Nat} (h:Outside b (b+1) w w') (hB:B≤b) (hB2:B≤w.heap.size):Below B w w':=h.below hB hB2
end Go.Proofs.YtlddmagfbcomgaaGreat