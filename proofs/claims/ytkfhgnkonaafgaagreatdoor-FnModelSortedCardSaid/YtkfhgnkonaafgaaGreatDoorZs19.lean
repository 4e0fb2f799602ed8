/-
  The reference's l6Reg and l6Write. Condition: bounds on lengths.
-/
import Derived.Test.YtkfhgnkonaafgaaGreatDoorZs15
import Derived.Test.YtkfhgnkonaafgaaGreatDoorZs14
import Derived.Test.YtkfhgnkonaafgaaGreatDoorZs04
import Derived.Test.YtkfhgnkonaafgaaGreatDoorZs11
import Derived.Test.YtkfhgnkonaafgaaGreatDoorZs12
import Derived.Maps.AppendAt
set_option maxHeartbeats 6400000
set_option maxRecDepth 100000
namespace Go.Proofs.YtkfhgnkonaafgaaGreatDoor
open Go.RowKit
def poB (L:List Ev) (i k:Nat):Bool:=match L[i]?,L[k]? with
 | some a,some b=>decide (0≤a.t)&&((a.t==b.t)&&decide (a.i < b.i))
 | _,_=>false
def delF (n:Nat) (c po:Nat→Nat→Bool):Nat→Nat→Bool:=fAnd po (fInv (fOr (fComp n c c) (fComp n (fComp n c (fClo n (fOr c po))) c)))
def delays (p:List (List Ins)):List Int:=relOf (evAll p).length (delF (evAll p).length (confB (evAll p)) (poB (evAll p)))
end Go.Proofs.YtkfhgnkonaafgaaGreatDoor
namespace Go.Proofs.YtkfhgnkonaafgaaGreatDoor
open Go.RowKit
theorem bitsTo_minus (f g:Nat→Bool) {n:Nat} (hn:n≤60):bits .andNot .i64 (bitsTo f n) (bitsTo g n)=bitsTo (fun k=>f k && !g k) n:=by
 have h1:=maskTo_lt f n;have h2:=maskTo_lt g n;have h3:=pow_le60 hn
 have h0:=maskTo_lt (fun k=>f k && !g k) n
 rw [bitsTo_mask f n hn,bitsTo_mask g n hn,bitsTo_mask _ n hn]
 have e:(BitVec.ofInt 64 (maskTo f n:Int) &&& ~~~(BitVec.ofInt 64 (maskTo g n:Int))).toNat=maskTo (fun k=>f k && !g k) n:=by
  apply Nat.eq_of_testBit_eq
  intro k
  rw [BitVec.testBit_toNat,BitVec.getLsbD_and,BitVec.getLsbD_not,← BitVec.testBit_toNat,← BitVec.testBit_toNat,toNat64 (by omega),toNat64 (by omega),maskTo_testBit,maskTo_testBit,maskTo_testBit]
  by_cases hk:k < n
  ·simp [hk,show k < 64 by omega]
  ·simp [hk]
 show IntKind.i64.wrap ((BitVec.ofInt 64 (maskTo f n:Int) &&& ~~~(BitVec.ofInt 64 (maskTo g n:Int))).toNat:Int)=_
 rw [e,IntKind.wrap_i64]
 omega
theorem bitMinus_any (x y:Int) (w:World) :
 Calls Tryz.prog 215 #[.int .i64 x, .int .i64 y] w fun e w'=>e = .returned (.int .i64 (bits .andNot .i64 x y))∧w=w':=by
 go_enter Tryz.func215,Tryz.ntmps215
 go_wp2_with fail
 go_ret
 exact ⟨rfl,rfl⟩
theorem combinedMinus (v v':Value) (n:Nat) (f g:Nat→Nat→Bool) (w:World) (hx:Rep IntE w v (relOf n f)) (hy:Rep IntE w v' (relOf n g)) (hn:n≤16) :
 Calls Tryz.prog 212 #[v,v', .func (.func 215) #[] #[]] w (RetOwn IntE 3 w (relOf n (fMinus f g))):=by
 have HA:=hide (areRels_any v v' n f g w hx hy hn)
 obtain ⟨a,c,rfl, -, -, -,hx⟩:=hx.open
 obtain ⟨a',c',rfl, -, -, -,hy⟩:=hy.open
 simp only [relOf_length] at *
 have HX:=hide hx;have HY:=hide hy
 clear hx hy
 go_enter Tryz.func212,Tryz.ntmps212
 go_wp2_with fail
 (with_reducible refine HA.out.mono ?_);rintro e w0 ⟨rfl,hb0⟩
 have HB0:=hide hb0;clear hb0 HA
 go_wp2_with (at_make;refine wpList_make IntE 3 0 Tryz.infoInt rfl Tryz.underlying24 n (by decide) (by omega) rfl _ _ rfl rfl rfl ?_;intro w1 hown hgr)
 have hb1:=below_of_grown hgr
 go_loopw [18] (fun i wr => ∃ k:Nat,k≤n∧i = .int .i64 k∧Hid (OwnN wr w0.heap.size (.slice (some ⟨w0.heap.size,0,none⟩) n n) ((relOf n (fMinus f g)).take k++List.replicate (n - k) 0))∧Hid (Below w0.heap.size w0 wr)) (fun i _=>n - (intOf i).toNat)
 case atStart=>exact ⟨0,Nat.zero_le _,rfl,hide (by simpa using hown),hide hb1⟩
 case round =>
  obtain ⟨k,hk,rfl,HO,HB⟩:=hrel
  by_cases hlt:k < n
  ·have hlt':=nat_of_lt hlt
   have hb:=HB.out
   obtain ⟨b,o,rfl,hbl,i0⟩:=(HX.out.below HB0.out).int (relOf_get hlt)
   obtain ⟨b',o',rfl,hbl',j0⟩:=(HY.out.below HB0.out).int (relOf_get hlt)
   have i0:=(HB.out.cell (p:=⟨b,o+k,none⟩) hbl).trans i0
   have j0:=(HB.out.cell (p:=⟨b',o'+k,none⟩) hbl').trans j0
   have ne1:b≠w0.heap.size:=by omega
   have ne2:b'≠w0.heap.size:=by omega
   have ne3:w0.heap.size≠b:=by omega
   have ne4:w0.heap.size≠b':=by omega
   have hg:((relOf n (fMinus f g)).take k++List.replicate (n - k) 0)[k]? = some 0:=by
    have:=get_pad (relOf n (fMinus f g)) 0 (k:=k) (by rw [relOf_length];exact hlt)
    rwa [relOf_length] at this
   obtain ⟨hgl,f0,hfr⟩:=HO.out.int hg
   have ho2:=HO.out.setInt hg (bits .andNot .i64 (bitsTo (f k) n) (bitsTo (g k) n))
   rw [bitsTo_minus (f k) (g k) (n:=n) (by omega)] at ho2
   have hset:=set_pad (relOf n (fMinus f g)) 0 (relOf_get (f:=fMinus f g) hlt)
   rw [relOf_length] at hset
   have e:((relOf n (fMinus f g)).take k++List.replicate (n - k) 0).set k (bitsTo (fun j=>f k j && !g k j) n)=(relOf n (fMinus f g)).take (k+1)++List.replicate (n - (k+1)) 0:=hset
   rw [e] at ho2
   have HO2:=hide ho2
   have EQ:=hide (bitsTo_minus (f k) (g k) (n:=n) (by omega))
   have hfz:=hfr k
   clear ho2 e hset hg hb hfr
   generalize bitsTo (f k) n=rf at *
   generalize bitsTo (g k) n=rg at *
   go_wp2_with fail
   go_region_held3 (fun V=>V.cell? ⟨b,o+k,none⟩=some (.int .i64 rf)∧V.cell? ⟨b',o'+k,none⟩=some (.int .i64 rg)) ((simp [go_sem, *]))
    (first
     | (go_at_call 215;(with_reducible refine (bitMinus_any _ _ _).mono ?_);rintro e u1 ⟨rfl,rfl⟩))
   all_goals
    go_wp2_with fail
    go_roundw
    case rel=>exact ⟨k+1,by omega,by go_num,hide (by have h:=HO2.out.below (Below.refl _ _).drew;rw [← EQ.out] at h;exact h),hide ((HB.out.setCell (Nat.le_refl _) _).drew)⟩
    case measure=>simp [intOf];omega
  ·have e:k=n:=by omega
   subst e
   go_wp2_with fail
   go_ret
   have ho:=HO.out
   rw [Nat.sub_self,List.replicate_zero,List.append_nil,List.take_of_length_le (by rw [relOf_length];exact Nat.le_refl _)] at ho
   exact ⟨_,rfl,ho.mono HB0.out.size,HB0.out.trans (HB.out.mono HB0.out.size)⟩
theorem MinusRel_any (v v':Value) (n:Nat) (f g:Nat→Nat→Bool) (w:World) (hx:Rep IntE w v (relOf n f)) (hy:Rep IntE w v' (relOf n g)) (hn:n≤16) :
 Calls Tryz.prog 188 #[v,v'] w (RetOwn IntE 3 w (relOf n (fMinus f g))):=by
 have HC:=hide (combinedMinus v v' n f g w hx hy hn)
 clear hx hy
 go_enter Tryz.func188,Tryz.ntmps188
 go_wp2_with fail
 (with_reducible refine HC.out.mono ?_);rintro e w1 ⟨u,rfl,hu,hb1⟩
 go_wp2_with fail
 go_ret
 exact ⟨_,rfl,hu,hb1⟩
theorem l2Minus_any (v v':Value) (n:Nat) (f g:Nat→Nat→Bool) (w:World) (hx:Rep IntE w v (relOf n f)) (hy:Rep IntE w v' (relOf n g)) (hn:n≤60) :
 Calls Tryz.prog 157 #[v,v'] w (RetOwn IntE 3 w (relOf n (fMinus f g))):=by
 obtain ⟨a,c,rfl, -, -, -,hx⟩:=hx.open
 obtain ⟨a',c',rfl, -, -, -,hy⟩:=hy.open
 simp only [relOf_length] at *
 have HX:=hide hx;have HY:=hide hy
 clear hx hy
 have hown:=Own.empty (E:=IntE) 3 w (Nat.le_refl _)
 have hb1:=belowAlloc0 w (.cells #[] 3)
 go_enter Tryz.func157,Tryz.ntmps157
 go_wp2_with fail
 go_loopw [5,6] (fun s i wr => ∃ k:Nat,k≤n∧i = .int .i64 k∧Hid (OwnN wr w.heap.size s ((relOf n (fMinus f g)).take k))∧Hid (Below w.heap.size w wr)) (fun _ i _=>n - (intOf i).toNat)
 case atStart=>exact ⟨0,Nat.zero_le _,rfl,hide (by simpa using hown),hide hb1⟩
 case round =>
  obtain ⟨k,hk,rfl,HO,HB⟩:=hrel
  by_cases hlt:k < n
  ·have hlt':=nat_of_lt hlt
   obtain ⟨b,o,rfl,hbl,i0⟩:=HX.out.int (relOf_get hlt)
   obtain ⟨b',o',rfl,hbl',j0⟩:=HY.out.int (relOf_get hlt)
   have i0:=(HB.out.cell (p:=⟨b,o+k,none⟩) hbl).trans i0
   have j0:=(HB.out.cell (p:=⟨b',o'+k,none⟩) hbl').trans j0
   have EQ:=hide (bitsTo_minus (f k) (g k) (n:=n) hn)
   have TK:=hide (take_rel n k (fMinus f g) hlt)
   have hlen:((relOf n (fMinus f g)).take k).length≤68719476736:=by rw [List.length_take,relOf_length];omega
   have hsz:=HB.out.size
   obtain ⟨wm,rfl⟩:∃ wm:World,wm=wr:=⟨_,rfl⟩
   have l1:b < wm.heap.size:=by omega
   have l2:b' < wm.heap.size:=by omega
   generalize hGG:(relOf n (fMinus f g)).take k=G at *
   clear hGG
   have EQ2:Hid (bits .andNot .i64 (bitsTo (f k) n) (bitsTo (g k) n)=bitsTo ((fMinus f g) k) n):=hide EQ.out
   clear EQ
   generalize bitsTo (f k) n=rf at *
   generalize bitsTo (g k) n=rg at *
   have HO1:=hide ((HO.out.alloc (.cells #[.int .i64 (bits .andNot .i64 rf rg)] 3)).below (Below.refl _ _).drew)
   have HB1:=hide ((HB.out.alloc hsz (.cells #[.int .i64 (bits .andNot .i64 rf rg)] 3)).drew)
   have q1:Hid (((wm.alloc (.cells #[.int .i64 (bits .andNot .i64 rf rg)] 3)).drew).cell? ⟨b,o+k,none⟩=some (.int .i64 rf)):=hide (by simp [go_sem,i0,l1])
   have q2:Hid (((wm.alloc (.cells #[.int .i64 (bits .andNot .i64 rf rg)] 3)).drew).cell? ⟨b',o'+k,none⟩=some (.int .i64 rg)):=hide (by simp [go_sem,j0,l2])
   go_wp2_with fail
   go_region_held3 (fun V=>V.cell? ⟨b,o+k,none⟩=some (.int .i64 rf)∧V.cell? ⟨b',o'+k,none⟩=some (.int .i64 rg)) ((simp [go_sem, *]))
    (first
     | (refine step_app IntE 3 Tryz.infoInt rfl Tryz.underlying24 w.heap.size _ G (bits .andNot .i64 rf rg) HO1.out (by decide) hlen (by simp;omega) (by rfl) _ _ (by rfl) (by rfl) wm.heap.size 0 1 (by rfl) (news_drew) ?_;intro v' w6 hown6 hgr6;have k1:=(cell_grown hgr6 (b:=b) (by simp;omega) (fun q hq=>by have:=own_ge HO1.out q hq;omega) (o+k)).trans q1.out;have k2:=(cell_grown hgr6 (b:=b') (by simp;omega) (fun q hq=>by have:=own_ge HO1.out q hq;omega) (o'+k)).trans q2.out))
   all_goals
    have HOWN6:=hide hown6;have HB6:=hide (HB1.out.grown hgr6 (by simp;omega) (fun q hq=>own_ge HO1.out q hq))
    clear hown6 hgr6 k1 k2
    go_wp2_with fail
    go_roundw
    case rel=>exact ⟨k+1,by omega,by go_num,hide (by rw [TK.out];have h:=HOWN6.out;rw [EQ2.out] at h;exact h),HB6⟩
    case measure=>simp [intOf];omega
  ·have e:k=n:=by omega
   subst e
   have ho:=HO.out
   rw [List.take_of_length_le (by rw [relOf_length];exact Nat.le_refl _)] at ho
   have HO2:=hide ho
   clear ho
   go_wp2_with fail
   go_ret
   exact ⟨_,rfl,HO2.out,HB.out⟩
end Go.Proofs.YtkfhgnkonaafgaaGreatDoor
namespace Go.Proofs.YtkfhgnkonaafgaaGreatDoor
open Go.RowKit
def RetVal (c:Option Int) (base:Nat) (bs:Slc) (bz:List Bool) (w:World) (e:Ending) (w':World):Prop:=
 e = .returned (.tuple #[.int .i64 (c.getD 0), .bool c.isSome])∧Own BoolE 4 w' base bs.v bz∧w.grownBy w' bs.v.ownBlock
theorem RetVal.some_ {v:Int} {c:Option Int} (hc:c=some v) {base:Nat} {bs:Slc} {bz:List Bool} {w w':World} (h:Own BoolE 4 w base bs.v bz) (hb:Below w.heap.size w w'):RetVal c base bs bz w (.returned (.tuple #[.int .i64 v, .bool true])) w':=by
 subst hc
 exact ⟨rfl,h.below hb,⟨hb.os,hb.tape,hb.output,hb.size,fun k hk _=>hb.block k hk⟩⟩
theorem RetVal.none_ {c:Option Int} (hc:c=none) {base:Nat} {bs:Slc} {bz:List Bool} {w w':World} (h:Own BoolE 4 w base bs.v bz) (hb:Below w.heap.size w w'):RetVal c base bs bz w (.returned (.tuple #[.int .i64 0, .bool false])) w':=by
 subst hc
 exact ⟨rfl,h.below hb,⟨hb.os,hb.tape,hb.output,hb.size,fun k hk _=>hb.block k hk⟩⟩
theorem below_grown_row {w w':World} (hb:Below w.heap.size w w') (row:Option Nat):w.grownBy w' row:=⟨hb.os,hb.tape,hb.output,hb.size,fun k hk _=>hb.block k hk⟩
theorem value_any (pb:Nat) (ps fs os ess vs bs:Slc) (p:List (List Ins)) (es:List Ev) (hes:es=evAll p) (fr:List Int) (w0:World) (hp:RepP w0 ps.v p) (hf:Rep IntE w0 fs.v fr) (he:Rep EvE w0 ess.v es) (hok:fromsOk es fr es.length=true) (hlen:fr.length=es.length) (hl:es.length≤1048676) :
 ∀ (N:Nat) (bz:List Bool) (i:Nat) (w:World),bz.length=es.length→i < es.length→bz.countP (fun b => !b) < N→(∀ b,bz[b]? = some true→∃ m,Reach (depV p es fr) (m+1) b i)→Below w0.heap.size w0 w→VS w pb ps fs os ess vs bs→Own BoolE 4 w w0.heap.size bs.v bz →
  Calls Tryz.prog 121 #[.pointer (some ⟨pb,0,none⟩), .int .i64 i] w (RetVal (chain (depV p es fr) es.length i) w0.heap.size bs bz w):=by
 have HES:=hide hes;have HOK:=hide hok;have HLEN:=hide hlen
 clear hes hok hlen
 intro N
 induction N with
 | zero=>intro bz i w _ _ h;omega
 | succ N ih =>
  intro bz i w hbz hi hN hpath hw0 hvs hown
  obtain ⟨pa,pn,pc⟩:=ps
  obtain ⟨fa,fn,fc⟩:=fs
  obtain ⟨ea,en,ec⟩:=ess
  obtain ⟨ba,bn,bc⟩:=bs
  obtain ⟨e,hek⟩:=get_of_lt (xs:=es) (k:=i) hi
  have hpw:=hp.below hw0
  have hfw:=hf.below hw0
  have hew:=he.below hw0
  obtain ⟨ea',ec',heq, -, -, -,he'⟩:=hew.open
  simp only [Value.slice.injEq] at heq
  obtain ⟨rfl,rfl,rfl⟩:=heq
  obtain ⟨pa',pc',heq, -, -, -,hp'⟩:=hpw.open
  simp only [Value.slice.injEq] at heq
  obtain ⟨rfl,rfl,rfl⟩:=heq
  obtain ⟨fa',fc',heq, -, -, -,hf'⟩:=hfw.open
  simp only [Value.slice.injEq] at heq
  obtain ⟨rfl,rfl,rfl⟩:=heq
  rcases hown.shape with ⟨h0,h1⟩ | ⟨g,cap,hsl,hg1,hg2,hg3,hg4⟩
  ·exfalso;subst h1;simp at hbz;omega
  simp only [Value.slice.injEq] at hsl
  obtain ⟨rfl,rfl,rfl⟩:=hsl
  obtain ⟨b,o,rfl,hbl,i0,i1,i2,i3,i4⟩:=he'.ev hek
  have HVS:=hide hvs;have HOWN:=hide hown;have HP:=hide hp';have HFR:=hide hf'
  have v3:=cell_of_heapV hvs.blk (k:=3) rfl
  have hpbl:=lt_of_cell v3
  have hlt':=nat_of_lt hi
  have HB0:=hide hw0
  have D0:=hide (fun h=>dep_t0 (p:=p) (fr:=fr) hek h)
  have HBZ:=hide hbz;have HPA:=hide hpath;have IH:=hide ih
  have HEK:=hide hek
  have HNN:=hide hN
  clear hvs hown hp' hf' hpw hfw hew he' hbz hpath ih hek hN hw0
  have CE:Hid (∀ v,depV p es fr i = .inl v→chain (depV p es fr) es.length i=some v):=hide (fun v h=>chain_end hi h)
  generalize hn:es.length=n at *
  have HN:=hide hn
  clear hn
  by_cases ht:e.t < 0
  ·have C:=hide (CE.out 0 (D0.out ht))
   have k1:decide (e.t < 0)=true:=by simp [ht]
   have HBA:=hide ((Below.refl w.heap.size w).alloc (Nat.le_refl _) (.cells #[.int .i64 e.t, .int .i64 e.i, .int .i64 e.l, .bool e.r, .bool e.w] 99))
   generalize chain (depV p es fr) n i=R at *
   go_enter Tryz.func121,Tryz.ntmps121
   go_wp2_with fail
   go_ret2
   exact RetVal.some_ C.out HOWN.out HBA.out
  ·have k1:decide (e.t < 0)=false:=by simp [ht]
   have hcs:∃ (t i':Nat) (r:List Ins),e.t=t∧e.i=i'∧p[t]? = some r∧r[i']? = some (insE p e):=by
    rcases ev_cases (p:=p) (k:=i) (e:=e) (by rw [← HES.out];exact HEK.out) with h | ⟨t,i',r,h1,h2,h3,h4, -⟩
    ·exfalso;omega
    ·exact ⟨t,i',r,h1,h2,h3,h4⟩
   obtain ⟨t',i',r,het,hei,hpt,hri⟩:=hcs
   obtain ⟨b2,o2,ra,rc,rfl,hbl2,q0,q1⟩:=HP.out.row hpt
   obtain ⟨b3,o3,rfl,hbl3,r0,r1,r2,r3⟩:=q1.ins hri
   have htn:(t':Int) < (p.length:Int):=by have:=(List.getElem?_eq_some_iff.1 hpt).1;omega
   have hin:(i':Int) < (r.length:Int):=by have:=(List.getElem?_eq_some_iff.1 hri).1;omega
   have v0:=cell_of_heapV HVS.out.blk (k:=0) rfl
   have DO:=hide (fun h=>dep_op (p:=p) (fr:=fr) HEK.out ht h)
   have DR0:=hide (fun h h2=>dep_r0 (p:=p) (fr:=fr) HEK.out ht h h2)
   have DRR:=hide (fun h r j h2 h3=>dep_rr (p:=p) (fr:=fr) (r:=r) (j:=j) HEK.out ht h h2 h3)
   obtain ⟨et,ei,el,er,ew⟩:=e
   simp only at het hei i0 i1 i2 i3 i4 ht k1
   subst het
   subst hei
   generalize hins:insE p ⟨(t':Int),(i':Int),el,er,ew⟩=ix at *
   obtain ⟨xo,xl,xr,xv⟩:=ix
   simp only at r0 r1 r2 r3 DO DR0 DRR
   have HBA:=hide ((Below.refl w.heap.size w).alloc (Nat.le_refl _) (.cells #[.int .i64 (t':Int), .int .i64 (i':Int), .int .i64 el, .bool er, .bool ew] 99))
   have HEV:=hide (heap_alloc_new w (.cells #[.int .i64 (t':Int), .int .i64 (i':Int), .int .i64 el, .bool er, .bool ew] 99))
   clear hpt hri q1 hins D0 HEK
   generalize p.length=pl at *
   generalize r.length=rl at *
   go_enter Tryz.func121,Tryz.ntmps121
   go_wp2_with fail
   go_cut [7] (fun s7 W => ∃ b7:Nat,s7 = .pointer (some ⟨b7,0,none⟩)∧b7 < W.heap.size∧W.cell? ⟨b7,0,none⟩=some (.int .i64 xo)∧W.cell? ⟨b7,2,none⟩=some (.int .i64 xr)∧W.cell? ⟨b7,3,none⟩=some (.int .i64 xv)∧w.heap.size < W.heap.size∧Below (w.alloc (.cells #[.int .i64 (t':Int), .int .i64 (i':Int), .int .i64 el, .bool er, .bool ew] 99)).heap.size (w.alloc (.cells #[.int .i64 (t':Int), .int .i64 (i':Int), .int .i64 el, .bool er, .bool ew] 99)) W)
   case first =>
    go_region_held3 (fun W=>W.cell? ⟨pb,0,none⟩=some (.slice (some ⟨b2,o2,none⟩) pl pc)∧W.cell? ⟨w.heap.size,0,none⟩=some (.int .i64 (t':Int))∧W.cell? ⟨w.heap.size,1,none⟩=some (.int .i64 (i':Int))∧W.cell? ⟨b2,o2+t',none⟩=some (.slice (some ⟨b3,o3,none⟩) rl rc) ∧
     W.cell? ⟨b3,o3+i' * 4,none⟩=some (.int .i64 xo)∧W.cell? ⟨b3,o3+i' * 4+1,none⟩=some (.int .i64 xl)∧W.cell? ⟨b3,o3+i' * 4+2,none⟩=some (.int .i64 xr)∧W.cell? ⟨b3,o3+i' * 4+3,none⟩=some (.int .i64 xv)) ((simp [go_sem, *])) (first | fail)
    all_goals
     go_wp2_with fail
     go_meet
     refine ⟨_,rfl,by first | (simp;done) | (simp;omega),by simp [go_sem],by simp [go_sem],by simp [go_sem],by first | (simp;done) | (simp;omega), ?_⟩
     exact ((Below.refl _ _).alloc (Nat.le_refl _) _).drew
   case rest =>
    obtain ⟨b7,rfl,hb7,m0,m2,m3,hlw,hbW⟩:=hcut
    have HBW:=hide (HBA.out.trans (hbW.mono HBA.out.size))
    have HEVc:=hide ((hbW.block w.heap.size (Array.getElem?_eq_some_iff.1 HEV.out).1).trans HEV.out)
    clear hbW HBA HEV v0 v3 i0 i1 i2 i3 i4 q0 r0 r1 r2 r3
    have VC:=hide (HVS.out.below HBW.out)
    have OC:=hide (HOWN.out.below HBW.out)
    have hpc:=Nat.lt_of_lt_of_le hpbl HBW.out.size
    by_cases hop:xo=3
    ·subst hop
     obtain ⟨bi,hbi⟩:=get_of_lt (xs:=bz) (k:=i) (by rw [HBZ.out];exact hi)
     obtain ⟨hgl,f0,hfr⟩:=OC.out.boolc hbi
     have hin2:(i:Int) < (bz.length:Int):=by have:=HBZ.out;omega
     have v5:=cell_of_heapV VC.out.blk (k:=5) rfl
     cases bi
     ·have HBI:=hide hbi
      have HLR:=hide (lastRead_any pb ⟨some ⟨b2,o2,none⟩,pl,pc⟩ ⟨fa,fr.length,fc⟩ os ⟨some ⟨b,o,none⟩,n,ec⟩ vs ⟨some ⟨g,0,none⟩,bz.length,bc⟩ p es HES.out (t':Int) (i':Int) xr wc VC.out (hp.below (HB0.out.trans (HBW.out.mono HB0.out.size))) (he.below (HB0.out.trans (HBW.out.mono HB0.out.size))) (by rw [HN.out];exact hl))
      have e0:=cell_of_heapV HEVc.out (k:=0) rfl
      have e1:=cell_of_heapV HEVc.out (k:=1) rfl
      have DR0':=hide (DR0.out rfl);have DRR':=hide (DRR.out rfl)
      have HNE:g≠pb:=fun e=>by
       rcases OC.out.2 with ⟨h, -⟩ | ⟨g',cap',cur,h, -,hgg, -⟩
       ·simp at h
       ·simp only [Value.slice.injEq,Option.some.injEq,Addr.mk.injEq,and_true] at h
        obtain ⟨rfl, -, -⟩:=h
        have h2:=VC.out.blk
        rw [← e,hgg] at h2
        simp at h2
      have hgw0:w0.heap.size≤g:=hg1
      clear DR0 DRR DO hbi
      go_wp2_with fail
      (with_reducible refine HLR.out.mono ?_);rintro e w5 ⟨rfl,hb5⟩
      have HB5:=hide (HBW.out.trans (hb5.mono HBW.out.size))
      have V5:=hide (VC.out.below hb5)
      have O5:=hide (OC.out.below hb5)
      have hb7':=Nat.lt_of_lt_of_le hb7 hb5.size
      clear hb5 e0 e1 v5 f0 hfr m0 m2 m3 HLR VC OC HEVc
      rcases lastRd_cases p es (t':Int) (i':Int) xr with hlr | ⟨rr,e2,hlr,he2,hrd⟩
      ·have C:=hide (CE.out 0 (DR0'.out (by rw [hlr];omega)))
       rw [hlr]
       clear hlr DR0' DRR'
       generalize chain (depV p es fr) n i=R at *
       go_wp2_with fail
       go_ret2
       exact RetVal.some_ C.out HOWN.out HB5.out
      ·obtain ⟨j,e3,hfj,hej, -, -, -⟩:=from_write (k:=rr) (by rw [HN.out];exact HOK.out) he2 hrd
       have DD:=hide (DRR'.out rr j hlr hfj)
       rw [hlr]
       obtain ⟨b4,o4,rfl,hb4, -⟩:=hf.int hfj
       have hjn:j < n:=by have:=(List.getElem?_eq_some_iff.1 hej).1;have:=HN.out;omega
       have hrn:(rr:Int) < (fr.length:Int):=by have:=(List.getElem?_eq_some_iff.1 hfj).1;omega
       have hr0:decide ((rr:Int) < 0)=false:=by simp
       obtain ⟨b4',o4',h4,hb4w,j0⟩:=((hf.below HB0.out).below HB5.out).int hfj
       simp only [Option.some.injEq,Addr.mk.injEq,and_true] at h4
       obtain ⟨rfl,rfl⟩:=h4
       have ne1:pb≠g:=fun e=>HNE e.symm
       have ne2:b4≠g:=by omega
       obtain ⟨hgl5,f5,hfr5⟩:=O5.out.boolc HBI.out
       have v5:=cell_of_heapV V5.out.blk (k:=5) rfl
       have v1:=cell_of_heapV V5.out.blk (k:=1) rfl
       have hpb5:=lt_of_cell v1
       have HIV:=hide (IH.out (bz.set i true) j (w5.setCell ⟨g,i,none⟩ (.bool true)) (by rw [List.length_set];exact HBZ.out) hjn (by have:=count_set HBI.out;have:=HNN.out;omega)
        (fun b hb=>by
         rw [List.getElem?_set] at hb
         split at hb
         ·rename_i hib
          subst hib
          exact ⟨0, .step DD.out (.zero j)⟩
         ·obtain ⟨m,hm⟩:=HPA.out b hb
          exact ⟨m+1,hm.snoc DD.out⟩)
        ((HB0.out.trans (HB5.out.mono HB0.out.size)).setCell hgw0 _) ⟨(heap_setCell_other w5 ⟨g,i,none⟩ pb _ ne1).trans V5.out.blk⟩ (by have h:=O5.out.setBool HBI.out true;simpa using h))
       have CN:Hid (chain (depV p es fr) n i=chain (depV p es fr) n j):=hide (by
        rw [← HN.out]
        exact chain_next (fun a b h1 h2=>dep_lt (by rw [HN.out];exact HOK.out) a b h1 h2) (by rw [HN.out];exact hi) DD.out)
       have hinb:(i:Int) < (bz.length:Int):=by have:=HBZ.out;omega
       clear hlr hfj DR0' DRR' he2 hej
       generalize chain (depV p es fr) n i=R at *
       generalize chain (depV p es fr) n j=Rj at *
       go_wp2_with fail
       (with_reducible refine HIV.out.mono ?_);rintro e w7 ⟨rfl,own7,hg7⟩
       have hV7:w7.heap[pb]? = w5.heap[pb]?:=(hg7.block pb (by simpa using hpb5) (by simpa [Value.ownBlock] using ne1)).trans (heap_setCell_other w5 ⟨g,i,none⟩ pb _ ne1)
       have V7:=hV7.trans V5.out.blk
       have hbt:(bz.set i true)[i]? = some true:=by rw [List.getElem?_set,if_pos rfl,if_pos (by rw [HBZ.out];exact hi)]
       obtain ⟨hgl7,f7,hfr7⟩:=own7.boolc (by simpa using hbt)
       have u5:=cell_of_heapV V7 (k:=5) rfl
       have hpb7:=lt_of_cell u5
       have OW:=hide (own7.setBool (by simpa using hbt) false)
       have HG:=hide ((((below_grown_row HB5.out (some g)).trans (grown_set (World.grownBy.refl w5 (some g)) i (.bool true))).trans hg7).trans (grown_set (World.grownBy.refl w7 (some g)) i (.bool false)))
       have SB:=hide (set_back HBI.out)
       clear own7 hg7 hV7 V7 hbt v5 v1 j0 f5 hfr5 HIV
       go_wp2_with fail
       go_ret2
       refine ⟨by rw [CN.out];rfl, ?_,HG.out⟩
       have h:=OW.out
       rw [SB.out] at h
       exact h
     ·have C:Hid (chain (depV p es fr) n i=none):=hide (by
       obtain ⟨m,hm⟩:=HPA.out i hbi
       exact chain_cyc hm n)
      clear hbi
      generalize chain (depV p es fr) n i=R at *
      go_wp2_with fail
      go_ret2
      exact RetVal.none_ C.out HOWN.out HBW.out
    ·have k2:(xo != 3)=true:=by simp [hop]
     have C:=hide (CE.out xv (DO.out hop))
     clear hop
     generalize chain (depV p es fr) n i=R at *
     go_wp2_with fail
     go_ret2
     exact RetVal.some_ C.out HOWN.out HBW.out
end Go.Proofs.YtkfhgnkonaafgaaGreatDoor
namespace Go.Proofs.YtkfhgnkonaafgaaGreatDoor
open Go.RowKit
theorem Tryz.infoBool:(Tryz.prog.info? 4).map (fun i=>(i.zero,i.size,i.bytes))=some (some (.bool false),1,1):=by kernel_rfl
def RetNB (w:World) (r:List Int × Bool) (e:Ending) (w':World):Prop:=∃ u:Slc,e = .returned (.tuple #[.slice u.a u.n u.cap, .bool r.2])∧Own IntE 3 w' w.heap.size u.v r.1∧Below w.heap.size w w'
theorem RetNB.no {w w':World} (h:Below w.heap.size w w'):RetNB w ([],false) (.returned (.tuple #[.slice none 0 0, .bool false])) w':=⟨⟨none,0,0⟩,rfl,Own.nil _ _ _,h⟩
theorem VS.ne {α:Type} {E:El α} {T:TypeId} (hT:T≠151) {w:World} {pb:Nat} {ps fs os es vs bs:Slc} (h:VS w pb ps fs os es vs bs) {base:Nat} {v:Value} {xs:List α} (ho:Own E T w base v xs):∀ q,v.ownBlock=some q→q≠pb:=by
 intro q hq e
 subst e
 rcases ho.2 with ⟨rfl, -⟩ | ⟨g',cap',cur,rfl, -,hgg, -⟩
 ·simp [Value.ownBlock] at hq
 ·simp [Value.ownBlock] at hq
  subst hq
  have h2:=h.blk
  rw [hgg] at h2
  simp at h2
  exact hT h2.2
theorem VS.setVals {w:World} {pb:Nat} {ps fs os es vs bs:Slc} (h:VS w pb ps fs os es vs bs) (u:Slc):VS (w.setCell ⟨pb,4,none⟩ (.slice u.a u.n u.cap)) pb ps fs os es u bs:=⟨(heap_setCell_same w pb 4 _ _ (.slice u.a u.n u.cap) h.blk).trans rfl⟩
theorem VS.setBusy {w:World} {pb:Nat} {ps fs os es vs bs:Slc} (h:VS w pb ps fs os es vs bs) (u:Slc):VS (w.setCell ⟨pb,5,none⟩ (.slice u.a u.n u.cap)) pb ps fs os es vs u:=⟨(heap_setCell_same w pb 5 _ _ (.slice u.a u.n u.cap) h.blk).trans rfl⟩
theorem VS.grown {w w':World} {pb:Nat} {ps fs os es vs bs:Slc} (h:VS w pb ps fs os es vs bs) {row:Option Nat} (hg:w.grownBy w' row) (hr:∀ q,row=some q→q≠pb):VS w' pb ps fs os es vs bs:=
 ⟨(hg.block pb (Array.getElem?_eq_some_iff.1 h.blk).1 (fun e=>hr pb e.symm rfl)).trans h.blk⟩
def LV (w0:World) (pb:Nat) (ps fs os ess bs:Slc) (n:Nat) (vals:List Int) (W:World):Prop:=
 ∃ vs:Slc,VS W pb ps fs os ess vs bs∧Own IntE 3 W w0.heap.size vs.v vals∧Own BoolE 4 W w0.heap.size bs.v (List.replicate n false)∧Below w0.heap.size w0 W
theorem valuesOf_any (v vf vo:Value) (p:List (List Ins)) (x:Xc) (w:World) (hp:RepP w v p) (hx:RepX w vf vo x) (hl:p.flatten.length≤1048576) (hok:execOk p x=true) :
 Calls Tryz.prog 79 #[v, .agg #[vf,vo]] w (RetNB w (if valsOk p x.fr=true then (valsL p x.fr,true) else ([],false))):=by
 have HE:=hide (fun w' h=>events_any v p w' h hl)
 unfold execOk at hok
 simp only [Bool.and_eq_true,decide_eq_true_eq] at hok
 obtain ⟨hpv,hfl,hol,hfo,hoo⟩:=hok
 have HFO:=hide hfo;have HFL:=hide hfl
 have hen:=evAll_le hpv
 clear hpv hol hoo hfo hfl
 have HP:=hide hp;have HX:=hide hx
 obtain ⟨pa,pc,rfl, -,hpn, -, -⟩:=hp.open
 obtain ⟨fa,fc,rfl, -,hfn, -, -⟩:=hx.fr.open
 obtain ⟨oa,oc,rfl, -,hon, -, -⟩:=hx.od.open
 clear hp hx
 have HRV:Hid ((if valsOk p x.fr=true then (valsL p x.fr,true) else ([],false))=if okTo (evAll p) (cX p x.fr) (evAll p).length=true then (valTo (evAll p) (cX p x.fr) (evAll p).length,true) else ([],false)):=hide rfl
 generalize (if valsOk p x.fr=true then (valsL p x.fr,true) else ([],false))=R at *
 have HC:Hid (cX p x.fr=chain (depV p (evAll p) x.fr) (evAll p).length):=hide rfl
 generalize cX p x.fr=c at *
 generalize hes:evAll p=es at *
 have HES:=hide hes.symm
 have HVS:=hide (fun k e h=>valTo_succ (es:=es) c (k:=k) (e:=e) h)
 have HOS:=hide (fun k e h=>okTo_succ (es:=es) c (k:=k) (e:=e) h)
 have HON:=hide (fun k e h hw hc=>okTo_no (es:=es) c (k:=k) (e:=e) h hw hc)
 have HVL:=hide (valTo_length es c)
 clear hes
 have HB0:=hide ((Below.refl w.heap.size w).alloc (Nat.le_refl _) (.cells #[.slice fa x.fr.length fc, .slice oa x.od.length oc] 29))
 have HBX:=hide (heap_alloc_new w (.cells #[.slice fa x.fr.length fc, .slice oa x.od.length oc] 29))
 have HP0:=hide (HP.out.below HB0.out);have HX0:=hide (HX.out.below HB0.out)
 generalize hfn':x.fr.length=fn at *
 generalize hon':x.od.length=on at *
 generalize hpn':p.length=pn at *
 have HFN:=hide hfn';clear hfn' hon' hpn'
 have e0:=cell_of_heapV HBX.out (k:=0) rfl
 have e1:=cell_of_heapV HBX.out (k:=1) rfl
 have lb:=lt_of_cell e0
 go_enter Tryz.func79,Tryz.ntmps79
 go_wp2_with fail
 generalize hw1:w.alloc (.cells #[.slice fa fn fc, .slice oa on oc] 29)=w1 at *
 clear hw1
 go_cut [6] (fun s6 W => ∃ (w0:World) (pb:Nat) (ess:Slc),s6 = .pointer (some ⟨pb,0,none⟩)∧VS W pb ⟨pa,pn,pc⟩ ⟨fa,fn,fc⟩ ⟨oa,on,oc⟩ ess ⟨none,0,0⟩ ⟨none,0,0⟩∧w0.heap.size≤pb∧Rep EvE w0 ess.v es∧Below w1.heap.size w1 w0∧Below w0.heap.size w0 W)
 case first =>
  go_region_held3 (fun V=>V.cell? ⟨w.heap.size,0,none⟩=some (.slice fa fn fc)∧V.cell? ⟨w.heap.size,1,none⟩=some (.slice oa on oc)) ((simp [go_sem, *]))
   (first
    | (go_at_call 80;(with_reducible refine (HE.out _ (HP0.out.below (Below.refl _ _).drew)).mono ?_);rintro e' w4 ⟨ve,rfl,ow,hb4⟩;obtain ⟨⟨ea,en,ec⟩,rfl, -⟩:=ow.toSlc;have HOW:=hide ow;have hb5:=(Below.refl w1.heap.size w1).drew.trans (hb4.mono (by simp));have HB4:=hide hb5;have m0:=(hb5.cell (p:=⟨w.heap.size,0,none⟩) lb).trans e0;have m1:=(hb5.cell (p:=⟨w.heap.size,1,none⟩) lb).trans e1;have l1:=Nat.lt_of_lt_of_le lb hb5.size;clear ow hb4 hb5))
  all_goals
   go_wp2_with fail
   go_meet
   exact ⟨w4,w4.heap.size,⟨ea,en,ec⟩,rfl,⟨heap_alloc_new w4 _⟩,Nat.le_refl _,HOW.out.rep,HB4.out,(Below.refl _ _).alloc (Nat.le_refl _) _⟩
 case rest =>
  obtain ⟨w0,pb,ess,rfl,hV,hpb,hre,hb10,hb0c⟩:=hcut
  obtain ⟨ea,en,ec⟩:=ess
  obtain ⟨ea',ec',heq, -, -, -,hre⟩:=hre.open
  simp only [Value.slice.injEq] at heq
  obtain ⟨rfl,rfl,rfl⟩:=heq
  have HRE:=hide hre
  have HP1:=hide (HP0.out.below hb10);have HX1:=hide (HX0.out.below hb10)
  have HB1:=hide (HB0.out.trans (hb10.mono HB0.out.size))
  have HV:=hide hV;have H0C:=hide hb0c
  have HVA:=hide (fun N bz i w' h1 h2 h3 h4 h5 vs bs h6 h7=>value_any pb ⟨pa,pn,pc⟩ ⟨fa,fn,fc⟩ ⟨oa,on,oc⟩ ⟨ea,es.length,ec⟩ vs bs p es HES.out x.fr w0 HP1.out HX1.out.fr HRE.out HFO.out (HFN.out.trans HFL.out) (by omega) N bz i w' h1 h2 h3 h4 h5 h6 h7)
  rw [← HC.out] at HVA
  clear hre hV hb10 hb0c HP0 HX0 HB0 HBX HP HX HFO HE e0 e1 lb
  generalize hn:es.length=n at *
  have HN:=hide hn;clear hn
  have v3:=cell_of_heapV HV.out.blk (k:=3) rfl
  have v5:=cell_of_heapV HV.out.blk (k:=5) rfl
  have vfz:=frozen_of_heapV HV.out.blk
  have hpl:=lt_of_cell v3
  go_wp2_with (at_make;refine wpList_make BoolE 4 false Tryz.infoBool rfl Tryz.underlying149 n (by decide) (by omega) rfl _ _ rfl rfl rfl ?_;intro w5 hown5 hgr5;have V5:=hide (HV.out.below (below_of_grown hgr5));have H05:=hide (H0C.out.trans ((below_of_grown hgr5).mono H0C.out.size));have u3:=cell_of_heapV V5.out.blk (k:=3) rfl;have u5:=cell_of_heapV V5.out.blk (k:=5) rfl;have ufz:=frozen_of_heapV V5.out.blk;have upl:=lt_of_cell u3;have OB:=hide hown5;clear v3 v5 vfz hown5 hgr5)
  have L0:LV w0 pb ⟨pa,pn,pc⟩ ⟨fa,fn,fc⟩ ⟨oa,on,oc⟩ ⟨ea,n,ec⟩ ⟨some ⟨wc.heap.size,0,none⟩,n,n⟩ n [] (w5.setCell ⟨pb,5,none⟩ (.slice (some ⟨wc.heap.size,0,none⟩) n n)):=by
   have ne:=VS.ne (by decide) V5.out OB.out
   exact ⟨⟨none,0,0⟩,V5.out.setBusy ⟨some ⟨wc.heap.size,0,none⟩,n,n⟩,Own.nil _ _ _,(OB.out.mono H0C.out.size).sameV (fun q hq=>heap_setCell_other w5 ⟨pb,5,none⟩ q _ (ne q hq)),H05.out.setCell hpb _⟩
  have HL0:=hide L0
  clear L0 u3 u5 ufz upl V5 H05 OB
  go_loopw [32] (fun i wr => ∃ k:Nat,k≤n∧i = .int .i64 k∧LV w0 pb ⟨pa,pn,pc⟩ ⟨fa,fn,fc⟩ ⟨oa,on,oc⟩ ⟨ea,n,ec⟩ ⟨some ⟨wc.heap.size,0,none⟩,n,n⟩ n (valTo es c k) wr∧Hid (okTo es c k=true)) (fun i _=>n - (intOf i).toNat)
  case atStart=>exact ⟨0,Nat.zero_le _,rfl,HL0.out,hide (by simp [okTo])⟩
  case round =>
   obtain ⟨k,hk,rfl,⟨vs,hvs,hvals,hbusy,hw0r⟩,hok⟩:=hrel
   by_cases hlt:k < n
   ·obtain ⟨e,hek⟩:=get_of_lt (xs:=es) (k:=k) (by rw [HN.out];exact hlt)
    obtain ⟨b,o,rfl,hbl,i0,i1,i2,i3,i4⟩:=(HRE.out.below hw0r).ev hek
    obtain ⟨va,vn,vc⟩:=vs
    have hlt':=nat_of_lt hlt
    have HS:=hide (HVS.out k e hek)
    have OS:=hide (HOS.out k e hek)
    have ON:=hide (HON.out k e hek)
    have hlen:(valTo es c k).length≤68719476736:=by rw [HVL.out k (by omega)];omega
    clear hek
    obtain ⟨et,ei,el,er,ew⟩:=e
    simp only at i0 i1 i2 i3 i4
    have hba:=(Below.refl wr.heap.size wr).alloc (Nat.le_refl _) (.cells #[.int .i64 et, .int .i64 ei, .int .i64 el, .bool er, .bool ew] 99)
    have VA:=hide (hvs.below hba);have OA:=hide (hvals.below hba);have BA:=hide (hbusy.below hba);have DA:=hide (hw0r.trans (hba.mono hw0r.size))
    have hev:=heap_alloc_new wr (.cells #[.int .i64 et, .int .i64 ei, .int .i64 el, .bool er, .bool ew] 99)
    generalize valTo es c k=G at *
    clear hvs hvals hbusy hw0r hba
    cases ew
    ·have HS2:Hid (valTo es c (k+1)=G++[-1]):=hide (by rw [HS.out];rfl)
     have OK2:Hid (okTo es c (k+1)=true):=hide (by rw [OS.out,hok.out];rfl)
     have a4:=cell_of_heapV VA.out.blk (k:=4) rfl
     have afz:=frozen_of_heapV VA.out.blk
     have apl:=lt_of_cell a4
     clear hev
     go_wp2_with (at_builtin;refine wpList_app IntE 3 Tryz.infoInt rfl Tryz.underlying24 w0.heap.size (.slice va vn vc) G (-1) (OA.out.alloc _) (by decide) hlen (by have h:=DA.out.size;simp at h ⊢;omega) rfl _ _ rfl rfl _ 0 1 rfl (news_allocV (by simp)) ?_;intro v' w8 hown8 hgr8;obtain ⟨⟨a8,n8,c8⟩,rfl, -⟩:=hown8.toSlc;have V8:=hide ((VA.out.below ((Below.refl _ _).alloc (Nat.le_refl _) _)).grown hgr8 (VS.ne (by decide) VA.out OA.out));have q4:=cell_of_heapV V8.out.blk (k:=4) rfl;have qfz:=frozen_of_heapV V8.out.blk;have qpl:=lt_of_cell q4;have O8:=hide hown8;have B8:=hide (((BA.out.alloc (.cells #[.int .i64 (-1)] 3)).grown hgr8 (own_or (by decide) OA.out BA.out)));have D8:=hide ((DA.out.alloc DA.out.size _).grown hgr8 (by have h:=DA.out.size;simp at h ⊢;omega) (fun q hq=>(World.ownsRow.lt OA.out q hq).1));clear hown8 hgr8)
     have L8:LV w0 pb ⟨pa,pn,pc⟩ ⟨fa,fn,fc⟩ ⟨oa,on,oc⟩ ⟨some ⟨b,o,none⟩,n,ec⟩ ⟨some ⟨wc.heap.size,0,none⟩,n,n⟩ n (G++[(-1)]) (w8.setCell ⟨pb,4,none⟩ (.slice a8 n8 c8)):=by
      have ne:=VS.ne (by decide) V8.out O8.out
      have ne2:=VS.ne (by decide) V8.out B8.out
      exact ⟨⟨a8,n8,c8⟩,V8.out.setVals ⟨a8,n8,c8⟩,O8.out.sameV (fun q hq=>heap_setCell_other w8 ⟨pb,4,none⟩ q _ (ne q hq)),B8.out.sameV (fun q hq=>heap_setCell_other w8 ⟨pb,4,none⟩ q _ (ne2 q hq)),D8.out.setCell hpb _⟩
     go_roundw
     case rel=>exact ⟨k+1,by omega,by go_num,by rw [HS2.out];exact L8,OK2⟩
     case measure=>simp [intOf];omega
    ·have HCALL:=HVA.out (n+1) (List.replicate n false) k _ (by simp) hlt (by simp [List.countP_replicate]) (fun b hb=>by
      rw [List.getElem?_replicate] at hb
      split at hb
      ·simp at hb
      ·cases hb) DA.out ⟨va,vn,vc⟩ ⟨some ⟨wc.heap.size,0,none⟩,n,n⟩ VA.out BA.out
     have c4:=cell_of_heapV hev (k:=4) rfl
     have cl:=lt_of_cell c4
     cases hck:c k with
     | none =>
      rw [hck] at HCALL
      have HCL:=hide HCALL
      obtain rfl:R=([],false):=by rw [HRV.out,if_neg (by rw [ON.out rfl hck];simp)]
      clear HCALL hev hck
      go_wp2_with fail
      (with_reducible refine HCL.out.mono ?_);rintro e w7 ⟨rfl,own7,hg7⟩
      have D7:=hide (DA.out.grown hg7 DA.out.size (fun q hq=>(World.ownsRow.lt BA.out q hq).1))
      go_wp2_with fail
      go_ret2
      exact RetNB.no (HB1.out.trans (D7.out.mono HB1.out.size))
     | some v =>
      rw [hck] at HCALL
      have HCL:=hide (HCALL.mono fun _ _ h=>(h:_=Ending.returned (.tuple #[.int .i64 v, .bool true])∧_∧_))
      have HS2:Hid (valTo es c (k+1)=G++[v]):=hide (by rw [HS.out];simp [val1,hck])
      have OK2:Hid (okTo es c (k+1)=true):=hide (by rw [OS.out,hok.out,hck];rfl)
      clear HCALL hev hck
      go_wp2_with fail
      (with_reducible refine HCL.out.mono ?_);rintro e w7 ⟨rfl,own7,hg7⟩
      have D7:=hide (DA.out.grown hg7 DA.out.size (fun q hq=>(World.ownsRow.lt BA.out q hq).1))
      have V7:=hide (VA.out.grown hg7 (VS.ne (by decide) VA.out BA.out))
      have O7:=hide (OA.out.grown hg7 (own_or (by decide) BA.out OA.out))
      have B7:=hide own7
      have a4:=cell_of_heapV V7.out.blk (k:=4) rfl
      have afz:=frozen_of_heapV V7.out.blk
      have apl:=lt_of_cell a4
      clear own7 hg7 c4 cl HCL
      go_wp2_with (at_builtin;refine wpList_app IntE 3 Tryz.infoInt rfl Tryz.underlying24 w0.heap.size (.slice va vn vc) G v (O7.out.alloc _) (by decide) hlen (by have h:=D7.out.size;simp at h ⊢;omega) rfl _ _ rfl rfl _ 0 1 rfl (news_allocV (by simp)) ?_;intro v' w8 hown8 hgr8;obtain ⟨⟨a8,n8,c8⟩,rfl, -⟩:=hown8.toSlc;have V8:=hide ((V7.out.below ((Below.refl _ _).alloc (Nat.le_refl _) _)).grown hgr8 (VS.ne (by decide) V7.out O7.out));have q4:=cell_of_heapV V8.out.blk (k:=4) rfl;have qfz:=frozen_of_heapV V8.out.blk;have qpl:=lt_of_cell q4;have O8:=hide hown8;have B8:=hide (((B7.out.alloc (.cells #[.int .i64 v] 3)).grown hgr8 (own_or (by decide) O7.out B7.out)));have D8:=hide ((D7.out.alloc D7.out.size _).grown hgr8 (by have h:=D7.out.size;simp at h ⊢;omega) (fun q hq=>(World.ownsRow.lt O7.out q hq).1));clear hown8 hgr8)
      have L8:LV w0 pb ⟨pa,pn,pc⟩ ⟨fa,fn,fc⟩ ⟨oa,on,oc⟩ ⟨some ⟨b,o,none⟩,n,ec⟩ ⟨some ⟨wc.heap.size,0,none⟩,n,n⟩ n (G++[v]) (w8.setCell ⟨pb,4,none⟩ (.slice a8 n8 c8)):=by
       have ne:=VS.ne (by decide) V8.out O8.out
       have ne2:=VS.ne (by decide) V8.out B8.out
       exact ⟨⟨a8,n8,c8⟩,V8.out.setVals ⟨a8,n8,c8⟩,O8.out.sameV (fun q hq=>heap_setCell_other w8 ⟨pb,4,none⟩ q _ (ne q hq)),B8.out.sameV (fun q hq=>heap_setCell_other w8 ⟨pb,4,none⟩ q _ (ne2 q hq)),D8.out.setCell hpb _⟩
      go_roundw
      case rel=>exact ⟨k+1,by omega,by go_num,by rw [HS2.out];exact L8,OK2⟩
      case measure=>simp [intOf];omega
   ·have e:k=n:=by omega
    subst e
    obtain rfl:R=(valTo es c k,true):=by rw [HRV.out,if_pos hok.out]
    have a4:=cell_of_heapV hvs.blk (k:=4) rfl
    have apl:=lt_of_cell a4
    have HW:=hide hw0r;have HVA2:=hide hvals
    clear hvals hbusy hw0r hvs
    go_wp2_with fail
    go_ret2
    exact ⟨vs,rfl,HVA2.out.mono HB1.out.size,HB1.out.trans (HW.out.mono HB1.out.size)⟩
end Go.Proofs.YtkfhgnkonaafgaaGreatDoor
namespace Go.Proofs.YtkfhgnkonaafgaaGreatDoor
open Go.RowKit
theorem l6Reg_any (vp ve:Value) (p:List (List Ins)) (es:List Ev) (hes:es=evAll p) (t idx reg:Int) (w:World) (hp:RepP w vp p) (he:Rep EvE w ve es) (hl:es.length≤1048676) :
 Calls Tryz.prog 70 #[vp,ve, .int .i64 t, .int .i64 idx, .int .i64 reg] w fun e w'=>e = .returned (.int .i64 (lastRd p es t idx reg))∧Below w.heap.size w w':=by
 obtain ⟨ea,ec,rfl, -, -, -,he'⟩:=he.open
 obtain ⟨pa,pc,rfl, -, -, -,hp'⟩:=hp.open
 have HP:=hide hp';have HE:=hide he'
 have HER:=hide (fun k e h hr=>ev_read (p:=p) (k:=k) (e:=e) (hes ▸ h) hr)
 have HR:Hid (lastRd p es t idx reg=lastTo p es t idx reg es.length):=hide rfl
 have HS:=hide (fun k e h=>lastTo_succ p (es:=es) t idx reg (k:=k) (e:=e) h)
 have H0:Hid (lastTo p es t idx reg 0 = -1):=hide rfl
 clear hes hp he hp' he'
 generalize lastRd p es t idx reg=R at *
 generalize hn:es.length=n at *
 have H:=hide hn;clear hn
 go_enter Tryz.func70,Tryz.ntmps70
 go_wp2_with fail
 go_loopw [11,12] (fun l i wr => ∃ k:Nat,k≤n∧i = .int .i64 k∧l = .int .i64 (lastTo p es t idx reg k)∧Below w.heap.size w wr) (fun _ i _=>n - (intOf i).toNat)
 case atStart=>exact ⟨0,Nat.zero_le _,rfl,by rw [H0.out],Below.refl _ _⟩
 case round =>
  obtain ⟨k,hk,rfl,rfl,hb⟩:=hrel
  by_cases hlt:k < n
  ·obtain ⟨e,hek⟩:=get_of_lt (xs:=es) (k:=k) (by rw [H.out];exact hlt)
   obtain ⟨b,o,rfl,hbl,i0,i1,i2,i3,i4⟩:=(HE.out.below hb).ev hek
   have hlt':=nat_of_lt hlt
   have S:=hide (HS.out k e hek)
   have ER:=hide (fun hr=>HER.out k e hek hr)
   have HH:Hid (hitR p t idx reg e=((e.t==t)&&(decide (e.i < idx)&&(e.r&&((insE p e).reg==reg))))):=hide rfl
   have HBA:=hide (hb.alloc hb.size (.cells #[.int .i64 e.t, .int .i64 e.i, .int .i64 e.l, .bool e.r, .bool e.w] 99))
   clear hek
   generalize lastTo p es t idx reg k=G at *
   by_cases g1:e.t=t
   ·have k1:(e.t==t)=true:=by simp [g1]
    by_cases g2:e.i < idx
    ·have k2:decide (e.i < idx)=true:=by simp [g2]
     cases her:e.r
     ·have S2:Hid (lastTo p es t idx reg (k+1)=G):=hide (by rw [S.out,HH.out,her];simp)
      rw [her] at i3 HBA
      subst g1
      clear g2 HH ER S her
      go_wp2_with fail
      refine wp_region_bw (by kernel_rfl) (by kernel_rfl) ?_
      repeat (go_big_quiet_step (fail))
      refine wpQuiet_nil ?_
      intro w1 hb1
      go_wp2_with fail
      go_roundw
      case rel=>exact ⟨k+1,by omega,by go_num,by rw [S2.out],HBA.out.trans (hb1.mono HBA.out.size)⟩
      case measure=>simp [intOf];omega
     ·obtain ⟨t',i',r,ht,hi,hpt,hri⟩:=ER.out her
      obtain ⟨b2,o2,ra,rc,rfl,hbl2,q0,q1⟩:=(HP.out.below hb).row hpt
      obtain ⟨b3,o3,rfl,hbl3,r0,r1,r2,r3⟩:=q1.ins hri
      have htn:(t':Int) < (p.length:Int):=by have:=(List.getElem?_eq_some_iff.1 hpt).1;omega
      have hin:(i':Int) < (r.length:Int):=by have:=(List.getElem?_eq_some_iff.1 hri).1;omega
      have HG1:=hide g1;have HT:=hide ht;have HI:=hide hi
      have HRG:Hid ((insE p e).reg=(insE p e).reg):=hide rfl
      rw [her] at i3 HBA HH
      obtain ⟨et,ei,el,er,ew⟩:=e
      simp only at ht hi g1 k1 k2 g2 i0 i1 i2 i3 i4 her
      subst her
      subst ht
      subst hi
      subst g1
      generalize hins:insE p ⟨(t':Int),(i':Int),el,true,ew⟩=ix at *
      clear hins hpt hri q1 ER HG1 HT HI HRG
      by_cases g3:ix.reg=reg
      ·have k3:(ix.reg==reg)=true:=by simp [g3]
       have S2:Hid (lastTo p es (t':Int) idx reg (k+1)=(k:Int)):=hide (by rw [S.out,HH.out,k3,k2];simp)
       clear g3 S HH k1
       go_wp2_with fail
       refine wp_region_bw (by kernel_rfl) (by kernel_rfl) ?_
       repeat (go_big_quiet_step (fail))
       refine wpQuiet_nil ?_
       intro w1 hb1
       go_wp2_with fail
       go_roundw
       case rel=>exact ⟨k+1,by omega,by go_num,by rw [S2.out],HBA.out.trans (hb1.mono HBA.out.size)⟩
       case measure=>simp [intOf];omega
      ·have k3:(ix.reg==reg)=false:=by simp [g3]
       have S2:Hid (lastTo p es (t':Int) idx reg (k+1)=G):=hide (by rw [S.out,HH.out,k3];simp)
       clear g3 S HH k1
       go_wp2_with fail
       refine wp_region_bw (by kernel_rfl) (by kernel_rfl) ?_
       repeat (go_big_quiet_step (fail))
       refine wpQuiet_nil ?_
       intro w1 hb1
       go_wp2_with fail
       go_roundw
       case rel=>exact ⟨k+1,by omega,by go_num,by rw [S2.out],HBA.out.trans (hb1.mono HBA.out.size)⟩
       case measure=>simp [intOf];omega
    ·have k2:decide (e.i < idx)=false:=by simp [g2]
     have S2:Hid (lastTo p es t idx reg (k+1)=G):=hide (by rw [S.out,HH.out,k2];simp)
     subst g1
     clear g2 HH ER S
     go_wp2_with fail
     refine wp_region_bw (by kernel_rfl) (by kernel_rfl) ?_
     repeat (go_big_quiet_step (fail))
     refine wpQuiet_nil ?_
     intro w1 hb1
     go_wp2_with fail
     go_roundw
     case rel=>exact ⟨k+1,by omega,by go_num,by rw [S2.out],HBA.out.trans (hb1.mono HBA.out.size)⟩
     case measure=>simp [intOf];omega
   ·have k1:(e.t==t)=false:=by simp [g1]
    have S2:Hid (lastTo p es t idx reg (k+1)=G):=hide (by rw [S.out,HH.out,k1];simp)
    clear g1
    generalize hitR p t idx reg e=hh at *
    clear HH S ER
    go_wp2_with fail
    refine wp_region_bw (by kernel_rfl) (by kernel_rfl) ?_
    repeat (go_big_quiet_step (fail))
    refine wpQuiet_nil ?_
    intro w1 hb1
    go_wp2_with fail
    go_roundw
    case rel=>exact ⟨k+1,by omega,by go_num,by rw [S2.out],HBA.out.trans (hb1.mono HBA.out.size)⟩
    case measure=>simp [intOf];omega
  ·have e:k=n:=by omega
   subst e
   go_wp2_with fail
   go_ret
   exact ⟨by rw [HR.out];rfl,hb⟩
theorem l6Write_any (vp ve vf vo vk:Value) (p:List (List Ins)) (es:List Ev) (hes:es=evAll p) (x:Xc) (i:Nat) (K:List Int) (w:World) (hp:RepP w vp p) (he:Rep EvE w ve es) (hx:RepX w vf vo x) (hk:Rep IntE w vk K) (hok:fromsOk es x.fr es.length=true) (hi:i < es.length) (hKl:K.length=es.length) (hl:es.length≤1048676) :
 Calls Tryz.prog 69 #[vp,ve, .agg #[vf,vo], .int .i64 i,vk] w fun e w'=>e = .returned (.int .i64 (linkV (depV p es x.fr) K i))∧Below w.heap.size w w':=by
 have HLR:=hide (fun t idx reg w' h h'=>l6Reg_any vp ve p es hes t idx reg w' h h' hl)
 have HP0:=hide hp;have HE0:=hide he
 obtain ⟨e,hek⟩:=get_of_lt (xs:=es) (k:=i) hi
 have hcs:(e.t < 0)∨∃ (t i':Nat) (r:List Ins),e.t=t∧e.i=i'∧p[t]? = some r∧r[i']? = some (insE p e):=by
  rcases ev_cases (p:=p) (k:=i) (e:=e) (by rw [← hes];exact hek) with h | ⟨t,i',r,h1,h2,h3,h4, -⟩
  ·exact .inl (by omega)
  ·exact .inr ⟨t,i',r,h1,h2,h3,h4⟩
 obtain ⟨fa,fc,rfl, -, -, -,hf'⟩:=hx.fr.open
 obtain ⟨oa,oc,rfl, -, -, -, -⟩:=hx.od.open
 obtain ⟨ea,ec,rfl, -, -, -,he'⟩:=he.open
 obtain ⟨pa,pc,rfl, -, -, -,hp'⟩:=hp.open
 obtain ⟨ka,kc,rfl, -, -, -,hk'⟩:=hk.open
 have HF:=hide hf';have HP:=hide hp';have HK:=hide hk';have HOK:=hide hok;have HKL:=hide hKl
 have D0:=hide (fun h=>dep_t0 (p:=p) (fr:=x.fr) hek h)
 have DO:=hide (fun ht h=>dep_op (p:=p) (fr:=x.fr) hek ht h)
 have DR0:=hide (fun ht h h2=>dep_r0 (p:=p) (fr:=x.fr) hek ht h h2)
 have DRR:=hide (fun ht h r j h2 h3=>dep_rr (p:=p) (fr:=x.fr) (r:=r) (j:=j) hek ht h h2 h3)
 have HLK:Hid (linkV (depV p es x.fr) K i=match depV p es x.fr i with | .inl v=>v | .inr j=>(K[j]?).getD (-1)):=hide rfl
 have HBX:=hide ((Below.refl w.heap.size w).alloc (Nat.le_refl _) (.cells #[.slice fa x.fr.length fc, .slice oa x.od.length oc] 29))
 have HX1:=hide (heap_alloc_new w (.cells #[.slice fa x.fr.length fc, .slice oa x.od.length oc] 29))
 have he1:=he'.below HBX.out
 obtain ⟨b,o,rfl,hbl,i0,i1,i2,i3,i4⟩:=he1.ev hek
 have HP1:=hide (HP.out.below HBX.out)
 have HFR1:=hide (HF.out.below HBX.out);have HK1:=hide (HK.out.below HBX.out)
 have HP01:=hide (HP0.out.below HBX.out);have HE01:=hide (HE0.out.below HBX.out)
 have HES:=hide hes
 have hlt':=nat_of_lt hi
 clear hek hes hp he hx hk hok hKl hf' he' hp' hk' he1 HF HP HK HP0 HE0
 generalize linkV (depV p es x.fr) K i=R at *
 generalize hn:es.length=n at *
 generalize x.od.length=on at *
 generalize hfn:x.fr.length=fn at *
 have HN:=hide hn;have HFN:=hide hfn;clear hn hfn
 generalize hpn:p.length=pn at *
 have HPN:=hide hpn;clear hpn
 generalize hkn:K.length=kn at *
 have HKN:=hide hkn;clear hkn
 rcases hcs with ht | ⟨t',i',r,het,hei,hpt,hri⟩
 ·have k1:decide (e.t < 0)=true:=by simp [ht]
  obtain rfl:R=0:=by rw [HLK.out,D0.out ht]
  go_enter Tryz.func69,Tryz.ntmps69
  go_wp2_with fail
  go_ret
  exact ⟨rfl,HBX.out.alloc HBX.out.size _⟩
 ·obtain ⟨et,ei,el,er,ew⟩:=e
  simp only at het hei i0 i1 i2 i3 i4
  subst het
  subst hei
  have ht:¬ ((t':Int) < 0):=by omega
  have k1:decide ((t':Int) < 0)=false:=by simp
  obtain ⟨b2,o2,ra,rc,rfl,hbl2,q0,q1⟩:=HP1.out.row hpt
  obtain ⟨b3,o3,rfl,hbl3,r0,r1,r2,r3⟩:=q1.ins hri
  have htn:(t':Int) < (pn:Int):=by have:=(List.getElem?_eq_some_iff.1 hpt).1;have:=HPN.out;omega
  have hin:(i':Int) < (r.length:Int):=by have:=(List.getElem?_eq_some_iff.1 hri).1;omega
  have DO2:=hide (DO.out ht);have DR2:=hide (DR0.out ht);have DRR2:=hide (DRR.out ht)
  clear DO DR0 DRR
  generalize hins:insE p ⟨(t':Int),(i':Int),el,er,ew⟩=ix at *
  obtain ⟨xo,xl,xr,xv⟩:=ix
  simp only at r0 r1 r2 r3 DO2 DR2 DRR2
  have hlx:=(Array.getElem?_eq_some_iff.1 HX1.out).1
  clear hpt hri q1 hins D0
  generalize r.length=rl at *
  go_enter Tryz.func69,Tryz.ntmps69
  go_wp2_with fail
  have hsz:(w.alloc (.cells #[.slice fa fn fc, .slice oa on oc] 29)).heap.size=w.heap.size+1:=by simp
  generalize hw1:w.alloc (.cells #[.slice fa fn fc, .slice oa on oc] 29)=w1 at *
  clear hw1
  have HSZ:=hide hsz;clear hsz
  have HBA:=hide ((Below.refl w1.heap.size w1).alloc (Nat.le_refl _) (.cells #[.int .i64 (t':Int), .int .i64 (i':Int), .int .i64 el, .bool er, .bool ew] 99))
  have hev:=(heap_alloc_new w1 (.cells #[.int .i64 (t':Int), .int .i64 (i':Int), .int .i64 el, .bool er, .bool ew] 99))
  rw [HSZ.out] at hev
  have HEV:=hide hev;clear hev
  go_cut [12] (fun s7 W => ∃ b7:Nat,s7 = .pointer (some ⟨b7,0,none⟩)∧b7 < W.heap.size∧W.cell? ⟨b7,0,none⟩=some (.int .i64 xo)∧W.cell? ⟨b7,2,none⟩=some (.int .i64 xr)∧W.cell? ⟨b7,3,none⟩=some (.int .i64 xv)∧Below (w1.alloc (.cells #[.int .i64 (t':Int), .int .i64 (i':Int), .int .i64 el, .bool er, .bool ew] 99)).heap.size (w1.alloc (.cells #[.int .i64 (t':Int), .int .i64 (i':Int), .int .i64 el, .bool er, .bool ew] 99)) W)
  case first =>
   have e0:=cell_of_heapV HEV.out (k:=0) rfl
   have e1:=cell_of_heapV HEV.out (k:=1) rfl
   have le:=lt_of_cell e0
   go_region_held3 (fun W=>W.cell? ⟨w.heap.size+1,0,none⟩=some (.int .i64 (t':Int))∧W.cell? ⟨w.heap.size+1,1,none⟩=some (.int .i64 (i':Int))∧W.cell? ⟨b2,o2+t',none⟩=some (.slice (some ⟨b3,o3,none⟩) rl rc) ∧
    W.cell? ⟨b3,o3+i' * 4,none⟩=some (.int .i64 xo)∧W.cell? ⟨b3,o3+i' * 4+1,none⟩=some (.int .i64 xl)∧W.cell? ⟨b3,o3+i' * 4+2,none⟩=some (.int .i64 xr)∧W.cell? ⟨b3,o3+i' * 4+3,none⟩=some (.int .i64 xv)) ((simp [go_sem, *])) (first | fail)
   all_goals
    go_wp2_with fail
    go_meet
    refine ⟨_,rfl,by first | (simp;done) | (simp;omega),by simp [go_sem],by simp [go_sem],by simp [go_sem], ?_⟩
    exact ((Below.refl _ _).alloc (Nat.le_refl _) _).drew
  case rest =>
   obtain ⟨b7,rfl,hb7,m0,m2,m3,hbW⟩:=hcut
   have HBW:=hide (HBA.out.trans (hbW.mono HBA.out.size))
   have HEVc:=hide ((hbW.block (w.heap.size+1) (Array.getElem?_eq_some_iff.1 HEV.out).1).trans HEV.out)
   clear hbW HBA HEV i0 i1 i2 i3 i4 q0 r0 r1 r2 r3
   by_cases hop:xo=3
   ·subst hop
    have e0:=cell_of_heapV HEVc.out (k:=0) rfl
    have e1:=cell_of_heapV HEVc.out (k:=1) rfl
    have le:=lt_of_cell e0
    have HL:=hide (HLR.out (t':Int) (i':Int) xr wc (HP01.out.below HBW.out) (HE01.out.below HBW.out))
    have DR0':=hide (DR2.out rfl);have DRR':=hide (DRR2.out rfl)
    clear DR2 DRR2 DO2 HLR
    go_wp2_with fail
    (with_reducible refine HL.out.mono ?_);rintro e w5 ⟨rfl,hb5⟩
    have HB5:=hide (HBW.out.trans (hb5.mono HBW.out.size))
    clear hb5 e0 e1 le m0 m2 m3 HL HEVc
    rcases lastRd_cases p es (t':Int) (i':Int) xr with hlr | ⟨rr,e2,hlr,he2,hrd⟩
    ·obtain rfl:R=0:=by rw [HLK.out,DR0'.out (by rw [hlr];omega)]
     rw [hlr]
     clear hlr DR0' DRR'
     go_wp2_with fail
     go_ret
     exact ⟨rfl,HBX.out.trans (HB5.out.mono HBX.out.size)⟩
    ·obtain ⟨j,e3,hfj,hej, -, -, -⟩:=from_write (k:=rr) (by rw [HN.out];exact HOK.out) he2 hrd
     have hjn:j < kn:=by have:=(List.getElem?_eq_some_iff.1 hej).1;have:=HN.out;have:=HKL.out;omega
     obtain ⟨u,hu⟩:=get_of_lt (xs:=K) (k:=j) (by rw [HKN.out];exact hjn)
     obtain rfl:R=u:=by rw [HLK.out,DRR'.out rr j hlr hfj];simp [hu]
     rw [hlr]
     obtain ⟨b4,o4,rfl,hb4,j0⟩:=(HFR1.out.below HB5.out).int hfj
     obtain ⟨b5,o5,rfl,hb5,u0⟩:=(HK1.out.below HB5.out).int hu
     have hrn:(rr:Int) < (fn:Int):=by have:=(List.getElem?_eq_some_iff.1 hfj).1;have:=HFN.out;omega
     have hjn':(j:Int) < (kn:Int):=by omega
     have hr0:decide ((rr:Int) < 0)=false:=by simp
     have hxb:=(HB5.out.block w.heap.size hlx).trans HX1.out
     have x0:=cell_of_heapV hxb (k:=0) rfl
     have xl0:=lt_of_cell x0
     clear hlr hfj hu DR0' DRR' he2 hej hxb
     go_wp2_with fail
     go_ret
     exact ⟨rfl,HBX.out.trans (HB5.out.mono HBX.out.size)⟩
   ·have k2:(xo != 3)=true:=by simp [hop]
    obtain rfl:R=xv:=by rw [HLK.out,DO2.out hop]
    clear hop
    go_wp2_with fail
    go_ret
    exact ⟨rfl,HBX.out.trans (HBW.out.mono HBX.out.size)⟩
end Go.Proofs.YtkfhgnkonaafgaaGreatDoor