/-
  What the listed variable gives: it holds the names. No condition.
-/
import Derived.Test.YtfbgppkdnfljhaaGreatDoorZq16
import Derived.Test.YtfbgppkdnfljhaaGreatDoorZq14
import Derived.Test.YtfbgppkdnfljhaaGreatDoorZq17
import Derived.Test.YtfbgppkdnfljhaaGreatDoorZq12
import Derived.Test.YtfbgppkdnfljhaaGreatDoorZq18
import Derived.Test.YtfbgppkdnfljhaaGreatDoorZq08
import Derived.Test.YtfbgppkdnfljhaaGreatDoorZq13
import Derived.Test.YtfbgppkdnfljhaaGreatDoorZq07
import Derived.Test.YtfbgppkdnfljhaaGreatDoorZq06
import Derived.Test.YtfbgppkdnfljhaaGreatDoorRows
import Derived.ProofKit
import Derived.LaidMore
import Derived.OpenShut
import Derived.Stop.Joined
set_option maxHeartbeats 6400000
set_option maxRecDepth 100000
namespace Go.Proofs.YtfbgppkdnfljhaaGreatDoor
open Go.RowKit
theorem fenceOp_any (o l r x:Int) (w:World) :
 Calls Tryz.prog 270 #[.agg #[.int .i64 o, .int .i64 l, .int .i64 r, .int .i64 x]] w fun e w'=>e = .returned (.bool (o==4))∧Below w.heap.size w w':=by
 have HB:=hide (belowAlloc w (.cells #[.int .i64 o, .int .i64 l, .int .i64 r, .int .i64 x] 104))
 go_enter Tryz.func270,Tryz.ntmps270
 go_wp2_with fail
 go_ret
 exact ⟨rfl,HB.out⟩
theorem pure_any (t i l:Int) (r w0 b:Bool) (w:World) :
 Calls Tryz.prog 271 #[.agg #[.int .i64 t, .int .i64 i, .int .i64 l, .bool r, .bool w0], .bool b] w fun e w'=>e = .returned (.bool ((w0==b)&&(r != b)))∧Below w.heap.size w w':=by
 have HB:=hide (belowAlloc w (.cells #[.int .i64 t, .int .i64 i, .int .i64 l, .bool r, .bool w0] 130))
 cases w0 <;> cases b <;> cases r
 all_goals
  go_enter Tryz.func271,Tryz.ntmps271
  go_wp2_with fail
  go_ret
  exact ⟨rfl,HB.out⟩
theorem isBefore_any (f1 o1:Option Addr) (f2 f3 o2 o3:Nat) (x:Xc) (l:Nat) (i k:Int) (w:World) (hx:RepX w (.slice f1 f2 f3) (.slice o1 o2 o3) x) (hl:l < x.od.length) :
 Calls Tryz.prog 268 #[.agg #[.slice f1 f2 f3, .slice o1 o2 o3], .int .i64 l, .int .i64 i, .int .i64 k] w fun e w'=>e = .returned (.bool (bef (odA x l) i k))∧Below w.heap.size w w':=by
 obtain ⟨o,ho⟩:=get_of_lt hl
 have hod:odA x l=o:=by simp [odA,ho]
 rw [hod]
 have HX:=hide hx
 obtain ⟨oa,oc,hoe, -, -, -,hoo⟩:=hx.od.open
 simp only [Value.slice.injEq] at hoe
 obtain ⟨rfl,rfl,rfl⟩:=hoe
 have HB:=hide (belowAlloc w (.cells #[.slice f1 f2 f3, .slice o1 x.od.length o3] 60))
 have HBX:=hide (heap_alloc_new w (.cells #[.slice f1 f2 f3, .slice o1 x.od.length o3] 60))
 obtain ⟨b2,q2,ra,rc,rfl,hbl2,q0,q1⟩:=(hoo.below HB.out).row ho
 have HI:=hide (fun (y:Int) (z:BW (w.alloc (.cells #[.slice f1 f2 f3, .slice (some ⟨b2,q2,none⟩) x.od.length o3] 60)))=>(IndexN_any _ o y z.val (q1.below z.prop)).mono (R':=fun e w'=>e = .returned (.int .i64 (plc o y))∧z.val=w') (fun e w' ⟨⟨q,h1,h2⟩,h3⟩=>⟨by rw [h1,h2.eq],h3⟩))
 have hl':=nat_of_lt hl
 have HE:Hid (bef o i k=(decide (0≤plc o i)&&(decide (0≤plc o k)&&decide (plc o i < plc o k)))):=hide rfl
 clear hx hoo q1 ho hod HX
 generalize bef o i k=R at *
 generalize x.od.length=on at *
 generalize hW:w.alloc (.cells #[.slice f1 f2 f3, .slice (some ⟨b2,q2,none⟩) on o3] 60)=W at *
 have d1:W.cell? ⟨w.heap.size,1,none⟩=some (.slice (some ⟨b2,q2,none⟩) on o3):=cell_of_heapV HBX.out (k:=1) rfl
 have dl:=lt_of_cell d1
 go_enter Tryz.func268,Tryz.ntmps268
 go_wp2_with fail
 refine wp_region_bw (by kernel_rfl) (by kernel_rfl) ?_
 repeat (go_big_quiet_step ((go_at_call 171;(with_reducible exact Calls.bw_same (HI.out _ _)))))
 refine wpQuiet_nil ?_
 intro w5 hb5
 have HB5:=hide (HB.out.trans (hb5.mono HB.out.size))
 clear hb5 d1 dl
 generalize plc o i=qi at *
 generalize plc o k=qk at *
 by_cases g1:0≤qi
 ·by_cases g2:0≤qk
  ·have E:Hid (R=decide (qi < qk)):=hide (by rw [HE.out];simp [g1,g2])
   go_wp2_with fail
   go_ret
   exact ⟨by rw [E.out];rfl,HB5.out⟩
  ·have k2:decide (0≤qk)=false:=decide_eq_false g2
   have E:Hid (R=false):=hide (by rw [HE.out,k2];simp)
   clear g2
   go_wp2_with fail
   go_ret
   exact ⟨by rw [E.out];rfl,HB5.out⟩
 ·have k1:decide (0≤qi)=false:=decide_eq_false g1
  have E:Hid (R=false):=hide (by rw [HE.out,k1];simp)
  clear g1
  go_wp2_with fail
  go_ret
  exact ⟨by rw [E.out];rfl,HB5.out⟩
end Go.Proofs.YtfbgppkdnfljhaaGreatDoor
namespace Go.Proofs.YtfbgppkdnfljhaaGreatDoor
open Go.RowKit
def Tests_i_isPair_1 (f:Ins→Bool):Prop:=∀ (x:Ins) (w:World),Calls Tryz.prog 270 #[.agg #[.int .i64 x.op, .int .i64 x.loc, .int .i64 x.reg, .int .i64 x.val]] w fun e w'=>e = .returned (.bool (f x))∧Below w.heap.size w w'
theorem IndexFunc_i_isPair_1 (v:Value) (xs:List Ins) (f:Ins→Bool) (w:World) (hx:Rep InsE w v xs) (hf:Tests_i_isPair_1 f) :
 Calls Tryz.prog 285 #[v, .func (.func 270) #[] #[]] w fun e w'=>(∃ q:Int,e = .returned (.int .i64 q)∧IdxOf f xs q)∧Below w.heap.size w w':=by
 obtain ⟨a,c,rfl,hc1,hc2,hc3,hx⟩:=hx.open
 have HX:=hide hx;clear hx
 have HF:=hide hf;clear hf
 generalize hn:xs.length=n at *
 have H:=hide hn;clear hn
 go_enter Tryz.func285,Tryz.ntmps285
 go_wp2_with fail
 go_loopw [8] (fun i wr => ∃ t:Nat,t≤n∧i = .int .i64 t∧Hid (∀ x∈xs.take t,f x=false)∧Below w.heap.size w wr) (fun i _=>n - (intOf i).toNat)
 case atStart=>exact ⟨0,Nat.zero_le _,rfl,hide (by simp),Below.refl _ _⟩
 case round =>
  obtain ⟨t,ht,rfl,hno,hb⟩:=hrel
  by_cases hlt:t < n
  ·obtain ⟨x,hxk⟩:=get_of_lt (xs:=xs) (k:=t) (by rw [H.out];exact hlt)
   obtain ⟨b,o,rfl,hbl,i0,i1,i2,i3⟩:=(HX.out.below hb).ins hxk
   have hlt':=nat_of_lt hlt
   have X:=hide hxk;clear hxk
   generalize hfx:f x=fx
   have FX:=hide hfx;clear hfx
   have hcall:=HF.out x
   rw [FX.out] at hcall
   have HC:=hide hcall;clear hcall
   cases fx
   ·have NO:Hid (∀ x∈xs.take (t+1),f x=false):=hide (none_succ hno.out X.out FX.out)
    go_wp2_with fail
    (with_reducible refine (HC.out _).mono ?_);rintro e w2 ⟨rfl,hb2⟩
    go_wp2_with fail
    go_roundw
    case rel=>exact ⟨t+1,by omega,by go_num,NO,hb.trans (hb2.mono hb.size)⟩
    case measure=>simp [intOf];omega
   ·go_wp2_with fail
    (with_reducible refine (HC.out _).mono ?_);rintro e w2 ⟨rfl,hb2⟩
    go_wp2_with fail
    go_ret
    exact ⟨⟨_,rfl, .inr ⟨t,x,rfl,X.out,FX.out,hno.out⟩⟩,hb.trans (hb2.mono hb.size)⟩
  ·go_wp2_with fail
   go_ret
   refine ⟨⟨_,rfl, .inl ⟨rfl, ?_⟩⟩,hb⟩
   have h:=hno.out
   rwa [List.take_of_length_le (by rw [H.out];omega)] at h
theorem IdxOf.anyB {α:Type} {f:α→Bool} {xs:List α} {q:Int} (h:IdxOf f xs q):decide (0≤q)=xs.any f:=by
 rcases h with ⟨rfl,h⟩ | ⟨t,x,rfl,h1,h2⟩
 ·have:xs.any f=false:=by rw [List.any_eq_false];intro x hx;rw [h x hx];simp
  rw [this];rfl
 ·have:xs.any f=true:=List.any_eq_true.2 ⟨x,List.mem_of_getElem? h1,h2.1⟩
  rw [this];simp
theorem anyFence_any (v:Value) (xs:List Ins) (w:World) (hx:Rep InsE w v xs) :
 Calls Tryz.prog 269 #[v, .func (.func 270) #[] #[]] w fun e w'=>e = .returned (.bool (xs.any fun y=>y.op==4))∧Below w.heap.size w w':=by
 have HI:=hide (IndexFunc_i_isPair_1 v xs (fun y=>y.op==4) w hx (fun x w=>fenceOp_any x.op x.loc x.reg x.val w))
 obtain ⟨a,c,rfl, -⟩:=hx.open
 clear hx
 generalize hb:(xs.any fun y=>y.op==4)=b at *
 go_enter Tryz.func269,Tryz.ntmps269
 go_wp2_with fail
 (with_reducible refine HI.out.mono ?_);rintro e w1 ⟨⟨q,rfl,hq⟩,hb1⟩
 have E:Hid (decide (0≤q)=b):=hide (hq.anyB.trans hb)
 clear hq hb
 go_wp2_with fail
 go_ret
 exact ⟨by rw [← E.out];rfl,hb1⟩
theorem Rep.subE {α:Type} {E:El α} {w:World} {b o n c:Nat} {xs:List α} (h:Rep E w (.slice (some ⟨b,o,none⟩) n c) xs) {i j:Nat} (hij:i≤j) (hj:j≤xs.length) :
 Rep E w (.slice (some ⟨b,o+i * E.sz,none⟩) (j - i) (c - i)) ((xs.drop i).take (j - i)):=by
 obtain ⟨a',c',hv,h1,h2,h3⟩:=h
 simp only [Value.slice.injEq] at hv
 obtain ⟨rfl,rfl,rfl⟩:=hv
 have hl:((xs.drop i).take (j - i)).length=j - i:=by simp;omega
 refine ⟨some ⟨b,o+i * E.sz,none⟩,c - i,by rw [hl],by rw [hl];omega,by omega,fun k x hx=>⟨b,o+i * E.sz,rfl,fun q u hu => ?_⟩⟩
 have hk:k < j - i:=by have:=(List.getElem?_eq_some_iff.1 hx).1;rw [hl] at this;exact this
 rw [List.getElem?_take_of_lt hk,List.getElem?_drop] at hx
 obtain ⟨b',o',hb,h4⟩:=h3 (i+k) x hx
 simp only [Option.some.injEq,Addr.mk.injEq,and_true] at hb
 obtain ⟨rfl,rfl⟩:=hb
 have h5:=h4 q u hu
 rw [Nat.add_mul] at h5
 rw [show o+i * E.sz+k * E.sz+q=o+(i * E.sz+k * E.sz)+q by omega]
 exact h5
end Go.Proofs.YtfbgppkdnfljhaaGreatDoor
namespace Go.Proofs.YtfbgppkdnfljhaaGreatDoor
open Go.RowKit
theorem l6Before_any (f1 o1:Option Addr) (f2 f3 o2 o3:Nat) (x:Xc) (l:Nat) (i k:Int) (w:World) (hx:RepX w (.slice f1 f2 f3) (.slice o1 o2 o3) x) (hl:l < x.od.length) :
 Calls Tryz.prog 276 #[.agg #[.slice f1 f2 f3, .slice o1 o2 o3], .int .i64 l, .int .i64 i, .int .i64 k] w fun e w'=>e = .returned (.bool (decide (plc (odA x l) i < plc (odA x l) k)))∧Below w.heap.size w w':=by
 obtain ⟨o,ho⟩:=get_of_lt hl
 have hod:odA x l=o:=by simp [odA,ho]
 rw [hod]
 have HX:=hide hx
 obtain ⟨oa,oc,hoe, -, -, -,hoo⟩:=hx.od.open
 simp only [Value.slice.injEq] at hoe
 obtain ⟨rfl,rfl,rfl⟩:=hoe
 have HB:=hide (belowAlloc w (.cells #[.slice f1 f2 f3, .slice o1 x.od.length o3] 60))
 have HBX:=hide (heap_alloc_new w (.cells #[.slice f1 f2 f3, .slice o1 x.od.length o3] 60))
 obtain ⟨b2,q2,ra,rc,rfl,hbl2,q0,q1⟩:=(hoo.below HB.out).row ho
 have HI:=hide (fun (y:Int) (z:BW (w.alloc (.cells #[.slice f1 f2 f3, .slice (some ⟨b2,q2,none⟩) x.od.length o3] 60)))=>(l6Place_any _ o y z.val (q1.below z.prop)).mono (R':=fun e w'=>e = .returned (.int .i64 (plc o y))∧z.val=w') (fun e w' ⟨⟨q,h1,h2⟩,h3⟩=>⟨by rw [h1,h2.eq],h3⟩))
 have hl':=nat_of_lt hl
 clear hx hoo q1 ho hod HX
 generalize x.od.length=on at *
 generalize hW:w.alloc (.cells #[.slice f1 f2 f3, .slice (some ⟨b2,q2,none⟩) on o3] 60)=W at *
 have d1:W.cell? ⟨w.heap.size,1,none⟩=some (.slice (some ⟨b2,q2,none⟩) on o3):=cell_of_heapV HBX.out (k:=1) rfl
 have dl:=lt_of_cell d1
 go_enter Tryz.func276,Tryz.ntmps276
 go_wp2_with fail
 refine wp_region_bw (by kernel_rfl) (by kernel_rfl) ?_
 repeat (go_big_quiet_step ((go_at_call 286;(with_reducible exact Calls.bw_same (HI.out _ _)))))
 refine wpQuiet_nil ?_
 intro w5 hb5
 have HB5:=hide (HB.out.trans (hb5.mono HB.out.size))
 clear hb5 d1 dl
 go_wp2_with fail
 go_ret
 exact ⟨rfl,HB5.out⟩
theorem l6Fence_any (v:Value) (r:List Ins) (i1 i2:Nat) (w:World) (hx:Rep InsE w v r) (h2:i2≤r.length) (h3:i1 < i2) :
 Calls Tryz.prog 277 #[v, .int .i64 i1, .int .i64 i2] w fun e w'=>e = .returned (.bool (((r.drop (i1+1)).take (i2 - (i1+1))).any fun y=>y.op==4))∧Below w.heap.size w w':=by
 obtain ⟨a,c,rfl,hc1,hc2,hc3,hx⟩:=hx.open
 have HX:=hide hx;clear hx
 generalize hR:(((r.drop (i1+1)).take (i2 - (i1+1))).any fun y=>y.op==4)=R at *
 have RE:=hide hR;clear hR
 have HW:IntKind.i64.wrap ((i1:Int)+1)=((i1+1:Nat):Int):=by rw [IntKind.wrap_i64];omega
 generalize hn:r.length=n at *
 have H:=hide hn;clear hn
 go_enter Tryz.func277,Tryz.ntmps277
 go_wp2_with fail
 go_loop [7] (fun i => ∃ t:Nat,i1+1≤t∧t≤i2∧i = .int .i64 t∧Hid (((r.drop (i1+1)).take (t - (i1+1))).any (fun y=>y.op==4)=false)) (fun i=>i2 - (intOf i).toNat)
 case atStart=>exact ⟨i1+1,Nat.le_refl _,h3,by go_num,hide (by simp)⟩
 case round =>
  obtain ⟨t,ht0,ht,rfl,hno⟩:=hrel
  by_cases hlt:t < i2
  ·obtain ⟨y,hy⟩:=get_of_lt (xs:=r) (k:=t) (by rw [H.out];omega)
   obtain ⟨b,o,rfl,hbl,s0, -, -, -⟩:=HX.out.ins hy
   have hlt':=nat_of_lt hlt
   have hltn:t < n:=by omega
   have hltn':=nat_of_lt hltn
   have HS:Hid ((r.drop (i1+1)).take (t+1 - (i1+1))=(r.drop (i1+1)).take (t - (i1+1))++[y]):=hide (by
    rw [show t+1 - (i1+1)=(t - (i1+1))+1 by omega,List.take_add_one,List.getElem?_drop,show i1+1+(t - (i1+1))=t by omega,hy];rfl)
   have HM:Hid (y∈(r.drop (i1+1)).take (i2 - (i1+1))):=hide (by
    refine List.mem_of_getElem? (i:=t - (i1+1)) ?_
    rw [List.getElem?_take_of_lt (by omega),List.getElem?_drop,show i1+1+(t - (i1+1))=t by omega,hy])
   clear hy
   by_cases h4:y.op=4
   ·have k1:(y.op==4)=true:=by simp [h4]
    have RT:Hid (R=true):=hide (by rw [← RE.out];exact List.any_eq_true.2 ⟨y,HM.out,k1⟩)
    clear h4
    go_wp2_with fail
    go_ret
    exact ⟨by rw [RT.out];rfl,Below.refl _ _⟩
   ·have k1:(y.op==4)=false:=by simp [h4]
    have NO:Hid (((r.drop (i1+1)).take (t+1 - (i1+1))).any (fun y=>y.op==4)=false):=hide (by rw [HS.out,List.any_append,hno.out];simp [k1])
    clear h4
    go_wp2_with fail
    go_round
    case rel=>exact ⟨t+1,by omega,by omega,by go_num,NO⟩
    case measure=>simp [intOf];omega
  ·have e:t=i2:=by omega
   have hno2:=hno.out
   rw [e] at hno2
   have RF:Hid (R=false):=hide (by rw [← RE.out,hno2])
   clear hno2
   go_wp2_with fail
   go_ret
   exact ⟨by rw [RF.out];rfl,Below.refl _ _⟩
theorem fence_skip {r:List Ins} {i1 i2:Nat} {y:Ins} (h1:r[i1]? = some y) (h2:y.op≠4) (h3:i1 < i2):((r.drop i1).take (i2 - i1)).any (fun y=>y.op==4)=((r.drop (i1+1)).take (i2 - (i1+1))).any fun y=>y.op==4:=by
 obtain ⟨hlt,hy⟩:=List.getElem?_eq_some_iff.1 h1
 rw [List.drop_eq_getElem_cons hlt,show i2 - i1=(i2 - (i1+1))+1 by omega,List.take_succ_cons,List.any_cons,hy]
 simp [h2]
end Go.Proofs.YtfbgppkdnfljhaaGreatDoor
namespace Go.Proofs.YtfbgppkdnfljhaaGreatDoor
open Go.RowKit
def poB (L:List Ev) (i k:Nat):Bool:=match L[i]?,L[k]? with
 | some a,some b=>decide (0≤a.t)&&((a.t==b.t)&&decide (a.i < b.i))
 | _,_=>false
def delF (n:Nat) (c po:Nat→Nat→Bool):Nat→Nat→Bool:=fAnd po (fInv (fOr (fComp n c c) (fComp n (fComp n c (fClo n (fOr c po))) c)))
def delays (p:List (List Ins)):List Int:=relOf (evAll p).length (delF (evAll p).length (confB (evAll p)) (poB (evAll p)))
end Go.Proofs.YtfbgppkdnfljhaaGreatDoor
namespace Go.Proofs.YtfbgppkdnfljhaaGreatDoor
open Go.RowKit
theorem bitsTo_minus (f g:Nat→Bool) {n:Nat} (hn:n≤60):bits .andNot .i64 (bitsTo f n) (bitsTo g n)=bitsTo (fun k=>f k && !g k) n:=by
 have h1:=maskTo_lt f n;have h2:=maskTo_lt g n;have h3:=pow_le60 hn
 have h0:=maskTo_lt (fun k=>f k && !g k) n
 rw [bitsTo_mask f n hn,bitsTo_mask g n hn,bitsTo_mask _ n hn]
 have e:(BitVec.ofInt 64 (maskTo f n:Int) &&& ~~~(BitVec.ofInt 64 (maskTo g n:Int))).toNat=maskTo (fun k=>f k && !g k) n:=by
  apply Nat.eq_of_testBit_eq
  intro k
  rw [BitVec.testBit_toNat,BitVec.getLsbD_and,BitVec.getLsbD_not,← BitVec.testBit_toNat,← BitVec.testBit_toNat,toNat64 (by omega),toNat64 (by omega),maskTo_testBit,maskTo_testBit,maskTo_testBit]
  by_cases hk:k < n
  ·simp [hk,show k < 64 by omega]
  ·simp [hk]
 show IntKind.i64.wrap ((BitVec.ofInt 64 (maskTo f n:Int) &&& ~~~(BitVec.ofInt 64 (maskTo g n:Int))).toNat:Int)=_
 rw [e,IntKind.wrap_i64]
 omega
theorem bitMinus_any (x y:Int) (w:World) :
 Calls Tryz.prog 240 #[.int .i64 x, .int .i64 y] w fun e w'=>e = .returned (.int .i64 (bits .andNot .i64 x y))∧w=w':=by
 go_enter Tryz.func240,Tryz.ntmps240
 go_wp2_with fail
 go_ret
 exact ⟨rfl,rfl⟩
theorem combinedMinus (v v':Value) (n:Nat) (f g:Nat→Nat→Bool) (w:World) (hx:Rep IntE w v (relOf n f)) (hy:Rep IntE w v' (relOf n g)) (hn:n≤16) :
 Calls Tryz.prog 237 #[v,v', .func (.func 240) #[] #[]] w (RetOwn IntE 3 w (relOf n (fMinus f g))):=by
 have HA:=hide (areRels_any v v' n f g w hx hy hn)
 obtain ⟨a,c,rfl, -, -, -,hx⟩:=hx.open
 obtain ⟨a',c',rfl, -, -, -,hy⟩:=hy.open
 simp only [relOf_length] at *
 have HX:=hide hx;have HY:=hide hy
 clear hx hy
 go_enter Tryz.func237,Tryz.ntmps237
 go_wp2_with fail
 (with_reducible refine HA.out.mono ?_);rintro e w0 ⟨rfl,hb0⟩
 have HB0:=hide hb0;clear hb0 HA
 go_wp2_with (at_make;refine wpList_make IntE 3 0 Tryz.infoInt rfl Tryz.underlying57 n (by decide) (by omega) rfl _ _ rfl rfl rfl ?_;intro w1 hown hgr)
 have hb1:=below_of_grown hgr
 go_loopw [18] (fun i wr => ∃ k:Nat,k≤n∧i = .int .i64 k∧Hid (OwnN wr w0.heap.size (.slice (some ⟨w0.heap.size,0,none⟩) n n) ((relOf n (fMinus f g)).take k++List.replicate (n - k) 0))∧Hid (Below w0.heap.size w0 wr)) (fun i _=>n - (intOf i).toNat)
 case atStart=>exact ⟨0,Nat.zero_le _,rfl,hide (by simpa using hown),hide hb1⟩
 case round =>
  obtain ⟨k,hk,rfl,HO,HB⟩:=hrel
  by_cases hlt:k < n
  ·have hlt':=nat_of_lt hlt
   have hb:=HB.out
   obtain ⟨b,o,rfl,hbl,i0⟩:=(HX.out.below HB0.out).int (relOf_get hlt)
   obtain ⟨b',o',rfl,hbl',j0⟩:=(HY.out.below HB0.out).int (relOf_get hlt)
   have i0:=(HB.out.cell (p:=⟨b,o+k,none⟩) hbl).trans i0
   have j0:=(HB.out.cell (p:=⟨b',o'+k,none⟩) hbl').trans j0
   have ne1:b≠w0.heap.size:=by omega
   have ne2:b'≠w0.heap.size:=by omega
   have ne3:w0.heap.size≠b:=by omega
   have ne4:w0.heap.size≠b':=by omega
   have hg:((relOf n (fMinus f g)).take k++List.replicate (n - k) 0)[k]? = some 0:=by
    have:=get_pad (relOf n (fMinus f g)) 0 (k:=k) (by rw [relOf_length];exact hlt)
    rwa [relOf_length] at this
   obtain ⟨hgl,f0,hfr⟩:=HO.out.int hg
   have ho2:=HO.out.setInt hg (bits .andNot .i64 (bitsTo (f k) n) (bitsTo (g k) n))
   rw [bitsTo_minus (f k) (g k) (n:=n) (by omega)] at ho2
   have hset:=set_pad (relOf n (fMinus f g)) 0 (relOf_get (f:=fMinus f g) hlt)
   rw [relOf_length] at hset
   have e:((relOf n (fMinus f g)).take k++List.replicate (n - k) 0).set k (bitsTo (fun j=>f k j && !g k j) n)=(relOf n (fMinus f g)).take (k+1)++List.replicate (n - (k+1)) 0:=hset
   rw [e] at ho2
   have HO2:=hide ho2
   have EQ:=hide (bitsTo_minus (f k) (g k) (n:=n) (by omega))
   have hfz:=hfr k
   clear ho2 e hset hg hb hfr
   generalize bitsTo (f k) n=rf at *
   generalize bitsTo (g k) n=rg at *
   go_wp2_with fail
   go_region_held3 (fun V=>V.cell? ⟨b,o+k,none⟩=some (.int .i64 rf)∧V.cell? ⟨b',o'+k,none⟩=some (.int .i64 rg)) ((simp [go_sem, *]))
    (first
     | (go_at_call 240;(with_reducible refine (bitMinus_any _ _ _).mono ?_);rintro e u1 ⟨rfl,rfl⟩))
   all_goals
    go_wp2_with fail
    go_roundw
    case rel=>exact ⟨k+1,by omega,by go_num,hide (by have h:=HO2.out.below (Below.refl _ _).drew;rw [← EQ.out] at h;exact h),hide ((HB.out.setCell (Nat.le_refl _) _).drew)⟩
    case measure=>simp [intOf];omega
  ·have e:k=n:=by omega
   subst e
   go_wp2_with fail
   go_ret
   have ho:=HO.out
   rw [Nat.sub_self,List.replicate_zero,List.append_nil,List.take_of_length_le (by rw [relOf_length];exact Nat.le_refl _)] at ho
   exact ⟨_,rfl,ho.mono HB0.out.size,HB0.out.trans (HB.out.mono HB0.out.size)⟩
theorem MinusRel_any (v v':Value) (n:Nat) (f g:Nat→Nat→Bool) (w:World) (hx:Rep IntE w v (relOf n f)) (hy:Rep IntE w v' (relOf n g)) (hn:n≤16) :
 Calls Tryz.prog 179 #[v,v'] w (RetOwn IntE 3 w (relOf n (fMinus f g))):=by
 have HC:=hide (combinedMinus v v' n f g w hx hy hn)
 clear hx hy
 go_enter Tryz.func179,Tryz.ntmps179
 go_wp2_with fail
 (with_reducible refine HC.out.mono ?_);rintro e w1 ⟨u,rfl,hu,hb1⟩
 go_wp2_with fail
 go_ret
 exact ⟨_,rfl,hu,hb1⟩
theorem l2Minus_any (v v':Value) (n:Nat) (f g:Nat→Nat→Bool) (w:World) (hx:Rep IntE w v (relOf n f)) (hy:Rep IntE w v' (relOf n g)) (hn:n≤60) :
 Calls Tryz.prog 200 #[v,v'] w (RetOwn IntE 3 w (relOf n (fMinus f g))):=by
 obtain ⟨a,c,rfl, -, -, -,hx⟩:=hx.open
 obtain ⟨a',c',rfl, -, -, -,hy⟩:=hy.open
 simp only [relOf_length] at *
 have HX:=hide hx;have HY:=hide hy
 clear hx hy
 have hown:=Own.empty (E:=IntE) 3 w (Nat.le_refl _)
 have hb1:=belowAlloc0 w (.cells #[] 3)
 go_enter Tryz.func200,Tryz.ntmps200
 go_wp2_with fail
 go_loopw [5,6] (fun s i wr => ∃ k:Nat,k≤n∧i = .int .i64 k∧Hid (OwnN wr w.heap.size s ((relOf n (fMinus f g)).take k))∧Hid (Below w.heap.size w wr)) (fun _ i _=>n - (intOf i).toNat)
 case atStart=>exact ⟨0,Nat.zero_le _,rfl,hide (by simpa using hown),hide hb1⟩
 case round =>
  obtain ⟨k,hk,rfl,HO,HB⟩:=hrel
  by_cases hlt:k < n
  ·have hlt':=nat_of_lt hlt
   obtain ⟨b,o,rfl,hbl,i0⟩:=HX.out.int (relOf_get hlt)
   obtain ⟨b',o',rfl,hbl',j0⟩:=HY.out.int (relOf_get hlt)
   have i0:=(HB.out.cell (p:=⟨b,o+k,none⟩) hbl).trans i0
   have j0:=(HB.out.cell (p:=⟨b',o'+k,none⟩) hbl').trans j0
   have EQ:=hide (bitsTo_minus (f k) (g k) (n:=n) hn)
   have TK:=hide (take_rel n k (fMinus f g) hlt)
   have hlen:((relOf n (fMinus f g)).take k).length≤68719476736:=by rw [List.length_take,relOf_length];omega
   have hsz:=HB.out.size
   obtain ⟨wm,rfl⟩:∃ wm:World,wm=wr:=⟨_,rfl⟩
   have l1:b < wm.heap.size:=by omega
   have l2:b' < wm.heap.size:=by omega
   generalize hGG:(relOf n (fMinus f g)).take k=G at *
   clear hGG
   have EQ2:Hid (bits .andNot .i64 (bitsTo (f k) n) (bitsTo (g k) n)=bitsTo ((fMinus f g) k) n):=hide EQ.out
   clear EQ
   generalize bitsTo (f k) n=rf at *
   generalize bitsTo (g k) n=rg at *
   have HO1:=hide ((HO.out.alloc (.cells #[.int .i64 (bits .andNot .i64 rf rg)] 3)).below (Below.refl _ _).drew)
   have HB1:=hide ((HB.out.alloc hsz (.cells #[.int .i64 (bits .andNot .i64 rf rg)] 3)).drew)
   have q1:Hid (((wm.alloc (.cells #[.int .i64 (bits .andNot .i64 rf rg)] 3)).drew).cell? ⟨b,o+k,none⟩=some (.int .i64 rf)):=hide (by simp [go_sem,i0,l1])
   have q2:Hid (((wm.alloc (.cells #[.int .i64 (bits .andNot .i64 rf rg)] 3)).drew).cell? ⟨b',o'+k,none⟩=some (.int .i64 rg)):=hide (by simp [go_sem,j0,l2])
   go_wp2_with fail
   go_region_held3 (fun V=>V.cell? ⟨b,o+k,none⟩=some (.int .i64 rf)∧V.cell? ⟨b',o'+k,none⟩=some (.int .i64 rg)) ((simp [go_sem, *]))
    (first
     | (refine step_app IntE 3 Tryz.infoInt rfl Tryz.underlying57 w.heap.size _ G (bits .andNot .i64 rf rg) HO1.out (by decide) hlen (by simp;omega) (by rfl) _ _ (by rfl) (by rfl) wm.heap.size 0 1 (by rfl) (news_drew) ?_;intro v' w6 hown6 hgr6;have k1:=(cell_grown hgr6 (b:=b) (by simp;omega) (fun q hq=>by have:=own_ge HO1.out q hq;omega) (o+k)).trans q1.out;have k2:=(cell_grown hgr6 (b:=b') (by simp;omega) (fun q hq=>by have:=own_ge HO1.out q hq;omega) (o'+k)).trans q2.out))
   all_goals
    have HOWN6:=hide hown6;have HB6:=hide (HB1.out.grown hgr6 (by simp;omega) (fun q hq=>own_ge HO1.out q hq))
    clear hown6 hgr6 k1 k2
    go_wp2_with fail
    go_roundw
    case rel=>exact ⟨k+1,by omega,by go_num,hide (by rw [TK.out];have h:=HOWN6.out;rw [EQ2.out] at h;exact h),HB6⟩
    case measure=>simp [intOf];omega
  ·have e:k=n:=by omega
   subst e
   have ho:=HO.out
   rw [List.take_of_length_le (by rw [relOf_length];exact Nat.le_refl _)] at ho
   have HO2:=hide ho
   clear ho
   go_wp2_with fail
   go_ret
   exact ⟨_,rfl,HO2.out,HB.out⟩
end Go.Proofs.YtfbgppkdnfljhaaGreatDoor
namespace Go.Proofs.YtfbgppkdnfljhaaGreatDoor
open Go.RowKit
theorem Tryz.infoRule:(Tryz.prog.info? 54).map (fun i=>(i.zero,i.size,i.bytes))=some (some (.agg #[.int .i64 0, .int .i64 0, .string ⟨#[]⟩, .slice none 0 0]),4,56):=by kernel_rfl
structure Us where
 kind:Int
 op:Int
 nm:ByteArray
 s:Slc
def UsE:El Us:=⟨4,by decide,fun x=>[.int .i64 x.kind, .int .i64 x.op, .string x.nm, .slice x.s.a x.s.n x.s.cap],fun _=>rfl,fun x u h=>by simp at h;rcases h with rfl | rfl | rfl | rfl <;> rfl⟩
def RepU (lo:Nat) (w:World) (u:Us) (r:Ru):Prop:=u.kind=r.kind∧u.op=r.e.op∧u.nm=r.e.nm∧RepRk lo w u.s r.e.kids
def RepM (lo:Nat) (w:World) (s:Slc) (m:List Ru):Prop:=
 ∃ us:List Us,us.length=m.length∧Rep UsE w s.v us∧From lo s us∧∀ (i:Nat) (u:Us) (r:Ru),us[i]? = some u→m[i]? = some r→RepU lo w u r
theorem Ru.eta (r:Ru):Ru.mk r.kind (.mk r.e.op r.e.nm r.e.kids)=r:=by cases r;simp [Re.eta]
theorem Rep.fromE {α:Type} {E:El α} {lo:Nat} {w w':World} {s:Slc} {us:List α} (h:Rep E w s.v us) (hf:From lo s us) (hk:∀ q,lo≤q→q < w.heap.size→w'.heap[q]? = w.heap[q]?):Rep E w' s.v us:=by
 obtain ⟨a,c,hv,h1,h2,h⟩:=h
 refine ⟨a,c,hv,h1,h2,fun i x hx => ?_⟩
 obtain ⟨b,o,rfl,hi⟩:=h i x hx
 refine ⟨b,o,rfl,fun j u hu => ?_⟩
 have hc:=hi j u hu
 rw [← hc]
 refine cell_of_block (hk b ?_ (lt_of_cell hc)) _
 rcases hf with rfl | hf
 ·simp at hx
 ·simp only [Slc.v,Value.slice.injEq] at hv
  exact hf b o hv.1
theorem RepU.keep {lo:Nat} {w w':World} {u:Us} {r:Ru} (h:RepU lo w u r) (hk:∀ q,lo≤q→q < w.heap.size→w'.heap[q]? = w.heap[q]?):RepU lo w' u r:=⟨h.1,h.2.1,h.2.2.1,h.2.2.2.keep hk⟩
theorem RepU.low {lo lo':Nat} {w:World} {u:Us} {r:Ru} (h:RepU lo w u r) (hl:lo'≤lo):RepU lo' w u r:=⟨h.1,h.2.1,h.2.2.1,h.2.2.2.low hl⟩
theorem RepM.keep {lo:Nat} {w w':World} {s:Slc} {m:List Ru} (h:RepM lo w s m) (hk:∀ q,lo≤q→q < w.heap.size→w'.heap[q]? = w.heap[q]?):RepM lo w' s m:=by
 obtain ⟨us,h1,h2,h3,h4⟩:=h
 exact ⟨us,h1,h2.fromE h3 hk,h3,fun i u k hu hk'=>(h4 i u k hu hk').keep hk⟩
theorem RepM.low {lo lo':Nat} {w:World} {s:Slc} {m:List Ru} (h:RepM lo w s m) (hl:lo'≤lo):RepM lo' w s m:=by
 obtain ⟨us,h1,h2,h3,h4⟩:=h
 refine ⟨us,h1,h2, ?_,fun i u k hu hk'=>(h4 i u k hu hk').low hl⟩
 rcases h3 with h3 | h3
 ·exact .inl h3
 ·exact .inr fun b o e=>Nat.le_trans hl (h3 b o e)
theorem RepM.below {lo:Nat} {w w':World} {s:Slc} {m:List Ru} (h:RepM lo w s m) (hb:Below w.heap.size w w'):RepM lo w' s m:=h.keep fun q _ hq=>hb.block q hq
theorem RepM.nil (lo:Nat) (w:World):RepM lo w ⟨none,0,0⟩ []:=⟨[],rfl,Rep.nil w, .inl rfl,fun i u k h=>by simp at h⟩
theorem RepM.open {lo:Nat} {w:World} {s:Slc} {m:List Ru} (h:RepM lo w s m):s.n=m.length∧m.length≤s.cap∧m.length≤9223372036854775807∧s.cap≤maxLen:=by
 obtain ⟨us,h1,h2,h3,h4⟩:=h
 obtain ⟨a,c,hv,h5,h6,h7,_⟩:=h2.open
 simp only [Slc.v,Value.slice.injEq] at hv
 obtain ⟨_,e2,e3⟩:=hv
 rw [e2,e3];omega
theorem RepM.row {lo:Nat} {w:World} {a:Option Addr} {n c:Nat} {m:List Ru} (h:RepM lo w ⟨a,n,c⟩ m) {k:Nat} {r:Ru} (hx:m[k]? = some r) :
 ∃ (b o:Nat) (s:Slc),a=some ⟨b,o,none⟩∧b < w.heap.size∧w.cell? ⟨b,o+k * 4,none⟩=some (.int .i64 r.kind)∧w.cell? ⟨b,o+k * 4+1,none⟩=some (.int .i64 r.e.op)∧w.cell? ⟨b,o+k * 4+2,none⟩=some (.string r.e.nm)∧w.cell? ⟨b,o+k * 4+3,none⟩=some (.slice s.a s.n s.cap)∧RepRk lo w s r.e.kids:=by
 obtain ⟨us,h1,h2,h3,h4⟩:=h
 obtain ⟨u,hu⟩:=get_of_lt (xs:=us) (k:=k) (by rw [h1];exact (List.getElem?_eq_some_iff.1 hx).1)
 obtain ⟨e0,e1,e2,hk⟩:=h4 k u r hu hx
 obtain ⟨a',c',hv,_,_,h⟩:=h2
 simp only [Slc.v,Value.slice.injEq] at hv
 obtain ⟨rfl,_,_⟩:=hv
 obtain ⟨b,o,rfl,h'⟩:=h k u hu
 rw [← e0,← e1,← e2]
 exact ⟨b,o,u.s,rfl,lt_of_cell (h' 0 _ rfl),h' 0 _ rfl,h' 1 _ rfl,h' 2 _ rfl,h' 3 _ rfl,hk⟩
def wtM (m:List Ru):Nat:=(m.map fun r=>r.e.nm.size+wtR r.e.kids+1).sum
theorem wtM_take_succ {m:List Ru} {k:Nat} {r:Ru} (h:m[k]? = some r):wtM (m.take (k+1))=wtM (m.take k)+(r.e.nm.size+wtR r.e.kids+1):=by
 unfold wtM
 rw [List.take_add_one,h,List.map_append,List.sum_append]
 simp
theorem wtM_split (m:List Ru) (k:Nat):wtM m=wtM (m.take k)+wtM (m.drop k):=by
 unfold wtM
 rw [← List.sum_append,← List.map_append,List.take_append_drop]
theorem wtM_mem {m:List Ru} {r:Ru} (h:r∈m):r.e.nm.size+wtR r.e.kids+1≤wtM m:=by
 obtain ⟨k,hk⟩:=List.getElem?_of_mem h
 have h1:=wtM_take_succ hk
 have h2:=wtM_split m (k+1)
 omega
theorem length_le_wtM (m:List Ru):m.length≤wtM m:=by
 unfold wtM
 induction m with
 | nil=>simp
 | cons k m ih=>simp;omega
theorem eqRule_any (k k' o o':Int) (p p':ByteArray) (xs ys:List Re) (a a':Option Addr) (n c n' c':Nat) (b:Bool) (w:World) (h:RepRk 0 w ⟨a,n,c⟩ xs) (h':RepRk 0 w ⟨a',n',c'⟩ ys) (hb:b=true↔Ru.mk k (.mk o p xs)=Ru.mk k' (.mk o' p' ys)) :
 Calls Tryz.prog 43 #[.agg #[.int .i64 k, .int .i64 o, .string p, .slice a n c], .agg #[.int .i64 k', .int .i64 o', .string p', .slice a' n' c']] w fun e w'=>e = .returned (.bool b)∧Below w.heap.size w w':=by
 have HB:=hide hb;clear hb
 have hbase:=((Below.refl w.heap.size w).alloc (Nat.le_refl _) (.cells #[.int .i64 k, .int .i64 o, .string p, .slice a n c] 54)).alloc (by simp) (.cells #[.int .i64 k', .int .i64 o', .string p', .slice a' n' c'] 54)
 obtain ⟨d,hd⟩:=some_bool (Re.mk o p xs=Re.mk o' p' ys)
 have HC:=hide (eqRelExpr_any o o' p p' xs ys a a' n c n' c' d _ (h.below hbase) (h'.below hbase) hd)
 have HBB:=hide hbase;have HD:=hide hd
 clear hbase h h' hd
 by_cases h1:k=k'
 ·have g1:(k != k')=false:=by simp [h1]
  obtain rfl:b=d:=by rw [Bool.eq_iff_iff,HB.out,HD.out];simp [h1]
  clear h1
  go_enter Tryz.func43,Tryz.ntmps43
  go_wp2_with fail
  (with_reducible refine (HC.out).mono ?_);rintro e w1 ⟨rfl,hb1⟩
  cases b
  ·go_wp2_with fail
   go_ret
   exact ⟨rfl,HBB.out.trans (hb1.mono HBB.out.size)⟩
  ·go_wp2_with fail
   go_ret
   exact ⟨rfl,HBB.out.trans (hb1.mono HBB.out.size)⟩
 ·have g1:(k != k')=true:=by simp [h1]
  obtain rfl:b=false:=by rw [Bool.eq_false_iff,ne_eq,HB.out];simp [h1]
  clear h1
  go_enter Tryz.func43,Tryz.ntmps43
  go_wp2_with fail
  go_ret
  exact ⟨rfl,HBB.out⟩
theorem eqRuleS_any (xs ys:List Ru) (a a':Option Addr) (n c n' c':Nat) (bb:Bool) (w:World) (hx:RepM 0 w ⟨a,n,c⟩ xs) (hy:RepM 0 w ⟨a',n',c'⟩ ys) (hbb:bb=true↔xs=ys) :
 Calls Tryz.prog 15 #[.slice a n c, .slice a' n' c'] w fun e w'=>e = .returned (.bool bb)∧Below w.heap.size w w':=by
 obtain ⟨e1,hc1,hc2,hc3⟩:=hx.open
 obtain ⟨e1',hc1',hc2',hc3'⟩:=hy.open
 simp only at e1 e1' hc1 hc2 hc3 hc1' hc2' hc3'
 have HX:=hide hx;have HY:=hide hy;have HB:=hide hbb
 clear hx hy hbb
 have H:=hide e1.symm;have H':=hide e1'.symm
 clear e1 e1'
 rw [H.out] at hc1 hc2
 rw [H'.out] at hc1' hc2'
 by_cases hc:n=n'
 ·subst hc
  have hc':((n:Int) != n)=false:=by simp
  go_enter Tryz.func15,Tryz.ntmps15
  go_wp2_with fail
  go_loopw [5] (fun v wr => ∃ k:Nat,k≤n∧v = .int .i64 k∧Hid (xs.take k=ys.take k)∧Below w.heap.size w wr) (fun v _=>n - (intOf v).toNat)
  case atStart=>exact ⟨0,Nat.zero_le _,rfl,hide (by simp),Below.refl _ _⟩
  case round =>
   obtain ⟨k,hk,rfl,T,hb⟩:=hrel
   by_cases hlt:k < n
   ·obtain ⟨x,hxk⟩:=get_of_lt (xs:=xs) (k:=k) (by rw [H.out];exact hlt)
    obtain ⟨y,hyk⟩:=get_of_lt (xs:=ys) (k:=k) (by rw [H'.out];exact hlt)
    obtain ⟨b,o,s,rfl,hbl,i0,i1,i2,i3,i5⟩:=(HX.out.below hb).row hxk
    obtain ⟨b',o',s',rfl,hbl',j0,j1,j2,j3,j5⟩:=(HY.out.below hb).row hyk
    have hlt':=nat_of_lt hlt
    obtain ⟨d,hd⟩:=some_bool (x=y)
    have HC:=hide (fun w' h h'=>eqRule_any x.kind y.kind x.e.op y.e.op x.e.nm y.e.nm x.e.kids y.e.kids s.a s'.a s.n s.cap s'.n s'.cap d w' h h' (by rw [hd,Ru.eta,Ru.eta]))
    have X:=hide hxk;clear hxk
    have Y:=hide hyk;clear hyk
    have I5:=hide i5;have J5:=hide j5;have D:=hide hd
    clear i5 j5 hd
    go_wp2_with fail
    refine wp_region_bw (by kernel_rfl) (by kernel_rfl) ?_
    repeat (go_big_quiet_step ((go_at_call 43;exact Calls.bw (HC.out _ (I5.out.below (BW.prop _)) (J5.out.below (BW.prop _))))))
    refine wpQuiet_nil ?_
    intro w1 hb1
    have hb2:=hb.trans (hb1.mono hb.size)
    cases d
    ·have hq:Hid (xs≠ys):=hide (ne_of_get X.out Y.out (fun e=>by have:=D.out.2 e;simp at this))
     go_wp2_with fail
     go_ret
     obtain rfl:bb=false:=by rw [Bool.eq_false_iff,ne_eq,HB.out];exact hq.out
     exact ⟨rfl,hb2⟩
    ·have T':=hide (take_eq_succ T.out X.out Y.out (D.out.1 rfl))
     go_wp2_with fail
     go_roundw
     case rel=>exact ⟨k+1,by omega,by go_num,T',hb2⟩
     case measure=>simp [intOf];omega
   ·have e2:Hid (xs=ys):=hide (take_all_eq T.out (by rw [H.out];omega) (by rw [H'.out];omega))
    go_wp2_with fail
    go_ret
    obtain rfl:bb=true:=HB.out.2 e2.out
    exact ⟨rfl,hb⟩
 ·have hc':((n:Int) != n')=true:=by simp;omega
  have hq:Hid (xs≠ys):=hide (fun h=>hc (by rw [← H.out,← H'.out,h]))
  go_enter Tryz.func15,Tryz.ntmps15
  go_wp2_with fail
  go_ret
  obtain rfl:bb=false:=by rw [Bool.eq_false_iff,ne_eq,HB.out];exact hq.out
  exact ⟨rfl,Below.refl _ _⟩
def szMm (m:List Ru) (l:Int):Int:=if l - wtM m < 0 then -1 else l - wtM m
theorem szRule_any (k o:Int) (p:ByteArray) (xs:List Re) (a:Option Addr) (n c:Nat) (l:Int) (w:World) (h:RepRk 0 w ⟨a,n,c⟩ xs) (hnm:∀ k∈xs,NmOk k) (h0:0≤l) (h1:l≤1048576) (hsz:p.size≤9223372036854775807) :
 Calls Tryz.prog 30 #[.agg #[.int .i64 k, .int .i64 o, .string p, .slice a n c], .int .i64 l] w fun e w'=>e = .returned (.int .i64 (szRe p xs l))∧Below w.heap.size w w':=by
 have hbase:=(Below.refl w.heap.size w).alloc (Nat.le_refl _) (.cells #[.int .i64 k, .int .i64 o, .string p, .slice a n c] 71)
 have HC:=hide (szRelExpr_any o p xs a n c l _ (h.below hbase) hnm h0 h1 hsz)
 have HBB:=hide hbase
 have hz:szRe p xs l = -1∨0≤szRe p xs l:=by unfold szRe;split <;> omega
 clear hbase h hnm
 generalize szRe p xs l=R at *
 rcases hz with rfl | hz
 ·go_enter Tryz.func30,Tryz.ntmps30
  go_wp2_with fail
  (with_reducible refine (HC.out).mono ?_);rintro e w1 ⟨rfl,hb1⟩
  go_wp2_with fail
  go_ret
  exact ⟨rfl,HBB.out.trans (hb1.mono HBB.out.size)⟩
 ·go_enter Tryz.func30,Tryz.ntmps30
  go_wp2_with fail
  (with_reducible refine (HC.out).mono ?_);rintro e w1 ⟨rfl,hb1⟩
  go_wp2_with fail
  go_ret
  exact ⟨rfl,HBB.out.trans (hb1.mono HBB.out.size)⟩
theorem szRuleS_any (m:List Ru) (a:Option Addr) (n c:Nat) (l:Int) (w:World) (hx:RepM 0 w ⟨a,n,c⟩ m) (hnm:∀ r∈m,NmOk r.e) (h0:0≤l) (h1:l≤1048576) :
 Calls Tryz.prog 8 #[.slice a n c, .int .i64 l] w fun e w'=>e = .returned (.int .i64 (szMm m l))∧Below w.heap.size w w':=by
 obtain ⟨e1,hc1,hc2,hc3⟩:=hx.open
 simp only at e1 hc1 hc2 hc3
 have HX:=hide hx;have HNM:=hide hnm
 clear hx hnm
 have H:=hide e1.symm
 clear e1
 rw [H.out] at hc1 hc2
 have SZ:Hid (szMm m l=if l - wtM m < 0 then -1 else l - wtM m):=hide rfl
 have LD:=hide (length_le_wtM m)
 generalize szMm m l=z at *
 by_cases h:l - n < 0
 ·obtain rfl:z = -1:=by rw [SZ.out,if_pos (by have:=LD.out;rw [H.out] at this;omega)]
  go_enter Tryz.func8,Tryz.ntmps8
  go_wp2_with fail
  go_ret
  exact ⟨rfl,Below.refl _ _⟩
 ·go_enter Tryz.func8,Tryz.ntmps8
  go_wp2_with fail
  go_loopw [1,5] (fun q i wr => ∃ (k:Nat) (r:Int),k≤n∧i = .int .i64 k∧q = .int .i64 r∧0≤r∧Hid (r=l - n+k - wtM (m.take k))∧r≤l∧Below w.heap.size w wr) (fun _ i _=>n - (intOf i).toNat)
  case atStart=>exact ⟨0,_,Nat.zero_le _,rfl,rfl,by omega,hide (by simp [wtM]),by omega,Below.refl _ _⟩
  case round =>
   obtain ⟨k,r,hk,rfl,rfl,hr0,R,hrl,hb⟩:=hrel
   by_cases hlt:k < n
   ·obtain ⟨x,hxk⟩:=get_of_lt (xs:=m) (k:=k) (by rw [H.out];exact hlt)
    obtain ⟨b,o,s,rfl,hbl,i0,i1,i2,i3,i5⟩:=(HX.out.below hb).row hxk
    have hlt':=nat_of_lt hlt
    have hxn:=HNM.out x (List.mem_of_getElem? hxk)
    have HC:=hide (fun w' h=>szRule_any x.kind x.e.op x.e.nm x.e.kids s.a s.n s.cap r w' h hxn.kids hr0 (by omega) hxn.size)
    have ST:=hide (wtM_take_succ hxk)
    have LK:=hide (length_le_wtM (m.drop (k+1)))
    have DS:=hide (wtM_split m (k+1))
    have LL:Hid (n - (k+1)≤wtM (m.drop (k+1))):=hide (by have:=LK.out;rw [List.length_drop,H.out] at this;exact this)
    have I5:=hide i5
    clear i5 hxk hxn
    have SK:Hid (szRe x.e.nm x.e.kids r=if r - (x.e.nm.size+wtR x.e.kids:Nat) < 0 then -1 else r - (x.e.nm.size+wtR x.e.kids:Nat)):=hide rfl
    generalize hzz:szRe x.e.nm x.e.kids r=zz at *
    clear hzz
    go_wp2_with fail
    (with_reducible refine (HC.out _ I5.out).mono ?_);rintro e w1 ⟨rfl,hb1⟩
    have hb2:=hb.trans (hb1.mono hb.size)
    by_cases hz:r - (x.e.nm.size+wtR x.e.kids:Nat) < 0
    ·have E1:zz = -1:=by rw [SK.out,if_pos hz]
     obtain rfl:z = -1:=by rw [SZ.out,if_pos (by have:=R.out;have:=DS.out;have:=ST.out;have:=LL.out;omega)]
     subst E1
     go_wp2_with fail
     go_ret
     exact ⟨rfl,hb2⟩
    ·have E1:Hid (zz=r - (x.e.nm.size+wtR x.e.kids:Nat)):=hide (by rw [SK.out,if_neg hz])
     have hz0:0≤zz:=by rw [E1.out];omega
     have hzl:zz≤l:=by rw [E1.out];omega
     clear hz
     go_wp2_with fail
     go_roundw
     case rel=>exact ⟨k+1,zz,by omega,by go_num,rfl,hz0,hide (by rw [E1.out,R.out,ST.out];omega),hzl,hb2⟩
     case measure=>simp [intOf];omega
   ·have e:k=n:=by omega
    obtain rfl:z=r:=by
     have h1:=R.out
     rw [List.take_of_length_le (by rw [H.out];omega)] at h1
     rw [SZ.out,if_neg (by omega)];omega
    go_wp2_with fail
    go_ret
    exact ⟨rfl,hb⟩
theorem Own.setUs {T:TypeId} {w:World} {base g n cap:Nat} {xs:List Us} (h:Own UsE T w base (.slice (some ⟨g,0,none⟩) n cap) xs) {k:Nat} {z:Us} (hz:xs[k]? = some z) (x:Us) :
 Own UsE T ((((w.setCell ⟨g,k * 4,none⟩ (.int .i64 x.kind)).setCell ⟨g,k * 4+1,none⟩ (.int .i64 x.op)).setCell ⟨g,k * 4+2,none⟩ (.string x.nm)).setCell ⟨g,k * 4+3,none⟩ (.slice x.s.a x.s.n x.s.cap)) base (.slice (some ⟨g,0,none⟩) n cap) (xs.set k x):=by
 have h0:=h.set (i:=k) (j:=0) ⟨x.kind,z.op,z.nm,z.s⟩ (u:=.int .i64 x.kind) (by decide) hz rfl
 have h1:=h0.set (i:=k) (j:=1) ⟨x.kind,x.op,z.nm,z.s⟩ (u:=.int .i64 x.op) (by decide) (get_set_self hz _) rfl
 have h2:=h1.set (i:=k) (j:=2) ⟨x.kind,x.op,x.nm,z.s⟩ (u:=.string x.nm) (by decide) (get_set_self (get_set_self hz _) _) rfl
 have h3:=h2.set (i:=k) (j:=3) x (u:=.slice x.s.a x.s.n x.s.cap) (by decide) (get_set_self (get_set_self (get_set_self hz _) _) _) rfl
 simp only [List.set_set] at h3
 exact h3
theorem Own.usr {T:TypeId} {w:World} {base g n cap:Nat} {xs:List Us} (h:Own UsE T w base (.slice (some ⟨g,0,none⟩) n cap) xs) {k:Nat} {x:Us} (hx:xs[k]? = some x) :
 g < w.heap.size∧w.cell? ⟨g,k * 4,none⟩=some (.int .i64 x.kind)∧w.cell? ⟨g,k * 4+1,none⟩=some (.int .i64 x.op)∧w.cell? ⟨g,k * 4+2,none⟩=some (.string x.nm) ∧
  w.cell? ⟨g,k * 4+3,none⟩=some (.slice x.s.a x.s.n x.s.cap)∧∀ j,w.frozen? ⟨g,j,none⟩=false:=
 ⟨(World.ownsRow.lt h g rfl).2,h.cell hx (j:=0) rfl,h.cell hx (j:=1) rfl,h.cell hx (j:=2) rfl,h.cell hx (j:=3) rfl,fun j=>h.frozen j⟩
end Go.Proofs.YtfbgppkdnfljhaaGreatDoor
namespace Go.Proofs.YtfbgppkdnfljhaaGreatDoor
open Go.RowKit
def notT (T:TypeId) (o:Obj):Prop:=∀ a fz,o≠.cells a T fz
structure LocR (T:TypeId) (lo hi:Nat) (w:World) (φ:World→Prop):Prop where
 now:φ w
 le:hi≤w.heap.size
 keep:∀ w':World,(∀ k ob,lo≤k→k < hi→w.heap[k]? = some ob→notT T ob→w'.heap[k]? = some ob)→φ w'
theorem LocR.step {T:TypeId} {lo hi:Nat} {w w':World} {φ:World→Prop} (h:LocR T lo hi w φ) (hs:w.heap.size≤w'.heap.size) (hk:∀ k ob,lo≤k→k < hi→w.heap[k]? = some ob→notT T ob→w'.heap[k]? = some ob):LocR T lo hi w' φ:=
 ⟨h.keep w' hk,Nat.le_trans h.le hs,fun w'' h2=>h.keep w'' fun k ob h3 h4 h5 h6=>h2 k ob h3 h4 (hk k ob h3 h4 h5 h6) h6⟩
theorem LocR.below {T:TypeId} {lo hi:Nat} {w w':World} {φ:World→Prop} (h:LocR T lo hi w φ) (hb:Below w.heap.size w w'):LocR T lo hi w' φ:=
 h.step hb.size fun k _ _ _ h5 _=>(hb.block k (Array.getElem?_eq_some_iff.1 h5).1).trans h5
theorem Own.typed {α:Type} {E:El α} {T:TypeId} {w:World} {base g:Nat} {v:Value} {xs:List α} (h:Own E T w base v xs) (hg:v.ownBlock=some g):∃ a,w.heap[g]? = some (.cells a T (0,0)):=by
 rcases h.2 with ⟨rfl,_⟩ | ⟨g',cap,cur,rfl,_,hg',_⟩
 ·simp [Value.ownBlock] at hg
 ·simp [Value.ownBlock] at hg
  subst hg
  exact ⟨cur,hg'⟩
theorem LocR.grown {α:Type} {E:El α} {T:TypeId} {lo hi base:Nat} {w w':World} {v:Value} {xs:List α} {φ:World→Prop} (h:LocR T lo hi w φ) (ho:Own E T w base v xs) (hg:w.grownBy w' v.ownBlock):LocR T lo hi w' φ:=
 h.step hg.size fun k ob _ _ h5 h6=>(hg.block k (Array.getElem?_eq_some_iff.1 h5).1 (fun e=>by
  obtain ⟨a,ha⟩:=ho.typed e.symm
  rw [h5] at ha
  exact h6 a _ (Option.some.inj ha))).trans h5
theorem LocR.wide {T:TypeId} {lo hi lo' hi':Nat} {w:World} {φ:World→Prop} (h:LocR T lo hi w φ) (h1:lo'≤lo) (h2:hi≤hi') (h3:hi'≤w.heap.size):LocR T lo' hi' w φ:=
 ⟨h.now,h3,fun w' k=>h.keep w' fun q ob a b c d=>k q ob (by omega) (by omega) c d⟩
theorem LocR.map {T:TypeId} {lo hi:Nat} {w:World} {φ ψ:World→Prop} (h:LocR T lo hi w φ) (f:∀ V,φ V→ψ V):LocR T lo hi w ψ:=⟨f _ h.now,h.le,fun w' k=>f _ (h.keep w' k)⟩
theorem LocR.and {T:TypeId} {lo hi:Nat} {w:World} {φ ψ:World→Prop} (h:LocR T lo hi w φ) (k:LocR T lo hi w ψ):LocR T lo hi w (fun W=>φ W∧ψ W):=⟨⟨h.now,k.now⟩,h.le,fun w' s=>⟨h.keep w' s,k.keep w' s⟩⟩
theorem LocR.all {ι:Type} {T:TypeId} {lo hi:Nat} {w:World} {φ:ι→World→Prop} (hh:hi≤w.heap.size) (h:∀ i,LocR T lo hi w (φ i)):LocR T lo hi w (fun W => ∀ i,φ i W):=⟨fun i=>(h i).now,hh,fun w' s i=>(h i).keep w' s⟩
theorem LocR.imp {T:TypeId} {lo hi:Nat} {w:World} {p:Prop} {φ:World→Prop} (hh:hi≤w.heap.size) (h:p→LocR T lo hi w φ):LocR T lo hi w (fun W=>p→φ W):=⟨fun i=>(h i).now,hh,fun w' s i=>(h i).keep w' s⟩
theorem LocR.ofOwn {α:Type} {E:El α} {U T:TypeId} (hT:U≠T) {w:World} {lo hi:Nat} {v:Value} {xs:List α} (h:Own E U w lo v xs) (hh:hi≤w.heap.size) (hv:∀ q,v.ownBlock=some q→q < hi):LocR T lo hi w (fun W=>Own E U W lo v xs):=
 ⟨h,hh,fun w' k=>h.sameV fun q hq=>by
  obtain ⟨a,ha⟩:=h.typed hq
  rw [k q _ (World.ownsRow.lt h q hq).1 (hv q hq) ha (fun a' fz e=>by simp at e;exact hT e.2.1),ha]⟩
theorem LocR.own {α:Type} {E:El α} {U T:TypeId} (hT:U≠T) {w:World} {lo:Nat} {v:Value} {xs:List α} (h:Own E U w lo v xs):LocR T lo w.heap.size w (fun W=>Own E U W lo v xs):=
 LocR.ofOwn hT h (Nat.le_refl _) fun q hq=>(World.ownsRow.lt h q hq).2
structure Dd where
 lo:Nat
 hi:Nat
 us:List Slc
section
variable {α β : Type} {E : El α} {T : TypeId} {R : Dd → Dd → Prop} {φ : Dd → World → α → β → Prop}
structure OwnFU (E:El α) (T:TypeId) (R:Dd→Dd→Prop) (φ:Dd→World→α→β→Prop) (us:List α) (ds:List Dd) (w:World) (base:Nat) (v:Value) (xs:List β):Prop where
 lu:us.length=xs.length
 ld:ds.length=xs.length
 pw:ds.Pairwise R
 own:Own E T w base v us
 rows:∀ (i:Nat) (u:α) (d:Dd) (x:β),us[i]? = some u→ds[i]? = some d→xs[i]? = some x→base≤d.lo∧LocR T d.lo d.hi w (fun W=>φ d W u x)
def OwnF (E:El α) (T:TypeId) (R:Dd→Dd→Prop) (φ:Dd→World→α→β→Prop) (w:World) (base:Nat) (v:Value) (xs:List β):Prop:=∃ us ds,OwnFU E T R φ us ds w base v xs
theorem OwnFU.below {us:List α} {ds:List Dd} {w w':World} {base:Nat} {v:Value} {xs:List β} (h:OwnFU E T R φ us ds w base v xs) (hb:Below w.heap.size w w'):OwnFU E T R φ us ds w' base v xs:=
 ⟨h.lu,h.ld,h.pw,h.own.below hb,fun i u d x h1 h2 h3=>⟨(h.rows i u d x h1 h2 h3).1,(h.rows i u d x h1 h2 h3).2.below hb⟩⟩
theorem OwnFU.mono {us:List α} {ds:List Dd} {w:World} {base base':Nat} {v:Value} {xs:List β} (h:OwnFU E T R φ us ds w base v xs) (hb:base'≤base):OwnFU E T R φ us ds w base' v xs:=
 ⟨h.lu,h.ld,h.pw,h.own.mono hb,fun i u d x h1 h2 h3=>⟨Nat.le_trans hb (h.rows i u d x h1 h2 h3).1,(h.rows i u d x h1 h2 h3).2⟩⟩
theorem OwnF.below {w w':World} {base:Nat} {v:Value} {xs:List β} (h:OwnF E T R φ w base v xs) (hb:Below w.heap.size w w'):OwnF E T R φ w' base v xs:=by
 obtain ⟨us,ds,h⟩:=h
 exact ⟨us,ds,h.below hb⟩
theorem OwnF.mono {w:World} {base base':Nat} {v:Value} {xs:List β} (h:OwnF E T R φ w base v xs) (hb:base'≤base):OwnF E T R φ w base' v xs:=by
 obtain ⟨us,ds,h⟩:=h
 exact ⟨us,ds,h.mono hb⟩
theorem OwnF.empty (T:TypeId) (w:World) {base:Nat} (hb:base≤w.heap.size):OwnF E T R φ (w.alloc (.cells #[] T)) base (.slice (some ⟨w.heap.size,0,none⟩) 0 0) []:=
 ⟨[],[],rfl,rfl, .nil,Own.empty _ _ hb,fun i u d x h=>by simp at h⟩
theorem OwnF.nil (T:TypeId) (w:World) (base:Nat):OwnF E T R φ w base (.slice none 0 0) []:=
 ⟨[],[],rfl,rfl, .nil,Own.nil _ _ _,fun i u d x h=>by simp at h⟩
theorem OwnFU.app {us:List α} {ds:List Dd} {w w':World} {base:Nat} {v v':Value} {xs:List β} (h:OwnFU E T R φ us ds w base v xs) {u:α} {d:Dd} {x:β} (ho:Own E T w' base v' (us++[u])) (hg:w.grownBy w' v.ownBlock)
 (hb:base≤d.lo) (hn:LocR T d.lo d.hi w (fun W=>φ d W u x)) (hR:∀ d'∈ds,R d' d):OwnFU E T R φ (us++[u]) (ds++[d]) w' base v' (xs++[x]):=by
 have hd:=h.ld
 refine ⟨by simp [h.lu],by simp [h.ld],List.pairwise_append.2 ⟨h.pw,by simp,fun a ha b hb=>by simp at hb;subst hb;exact hR a ha⟩,ho,fun i u' d' x' h1 h2 h3 => ?_⟩
 by_cases hlt:i < xs.length
 ·rw [List.getElem?_append_left (by rw [h.lu];exact hlt)] at h1
  rw [List.getElem?_append_left (by rw [h.ld];exact hlt)] at h2
  rw [List.getElem?_append_left hlt] at h3
  obtain ⟨r1,r2⟩:=h.rows i u' d' x' h1 h2 h3
  exact ⟨r1,r2.grown h.own hg⟩
 ·rw [List.getElem?_append_right (by rw [h.lu];omega),h.lu] at h1
  rw [List.getElem?_append_right (by rw [h.ld];omega),h.ld] at h2
  rw [List.getElem?_append_right (by omega)] at h3
  have he:i - xs.length=0:=by
   rcases Nat.eq_zero_or_pos (i - xs.length) with h | h
   ·exact h
   ·rw [List.getElem?_eq_none (by simp;omega)] at h3;cases h3
  rw [he] at h1 h2 h3
  simp at h1 h2 h3
  subst h1;subst h2;subst h3
  exact ⟨hb,hn.grown h.own hg⟩
theorem OwnFU.at {us:List α} {ds:List Dd} {w:World} {base:Nat} {a:Option Addr} {n c:Nat} {xs:List β} (h:OwnFU E T R φ us ds w base (.slice a n c) xs) {k:Nat} {x:β} (hx:xs[k]? = some x) :
 ∃ u d g,us[k]? = some u∧ds[k]? = some d∧a=some ⟨g,0,none⟩∧base≤g∧g < w.heap.size∧(∀ j y,(E.c u)[j]? = some y→w.cell? ⟨g,k * E.sz+j,none⟩=some y)∧base≤d.lo∧LocR T d.lo d.hi w (fun W=>φ d W u x):=by
 have hk:=(List.getElem?_eq_some_iff.1 hx).1
 obtain ⟨u,hu⟩:=get_of_lt (xs:=us) (k:=k) (by rw [h.lu];exact hk)
 obtain ⟨d,hd⟩:=get_of_lt (xs:=ds) (k:=k) (by rw [h.ld];exact hk)
 obtain ⟨r1,r2⟩:=h.rows k u d x hu hd hx
 rcases h.own.shape with ⟨_,hn⟩ | ⟨g,cap,hv,hg1,hg2,_⟩
 ·rw [hn] at hu;simp at hu
 ·simp only [Value.slice.injEq] at hv
  obtain ⟨rfl,rfl,rfl⟩:=hv
  exact ⟨u,d,g,hu,hd,rfl,hg1,hg2,fun j y hy=>h.own.cell hu hy,r1,r2⟩
theorem OwnF.shape {w:World} {base:Nat} {v:Value} {xs:List β} (h:OwnF E T R φ w base v xs):(v = .slice none 0 0∧xs=[])∨∃ g cap,v = .slice (some ⟨g,0,none⟩) xs.length cap∧base≤g∧g < w.heap.size:=by
 obtain ⟨us,ds,h⟩:=h
 rcases h.own.shape with ⟨h1,h2⟩ | ⟨g,cap,h1,h2,h3,_⟩
 ·refine .inl ⟨h1, ?_⟩
  have:=h.lu
  rw [h2] at this
  exact List.length_eq_zero_iff.1 this.symm
 ·exact .inr ⟨g,cap,by rw [h1,h.lu],h2,h3⟩
end
theorem Own.lit1 {α:Type} {E:El α} {T:TypeId} (w:World) {base:Nat} (hb:base≤w.heap.size) (x:α):Own E T (w.alloc (.cells (E.c x).toArray T)) base (.slice (some ⟨w.heap.size,0,none⟩) 1 1) [x]:=by
 refine ⟨by simp [E.len], .inr ⟨w.heap.size,1,(E.c x).toArray,rfl,hb,heap_alloc_new w _,Nat.le_refl _,by unfold maxLen;omega,by simp [E.len], ?_⟩⟩
 simp only [List.flatMap_cons,List.flatMap_nil,List.append_nil]
 rw [List.take_of_length_le (by simp [E.len])]
theorem run_append_zero {P:Program} {w:World} {base:Nat} {t ty e:TypeId} {i:TypeInfo} {size:Nat} (ht:P.underlying t=some (.slice e)) (hi:P.info? e=some i)
 {v:Value} {n c:Nat} {xs:List Value} (hown:w.ownsRow base e size v n xs) (ad:Addr):(Builtin.append_ #[t,t] ty #[v, .slice (some ad) 0 c]).run P w = .ok v w:=by
 rcases hown.2 with ⟨rfl,rfl⟩ | ⟨g,cap,cur,rfl,_,_,hnc,_⟩
 ·simp [Builtin.append_,run_underlying ht,sizeOf,typeInfo,hi,Builtin.lenOf,Builtin.firstCells,loadCells,loadCellsFrom]
 ·simp [Builtin.append_,run_underlying ht,sizeOf,typeInfo,hi,Builtin.lenOf,Builtin.firstCells,hnc,loadCells,loadCellsFrom,storeCells]
theorem step_appS {α:Type} (E:El α) {P:Program} {w:World} {ops:Array Oper} {o:Oper} {a:Act} {K:Act→World→Prop} {Q:Exit→Act→World→Prop} {F:Prop}
 (T:TypeId) {zv:Value} {bytes:Nat} (hinfo:(P.info? T).map (fun i=>(i.zero,i.size,i.bytes))=some (some zv,E.sz,bytes)) (hz:zv.cells.size=E.sz) {t:TypeId} (h1:P.underlying t=some (.slice T))
 (base:Nat) (v:Value) (xs ys:List α) (u:Value) (hown:Own E T w base v xs) (hrep:Rep E w u ys) (hby:bytes≤256) (hn:xs.length+ys.length≤68719476736) (hbase:base≤w.heap.size)
 (hg:o.guard=none) (s y:Operand) (hop:o.op = .call { callee:=.builtin .append,args:=#[s,y],argTypes:=#[t,t] })
 (hs:a.eval s=v) (hy:a.eval y=u)
 (hK:∀ v' w',Own E T w' base v' (xs++ys)→w.grownBy w' v.ownBlock→K (a.put o.dst v') w') :
 if Region.wanted o (yielded ops a.tmps)=true then Oper.wp P o a w K Q else F:=by
 obtain ⟨it,hi,hz0,hz1,hz2⟩:=info_parts hinfo
 obtain ⟨ad,c,rfl,hc1,hc2,hcell⟩:=hrep
 have hw:Region.wanted o (yielded ops a.tmps)=true:=by simp [Region.wanted,hg]
 have hnone:∀ r:(Builtin.append_ #[t,t] o.type #[v, .slice ad ys.length c]).run P w = .ok v w,ys=[]→(if Region.wanted o (yielded ops a.tmps)=true then Oper.wp P o a w K Q else F):=fun r hys=>by
  rw [if_pos hw]
  unfold Oper.wp
  simp [execOp,hop,resolve,invoke,builtin,hs,hy,r,Result.andThen]
  exact hK _ _ (by subst hys;simpa using hown) (World.grownBy.refl _ _)
 cases ad with
 | none =>
  have hys:ys=[]:=by
   cases ys with
   | nil=>rfl
   | cons y ys=>obtain ⟨b,o,hb,_⟩:=hcell 0 y rfl;cases hb
  exact hnone (by subst hys;exact run_append_none h1 hi hown) hys
 | some ad =>
  by_cases hys:ys=[]
  ·exact hnone (by subst hys;exact run_append_zero h1 hi hown ad) hys
  have hpos:0 < ys.length:=List.length_pos_iff.2 hys
  refine step_append_lies w hg s y t hop base T it zv E.sz bytes h1 hi hz0 hz1 hz2 hz E.pos v xs.length _ hs hown ad ys.length c (ys.flatMap E.c) hy (E.length ys) ?_ ?_ hpos (by unfold maxLen;omega) ?_ hbase _ rfl ?_
  ·intro j u hu
   have hpos:=E.pos
   have hj:j=j / E.sz * E.sz+j % E.sz:=by rw [Nat.mul_comm];exact (Nat.div_add_mod j E.sz).symm
   have hm:j % E.sz < E.sz:=Nat.mod_lt _ hpos
   have hu2:=hu
   rw [hj,E.get ys _ _ hm] at hu2
   cases hx:ys[j / E.sz]? with
   | none=>rw [hx] at hu2;cases hu2
   | some x =>
    rw [hx] at hu2
    obtain ⟨b,o,hb,h⟩:=hcell _ x hx
    simp only [Option.some.injEq] at hb
    subst hb
    have hc:=h (j % E.sz) u hu2
    rw [Addr.add_lit,hj,← Nat.add_assoc]
    exact hc
  ·intro u hu
   rw [List.mem_flatMap] at hu
   obtain ⟨x,_,hx⟩:=hu
   exact E.one x u hx
  ·have:=Nat.mul_le_mul (show xs.length+ys.length≤68719476736 from hn) hby
   omega
  ·intro g cap w' h2 h3 _ _
   refine hK _ w' ?_ h3
   unfold Own
   simpa [List.flatMap_append] using h2
end Go.Proofs.YtfbgppkdnfljhaaGreatDoor
namespace Go.Proofs.YtfbgppkdnfljhaaGreatDoor
theorem permsD_ne:∀ (n:Nat) (xs:List Int),xs.length=n→0 < (permsD n xs).length:=by
 intro n
 induction n with
 | zero=>intro xs _;simp [permsD]
 | succ n ih =>
  intro xs hx
  have h:=ih (xs.eraseIdx 0) (by rw [List.length_eraseIdx,if_pos (by omega),hx];rfl)
  unfold permsD
  rw [hx,List.range_succ_eq_map,List.flatMap_cons,List.length_append,List.length_map]
  omega
theorem permsL_ne (xs:List Int):0 < (permsL xs).length:=permsD_ne _ xs rfl
theorem ordsL_ne (es : List Ev) : ∀ (n l : Nat), l + n = 3 → 0 < (ordsL es l).length := by
  intro n
  induction n with
  | zero => intro l hl; obtain rfl : l = 3 := by omega
            simp [ordsL_end]
  | succ n ih =>
    intro l hl
    rw [ordsL_step (by omega)]
    have h1 := permsL_ne (wrL es l).tail
    have h2 := ih (l + 1) (by omega)
    cases h : permsL (wrL es l).tail with
    | nil => rw [h] at h1; simp at h1
    | cons q qs => rw [List.flatMap_cons, List.length_append, List.length_map]; omega
theorem fromsL_ne {p:List (List Ins)} (hpv:progValid p=true):∀ (n i:Nat),i+n=(evAll p).length→0 < (fromsL (evAll p) i).length:=by
 have hv:=valid_le hpv
 intro n
 induction n with
 | zero =>
  intro i hi
  obtain rfl:i=(evAll p).length:=by omega
  simp [fromsL_end]
 | succ n ih =>
  intro i hi
  have h2:=ih (i+1) (by omega)
  rw [fromsL_step (by omega)]
  obtain ⟨e,he⟩:=get_of_lt (xs:=evAll p) (k:=i) (by omega)
  have hex:∃ k∈fromC (evAll p) i,k≠(i:Int):=by
   unfold fromC
   rw [he]
   simp only
   cases hr:e.r with
   | false=>exact ⟨-1,by simp,by omega⟩
   | true =>
    obtain ⟨t',i',r,h3, -⟩:=ev_read (p:=p) he hr
    have hl:e.l=0∨e.l=1∨e.l=2:=by
     rcases ev_cases he with h4 | ⟨t2,i2,r2, -, -,h5,h6, -, -,h9⟩
     ·omega
     ·rw [h9];exact insValid_loc ((hv.2.2.1 r2 (List.mem_of_getElem? h5)).2 _ (List.mem_of_getElem? h6))
    have hi3:3≤i:=by
     rcases Nat.lt_or_ge i 3 with h | h
     ·exfalso
      unfold evAll at he
      rw [List.getElem?_append_left (by rw [evHead_length];exact h)] at he
      have:e.t = -1:=by
       have h5:i=0∨i=1∨i=2:=by omega
       rcases h5 with rfl | rfl | rfl <;> simp [evHead,List.range_succ] at he <;> rw [← he]
      omega
     ·exact h
    have hm:∀ l:Nat,l < 3→(l:Int)∈wrL (evAll p) l:=fun l hl=>List.mem_of_mem_head? (by rw [head_wrL hl];simp)
    simp only [if_pos]
    rcases hl with hl | hl | hl
    ·exact ⟨0,by rw [hl];exact hm 0 (by omega),by omega⟩
    ·exact ⟨1,by rw [hl];exact hm 1 (by omega),by omega⟩
    ·exact ⟨2,by rw [hl];exact hm 2 (by omega),by omega⟩
  obtain ⟨k,hk,hki⟩:=hex
  obtain ⟨y,hy⟩:∃ y,y∈fromsL (evAll p) (i+1):=by
   cases h:fromsL (evAll p) (i+1) with
   | nil=>rw [h] at h2;simp at h2
   | cons y ys=>exact ⟨y,by simp⟩
  have:(k :: y)∈(fromC (evAll p) i).flatMap (pre1 i (fromsL (evAll p) (i+1))):=by
   rw [List.mem_flatMap]
   refine ⟨k,hk, ?_⟩
   unfold pre1
   rw [if_neg hki]
   exact List.mem_map.2 ⟨y,hy,rfl⟩
  exact List.length_pos_of_mem this
theorem allX_le {p:List (List Ins)} (hpv:progValid p=true):(allX (evAll p)).length≤3000:=by
 have h1:=flatMap_length_le (fun f=>(ordsL (evAll p) 0).map (Xc.mk f ·)) (ordsL (evAll p) 0).length (fromsL (evAll p) 0) (fun f _=>by rw [List.length_map];exact Nat.le_refl _)
 exact Nat.le_trans h1 (few hpv).all
end Go.Proofs.YtfbgppkdnfljhaaGreatDoor
namespace Go.Proofs.YtfbgppkdnfljhaaGreatDoor
open Go.ChangeShapes Go.WideShapes Go.ChangeAt Go.WideMaps Go.WideElems Go.RowKit
abbrev laidL : List (String × DataW Unit) := [("loop.example/weakmemory/impl.relNames", Rows.laid_loop_example_weakmemory_impl_relNames)]
theorem gNames : Tryz.prog.globalNamed "loop.example/weakmemory/impl.relNames" = some 1 := by kernel_rfl
theorem tNames:(Tryz.prog.globals[1]?).map (·.type)=some 230:=by kernel_rfl
theorem door_met (os:Os) (args:Array Value):laidMetH Tryz.prog laidL ((World.doorLaid Tryz.prog 14 os).forCall (fun _ _=>0) ⟨#[],args,[]⟩).memory:=
 laidMetH_of_parts3 (fuel:=8) (laidMet_of_run' 8 (by kernel_rfl) (by kernel_rfl)) (by kernel_rfl) (by kernel_rfl)
theorem glob_of_laid {W:World} (h:laidMetH Tryz.prog laidL W):Glob W:=by
 rw [MakeChecks.laidMetH_plain _ _ _ (by kernel_rfl)] at h
 obtain ⟨ps,⟨g0,t0,cs0,f0,p0,q0,hg0,ht0,hv0,hd0,_⟩,_,_⟩:=h
 obtain rfl:=Option.some.inj (gNames.symm.trans hg0)
 obtain rfl:=Option.some.inj (tNames.symm.trans ht0)
 obtain ⟨xs,m1, -,hx1,hlen,hn3,hel⟩:=DataW.trod_array Tryz.underlying230 hd0
 have c3:Tryz.prog.cellsOf 9=1:=by kernel_rfl
 intro k s hs
 have hk:k < 10:=(List.getElem?_eq_some_iff.1 hs).1
 have h0:=hel k hk
 obtain ⟨y,hy⟩:=get_of_lt (xs:=xs) (k:=k) (by rw [hn3];exact hk)
 rw [hy,c3,Nat.mul_one] at h0
 obtain ⟨s',e1,e2, -⟩:=DataW.trod_string Tryz.underlying9 h0
 simp only [Prod.mk.injEq] at hx1
 have hx2:xs.map (·.1)=nameTab.map fun s=>(DataW.lit (.string s.data.toList):DataW Unit):=by
  have h4:(Rows.laid_loop_example_weakmemory_impl_relNames:DataW Unit) = .agg (nameTab.map fun s=>(DataW.lit (.string s.data.toList):DataW Unit)):=by kernel_rfl
  exact (DataW.agg.inj (h4.symm.trans hx1.1)).symm
 have h5:(xs.map (·.1))[k]? = some y.1:=by rw [List.getElem?_map,hy];rfl
 rw [hx2,List.getElem?_map,hs] at h5
 simp only [Option.map_some,Option.some.injEq] at h5
 rw [e2] at h5
 simp only [DataW.lit.injEq,Lit.string.injEq] at h5
 have h6:s'=s:=by
  have h7:s'.data=s.data:=by
   have:=congrArg List.toArray h5
   simpa using this.symm
  cases s';cases s;simp_all
 subst h6
 have h7:=World.var?_cell hg0 hv0 k
 rw [h7]
 have h8:cs0.toList[k]? = some (.string s'):=by
  have h9:(cs0.toList.drop k)[0]? = some (.string s'):=by
   have:=congrArg (fun l=>l[0]?) e1
   simp only [List.getElem?_cons_zero] at this
   rw [List.getElem?_take_of_lt (by omega)] at this
   exact this
  rw [List.getElem?_drop] at h9
  simpa using h9
 simpa using h8
end Go.Proofs.YtfbgppkdnfljhaaGreatDoor