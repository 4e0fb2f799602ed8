/-
  What the listed variable gives: it holds the names. No condition.
-/
import Derived.Test.YtkfhgnkonaafgaaGreatDoorZs06
import Derived.Test.YtkfhgnkonaafgaaGreatDoorZs13
import Derived.Test.YtkfhgnkonaafgaaGreatDoorZs12
import Derived.Test.YtkfhgnkonaafgaaGreatDoorZs11
import Derived.Test.YtkfhgnkonaafgaaGreatDoorZs14
import Derived.Test.YtkfhgnkonaafgaaGreatDoorZs05
import Derived.Test.YtkfhgnkonaafgaaGreatDoorZs10
import Derived.Test.YtkfhgnkonaafgaaGreatDoorZs04
import Derived.Deep.RegionHeld3
import Derived.Deep.DeepCutAuto
import Derived.Test.YtkfhgnkonaafgaaGreatDoorZs09
import Derived.Test.YtkfhgnkonaafgaaGreatDoorRows
import Derived.ProofKit
import Derived.LaidMore
import Derived.OpenShut
import Derived.Stop.Joined
set_option maxHeartbeats 6400000
set_option maxRecDepth 100000
namespace Go.Proofs.YtkfhgnkonaafgaaGreatDoor
open Go.RowKit
def Glob (w:World):Prop:=∀ (k:Nat) (s:ByteArray),nameTab[k]? = some s→w.cell? ⟨0,k,none⟩=some (.string s)
theorem Glob.below {w w':World} (h:Glob w) (hb:Below w.heap.size w w'):Glob w':=fun k s hs=>(hb.cell (p:=⟨0,k,none⟩) (lt_of_cell (h k s hs))).trans (h k s hs)
theorem Glob.rep {w:World} (h:Glob w):Rep StrE w (.slice (some ⟨0,0,none⟩) 10 10) nameTab:=by
 refine ⟨some ⟨0,0,none⟩,10,rfl,by decide,by decide,fun i x hx=>⟨0,0,rfl,fun j u hu => ?_⟩⟩
 cases j with
 | zero =>
  simp only [StrE,List.getElem?_cons_zero,Option.some.injEq] at hu
  subst hu
  have:=h i x hx
  simpa [StrE] using this
 | succ j=>simp [StrE] at hu
theorem IndexB_any (v:Value) (xs:List ByteArray) (x:ByteArray) (w:World) (hx:Rep StrE w v xs) :
 Calls Tryz.prog 220 #[v, .string x] w fun e w'=>(∃ q:Int,e = .returned (.int .i64 q)∧decide (0≤q)=xs.any (fun s=>x.toList==s.toList))∧w=w':=by
 obtain ⟨a,c,rfl,hc1,hc2,hc3,hx⟩:=hx.open
 have HX:=hide hx;clear hx
 generalize hn:xs.length=n at *
 have H:=hide hn;clear hn
 go_enter Tryz.func220,Tryz.ntmps220
 go_wp2_with fail
 go_loop [8] (fun i => ∃ t:Nat,t≤n∧i = .int .i64 t∧Hid ((xs.take t).any (fun s=>x.toList==s.toList)=false)) (fun i=>n - (intOf i).toNat)
 case atStart=>exact ⟨0,Nat.zero_le _,rfl,hide (by simp)⟩
 case round =>
  obtain ⟨t,ht,rfl,hno⟩:=hrel
  by_cases hlt:t < n
  ·obtain ⟨y,hy⟩:=get_of_lt (xs:=xs) (k:=t) (by rw [H.out];exact hlt)
   obtain ⟨b,o,rfl,hbl,i0⟩:=HX.out.str hy
   have hlt':=nat_of_lt hlt
   have X:=hide hy;clear hy
   by_cases hxy:(x.toList==y.toList)=true
   ·have k1:=hxy
    have XE:=hide hxy
    clear hxy
    go_wp2_with fail
    go_ret
    refine ⟨⟨_,rfl, ?_⟩,rfl⟩
    have h1:xs.any (fun s=>x.toList==s.toList)=true:=List.any_eq_true.2 ⟨y,List.mem_of_getElem? X.out,XE.out⟩
    rw [h1];simp
   ·have k1:(x.toList==y.toList)=false:=by simpa using hxy
    have NO:Hid ((xs.take (t+1)).any (fun s=>x.toList==s.toList)=false):=hide (by
     rw [List.take_add_one,X.out,List.any_append,hno.out]
     simp [k1])
    clear hxy
    go_wp2_with fail
    go_round
    case rel=>exact ⟨t+1,by omega,by go_num,NO⟩
    case measure=>simp [intOf];omega
  ·go_wp2_with fail
   go_ret
   refine ⟨⟨_,rfl, ?_⟩,rfl⟩
   have h:=hno.out
   rw [List.take_of_length_le (by rw [H.out];omega)] at h
   rw [h];rfl
theorem ContainsB_any (v:Value) (xs:List ByteArray) (x:ByteArray) (w:World) (hx:Rep StrE w v xs) :
 Calls Tryz.prog 195 #[v, .string x] w fun e w'=>e = .returned (.bool (xs.any fun s=>x.toList==s.toList))∧w=w':=by
 have HI:=hide (IndexB_any v xs x w hx)
 obtain ⟨a,c,rfl, -⟩:=hx.open
 clear hx
 generalize hb:(xs.any fun s=>x.toList==s.toList)=b at *
 go_enter Tryz.func195,Tryz.ntmps195
 go_wp2_with fail
 (with_reducible refine HI.out.mono ?_);rintro e w1 ⟨⟨q,rfl,hq⟩,rfl⟩
 have HQ:=hide hq
 clear hq hb
 go_wp2_with fail
 go_ret
 exact ⟨by rw [← HQ.out];rfl,rfl⟩
theorem isRelName_any (x:ByteArray) (w:World) (hg:Glob w) :
 Calls Tryz.prog 160 #[.string x] w fun e w'=>e = .returned (.bool (isName x))∧w=w':=by
 have HC:=hide (ContainsB_any _ nameTab x w hg.rep)
 have c0:=hg 0 _ rfl
 have HB:Hid (isName x=nameTab.any fun s=>x.toList==s.toList):=hide rfl
 rw [← HB.out] at HC
 go_enter Tryz.func160,Tryz.ntmps160
 go_wp2_with fail
 (with_reducible refine HC.out.mono ?_);rintro e w1 ⟨rfl,rfl⟩
 go_wp2_with fail
 go_ret
 exact ⟨rfl,rfl⟩
end Go.Proofs.YtkfhgnkonaafgaaGreatDoor
namespace Go.Proofs.YtkfhgnkonaafgaaGreatDoor
open Go.RowKit
theorem fenceOp_any (o l r x:Int) (w:World) :
 Calls Tryz.prog 231 #[.agg #[.int .i64 o, .int .i64 l, .int .i64 r, .int .i64 x]] w fun e w'=>e = .returned (.bool (o==4))∧Below w.heap.size w w':=by
 have HB:=hide (belowAlloc w (.cells #[.int .i64 o, .int .i64 l, .int .i64 r, .int .i64 x] 103))
 go_enter Tryz.func231,Tryz.ntmps231
 go_wp2_with fail
 go_ret
 exact ⟨rfl,HB.out⟩
theorem pure_any (t i l:Int) (r w0 b:Bool) (w:World) :
 Calls Tryz.prog 232 #[.agg #[.int .i64 t, .int .i64 i, .int .i64 l, .bool r, .bool w0], .bool b] w fun e w'=>e = .returned (.bool ((w0==b)&&(r != b)))∧Below w.heap.size w w':=by
 have HB:=hide (belowAlloc w (.cells #[.int .i64 t, .int .i64 i, .int .i64 l, .bool r, .bool w0] 99))
 cases w0 <;> cases b <;> cases r
 all_goals
  go_enter Tryz.func232,Tryz.ntmps232
  go_wp2_with fail
  go_ret
  exact ⟨rfl,HB.out⟩
theorem isBefore_any (f1 o1:Option Addr) (f2 f3 o2 o3:Nat) (x:Xc) (l:Nat) (i k:Int) (w:World) (hx:RepX w (.slice f1 f2 f3) (.slice o1 o2 o3) x) (hl:l < x.od.length) :
 Calls Tryz.prog 229 #[.agg #[.slice f1 f2 f3, .slice o1 o2 o3], .int .i64 l, .int .i64 i, .int .i64 k] w fun e w'=>e = .returned (.bool (bef (odA x l) i k))∧Below w.heap.size w w':=by
 obtain ⟨o,ho⟩:=get_of_lt hl
 have hod:odA x l=o:=by simp [odA,ho]
 rw [hod]
 have HX:=hide hx
 obtain ⟨oa,oc,hoe, -, -, -,hoo⟩:=hx.od.open
 simp only [Value.slice.injEq] at hoe
 obtain ⟨rfl,rfl,rfl⟩:=hoe
 have HB:=hide (belowAlloc w (.cells #[.slice f1 f2 f3, .slice o1 x.od.length o3] 29))
 have HBX:=hide (heap_alloc_new w (.cells #[.slice f1 f2 f3, .slice o1 x.od.length o3] 29))
 obtain ⟨b2,q2,ra,rc,rfl,hbl2,q0,q1⟩:=(hoo.below HB.out).row ho
 have HI:=hide (fun (y:Int) (z:BW (w.alloc (.cells #[.slice f1 f2 f3, .slice (some ⟨b2,q2,none⟩) x.od.length o3] 29)))=>(IndexN_any _ o y z.val (q1.below z.prop)).mono (R':=fun e w'=>e = .returned (.int .i64 (plc o y))∧z.val=w') (fun e w' ⟨⟨q,h1,h2⟩,h3⟩=>⟨by rw [h1,h2.eq],h3⟩))
 have hl':=nat_of_lt hl
 have HE:Hid (bef o i k=(decide (0≤plc o i)&&(decide (0≤plc o k)&&decide (plc o i < plc o k)))):=hide rfl
 clear hx hoo q1 ho hod HX
 generalize bef o i k=R at *
 generalize x.od.length=on at *
 generalize hW:w.alloc (.cells #[.slice f1 f2 f3, .slice (some ⟨b2,q2,none⟩) on o3] 29)=W at *
 have d1:W.cell? ⟨w.heap.size,1,none⟩=some (.slice (some ⟨b2,q2,none⟩) on o3):=cell_of_heapV HBX.out (k:=1) rfl
 have dl:=lt_of_cell d1
 go_enter Tryz.func229,Tryz.ntmps229
 go_wp2_with fail
 refine wp_region_bw (by kernel_rfl) (by kernel_rfl) ?_
 repeat (go_big_quiet_step ((go_at_call 238;(with_reducible exact Calls.bw_same (HI.out _ _)))))
 refine wpQuiet_nil ?_
 intro w5 hb5
 have HB5:=hide (HB.out.trans (hb5.mono HB.out.size))
 clear hb5 d1 dl
 generalize plc o i=qi at *
 generalize plc o k=qk at *
 by_cases g1:0≤qi
 ·by_cases g2:0≤qk
  ·have E:Hid (R=decide (qi < qk)):=hide (by rw [HE.out];simp [g1,g2])
   go_wp2_with fail
   go_ret
   exact ⟨by rw [E.out];rfl,HB5.out⟩
  ·have k2:decide (0≤qk)=false:=decide_eq_false g2
   have E:Hid (R=false):=hide (by rw [HE.out,k2];simp)
   clear g2
   go_wp2_with fail
   go_ret
   exact ⟨by rw [E.out];rfl,HB5.out⟩
 ·have k1:decide (0≤qi)=false:=decide_eq_false g1
  have E:Hid (R=false):=hide (by rw [HE.out,k1];simp)
  clear g1
  go_wp2_with fail
  go_ret
  exact ⟨by rw [E.out];rfl,HB5.out⟩
end Go.Proofs.YtkfhgnkonaafgaaGreatDoor
namespace Go.Proofs.YtkfhgnkonaafgaaGreatDoor
open Go.RowKit
def Tests_i_isPair_1 (f:Ins→Bool):Prop:=∀ (x:Ins) (w:World),Calls Tryz.prog 231 #[.agg #[.int .i64 x.op, .int .i64 x.loc, .int .i64 x.reg, .int .i64 x.val]] w fun e w'=>e = .returned (.bool (f x))∧Below w.heap.size w w'
theorem IndexFunc_i_isPair_1 (v:Value) (xs:List Ins) (f:Ins→Bool) (w:World) (hx:Rep InsE w v xs) (hf:Tests_i_isPair_1 f) :
 Calls Tryz.prog 239 #[v, .func (.func 231) #[] #[]] w fun e w'=>(∃ q:Int,e = .returned (.int .i64 q)∧IdxOf f xs q)∧Below w.heap.size w w':=by
 obtain ⟨a,c,rfl,hc1,hc2,hc3,hx⟩:=hx.open
 have HX:=hide hx;clear hx
 have HF:=hide hf;clear hf
 generalize hn:xs.length=n at *
 have H:=hide hn;clear hn
 go_enter Tryz.func239,Tryz.ntmps239
 go_wp2_with fail
 go_loopw [8] (fun i wr => ∃ t:Nat,t≤n∧i = .int .i64 t∧Hid (∀ x∈xs.take t,f x=false)∧Below w.heap.size w wr) (fun i _=>n - (intOf i).toNat)
 case atStart=>exact ⟨0,Nat.zero_le _,rfl,hide (by simp),Below.refl _ _⟩
 case round =>
  obtain ⟨t,ht,rfl,hno,hb⟩:=hrel
  by_cases hlt:t < n
  ·obtain ⟨x,hxk⟩:=get_of_lt (xs:=xs) (k:=t) (by rw [H.out];exact hlt)
   obtain ⟨b,o,rfl,hbl,i0,i1,i2,i3⟩:=(HX.out.below hb).ins hxk
   have hlt':=nat_of_lt hlt
   have X:=hide hxk;clear hxk
   generalize hfx:f x=fx
   have FX:=hide hfx;clear hfx
   have hcall:=HF.out x
   rw [FX.out] at hcall
   have HC:=hide hcall;clear hcall
   cases fx
   ·have NO:Hid (∀ x∈xs.take (t+1),f x=false):=hide (none_succ hno.out X.out FX.out)
    go_wp2_with fail
    (with_reducible refine (HC.out _).mono ?_);rintro e w2 ⟨rfl,hb2⟩
    go_wp2_with fail
    go_roundw
    case rel=>exact ⟨t+1,by omega,by go_num,NO,hb.trans (hb2.mono hb.size)⟩
    case measure=>simp [intOf];omega
   ·go_wp2_with fail
    (with_reducible refine (HC.out _).mono ?_);rintro e w2 ⟨rfl,hb2⟩
    go_wp2_with fail
    go_ret
    exact ⟨⟨_,rfl, .inr ⟨t,x,rfl,X.out,FX.out,hno.out⟩⟩,hb.trans (hb2.mono hb.size)⟩
  ·go_wp2_with fail
   go_ret
   refine ⟨⟨_,rfl, .inl ⟨rfl, ?_⟩⟩,hb⟩
   have h:=hno.out
   rwa [List.take_of_length_le (by rw [H.out];omega)] at h
theorem IdxOf.anyB {α:Type} {f:α→Bool} {xs:List α} {q:Int} (h:IdxOf f xs q):decide (0≤q)=xs.any f:=by
 rcases h with ⟨rfl,h⟩ | ⟨t,x,rfl,h1,h2⟩
 ·have:xs.any f=false:=by rw [List.any_eq_false];intro x hx;rw [h x hx];simp
  rw [this];rfl
 ·have:xs.any f=true:=List.any_eq_true.2 ⟨x,List.mem_of_getElem? h1,h2.1⟩
  rw [this];simp
theorem anyFence_any (v:Value) (xs:List Ins) (w:World) (hx:Rep InsE w v xs) :
 Calls Tryz.prog 230 #[v, .func (.func 231) #[] #[]] w fun e w'=>e = .returned (.bool (xs.any fun y=>y.op==4))∧Below w.heap.size w w':=by
 have HI:=hide (IndexFunc_i_isPair_1 v xs (fun y=>y.op==4) w hx (fun x w=>fenceOp_any x.op x.loc x.reg x.val w))
 obtain ⟨a,c,rfl, -⟩:=hx.open
 clear hx
 generalize hb:(xs.any fun y=>y.op==4)=b at *
 go_enter Tryz.func230,Tryz.ntmps230
 go_wp2_with fail
 (with_reducible refine HI.out.mono ?_);rintro e w1 ⟨⟨q,rfl,hq⟩,hb1⟩
 have E:Hid (decide (0≤q)=b):=hide (hq.anyB.trans hb)
 clear hq hb
 go_wp2_with fail
 go_ret
 exact ⟨by rw [← E.out];rfl,hb1⟩
theorem Rep.subE {α:Type} {E:El α} {w:World} {b o n c:Nat} {xs:List α} (h:Rep E w (.slice (some ⟨b,o,none⟩) n c) xs) {i j:Nat} (hij:i≤j) (hj:j≤xs.length) :
 Rep E w (.slice (some ⟨b,o+i * E.sz,none⟩) (j - i) (c - i)) ((xs.drop i).take (j - i)):=by
 obtain ⟨a',c',hv,h1,h2,h3⟩:=h
 simp only [Value.slice.injEq] at hv
 obtain ⟨rfl,rfl,rfl⟩:=hv
 have hl:((xs.drop i).take (j - i)).length=j - i:=by simp;omega
 refine ⟨some ⟨b,o+i * E.sz,none⟩,c - i,by rw [hl],by rw [hl];omega,by omega,fun k x hx=>⟨b,o+i * E.sz,rfl,fun q u hu => ?_⟩⟩
 have hk:k < j - i:=by have:=(List.getElem?_eq_some_iff.1 hx).1;rw [hl] at this;exact this
 rw [List.getElem?_take_of_lt hk,List.getElem?_drop] at hx
 obtain ⟨b',o',hb,h4⟩:=h3 (i+k) x hx
 simp only [Option.some.injEq,Addr.mk.injEq,and_true] at hb
 obtain ⟨rfl,rfl⟩:=hb
 have h5:=h4 q u hu
 rw [Nat.add_mul] at h5
 rw [show o+i * E.sz+k * E.sz+q=o+(i * E.sz+k * E.sz)+q by omega]
 exact h5
end Go.Proofs.YtkfhgnkonaafgaaGreatDoor
namespace Go.Proofs.YtkfhgnkonaafgaaGreatDoor
open Go.RowKit
theorem l6Before_any (f1 o1:Option Addr) (f2 f3 o2 o3:Nat) (x:Xc) (l:Nat) (i k:Int) (w:World) (hx:RepX w (.slice f1 f2 f3) (.slice o1 o2 o3) x) (hl:l < x.od.length) :
 Calls Tryz.prog 218 #[.agg #[.slice f1 f2 f3, .slice o1 o2 o3], .int .i64 l, .int .i64 i, .int .i64 k] w fun e w'=>e = .returned (.bool (decide (plc (odA x l) i < plc (odA x l) k)))∧Below w.heap.size w w':=by
 obtain ⟨o,ho⟩:=get_of_lt hl
 have hod:odA x l=o:=by simp [odA,ho]
 rw [hod]
 have HX:=hide hx
 obtain ⟨oa,oc,hoe, -, -, -,hoo⟩:=hx.od.open
 simp only [Value.slice.injEq] at hoe
 obtain ⟨rfl,rfl,rfl⟩:=hoe
 have HB:=hide (belowAlloc w (.cells #[.slice f1 f2 f3, .slice o1 x.od.length o3] 29))
 have HBX:=hide (heap_alloc_new w (.cells #[.slice f1 f2 f3, .slice o1 x.od.length o3] 29))
 obtain ⟨b2,q2,ra,rc,rfl,hbl2,q0,q1⟩:=(hoo.below HB.out).row ho
 have HI:=hide (fun (y:Int) (z:BW (w.alloc (.cells #[.slice f1 f2 f3, .slice (some ⟨b2,q2,none⟩) x.od.length o3] 29)))=>(l6Place_any _ o y z.val (q1.below z.prop)).mono (R':=fun e w'=>e = .returned (.int .i64 (plc o y))∧z.val=w') (fun e w' ⟨⟨q,h1,h2⟩,h3⟩=>⟨by rw [h1,h2.eq],h3⟩))
 have hl':=nat_of_lt hl
 clear hx hoo q1 ho hod HX
 generalize x.od.length=on at *
 generalize hW:w.alloc (.cells #[.slice f1 f2 f3, .slice (some ⟨b2,q2,none⟩) on o3] 29)=W at *
 have d1:W.cell? ⟨w.heap.size,1,none⟩=some (.slice (some ⟨b2,q2,none⟩) on o3):=cell_of_heapV HBX.out (k:=1) rfl
 have dl:=lt_of_cell d1
 go_enter Tryz.func218,Tryz.ntmps218
 go_wp2_with fail
 refine wp_region_bw (by kernel_rfl) (by kernel_rfl) ?_
 repeat (go_big_quiet_step ((go_at_call 236;(with_reducible exact Calls.bw_same (HI.out _ _)))))
 refine wpQuiet_nil ?_
 intro w5 hb5
 have HB5:=hide (HB.out.trans (hb5.mono HB.out.size))
 clear hb5 d1 dl
 go_wp2_with fail
 go_ret
 exact ⟨rfl,HB5.out⟩
theorem l6Fence_any (v:Value) (r:List Ins) (i1 i2:Nat) (w:World) (hx:Rep InsE w v r) (h2:i2≤r.length) (h3:i1 < i2) :
 Calls Tryz.prog 219 #[v, .int .i64 i1, .int .i64 i2] w fun e w'=>e = .returned (.bool (((r.drop (i1+1)).take (i2 - (i1+1))).any fun y=>y.op==4))∧Below w.heap.size w w':=by
 obtain ⟨a,c,rfl,hc1,hc2,hc3,hx⟩:=hx.open
 have HX:=hide hx;clear hx
 generalize hR:(((r.drop (i1+1)).take (i2 - (i1+1))).any fun y=>y.op==4)=R at *
 have RE:=hide hR;clear hR
 have HW:IntKind.i64.wrap ((i1:Int)+1)=((i1+1:Nat):Int):=by rw [IntKind.wrap_i64];omega
 generalize hn:r.length=n at *
 have H:=hide hn;clear hn
 go_enter Tryz.func219,Tryz.ntmps219
 go_wp2_with fail
 go_loop [7] (fun i => ∃ t:Nat,i1+1≤t∧t≤i2∧i = .int .i64 t∧Hid (((r.drop (i1+1)).take (t - (i1+1))).any (fun y=>y.op==4)=false)) (fun i=>i2 - (intOf i).toNat)
 case atStart=>exact ⟨i1+1,Nat.le_refl _,h3,by go_num,hide (by simp)⟩
 case round =>
  obtain ⟨t,ht0,ht,rfl,hno⟩:=hrel
  by_cases hlt:t < i2
  ·obtain ⟨y,hy⟩:=get_of_lt (xs:=r) (k:=t) (by rw [H.out];omega)
   obtain ⟨b,o,rfl,hbl,s0, -, -, -⟩:=HX.out.ins hy
   have hlt':=nat_of_lt hlt
   have hltn:t < n:=by omega
   have hltn':=nat_of_lt hltn
   have HS:Hid ((r.drop (i1+1)).take (t+1 - (i1+1))=(r.drop (i1+1)).take (t - (i1+1))++[y]):=hide (by
    rw [show t+1 - (i1+1)=(t - (i1+1))+1 by omega,List.take_add_one,List.getElem?_drop,show i1+1+(t - (i1+1))=t by omega,hy];rfl)
   have HM:Hid (y∈(r.drop (i1+1)).take (i2 - (i1+1))):=hide (by
    refine List.mem_of_getElem? (i:=t - (i1+1)) ?_
    rw [List.getElem?_take_of_lt (by omega),List.getElem?_drop,show i1+1+(t - (i1+1))=t by omega,hy])
   clear hy
   by_cases h4:y.op=4
   ·have k1:(y.op==4)=true:=by simp [h4]
    have RT:Hid (R=true):=hide (by rw [← RE.out];exact List.any_eq_true.2 ⟨y,HM.out,k1⟩)
    clear h4
    go_wp2_with fail
    go_ret
    exact ⟨by rw [RT.out];rfl,Below.refl _ _⟩
   ·have k1:(y.op==4)=false:=by simp [h4]
    have NO:Hid (((r.drop (i1+1)).take (t+1 - (i1+1))).any (fun y=>y.op==4)=false):=hide (by rw [HS.out,List.any_append,hno.out];simp [k1])
    clear h4
    go_wp2_with fail
    go_round
    case rel=>exact ⟨t+1,by omega,by omega,by go_num,NO⟩
    case measure=>simp [intOf];omega
  ·have e:t=i2:=by omega
   have hno2:=hno.out
   rw [e] at hno2
   have RF:Hid (R=false):=hide (by rw [← RE.out,hno2])
   clear hno2
   go_wp2_with fail
   go_ret
   exact ⟨by rw [RF.out];rfl,Below.refl _ _⟩
theorem fence_skip {r:List Ins} {i1 i2:Nat} {y:Ins} (h1:r[i1]? = some y) (h2:y.op≠4) (h3:i1 < i2):((r.drop i1).take (i2 - i1)).any (fun y=>y.op==4)=((r.drop (i1+1)).take (i2 - (i1+1))).any fun y=>y.op==4:=by
 obtain ⟨hlt,hy⟩:=List.getElem?_eq_some_iff.1 h1
 rw [List.drop_eq_getElem_cons hlt,show i2 - i1=(i2 - (i1+1))+1 by omega,List.take_succ_cons,List.any_cons,hy]
 simp [h2]
end Go.Proofs.YtkfhgnkonaafgaaGreatDoor
namespace Go.Proofs.YtkfhgnkonaafgaaGreatDoor
open Go.RowKit
def notT (T:TypeId) (o:Obj):Prop:=∀ a fz,o≠.cells a T fz
structure LocR (T:TypeId) (lo hi:Nat) (w:World) (φ:World→Prop):Prop where
 now:φ w
 le:hi≤w.heap.size
 keep:∀ w':World,(∀ k ob,lo≤k→k < hi→w.heap[k]? = some ob→notT T ob→w'.heap[k]? = some ob)→φ w'
theorem LocR.step {T:TypeId} {lo hi:Nat} {w w':World} {φ:World→Prop} (h:LocR T lo hi w φ) (hs:w.heap.size≤w'.heap.size) (hk:∀ k ob,lo≤k→k < hi→w.heap[k]? = some ob→notT T ob→w'.heap[k]? = some ob):LocR T lo hi w' φ:=
 ⟨h.keep w' hk,Nat.le_trans h.le hs,fun w'' h2=>h.keep w'' fun k ob h3 h4 h5 h6=>h2 k ob h3 h4 (hk k ob h3 h4 h5 h6) h6⟩
theorem LocR.below {T:TypeId} {lo hi:Nat} {w w':World} {φ:World→Prop} (h:LocR T lo hi w φ) (hb:Below w.heap.size w w'):LocR T lo hi w' φ:=
 h.step hb.size fun k _ _ _ h5 _=>(hb.block k (Array.getElem?_eq_some_iff.1 h5).1).trans h5
theorem Own.typed {α:Type} {E:El α} {T:TypeId} {w:World} {base g:Nat} {v:Value} {xs:List α} (h:Own E T w base v xs) (hg:v.ownBlock=some g):∃ a,w.heap[g]? = some (.cells a T (0,0)):=by
 rcases h.2 with ⟨rfl,_⟩ | ⟨g',cap,cur,rfl,_,hg',_⟩
 ·simp [Value.ownBlock] at hg
 ·simp [Value.ownBlock] at hg
  subst hg
  exact ⟨cur,hg'⟩
theorem LocR.grown {α:Type} {E:El α} {T:TypeId} {lo hi base:Nat} {w w':World} {v:Value} {xs:List α} {φ:World→Prop} (h:LocR T lo hi w φ) (ho:Own E T w base v xs) (hg:w.grownBy w' v.ownBlock):LocR T lo hi w' φ:=
 h.step hg.size fun k ob _ _ h5 h6=>(hg.block k (Array.getElem?_eq_some_iff.1 h5).1 (fun e=>by
  obtain ⟨a,ha⟩:=ho.typed e.symm
  rw [h5] at ha
  exact h6 a _ (Option.some.inj ha))).trans h5
theorem LocR.wide {T:TypeId} {lo hi lo' hi':Nat} {w:World} {φ:World→Prop} (h:LocR T lo hi w φ) (h1:lo'≤lo) (h2:hi≤hi') (h3:hi'≤w.heap.size):LocR T lo' hi' w φ:=
 ⟨h.now,h3,fun w' k=>h.keep w' fun q ob a b c d=>k q ob (by omega) (by omega) c d⟩
theorem LocR.map {T:TypeId} {lo hi:Nat} {w:World} {φ ψ:World→Prop} (h:LocR T lo hi w φ) (f:∀ V,φ V→ψ V):LocR T lo hi w ψ:=⟨f _ h.now,h.le,fun w' k=>f _ (h.keep w' k)⟩
theorem LocR.and {T:TypeId} {lo hi:Nat} {w:World} {φ ψ:World→Prop} (h:LocR T lo hi w φ) (k:LocR T lo hi w ψ):LocR T lo hi w (fun W=>φ W∧ψ W):=⟨⟨h.now,k.now⟩,h.le,fun w' s=>⟨h.keep w' s,k.keep w' s⟩⟩
theorem LocR.all {ι:Type} {T:TypeId} {lo hi:Nat} {w:World} {φ:ι→World→Prop} (hh:hi≤w.heap.size) (h:∀ i,LocR T lo hi w (φ i)):LocR T lo hi w (fun W => ∀ i,φ i W):=⟨fun i=>(h i).now,hh,fun w' s i=>(h i).keep w' s⟩
theorem LocR.imp {T:TypeId} {lo hi:Nat} {w:World} {p:Prop} {φ:World→Prop} (hh:hi≤w.heap.size) (h:p→LocR T lo hi w φ):LocR T lo hi w (fun W=>p→φ W):=⟨fun i=>(h i).now,hh,fun w' s i=>(h i).keep w' s⟩
theorem LocR.ofOwn {α:Type} {E:El α} {U T:TypeId} (hT:U≠T) {w:World} {lo hi:Nat} {v:Value} {xs:List α} (h:Own E U w lo v xs) (hh:hi≤w.heap.size) (hv:∀ q,v.ownBlock=some q→q < hi):LocR T lo hi w (fun W=>Own E U W lo v xs):=
 ⟨h,hh,fun w' k=>h.sameV fun q hq=>by
  obtain ⟨a,ha⟩:=h.typed hq
  rw [k q _ (World.ownsRow.lt h q hq).1 (hv q hq) ha (fun a' fz e=>by simp at e;exact hT e.2.1),ha]⟩
theorem LocR.own {α:Type} {E:El α} {U T:TypeId} (hT:U≠T) {w:World} {lo:Nat} {v:Value} {xs:List α} (h:Own E U w lo v xs):LocR T lo w.heap.size w (fun W=>Own E U W lo v xs):=
 LocR.ofOwn hT h (Nat.le_refl _) fun q hq=>(World.ownsRow.lt h q hq).2
structure Dd where
 lo:Nat
 hi:Nat
 us:List Slc
section
variable {α β : Type} {E : El α} {T : TypeId} {R : Dd → Dd → Prop} {φ : Dd → World → α → β → Prop}
structure OwnFU (E:El α) (T:TypeId) (R:Dd→Dd→Prop) (φ:Dd→World→α→β→Prop) (us:List α) (ds:List Dd) (w:World) (base:Nat) (v:Value) (xs:List β):Prop where
 lu:us.length=xs.length
 ld:ds.length=xs.length
 pw:ds.Pairwise R
 own:Own E T w base v us
 rows:∀ (i:Nat) (u:α) (d:Dd) (x:β),us[i]? = some u→ds[i]? = some d→xs[i]? = some x→base≤d.lo∧LocR T d.lo d.hi w (fun W=>φ d W u x)
def OwnF (E:El α) (T:TypeId) (R:Dd→Dd→Prop) (φ:Dd→World→α→β→Prop) (w:World) (base:Nat) (v:Value) (xs:List β):Prop:=∃ us ds,OwnFU E T R φ us ds w base v xs
theorem OwnFU.below {us:List α} {ds:List Dd} {w w':World} {base:Nat} {v:Value} {xs:List β} (h:OwnFU E T R φ us ds w base v xs) (hb:Below w.heap.size w w'):OwnFU E T R φ us ds w' base v xs:=
 ⟨h.lu,h.ld,h.pw,h.own.below hb,fun i u d x h1 h2 h3=>⟨(h.rows i u d x h1 h2 h3).1,(h.rows i u d x h1 h2 h3).2.below hb⟩⟩
theorem OwnFU.mono {us:List α} {ds:List Dd} {w:World} {base base':Nat} {v:Value} {xs:List β} (h:OwnFU E T R φ us ds w base v xs) (hb:base'≤base):OwnFU E T R φ us ds w base' v xs:=
 ⟨h.lu,h.ld,h.pw,h.own.mono hb,fun i u d x h1 h2 h3=>⟨Nat.le_trans hb (h.rows i u d x h1 h2 h3).1,(h.rows i u d x h1 h2 h3).2⟩⟩
theorem OwnF.below {w w':World} {base:Nat} {v:Value} {xs:List β} (h:OwnF E T R φ w base v xs) (hb:Below w.heap.size w w'):OwnF E T R φ w' base v xs:=by
 obtain ⟨us,ds,h⟩:=h
 exact ⟨us,ds,h.below hb⟩
theorem OwnF.mono {w:World} {base base':Nat} {v:Value} {xs:List β} (h:OwnF E T R φ w base v xs) (hb:base'≤base):OwnF E T R φ w base' v xs:=by
 obtain ⟨us,ds,h⟩:=h
 exact ⟨us,ds,h.mono hb⟩
theorem OwnF.empty (T:TypeId) (w:World) {base:Nat} (hb:base≤w.heap.size):OwnF E T R φ (w.alloc (.cells #[] T)) base (.slice (some ⟨w.heap.size,0,none⟩) 0 0) []:=
 ⟨[],[],rfl,rfl, .nil,Own.empty _ _ hb,fun i u d x h=>by simp at h⟩
theorem OwnF.nil (T:TypeId) (w:World) (base:Nat):OwnF E T R φ w base (.slice none 0 0) []:=
 ⟨[],[],rfl,rfl, .nil,Own.nil _ _ _,fun i u d x h=>by simp at h⟩
theorem OwnFU.app {us:List α} {ds:List Dd} {w w':World} {base:Nat} {v v':Value} {xs:List β} (h:OwnFU E T R φ us ds w base v xs) {u:α} {d:Dd} {x:β} (ho:Own E T w' base v' (us++[u])) (hg:w.grownBy w' v.ownBlock)
 (hb:base≤d.lo) (hn:LocR T d.lo d.hi w (fun W=>φ d W u x)) (hR:∀ d'∈ds,R d' d):OwnFU E T R φ (us++[u]) (ds++[d]) w' base v' (xs++[x]):=by
 have hd:=h.ld
 refine ⟨by simp [h.lu],by simp [h.ld],List.pairwise_append.2 ⟨h.pw,by simp,fun a ha b hb=>by simp at hb;subst hb;exact hR a ha⟩,ho,fun i u' d' x' h1 h2 h3 => ?_⟩
 by_cases hlt:i < xs.length
 ·rw [List.getElem?_append_left (by rw [h.lu];exact hlt)] at h1
  rw [List.getElem?_append_left (by rw [h.ld];exact hlt)] at h2
  rw [List.getElem?_append_left hlt] at h3
  obtain ⟨r1,r2⟩:=h.rows i u' d' x' h1 h2 h3
  exact ⟨r1,r2.grown h.own hg⟩
 ·rw [List.getElem?_append_right (by rw [h.lu];omega),h.lu] at h1
  rw [List.getElem?_append_right (by rw [h.ld];omega),h.ld] at h2
  rw [List.getElem?_append_right (by omega)] at h3
  have he:i - xs.length=0:=by
   rcases Nat.eq_zero_or_pos (i - xs.length) with h | h
   ·exact h
   ·rw [List.getElem?_eq_none (by simp;omega)] at h3;cases h3
  rw [he] at h1 h2 h3
  simp at h1 h2 h3
  subst h1;subst h2;subst h3
  exact ⟨hb,hn.grown h.own hg⟩
theorem OwnFU.at {us:List α} {ds:List Dd} {w:World} {base:Nat} {a:Option Addr} {n c:Nat} {xs:List β} (h:OwnFU E T R φ us ds w base (.slice a n c) xs) {k:Nat} {x:β} (hx:xs[k]? = some x) :
 ∃ u d g,us[k]? = some u∧ds[k]? = some d∧a=some ⟨g,0,none⟩∧base≤g∧g < w.heap.size∧(∀ j y,(E.c u)[j]? = some y→w.cell? ⟨g,k * E.sz+j,none⟩=some y)∧base≤d.lo∧LocR T d.lo d.hi w (fun W=>φ d W u x):=by
 have hk:=(List.getElem?_eq_some_iff.1 hx).1
 obtain ⟨u,hu⟩:=get_of_lt (xs:=us) (k:=k) (by rw [h.lu];exact hk)
 obtain ⟨d,hd⟩:=get_of_lt (xs:=ds) (k:=k) (by rw [h.ld];exact hk)
 obtain ⟨r1,r2⟩:=h.rows k u d x hu hd hx
 rcases h.own.shape with ⟨_,hn⟩ | ⟨g,cap,hv,hg1,hg2,_⟩
 ·rw [hn] at hu;simp at hu
 ·simp only [Value.slice.injEq] at hv
  obtain ⟨rfl,rfl,rfl⟩:=hv
  exact ⟨u,d,g,hu,hd,rfl,hg1,hg2,fun j y hy=>h.own.cell hu hy,r1,r2⟩
theorem OwnF.shape {w:World} {base:Nat} {v:Value} {xs:List β} (h:OwnF E T R φ w base v xs):(v = .slice none 0 0∧xs=[])∨∃ g cap,v = .slice (some ⟨g,0,none⟩) xs.length cap∧base≤g∧g < w.heap.size:=by
 obtain ⟨us,ds,h⟩:=h
 rcases h.own.shape with ⟨h1,h2⟩ | ⟨g,cap,h1,h2,h3,_⟩
 ·refine .inl ⟨h1, ?_⟩
  have:=h.lu
  rw [h2] at this
  exact List.length_eq_zero_iff.1 this.symm
 ·exact .inr ⟨g,cap,by rw [h1,h.lu],h2,h3⟩
end
theorem Own.lit1 {α:Type} {E:El α} {T:TypeId} (w:World) {base:Nat} (hb:base≤w.heap.size) (x:α):Own E T (w.alloc (.cells (E.c x).toArray T)) base (.slice (some ⟨w.heap.size,0,none⟩) 1 1) [x]:=by
 refine ⟨by simp [E.len], .inr ⟨w.heap.size,1,(E.c x).toArray,rfl,hb,heap_alloc_new w _,Nat.le_refl _,by unfold maxLen;omega,by simp [E.len], ?_⟩⟩
 simp only [List.flatMap_cons,List.flatMap_nil,List.append_nil]
 rw [List.take_of_length_le (by simp [E.len])]
theorem run_append_zero {P:Program} {w:World} {base:Nat} {t ty e:TypeId} {i:TypeInfo} {size:Nat} (ht:P.underlying t=some (.slice e)) (hi:P.info? e=some i)
 {v:Value} {n c:Nat} {xs:List Value} (hown:w.ownsRow base e size v n xs) (ad:Addr):(Builtin.append_ #[t,t] ty #[v, .slice (some ad) 0 c]).run P w = .ok v w:=by
 rcases hown.2 with ⟨rfl,rfl⟩ | ⟨g,cap,cur,rfl,_,_,hnc,_⟩
 ·simp [Builtin.append_,run_underlying ht,sizeOf,typeInfo,hi,Builtin.lenOf,Builtin.firstCells,loadCells,loadCellsFrom]
 ·simp [Builtin.append_,run_underlying ht,sizeOf,typeInfo,hi,Builtin.lenOf,Builtin.firstCells,hnc,loadCells,loadCellsFrom,storeCells]
theorem step_appS {α:Type} (E:El α) {P:Program} {w:World} {ops:Array Oper} {o:Oper} {a:Act} {K:Act→World→Prop} {Q:Exit→Act→World→Prop} {F:Prop}
 (T:TypeId) {zv:Value} {bytes:Nat} (hinfo:(P.info? T).map (fun i=>(i.zero,i.size,i.bytes))=some (some zv,E.sz,bytes)) (hz:zv.cells.size=E.sz) {t:TypeId} (h1:P.underlying t=some (.slice T))
 (base:Nat) (v:Value) (xs ys:List α) (u:Value) (hown:Own E T w base v xs) (hrep:Rep E w u ys) (hby:bytes≤256) (hn:xs.length+ys.length≤68719476736) (hbase:base≤w.heap.size)
 (hg:o.guard=none) (s y:Operand) (hop:o.op = .call { callee:=.builtin .append,args:=#[s,y],argTypes:=#[t,t] })
 (hs:a.eval s=v) (hy:a.eval y=u)
 (hK:∀ v' w',Own E T w' base v' (xs++ys)→w.grownBy w' v.ownBlock→K (a.put o.dst v') w') :
 if Region.wanted o (yielded ops a.tmps)=true then Oper.wp P o a w K Q else F:=by
 obtain ⟨it,hi,hz0,hz1,hz2⟩:=info_parts hinfo
 obtain ⟨ad,c,rfl,hc1,hc2,hcell⟩:=hrep
 have hw:Region.wanted o (yielded ops a.tmps)=true:=by simp [Region.wanted,hg]
 have hnone:∀ r:(Builtin.append_ #[t,t] o.type #[v, .slice ad ys.length c]).run P w = .ok v w,ys=[]→(if Region.wanted o (yielded ops a.tmps)=true then Oper.wp P o a w K Q else F):=fun r hys=>by
  rw [if_pos hw]
  unfold Oper.wp
  simp [execOp,hop,resolve,invoke,builtin,hs,hy,r,Result.andThen]
  exact hK _ _ (by subst hys;simpa using hown) (World.grownBy.refl _ _)
 cases ad with
 | none =>
  have hys:ys=[]:=by
   cases ys with
   | nil=>rfl
   | cons y ys=>obtain ⟨b,o,hb,_⟩:=hcell 0 y rfl;cases hb
  exact hnone (by subst hys;exact run_append_none h1 hi hown) hys
 | some ad =>
  by_cases hys:ys=[]
  ·exact hnone (by subst hys;exact run_append_zero h1 hi hown ad) hys
  have hpos:0 < ys.length:=List.length_pos_iff.2 hys
  refine step_append_lies w hg s y t hop base T it zv E.sz bytes h1 hi hz0 hz1 hz2 hz E.pos v xs.length _ hs hown ad ys.length c (ys.flatMap E.c) hy (E.length ys) ?_ ?_ hpos (by unfold maxLen;omega) ?_ hbase _ rfl ?_
  ·intro j u hu
   have hpos:=E.pos
   have hj:j=j / E.sz * E.sz+j % E.sz:=by rw [Nat.mul_comm];exact (Nat.div_add_mod j E.sz).symm
   have hm:j % E.sz < E.sz:=Nat.mod_lt _ hpos
   have hu2:=hu
   rw [hj,E.get ys _ _ hm] at hu2
   cases hx:ys[j / E.sz]? with
   | none=>rw [hx] at hu2;cases hu2
   | some x =>
    rw [hx] at hu2
    obtain ⟨b,o,hb,h⟩:=hcell _ x hx
    simp only [Option.some.injEq] at hb
    subst hb
    have hc:=h (j % E.sz) u hu2
    rw [Addr.add_lit,hj,← Nat.add_assoc]
    exact hc
  ·intro u hu
   rw [List.mem_flatMap] at hu
   obtain ⟨x,_,hx⟩:=hu
   exact E.one x u hx
  ·have:=Nat.mul_le_mul (show xs.length+ys.length≤68719476736 from hn) hby
   omega
  ·intro g cap w' h2 h3 _ _
   refine hK _ w' ?_ h3
   unfold Own
   simpa [List.flatMap_append] using h2
end Go.Proofs.YtkfhgnkonaafgaaGreatDoor
namespace Go.Proofs.YtkfhgnkonaafgaaGreatDoor
open Go.RowKit
theorem kept_d {w w':World} {ob:Obj} {row:Option Nat} (hg:(w.alloc ob).drew.grownBy w' row) {b:Nat} (hb:b < w.heap.size) (hne:∀ q,row=some q→q≠b) (o:Nat):w'.cell? ⟨b,o,none⟩=w.cell? ⟨b,o,none⟩:=
 kept_cell (w:=w.drew) (ob:=ob) hg hb hne o
theorem below_lit {w w':World} {l:Array Value} {T:TypeId} {n c:Nat} (hg:(w.alloc (.cells l T)).drew.grownBy w' (Value.slice (some ⟨w.heap.size,0,none⟩) n c).ownBlock):Below w.heap.size w w':=
 ((Below.refl w.heap.size w).alloc (Nat.le_refl _) (.cells l T)).drew.grown hg (by simp) (fun q hq=>by simp [Value.ownBlock] at hq;omega)
def Rafter (a b:Dd):Prop:=a.hi≤b.lo
def PhiI (d:Dd) (W:World) (u:Slc) (x:List Int):Prop:=Own IntE 3 W d.lo u.v x∧∀ q,u.v.ownBlock=some q→q < d.hi
abbrev RowsI (w:World) (base:Nat) (v:Value) (L:List (List Int)):Prop:=OwnF SlcE 24 Rafter PhiI w base v L
theorem PhiI.loc {w:World} {lo:Nat} {u:Slc} {x:List Int} (h:Own IntE 3 w lo u.v x):LocR 24 lo w.heap.size w (fun W=>PhiI ⟨lo,w.heap.size,[]⟩ W u x):=
 (LocR.own (by decide) h).map fun _ k=>⟨k,fun q hq=>(World.ownsRow.lt h q hq).2⟩
theorem OwnFU.hi {α β:Type} {E:El α} {T:TypeId} {R:Dd→Dd→Prop} {φ:Dd→World→α→β→Prop} {us:List α} {ds:List Dd} {w:World} {base:Nat} {v:Value} {xs:List β} (h:OwnFU E T R φ us ds w base v xs):∀ d∈ds,d.hi≤w.heap.size:=by
 intro d hd
 obtain ⟨k,hk⟩:=List.mem_iff_getElem?.1 hd
 have hlt:=(List.getElem?_eq_some_iff.1 hk).1
 obtain ⟨u,hu⟩:=get_of_lt (xs:=us) (k:=k) (by rw [h.lu,← h.ld];exact hlt)
 obtain ⟨x,hx⟩:=get_of_lt (xs:=xs) (k:=k) (by rw [← h.ld];exact hlt)
 exact (h.rows k u d x hu hk hx).2.le
theorem RowsI.row {w:World} {base:Nat} {a:Option Addr} {n c:Nat} {L:List (List Int)} (h:RowsI w base (.slice a n c) L) {k:Nat} {r:List Int} (hr:L[k]? = some r) :
 ∃ (u:Slc) (g:Nat),a=some ⟨g,0,none⟩∧g < w.heap.size∧w.cell? ⟨g,k,none⟩=some (.slice u.a u.n u.cap)∧Rep IntE w u.v r:=by
 obtain ⟨us,ds,h⟩:=h
 obtain ⟨u,d,g, -, -,h1, -,h2,h3, -,h4⟩:=h.at hr
 have h5:=h3 0 _ rfl
 simp only [SlcE,Nat.mul_one,Nat.add_zero] at h5
 exact ⟨u,g,h1,h2,h5,h4.now.1.rep⟩
theorem RowsI.app {us:List Slc} {ds:List Dd} {w w1 w2:World} {base lo:Nat} {v v':Value} {L:List (List Int)} (h:OwnFU SlcE 24 Rafter PhiI us ds w base v L) (hb:Below w.heap.size w w1) (hbase:base≤w.heap.size) {r:List Int} {s:Slc} {ob:Obj}
 (hlo:lo=w.heap.size) (hu:Own IntE 3 w1 lo s.v r) (ho:Own SlcE 24 w2 base v' (us++[s])) (hg:(w1.alloc ob).grownBy w2 v.ownBlock):RowsI w2 base v' (L++[r]):=by
 subst hlo
 have hba:=(Below.refl w1.heap.size w1).alloc (Nat.le_refl _) ob
 have hd:=h.hi
 exact ⟨us++[s],ds++[⟨w.heap.size,w1.heap.size,[]⟩],OwnFU.app (d:=⟨w.heap.size,w1.heap.size,[]⟩) ((h.below hb).below hba) ho hg hbase ((PhiI.loc hu).below hba) (fun d' h'=>(hd d' h':d'.hi≤w.heap.size))⟩
theorem pre1_take {i:Nat} {RR:List (List Int)} {x:Int} {j:Nat} (h:x=(i:Int)→j=0) (h2:j=RR.length∨x=(i:Int)):(RR.take j).map (x :: ·)=pre1 i RR x:=by
 unfold pre1
 by_cases hx:x=(i:Int)
 ·rw [if_pos hx,h hx];rfl
 ·rw [if_neg hx]
  rcases h2 with h2 | h2
  ·rw [h2,List.take_length]
  ·exact absurd h2 hx
theorem fromsL_row {es:List Ev}:∀ (n i:Nat),i+n=es.length→∀ r∈fromsL es i,r.length=n:=by
 intro n
 induction n with
 | zero =>
  intro i hi r hr
  obtain rfl:i=es.length:=by omega
  rw [fromsL_end] at hr;simp at hr;subst hr;rfl
 | succ n ih =>
  intro i hi r hr
  rw [fromsL_step (by omega),List.mem_flatMap] at hr
  obtain ⟨k, -,hk⟩:=hr
  unfold pre1 at hk
  split at hk
  ·simp at hk
  ·rw [List.mem_map] at hk
   obtain ⟨y,hy,rfl⟩:=hk
   rw [List.length_cons,ih (i+1) (by omega) y hy]
theorem l6Froms_any (es:List Ev) (hl:es.length≤1048576) (hfew:∀ i,(fromsL es i).length≤3000) (n:Nat):∀ (v:Value) (i:Nat) (w:World),i+n=es.length→Rep EvE w v es →
 Calls Tryz.prog 110 #[v, .int .i64 i] w fun e w' => ∃ u:Slc,e = .returned (.slice u.a u.n u.cap)∧RowsI w' w.heap.size u.v (fromsL es i)∧Below w.heap.size w w':=by
 induction n with
 | zero =>
  intro v i w hi he
  obtain ⟨a,c,rfl, -, -, -, -⟩:=he.open
  obtain rfl:i=es.length:=by omega
  rw [fromsL_end]
  generalize es.length=m at *
  go_enter Tryz.func110,Tryz.ntmps110
  go_wp2_with fail
  go_ret
  have hb1:=(Below.refl w.heap.size w).alloc (Nat.le_refl _) (.cells #[] 3)
  have h0:=Own.empty (E:=IntE) 3 w (Nat.le_refl _)
  have hz:(w.alloc (.cells #[] 3)).heap.size=w.heap.size+1:=by simp
  have h1:=Own.lit1 (E:=SlcE) (T:=24) (w.alloc (.cells #[] 3)) (base:=w.heap.size) (by omega) ⟨some ⟨w.heap.size,0,none⟩,0,0⟩
  refine ⟨⟨some ⟨w.heap.size+1,0,none⟩,1,1⟩,rfl,⟨[⟨some ⟨w.heap.size,0,none⟩,0,0⟩],[⟨w.heap.size,w.heap.size+1,[]⟩],rfl,rfl,by simp,by rw [hz] at h1;exact h1,fun i u d x h2 h3 h4 => ?_⟩,hb1.alloc (by omega) _⟩
  cases i with
  | succ i=>simp at h2
  | zero =>
   simp at h2 h3 h4
   subst h2;subst h3;subst h4
   refine ⟨Nat.le_refl _, ?_⟩
   have h5:=(PhiI.loc (u:=⟨some ⟨w.heap.size,0,none⟩,0,0⟩) h0).below ((Below.refl _ (w.alloc (.cells #[] 3))).alloc (Nat.le_refl _) (.cells (SlcE.c ⟨some ⟨w.heap.size,0,none⟩,0,0⟩).toArray 24))
   rw [hz] at h5
   exact h5
 | succ n ih =>
  intro v i0 w hi he
  have hcast:((i0+1:Nat):Int)=(i0:Int)+1:=by omega
  have HI:=hide (fun w' h=>ih v (i0+1) w' (by omega) h)
  rw [hcast] at HI
  have HW:=hide (fun l w' h=>l6Writers_any v es l w' h (by omega))
  have HROW:=hide (fun r (hr:r∈fromsL es (i0+1))=>fromsL_row n (i0+1) (by omega) r hr)
  have HF1:=hide (hfew (i0+1));have HF0:=hide (hfew i0)
  have HST:=hide (fromsL_step (es:=es) (i:=i0) (by omega))
  have HE:=hide he
  obtain ⟨a,c,rfl, -, -, -,he2⟩:=he.open
  obtain ⟨e,hei⟩:=get_of_lt (xs:=es) (k:=i0) (by omega)
  have HFC:Hid (fromC es i0=if e.r=true then wrL es e.l else [-1]):=hide (by unfold fromC;rw [hei])
  have HWL:=hide (wrL_length es e.l)
  obtain ⟨b,o,rfl,hbl,j0,j1,i2,i3,j4⟩:=he2.ev hei
  have hiN:i0 < es.length:=by omega
  have hlt':=nat_of_lt hiN
  have hne:((i0:Int)==(es.length:Int))=false:=by simp;omega
  have hni:(i0+1)+n=es.length:=by omega
  clear he he2 ih hei hcast j0 j1 j4 hfew hiN hi
  generalize hm:es.length=m at *
  generalize fromsL es i0=R at *
  generalize hRR:fromsL es (i0+1)=RR at *
  generalize hFC:fromC es i0=FC at *
  obtain ⟨et,ei,el,er,ew⟩:=e
  simp only at HFC HWL i2 i3
  go_enter Tryz.func110,Tryz.ntmps110
  go_wp2_with fail
  (with_reducible refine (HI.out _ HE.out).mono ?_);rintro e w2 ⟨u,rfl,ou,hb2⟩
  have HRR:=hide ou;have HB2:=hide hb2
  have i2:=(hb2.cell (p:=⟨b,o+i0 * 5+2,none⟩) hbl).trans i2
  have i3:=(hb2.cell (p:=⟨b,o+i0 * 5+3,none⟩) hbl).trans i3
  have hbl2:=Nat.lt_of_lt_of_le hbl hb2.size
  obtain ⟨ua,un,uc⟩:=u
  have hun:un=RR.length:=by
   rcases ou.shape with ⟨h1,h2⟩ | ⟨g,cap,h1, -⟩
   ·simp only [Value.slice.injEq] at h1;rw [h1.2.1,h2];rfl
   ·simp only [Value.slice.injEq] at h1;exact h1.2.1
  clear ou hb2
  have HLEN:Hid (RR.length≤3000):=hide HF1.out
  have HRN:Hid (RR.length=un):=hide hun.symm
  clear hun
  go_upto_if 25 with fail
  go_cut [6] (fun s6 W => ∃ f:Slc,s6 = .slice f.a f.n f.cap∧Rep IntE W f.v FC∧Below w2.heap.size w2 W)
  case first =>
   cases er
   ·go_wp2_with fail
    go_meet
    exact ⟨⟨some ⟨w2.heap.size,0,none⟩,1,1⟩,rfl,by rw [HFC.out,if_neg (by simp)];exact (Own.lit1 (E:=IntE) (T:=3) w2 (Nat.le_refl _) (-1)).rep,(Below.refl _ _).alloc (Nat.le_refl _) _⟩
   ·have hbl0:=(Below.refl w2.heap.size w2).alloc (Nat.le_refl _) (.cells #[.int .i64 (-1)] 3)
    have HBL:=hide hbl0
    have HW2:=hide (HW.out el _ (HE.out.below (HB2.out.trans (hbl0.mono HB2.out.size))))
    clear hbl0
    go_wp2_with fail
    (with_reducible refine HW2.out.mono ?_);rintro e w3 ⟨uf,rfl,of,hb3⟩
    obtain ⟨⟨fa,fn,fc⟩,rfl, -⟩:=of.toSlc
    go_wp2_with fail
    go_meet
    exact ⟨⟨fa,fn,fc⟩,rfl,by have h:=HFC.out;simp at h;rw [h];exact of.rep,HBL.out.trans (hb3.mono HBL.out.size)⟩
  case rest =>
   obtain ⟨⟨fa,fn,fc⟩,rfl,hrf,hbc⟩:=hcut
   have HFCL:Hid (FC.length≤m+1):=hide (by
    rw [HFC.out]
    split
    ·have:=HWL.out;omega
    ·simp)
   obtain ⟨fa',fc',heq, -, -, -, -⟩:=hrf.open
   simp only [Slc.v,Value.slice.injEq] at heq
   obtain ⟨rfl,rfl,rfl⟩:=heq
   have HRF:=hide hrf
   have HRC:=hide (HRR.out.below hbc)
   have HBC:=hide (HB2.out.trans (hbc.mono HB2.out.size))
   generalize hfn:FC.length=fn at *
   have HFN:=hide hfn
   have hfb:fn≤1048577:=by have:=HFCL.out;omega
   have hub:un≤3000:=by have:=HLEN.out;have:=HRN.out;omega
   clear hfn i2 i3 hbl2 HRR HB2 hbc hrf HW HI HFC HWL
   go_wp2_with fail
   go_loopw [7,8] (fun s i wr => ∃ k:Nat,k≤fn∧i = .int .i64 k∧RowsI wr wc.heap.size s ((FC.take k).flatMap (pre1 i0 RR))∧Below wc.heap.size wc wr) (fun _ i _=>fn - (intOf i).toNat)
   case atStart=>exact ⟨0,Nat.zero_le _,rfl,OwnF.empty _ wc (Nat.le_refl _),(Below.refl _ _).alloc (Nat.le_refl _) _⟩
   case round =>
    obtain ⟨k,hk,rfl,hrows,hbr⟩:=hrel
    by_cases hlt:k < fn
    ·obtain ⟨x,hxk⟩:=get_of_lt (xs:=FC) (k:=k) (by rw [HFN.out];exact hlt)
     have hltk:=nat_of_lt hlt
     have GS:=hide (flatMap_take_succ (pre1 i0 RR) hxk)
     have HGL:Hid (((FC.take k).flatMap (pre1 i0 RR)).length≤3000):=hide (by
      have:=flatMap_take_le (pre1 i0 RR) FC k
      rw [← HST.out] at this
      exact Nat.le_trans this HF0.out)
     obtain ⟨bf,of,rfl,hbf,f0⟩:=HRF.out.int hxk
     have F0:=hide f0;have HBF:=hide hbf
     generalize (FC.take k).flatMap (pre1 i0 RR)=G at *
     have HRO:=hide hrows;have HBR:=hide hbr
     clear hrows hbr hxk f0 hbf
     go_wp2_with fail
     go_loopw [7,9] (fun s i wr => ∃ j:Nat,j≤un∧i = .int .i64 j∧RowsI wr wc.heap.size s (G++(RR.take j).map (x :: ·))∧Below wc.heap.size wc wr∧Hid (x=(i0:Int)→j=0)) (fun _ i _=>un - (intOf i).toNat)
     case atStart=>exact ⟨0,Nat.zero_le _,rfl,by rw [List.take_zero,List.map_nil,List.append_nil];exact HRO.out,HBR.out,hide (fun _=>rfl)⟩
     case round =>
      obtain ⟨j,hj,rfl,hrows,hbr,hx0⟩:=hrel
      by_cases hltj:j < un
      ·obtain ⟨r,hrj⟩:=get_of_lt (xs:=RR) (k:=j) (by rw [HRN.out];exact hltj)
       have hltj':=nat_of_lt hltj
       have f0:=(hbr.cell (p:=⟨bf,of+k,none⟩) HBF.out).trans F0.out
       have hbf:=Nat.lt_of_lt_of_le HBF.out hbr.size
       by_cases hx:x=(i0:Int)
       ·have k1:(x != (i0:Int))=false:=by simp [hx]
        have P1:=hide (pre1_take (RR:=RR) hx0.out (.inr hx))
        clear hx
        go_wp2_with fail
        go_roundw
        case rel=>exact ⟨k+1,by omega,by go_num,by rw [GS.out,← P1.out];exact hrows,hbr⟩
        case measure=>simp [intOf];omega
       ·have k1:(x != (i0:Int))=true:=by simp [hx]
        have HX:=hide hx
        clear hx
        obtain ⟨⟨ra,rn,rc⟩,g,hga,hg,g0,hrep⟩:=RowsI.row (HRC.out.below hbr) hrj
        have hgc:g < wc.heap.size:=by
         obtain ⟨-,g',hga',hgc, -⟩:=RowsI.row HRC.out hrj
         rw [hga] at hga';simp at hga';omega
        subst hga
        have RS:Hid (G++(RR.take (j+1)).map (x :: ·)=(G++(RR.take j).map (x :: ·))++[x :: r]):=hide (by rw [map_take_succ (x :: ·) hrj,List.append_assoc])
        have hrl:=HROW.out r (List.mem_of_getElem? hrj)
        have hlen:(G++(RR.take j).map (x :: ·)).length≤68719476736:=by
         rw [List.length_append,List.length_map,List.length_take]
         have:=HGL.out;have:=HRN.out;have:=HLEN.out;omega
        have hn1:([x]:List Int).length+r.length≤68719476736:=by simp;omega
        have HRP:=hide (hrep.below ((Below.refl wr.heap.size wr).alloc (Nat.le_refl _) (.cells #[.int .i64 x] 3)).drew)
        obtain ⟨us,ds,hU⟩:=hrows
        have HUL:Hid (us.length≤68719476736):=hide (by rw [hU.lu];exact hlen)
        have HU:=hide hU
        have HBR2:=hide hbr
        have HLT:Hid (Own IntE 3 (wr.alloc (.cells #[.int .i64 x] 3)).drew wr.heap.size (.slice (some ⟨wr.heap.size,0,none⟩) 1 1) [x]):=hide (Own.lit1 (E:=IntE) (T:=3) wr (Nat.le_refl _) x)
        have hbs:wc.heap.size≤wr.heap.size:=hbr.size
        have hq7:∀ q,u7.ownBlock=some q→wc.heap.size≤q:=fun q hq=>(World.ownsRow.lt hU.own q hq).1
        have HQ7:=hide hq7
        have HBFc:=hide (show bf < wc.heap.size from HBF.out)
        have HGc:=hide hgc
        generalize G++(RR.take j).map (x :: ·)=GG at *
        clear hrj hrep hbr hrl hU hlen hq7
        go_wp2_with fail
        go_region_held3 (fun V=>V.cell? ⟨bf,of+k,none⟩=some (.int .i64 x)∧V.cell? ⟨g,j,none⟩=some (.slice ra rn rc)) ((simp [go_sem, *]))
         (first
          | (refine step_appS IntE 3 Tryz.infoInt rfl Tryz.underlying24 wr.heap.size _ [x] r _ HLT.out HRP.out (by decide) hn1 (by simp) (by rfl) _ _ (by rfl) (by rfl) (by rfl) ?_;intro v6 w6 hown6 hgr6;obtain ⟨⟨a6,n6,c6⟩,rfl, -⟩:=hown6.toSlc;have O6:=hide hown6;have hk6:(∀ o,w6.cell? ⟨bf,o,none⟩=wr.cell? ⟨bf,o,none⟩):=(kept_d hgr6 hbf (fun q hq=>by simp [Value.ownBlock] at hq;omega));have hk7:(∀ o,w6.cell? ⟨g,o,none⟩=wr.cell? ⟨g,o,none⟩):=(kept_d hgr6 hg (fun q hq=>by simp [Value.ownBlock] at hq;omega));have B6:=hide (below_lit hgr6);have hb6:=B6.out.size;have hz6:bf < w6.heap.size:=(Nat.lt_of_lt_of_le hbf hb6);have hz7:g < w6.heap.size:=(Nat.lt_of_lt_of_le hg hb6);clear hown6 hgr6)
          | (refine step_app SlcE 24 Tryz.infoIntS rfl Tryz.underlying27 wc.heap.size _ us ⟨a6,n6,c6⟩ ((HU.out.own.below B6.out).alloc _) (by decide) HUL.out (by simp;omega) (by rfl) _ _ (by rfl) (by rfl) w6.heap.size 0 1 (by rfl) news_alloc ?_;intro v8 w8 hown8 hgr8;have hk8:(∀ o,w8.cell? ⟨bf,o,none⟩=wr.cell? ⟨bf,o,none⟩):=(fun o=>(kept_cell hgr8 (by omega) (fun q hq=>by have:=HQ7.out q hq;have:=HBFc.out;omega) o).trans (hk6 o));have hk9:(∀ o,w8.cell? ⟨g,o,none⟩=wr.cell? ⟨g,o,none⟩):=(fun o=>(kept_cell hgr8 (by omega) (fun q hq=>by have:=HQ7.out q hq;have:=HGc.out;omega) o).trans (hk7 o))))
        have R8:=RowsI.app HU.out B6.out hbs rfl O6.out hown8 hgr8
        have B8:=(HBR2.out.trans (B6.out.mono hbs)).alloc (by omega) (.cells #[.slice a6 n6 c6] 24)
        have B9:=B8.grown hgr8 (by simp;omega) (fun q hq=>HQ7.out q hq)
        go_wp2_with fail
        go_roundw
        case rel=>exact ⟨j+1,by omega,by go_num,by rw [RS.out];exact R8,B9,hide (fun h=>absurd h HX.out)⟩
        case measure=>simp [intOf];omega
      ·obtain rfl:j=un:=by omega
       have P1:=hide (pre1_take (RR:=RR) hx0.out (.inl HRN.out.symm))
       go_wp2_with fail
       go_roundw
       case rel=>exact ⟨k+1,by omega,by go_num,by rw [GS.out,← P1.out];exact hrows,hbr⟩
       case measure=>simp [intOf];omega
    ·obtain rfl:k=fn:=by omega
     obtain ⟨us,ds,hU⟩:=hrows
     obtain ⟨⟨qa,qn,qc⟩,rfl, -⟩:=hU.own.toSlc
     have hrows:RowsI _ _ _ _:=⟨us,ds,hU⟩
     clear hU
     go_wp2_with fail
     go_ret
     refine ⟨⟨qa,qn,qc⟩,rfl, ?_, ?_⟩
     ·rw [HST.out]
      have h:=hrows
      rw [List.take_of_length_le (by rw [HFN.out];exact Nat.le_refl _)] at h
      exact h.mono HBC.out.size
     ·exact HBC.out.trans (hbr.mono HBC.out.size)
end Go.Proofs.YtkfhgnkonaafgaaGreatDoor
namespace Go.Proofs.YtkfhgnkonaafgaaGreatDoor
theorem permsD_ne:∀ (n:Nat) (xs:List Int),xs.length=n→0 < (permsD n xs).length:=by
 intro n
 induction n with
 | zero=>intro xs _;simp [permsD]
 | succ n ih =>
  intro xs hx
  have h:=ih (xs.eraseIdx 0) (by rw [List.length_eraseIdx,if_pos (by omega),hx];rfl)
  unfold permsD
  rw [hx,List.range_succ_eq_map,List.flatMap_cons,List.length_append,List.length_map]
  omega
theorem permsL_ne (xs:List Int):0 < (permsL xs).length:=permsD_ne _ xs rfl
theorem ordsL_ne (es : List Ev) : ∀ (n l : Nat), l + n = 3 → 0 < (ordsL es l).length := by
  intro n
  induction n with
  | zero => intro l hl; obtain rfl : l = 3 := by omega
            simp [ordsL_end]
  | succ n ih =>
    intro l hl
    rw [ordsL_step (by omega)]
    have h1 := permsL_ne (wrL es l).tail
    have h2 := ih (l + 1) (by omega)
    cases h : permsL (wrL es l).tail with
    | nil => rw [h] at h1; simp at h1
    | cons q qs => rw [List.flatMap_cons, List.length_append, List.length_map]; omega
theorem fromsL_ne {p:List (List Ins)} (hpv:progValid p=true):∀ (n i:Nat),i+n=(evAll p).length→0 < (fromsL (evAll p) i).length:=by
 have hv:=valid_le hpv
 intro n
 induction n with
 | zero =>
  intro i hi
  obtain rfl:i=(evAll p).length:=by omega
  simp [fromsL_end]
 | succ n ih =>
  intro i hi
  have h2:=ih (i+1) (by omega)
  rw [fromsL_step (by omega)]
  obtain ⟨e,he⟩:=get_of_lt (xs:=evAll p) (k:=i) (by omega)
  have hex:∃ k∈fromC (evAll p) i,k≠(i:Int):=by
   unfold fromC
   rw [he]
   simp only
   cases hr:e.r with
   | false=>exact ⟨-1,by simp,by omega⟩
   | true =>
    obtain ⟨t',i',r,h3, -⟩:=ev_read (p:=p) he hr
    have hl:e.l=0∨e.l=1∨e.l=2:=by
     rcases ev_cases he with h4 | ⟨t2,i2,r2, -, -,h5,h6, -, -,h9⟩
     ·omega
     ·rw [h9];exact insValid_loc ((hv.2.2.1 r2 (List.mem_of_getElem? h5)).2 _ (List.mem_of_getElem? h6))
    have hi3:3≤i:=by
     rcases Nat.lt_or_ge i 3 with h | h
     ·exfalso
      unfold evAll at he
      rw [List.getElem?_append_left (by rw [evHead_length];exact h)] at he
      have:e.t = -1:=by
       have h5:i=0∨i=1∨i=2:=by omega
       rcases h5 with rfl | rfl | rfl <;> simp [evHead,List.range_succ] at he <;> rw [← he]
      omega
     ·exact h
    have hm:∀ l:Nat,l < 3→(l:Int)∈wrL (evAll p) l:=fun l hl=>List.mem_of_mem_head? (by rw [head_wrL hl];simp)
    simp only [if_pos]
    rcases hl with hl | hl | hl
    ·exact ⟨0,by rw [hl];exact hm 0 (by omega),by omega⟩
    ·exact ⟨1,by rw [hl];exact hm 1 (by omega),by omega⟩
    ·exact ⟨2,by rw [hl];exact hm 2 (by omega),by omega⟩
  obtain ⟨k,hk,hki⟩:=hex
  obtain ⟨y,hy⟩:∃ y,y∈fromsL (evAll p) (i+1):=by
   cases h:fromsL (evAll p) (i+1) with
   | nil=>rw [h] at h2;simp at h2
   | cons y ys=>exact ⟨y,by simp⟩
  have:(k :: y)∈(fromC (evAll p) i).flatMap (pre1 i (fromsL (evAll p) (i+1))):=by
   rw [List.mem_flatMap]
   refine ⟨k,hk, ?_⟩
   unfold pre1
   rw [if_neg hki]
   exact List.mem_map.2 ⟨y,hy,rfl⟩
  exact List.length_pos_of_mem this
theorem allX_le {p:List (List Ins)} (hpv:progValid p=true):(allX (evAll p)).length≤3000:=by
 have h1:=flatMap_length_le (fun f=>(ordsL (evAll p) 0).map (Xc.mk f ·)) (ordsL (evAll p) 0).length (fromsL (evAll p) 0) (fun f _=>by rw [List.length_map];exact Nat.le_refl _)
 exact Nat.le_trans h1 (few hpv).all
end Go.Proofs.YtkfhgnkonaafgaaGreatDoor
namespace Go.Proofs.YtkfhgnkonaafgaaGreatDoor
theorem outL_bound {p:List (List Ins)} {x:Xc} (hok:execOk p x=true) (hv:valsOk p x.fr=true):∀ y∈outL p (evAll p) x (valsL p x.fr),0≤y∧y≤3:=by
 intro y hy
 unfold outL at hy
 rcases List.mem_append.1 hy with hy | hy
 ·unfold outTo at hy
  rw [List.mem_flatMap] at hy
  obtain ⟨t, -,hy⟩:=hy
  cases hr:p[t]? with
  | none=>rw [hr] at hy;simp at hy
  | some r =>
   rw [hr] at hy
   simp only [outRow,List.mem_map,List.mem_range] at hy
   obtain ⟨g, -,rfl⟩:=hy
   unfold regV regOf
   split
   ·omega
   ·rename_i hlt
    rcases lastRd_cases p (evAll p) (t:Int) (r.length:Int) (g:Int) with h | ⟨k,e,h1,h2,h3⟩
    ·rw [h] at hlt;omega
    ·obtain ⟨j,v,h4,h5,h6⟩:=val_read hok hv h2 h3
     rw [h1,valAt_eq h4 h5];exact h6
 ·simp only [outMem,List.mem_map,List.mem_range] at hy
  obtain ⟨l,hl,rfl⟩:=hy
  obtain ⟨o,j,v,h1, -,h3,h4,h5⟩:=val_order hok hv hl
  rw [memV_eq h1 h3 h4];exact h5
theorem outL_valid {p:List (List Ins)} {x:Xc} (hok:execOk p x=true) (hv:valsOk p x.fr=true):outValid p (outL p (evAll p) x (valsL p x.fr))=true:=by
 have hp:progValid p=true:=by
  unfold execOk at hok
  simp only [Bool.and_eq_true] at hok
  exact hok.1
 unfold outValid
 simp only [hp,Bool.true_and,Bool.and_eq_true,decide_eq_true_eq,List.all_eq_true]
 refine ⟨outL_length _ _ _ _,fun y hy => ?_⟩
 have:=outL_bound hok hv y hy
 unfold inB
 simp [this.1,this.2]
end Go.Proofs.YtkfhgnkonaafgaaGreatDoor
namespace Go.Proofs.YtkfhgnkonaafgaaGreatDoor
open Go.ChangeShapes Go.WideShapes Go.ChangeAt Go.WideMaps Go.WideElems Go.RowKit
abbrev laidL : List (String × DataW Unit) := [("loop.example/weakmemory/impl.relNames", Rows.laid_loop_example_weakmemory_impl_relNames)]
theorem gNames : Tryz.prog.globalNamed "loop.example/weakmemory/impl.relNames" = some 0 := by kernel_rfl
theorem tNames:(Tryz.prog.globals[0]?).map (·.type)=some 206:=by kernel_rfl
theorem door_met (os:Os) (args:Array Value):laidMetH Tryz.prog laidL ((World.doorLaid Tryz.prog 14 os).forCall (fun _ _=>0) ⟨#[],args,[]⟩).memory:=
 laidMetH_of_parts3 (fuel:=8) (laidMet_of_run' 8 (by kernel_rfl) (by kernel_rfl)) (by kernel_rfl) (by kernel_rfl)
theorem glob_of_laid {W:World} (h:laidMetH Tryz.prog laidL W):Glob W:=by
 rw [MakeChecks.laidMetH_plain _ _ _ (by kernel_rfl)] at h
 obtain ⟨ps,⟨g0,t0,cs0,f0,p0,q0,hg0,ht0,hv0,hd0,_⟩,_,_⟩:=h
 obtain rfl:=Option.some.inj (gNames.symm.trans hg0)
 obtain rfl:=Option.some.inj (tNames.symm.trans ht0)
 obtain ⟨xs,m1, -,hx1,hlen,hn3,hel⟩:=DataW.trod_array Tryz.underlying206 hd0
 have c3:Tryz.prog.cellsOf 9=1:=by kernel_rfl
 intro k s hs
 have hk:k < 10:=(List.getElem?_eq_some_iff.1 hs).1
 have h0:=hel k hk
 obtain ⟨y,hy⟩:=get_of_lt (xs:=xs) (k:=k) (by rw [hn3];exact hk)
 rw [hy,c3,Nat.mul_one] at h0
 obtain ⟨s',e1,e2, -⟩:=DataW.trod_string Tryz.underlying9 h0
 simp only [Prod.mk.injEq] at hx1
 have hx2:xs.map (·.1)=nameTab.map fun s=>(DataW.lit (.string s.data.toList):DataW Unit):=by
  have h4:(Rows.laid_loop_example_weakmemory_impl_relNames:DataW Unit) = .agg (nameTab.map fun s=>(DataW.lit (.string s.data.toList):DataW Unit)):=by kernel_rfl
  exact (DataW.agg.inj (h4.symm.trans hx1.1)).symm
 have h5:(xs.map (·.1))[k]? = some y.1:=by rw [List.getElem?_map,hy];rfl
 rw [hx2,List.getElem?_map,hs] at h5
 simp only [Option.map_some,Option.some.injEq] at h5
 rw [e2] at h5
 simp only [DataW.lit.injEq,Lit.string.injEq] at h5
 have h6:s'=s:=by
  have h7:s'.data=s.data:=by
   have:=congrArg List.toArray h5
   simpa using this.symm
  cases s';cases s;simp_all
 subst h6
 have h7:=World.var?_cell hg0 hv0 k
 rw [h7]
 have h8:cs0.toList[k]? = some (.string s'):=by
  have h9:(cs0.toList.drop k)[0]? = some (.string s'):=by
   have:=congrArg (fun l=>l[0]?) e1
   simp only [List.getElem?_cons_zero] at this
   rw [List.getElem?_take_of_lt (by omega)] at this
   exact this
  rw [List.getElem?_drop] at h9
  simpa using h9
 simpa using h8
end Go.Proofs.YtkfhgnkonaafgaaGreatDoor