/-
  The reference's l6Perms. Condition: bounds on lengths.
-/
import Derived.Test.YtfbgppkdnfljhaaGreatDoorZt06
import Derived.Test.YtfbgppkdnfljhaaGreatDoorZt13
import Derived.Test.YtfbgppkdnfljhaaGreatDoorZt12
import Derived.Test.YtfbgppkdnfljhaaGreatDoorZt11
import Derived.Test.YtfbgppkdnfljhaaGreatDoorZt14
import Derived.Test.YtfbgppkdnfljhaaGreatDoorZt10
import Derived.Test.YtfbgppkdnfljhaaGreatDoorZt09
import Derived.Test.YtfbgppkdnfljhaaGreatDoorZt05
import Derived.Test.YtfbgppkdnfljhaaGreatDoorZt04
import Derived.Deep.RegionHeld3
import Derived.Deep.DeepCutAuto
set_option maxHeartbeats 6400000
set_option maxRecDepth 100000
namespace Go.Proofs.YtfbgppkdnfljhaaGreatDoor
open Go.RowKit
def Glob (w:World):Prop:=∀ (k:Nat) (s:ByteArray),nameTab[k]? = some s→w.cell? ⟨1,k,none⟩=some (.string s)
theorem Glob.below {w w':World} (h:Glob w) (hb:Below w.heap.size w w'):Glob w':=fun k s hs=>(hb.cell (p:=⟨1,k,none⟩) (lt_of_cell (h k s hs))).trans (h k s hs)
theorem Glob.rep {w:World} (h:Glob w):Rep StrE w (.slice (some ⟨1,0,none⟩) 10 10) nameTab:=by
 refine ⟨some ⟨1,0,none⟩,10,rfl,by decide,by decide,fun i x hx=>⟨1,0,rfl,fun j u hu => ?_⟩⟩
 cases j with
 | zero =>
  simp only [StrE,List.getElem?_cons_zero,Option.some.injEq] at hu
  subst hu
  have:=h i x hx
  simpa [StrE] using this
 | succ j=>simp [StrE] at hu
theorem IndexB_any (v:Value) (xs:List ByteArray) (x:ByteArray) (w:World) (hx:Rep StrE w v xs) :
 Calls Tryz.prog 122 #[v, .string x] w fun e w'=>(∃ q:Int,e = .returned (.int .i64 q)∧decide (0≤q)=xs.any (fun s=>x.toList==s.toList))∧w=w':=by
 obtain ⟨a,c,rfl,hc1,hc2,hc3,hx⟩:=hx.open
 have HX:=hide hx;clear hx
 generalize hn:xs.length=n at *
 have H:=hide hn;clear hn
 go_enter Tryz.func122,Tryz.ntmps122
 go_wp2_with fail
 go_loop [8] (fun i => ∃ t:Nat,t≤n∧i = .int .i64 t∧Hid ((xs.take t).any (fun s=>x.toList==s.toList)=false)) (fun i=>n - (intOf i).toNat)
 case atStart=>exact ⟨0,Nat.zero_le _,rfl,hide (by simp)⟩
 case round =>
  obtain ⟨t,ht,rfl,hno⟩:=hrel
  by_cases hlt:t < n
  ·obtain ⟨y,hy⟩:=get_of_lt (xs:=xs) (k:=t) (by rw [H.out];exact hlt)
   obtain ⟨b,o,rfl,hbl,i0⟩:=HX.out.str hy
   have hlt':=nat_of_lt hlt
   have X:=hide hy;clear hy
   by_cases hxy:(x.toList==y.toList)=true
   ·have k1:=hxy
    have XE:=hide hxy
    clear hxy
    go_wp2_with fail
    go_ret
    refine ⟨⟨_,rfl, ?_⟩,rfl⟩
    have h1:xs.any (fun s=>x.toList==s.toList)=true:=List.any_eq_true.2 ⟨y,List.mem_of_getElem? X.out,XE.out⟩
    rw [h1];simp
   ·have k1:(x.toList==y.toList)=false:=by simpa using hxy
    have NO:Hid ((xs.take (t+1)).any (fun s=>x.toList==s.toList)=false):=hide (by
     rw [List.take_add_one,X.out,List.any_append,hno.out]
     simp [k1])
    clear hxy
    go_wp2_with fail
    go_round
    case rel=>exact ⟨t+1,by omega,by go_num,NO⟩
    case measure=>simp [intOf];omega
  ·go_wp2_with fail
   go_ret
   refine ⟨⟨_,rfl, ?_⟩,rfl⟩
   have h:=hno.out
   rw [List.take_of_length_le (by rw [H.out];omega)] at h
   rw [h];rfl
theorem ContainsB_any (v:Value) (xs:List ByteArray) (x:ByteArray) (w:World) (hx:Rep StrE w v xs) :
 Calls Tryz.prog 219 #[v, .string x] w fun e w'=>e = .returned (.bool (xs.any fun s=>x.toList==s.toList))∧w=w':=by
 have HI:=hide (IndexB_any v xs x w hx)
 obtain ⟨a,c,rfl, -⟩:=hx.open
 clear hx
 generalize hb:(xs.any fun s=>x.toList==s.toList)=b at *
 go_enter Tryz.func219,Tryz.ntmps219
 go_wp2_with fail
 (with_reducible refine HI.out.mono ?_);rintro e w1 ⟨⟨q,rfl,hq⟩,rfl⟩
 have HQ:=hide hq
 clear hq hb
 go_wp2_with fail
 go_ret
 exact ⟨by rw [← HQ.out];rfl,rfl⟩
theorem isRelName_any (x:ByteArray) (w:World) (hg:Glob w) :
 Calls Tryz.prog 170 #[.string x] w fun e w'=>e = .returned (.bool (isName x))∧w=w':=by
 have HC:=hide (ContainsB_any _ nameTab x w hg.rep)
 have c0:=hg 0 _ rfl
 have HB:Hid (isName x=nameTab.any fun s=>x.toList==s.toList):=hide rfl
 rw [← HB.out] at HC
 go_enter Tryz.func170,Tryz.ntmps170
 go_wp2_with fail
 (with_reducible refine HC.out.mono ?_);rintro e w1 ⟨rfl,rfl⟩
 go_wp2_with fail
 go_ret
 exact ⟨rfl,rfl⟩
end Go.Proofs.YtfbgppkdnfljhaaGreatDoor
namespace Go.Proofs.YtfbgppkdnfljhaaGreatDoor
open Go.RowKit
theorem fenceOp_any (o l r x:Int) (w:World) :
 Calls Tryz.prog 270 #[.agg #[.int .i64 o, .int .i64 l, .int .i64 r, .int .i64 x]] w fun e w'=>e = .returned (.bool (o==4))∧Below w.heap.size w w':=by
 have HB:=hide (belowAlloc w (.cells #[.int .i64 o, .int .i64 l, .int .i64 r, .int .i64 x] 104))
 go_enter Tryz.func270,Tryz.ntmps270
 go_wp2_with fail
 go_ret
 exact ⟨rfl,HB.out⟩
theorem pure_any (t i l:Int) (r w0 b:Bool) (w:World) :
 Calls Tryz.prog 271 #[.agg #[.int .i64 t, .int .i64 i, .int .i64 l, .bool r, .bool w0], .bool b] w fun e w'=>e = .returned (.bool ((w0==b)&&(r != b)))∧Below w.heap.size w w':=by
 have HB:=hide (belowAlloc w (.cells #[.int .i64 t, .int .i64 i, .int .i64 l, .bool r, .bool w0] 130))
 cases w0 <;> cases b <;> cases r
 all_goals
  go_enter Tryz.func271,Tryz.ntmps271
  go_wp2_with fail
  go_ret
  exact ⟨rfl,HB.out⟩
theorem isBefore_any (f1 o1:Option Addr) (f2 f3 o2 o3:Nat) (x:Xc) (l:Nat) (i k:Int) (w:World) (hx:RepX w (.slice f1 f2 f3) (.slice o1 o2 o3) x) (hl:l < x.od.length) :
 Calls Tryz.prog 268 #[.agg #[.slice f1 f2 f3, .slice o1 o2 o3], .int .i64 l, .int .i64 i, .int .i64 k] w fun e w'=>e = .returned (.bool (bef (odA x l) i k))∧Below w.heap.size w w':=by
 obtain ⟨o,ho⟩:=get_of_lt hl
 have hod:odA x l=o:=by simp [odA,ho]
 rw [hod]
 have HX:=hide hx
 obtain ⟨oa,oc,hoe, -, -, -,hoo⟩:=hx.od.open
 simp only [Value.slice.injEq] at hoe
 obtain ⟨rfl,rfl,rfl⟩:=hoe
 have HB:=hide (belowAlloc w (.cells #[.slice f1 f2 f3, .slice o1 x.od.length o3] 60))
 have HBX:=hide (heap_alloc_new w (.cells #[.slice f1 f2 f3, .slice o1 x.od.length o3] 60))
 obtain ⟨b2,q2,ra,rc,rfl,hbl2,q0,q1⟩:=(hoo.below HB.out).row ho
 have HI:=hide (fun (y:Int) (z:BW (w.alloc (.cells #[.slice f1 f2 f3, .slice (some ⟨b2,q2,none⟩) x.od.length o3] 60)))=>(IndexN_any _ o y z.val (q1.below z.prop)).mono (R':=fun e w'=>e = .returned (.int .i64 (plc o y))∧z.val=w') (fun e w' ⟨⟨q,h1,h2⟩,h3⟩=>⟨by rw [h1,h2.eq],h3⟩))
 have hl':=nat_of_lt hl
 have HE:Hid (bef o i k=(decide (0≤plc o i)&&(decide (0≤plc o k)&&decide (plc o i < plc o k)))):=hide rfl
 clear hx hoo q1 ho hod HX
 generalize bef o i k=R at *
 generalize x.od.length=on at *
 generalize hW:w.alloc (.cells #[.slice f1 f2 f3, .slice (some ⟨b2,q2,none⟩) on o3] 60)=W at *
 have d1:W.cell? ⟨w.heap.size,1,none⟩=some (.slice (some ⟨b2,q2,none⟩) on o3):=cell_of_heapV HBX.out (k:=1) rfl
 have dl:=lt_of_cell d1
 go_enter Tryz.func268,Tryz.ntmps268
 go_wp2_with fail
 refine wp_region_bw (by kernel_rfl) (by kernel_rfl) ?_
 repeat (go_big_quiet_step ((go_at_call 171;(with_reducible exact Calls.bw_same (HI.out _ _)))))
 refine wpQuiet_nil ?_
 intro w5 hb5
 have HB5:=hide (HB.out.trans (hb5.mono HB.out.size))
 clear hb5 d1 dl
 generalize plc o i=qi at *
 generalize plc o k=qk at *
 by_cases g1:0≤qi
 ·by_cases g2:0≤qk
  ·have E:Hid (R=decide (qi < qk)):=hide (by rw [HE.out];simp [g1,g2])
   go_wp2_with fail
   go_ret
   exact ⟨by rw [E.out];rfl,HB5.out⟩
  ·have k2:decide (0≤qk)=false:=decide_eq_false g2
   have E:Hid (R=false):=hide (by rw [HE.out,k2];simp)
   clear g2
   go_wp2_with fail
   go_ret
   exact ⟨by rw [E.out];rfl,HB5.out⟩
 ·have k1:decide (0≤qi)=false:=decide_eq_false g1
  have E:Hid (R=false):=hide (by rw [HE.out,k1];simp)
  clear g1
  go_wp2_with fail
  go_ret
  exact ⟨by rw [E.out];rfl,HB5.out⟩
end Go.Proofs.YtfbgppkdnfljhaaGreatDoor
namespace Go.Proofs.YtfbgppkdnfljhaaGreatDoor
open Go.RowKit
def Tests_i_isPair_1 (f:Ins→Bool):Prop:=∀ (x:Ins) (w:World),Calls Tryz.prog 270 #[.agg #[.int .i64 x.op, .int .i64 x.loc, .int .i64 x.reg, .int .i64 x.val]] w fun e w'=>e = .returned (.bool (f x))∧Below w.heap.size w w'
theorem IndexFunc_i_isPair_1 (v:Value) (xs:List Ins) (f:Ins→Bool) (w:World) (hx:Rep InsE w v xs) (hf:Tests_i_isPair_1 f) :
 Calls Tryz.prog 285 #[v, .func (.func 270) #[] #[]] w fun e w'=>(∃ q:Int,e = .returned (.int .i64 q)∧IdxOf f xs q)∧Below w.heap.size w w':=by
 obtain ⟨a,c,rfl,hc1,hc2,hc3,hx⟩:=hx.open
 have HX:=hide hx;clear hx
 have HF:=hide hf;clear hf
 generalize hn:xs.length=n at *
 have H:=hide hn;clear hn
 go_enter Tryz.func285,Tryz.ntmps285
 go_wp2_with fail
 go_loopw [8] (fun i wr => ∃ t:Nat,t≤n∧i = .int .i64 t∧Hid (∀ x∈xs.take t,f x=false)∧Below w.heap.size w wr) (fun i _=>n - (intOf i).toNat)
 case atStart=>exact ⟨0,Nat.zero_le _,rfl,hide (by simp),Below.refl _ _⟩
 case round =>
  obtain ⟨t,ht,rfl,hno,hb⟩:=hrel
  by_cases hlt:t < n
  ·obtain ⟨x,hxk⟩:=get_of_lt (xs:=xs) (k:=t) (by rw [H.out];exact hlt)
   obtain ⟨b,o,rfl,hbl,i0,i1,i2,i3⟩:=(HX.out.below hb).ins hxk
   have hlt':=nat_of_lt hlt
   have X:=hide hxk;clear hxk
   generalize hfx:f x=fx
   have FX:=hide hfx;clear hfx
   have hcall:=HF.out x
   rw [FX.out] at hcall
   have HC:=hide hcall;clear hcall
   cases fx
   ·have NO:Hid (∀ x∈xs.take (t+1),f x=false):=hide (none_succ hno.out X.out FX.out)
    go_wp2_with fail
    (with_reducible refine (HC.out _).mono ?_);rintro e w2 ⟨rfl,hb2⟩
    go_wp2_with fail
    go_roundw
    case rel=>exact ⟨t+1,by omega,by go_num,NO,hb.trans (hb2.mono hb.size)⟩
    case measure=>simp [intOf];omega
   ·go_wp2_with fail
    (with_reducible refine (HC.out _).mono ?_);rintro e w2 ⟨rfl,hb2⟩
    go_wp2_with fail
    go_ret
    exact ⟨⟨_,rfl, .inr ⟨t,x,rfl,X.out,FX.out,hno.out⟩⟩,hb.trans (hb2.mono hb.size)⟩
  ·go_wp2_with fail
   go_ret
   refine ⟨⟨_,rfl, .inl ⟨rfl, ?_⟩⟩,hb⟩
   have h:=hno.out
   rwa [List.take_of_length_le (by rw [H.out];omega)] at h
theorem IdxOf.anyB {α:Type} {f:α→Bool} {xs:List α} {q:Int} (h:IdxOf f xs q):decide (0≤q)=xs.any f:=by
 rcases h with ⟨rfl,h⟩ | ⟨t,x,rfl,h1,h2⟩
 ·have:xs.any f=false:=by rw [List.any_eq_false];intro x hx;rw [h x hx];simp
  rw [this];rfl
 ·have:xs.any f=true:=List.any_eq_true.2 ⟨x,List.mem_of_getElem? h1,h2.1⟩
  rw [this];simp
theorem anyFence_any (v:Value) (xs:List Ins) (w:World) (hx:Rep InsE w v xs) :
 Calls Tryz.prog 269 #[v, .func (.func 270) #[] #[]] w fun e w'=>e = .returned (.bool (xs.any fun y=>y.op==4))∧Below w.heap.size w w':=by
 have HI:=hide (IndexFunc_i_isPair_1 v xs (fun y=>y.op==4) w hx (fun x w=>fenceOp_any x.op x.loc x.reg x.val w))
 obtain ⟨a,c,rfl, -⟩:=hx.open
 clear hx
 generalize hb:(xs.any fun y=>y.op==4)=b at *
 go_enter Tryz.func269,Tryz.ntmps269
 go_wp2_with fail
 (with_reducible refine HI.out.mono ?_);rintro e w1 ⟨⟨q,rfl,hq⟩,hb1⟩
 have E:Hid (decide (0≤q)=b):=hide (hq.anyB.trans hb)
 clear hq hb
 go_wp2_with fail
 go_ret
 exact ⟨by rw [← E.out];rfl,hb1⟩
theorem Rep.subE {α:Type} {E:El α} {w:World} {b o n c:Nat} {xs:List α} (h:Rep E w (.slice (some ⟨b,o,none⟩) n c) xs) {i j:Nat} (hij:i≤j) (hj:j≤xs.length) :
 Rep E w (.slice (some ⟨b,o+i * E.sz,none⟩) (j - i) (c - i)) ((xs.drop i).take (j - i)):=by
 obtain ⟨a',c',hv,h1,h2,h3⟩:=h
 simp only [Value.slice.injEq] at hv
 obtain ⟨rfl,rfl,rfl⟩:=hv
 have hl:((xs.drop i).take (j - i)).length=j - i:=by simp;omega
 refine ⟨some ⟨b,o+i * E.sz,none⟩,c - i,by rw [hl],by rw [hl];omega,by omega,fun k x hx=>⟨b,o+i * E.sz,rfl,fun q u hu => ?_⟩⟩
 have hk:k < j - i:=by have:=(List.getElem?_eq_some_iff.1 hx).1;rw [hl] at this;exact this
 rw [List.getElem?_take_of_lt hk,List.getElem?_drop] at hx
 obtain ⟨b',o',hb,h4⟩:=h3 (i+k) x hx
 simp only [Option.some.injEq,Addr.mk.injEq,and_true] at hb
 obtain ⟨rfl,rfl⟩:=hb
 have h5:=h4 q u hu
 rw [Nat.add_mul] at h5
 rw [show o+i * E.sz+k * E.sz+q=o+(i * E.sz+k * E.sz)+q by omega]
 exact h5
end Go.Proofs.YtfbgppkdnfljhaaGreatDoor
namespace Go.Proofs.YtfbgppkdnfljhaaGreatDoor
open Go.RowKit
end Go.Proofs.YtfbgppkdnfljhaaGreatDoor
namespace Go.Proofs.YtfbgppkdnfljhaaGreatDoor
open Go.RowKit
theorem Tryz.infoRule:(Tryz.prog.info? 54).map (fun i=>(i.zero,i.size,i.bytes))=some (some (.agg #[.int .i64 0, .int .i64 0, .string ⟨#[]⟩, .slice none 0 0]),4,56):=by kernel_rfl
structure Us where
 kind:Int
 op:Int
 nm:ByteArray
 s:Slc
def UsE:El Us:=⟨4,by decide,fun x=>[.int .i64 x.kind, .int .i64 x.op, .string x.nm, .slice x.s.a x.s.n x.s.cap],fun _=>rfl,fun x u h=>by simp at h;rcases h with rfl | rfl | rfl | rfl <;> rfl⟩
def RepU (lo:Nat) (w:World) (u:Us) (r:Ru):Prop:=u.kind=r.kind∧u.op=r.e.op∧u.nm=r.e.nm∧RepRk lo w u.s r.e.kids
def RepM (lo:Nat) (w:World) (s:Slc) (m:List Ru):Prop:=
 ∃ us:List Us,us.length=m.length∧Rep UsE w s.v us∧From lo s us∧∀ (i:Nat) (u:Us) (r:Ru),us[i]? = some u→m[i]? = some r→RepU lo w u r
theorem Ru.eta (r:Ru):Ru.mk r.kind (.mk r.e.op r.e.nm r.e.kids)=r:=by cases r;simp [Re.eta]
theorem Rep.fromE {α:Type} {E:El α} {lo:Nat} {w w':World} {s:Slc} {us:List α} (h:Rep E w s.v us) (hf:From lo s us) (hk:∀ q,lo≤q→q < w.heap.size→w'.heap[q]? = w.heap[q]?):Rep E w' s.v us:=by
 obtain ⟨a,c,hv,h1,h2,h⟩:=h
 refine ⟨a,c,hv,h1,h2,fun i x hx => ?_⟩
 obtain ⟨b,o,rfl,hi⟩:=h i x hx
 refine ⟨b,o,rfl,fun j u hu => ?_⟩
 have hc:=hi j u hu
 rw [← hc]
 refine cell_of_block (hk b ?_ (lt_of_cell hc)) _
 rcases hf with rfl | hf
 ·simp at hx
 ·simp only [Slc.v,Value.slice.injEq] at hv
  exact hf b o hv.1
theorem RepU.keep {lo:Nat} {w w':World} {u:Us} {r:Ru} (h:RepU lo w u r) (hk:∀ q,lo≤q→q < w.heap.size→w'.heap[q]? = w.heap[q]?):RepU lo w' u r:=⟨h.1,h.2.1,h.2.2.1,h.2.2.2.keep hk⟩
theorem RepU.low {lo lo':Nat} {w:World} {u:Us} {r:Ru} (h:RepU lo w u r) (hl:lo'≤lo):RepU lo' w u r:=⟨h.1,h.2.1,h.2.2.1,h.2.2.2.low hl⟩
theorem RepM.keep {lo:Nat} {w w':World} {s:Slc} {m:List Ru} (h:RepM lo w s m) (hk:∀ q,lo≤q→q < w.heap.size→w'.heap[q]? = w.heap[q]?):RepM lo w' s m:=by
 obtain ⟨us,h1,h2,h3,h4⟩:=h
 exact ⟨us,h1,h2.fromE h3 hk,h3,fun i u k hu hk'=>(h4 i u k hu hk').keep hk⟩
theorem RepM.low {lo lo':Nat} {w:World} {s:Slc} {m:List Ru} (h:RepM lo w s m) (hl:lo'≤lo):RepM lo' w s m:=by
 obtain ⟨us,h1,h2,h3,h4⟩:=h
 refine ⟨us,h1,h2, ?_,fun i u k hu hk'=>(h4 i u k hu hk').low hl⟩
 rcases h3 with h3 | h3
 ·exact .inl h3
 ·exact .inr fun b o e=>Nat.le_trans hl (h3 b o e)
theorem RepM.below {lo:Nat} {w w':World} {s:Slc} {m:List Ru} (h:RepM lo w s m) (hb:Below w.heap.size w w'):RepM lo w' s m:=h.keep fun q _ hq=>hb.block q hq
theorem RepM.open {lo:Nat} {w:World} {s:Slc} {m:List Ru} (h:RepM lo w s m):s.n=m.length∧m.length≤s.cap∧m.length≤9223372036854775807∧s.cap≤maxLen:=by
 obtain ⟨us,h1,h2,h3,h4⟩:=h
 obtain ⟨a,c,hv,h5,h6,h7,_⟩:=h2.open
 simp only [Slc.v,Value.slice.injEq] at hv
 obtain ⟨_,e2,e3⟩:=hv
 rw [e2,e3];omega
theorem RepM.row {lo:Nat} {w:World} {a:Option Addr} {n c:Nat} {m:List Ru} (h:RepM lo w ⟨a,n,c⟩ m) {k:Nat} {r:Ru} (hx:m[k]? = some r) :
 ∃ (b o:Nat) (s:Slc),a=some ⟨b,o,none⟩∧b < w.heap.size∧w.cell? ⟨b,o+k * 4,none⟩=some (.int .i64 r.kind)∧w.cell? ⟨b,o+k * 4+1,none⟩=some (.int .i64 r.e.op)∧w.cell? ⟨b,o+k * 4+2,none⟩=some (.string r.e.nm)∧w.cell? ⟨b,o+k * 4+3,none⟩=some (.slice s.a s.n s.cap)∧RepRk lo w s r.e.kids:=by
 obtain ⟨us,h1,h2,h3,h4⟩:=h
 obtain ⟨u,hu⟩:=get_of_lt (xs:=us) (k:=k) (by rw [h1];exact (List.getElem?_eq_some_iff.1 hx).1)
 obtain ⟨e0,e1,e2,hk⟩:=h4 k u r hu hx
 obtain ⟨a',c',hv,_,_,h⟩:=h2
 simp only [Slc.v,Value.slice.injEq] at hv
 obtain ⟨rfl,_,_⟩:=hv
 obtain ⟨b,o,rfl,h'⟩:=h k u hu
 rw [← e0,← e1,← e2]
 exact ⟨b,o,u.s,rfl,lt_of_cell (h' 0 _ rfl),h' 0 _ rfl,h' 1 _ rfl,h' 2 _ rfl,h' 3 _ rfl,hk⟩
def wtM (m:List Ru):Nat:=(m.map fun r=>r.e.nm.size+wtR r.e.kids+1).sum
theorem wtM_take_succ {m:List Ru} {k:Nat} {r:Ru} (h:m[k]? = some r):wtM (m.take (k+1))=wtM (m.take k)+(r.e.nm.size+wtR r.e.kids+1):=by
 unfold wtM
 rw [List.take_add_one,h,List.map_append,List.sum_append]
 simp
theorem wtM_split (m:List Ru) (k:Nat):wtM m=wtM (m.take k)+wtM (m.drop k):=by
 unfold wtM
 rw [← List.sum_append,← List.map_append,List.take_append_drop]
theorem wtM_mem {m:List Ru} {r:Ru} (h:r∈m):r.e.nm.size+wtR r.e.kids+1≤wtM m:=by
 obtain ⟨k,hk⟩:=List.getElem?_of_mem h
 have h1:=wtM_take_succ hk
 have h2:=wtM_split m (k+1)
 omega
theorem Own.usr {T:TypeId} {w:World} {base g n cap:Nat} {xs:List Us} (h:Own UsE T w base (.slice (some ⟨g,0,none⟩) n cap) xs) {k:Nat} {x:Us} (hx:xs[k]? = some x) :
 g < w.heap.size∧w.cell? ⟨g,k * 4,none⟩=some (.int .i64 x.kind)∧w.cell? ⟨g,k * 4+1,none⟩=some (.int .i64 x.op)∧w.cell? ⟨g,k * 4+2,none⟩=some (.string x.nm) ∧
  w.cell? ⟨g,k * 4+3,none⟩=some (.slice x.s.a x.s.n x.s.cap)∧∀ j,w.frozen? ⟨g,j,none⟩=false:=
 ⟨(World.ownsRow.lt h g rfl).2,h.cell hx (j:=0) rfl,h.cell hx (j:=1) rfl,h.cell hx (j:=2) rfl,h.cell hx (j:=3) rfl,fun j=>h.frozen j⟩
end Go.Proofs.YtfbgppkdnfljhaaGreatDoor
namespace Go.Proofs.YtfbgppkdnfljhaaGreatDoor
open Go.RowKit
def notT (T:TypeId) (o:Obj):Prop:=∀ a fz,o≠.cells a T fz
structure LocR (T:TypeId) (lo hi:Nat) (w:World) (φ:World→Prop):Prop where
 now:φ w
 le:hi≤w.heap.size
 keep:∀ w':World,(∀ k ob,lo≤k→k < hi→w.heap[k]? = some ob→notT T ob→w'.heap[k]? = some ob)→φ w'
theorem LocR.step {T:TypeId} {lo hi:Nat} {w w':World} {φ:World→Prop} (h:LocR T lo hi w φ) (hs:w.heap.size≤w'.heap.size) (hk:∀ k ob,lo≤k→k < hi→w.heap[k]? = some ob→notT T ob→w'.heap[k]? = some ob):LocR T lo hi w' φ:=
 ⟨h.keep w' hk,Nat.le_trans h.le hs,fun w'' h2=>h.keep w'' fun k ob h3 h4 h5 h6=>h2 k ob h3 h4 (hk k ob h3 h4 h5 h6) h6⟩
theorem LocR.below {T:TypeId} {lo hi:Nat} {w w':World} {φ:World→Prop} (h:LocR T lo hi w φ) (hb:Below w.heap.size w w'):LocR T lo hi w' φ:=
 h.step hb.size fun k _ _ _ h5 _=>(hb.block k (Array.getElem?_eq_some_iff.1 h5).1).trans h5
theorem Own.typed {α:Type} {E:El α} {T:TypeId} {w:World} {base g:Nat} {v:Value} {xs:List α} (h:Own E T w base v xs) (hg:v.ownBlock=some g):∃ a,w.heap[g]? = some (.cells a T (0,0)):=by
 rcases h.2 with ⟨rfl,_⟩ | ⟨g',cap,cur,rfl,_,hg',_⟩
 ·simp [Value.ownBlock] at hg
 ·simp [Value.ownBlock] at hg
  subst hg
  exact ⟨cur,hg'⟩
theorem LocR.grown {α:Type} {E:El α} {T:TypeId} {lo hi base:Nat} {w w':World} {v:Value} {xs:List α} {φ:World→Prop} (h:LocR T lo hi w φ) (ho:Own E T w base v xs) (hg:w.grownBy w' v.ownBlock):LocR T lo hi w' φ:=
 h.step hg.size fun k ob _ _ h5 h6=>(hg.block k (Array.getElem?_eq_some_iff.1 h5).1 (fun e=>by
  obtain ⟨a,ha⟩:=ho.typed e.symm
  rw [h5] at ha
  exact h6 a _ (Option.some.inj ha))).trans h5
theorem LocR.wide {T:TypeId} {lo hi lo' hi':Nat} {w:World} {φ:World→Prop} (h:LocR T lo hi w φ) (h1:lo'≤lo) (h2:hi≤hi') (h3:hi'≤w.heap.size):LocR T lo' hi' w φ:=
 ⟨h.now,h3,fun w' k=>h.keep w' fun q ob a b c d=>k q ob (by omega) (by omega) c d⟩
theorem LocR.map {T:TypeId} {lo hi:Nat} {w:World} {φ ψ:World→Prop} (h:LocR T lo hi w φ) (f:∀ V,φ V→ψ V):LocR T lo hi w ψ:=⟨f _ h.now,h.le,fun w' k=>f _ (h.keep w' k)⟩
theorem LocR.and {T:TypeId} {lo hi:Nat} {w:World} {φ ψ:World→Prop} (h:LocR T lo hi w φ) (k:LocR T lo hi w ψ):LocR T lo hi w (fun W=>φ W∧ψ W):=⟨⟨h.now,k.now⟩,h.le,fun w' s=>⟨h.keep w' s,k.keep w' s⟩⟩
theorem LocR.all {ι:Type} {T:TypeId} {lo hi:Nat} {w:World} {φ:ι→World→Prop} (hh:hi≤w.heap.size) (h:∀ i,LocR T lo hi w (φ i)):LocR T lo hi w (fun W => ∀ i,φ i W):=⟨fun i=>(h i).now,hh,fun w' s i=>(h i).keep w' s⟩
theorem LocR.imp {T:TypeId} {lo hi:Nat} {w:World} {p:Prop} {φ:World→Prop} (hh:hi≤w.heap.size) (h:p→LocR T lo hi w φ):LocR T lo hi w (fun W=>p→φ W):=⟨fun i=>(h i).now,hh,fun w' s i=>(h i).keep w' s⟩
theorem LocR.ofOwn {α:Type} {E:El α} {U T:TypeId} (hT:U≠T) {w:World} {lo hi:Nat} {v:Value} {xs:List α} (h:Own E U w lo v xs) (hh:hi≤w.heap.size) (hv:∀ q,v.ownBlock=some q→q < hi):LocR T lo hi w (fun W=>Own E U W lo v xs):=
 ⟨h,hh,fun w' k=>h.sameV fun q hq=>by
  obtain ⟨a,ha⟩:=h.typed hq
  rw [k q _ (World.ownsRow.lt h q hq).1 (hv q hq) ha (fun a' fz e=>by simp at e;exact hT e.2.1),ha]⟩
theorem LocR.own {α:Type} {E:El α} {U T:TypeId} (hT:U≠T) {w:World} {lo:Nat} {v:Value} {xs:List α} (h:Own E U w lo v xs):LocR T lo w.heap.size w (fun W=>Own E U W lo v xs):=
 LocR.ofOwn hT h (Nat.le_refl _) fun q hq=>(World.ownsRow.lt h q hq).2
structure Dd where
 lo:Nat
 hi:Nat
 us:List Slc
section
variable {α β : Type} {E : El α} {T : TypeId} {R : Dd → Dd → Prop} {φ : Dd → World → α → β → Prop}
structure OwnFU (E:El α) (T:TypeId) (R:Dd→Dd→Prop) (φ:Dd→World→α→β→Prop) (us:List α) (ds:List Dd) (w:World) (base:Nat) (v:Value) (xs:List β):Prop where
 lu:us.length=xs.length
 ld:ds.length=xs.length
 pw:ds.Pairwise R
 own:Own E T w base v us
 rows:∀ (i:Nat) (u:α) (d:Dd) (x:β),us[i]? = some u→ds[i]? = some d→xs[i]? = some x→base≤d.lo∧LocR T d.lo d.hi w (fun W=>φ d W u x)
def OwnF (E:El α) (T:TypeId) (R:Dd→Dd→Prop) (φ:Dd→World→α→β→Prop) (w:World) (base:Nat) (v:Value) (xs:List β):Prop:=∃ us ds,OwnFU E T R φ us ds w base v xs
theorem OwnFU.below {us:List α} {ds:List Dd} {w w':World} {base:Nat} {v:Value} {xs:List β} (h:OwnFU E T R φ us ds w base v xs) (hb:Below w.heap.size w w'):OwnFU E T R φ us ds w' base v xs:=
 ⟨h.lu,h.ld,h.pw,h.own.below hb,fun i u d x h1 h2 h3=>⟨(h.rows i u d x h1 h2 h3).1,(h.rows i u d x h1 h2 h3).2.below hb⟩⟩
theorem OwnFU.mono {us:List α} {ds:List Dd} {w:World} {base base':Nat} {v:Value} {xs:List β} (h:OwnFU E T R φ us ds w base v xs) (hb:base'≤base):OwnFU E T R φ us ds w base' v xs:=
 ⟨h.lu,h.ld,h.pw,h.own.mono hb,fun i u d x h1 h2 h3=>⟨Nat.le_trans hb (h.rows i u d x h1 h2 h3).1,(h.rows i u d x h1 h2 h3).2⟩⟩
theorem OwnF.below {w w':World} {base:Nat} {v:Value} {xs:List β} (h:OwnF E T R φ w base v xs) (hb:Below w.heap.size w w'):OwnF E T R φ w' base v xs:=by
 obtain ⟨us,ds,h⟩:=h
 exact ⟨us,ds,h.below hb⟩
theorem OwnF.mono {w:World} {base base':Nat} {v:Value} {xs:List β} (h:OwnF E T R φ w base v xs) (hb:base'≤base):OwnF E T R φ w base' v xs:=by
 obtain ⟨us,ds,h⟩:=h
 exact ⟨us,ds,h.mono hb⟩
theorem OwnF.empty (T:TypeId) (w:World) {base:Nat} (hb:base≤w.heap.size):OwnF E T R φ (w.alloc (.cells #[] T)) base (.slice (some ⟨w.heap.size,0,none⟩) 0 0) []:=
 ⟨[],[],rfl,rfl, .nil,Own.empty _ _ hb,fun i u d x h=>by simp at h⟩
theorem OwnF.nil (T:TypeId) (w:World) (base:Nat):OwnF E T R φ w base (.slice none 0 0) []:=
 ⟨[],[],rfl,rfl, .nil,Own.nil _ _ _,fun i u d x h=>by simp at h⟩
theorem OwnFU.app {us:List α} {ds:List Dd} {w w':World} {base:Nat} {v v':Value} {xs:List β} (h:OwnFU E T R φ us ds w base v xs) {u:α} {d:Dd} {x:β} (ho:Own E T w' base v' (us++[u])) (hg:w.grownBy w' v.ownBlock)
 (hb:base≤d.lo) (hn:LocR T d.lo d.hi w (fun W=>φ d W u x)) (hR:∀ d'∈ds,R d' d):OwnFU E T R φ (us++[u]) (ds++[d]) w' base v' (xs++[x]):=by
 have hd:=h.ld
 refine ⟨by simp [h.lu],by simp [h.ld],List.pairwise_append.2 ⟨h.pw,by simp,fun a ha b hb=>by simp at hb;subst hb;exact hR a ha⟩,ho,fun i u' d' x' h1 h2 h3 => ?_⟩
 by_cases hlt:i < xs.length
 ·rw [List.getElem?_append_left (by rw [h.lu];exact hlt)] at h1
  rw [List.getElem?_append_left (by rw [h.ld];exact hlt)] at h2
  rw [List.getElem?_append_left hlt] at h3
  obtain ⟨r1,r2⟩:=h.rows i u' d' x' h1 h2 h3
  exact ⟨r1,r2.grown h.own hg⟩
 ·rw [List.getElem?_append_right (by rw [h.lu];omega),h.lu] at h1
  rw [List.getElem?_append_right (by rw [h.ld];omega),h.ld] at h2
  rw [List.getElem?_append_right (by omega)] at h3
  have he:i - xs.length=0:=by
   rcases Nat.eq_zero_or_pos (i - xs.length) with h | h
   ·exact h
   ·rw [List.getElem?_eq_none (by simp;omega)] at h3;cases h3
  rw [he] at h1 h2 h3
  simp at h1 h2 h3
  subst h1;subst h2;subst h3
  exact ⟨hb,hn.grown h.own hg⟩
theorem OwnFU.at {us:List α} {ds:List Dd} {w:World} {base:Nat} {a:Option Addr} {n c:Nat} {xs:List β} (h:OwnFU E T R φ us ds w base (.slice a n c) xs) {k:Nat} {x:β} (hx:xs[k]? = some x) :
 ∃ u d g,us[k]? = some u∧ds[k]? = some d∧a=some ⟨g,0,none⟩∧base≤g∧g < w.heap.size∧(∀ j y,(E.c u)[j]? = some y→w.cell? ⟨g,k * E.sz+j,none⟩=some y)∧base≤d.lo∧LocR T d.lo d.hi w (fun W=>φ d W u x):=by
 have hk:=(List.getElem?_eq_some_iff.1 hx).1
 obtain ⟨u,hu⟩:=get_of_lt (xs:=us) (k:=k) (by rw [h.lu];exact hk)
 obtain ⟨d,hd⟩:=get_of_lt (xs:=ds) (k:=k) (by rw [h.ld];exact hk)
 obtain ⟨r1,r2⟩:=h.rows k u d x hu hd hx
 rcases h.own.shape with ⟨_,hn⟩ | ⟨g,cap,hv,hg1,hg2,_⟩
 ·rw [hn] at hu;simp at hu
 ·simp only [Value.slice.injEq] at hv
  obtain ⟨rfl,rfl,rfl⟩:=hv
  exact ⟨u,d,g,hu,hd,rfl,hg1,hg2,fun j y hy=>h.own.cell hu hy,r1,r2⟩
theorem OwnF.shape {w:World} {base:Nat} {v:Value} {xs:List β} (h:OwnF E T R φ w base v xs):(v = .slice none 0 0∧xs=[])∨∃ g cap,v = .slice (some ⟨g,0,none⟩) xs.length cap∧base≤g∧g < w.heap.size:=by
 obtain ⟨us,ds,h⟩:=h
 rcases h.own.shape with ⟨h1,h2⟩ | ⟨g,cap,h1,h2,h3,_⟩
 ·refine .inl ⟨h1, ?_⟩
  have:=h.lu
  rw [h2] at this
  exact List.length_eq_zero_iff.1 this.symm
 ·exact .inr ⟨g,cap,by rw [h1,h.lu],h2,h3⟩
end
theorem Own.lit1 {α:Type} {E:El α} {T:TypeId} (w:World) {base:Nat} (hb:base≤w.heap.size) (x:α):Own E T (w.alloc (.cells (E.c x).toArray T)) base (.slice (some ⟨w.heap.size,0,none⟩) 1 1) [x]:=by
 refine ⟨by simp [E.len], .inr ⟨w.heap.size,1,(E.c x).toArray,rfl,hb,heap_alloc_new w _,Nat.le_refl _,by unfold maxLen;omega,by simp [E.len], ?_⟩⟩
 simp only [List.flatMap_cons,List.flatMap_nil,List.append_nil]
 rw [List.take_of_length_le (by simp [E.len])]
theorem run_append_zero {P:Program} {w:World} {base:Nat} {t ty e:TypeId} {i:TypeInfo} {size:Nat} (ht:P.underlying t=some (.slice e)) (hi:P.info? e=some i)
 {v:Value} {n c:Nat} {xs:List Value} (hown:w.ownsRow base e size v n xs) (ad:Addr):(Builtin.append_ #[t,t] ty #[v, .slice (some ad) 0 c]).run P w = .ok v w:=by
 rcases hown.2 with ⟨rfl,rfl⟩ | ⟨g,cap,cur,rfl,_,_,hnc,_⟩
 ·simp [Builtin.append_,run_underlying ht,sizeOf,typeInfo,hi,Builtin.lenOf,Builtin.firstCells,loadCells,loadCellsFrom]
 ·simp [Builtin.append_,run_underlying ht,sizeOf,typeInfo,hi,Builtin.lenOf,Builtin.firstCells,hnc,loadCells,loadCellsFrom,storeCells]
end Go.Proofs.YtfbgppkdnfljhaaGreatDoor
namespace Go.Proofs.YtfbgppkdnfljhaaGreatDoor
open Go.RowKit
def Rafter (a b:Dd):Prop:=a.hi≤b.lo
def PhiI (d:Dd) (W:World) (u:Slc) (x:List Int):Prop:=Own IntE 3 W d.lo u.v x∧∀ q,u.v.ownBlock=some q→q < d.hi
abbrev RowsI (w:World) (base:Nat) (v:Value) (L:List (List Int)):Prop:=OwnF SlcE 57 Rafter PhiI w base v L
theorem PhiI.loc {w:World} {lo:Nat} {u:Slc} {x:List Int} (h:Own IntE 3 w lo u.v x):LocR 57 lo w.heap.size w (fun W=>PhiI ⟨lo,w.heap.size,[]⟩ W u x):=
 (LocR.own (by decide) h).map fun _ k=>⟨k,fun q hq=>(World.ownsRow.lt h q hq).2⟩
theorem OwnFU.hi {α β:Type} {E:El α} {T:TypeId} {R:Dd→Dd→Prop} {φ:Dd→World→α→β→Prop} {us:List α} {ds:List Dd} {w:World} {base:Nat} {v:Value} {xs:List β} (h:OwnFU E T R φ us ds w base v xs):∀ d∈ds,d.hi≤w.heap.size:=by
 intro d hd
 obtain ⟨k,hk⟩:=List.mem_iff_getElem?.1 hd
 have hlt:=(List.getElem?_eq_some_iff.1 hk).1
 obtain ⟨u,hu⟩:=get_of_lt (xs:=us) (k:=k) (by rw [h.lu,← h.ld];exact hlt)
 obtain ⟨x,hx⟩:=get_of_lt (xs:=xs) (k:=k) (by rw [← h.ld];exact hlt)
 exact (h.rows k u d x hu hk hx).2.le
theorem RowsI.row {w:World} {base:Nat} {a:Option Addr} {n c:Nat} {L:List (List Int)} (h:RowsI w base (.slice a n c) L) {k:Nat} {r:List Int} (hr:L[k]? = some r) :
 ∃ (u:Slc) (g:Nat),a=some ⟨g,0,none⟩∧g < w.heap.size∧w.cell? ⟨g,k,none⟩=some (.slice u.a u.n u.cap)∧Rep IntE w u.v r:=by
 obtain ⟨us,ds,h⟩:=h
 obtain ⟨u,d,g, -, -,h1, -,h2,h3, -,h4⟩:=h.at hr
 have h5:=h3 0 _ rfl
 simp only [SlcE,Nat.mul_one,Nat.add_zero] at h5
 exact ⟨u,g,h1,h2,h5,h4.now.1.rep⟩
theorem RowsI.app {us:List Slc} {ds:List Dd} {w w1 w2:World} {base lo:Nat} {v v':Value} {L:List (List Int)} (h:OwnFU SlcE 57 Rafter PhiI us ds w base v L) (hb:Below w.heap.size w w1) (hbase:base≤w.heap.size) {r:List Int} {s:Slc} {ob:Obj}
 (hlo:lo=w.heap.size) (hu:Own IntE 3 w1 lo s.v r) (ho:Own SlcE 57 w2 base v' (us++[s])) (hg:(w1.alloc ob).grownBy w2 v.ownBlock):RowsI w2 base v' (L++[r]):=by
 subst hlo
 have hba:=(Below.refl w1.heap.size w1).alloc (Nat.le_refl _) ob
 have hd:=h.hi
 exact ⟨us++[s],ds++[⟨w.heap.size,w1.heap.size,[]⟩],OwnFU.app (d:=⟨w.heap.size,w1.heap.size,[]⟩) ((h.below hb).below hba) ho hg hbase ((PhiI.loc hu).below hba) (fun d' h'=>(hd d' h':d'.hi≤w.heap.size))⟩
end Go.Proofs.YtfbgppkdnfljhaaGreatDoor
namespace Go.Proofs.YtfbgppkdnfljhaaGreatDoor
open Go.RowKit
theorem OwnFU.grown_ne {α β γ:Type} {E:El α} {F:El γ} {T:TypeId} {R:Dd→Dd→Prop} {φ:Dd→World→α→β→Prop} {us:List α} {ds:List Dd} {w w':World} {base base':Nat} {v v':Value} {xs:List β} {ys:List γ} (h:OwnFU E T R φ us ds w base v xs)
 (ho:Own F T w base' v' ys) (hg:w.grownBy w' v'.ownBlock) (hne:v.ownBlock=none∨v.ownBlock≠v'.ownBlock):OwnFU E T R φ us ds w' base v xs:=
 ⟨h.lu,h.ld,h.pw,h.own.grown hg hne,fun i u d x h1 h2 h3=>⟨(h.rows i u d x h1 h2 h3).1,(h.rows i u d x h1 h2 h3).2.grown ho hg⟩⟩
theorem OwnF.grown_ne {α β γ:Type} {E:El α} {F:El γ} {T:TypeId} {R:Dd→Dd→Prop} {φ:Dd→World→α→β→Prop} {w w':World} {base base':Nat} {v v':Value} {xs:List β} {ys:List γ} (h:OwnF E T R φ w base v xs)
 (ho:Own F T w base' v' ys) (hg:w.grownBy w' v'.ownBlock) (hne:v.ownBlock=none∨v.ownBlock≠v'.ownBlock):OwnF E T R φ w' base v xs:=by
 obtain ⟨us,ds,h⟩:=h
 exact ⟨us,ds,h.grown_ne ho hg hne⟩
theorem Rep.dropI {w:World} {b o n c:Nat} {xs:List Int} (h:Rep IntE w (.slice (some ⟨b,o,none⟩) n c) xs) {k:Nat} (hk:k≤xs.length):Rep IntE w (.slice (some ⟨b,o+k,none⟩) (n - k) (c - k)) (xs.drop k):=by
 obtain ⟨a',c',hv,h1,h2,h3⟩:=h
 simp only [Value.slice.injEq] at hv
 obtain ⟨rfl,rfl,rfl⟩:=hv
 refine ⟨some ⟨b,o+k,none⟩,c - k,by rw [List.length_drop],by rw [List.length_drop];omega,by omega,fun i x hx => ?_⟩
 rw [List.getElem?_drop] at hx
 obtain ⟨b',o',hb,h4⟩:=h3 (k+i) x hx
 simp only [Option.some.injEq,Addr.mk.injEq,and_true] at hb
 obtain ⟨rfl,rfl⟩:=hb
 refine ⟨b,o+k,rfl,fun j u hu => ?_⟩
 have h5:=h4 j u hu
 rw [show o+k+i * IntE.sz+j=o+(k+i) * IntE.sz+j by simp only [IntE];omega]
 exact h5
theorem Rep.dropV {w:World} {b o n c:Nat} {xs:List Int} (h:Rep IntE w (.slice (some ⟨b,o,none⟩) n c) xs) {k:Nat} (hk:k≤xs.length):Rep IntE w (.slice (if c=k then some ⟨b,o,none⟩ else some ⟨b,o+k,none⟩) (n - k) (c - k)) (xs.drop k):=by
 split
 ·rename_i hc
  obtain ⟨a',c',hv,h1,h2,h3⟩:=h
  simp only [Value.slice.injEq] at hv
  obtain ⟨rfl,rfl,rfl⟩:=hv
  refine ⟨_,_,by rw [List.length_drop],by rw [List.length_drop];omega,by omega,fun i x hx => ?_⟩
  rw [List.getElem?_eq_none (by rw [List.length_drop];omega)] at hx
  cases hx
 ·exact h.dropI hk
def permTo (xs:List Int) (k:Nat):List (List Int):=(List.range k).flatMap fun i=>(permsL (xs.eraseIdx i)).map (xs.getD i 0 :: ·)
theorem permTo_succ (xs:List Int) (k:Nat):permTo xs (k+1)=permTo xs k++(permsL (xs.eraseIdx k)).map (xs.getD k 0 :: ·):=by
 unfold permTo
 rw [List.range_succ,List.flatMap_append]
 simp
theorem permTo_length (xs:List Int) (k:Nat) (hk:k≤xs.length):(permTo xs k).length≤fact xs.length:=by
 have h:=permsL_length xs
 by_cases h0:xs.length=0
 ·have:k=0:=by omega
  subst this
  simp [permTo]
 ·have h1:=flatMap_length_le (fun i=>(permsL (xs.eraseIdx i)).map (xs.getD i 0 :: ·)) (fact (xs.length - 1)) (List.range k) (fun i hi=>by
   rw [List.mem_range] at hi
   rw [List.length_map]
   refine Nat.le_trans (permsL_length _) ?_
   rw [List.length_eraseIdx,if_pos (by omega)]
   exact Nat.le_refl _)
  rw [List.length_range] at h1
  obtain ⟨m,hm⟩:∃ m,xs.length=m+1:=⟨xs.length - 1,by omega⟩
  rw [hm] at h1 ⊢
  rw [fact,Nat.mul_comm]
  exact Nat.le_trans h1 (Nat.mul_le_mul_right _ (by omega))
theorem permsL_row:∀ (n:Nat) (xs:List Int),xs.length=n→∀ r∈permsL xs,r.length=n:=by
 intro n
 induction n with
 | zero =>
  intro xs hx r hr
  have:xs=[]:=List.length_eq_zero_iff.1 hx
  subst this
  rw [permsL_nil] at hr;simp at hr;subst hr;rfl
 | succ n ih =>
  intro xs hx r hr
  rw [permsL_step (by omega),List.mem_flatMap] at hr
  obtain ⟨k,hk1,hk⟩:=hr
  rw [List.mem_range] at hk1
  rw [List.mem_map] at hk
  obtain ⟨y,hy,rfl⟩:=hk
  rw [List.length_cons,ih _ (by rw [List.length_eraseIdx,if_pos hk1,hx];rfl) y hy]
theorem fact_mono {m n:Nat} (h:m≤n):fact m≤fact n:=by
 obtain ⟨k,h1,h2⟩:=fact_mul h
 rw [h2];exact Nat.le_mul_of_pos_right _ h1
theorem fact_lt {n:Nat} (h:fact n≤3000):n≤6:=by
 rcases Nat.lt_or_ge 6 n with h1 | h1
 ·have:=fact_mono h1
  have e:fact (Nat.succ 6)=5040:=by decide
  omega
 ·exact h1
end Go.Proofs.YtfbgppkdnfljhaaGreatDoor