/-
  A state with store buffers after a thread's move. Condition: a state as it can be, a valid instruction.
-/
import Derived.Test.YtlddmagfbcomgaaGreatZq13
import Derived.RangeFuncNested
import Derived.RangeFuncBound
import Derived.RangeFuncCalls
import Derived.RangeFuncLeaves
import Derived.Shelf.Abstract
import Derived.Shelf.RegionOpen
import Derived.OwnWalkIn
import Derived.TacticsInMore
import Derived.LoopNIn
import Derived.LoopIn
import Derived.Deep.MidRow
import Derived.Deep.WholeRow
import Derived.Test.YtlddmagfbcomgaaGreatZq04
import Derived.Deep.Cut
set_option maxHeartbeats 6400000
set_option maxRecDepth 100000
namespace Go.Proofs.YtlddmagfbcomgaaGreat
open Go.RowKit
def rowsB (ls:List (List Int)):List Int:=ls.flatMap fun r=>(r.length:Int) :: r
def bufB (s:Bf):List Int:=sqB s.q++rowsB (s.bf.map encR2)
theorem rowsB_snoc (ls:List (List Int)) (r:List Int):rowsB (ls++[r])=rowsB ls++[(r.length:Int)]++r:=by simp [rowsB]
theorem rowsB_le {ls:List (List Int)} {m:Nat} (h:∀ r∈ls,r.length≤m):(rowsB ls).length≤ls.length * (m+1):=by
 induction ls with
 | nil=>simp [rowsB]
 | cons r ls ih =>
  have h1:=ih fun x hx=>h x (by simp [hx])
  have h2:=h r (by simp)
  simp only [rowsB,List.flatMap_cons,List.length_append,List.length_cons,Nat.add_mul,Nat.one_mul] at h1 ⊢
  omega
theorem one_rep {w:World} {g:Nat} {x:Int} {T:TypeId} (h:w.heap[g]? = some (.cells #[.int .u8 x] T (0,0))):Rep ByteE w (.slice (some ⟨g,0,none⟩) 1 1) [x]:=by
 refine ⟨some ⟨g,0,none⟩,1,rfl,by simp,by unfold maxLen;omega,fun i y hy=>⟨g,0,rfl,fun j u hu => ?_⟩⟩
 have hi:i=0:=by have:=(List.getElem?_eq_some_iff.1 hy).1;simpa using this
 have hj:j=0:=by have:=(List.getElem?_eq_some_iff.1 hu).1;simpa [ByteE] using this
 subst hi;subst hj
 simp at hy
 subst hy
 simp [ByteE] at hu
 subst hu
 exact cellH h (k:=0) rfl
theorem bufKey_any (b:Nat) (vp:Value) (split:Bool) (wv:Slc) (p:List (List Ins)) (s:Bf) (w:World) (hx:BufB w b vp split wv s) (hw:BufW w wv s) (hok:BfOk p split s) (hpl:p.length≤3) (hpr:∀ r∈p,r.length≤7) (hr:∀ r∈s.bf,r.length≤100) :
 Calls Tryz.prog 252 #[.pointer (some ⟨b,0,none⟩)] w fun e w'=>e = .returned (.string (strOfNums (bufB s)))∧Below w.heap.size w w':=by
 obtain ⟨wa,wn,wk⟩:=wv
 have H1:=hide (text_any b vp s.q w (ValAt.ofMore hx))
 have HBY:=hide (sqB_bytes hok.q hpr)
 have bl:=hx.lt
 have h17:=hx.waits
 have HW:Hid (Rep2 ByteE w (.slice wa wn wk) (s.bf.map encR2)):=hide hw
 obtain ⟨_,_,hv, -,hcn, -, -⟩:=hw.open
 simp only [Slc.v,Value.slice.injEq] at hv
 obtain ⟨rfl,hwn,rfl⟩:=hv
 have hwn9:wn≤9:=by
  rw [hwn,List.length_map,hok.lb]
  have:bfN split≤3:=by cases split <;> simp [bfN]
  have:=Nat.mul_le_mul hpl this
  omega
 have HRL:=hide (fun (r:List Int) (h:r∈s.bf.map encR2)=>(by
  obtain ⟨r',h1,rfl⟩:=List.mem_map.1 h
  rw [List.length_map]
  exact hr r' h1:r.length≤100))
 have HWN:=hide hwn
 have HK:Hid (bufB s=sqB s.q++rowsB (s.bf.map encR2)):=hide rfl
 have hl15:(sqB s.q).length=15:=rfl
 clear hx hw hok hr hwn hcn
 generalize bufB s=KK at *
 generalize hL:sqB s.q=L at *
 generalize s.bf.map encR2=RR at *
 clear hL
 have hcv:=fun (w':World)=>Lib.run_convert_string_bytes (P:=Tryz.prog) w' 9 22 5 (strOfNums L) Tryz.underlying9 Tryz.underlying22 Tryz.underlying5
 go_enter Tryz.func252,Tryz.ntmps252
 go_wp2_with fail
 (with_reducible refine H1.out.mono ?_);rintro e w1 ⟨rfl,hb1⟩
 have hE:=hide (bytes_own w1 HBY.out (by omega))
 have hBB:=bytes_below w1 5 (strOfNums L)
 have B2:=hide (hb1.trans (hBB.mono hb1.size))
 have g17:=(B2.out.cell (p:=⟨b,17,none⟩) bl).trans h17
 have gl:=lt_of_cell g17
 have hs1:=hb1.size
 clear hBB hb1
 go_wp2_with fail
 obtain ⟨V,hV⟩:∃ V,V=Lib.bytesWorld w1 5 (strOfNums L):=⟨_,rfl⟩
 rw [← hV] at hE B2 ⊢
 have E0:Hid (OwnBy V w.heap.size _ (L++rowsB (RR.take 0))):=hide (by
  obtain ⟨g,cap,cur,fz,h1,h2,h3⟩:=hE.out
  rw [List.take_zero,show rowsB []=[] from rfl,List.append_nil]
  exact ⟨g,cap,cur,fz,h1,Nat.le_trans hs1 h2,h3⟩)
 clear hV g17 gl hE hs1 hcv H1
 go_loopw [3,16] (fun v i wr => ∃ k:Nat,k≤wn∧i = .int .i64 k∧OwnBy wr w.heap.size v (L++rowsB (RR.take k))∧Below w.heap.size w wr) (fun _ i _=>wn - (intOf i).toNat)
 case atStart=>exact ⟨0,Nat.zero_le _,rfl,E0.out,B2.out⟩
 case round =>
  obtain ⟨k,hk,rfl,ho,hb⟩:=hrel
  have HO:=hide ho;have HB:=hide hb
  have hbs:=hb.size
  by_cases hlt:k < wn
  ·have hlt':=nat_of_lt hlt
   obtain ⟨row,hrow⟩:=get_of_lt (xs:=RR) (k:=k) (by rw [← HWN.out];exact hlt)
   obtain ⟨b2,o2,ra,rc,rfl,hbl2,q0,q1⟩:=Rep2.row HW.out hrow
   have q2:=(hb.cell (p:=⟨b2,o2+k,none⟩) hbl2).trans q0
   have ql:=lt_of_cell q2
   clear q0
   have hr100:=HRL.out row (List.mem_of_getElem? hrow)
   have TK:Hid (L++rowsB (RR.take (k+1))=(L++rowsB (RR.take k))++[(row.length:Int)]++row):=hide (by
    rw [List.take_add_one,hrow]
    show L++rowsB (RR.take k++[row])=_
    rw [rowsB_snoc]
    simp only [List.append_assoc])
   have hPL:(L++rowsB (RR.take k)).length≤2000:=by
    have h1:=rowsB_le (ls:=RR.take k) (m:=100) fun r hr=>HRL.out r (List.mem_of_mem_take hr)
    have h2:(RR.take k).length≤9:=by rw [List.length_take];omega
    have h3:=Nat.mul_le_mul_right (100+1) h2
    rw [List.length_append,hl15]
    omega
   have Q1:=hide q1
   have hwu:IntKind.u8.wrap (row.length:Int)=(row.length:Int):=by rw [IntKind.wrap_u8];omega
   clear ho hb hrow q1
   generalize L++rowsB (RR.take k)=PP at *
   go_wp2_with (first
    | (at_builtin;refine wpList_appE w.heap.size _ _ PP [(row.length:Int)] (HO.out.alloc _) (one_rep (heap_alloc_new wr _)) (by simp;omega) (by simp;omega) rfl _ _ rfl rfl rfl ?_;intro v5 w5 hown5 hgr5;have O5:=hide hown5;have B5:=hide ((HB.out.alloc HB.out.size (.cells #[.int .u8 (row.length:Int)] 5)).grown hgr5 (by simp;omega) (fun q hq=>(HO.out.lt q hq).1));have hs5:=B5.out.size;clear hown5 hgr5)
    | (at_builtin;refine wpList_appE w.heap.size _ _ (PP++[(row.length:Int)]) row O5.out (Q1.out.below B5.out) (by simp;omega) hs5 rfl _ _ rfl rfl rfl ?_;intro v6 w6 hown6 hgr6;have O6:=hide hown6;have B6:=hide (B5.out.grown hgr6 hs5 (fun q hq=>(O5.out.lt q hq).1));clear hown6 hgr6))
   go_roundw
   case rel=>exact ⟨k+1,by omega,by go_num,by rw [TK.out];exact O6.out,B6.out⟩
   case measure=>simp [intOf];omega
  ·obtain rfl:k=wn:=by omega
   have E:Hid (KK=L++rowsB (RR.take k)):=hide (by rw [HK.out,List.take_of_length_le (by rw [← HWN.out];exact Nat.le_refl _)])
   have kc:=conv_ownE ho
   rw [← E.out] at kc
   clear ho
   go_wp2_with fail
   go_ret
   exact ⟨rfl,HB.out⟩
end Go.Proofs.YtlddmagfbcomgaaGreat
namespace Go.Proofs.YtlddmagfbcomgaaGreat
open Go.RowKit
theorem bfNext_can {p:List (List Ins)} {split:Bool} {s:Bf} {t:Nat} (ht:t < p.length):(bfNext p split s t).isSome=bfCan p split s t:=by
 unfold bfNext bfCan sqIns
 rw [if_pos ht]
 cases hr:p[t]? with
 | none=>simp
 | some r =>
  cases hk:s.q.pc[t]? with
  | none=>simp
  | some k =>
   cases hx:r[k.toNat]? with
   | none=>simp [hx]
   | some x =>
    simp only [Option.bind_some,hx]
    unfold bfDo
    by_cases h45:x.op=4∨x.op=5
    ·rw [if_pos h45,if_pos h45]
     cases he:bfEmpty s t split <;> simp
    ·rw [if_neg h45,if_neg h45]
     split <;> simp
theorem bfNext_has {p:List (List Ins)} {split:Bool} {s:Bf} {k:Nat}:(bfNext p split s (p.length+k)).isSome=bfHas s k:=by
 unfold bfNext bfHas
 rw [if_neg (by omega),Nat.add_sub_cancel_left,List.getD_eq_getElem?_getD]
 cases hk:s.bf[k]? with
 | none=>simp
 | some row =>
  cases row with
  | nil=>simp
  | cons e r=>obtain ⟨l,v⟩:=e;simp
theorem mem_bfMv {p:List (List Ins)} {split:Bool} {s:Bf} (m:Nat):m∈bfMv p split s↔(bfNext p split s m).isSome:=by
 unfold bfMv
 rw [List.mem_append,List.mem_filter,List.mem_map]
 constructor
 ·rintro (⟨h1,h2⟩ | ⟨k,h1,rfl⟩)
  ·rw [bfNext_can (List.mem_range.1 h1)];exact h2
  ·rw [bfNext_has];exact (List.mem_filter.1 h1).2
 ·intro h
  by_cases hm:m < p.length
  ·rw [bfNext_can hm] at h
   exact .inl ⟨List.mem_range.2 hm,h⟩
  ·obtain ⟨k,rfl⟩:∃ k,m=p.length+k:=⟨m - p.length,by omega⟩
   rw [bfNext_has] at h
   refine .inr ⟨k,List.mem_filter.2 ⟨List.mem_range.2 ?_,h⟩,rfl⟩
   unfold bfHas at h
   rw [List.getD_eq_getElem?_getD] at h
   cases hk:s.bf[k]? with
   | none=>rw [hk] at h;simp at h
   | some row=>exact (List.getElem?_eq_some_iff.1 hk).1
def bfAf (p:List (List Ins)) (split:Bool) (s:Bf) (m:Nat):Bf:=(bfNext p split s m).getD s
theorem bfAf_next {p:List (List Ins)} {split:Bool} {s s':Bf} {m:Nat} (h:bfNext p split s m=some s'):bfAf p split s m=s':=by unfold bfAf;rw [h];rfl
theorem BfOk.reach' {p:List (List Ins)} {split:Bool} (hp:∀ r∈p,∀ x∈r,insValid x=true) {s:Bf} (h:ReachM (bfStart p split) (bfNext p split) s):BfOk p split s∧bfLeft p s≤bfLeft p (bfStart p split):=by
 induction h with
 | start=>exact ⟨BfOk.start p split,Nat.le_refl _⟩
 | step _ ht ih=>exact ⟨ih.1.next hp ht,Nat.le_trans (Nat.le_of_lt (bfLeft_next ih.1 ht)) ih.2⟩
theorem len_le_sum:∀ {l:List (List (Int × Int))} {r:List (Int × Int)},r∈l→r.length≤(l.map List.length).sum
 | [],_,h=>by simp at h
 | x :: l,r,h=>by
  rcases List.mem_cons.1 h with e | e
  ·subst e;simp
  ·have:=len_le_sum e;simp;omega
theorem bfLeft_start {p:List (List Ins)} {split:Bool} (hv:progValid p=true):bfLeft p (bfStart p split)≤42:=by
 unfold bfLeft
 have h1:=sqLeft_le hv (bfStart p split).q
 have h2:(((bfStart p split).bf).map List.length).sum=0:=by
  simp [bfStart]
 omega
theorem bf_rows {p:List (List Ins)} {split:Bool} (hv:progValid p=true) {s:Bf} (h:ReachM (bfStart p split) (bfNext p split) s):∀ r∈s.bf,r.length≤42:=fun r hr=>by
 have h1:=(BfOk.reach' (valid_ins hv) h).2
 have h2:=bfLeft_start (split:=split) hv
 have h3:=len_le_sum hr
 unfold bfLeft at h1 h2
 omega
theorem rowsB_inj:∀ {ls ls':List (List Int)},ls.length=ls'.length→rowsB ls=rowsB ls'→ls=ls'
 | [],[],_,_=>rfl
 | [],_ :: _,h,_=>by simp at h
 | _ :: _,[],h,_=>by simp at h
 | r :: ls,r' :: ls',h,e=>by
  simp only [rowsB,List.flatMap_cons,List.cons_append,List.cons.injEq] at e
  have h1:r.length=r'.length:=by omega
  have h2:=List.append_inj e.2 h1
  rw [h2.1,rowsB_inj (by simpa using h) h2.2]
theorem encR2_inj:∀ {r r':List (Int × Int)},(∀ e∈r,entOk e)→(∀ e∈r',entOk e)→encR2 r=encR2 r'→r=r'
 | [],[],_,_,_=>rfl
 | [],_ :: _,_,_,h=>by simp at h
 | _ :: _,[],_,_,h=>by simp at h
 | x :: r,y :: r',h1,h2,h=>by
  simp only [encR2,List.map_cons,List.cons.injEq] at h
  have a:=h1 x (by simp)
  have b:=h2 y (by simp)
  unfold entOk at a b
  have e:x=y:=by
   obtain ⟨x1,x2⟩:=x
   obtain ⟨y1,y2⟩:=y
   simp only at a b h
   simp only [Prod.mk.injEq]
   omega
  rw [e,encR2_inj (fun z hz=>h1 z (by simp [hz])) (fun z hz=>h2 z (by simp [hz])) h.2]
theorem bufB_inj {p:List (List Ins)} {split:Bool} {s s':Bf} (h:BfOk p split s) (h':BfOk p split s') (hp:p.length≤3) (e:bufB s=bufB s'):s=s':=by
 have h1:=List.append_inj e (by rfl)
 have h2:=sqB_inj h.q h'.q hp h1.1
 have h3:=rowsB_inj (by rw [List.length_map,List.length_map,h.lb,h'.lb]) h1.2
 have h4:s.bf=s'.bf:=by
  apply List.ext_getElem (by rw [h.lb,h'.lb])
  intro i hi hi'
  have h5:=congrArg (fun t:List (List Int)=>t[i]?) h3
  simp only [List.getElem?_map,List.getElem?_eq_getElem hi,List.getElem?_eq_getElem hi',Option.map_some,Option.some.injEq] at h5
  exact encR2_inj (h.en _ (List.getElem_mem hi)) (h'.en _ (List.getElem_mem hi')) h5
 cases s;cases s';simp only [Bf.mk.injEq];exact ⟨h2,h4⟩
theorem bufB_bytes {p:List (List Ins)} {split:Bool} {s:Bf} (h:BfOk p split s) (hpr:∀ r∈p,r.length≤7) (hr:∀ r∈s.bf,r.length≤42):∀ x∈bufB s,0≤x∧x≤255:=by
 intro x hx
 rcases List.mem_append.1 hx with hx | hx
 ·exact sqB_bytes h.q hpr x hx
 ·unfold rowsB at hx
  obtain ⟨row,h1,h2⟩:=List.mem_flatMap.1 hx
  obtain ⟨r,h3,rfl⟩:=List.mem_map.1 h1
  rcases List.mem_cons.1 h2 with e | e
  ·have:=hr r h3
   rw [e,List.length_map];omega
  ·obtain ⟨en,h4,rfl⟩:=List.mem_map.1 e
   have:=h.en r h3 en h4
   unfold entOk at this
   omega
theorem bf_done_pc {p:List (List Ins)} {split:Bool} {a b:Bf} (ha:BfOk p split a) (hb:BfOk p split b) (da:bfDone p a=true) (db:bfDone p b=true) (e:bfOut a=bfOut b):a=b:=by
 unfold bfDone at da db
 rw [Bool.and_eq_true] at da db
 have h1:=sq_done_pc ha.q hb.q da.2 db.2 e
 have h2:a.bf=b.bf:=by
  apply List.ext_getElem (by rw [ha.lb,hb.lb])
  intro i hi hi'
  have h3:=List.all_eq_true.1 da.1 _ (List.getElem_mem hi)
  have h4:=List.all_eq_true.1 db.1 _ (List.getElem_mem hi')
  rw [List.isEmpty_iff] at h3 h4
  rw [h3,h4]
 cases a;cases b;simp only [Bf.mk.injEq];exact ⟨h1,h2⟩
end Go.Proofs.YtlddmagfbcomgaaGreat
namespace Go.Proofs.YtlddmagfbcomgaaGreat
open Go.RowKit
theorem Tryz.infoByS:(Tryz.prog.info? 22).map (fun i=>(i.zero,i.size,i.bytes))=some (some (.slice none 0 0),1,24):=by kernel_rfl
theorem cloneB_any (v:Value) (xs:List Int) (w:World) (hx:Rep ByteE w v xs) (hn:xs.length≤1000000):Calls Tryz.prog 257 #[v] w (RetOwn ByteE 5 w xs):=by
 obtain ⟨a,c,rfl,hc1,hc2,hc3,hx⟩:=hx.open
 have HX:=hide hx
 have HBE:=hide ((Below.refl w.heap.size w).alloc (Nat.le_refl _) (.cells #[] 5))
 have HE:=hide (Own.empty (E:=ByteE) 5 w (Nat.le_refl _))
 clear hx hc1 hc3
 generalize hn1:xs.length=n1 at *
 have HN1:=hide hn1
 clear hn1
 cases a with
 | none =>
  have hE:=fun w':World=>Lib.run_eql_slice_nil (P:=Tryz.prog) w' 22 5 none n1 c 0 0 Tryz.underlying22
  have hxs:xs=[]:=by
   cases xs with
   | nil=>rfl
   | cons x xs=>obtain ⟨_,_,hv,_,_,hk⟩:=HX.out;obtain ⟨b,o,h,_⟩:=hk 0 x rfl;subst h;simp at hv
  subst hxs
  go_enter Tryz.func257,Tryz.ntmps257
  go_wp2_with fail
  go_ret
  exact ⟨_,rfl,Own.nil _ _ _,Below.refl _ _⟩
 | some ad =>
  have hE:=fun w':World=>Lib.run_eql_slice_nil (P:=Tryz.prog) w' 22 5 (some ad) n1 c 0 0 Tryz.underlying22
  go_enter Tryz.func257,Tryz.ntmps257
  go_wp2_with (at_builtin;refine wpList_appS ByteE 5 Tryz.infoU8I rfl Tryz.underlying22 w.heap.size _ [] xs _ HE.out (HX.out.below HBE.out) (by decide) (by rw [HN1.out];simp;omega) (by simp) rfl _ _ rfl rfl rfl ?_;intro v1 w1 hown1 hgr1;have O1:=hide hown1;have B1:=hide (HBE.out.grown hgr1 (by simp) (fun q hq=>by simp [Value.ownBlock] at hq;omega));clear hown1 hgr1)
  go_ret
  exact ⟨_,rfl,by simpa using O1.out,B1.out⟩
theorem cloneBB_any (v:Value) (us:List Slc) (w:World) (hx:Rep SlcE w v us) (hn:us.length≤1000000):Calls Tryz.prog 254 #[v] w (RetOwn SlcE 22 w us):=by
 obtain ⟨a,c,rfl,hc1,hc2,hc3,hx⟩:=hx.open
 have HX:=hide hx
 have HBE:=hide ((Below.refl w.heap.size w).alloc (Nat.le_refl _) (.cells #[] 22))
 have HE:=hide (Own.empty (E:=SlcE) 22 w (Nat.le_refl _))
 clear hx hc1 hc3
 generalize hn1:us.length=n1 at *
 have HN1:=hide hn1
 clear hn1
 cases a with
 | none =>
  have hE:=fun w':World=>Lib.run_eql_slice_nil (P:=Tryz.prog) w' 165 22 none n1 c 0 0 Tryz.underlying165
  have hxs:us=[]:=by
   cases us with
   | nil=>rfl
   | cons x xs=>obtain ⟨b,o,h,_⟩:=HX.out.slc (k:=0) rfl;cases h
  subst hxs
  go_enter Tryz.func254,Tryz.ntmps254
  go_wp2_with fail
  go_ret
  exact ⟨_,rfl,Own.nil _ _ _,Below.refl _ _⟩
 | some ad =>
  have hE:=fun w':World=>Lib.run_eql_slice_nil (P:=Tryz.prog) w' 165 22 (some ad) n1 c 0 0 Tryz.underlying165
  go_enter Tryz.func254,Tryz.ntmps254
  go_wp2_with (at_builtin;refine wpList_appS SlcE 22 Tryz.infoByS rfl Tryz.underlying165 w.heap.size _ [] us _ HE.out (HX.out.below HBE.out) (by decide) (by rw [HN1.out];simp;omega) (by simp) rfl _ _ rfl rfl rfl ?_;intro v1 w1 hown1 hgr1;have O1:=hide hown1;have B1:=hide (HBE.out.grown hgr1 (by simp) (fun q hq=>by simp [Value.ownBlock] at hq;omega));clear hown1 hgr1)
  go_ret
  exact ⟨_,rfl,by simpa using O1.out,B1.out⟩
end Go.Proofs.YtlddmagfbcomgaaGreat
namespace Go.Proofs.YtlddmagfbcomgaaGreat
open Go.RowKit
theorem newBuffers_any (va:Option Addr) (vc:Nat) (split:Bool) (p:List (List Ins)) (w:World) (hpl:p.length≤3) :
 Calls Tryz.prog 112 #[.slice va p.length vc, .bool split] w fun e w' => ∃ b wv,e = .returned (mcV 164 b)∧BufB w' b (.slice va p.length vc) split wv (bfStart p split)∧Own SlcE 22 w' w.heap.size wv.v (List.replicate (p.length * bfN split) ⟨none,0,0⟩)∧Below w.heap.size w w':=by
 have HC:=hide (sqStart_cells (.slice va p.length vc) (p:=p))
 generalize hn:p.length=n at *
 have HN:=hide hn
 clear hn
 cases split
 ·go_enter Tryz.func112,Tryz.ntmps112
  go_wp2_with (at_make;refine wpList_make SlcE 22 ⟨none,0,0⟩ Tryz.infoByS rfl Tryz.underlying165 n (by decide) (by omega) rfl _ _ rfl rfl rfl ?_;intro w1 hown1 hgr1)
  have O1:=hide (hown1.alloc (.cells #[.slice va n vc, .int .u8 0, .int .u8 0, .int .u8 0, .int .u8 0, .int .u8 0, .int .u8 0, .int .u8 0, .int .u8 0, .int .u8 0, .int .u8 0, .int .u8 0, .int .u8 0, .int .u8 0, .int .u8 0, .int .u8 0, .bool false, .slice (some ⟨w.heap.size,0,none⟩) n n] 167))
  have B1:=hide (((Below.refl w.heap.size w).grown hgr1 (Nat.le_refl _) (fun q hq=>nomatch hq)).alloc (by have:=hgr1.size;omega) (.cells #[.slice va n vc, .int .u8 0, .int .u8 0, .int .u8 0, .int .u8 0, .int .u8 0, .int .u8 0, .int .u8 0, .int .u8 0, .int .u8 0, .int .u8 0, .int .u8 0, .int .u8 0, .int .u8 0, .int .u8 0, .int .u8 0, .bool false, .slice (some ⟨w.heap.size,0,none⟩) n n] 167))
  clear hown1 hgr1
  go_ret
  refine ⟨_,⟨some ⟨w.heap.size,0,none⟩,n,n⟩,rfl, ?_, ?_,B1.out⟩
  ·show _=some (Obj.cells (valsA _ (sqStart p)++_) _ _)
   rw [HC.out]
   exact heap_alloc_new w1 _
  ·rw [show n * bfN false=n by simp [bfN]];exact O1.out
 ·go_enter Tryz.func112,Tryz.ntmps112
  go_wp2_with (first
   | (at_make;refine wpList_make SlcE 22 ⟨none,0,0⟩ Tryz.infoByS rfl Tryz.underlying165 n (by decide) (by omega) rfl _ _ rfl rfl rfl ?_;intro w1 hown1 hgr1;have B1:=hide (((Below.refl w.heap.size w).grown hgr1 (Nat.le_refl _) (fun q hq=>nomatch hq)).alloc (by have:=hgr1.size;omega) (.cells #[.slice va n vc, .int .u8 0, .int .u8 0, .int .u8 0, .int .u8 0, .int .u8 0, .int .u8 0, .int .u8 0, .int .u8 0, .int .u8 0, .int .u8 0, .int .u8 0, .int .u8 0, .int .u8 0, .int .u8 0, .int .u8 0, .bool true, .slice (some ⟨w.heap.size,0,none⟩) n n] 167));have C1:=hide (heap_alloc_new w1 (.cells #[.slice va n vc, .int .u8 0, .int .u8 0, .int .u8 0, .int .u8 0, .int .u8 0, .int .u8 0, .int .u8 0, .int .u8 0, .int .u8 0, .int .u8 0, .int .u8 0, .int .u8 0, .int .u8 0, .int .u8 0, .int .u8 0, .bool true, .slice (some ⟨w.heap.size,0,none⟩) n n] 167));have bw1:=hgr1.size;have c17:(w1.alloc (.cells #[.slice va n vc, .int .u8 0, .int .u8 0, .int .u8 0, .int .u8 0, .int .u8 0, .int .u8 0, .int .u8 0, .int .u8 0, .int .u8 0, .int .u8 0, .int .u8 0, .int .u8 0, .int .u8 0, .int .u8 0, .int .u8 0, .bool true, .slice (some ⟨w.heap.size,0,none⟩) n n] 167)).cell? ⟨w1.heap.size,17,none⟩=some (.slice (some ⟨w.heap.size,0,none⟩) n n):=cellH (heap_alloc_new w1 _) (k:=17) rfl;clear hown1 hgr1)
   | (at_make;refine wpList_make SlcE 22 ⟨none,0,0⟩ Tryz.infoByS rfl Tryz.underlying165 (n * 3) (by decide) (by omega) rfl _ _ rfl (by show Value.int .i64 (3 * (n:Int))=_;congr 1;omega) (by show Value.int .i64 (3 * (n:Int))=_;congr 1;omega) ?_;intro w2 hown2 hgr2;have C2:=hide ((hgr2.block w1.heap.size (by simp) (by simp)).trans C1.out);have f17:w2.cell? ⟨w1.heap.size,17,none⟩=some (.slice (some ⟨w.heap.size,0,none⟩) n n):=cellH C2.out (k:=17) rfl;have ffz:=frozH C2.out;have fl:=lt_of_cell f17;have O2:=hide hown2;have B2:=hide (B1.out.grown hgr2 B1.out.size (fun q hq=>nomatch hq));clear hown2 hgr2))
  have h3:=heap_setCell_same w2 w1.heap.size 17 _ _ (.slice (some ⟨w1.heap.size+1,0,none⟩) (n * 3) (n * 3)) C2.out
  have H3:=hide h3
  have O3:=hide (((O2.out.mono (show w.heap.size≤_ by simp;omega)).setOther (T:=167) (j:=17) (u:=.slice (some ⟨w1.heap.size+1,0,none⟩) (n * 3) (n * 3)) (by decide) C2.out))
  have B3:=hide (B2.out.setCell (p:=⟨w1.heap.size,17,none⟩) bw1 (.slice (some ⟨w1.heap.size+1,0,none⟩) (n * 3) (n * 3)))
  clear h3
  go_ret
  refine ⟨_,⟨some ⟨w1.heap.size+1,0,none⟩,n * 3,n * 3⟩,rfl, ?_, ?_,B3.out⟩
  ·show _=some (Obj.cells (valsA _ (sqStart p)++_) _ _)
   rw [HC.out]
   exact H3.out
  ·rw [show n * bfN true=n * 3 by simp [bfN]]
   have:=O3.out
   simpa using this
end Go.Proofs.YtlddmagfbcomgaaGreat
namespace Go.Proofs.YtlddmagfbcomgaaGreat
open Go.RowKit Go.Shelf
attribute [local go_sem] Oper.semAt_some
structure KeepB2 (x y:Nat) (W W':World):Prop where
 one:W'.heap[x]? = W.heap[x]?
 two:W'.heap[y]? = W.heap[y]?
 size:W.heap.size≤W'.heap.size
theorem KeepB2.refl (x y:Nat) (W:World):KeepB2 x y W W:=⟨rfl,rfl,Nat.le_refl _⟩
theorem KeepB2.trans {x y:Nat} {A B C:World} (h:KeepB2 x y A B) (k:KeepB2 x y B C):KeepB2 x y A C:=⟨k.one.trans h.one,k.two.trans h.two,Nat.le_trans h.size k.size⟩
theorem keepB2_b {x y:Nat} {w:World} (hx:x < w.heap.size) (hy:y < w.heap.size) (W:World) (l:Nat) (o o':Obj) (hl:w.heap.size≤l) (h:W.heap[l]? = some o) (_:o.isCells=false) (_:o.isWalk=false):KeepB2 x y W (W.putObj l o'):=by
 have hg:=grownBy_putObj' W l o'
 have hlt:=(Array.getElem?_eq_some_iff.1 h).1
 exact ⟨hg.block x (by omega) (by simp;omega),hg.block y (by omega) (by simp;omega),hg.size⟩
theorem cell_of_blkB {w w':World} {b:Nat} (h:w'.heap[b]? = w.heap[b]?) {o:Nat} {v:Value} (hc:w.cell? ⟨b,o,none⟩=some v):w'.cell? ⟨b,o,none⟩=some v:=by
 rw [← hc];unfold World.cell?;rw [h]
theorem back_takeB {α:Type} (zs:List α) {k m:Nat} {z:α} (hz:zs[m]? = some z) (hk:k+(m+1)=zs.length):zs.zipIdx.reverse.take (k+1)=zs.zipIdx.reverse.take k++[(z,m)]:=by
 rw [List.take_add_one]
 congr 1
 have hml:=(List.getElem?_eq_some_iff.1 hz).1
 rw [List.getElem?_reverse (by rw [List.length_zipIdx];omega),List.length_zipIdx,show zs.length - 1 - k=m by omega,List.getElem?_zipIdx,hz]
 simp
theorem backB_in {Pr : Int → Prop} (n : Nat) (hn : 1 ≤ n) (l Bs b off cap : Nat) (zs : List {g : Int // Pr g}) (J Jx : List ({g : Int // Pr g} × Nat) → World → Prop)
    (hY : ∀ pre x W, J pre W → pre.length < zs.length → YieldAt Fence.wide (n - 1) Tryz.prog l #[.int .i64 (x.2 : Int), u8V x.1.1] W fun e W' =>
      (e = .returned (.bool true) ∧ J (pre ++ [x]) W' ∧ KeepB2 Bs b W W') ∨ (e = .returned (.bool false) ∧ Jx (pre ++ [x]) W'))
    (W : World) (hBs : W.cell? ⟨Bs, 0, none⟩ = some (.slice (some ⟨b, off, none⟩) zs.length cap))
    (hc : ∀ (j : Nat) z, zs[j]? = some z → W.cell? ⟨b, off + j, none⟩ = some (.int .u8 z.1)) (h0 : J [] W) (hl : zs.length ≤ 1048576) :
    CallsIn Fence.wide n Tryz.prog 263 #[.func (.yield l) #[] #[], .pointer (some ⟨Bs, 0, none⟩)] W fun e W' => (∃ v, e = .returned v) ∧
      ((∃ ys, ys = zs.zipIdx.reverse ∧ J ys W') ∨ (∃ k, Jx (zs.zipIdx.reverse.take k) W')) := by
  refine callsIn_of_wp Tryz.func263 rfl trivial ?_ rfl
  simp only [Tryz.ntmps263, List.size_toArray, List.length_cons, List.length_nil, Nat.reduceAdd, Nat.reduceSub, Array.replicate_succ, Array.replicate_zero, List.push_toArray, List.append_toArray, List.nil_append, List.cons_append]
  have BT := hide (fun (k m : Nat) z h1 h2 => back_takeB zs (k := k) (m := m) (z := z) h1 h2)
  have BA : Hid (zs.zipIdx.reverse.take zs.length = zs.zipIdx.reverse) := hide (List.take_of_length_le (by simp))
  have BL : Hid (∀ k, k ≤ zs.length → (zs.zipIdx.reverse.take k).length = k) := hide (fun k hk => by simp; omega)
  generalize hlen : zs.length = len at *
  have HLEN := hide hlen
  clear hlen
  have hBlt := lt_of_cell hBs
  gi_wp2
  gi_loopw [3] (fun i wr => ∃ k m : Nat, k + m = len ∧ i = .int .i64 ((m : Int) - 1) ∧ J (zs.zipIdx.reverse.take k) wr ∧ KeepB2 Bs b W wr) (fun i _ => (intOf i + 1).toNat)
  case atStart => exact ⟨0, len, by omega, rfl, by simpa using h0, KeepB2.refl _ _ _⟩
  case round =>
    obtain ⟨k, m, hkm, rfl, hJs, hkp⟩ := hrel
    have hB2 := cell_of_blkB hkp.one hBs
    have hBlt2 := lt_of_cell hB2
    cases m with
    | zero =>
      have e0 : decide ((((0 : Nat) : Int) - 1) ≥ 0) = false := by decide
      gi_wp2
      go_end0
      exact ⟨⟨_, rfl⟩, .inl ⟨_, rfl, by rw [← BA.out]; have : k = len := by omega
                                        rw [← this]; exact hJs⟩⟩
    | succ m =>
      have em : (((m + 1 : Nat) : Int) - 1) = (m : Int) := by omega
      rw [em]
      obtain ⟨z, hz⟩ := get_of_lt (xs := zs) (k := m) (by have := HLEN.out; omega)
      have c0 := hc m z hz
      have d0 := cell_of_blkB hkp.two c0
      have hblt2 := lt_of_cell d0
      have hml : (m : Int) < len := by omega
      obtain ⟨fn, tmps, assign, body, hy, hR⟩ := hY _ (z, m) wr hJs (by rw [BL.out k (by omega)]; omega)
      have BT2 := hide (BT.out k m z hz (by have := HLEN.out; omega))
      have HR := hide hR
      clear hR c0 hz
      dsimp only at hy
      gi_wp2
      refine HR.out.mono ?_
      rintro e W3 (⟨rfl, hJ3, hk3⟩ | ⟨rfl, hJx3⟩)
      · gi_wp2
        go_roundw
        case rel => exact ⟨k + 1, m, by omega, by go_num, by rw [BT2.out]; exact hJ3, hkp.trans hk3⟩
        case measure => simp [intOf]
      · gi_wp2
        refine bodyPost_ret (results_none rfl _ _ _) rfl ?_
        exact ⟨⟨_, rfl⟩, .inr ⟨k + 1, by rw [BT2.out]; exact hJx3⟩⟩
theorem backB_nil_in {Pr:Int→Prop} (n:Nat) (l Bs:Nat) (a:Option Addr) (c:Nat) (J:List ({g:Int // Pr g} × Nat)→World→Prop)
 (W:World) (hBs:W.cell? ⟨Bs,0,none⟩=some (.slice a 0 c)) (h0:J [] W) :
 CallsIn Fence.wide n Tryz.prog 263 #[.func (.yield l) #[] #[], .pointer (some ⟨Bs,0,none⟩)] W fun e W'=>(∃ v,e = .returned v)∧J [] W':=by
 refine callsIn_of_wp Tryz.func263 rfl trivial ?_ rfl
 simp only [Tryz.ntmps263,List.size_toArray,List.length_cons,List.length_nil,Nat.reduceAdd,Nat.reduceSub,Array.replicate_succ,Array.replicate_zero,List.push_toArray,List.append_toArray,List.nil_append,List.cons_append]
 have hBlt:=lt_of_cell hBs
 gi_wp2
 gi_loopw [3] (fun i wr=>i = .int .i64 (-1)∧J [] wr) (fun _ _=>0)
 case atStart=>exact ⟨rfl,h0⟩
 case round =>
  obtain ⟨rfl,hJs⟩:=hrel
  gi_wp2
  go_end0
  exact ⟨⟨_,rfl⟩,hJs⟩
theorem BackwardB_any (a:Option Addr) (len cap:Nat) (w:World) :
 Calls Tryz.prog 261 #[.slice a len cap] w fun e w'=>e = .returned (.func (.func 263) #[] #[.pointer (some ⟨w.heap.size,0,none⟩)])∧w'=w.alloc (.cells #[.slice a len cap] 22):=by
 go_enter Tryz.func261,Tryz.ntmps261
 go_wp2
 go_ret
 exact ⟨rfl,rfl⟩
theorem backB_stops {Pr:Int→Prop} (n:Nat) (hn:1≤n) (Bs b:Nat) (v:Value) (zs:List {g:Int // Pr g}) (hl:zs.length≤1048576) (w:World) (hBs:Bs < w.heap.size) (hc:w.cell? ⟨Bs,0,none⟩=some v)
 (hr:Rep ByteE w v (zs.map (·.1))) (hb:∀ g o,v = .slice (some ⟨g,o,none⟩) zs.length (match v with | .slice _ _ c=>c | _=>0)→zs≠[]→g=b) :
 SeqStopsK Fence.wide n Tryz.prog 263 #[.pointer (some ⟨Bs,0,none⟩)] (fun x:{g:Int // Pr g} × Nat => #[Value.int .i64 (x.2:Int),u8V x.1.1]) (KeepB2 Bs b) (fun ys=>ys=zs.zipIdx.reverse)
  (fun pre => ∃ k,pre=zs.zipIdx.reverse.take k) zs.length w:=fun l J Jx W hW _ _ hY h0=>by
 have hc':=(hW.cell (p:=⟨Bs,0,none⟩) hBs).trans hc
 have hr':=hr.below hW
 obtain ⟨a,c,rfl,h1,h2,hx⟩:=hr'
 rw [List.length_map] at hc' h1
 by_cases hz:zs=[]
 ·subst hz
  exact (backB_nil_in n l Bs _ _ J W hc' h0).mono fun e W' ⟨he,hj⟩=>⟨he, .inl ⟨_,rfl,hj⟩⟩
 ·obtain ⟨z0,hz0⟩:=get_of_lt (xs:=zs) (k:=0) (List.length_pos_iff.2 hz)
  obtain ⟨b',o,rfl, -⟩:=hx 0 z0.1 (by rw [List.getElem?_map,hz0];rfl)
  obtain rfl:b'=b:=hb b' o (by rw [List.length_map]) hz
  refine (backB_in n hn l Bs b' o c zs J Jx hY W hc' (fun j z hj => ?_) h0 hl).mono fun e W' ⟨he,h⟩=>⟨he,h.imp (fun ⟨ys,e,hj⟩=>⟨ys,e,hj⟩) (fun ⟨k,hj⟩=>⟨_,⟨k,rfl⟩,hj⟩)⟩
  obtain ⟨b2,o2,e2,h2⟩:=hx j z.1 (by rw [List.getElem?_map,hj];rfl)
  simp only [Option.some.injEq,Addr.mk.injEq,and_true] at e2
  obtain ⟨rfl,rfl⟩:=e2
  simpa [ByteE] using h2 0 _ rfl
end Go.Proofs.YtlddmagfbcomgaaGreat
namespace Go.Proofs.YtlddmagfbcomgaaGreat
open Go.RowKit
theorem Own.sameV0 {α:Type} {E:El α} {T:TypeId} {w w':World} {base:Nat} {v:Value} {xs:List α} (h:Own E T w base v xs) (hB:∀ k,v.ownBlock=some k→w'.heap[k]? = w.heap[k]?):Own E T w' base v xs:=by
 refine ⟨h.1, ?_⟩
 rcases h.2 with h0 | ⟨g,cap,cur,hv,hb1,hgg,rest⟩
 ·exact .inl h0
 ·exact .inr ⟨g,cap,cur,hv,hb1,(hB g (by rw [hv];rfl)).trans hgg,rest⟩
def RetFl (w:World) (vp:Value) (split:Bool) (s':Bf) (us:List Slc) (k:Nat) (u:Slc) (r r':List Int) (e:Ending) (w':World):Prop:=∃ (b':Nat) (wv' u':Slc),e = .returned (mcV 164 b')∧BufB w' b' vp split wv' s' ∧
 Own SlcE 22 w' w.heap.size wv'.v (us.set k u')∧(∀ W,Rep ByteE W u.v r→Rep ByteE W u'.v r')∧w.heap.size≤b'∧Below w.heap.size w w'
theorem valsA_more (pv:Value) (q:Sq) (more:Array Value) {t:Nat} (ht:t < 3) {u:Value}:(valsA pv q++more).setIfInBounds (13+t) u=(valsA pv q).setIfInBounds (13+t) u++more:=by
 rw [Array.setIfInBounds_append_left (by simp;omega)]
theorem rep_tail {W:World} {rb ro un uk:Nat} {l v:Int} {rest:List (Int × Int)} (h:Rep ByteE W (Slc.v ⟨some ⟨rb,ro,none⟩,un,uk⟩) (encR2 ((l,v) :: rest))):Rep ByteE W (Slc.v ⟨if uk=1 then some ⟨rb,ro,none⟩ else some ⟨rb,ro+1,none⟩,un - 1,uk - 1⟩) (encR2 rest):=by
 obtain ⟨a,c,hv,h1,h2,h3⟩:=h
 simp only [Slc.v,Value.slice.injEq,List.map_cons,List.length_cons,List.length_map] at hv h1
 obtain ⟨rfl,rfl,rfl⟩:=hv
 refine ⟨if uk=1 then some ⟨rb,ro,none⟩ else some ⟨rb,ro+1,none⟩,uk - 1,by rw [List.length_map];rfl,by rw [List.length_map];omega,by omega,fun i x hx => ?_⟩
 obtain ⟨b,o,hb,hc⟩:=h3 (i+1) x (by simpa using hx)
 simp only [Option.some.injEq,Addr.mk.injEq,and_true] at hb
 obtain ⟨rfl,rfl⟩:=hb
 have hlt:=(List.getElem?_eq_some_iff.1 hx).1
 simp only [List.length_map] at hlt
 rw [if_neg (by omega)]
 refine ⟨rb,ro+1,rfl,fun j u hu => ?_⟩
 have:=hc j u hu
 rw [← this]
 congr 2
 simp only [ByteE]
 omega
theorem rowBufs:∃ d,Tryz.prog.underlying 167=some d∧d.isRow=true:=by
 have h:((Tryz.prog.underlying 167).elim false TypeDesc.isRow)=true:=by kernel_rfl
 revert h
 cases Tryz.prog.underlying 167 with
 | none=>intro h;cases h
 | some d=>exact fun h=>⟨d,rfl,h⟩
theorem wp_store_new {P:Program} {op:Oper} {a:Act} {w:World} {K:Act→World→Prop} {Q:Exit→Act→World→Prop} (ty:TypeId) (x y:Operand) (ho:op.op = .store ty x y) (c c':Array Value)
 (hx:a.eval x = .pointer (some ⟨w.heap.size,0,none⟩)) (hy:a.eval y = .agg c') (hi:(P.info? ty).map (·.size)=some c'.size) (hs:c.size=c'.size) (h1:c'.all (·.oneCell')=true)
 (h:K (a.put op.dst undef) (w.alloc (.cells c' ty))):op.wp P a (w.alloc (.cells c ty)) K Q:=by
 unfold Oper.wp execOp
 simp only [ho,hx,hy,Instr.storeAt,Instr.sureAddr,Sem.run_bind,Sem.run_pure,Result.andThen_ok,run_storeVar_new w ty c c' hi hs h1]
 exact h
theorem wp_sub64 {op:Oper} {a:Act} {w:World} {K:Act→World→Prop} {Q:Exit→Act→World→Prop} (x y:Operand) (ho:op.op = .binOp .sub 3 x y 3) (p q r:Int)
 (hx:a.eval x = .int .i64 p) (hy:a.eval y = .int .i64 q) (hr:wrap64 (p - q)=r) (h:K (a.put op.dst (.int .i64 r)) w):op.wp Tryz.prog a w K Q:=by
 subst hr
 unfold Oper.wp execOp
 have e:IntKind.wrap .i64 (p - q)=wrap64 (p - q):=IntWalk.i64_left _
 rw [← e] at h
 simp only [ho,hx,hy]
 simpa [go_sem] using h
theorem w64_small {k:Nat} (h:k≤9):wrap64 (k:Int)=(k:Int):=IntWalk.wrap64_in _ ⟨by omega,by omega⟩
set_option linter.unusedSimpArgs false in
theorem bufFlush_any (b k:Nat) (vp:Value) (split:Bool) (wv u:Slc) (us:List Slc) (p:List (List Ins)) (s:Bf) (l v:Int) (rest:List (Int × Int)) (w:World) (hp:RepP w vp p) (hx:BufB w b vp split wv s) (hus:Rep SlcE w wv.v us) (hul:us.length=s.bf.length) (hu:us[k]? = some u)
 (hrow:Rep ByteE w u.v (encR2 ((l,v) :: rest))) (hok:BfOk p split s) (hpl:p.length≤3) (hk:s.bf[k]? = some ((l,v) :: rest)) (hlen:rest.length≤42) :
 Calls Tryz.prog 250 #[.pointer (some ⟨b,0,none⟩), .int .i64 ((p.length+k:Nat):Int)] w (RetFl w vp split ⟨⟨s.q.pc,s.q.rg,s.q.mm.set l.toNat v⟩,s.bf.set k rest⟩ us k u (encR2 ((l,v) :: rest)) (encR2 rest)):=by
 obtain ⟨va,vc,rfl,hc1,hc2,hc3,hp⟩:=hp.open
 obtain ⟨wa,wn,wk⟩:=wv
 have hen:=hok.en _ (List.mem_of_getElem? hk) (l,v) (by simp)
 unfold entOk at hen
 simp only at hen
 obtain ⟨ln,rfl⟩:∃ ln:Nat,l=ln:=⟨l.toNat,by omega⟩
 have hl3:ln < 3:=by omega
 have hv3:0≤v∧v≤3:=hen.2
 have hklt:=(List.getElem?_eq_some_iff.1 hk).1
 have hlb9:s.bf.length≤9:=by
  rw [hok.lb]
  have:bfN split≤3:=by cases split <;> simp [bfN]
  have:=Nat.mul_le_mul hpl this
  omega
 have HUS:=hide hus
 obtain ⟨wb,wo,hwa,hwl,q0⟩:=Rep.slc (show Rep SlcE w (.slice wa wn wk) us from hus) hu
 obtain ⟨ua,un,uk⟩:=u
 have HWN:Hid (wn=us.length):=hide (by obtain ⟨_,_,hv1, -⟩:=hus.open;simp only [Slc.v,Value.slice.injEq] at hv1;exact hv1.2.1)
 subst hwa
 obtain ⟨rb,ro,rfl,hrl,r0⟩:∃ rb ro,ua=some ⟨rb,ro,none⟩∧rb < w.heap.size∧w.cell? ⟨rb,ro,none⟩=some (u8V ((ln:Int) * 16+v)):=by
  obtain ⟨a0,c0,hv0,_,_,hh⟩:=hrow
  simp only [Slc.v,Value.slice.injEq] at hv0
  obtain ⟨bb,oo,e0,h0⟩:=hh 0 ((ln:Int) * 16+v) rfl
  have h1:=h0 0 (u8V ((ln:Int) * 16+v)) rfl
  simp only [ByteE,Nat.zero_mul,Nat.add_zero] at h1
  exact ⟨bb,oo,hv0.1.trans e0,lt_of_cell h1,h1⟩
 have hun:un=rest.length+1:=by obtain ⟨_,_,hv1, -⟩:=hrow.open;simp only [Slc.v,Value.slice.injEq] at hv1;rw [hv1.2.1];simp
 have HV:=hide (ValAt.ofMore hx)
 have HX:=hide hx;have HROW:=hide hrow
 have c0:=HV.out.c0
 have bl:=HV.out.lt
 have d16:=hx.split
 have d17:=hx.waits
 obtain ⟨d1,d2,d3,d4,d5,d6,d7,d8,d9,d10,d11,d12,d13,d14,d15⟩:=HV.out.regs
 have hsa:=@setCell_alloc
 have HUL:=hide hul;have HLB:=hide hlb9
 have hul9:us.length≤9:=by omega
 clear hp hx hus hrow hul hlb9
 generalize hn:p.length=n at *
 have HN:=hide hn
 clear hn
 obtain ⟨x1,hx1⟩:∃ x,x=s.q.pc.getD 0 0:=⟨_,rfl⟩
 obtain ⟨x2,hx2⟩:∃ x,x=s.q.pc.getD 1 0:=⟨_,rfl⟩
 obtain ⟨x3,hx3⟩:∃ x,x=s.q.pc.getD 2 0:=⟨_,rfl⟩
 obtain ⟨x4,hx4⟩:∃ x,x=s.q.rg.getD 0 0:=⟨_,rfl⟩
 obtain ⟨x5,hx5⟩:∃ x,x=s.q.rg.getD 1 0:=⟨_,rfl⟩
 obtain ⟨x6,hx6⟩:∃ x,x=s.q.rg.getD 2 0:=⟨_,rfl⟩
 obtain ⟨x7,hx7⟩:∃ x,x=s.q.rg.getD 3 0:=⟨_,rfl⟩
 obtain ⟨x8,hx8⟩:∃ x,x=s.q.rg.getD 4 0:=⟨_,rfl⟩
 obtain ⟨x9,hx9⟩:∃ x,x=s.q.rg.getD 5 0:=⟨_,rfl⟩
 obtain ⟨x10,hx10⟩:∃ x,x=s.q.rg.getD 6 0:=⟨_,rfl⟩
 obtain ⟨x11,hx11⟩:∃ x,x=s.q.rg.getD 7 0:=⟨_,rfl⟩
 obtain ⟨x12,hx12⟩:∃ x,x=s.q.rg.getD 8 0:=⟨_,rfl⟩
 obtain ⟨x13,hx13⟩:∃ x,x=s.q.mm.getD 0 0:=⟨_,rfl⟩
 obtain ⟨x14,hx14⟩:∃ x,x=s.q.mm.getD 1 0:=⟨_,rfl⟩
 obtain ⟨x15,hx15⟩:∃ x,x=s.q.mm.getD 2 0:=⟨_,rfl⟩
 have HA:Hid (valsA (.slice va n vc) s.q ++ #[.bool split, .slice (some ⟨wb,wo,none⟩) wn wk] = #[.slice va n vc, .int .u8 x1, .int .u8 x2, .int .u8 x3, .int .u8 x4, .int .u8 x5, .int .u8 x6, .int .u8 x7, .int .u8 x8, .int .u8 x9, .int .u8 x10, .int .u8 x11, .int .u8 x12, .int .u8 x13, .int .u8 x14, .int .u8 x15, .bool split, .slice (some ⟨wb,wo,none⟩) wn wk]):=hide (by rw [hx1,hx2,hx3,hx4,hx5,hx6,hx7,hx8,hx9,hx10,hx11,hx12,hx13,hx14,hx15];rfl)
 rw [← hx1] at d1;rw [← hx2] at d2;rw [← hx3] at d3;rw [← hx4] at d4;rw [← hx5] at d5;rw [← hx6] at d6;rw [← hx7] at d7;rw [← hx8] at d8;rw [← hx9] at d9;rw [← hx10] at d10;rw [← hx11] at d11;rw [← hx12] at d12;rw [← hx13] at d13;rw [← hx14] at d14;rw [← hx15] at d15
 clear hx1 hx2 hx3 hx4 hx5 hx6 hx7 hx8 hx9 hx10 hx11 hx12 hx13 hx14 hx15
 have HLD:Hid (w.rangeAt b 0 [.slice va n vc, .int .u8 x1, .int .u8 x2, .int .u8 x3, .int .u8 x4, .int .u8 x5, .int .u8 x6, .int .u8 x7, .int .u8 x8, .int .u8 x9, .int .u8 x10, .int .u8 x11, .int .u8 x12, .int .u8 x13, .int .u8 x14, .int .u8 x15, .bool split, .slice (some ⟨wb,wo,none⟩) wn wk]):=hide (by
  intro j v hj
  have h:w.heap[b]? = some (.cells #[.slice va n vc, .int .u8 x1, .int .u8 x2, .int .u8 x3, .int .u8 x4, .int .u8 x5, .int .u8 x6, .int .u8 x7, .int .u8 x8, .int .u8 x9, .int .u8 x10, .int .u8 x11, .int .u8 x12, .int .u8 x13, .int .u8 x14, .int .u8 x15, .bool split, .slice (some ⟨wb,wo,none⟩) wn wk] 167 (0,0)):=by rw [← HA.out];exact HX.out
  rw [Nat.zero_add]
  exact cellH h (by simpa using hj))
 have HON:Hid ((#[.slice va n vc, .int .u8 x1, .int .u8 x2, .int .u8 x3, .int .u8 x4, .int .u8 x5, .int .u8 x6, .int .u8 x7, .int .u8 x8, .int .u8 x9, .int .u8 x10, .int .u8 x11, .int .u8 x12, .int .u8 x13, .int .u8 x14, .int .u8 x15, .bool split, .slice (some ⟨wb,wo,none⟩) wn wk]:Array Value).all (fun v=>v.oneCell')=true):=hide (by simp [Value.oneCell'])
 obtain ⟨dB,hUB,hRB⟩:=rowBufs
 have HUB:=hide hUB;have HRB:=hide hRB
 clear hUB hRB
 go_enter Tryz.func250,Tryz.ntmps250
 iterate 23 (first | (refine wp_load_mid 167 (.tmp 12) rfl b 0 rfl [.slice va n vc, .int .u8 x1, .int .u8 x2, .int .u8 x3, .int .u8 x4, .int .u8 x5, .int .u8 x6, .int .u8 x7, .int .u8 x8, .int .u8 x9, .int .u8 x10, .int .u8 x11, .int .u8 x12, .int .u8 x13, .int .u8 x14, .int .u8 x15, .bool split, .slice (some ⟨wb,wo,none⟩) wn wk] dB HLD.out HUB.out HRB.out (by kernel_rfl) ?_;go_simp) | go_values | go_skip | go_guarded | go_step | go_upon)
 refine wp_store_new 167 (.tmp 5) (.tmp 13) rfl _ #[.slice va n vc, .int .u8 x1, .int .u8 x2, .int .u8 x3, .int .u8 x4, .int .u8 x5, .int .u8 x6, .int .u8 x7, .int .u8 x8, .int .u8 x9, .int .u8 x10, .int .u8 x11, .int .u8 x12, .int .u8 x13, .int .u8 x14, .int .u8 x15, .bool split, .slice (some ⟨wb,wo,none⟩) wn wk] rfl rfl (by kernel_rfl) rfl HON.out ?_
 go_simp
 go_wp2_with fail
 obtain ⟨V1,hV1⟩:∃ V1,V1=w.alloc (.cells #[.slice va n vc, .int .u8 x1, .int .u8 x2, .int .u8 x3, .int .u8 x4, .int .u8 x5, .int .u8 x6, .int .u8 x7, .int .u8 x8, .int .u8 x9, .int .u8 x10, .int .u8 x11, .int .u8 x12, .int .u8 x13, .int .u8 x14, .int .u8 x15, .bool split, .slice (some ⟨wb,wo,none⟩) wn wk] 167):=⟨_,rfl⟩
 have X1:Hid (BufB V1 w.heap.size (.slice va n vc) split ⟨some ⟨wb,wo,none⟩,wn,wk⟩ s):=hide (by rw [hV1];show _=some (Obj.cells (valsA (.slice va n vc) s.q++_) _ _);rw [HA.out];exact heap_alloc_new _ _)
 have B1:Hid (Below w.heap.size w V1):=hide (by rw [hV1];exact (Below.refl _ _).alloc (Nat.le_refl _) _)
 simp only [← hV1]
 clear hV1 d1 d2 d3 d4 d5 d6 d7 d8 d9 d10 d11 d12 d13 d14 d15 HA
 have HCL:=hide (cloneBB_any (.slice (some ⟨wb,wo,none⟩) wn wk) us V1 (HUS.out.below B1.out) (by omega))
 (with_reducible refine HCL.out.mono ?_);rintro e w2 ⟨vw,rfl,how,hb2⟩
 have hune:us≠[]:=fun e=>by rw [e] at hu;simp at hu
 obtain ⟨cg,cc,rfl⟩:=own_some how hune
 have HOW:=hide how
 have hcg:=World.ownsRow.lt how cg rfl
 have hlN:w.heap.size < V1.heap.size:=X1.out.lt
 have B2:=hide (B1.out.trans (hb2.mono B1.out.size))
 have X2:=hide (X1.out.below hb2)
 have hX2:=X2.out
 have e17:=hX2.waits
 have efz:=frozH hX2
 have el:=hX2.lt
 clear hb2 HCL how hX2
 have X3:Hid (BufB (w2.setCell ⟨w.heap.size,17,none⟩ (.slice (some ⟨cg,0,none⟩) us.length cc)) w.heap.size (.slice va n vc) split ⟨some ⟨cg,0,none⟩,us.length,cc⟩ s):=hide (heap_setCell_same w2 w.heap.size 17 _ _ (.slice (some ⟨cg,0,none⟩) us.length cc) X2.out)
 have B3:Hid (Below w.heap.size w (w2.setCell ⟨w.heap.size,17,none⟩ (.slice (some ⟨cg,0,none⟩) us.length cc))):=hide (B2.out.setCell (p:=⟨w.heap.size,17,none⟩) (Nat.le_refl _) _)
 have g0:=(B3.out.cell (p:=⟨b,0,none⟩) bl).trans c0
 have g17:=(B3.out.cell (p:=⟨b,17,none⟩) bl).trans d17
 have gq:=(B3.out.cell (p:=⟨wb,wo+k,none⟩) hwl).trans q0
 have gr:=(B3.out.cell (p:=⟨rb,ro,none⟩) hrl).trans r0
 have bl2:b < w2.heap.size:=Nat.lt_of_lt_of_le bl B2.out.size
 have wl2:wb < w2.heap.size:=Nat.lt_of_lt_of_le hwl B2.out.size
 have rl2:rb < w2.heap.size:=Nat.lt_of_lt_of_le hrl B2.out.size
 have hkn:k < wn:=by have:=HWN.out;have:=HUL.out;omega
 have hkn2:(k:Int) < (wn:Int):=by omega
 have hk9:k≤9:=by have:=HWN.out;omega
 have hge:((n:Int)≤(n:Int)+(k:Int)):=by omega
 have hsub:(n:Int)+(k:Int) - (n:Int)=(k:Int):=by omega
 have hun0:(0:Int) < (un:Int):=by omega
 have HUN:=hide hun;have HEN:=hide hen;have HKL:=hide hklt;have HCG:=hide hcg;have HLN:=hide hlN
 clear hun hen hklt hune d16 d17 c0 q0 r0 hul9 hlN hcg hsa hwl hrl
 have hw64:=hide (w64_small hk9)
 iterate 66 (first | go_values | go_skip | go_guarded | go_step | go_upon | go_back | (simp only [Int.not_lt,Int.not_le] at *;go_simp))
 refine wp_sub64 (.tmp 28) (.tmp 34) rfl ((n:Int)+(k:Int)) (n:Int) (k:Int) rfl rfl (by rw [hsub];exact hw64.out) ?_
 go_simp
 go_wp2_with fail
 clear hw64 e17 efz el g0
 obtain ⟨W3,hW3⟩:∃ W,W=w2.setCell ⟨w.heap.size,17,none⟩ (.slice (some ⟨cg,0,none⟩) us.length cc):=⟨_,rfl⟩
 have hcgne:cg≠w.heap.size:=by have h1:=HCG.out.1;have h2:=HLN.out;omega
 have OW3:Hid (Own SlcE 22 W3 V1.heap.size (.slice (some ⟨cg,0,none⟩) us.length cc) us):=hide (by
  rw [hW3]
  exact HOW.out.sameV0 fun q hq=>heap_setCell_other w2 ⟨w.heap.size,17,none⟩ q _ (show q≠w.heap.size by simp [Value.ownBlock] at hq;rw [← hq];exact hcgne))
 simp only [← hW3] at X3 B3 g17 gq gr ⊢
 have hs3:w2.heap.size≤W3.heap.size:=by rw [hW3];simp
 clear hW3
 have ck:W3.cell? ⟨cg,k,none⟩=some (.slice (some ⟨rb,ro,none⟩) un uk):=by have:=OW3.out.cell hu (j:=0) rfl;simpa [SlcE] using this
 have cgl:=lt_of_cell ck
 have fk:=OW3.out.frozen
 have e17:W3.cell? ⟨w.heap.size,17,none⟩=some (.slice (some ⟨cg,0,none⟩) us.length cc):=X3.out.waits
 have el:=lt_of_cell e17
 have bl3:=lt_of_cell g17
 have wl3:=lt_of_cell gq
 have hku:(k:Int) < (us.length:Int):=by have:=HWN.out;omega
 clear bl2 wl2 rl2
 go_region
 obtain ⟨ua',hua'⟩:∃ a:Option Addr,a=if uk=1 then some ⟨rb,ro,none⟩ else some ⟨rb,ro+1,none⟩:=⟨_,rfl⟩
 simp only [← hua']
 have HUA:=hide hua'
 clear hua'
 obtain ⟨u',hu'⟩:∃ u':Slc,u'=⟨ua',un - 1,uk - 1⟩:=⟨_,rfl⟩
 obtain ⟨W6,hW6⟩:∃ W,W=(W3.setCell ⟨cg,k,none⟩ (.slice u'.a u'.n u'.cap)).drew:=⟨_,rfl⟩
 have OW6:Hid (Own SlcE 22 W6 V1.heap.size (.slice (some ⟨cg,0,none⟩) us.length cc) (us.set k u')):=hide (by
  rw [hW6]
  have:=OW3.out.set (i:=k) (j:=0) u' (u:=.slice u'.a u'.n u'.cap) (by decide) hu rfl
  simp only [SlcE,Nat.mul_one,Nat.add_zero] at this
  exact this.below (Below.refl _ _).drew)
 have X6:Hid (BufB W6 w.heap.size (.slice va n vc) split ⟨some ⟨cg,0,none⟩,us.length,cc⟩ s):=hide (by
  rw [hW6]
  exact (heap_setCell_other W3 ⟨cg,k,none⟩ w.heap.size _ (fun e=>hcgne e.symm)).trans X3.out)
 have B6:Hid (Below w.heap.size w W6):=hide (by
  rw [hW6]
  exact (B3.out.setCell (p:=⟨cg,k,none⟩) (by have h1:=HCG.out.1;have h2:=HLN.out;show w.heap.size≤cg;omega) _).drew)
 have HU':=hide hu'
 rw [hu'] at hW6
 rw [← hW6]
 clear hW6 hu' ck cgl fk e17 el g17 gq gr bl3 wl3 X3 B3 OW3 hku hkn hkn2
 have m6:=(ValAt.ofMore X6.out).c3 ln hl3
 have l6:=lt_of_cell m6
 have f6:=frozH X6.out
 have hln3:(ln:Int) < 3:=by omega
 have hdq:((ln:Int) * 16+v) / 16=(ln:Int):=by omega
 have hmq:v % 16=v:=by omega
 go_wp2_with fail
 have h8:=heap_setCell_same W6 w.heap.size (13+ln) _ _ (u8V v) X6.out
 rw [valsA_more _ s.q _ hl3,valsA_setMm _ _ hl3 (by rw [hok.q.lm];exact hl3)] at h8
 have FB:Hid (BufB (W6.setCell ⟨w.heap.size,13+ln,none⟩ (u8V v)) w.heap.size (.slice va n vc) split ⟨some ⟨cg,0,none⟩,us.length,cc⟩ ⟨⟨s.q.pc,s.q.rg,s.q.mm.set ((ln:Int).toNat) v⟩,s.bf.set k rest⟩):=hide (by rw [Int.toNat_natCast];exact h8)
 have FO:=hide ((OW6.out.setOther (T:=167) (j:=13+ln) (u:=u8V v) (by decide) X6.out).mono (Nat.le_of_lt HLN.out))
 have FW:=hide (B6.out.setCell (p:=⟨w.heap.size,13+ln,none⟩) (Nat.le_refl _) (u8V v))
 clear h8 m6 l6 f6
 go_ret
 exact ⟨w.heap.size,⟨some ⟨cg,0,none⟩,us.length,cc⟩,u',rfl,FB.out,FO.out,fun W h=>by rw [HU'.out,HUA.out];exact rep_tail h,Nat.le_refl _,FW.out⟩
end Go.Proofs.YtlddmagfbcomgaaGreat
namespace Go.Proofs.YtlddmagfbcomgaaGreat
open Go.RowKit Go.Shelf
attribute [local go_sem] Oper.semAt_some
theorem heap_keptJ {W W':World} {row:Option Nat} {b:Nat} {cur:Array Value} {T:TypeId} {fr:Nat × Nat} (h:W.heap[b]? = some (.cells cur T fr)) (hg:W.grownBy W' row) (hr:∀ r,row=some r→∃ o:Obj,W.heap[r]? = some o∧o.isCells=false):W'.heap[b]? = some (.cells cur T fr):=by
 rw [hg.block b (Array.getElem?_eq_some_iff.1 h).1 (fun e => ?_),h]
 obtain ⟨o,h1,h2⟩:=hr b e.symm
 rw [h] at h1
 simp at h1;subst h1
 cases h2
structure RdM (w:World) (loc:Nat) (v:Value) (W:World):Prop where
 h5:W.heap[w.heap.size]? = some (.cells #[.int .i64 (loc:Int)] 3 (0,0))
 h6:W.heap[w.heap.size+1]? = some (.cells #[v] 5 (0,0))
 bl:Below w.heap.size w W
theorem RdM.grown {w:World} {loc:Nat} {v:Value} {W W':World} {row:Option Nat} {B:Nat} (h:RdM w loc v W) (hB:w.heap.size≤B) (hg:W.grownBy W' row) (hr:∀ r,row=some r→B≤r∧∃ o:Obj,W.heap[r]? = some o∧o.isCells=false):RdM w loc v W':=
 ⟨heap_keptJ h.h5 hg fun r e=>(hr r e).2,heap_keptJ h.h6 hg fun r e=>(hr r e).2,h.bl.grown hg h.bl.size fun k e=>Nat.le_trans hB (hr k e).1⟩
theorem RdM.put {w:World} {loc:Nat} {v:Value} {W:World} (h:RdM w loc v W) (u:Value):RdM w loc u (W.setCell ⟨w.heap.size+1,0,none⟩ u):=
 ⟨(heap_setCell_other W ⟨w.heap.size+1,0,none⟩ w.heap.size u (by show w.heap.size≠w.heap.size+1;omega)).trans h.h5,heap_setCell_same W (w.heap.size+1) 0 _ _ u h.h6,h.bl.setCell (p:=⟨w.heap.size+1,0,none⟩) (by show w.heap.size≤w.heap.size+1;omega) _⟩
theorem vals_all (zs:List Int):(zs.attach.zipIdx.reverse).map (fun x=>x.1.1)=zs.reverse:=by
 rw [List.map_reverse]
 congr 1
 have h1:(fun x:{u:Int // u∈zs} × Nat=>x.1.1)=(fun g:{u:Int // u∈zs}=>g.1) ∘ Prod.fst:=rfl
 rw [h1,← List.map_map,List.zipIdx_map_fst,List.attach_map_subtype_val]
theorem enc_div {e:Int × Int} (h:entOk e):(e.1 * 16+e.2) / 16=e.1∧(e.1 * 16+e.2) % 16=e.2:=by
 unfold entOk at h;omega
theorem seen_no {row:List (Int × Int)} (hen:∀ e∈row,entOk e) {loc:Nat} (h:∀ x∈(encR2 row).attach.zipIdx.reverse,¬ x.1.1 / 16=(loc:Int)):row.reverse.find? (fun e=>e.1==(loc:Int))=none:=by
 rw [List.find?_eq_none]
 intro e he h2
 rw [List.mem_reverse] at he
 have h3:e.1 * 16+e.2∈(encR2 row).reverse:=List.mem_reverse.2 (List.mem_map.2 ⟨e,he,rfl⟩)
 rw [← vals_all] at h3
 obtain ⟨x,hx,hxe⟩:=List.mem_map.1 h3
 refine h x hx ?_
 rw [hxe,(enc_div (hen e he)).1]
 exact beq_iff_eq.1 h2
theorem seen_at {row:List (Int × Int)} (hen:∀ e∈row,entOk e) {loc:Nat} {k:Nat} {pre':List ({u:Int // u∈encR2 row} × Nat)} {x:{u:Int // u∈encR2 row} × Nat} (h:pre'++[x]=(encR2 row).attach.zipIdx.reverse.take k) (hno:∀ y∈pre',¬ y.1.1 / 16=(loc:Int)) (hx:x.1.1 / 16=(loc:Int)):row.reverse.find? (fun e=>e.1==(loc:Int))=some ((loc:Int),x.1.1 % 16):=by
 have h1:(encR2 row).reverse=pre'.map (fun x=>x.1.1)++(x.1.1 :: ((encR2 row).attach.zipIdx.reverse.drop k).map (fun x=>x.1.1)):=by
  rw [← vals_all]
  conv=>lhs;rw [← List.take_append_drop k (encR2 row).attach.zipIdx.reverse]
  rw [← h];simp
 unfold encR2 at h1
 rw [← List.map_reverse] at h1
 obtain ⟨l1,l2,e1,e2,e3⟩:=List.map_eq_append_iff.1 h1
 obtain ⟨e,l3,rfl,e4, -⟩:=List.map_eq_cons_iff.1 e3
 have he:e∈row:=List.mem_reverse.1 (by rw [e1];simp)
 obtain ⟨d1,d2⟩:=enc_div (hen e he)
 rw [e4,hx] at d1
 rw [e4] at d2
 rw [e1,List.find?_append,List.find?_eq_none.2,Option.none_or,List.find?_cons,← d1]
 ·simp [d2,d1]
 ·intro y hy h2
  have h3:y.1 * 16+y.2∈pre'.map (fun x=>x.1.1):=by rw [← e2];exact List.mem_map.2 ⟨y,hy,rfl⟩
  obtain ⟨z,hz,hze⟩:=List.mem_map.1 h3
  refine hno z hz ?_
  rw [hze,(enc_div (hen y (List.mem_reverse.1 (by rw [e1];simp [hy])))).1]
  exact beq_iff_eq.1 h2
theorem bfSeen_of {s:Bf} {t loc:Nat} {split:Bool} {row:List (Int × Int)} (h:s.bf[bfPlace t loc split]? = some row):bfSeen s t loc split=match row.reverse.find? (fun e=>e.1==(loc:Int)) with | some e=>e.2 | none=>s.q.mm[loc]?.getD 0:=by
 unfold bfSeen
 rw [List.getD_eq_getElem?_getD,h,Option.getD_some,List.getD_eq_getElem?_getD,Int.toNat_natCast]
 rfl
theorem RdM.gone {w:World} {loc:Nat} {v:Value} {W:World} (h:RdM w loc v W) {D:Nat} (hD:w.heap.size+1≠D) (o:Obj):(W.putObj D o).cell? ⟨w.heap.size+1,0,none⟩=some v:=
 cellH ((World.putObj_heap_other hD).trans h.h6) (k:=0) rfl
theorem RdM.drew {w:World} {loc:Nat} {v:Value} {W:World} (h:RdM w loc v W):RdM w loc v W.drew:=⟨h.h5,h.h6,h.bl.drew⟩
theorem bufRead_any (b t loc:Nat) (vp:Value) (split:Bool) (wv:Slc) (p:List (List Ins)) (s:Bf) (w:World) (hx:BufB w b vp split wv s) (hw:BufW w wv s) (hok:BfOk p split s) (ht:t < p.length) (hpl:p.length≤3) (hl:loc≤2) (hlen:∀ r∈s.bf,r.length≤1048576) :
 Calls Tryz.prog 255 #[.pointer (some ⟨b,0,none⟩), .int .i64 (t:Int), .int .i64 (loc:Int)] w fun e w'=>e = .returned (u8V (bfSeen s t loc split))∧Below w.heap.size w w':=by
 obtain ⟨wa,wn,wk⟩:=wv
 have HX:=hide hx;have HW:=hide hw;have HOK:=hide hok
 have h16:=hx.split
 have h17:=hx.waits
 have bl:=hx.lt
 have ht2:t≤2:=by omega
 have hqs:bfPlace t loc split < s.bf.length:=by rw [hok.lb];exact place_in ht (by omega)
 obtain ⟨q,hq⟩:∃ q,q=bfPlace t loc split:=⟨_,rfl⟩
 rw [← hq] at hqs
 obtain ⟨row,hrow⟩:=get_of_lt (xs:=s.bf) (k:=q) hqs
 have hrow2:(s.bf.map encR2)[q]? = some (encR2 row):=by rw [List.getElem?_map,hrow];rfl
 obtain ⟨_,_,hv, -, -, -, -⟩:=hw.open
 simp only [Slc.v,Value.slice.injEq] at hv
 obtain ⟨rfl,hwn,rfl⟩:=hv
 rw [List.length_map] at hwn
 obtain ⟨wb,wo,ra,rc,rfl,hbl2,q0,hrr⟩:=Rep2.row hw hrow2
 rw [List.length_map] at q0
 obtain ⟨rn,hrn⟩:∃ rn,rn=row.length:=⟨_,rfl⟩
 simp only [← hrn] at q0
 have HLN:Hid (rn≤1048576):=hide (by rw [hrn];exact hlen row (List.mem_of_getElem? hrow))
 have HRN:=hide hrn;have HQ:=hide hq;have HROW:=hide hrow;have HRR:=hide hrr
 have hqn:(q:Int) < (wn:Int):=by rw [hwn];omega
 have HBU:=hide (fun X h=>buffer_any b t loc split X h ht2 hl)
 simp only [← hq] at HBU
 have HB0:=hide (((Below.refl w.heap.size w).alloc (Nat.le_refl _) (.cells #[.int .i64 (loc:Int)] 3)).alloc (by simp) (.cells #[.int .u8 0] 5))
 have HEN:Hid (∀ e∈row,entOk e):=hide (hok.en row (List.mem_of_getElem? hrow))
 have HSEE:=hide (bfSeen_of (t:=t) (loc:=loc) (split:=split) (s:=s) (row:=row) (by rw [← hq];exact hrow))
 have HGR:Hid (∀ g∈encR2 row,0≤g∧g≤47):=hide (fun g hg=>by
  obtain ⟨e,he,rfl⟩:=List.mem_map.1 hg
  have h1:=hok.en row (List.mem_of_getElem? hrow) e he
  unfold entOk at h1
  omega)
 clear hx hw hok hrow hrow2 hrn hq hwn hrr hlen
 refine (callsIn_wide (n:=9)).1 ?_
 refine callsIn_of_wp_marks Tryz.func255 rfl trivial ?_ rfl
 simp only [Tryz.ntmps255,List.size_toArray,List.length_cons,List.length_nil,Nat.reduceAdd,Nat.reduceSub,Array.replicate_succ,Array.replicate_zero,List.push_toArray,List.append_toArray,List.nil_append,List.cons_append]
 refine (wpIn_wide (n:=9)).2 ?_
 go_wp2_with fail
 obtain ⟨wB,hwB⟩:∃ W,W=(w.alloc (.cells #[.int .i64 (loc:Int)] 3)).alloc (.cells #[.int .u8 0] 5):=⟨_,rfl⟩
 rw [← hwB]
 obtain ⟨W1,hW1⟩:∃ W,W=wB.drew:=⟨_,rfl⟩
 have BB:Hid (Below w.heap.size w W1):=hide (by rw [hW1,hwB];exact HB0.out.drew)
 have H5:Hid (W1.heap[w.heap.size]? = some (.cells #[.int .i64 (loc:Int)] 3 (0,0))):=hide (by
  rw [hW1,hwB]
  show ((w.alloc _).alloc _).heap[w.heap.size]? = _
  rw [heap_alloc_old _ _ (by simp)];exact heap_alloc_new w _)
 have H6:Hid (W1.heap[w.heap.size+1]? = some (.cells #[.int .u8 0] 5 (0,0))):=hide (by
  rw [hW1,hwB]
  show ((w.alloc _).alloc _).heap[w.heap.size+1]? = _
  have:=heap_alloc_new (w.alloc (.cells #[.int .i64 (loc:Int)] 3)) (.cells #[.int .u8 0] 5)
  simpa using this)
 have q5:W1.cell? ⟨w.heap.size,0,none⟩=some (.int .i64 (loc:Int)):=cellH H5.out (k:=0) rfl
 have q16:=(BB.out.cell (p:=⟨b,16,none⟩) bl).trans h16
 have q17:=(BB.out.cell (p:=⟨b,17,none⟩) bl).trans h17
 have qr:=(BB.out.cell (p:=⟨wb,wo+q,none⟩) hbl2).trans q0
 have l5:=lt_of_cell q5
 have lb:=lt_of_cell q17
 have lr:=lt_of_cell qr
 have RR:=hide (HRR.out.below BB.out)
 have HX1:=hide (HX.out.below BB.out)
 have HW1:=hide hW1
 clear h16 h17 q0 HB0 hwB hW1
 -- reg read
 refine wp_region_inv3 (n:=10) (by kernel_rfl) rfl (by kernel_rfl) (by kernel_rfl) (fun A ls a' W => ∃ (x9 x10 x11 x12 x13 x14 x15 x16 x17 x18:Value),a'=putAll A [(9,x9),(10,x10),(11,x11),(12,x12),(13,x13),(14,x14),(15,x15),(16,x16),(17,x17),(18,x18)]∧Vd ls 0 [] x9 (.pointer (some ⟨b,0,none⟩))∧Vd ls 1 [] x10 (.pointer (some ⟨b,0,none⟩))∧Vd ls 2 [] x11 (.pointer (some ⟨b,17,none⟩))∧Vd ls 3 [] x12 (.slice (some ⟨wb,wo,none⟩) wn wk)∧Vd ls 4 [] x13 (.pointer (some ⟨b,0,none⟩))∧Vd ls 5 [] x14 (.int .i64 (t:Int))∧Vd ls 6 [] x15 (.int .i64 (loc:Int))∧Vd ls 7 [] x16 (.int .i64 (q:Int))∧Vd ls 8 [] x17 (.pointer (some ⟨wb,wo+q,none⟩))∧Vd ls 9 [] x18 (.slice ra rn rc)∧W=W1) ?r0 ?rs ?re
 case r0 =>
  exact ⟨undef,undef,undef,undef,undef,undef,undef,undef,undef,undef,by simp only [putAll,Act.put,List.setIfInBounds_toArray,List.set_cons_succ,List.set_cons_zero],Vd.start,Vd.start,Vd.start,Vd.start,Vd.start,Vd.start,Vd.start,Vd.start,Vd.start,Vd.start,by exact HW1.out.symm⟩
 case rs =>
  rintro ls a' W hs hnl ⟨x9,x10,x11,x12,x13,x14,x15,x16,x17,x18,ha,cv0,cv1,cv2,cv3,cv4,cv5,cv6,cv7,cv8,cv9,hJ⟩ k o hkn mc K hK
  simp only [putAll,Act.put,List.setIfInBounds_toArray,List.set_cons_succ,List.set_cons_zero] at ha
  subst ha
  have hkc:k=0∨k=1∨k=2∨k=3∨k=4∨k=5∨k=6∨k=7∨k=8∨k=9:=by omega
  have hop:=mc.op
  have haf:=mc.after
  rcases hkc with rfl | rfl | rfl | rfl | rfl | rfl | rfl | rfl | rfl | rfl
  ·simp at hop;subst hop;simp [Region.binds] at haf
   obtain rfl:W1=W:=hJ.symm
   have hJ:W1=W1:=rfl
   go_simp
   exact hK _ _ ⟨_,_,_,_,_,_,_,_,_,_,by simp only [putAll,Act.put,List.setIfInBounds_toArray,List.set_cons_succ,List.set_cons_zero],Vd.same (by simp),cv1.set (by decide),cv2.set (by decide),cv3.set (by decide),cv4.set (by decide),cv5.set (by decide),cv6.set (by decide),cv7.set (by decide),cv8.set (by decide),cv9.set (by decide),by exact hJ⟩
  ·simp at hop;subst hop;simp [Region.binds] at haf
   obtain rfl:=(cv0.get (by simp [haf])).symm
   obtain rfl:W1=W:=hJ.symm
   have hJ:W1=W1:=rfl
   go_simp
   exact hK _ _ ⟨_,_,_,_,_,_,_,_,_,_,by simp only [putAll,Act.put,List.setIfInBounds_toArray,List.set_cons_succ,List.set_cons_zero],cv0.set (by decide),Vd.same (by simp),cv2.set (by decide),cv3.set (by decide),cv4.set (by decide),cv5.set (by decide),cv6.set (by decide),cv7.set (by decide),cv8.set (by decide),cv9.set (by decide),by exact hJ⟩
  ·simp at hop;subst hop;simp [Region.binds] at haf
   obtain rfl:=(cv1.get (by simp [haf])).symm
   obtain rfl:W1=W:=hJ.symm
   have hJ:W1=W1:=rfl
   go_simp
   exact hK _ _ ⟨_,_,_,_,_,_,_,_,_,_,by simp only [putAll,Act.put,List.setIfInBounds_toArray,List.set_cons_succ,List.set_cons_zero],cv0.set (by decide),cv1.set (by decide),Vd.same (by simp),cv3.set (by decide),cv4.set (by decide),cv5.set (by decide),cv6.set (by decide),cv7.set (by decide),cv8.set (by decide),cv9.set (by decide),by exact hJ⟩
  ·simp at hop;subst hop;simp [Region.binds] at haf
   obtain rfl:=(cv2.get (by simp [haf])).symm
   obtain rfl:W1=W:=hJ.symm
   have hJ:W1=W1:=rfl
   go_simp
   exact hK _ _ ⟨_,_,_,_,_,_,_,_,_,_,by simp only [putAll,Act.put,List.setIfInBounds_toArray,List.set_cons_succ,List.set_cons_zero],cv0.set (by decide),cv1.set (by decide),cv2.set (by decide),Vd.same (by simp),cv4.set (by decide),cv5.set (by decide),cv6.set (by decide),cv7.set (by decide),cv8.set (by decide),cv9.set (by decide),by exact hJ⟩
  ·simp at hop;subst hop;simp [Region.binds] at haf
   obtain rfl:W1=W:=hJ.symm
   have hJ:W1=W1:=rfl
   go_simp
   exact hK _ _ ⟨_,_,_,_,_,_,_,_,_,_,by simp only [putAll,Act.put,List.setIfInBounds_toArray,List.set_cons_succ,List.set_cons_zero],cv0.set (by decide),cv1.set (by decide),cv2.set (by decide),cv3.set (by decide),Vd.same (by simp),cv5.set (by decide),cv6.set (by decide),cv7.set (by decide),cv8.set (by decide),cv9.set (by decide),by exact hJ⟩
  ·simp at hop;subst hop;simp [Region.binds] at haf
   obtain rfl:W1=W:=hJ.symm
   have hJ:W1=W1:=rfl
   go_simp
   exact hK _ _ ⟨_,_,_,_,_,_,_,_,_,_,by simp only [putAll,Act.put,List.setIfInBounds_toArray,List.set_cons_succ,List.set_cons_zero],cv0.set (by decide),cv1.set (by decide),cv2.set (by decide),cv3.set (by decide),cv4.set (by decide),Vd.same (by simp),cv6.set (by decide),cv7.set (by decide),cv8.set (by decide),cv9.set (by decide),by exact hJ⟩
  ·simp at hop;subst hop;simp [Region.binds] at haf
   obtain rfl:W1=W:=hJ.symm
   have hJ:W1=W1:=rfl
   go_simp
   exact hK _ _ ⟨_,_,_,_,_,_,_,_,_,_,by simp only [putAll,Act.put,List.setIfInBounds_toArray,List.set_cons_succ,List.set_cons_zero],cv0.set (by decide),cv1.set (by decide),cv2.set (by decide),cv3.set (by decide),cv4.set (by decide),cv5.set (by decide),Vd.same (by simp),cv7.set (by decide),cv8.set (by decide),cv9.set (by decide),by exact hJ⟩
  ·simp at hop;subst hop;simp [Region.binds] at haf
   obtain rfl:=(cv4.get (by simp [haf])).symm
   obtain rfl:=(cv5.get (by simp [haf])).symm
   obtain rfl:=(cv6.get (by simp [haf])).symm
   obtain rfl:W1=W:=hJ.symm
   have hJ:W1=W1:=rfl
   go_simp
   go_at_call 256
   (with_reducible refine (HBU.out _ q16).mono ?_);rintro e u ⟨rfl,rfl⟩
   exact hK _ _ ⟨_,_,_,_,_,_,_,_,_,_,by simp only [putAll,Act.put,List.setIfInBounds_toArray,List.set_cons_succ,List.set_cons_zero],cv0.set (by decide),cv1.set (by decide),cv2.set (by decide),cv3.set (by decide),cv4.set (by decide),cv5.set (by decide),cv6.set (by decide),Vd.same (by simp),cv8.set (by decide),cv9.set (by decide),by rfl⟩
  ·simp at hop;subst hop;simp [Region.binds] at haf
   obtain rfl:=(cv3.get (by simp [haf])).symm
   obtain rfl:=(cv7.get (by simp [haf])).symm
   obtain rfl:W1=W:=hJ.symm
   have hJ:W1=W1:=rfl
   go_simp
   exact hK _ _ ⟨_,_,_,_,_,_,_,_,_,_,by simp only [putAll,Act.put,List.setIfInBounds_toArray,List.set_cons_succ,List.set_cons_zero],cv0.set (by decide),cv1.set (by decide),cv2.set (by decide),cv3.set (by decide),cv4.set (by decide),cv5.set (by decide),cv6.set (by decide),cv7.set (by decide),Vd.same (by simp),cv9.set (by decide),by exact hJ⟩
  ·simp at hop;subst hop;simp [Region.binds] at haf
   obtain rfl:=(cv8.get (by simp [haf])).symm
   obtain rfl:W1=W:=hJ.symm
   have hJ:W1=W1:=rfl
   go_simp
   exact hK _ _ ⟨_,_,_,_,_,_,_,_,_,_,by simp only [putAll,Act.put,List.setIfInBounds_toArray,List.set_cons_succ,List.set_cons_zero],cv0.set (by decide),cv1.set (by decide),cv2.set (by decide),cv3.set (by decide),cv4.set (by decide),cv5.set (by decide),cv6.set (by decide),cv7.set (by decide),cv8.set (by decide),Vd.same (by simp),by exact hJ⟩
 case re =>
  rintro ls a' W hall ⟨x9,x10,x11,x12,x13,x14,x15,x16,x17,x18,ha,cv0,cv1,cv2,cv3,cv4,cv5,cv6,cv7,cv8,cv9,hJ⟩ o hop
  simp only [putAll,Act.put,List.setIfInBounds_toArray,List.set_cons_succ,List.set_cons_zero] at ha
  subst ha
  simp at hop;subst hop
  obtain rfl:=(cv0.get (hall 0 (by decide))).symm
  obtain rfl:=(cv1.get (hall 1 (by decide))).symm
  obtain rfl:=(cv2.get (hall 2 (by decide))).symm
  obtain rfl:=(cv3.get (hall 3 (by decide))).symm
  obtain rfl:=(cv4.get (hall 4 (by decide))).symm
  obtain rfl:=(cv5.get (hall 5 (by decide))).symm
  obtain rfl:=(cv6.get (hall 6 (by decide))).symm
  obtain rfl:=(cv7.get (hall 7 (by decide))).symm
  obtain rfl:=(cv8.get (hall 8 (by decide))).symm
  obtain rfl:=(cv9.get (hall 9 (by decide))).symm
  go_simp
  (with_reducible refine (BackwardB_any ra rn rc W1).mono ?_);rintro e W2 ⟨rfl,hW2⟩
  have hb2:Below W1.heap.size W1 W2:=by rw [hW2];exact (Below.refl _ _).alloc (Nat.le_refl _) _
  have hbx:W2.heap[W1.heap.size]? = some (.cells #[.slice ra rn rc] 22 (0,0)):=by rw [hW2];exact heap_alloc_new W1 _
  have B2:=hide hb2;have HBX:=hide hbx
  clear hW2 hb2 hbx
  go_wp2_with fail
  refine (wpIn_wide (n:=9)).1 ?_
  have hz2:W1.heap.size < W2.heap.size:=(Array.getElem?_eq_some_iff.1 HBX.out).1
  have l6:=(Array.getElem?_eq_some_iff.1 H6.out).1
  have hm2:RdM w loc (.int .u8 0) W2:=⟨(B2.out.block w.heap.size l5).trans H5.out,(B2.out.block (w.heap.size+1) l6).trans H6.out,BB.out.trans (B2.out.mono BB.out.size)⟩
  have hrr1:Rep ByteE W1 (.slice ra rn rc) (encR2 row):=by have:=RR.out;rwa [List.length_map,← HRN.out] at this
  obtain ⟨rb,hrbl,hrb⟩:∃ rb,rb < W2.heap.size∧∀ g o,ra=some ⟨g,o,none⟩→encR2 row≠[]→g=rb:=by
   cases hne:encR2 row with
   | nil=>exact ⟨W1.heap.size,hz2,fun g o _ h=>absurd rfl h⟩
   | cons z zs =>
    rw [hne] at hrr1
    obtain ⟨a0,c0,hv0,_,_,hh⟩:=hrr1
    simp only [Value.slice.injEq] at hv0
    obtain ⟨bb,oo,e0,h0⟩:=hh 0 z rfl
    have h1:=h0 0 (u8V z) rfl
    refine ⟨bb,Nat.lt_of_lt_of_le (lt_of_cell h1) B2.out.size,fun g o e _ => ?_⟩
    rw [hv0.1,e0] at e
    simp at e
    exact e.1.symm
  have HST:=backB_stops (Pr:=fun g=>g∈encR2 row) 8 (by omega) W1.heap.size rb (.slice ra rn rc) (encR2 row).attach (by rw [List.length_attach,List.length_map,← HRN.out];exact HLN.out) W2 hz2 (cellH HBX.out (k:=0) rfl) (by rw [List.attach_map_subtype_val];exact hrr1.below B2.out) (fun g o e hne=>by
   simp only [Value.slice.injEq] at e
   exact hrb g o e.1 (fun h=>hne (by rw [List.attach_eq_nil_iff];exact h)))
  have HM2:=hide hm2
  have BX2:=hide (hrr1.below B2.out)
  clear hm2 hrr1 hrb
  refine wpIn_rangeFunc_ownH rfl (by omega) (gf:=263) (lb:=#[.pointer (some ⟨W1.heap.size,0,none⟩)]) rfl trivial (enters_of Tryz.func263 (by kernel_rfl) rfl)
   HST KeepB2.trans (keepB2_b hz2 hrbl) (Below.refl _ _) (fun _=>rfl)
   (fun pre W=>(∀ x∈pre,¬ x.1.1 / 16=(loc:Int))∧RdM w loc (.int .u8 0) W)
   (fun c pre W=>c = .ret∧∃ pre' x,pre=pre'++[x]∧(∀ y∈pre',¬ y.1.1 / 16=(loc:Int))∧x.1.1 / 16=(loc:Int)∧RdM w loc (u8V (x.1.1 % 16)) W)
   (fun pre W W' row h hg hr=>⟨h.1,h.2.grown (by have:=BB.out.size;omega) hg hr⟩)
   (fun c pre W W' row h hg hr=>by
    obtain ⟨rfl,pre',x,h1,h2,h3,h4⟩:=h
    exact ⟨rfl,pre',x,h1,h2,h3,h4.grown (by have:=BB.out.size;omega) hg hr⟩)
   ⟨fun x h=>by simp at h,HM2.out⟩
   (fun x a' W=>a' = { tmps:=#[.pointer (some ⟨b,0,none⟩), .int .i64 (t:Int), .int .i64 (loc:Int),undef,undef, .pointer (some ⟨w.heap.size,0,none⟩), .pointer (some ⟨w.heap.size+1,0,none⟩),undef,u8V x.1.1, .pointer (some ⟨b,0,none⟩), .pointer (some ⟨b,0,none⟩), .pointer (some ⟨b,17,none⟩), .slice (some ⟨wb,wo,none⟩) wn wk, .pointer (some ⟨b,0,none⟩), .int .i64 (t:Int), .int .i64 (loc:Int), .int .i64 (q:Int), .pointer (some ⟨wb,wo+q,none⟩), .slice ra rn rc, .func (.func 263) #[] #[.pointer (some ⟨W1.heap.size,0,none⟩)], .int .i64 (x.2:Int),u8V x.1.1,undef,undef,undef,undef,undef,undef,undef,undef,undef,undef,undef,undef,undef,undef],defers:=[] })
   (fun x a' _ W W' row h _ _=>h)
   ?assign ?body ?done ?stop
  case assign =>
   rintro l pre ⟨⟨g,hgm⟩,ix⟩ W K hi hK
   gi_wp2
   exact hK _ _ (KeepsFrom.refl _ _) (KeepB2.refl _ _ _) hi rfl
  case body =>
   rintro l pre ⟨⟨g,hgm⟩,ix⟩ a' W hl ⟨r0,hr0⟩ ⟨hno,hm⟩ rfl hlt
   obtain ⟨hg0,hg47⟩:=HGR.out g hgm
   have HM:=hide hm;have HNO:=hide hno
   have c5:W.cell? ⟨w.heap.size,0,none⟩=some (.int .i64 (loc:Int)):=cellH hm.h5 (k:=0) rfl
   have c6:W.cell? ⟨w.heap.size+1,0,none⟩=some (.int .u8 0):=cellH hm.h6 (k:=0) rfl
   have f6:=frozH hm.h6
   have cl5:=lt_of_cell c5
   have cl6:=lt_of_cell c6
   clear hm hno hr0
   dsimp only
   by_cases hq:g / 16=(loc:Int)
   ·have hqb:(g / 16==(loc:Int))=true:=by rw [hq];simp
    gi_wp2
    exact ⟨(KeepsOthers.setCell _ _ _).from _,rfl,pre,(⟨g,hgm⟩,ix),rfl,HNO.out,hq,HM.out.put _⟩
   ·have hqb:(g / 16==(loc:Int))=false:=beq_false_of_ne hq
    gi_wp2
    exact ⟨KeepsFrom.refl _ _,KeepB2.refl _ _ _,fun x hx=>(List.mem_append.1 hx).elim (HNO.out x) (fun h=>by simp at h;subst h;exact hq),HM.out⟩
  case done =>
   rintro D ys W hD rfl ⟨hno,hm⟩ hK
   have HM:=hide hm;have HNO:=hide hno;have HK:=hide hK
   have c5:W.cell? ⟨w.heap.size,0,none⟩=some (.int .i64 (loc:Int)):=cellH hm.h5 (k:=0) rfl
   have c6:W.cell? ⟨w.heap.size+1,0,none⟩=some (.int .u8 0):=cellH hm.h6 (k:=0) rfl
   have f6:=frozH hm.h6
   have m13:=(ValAt.ofMore (HX.out.below hm.bl)).c3 loc (by omega)
   have cl5:=lt_of_cell c5
   have cl6:=lt_of_cell c6
   have clb:=lt_of_cell m13
   have hll:(loc:Int) < 3:=by omega
   clear hm hno hK
   go_wp2_with fail
   go_region
   go_wp2_with fail
   have hD1:w.heap.size+1≠D:=by omega
   have hKD:=(heap_setCell_other W ⟨w.heap.size+1,0,none⟩ D (u8V (s.q.mm[loc]?.getD 0)) (by show D≠w.heap.size+1;omega)).trans HK.out
   have hme:=(HM.out.put (u8V (s.q.mm[loc]?.getD 0))).drew
   have q6:=hme.gone hD1 (.deferred none)
   refine ⟨by simp, .inl ⟨_,_,rfl,run_takeDeferred hKD, ?_⟩⟩
   refine ⟨u8V (s.q.mm[loc]?.getD 0),by simp [results,Tryz.results255,go_sem,q6], ?_⟩
   refine ⟨?_,hme.bl.trans (belowK_b (w:=W2) (by omega) _ D _ _ hD hKD rfl rfl)⟩
   rw [HSEE.out,seen_no HEN.out HNO.out]
  case stop =>
   rintro D c pre W hD ⟨k0,hk0⟩ ⟨rfl,pre',x,hpe,hno,hxl,hm⟩ hK
   have HM:=hide hm;have HNO:=hide hno;have HK:=hide hK
   clear hm hno hK
   gi_wp2
   have hD1:w.heap.size+1≠D:=by omega
   have q6:=HM.out.gone hD1 (.deferred none)
   refine ⟨by simp, .inl ⟨_,_,rfl,run_takeDeferred HK.out, ?_⟩⟩
   refine ⟨u8V (x.1.1 % 16),by simp [results,Tryz.results255,go_sem,q6], ?_⟩
   refine ⟨?_,HM.out.bl.trans (belowK_b (w:=W2) (by omega) _ D _ _ hD HK.out rfl rfl)⟩
   rw [HSEE.out,seen_at HEN.out (hpe.symm.trans hk0) HNO.out hxl]
 -- end read
end Go.Proofs.YtlddmagfbcomgaaGreat
namespace Go.Proofs.YtlddmagfbcomgaaGreat
open Go.RowKit
theorem valsA_moreL (pv:Value) (q:Sq) (more:Array Value) {t:Nat} (ht:t < 16) {u:Value}:(valsA pv q++more).setIfInBounds t u=(valsA pv q).setIfInBounds t u++more:=by
 rw [Array.setIfInBounds_append_left (by simp;omega)]
theorem ins_op {x:Ins} (h:insValid x=true):x.op=1∨x.op=2∨x.op=3∨x.op=4∨x.op=5:=by
 unfold insValid at h
 repeat' split at h
 all_goals first | omega | (simp at h;done)
theorem bfDo_read {s s':Bf} {split:Bool} {t:Nat} {k:Int} {ln rn:Nat} {val:Int} (h:bfDo s split t k ⟨1,(ln:Int),(rn:Int),val⟩=some s'):s'=⟨⟨s.q.pc.set t (k+1),s.q.rg.set (t * 3+rn) (bfSeen s t (ln:Int) split),s.q.mm⟩,s.bf⟩:=by
 unfold bfDo at h
 simp at h
 exact h.symm
theorem bfDo_put {s s':Bf} {split:Bool} {t:Nat} {k:Int} {ln rn:Nat} {op val:Int} (ho:op=2∨op=3) (h:bfDo s split t k ⟨op,(ln:Int),(rn:Int),val⟩=some s'):s'=⟨⟨s.q.pc.set t (k+1),s.q.rg,s.q.mm⟩,s.bf.set (bfPlace t (ln:Int) split) (s.bf.getD (bfPlace t (ln:Int) split) []++[((ln:Int),sqVal s.q t ⟨op,(ln:Int),(rn:Int),val⟩)])⟩:=by
 unfold bfDo at h
 rcases ho with rfl | rfl
 all_goals
  simp at h
  rw [← h]
  simp
theorem bfDo_fence {s s':Bf} {split:Bool} {t:Nat} {k:Int} {ln rn:Nat} {val:Int} (h:bfDo s split t k ⟨4,(ln:Int),(rn:Int),val⟩=some s'):s'=⟨⟨s.q.pc.set t (k+1),s.q.rg,s.q.mm⟩,s.bf⟩:=by
 unfold bfDo sqDo at h
 simp [isRop,isWop] at h
 exact h.2.symm
theorem seen_empty {s:Bf} {split:Bool} {t ln:Nat} (hl:ln < 3) (h:bfEmpty s t split=true):bfSeen s t (ln:Int) split=s.q.mm.getD ln 0:=by
 rw [bfEmpty_three,List.all_eq_true] at h
 have h1:=h ln (List.mem_range.2 hl)
 rw [List.isEmpty_iff] at h1
 unfold bfSeen
 rw [h1]
 simp
theorem bfDo_swap {s s':Bf} {split:Bool} {t:Nat} {k:Int} {ln rn:Nat} {val:Int} (hl:ln < 3) (h:bfDo s split t k ⟨5,(ln:Int),(rn:Int),val⟩=some s'):s'=⟨⟨s.q.pc.set t (k+1),s.q.rg.set (t * 3+rn) (bfSeen s t (ln:Int) split),s.q.mm.set ln val⟩,s.bf⟩:=by
 unfold bfDo at h
 rw [if_pos (.inr rfl)] at h
 split at h
 ·rename_i he
  rw [seen_empty hl he]
  simp [sqDo,isRop,isWop,sqVal] at h
  rw [← h]
  simp
 ·cases h
def RetTh (w:World) (vp:Value) (split:Bool) (s s':Bf) (us:List Slc) (e:Ending) (w':World):Prop:=∃ (b':Nat) (wv':Slc),e = .returned (mcV 164 b')∧BufB w' b' vp split wv' s'∧w.heap.size≤b'∧Below w.heap.size w w' ∧
 ((s'.bf=s.bf∧Own SlcE 22 w' w.heap.size wv'.v us)∨∃ (k:Nat) (r:List (Int × Int)) (u':Slc),s'.bf=s.bf.set k r∧Own SlcE 22 w' w.heap.size wv'.v (us.set k u')∧Own ByteE 5 w' w.heap.size u'.v (encR2 r))
structure JA (W1:World) (xs:List Int) (x:Int) (c l a:Bool) (f g:Slc) (O:Nat) (W:World):Prop where
 bw:Below W1.heap.size W1 W
 cl:c=true→a=false→Own ByteE 5 W W1.heap.size f.v xs
 lt:l=true→a=false→W.heap[O]? = some (.cells #[.int .u8 x] 5 (0,0))
 ap:a=true→Own ByteE 5 W W1.heap.size g.v (xs++[x])
section
variable {W1 : World} {xs : List Int} {x : Int} {c l a : Bool} {f g : Slc} {O : Nat} {W W' : World}
theorem JA.start (W1:World) (xs:List Int) (x:Int) (f g:Slc) (O:Nat) {W:World} (h:Below W1.heap.size W1 W):JA W1 xs x false false false f g O W:=⟨h,fun h=>(by cases h),fun h=>(by cases h),fun h=>(by cases h)⟩
theorem JA.step (h:JA W1 xs x c l a f g O W) (hb:Below W.heap.size W W'):JA W1 xs x c l a f g O W':=
 ⟨h.bw.trans (hb.mono h.bw.size),fun p q=>(h.cl p q).below hb,fun p q=>(hb.block O (Array.getElem?_eq_some_iff.1 (h.lt p q)).1).trans (h.lt p q),fun p=>(h.ap p).below hb⟩
theorem JA.clone (h:JA W1 xs x false l a f g O W) {f':Slc} (ho:Own ByteE 5 W' W.heap.size f'.v xs) (hb:Below W.heap.size W W'):JA W1 xs x true l a f' g O W':=
 have k:=h.step hb
 ⟨k.bw,fun _ _=>ho.mono h.bw.size,k.lt,k.ap⟩
theorem JA.lit (h:JA W1 xs x c false a f g O W):JA W1 xs x c true a f g W.heap.size (W.alloc (.cells #[.int .u8 x] 5)):=
 have k:=h.step ((Below.refl W.heap.size W).alloc (Nat.le_refl _) (.cells #[.int .u8 x] 5))
 ⟨k.bw,k.cl,fun _ _=>heap_alloc_new W _,k.ap⟩
theorem JA.app (h:JA W1 xs x true true false f g O W) {g':Slc} (ho:Own ByteE 5 W' W1.heap.size g'.v (xs++[x])) (hg:W.grownBy W' f.v.ownBlock):JA W1 xs x true true true f g' O W':=
 ⟨h.bw.grown hg h.bw.size fun q hq=>(World.ownsRow.lt (h.cl rfl rfl) q hq).1,fun _ q=>(by cases q),fun _ q=>(by cases q),fun _=>ho⟩
end
end Go.Proofs.YtlddmagfbcomgaaGreat