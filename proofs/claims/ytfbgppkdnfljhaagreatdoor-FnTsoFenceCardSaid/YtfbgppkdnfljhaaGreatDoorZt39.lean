/-
  What the listed variables give: the names of relations and the words of rules. No condition.
-/
import Derived.Test.YtfbgppkdnfljhaaGreatDoorZt03
import Derived.Shelf.Strings.Count
import Derived.Lib.SplitLaws
import Derived.Test.YtfbgppkdnfljhaaGreatDoorZt35
import Derived.Test.YtfbgppkdnfljhaaGreatDoorZt34
import Derived.Test.YtfbgppkdnfljhaaGreatDoorZt31
import Derived.LaidSub
import Derived.Lay
set_option maxHeartbeats 6400000
set_option maxRecDepth 100000
namespace Go.Proofs.YtfbgppkdnfljhaaGreatDoor
open Go.RowKit Go.Shelf
theorem strE_map (xs:List ByteArray):xs.flatMap StrE.c=xs.map Value.string:=by
 induction xs with
 | nil=>rfl
 | cons x xs ih=>rw [List.flatMap_cons,ih];rfl
theorem strIndex_one (s:ByteArray) (c:UInt8) (w:World):Calls Tryz.prog 211 #[.string s, .string ⟨#[c]⟩] w fun e w'=>e = .returned (.int .i64 (Lib.indexByte s.data.toList c))∧w'=w:=by
 have h:=Any.strings_Index_one Tryz.lays143 s c w
 change Calls Tryz.prog 211 _ _ _ at h
 exact h
theorem strCount_one (s:ByteArray) (c:UInt8) (w:World):Calls Tryz.prog 210 #[.string s, .string ⟨#[c]⟩] w fun e w'=>e = .returned (.int .i64 (Lib.countByte s.data.toList c))∧w'=w:=by
 have h:=Any.strings_Count_one (L:={ Tryz.lays221 with }) s c w
 change Calls Tryz.prog 210 _ _ _ at h
 exact h
theorem byteIndex_one (s:ByteArray) (c:UInt8):Lib.indexB s ⟨#[c]⟩=Lib.indexByte s.data.toList c:=Lib.index_one _ _
theorem byteCount_one (s:ByteArray) (c:UInt8):Lib.countB s ⟨#[c]⟩=Lib.countByte s.data.toList c:=Lib.count_one _ _
theorem byteIndex_lt {l:List UInt8} {c:UInt8} {i:Nat} (h:Lib.indexByte l c=i):i < l.length:=by
 have:=(Lib.indexByte_some h).1
 exact (List.getElem?_eq_some_iff.1 this).1
theorem strSplit_one (s:ByteArray) (c:UInt8) (w:World) (hs:s.size≤900):Calls Tryz.prog 120 #[.string s, .string ⟨#[c]⟩] w (RetOwn StrE 9 w (Lib.splitB ⟨#[c]⟩ 0 (Lib.countB s ⟨#[c]⟩) s)):=by
 have h1c:1≤(⟨#[c]⟩:ByteArray).size:=Nat.le_refl 1
 have hle:=Lib.countB_le ⟨#[c]⟩ h1c s.size s (Nat.le_refl _)
 have hlen:=Lib.splitB_all ⟨#[c]⟩ h1c 0 _ s rfl
 have g:=Any.strings_genSplit_core Tryz.lays221 (by kernel_rfl) s ⟨#[c]⟩ 0 (-1) (Lib.countB s ⟨#[c]⟩+1) w (by omega) h1c (Nat.zero_le _)
  (fun x a _=>by rw [byteIndex_one];exact strIndex_one x c _) (by rw [byteCount_one];exact strCount_one s c w) (by decide) (by decide) (by rw [if_pos (by decide)];omega)
 change Calls Tryz.prog 164 _ _ _ at g
 rw [Nat.add_sub_cancel,hlen,Int.ofNat_zero] at g
 have e2:Lib.cellsOf (Lib.splitB ⟨#[c]⟩ 0 (Lib.countB s ⟨#[c]⟩) s) (Lib.countB s ⟨#[c]⟩+1)=((Lib.splitB ⟨#[c]⟩ 0 (Lib.countB s ⟨#[c]⟩) s).map Value.string).toArray:=by rw [← hlen];exact Lib.cellsOf_full _
 rw [e2] at g
 have G:=hide g
 have HL:=hide hlen
 have hmx:(Lib.countB s ⟨#[c]⟩+1)≤1000:=by omega
 clear g e2 hlen hle
 generalize Lib.splitB ⟨#[c]⟩ 0 (Lib.countB s ⟨#[c]⟩) s=xs at *
 generalize Lib.countB s ⟨#[c]⟩+1=n at *
 go_enter Tryz.func120,Tryz.ntmps120
 go_wp2_with fail
 (with_reducible refine G.out.mono ?_);rintro e w1 ⟨rfl,rfl⟩
 go_wp2_with fail
 go_ret
 exact ⟨_,rfl,Own.lit (E:=StrE) (Nat.le_refl _) xs _ n (by rw [strE_map]) HL.out.symm (by omega),belowAlloc _ _⟩
def cutS (s:ByteArray) (c:UInt8):ByteArray × ByteArray × Bool:=
 if 0≤Lib.indexByte s.data.toList c then (s.extract 0 (Lib.indexByte s.data.toList c).toNat,s.extract ((Lib.indexByte s.data.toList c).toNat+1) s.size,true) else (s,⟨#[]⟩,false)
theorem liteIndex_one (s:ByteArray) (c:UInt8) (w:World):Calls Tryz.prog 212 #[.string s, .string ⟨#[c]⟩] w fun e w'=>e = .returned (.int .i64 (Lib.indexByte s.data.toList c))∧w'=w:=by
 have h:=Any.stringslite_Index_one (L:={ Tryz.lays143 with }) s c w
 change Calls Tryz.prog 212 _ _ _ at h
 exact h
theorem liteCut_one (s:ByteArray) (c:UInt8) (w:World) (hs:s.size≤900):Calls Tryz.prog 165 #[.string s, .string ⟨#[c]⟩] w fun e w'=>e = .returned (.tuple #[.string (cutS s c).1, .string (cutS s c).2.1, .bool (cutS s c).2.2])∧Below w.heap.size w w':=by
 have HI:=hide (liteIndex_one s c w)
 have hge:=Lib.indexByte_ge s.data.toList c
 have hlt:=fun (i:Nat) (h:Lib.indexByte s.data.toList c=i)=>byteIndex_lt h
 have hsl:s.data.toList.length=s.size:=by simp
 have CE:Hid (cutS s c=if 0≤Lib.indexByte s.data.toList c then (s.extract 0 (Lib.indexByte s.data.toList c).toNat,s.extract ((Lib.indexByte s.data.toList c).toNat+1) s.size,true) else (s,⟨#[]⟩,false)):=hide rfl
 have hc1:(⟨#[c]⟩:ByteArray).size=1:=rfl
 generalize cutS s c=R at *
 generalize Lib.indexByte s.data.toList c=i at *
 generalize (⟨#[c]⟩:ByteArray)=sep at *
 by_cases h0:0≤i
 ·obtain ⟨k,rfl⟩:=Int.eq_ofNat_of_zero_le h0
  have hk:=hlt k rfl
  rw [hsl] at hk
  have h0':decide ((k:Int)≥0)=true:=decide_eq_true (by omega)
  obtain rfl:R=(s.extract 0 k,s.extract (k+1) s.size,true):=by rw [CE.out,if_pos h0];rfl
  clear CE hlt hge h0
  go_enter Tryz.func165,Tryz.ntmps165
  go_wp2_with fail
  (with_reducible refine HI.out.mono ?_);rintro e w1 ⟨rfl,rfl⟩
  go_wp2_with fail
  refine wp_region_bw (by kernel_rfl) (by kernel_rfl) ?_
  repeat (go_big_quiet_step (fail))
  refine wpQuiet_nil ?_
  intro w5 hb5
  go_wp2_with fail
  refine bodyPost_ret (v:=.tuple #[.string (s.extract 0 k), .string (s.extract (k+1) s.size), .bool true]) (by simp [results,Tryz.results165,go_sem]) rfl ⟨rfl,hb5⟩
 ·have h0':decide (i≥0)=false:=decide_eq_false (by omega)
  obtain rfl:R=(s,⟨#[]⟩,false):=by rw [CE.out,if_neg h0]
  clear CE hlt h0
  go_enter Tryz.func165,Tryz.ntmps165
  go_wp2_with fail
  (with_reducible refine HI.out.mono ?_);rintro e w1 ⟨rfl,rfl⟩
  go_wp2_with fail
  refine bodyPost_ret (v:=.tuple #[.string s, .string ⟨#[]⟩, .bool false]) (by simp [results,Tryz.results165,go_sem]) rfl ⟨rfl,Below.refl _ _⟩
theorem strCut_one (s:ByteArray) (c:UInt8) (w:World) (hs:s.size≤900):Calls Tryz.prog 121 #[.string s, .string ⟨#[c]⟩] w fun e w'=>e = .returned (.tuple #[.string (cutS s c).1, .string (cutS s c).2.1, .bool (cutS s c).2.2])∧Below w.heap.size w w':=by
 have HC:=hide (liteCut_one s c w hs)
 generalize cutS s c=R at *
 obtain ⟨r1,r2,r3⟩:=R
 go_enter Tryz.func121,Tryz.ntmps121
 go_wp2_with fail
 (with_reducible refine HC.out.mono ?_);rintro e w1 ⟨rfl,hb1⟩
 go_wp2_with fail
 refine bodyPost_ret (v:=.tuple #[.string r1, .string r2, .bool r3]) (by simp [results,Tryz.results121,go_sem]) rfl ⟨rfl,hb1⟩
theorem IndexS_at (v:Value) (xs:List ByteArray) (x y:ByteArray) (k:Nat) (w:World) (hx:Rep StrE w v xs) (hk:xs[k]? = some y) (he:(x.toList==y.toList)=true) (hno:∀ j z,j < k→xs[j]? = some z→(x.toList==z.toList)=false) :
 Calls Tryz.prog 122 #[v, .string x] w fun e w'=>e = .returned (.int .i64 k)∧w=w':=by
 obtain ⟨a,c,rfl,hc1,hc2,hc3,hx⟩:=hx.open
 have HX:=hide hx;clear hx
 have hkn:=(List.getElem?_eq_some_iff.1 hk).1
 have HK:=hide hk;have HN:=hide hno
 clear hk hno
 generalize hn:xs.length=n at *
 have H:=hide hn;clear hn
 go_enter Tryz.func122,Tryz.ntmps122
 go_wp2_with fail
 go_loop [8] (fun i => ∃ t:Nat,t≤k∧i = .int .i64 t) (fun i=>n - (intOf i).toNat)
 case atStart=>exact ⟨0,Nat.zero_le _,rfl⟩
 case round =>
  obtain ⟨t,ht,rfl⟩:=hrel
  have hlt:t < n:=by omega
  obtain ⟨z,hz⟩:=get_of_lt (xs:=xs) (k:=t) (by rw [H.out];exact hlt)
  obtain ⟨b,o,rfl,hbl,i0⟩:=HX.out.str hz
  have hlt':=nat_of_lt hlt
  by_cases htk:t=k
  ·subst htk
   obtain rfl:z=y:=Option.some.inj (hz.symm.trans HK.out)
   clear hz
   go_wp2_with fail
   go_ret
   exact ⟨rfl,rfl⟩
  ·have k1:=HN.out t z (by omega) hz
   clear hz
   go_wp2_with fail
   go_round
   case rel=>exact ⟨t+1,by omega,by go_num⟩
   case measure=>simp [intOf];omega
def Glob2 (w:World):Prop:=∀ (k:Nat) (s:ByteArray),wordsR[k]? = some s→w.cell? ⟨0,k,none⟩=some (.string s)
theorem Glob2.below {w w':World} (h:Glob2 w) (hb:Below w.heap.size w w'):Glob2 w':=fun k s hs=>(hb.cell (p:=⟨0,k,none⟩) (lt_of_cell (h k s hs))).trans (h k s hs)
theorem Glob2.rep {w:World} (h:Glob2 w):Rep StrE w (.slice (some ⟨0,0,none⟩) 4 4) wordsR:=by
 refine ⟨some ⟨0,0,none⟩,4,rfl,by decide,by decide,fun i x hx=>⟨0,0,rfl,fun j u hu => ?_⟩⟩
 cases j with
 | zero =>
  simp only [StrE,List.getElem?_cons_zero,Option.some.injEq] at hu
  subst hu
  have:=h i x hx
  simpa [StrE] using this
 | succ j=>simp [StrE] at hu
theorem Tryz.Builder_Extra_156:Builder.Extra Tryz.prog Tryz.lays156_ren:={
 sizeBuilder:=by kernel_rfl
 liesBuilder:=by kernel_rfl
 t5:=Tryz.underlying5
 a5:=Tryz.isAgg5
 z5:=Tryz.sizeOf5
 v5:=Tryz.zeroValue5
 infoByte:=by kernel_rfl
 cellsByte:=by kernel_rfl
 sizeByte:=by kernel_rfl
 neB5:=by decide }
theorem strJoin_any (v:Value) (xs:List ByteArray) (sep:ByteArray) (w:World) (base:Nat) (h:Own StrE 9 w base v xs) (hn:xs.length≤1000) (hl:(Lib.join (xs.map (·.data.toList)) sep.data.toList).length≤100000) :
 Calls Tryz.prog 168 #[v, .string sep] w fun e w'=>e = .returned (.string ⟨(Lib.join (xs.map (·.data.toList)) sep.data.toList).toArray⟩)∧Below w.heap.size w w':=by
 rcases h.shape with ⟨rfl,rfl⟩ | ⟨g,cap,rfl,h1,h2,h3,h4⟩
 ·have c:=Any.strings_Join_none Tryz.lays156 Tryz.Builder_Extra_156 none 0 sep w
  change Calls Tryz.prog 168 _ _ _ at c
  exact c.mono fun e w' ⟨he,hw⟩=>⟨he,hw ▸ Below.refl _ _⟩
 ·have c:=Any.strings_Join Tryz.lays156 Tryz.Builder_Extra_156 g 0 cap xs sep w (fun j x hx=>by have:=h.cell (j:=0) (u:=.string x) hx rfl;simpa [StrE] using this) h2 (by omega) h3 (by omega)
  change Calls Tryz.prog 168 _ _ _ at c
  exact c
end Go.Proofs.YtfbgppkdnfljhaaGreatDoor
namespace Go.Proofs.YtfbgppkdnfljhaaGreatDoor
open Go.RowKit
def partT (r:Ru):ByteArray:=wordR r.kind++⟨#[32]⟩++textR 12 r.e
def joinT (m:List Ru):ByteArray:=⟨(Lib.join ((m.map partT).map (·.data.toList)) [47]).toArray⟩
def tpL (ps:List ByteArray) (n k:Nat):List ByteArray:=ps.take k++List.replicate (n - k) ⟨#[]⟩
theorem tpL_full {ps:List ByteArray} {n:Nat} (h:ps.length=n):tpL ps n n=ps:=by
 subst h;simp [tpL]
theorem tpL_get {ps:List ByteArray} {n k:Nat} (h:ps.length=n) (hk:k < n):(tpL ps n k)[k]? = some ⟨#[]⟩:=by
 unfold tpL
 rw [List.getElem?_append_right (by simp;omega)]
 have:k - (List.take k ps).length=0:=by simp;omega
 rw [this,List.getElem?_replicate,if_pos (by omega)]
theorem tpL_set {ps:List ByteArray} {n k:Nat} {x:ByteArray} (h:ps.length=n) (hx:ps[k]? = some x):(tpL ps n k).set k x=tpL ps n (k+1):=by
 have hk:=(List.getElem?_eq_some_iff.1 hx).1
 unfold tpL
 rw [List.set_append_right _ _ (by simp;omega),List.take_add_one,hx]
 have h0:k - (List.take k ps).length=0:=by simp;omega
 have h1:n - k=(n - (k+1))+1:=by omega
 rw [h0,h1,List.replicate_succ,List.set_cons_zero]
 simp
theorem joinT_le {m:List Ru} (hv:∀ r∈m,ruleOk r=true) (hl:m.length≤5):(Lib.join ((m.map partT).map (·.data.toList)) [47]).length≤100000:=by
 have h1:∀ (m:List Ru),(∀ r∈m,ruleOk r=true)→(Lib.joinTail [47] ((m.map partT).map (·.data.toList))).length≤2000 * m.length:=by
  intro m
  induction m with
  | nil=>intro _;simp [Lib.joinTail]
  | cons r m ih =>
   intro h
   have h2:=ih fun q hq=>h q (List.mem_cons_of_mem _ hq)
   obtain ⟨hk,hvr⟩:=ruleOk_kind (h r List.mem_cons_self)
   have h3:=validR_size hvr
   have h4:=wordR_size r.kind
   have h5:(partT r).data.toList.length≤1900:=by
    have:(partT r).data.toList.length=(partT r).size:=by simp
    rw [this]
    unfold partT
    rw [ByteArray.size_append,ByteArray.size_append]
    have:(⟨#[32]⟩:ByteArray).size=1:=rfl
    omega
   unfold Lib.joinTail at h2 ⊢
   simp only [List.map_cons,List.flatten_cons,List.length_append,List.length_cons,List.length_nil]
   omega
 cases m with
 | nil=>simp [Lib.join_nil]
 | cons r m =>
  have h2:=h1 m fun q hq=>hv q (List.mem_cons_of_mem _ hq)
  obtain ⟨hk,hvr⟩:=ruleOk_kind (hv r List.mem_cons_self)
  have h3:=validR_size hvr
  have h4:=wordR_size r.kind
  have h5:(partT r).data.toList.length≤1900:=by
   have:(partT r).data.toList.length=(partT r).size:=by simp
   rw [this]
   unfold partT
   rw [ByteArray.size_append,ByteArray.size_append]
   have:(⟨#[32]⟩:ByteArray).size=1:=rfl
   omega
  rw [List.map_cons,List.map_cons,Lib.join_cons,List.length_append]
  simp only [List.length_cons] at hl
  omega
theorem FormatModel_any (a:Option Addr) (n c:Nat) (m:List Ru) (w:World) (hx:RepM 0 w ⟨a,n,c⟩ m) (hok:modelOk m=true) (hg:Glob w) (hg2:Glob2 w) :
 Calls Tryz.prog 124 #[.slice a n c] w fun e w'=>e = .returned (.string (joinT m))∧Below w.heap.size w w':=by
 have hml:1≤m.length∧m.length≤5∧∀ r∈m,ruleOk r=true:=by
  unfold modelOk at hok
  simp only [Bool.and_eq_true,decide_eq_true_eq,List.all_eq_true] at hok
  exact ⟨hok.1,hok.2.1,hok.2.2⟩
 obtain ⟨hm1,hm5,hrk⟩:=hml
 have HV:=hide (ModelValid_any a n c m w hx hg)
 rw [hok] at HV
 obtain ⟨e1,hc1,hc2,hc3⟩:=hx.open
 simp only at e1 hc1 hc2 hc3
 have HX:=hide hx;have HG:=hide hg;have HG2:=hide hg2
 have H:=hide e1.symm
 rw [← e1] at hm1 hm5
 have HRK:=hide (fun r (hr:r∈m)=>(ruleOk_kind (hrk r hr)))
 have HJL:=hide (joinT_le hrk (by omega))
 have JE:Hid (joinT m=⟨(Lib.join ((m.map partT).map (·.data.toList)) [47]).toArray⟩):=hide rfl
 have PL:(m.map partT).length=n:=by rw [List.length_map];exact e1.symm
 have TG:=hide (fun k hk=>tpL_get (k:=k) PL hk)
 have TS:=hide (fun k x hx=>tpL_set (k:=k) (x:=x) PL hx)
 have TF:=hide (tpL_full PL)
 have T0:Hid (tpL (m.map partT) n 0=List.replicate n ⟨#[]⟩):=hide (by simp [tpL])
 have HPG:=hide (fun (k:Nat) (r:Ru) (h:m[k]? = some r)=>(by rw [List.getElem?_map,h];rfl:(m.map partT)[k]? = some (wordR r.kind++⟨#[32]⟩++textR 12 r.e)))
 have HPL:=hide PL
 rw [← e1] at hc1 hc2
 clear hx hok hg hg2 hrk e1 PL
 generalize tpL (m.map partT) n=TP at *
 generalize m.map partT=ps at *
 generalize joinT m=R at *
 go_enter Tryz.func124,Tryz.ntmps124
 go_wp2_with fail
 (with_reducible refine HV.out.mono ?_);rintro e w1 ⟨rfl,hb1⟩
 have HB1:=hide hb1
 clear HV hb1
 go_wp2_with (at_make;refine wpList_make StrE 9 ⟨#[]⟩ Tryz.infoStr rfl Tryz.underlying63 n (by decide) (by omega) rfl _ _ rfl rfl rfl ?_;intro w2 hown hgr)
 have hb2:=(below_of_grown hgr)
 have HB2:=hide (HB1.out.trans (hb2.mono HB1.out.size))
 rw [← T0.out] at hown
 have HO:=hide (hown.mono HB1.out.size)
 clear hown hgr hb2
 go_loopw [14] (fun i wr => ∃ k:Nat,k≤n∧i = .int .i64 k∧Hid (Own StrE 9 wr w.heap.size (.slice (some ⟨w1.heap.size,0,none⟩) n n) (TP k))∧Hid (Below w.heap.size w wr)) (fun i _=>n - (intOf i).toNat)
 case atStart=>exact ⟨0,Nat.zero_le _,rfl,HO,HB2⟩
 case round =>
  obtain ⟨k,hk,rfl,HO,HB⟩:=hrel
  by_cases hlt:k < n
  ·have hlt':=nat_of_lt hlt
   obtain ⟨r,hrm⟩:=get_of_lt (xs:=m) (k:=k) (by rw [H.out];exact hlt)
   obtain ⟨b,o,s,rfl,hbl,i0,i1,i2,i3,i4⟩:=(HX.out.below HB.out).row hrm
   obtain ⟨hkd,hvr⟩:=HRK.out r (List.mem_of_getElem? hrm)
   have zt:=validR_size hvr
   have HF:=hide (fun W (hb:Below wr.heap.size wr W)=>FormatRelExpr_any r.e s.a s.n s.cap W hvr (i4.below hb) (HG.out.below (HB.out.trans (hb.mono HB.out.size))))
   have HTS:=hide (TS.out k _ (HPG.out k r hrm))
   have HTG:=hide (TG.out k hlt)
   obtain ⟨q,hq,hq4,hqw⟩:=words_at hkd
   have zx:=wordR_size r.kind
   have HW:=hide (fun W (hb:Below wr.heap.size wr W)=>(HG2.out.below (HB.out.trans (hb.mono HB.out.size))) q _ hqw)
   rw [hq] at i0
   have hqi:(0:Int)≤(q:Int):=by omega
   have hqj:(q:Int) < 4:=by omega
   have HBA:=hide (belowAlloc wr (.cells #[.int .i64 q, .int .i64 r.e.op, .string r.e.nm, .slice s.a s.n s.cap] 54))
   have BX:=hide (BoxU.new wr q r.e.op r.e.nm s 54)
   have hza:(wr.alloc (.cells #[.int .i64 q, .int .i64 r.e.op, .string r.e.nm, .slice s.a s.n s.cap] 54)).heap.size=wr.heap.size+1:=by simp
   have z32:(⟨#[32]⟩:ByteArray).size=1:=rfl
   clear hrm i4 hvr hkd hq hqw
   generalize textR 12 r.e=t at *
   generalize wordR r.kind=x at *
   have zxt:(x++⟨#[32]⟩:ByteArray).size≤100:=by rw [ByteArray.size_append];omega
   generalize hwa:wr.alloc (.cells #[.int .i64 q, .int .i64 r.e.op, .string r.e.nm, .slice s.a s.n s.cap] 54)=wa at *
   go_wp2_with fail
   clear hwa i0 i1 i2 i3
   -- reg part
   refine wp_region_inv (n:=12) (by kernel_rfl) rfl (by kernel_rfl) (by kernel_rfl) (fun A ls a' W => ∃ (x19 x20 x21 x22 x23 x24 x25 x26 x27 x28 x29 x30:Value),a'=putAll A [(19,x19),(20,x20),(21,x21),(22,x22),(23,x23),(24,x24),(25,x25),(26,x26),(27,x27),(28,x28),(29,x29),(30,x30)]∧Vd ls 0 [] x19 (.slice (some ⟨w1.heap.size,0,none⟩) n n)∧Vd ls 1 [] x20 (.int .i64 k)∧Vd ls 2 [] x21 (.pointer (some ⟨wr.heap.size,0,none⟩))∧Vd ls 3 [] x22 (.int .i64 q)∧Vd ls 4 [] x23 (.pointer (some ⟨0,q,none⟩))∧Vd ls 5 [] x24 (.string x)∧Vd ls 6 [] x25 (.string (x++⟨#[32]⟩))∧Vd ls 7 [] x26 (.pointer (some ⟨wr.heap.size,1,none⟩))∧Vd ls 8 [] x27 (.agg #[.int .i64 r.e.op, .string r.e.nm, .slice s.a s.n s.cap])∧Vd ls 9 [] x28 (.string t)∧Vd ls 10 [] x29 (.string (x++⟨#[32]⟩++t))∧Vd ls 11 [] x30 (.pointer (some ⟨w1.heap.size,k,none⟩))∧Below wa.heap.size wa W) ?r0 ?rs ?re
   case r0 =>
    exact ⟨u19,u20,u21,u22,u23,u24,u25,u26,u27,u28,u29,u30,by simp only [putAll,Act.put,List.setIfInBounds_toArray,List.set_cons_succ,List.set_cons_zero],Vd.start,Vd.start,Vd.start,Vd.start,Vd.start,Vd.start,Vd.start,Vd.start,Vd.start,Vd.start,Vd.start,Vd.start,by exact (Below.refl _ _).drew⟩
   case rs =>
    rintro ls a' W hs hnl ⟨x19,x20,x21,x22,x23,x24,x25,x26,x27,x28,x29,x30,ha,cv0,cv1,cv2,cv3,cv4,cv5,cv6,cv7,cv8,cv9,cv10,cv11,hJ⟩ k o hkn mc K hK
    simp only [putAll,Act.put,List.setIfInBounds_toArray,List.set_cons_succ,List.set_cons_zero] at ha
    subst ha
    have hkc:k=0∨k=1∨k=2∨k=3∨k=4∨k=5∨k=6∨k=7∨k=8∨k=9∨k=10∨k=11:=by omega
    have hop:=mc.op
    have haf:=mc.after
    rcases hkc with rfl | rfl | rfl | rfl | rfl | rfl | rfl | rfl | rfl | rfl | rfl | rfl
    ·simp at hop;subst hop;simp [Region.binds] at haf
     go_simp
     exact hK _ _ ⟨_,_,_,_,_,_,_,_,_,_,_,_,by simp only [putAll,Act.put,List.setIfInBounds_toArray,List.set_cons_succ,List.set_cons_zero],Vd.same (by simp),cv1.set (by decide),cv2.set (by decide),cv3.set (by decide),cv4.set (by decide),cv5.set (by decide),cv6.set (by decide),cv7.set (by decide),cv8.set (by decide),cv9.set (by decide),cv10.set (by decide),cv11.set (by decide),by exact hJ⟩
    ·simp at hop;subst hop;simp [Region.binds] at haf
     go_simp
     exact hK _ _ ⟨_,_,_,_,_,_,_,_,_,_,_,_,by simp only [putAll,Act.put,List.setIfInBounds_toArray,List.set_cons_succ,List.set_cons_zero],cv0.set (by decide),Vd.same (by simp),cv2.set (by decide),cv3.set (by decide),cv4.set (by decide),cv5.set (by decide),cv6.set (by decide),cv7.set (by decide),cv8.set (by decide),cv9.set (by decide),cv10.set (by decide),cv11.set (by decide),by exact hJ⟩
    ·simp at hop;subst hop;simp [Region.binds] at haf
     go_simp
     exact hK _ _ ⟨_,_,_,_,_,_,_,_,_,_,_,_,by simp only [putAll,Act.put,List.setIfInBounds_toArray,List.set_cons_succ,List.set_cons_zero],cv0.set (by decide),cv1.set (by decide),Vd.same (by simp),cv3.set (by decide),cv4.set (by decide),cv5.set (by decide),cv6.set (by decide),cv7.set (by decide),cv8.set (by decide),cv9.set (by decide),cv10.set (by decide),cv11.set (by decide),by exact hJ⟩
    ·simp at hop;subst hop;simp [Region.binds] at haf
     obtain rfl:=(cv2.get (by simp [haf])).symm
     obtain ⟨xl,x0,x1,x2,x3, -⟩:=BX.out.below hJ
     go_simp
     exact hK _ _ ⟨_,_,_,_,_,_,_,_,_,_,_,_,by simp only [putAll,Act.put,List.setIfInBounds_toArray,List.set_cons_succ,List.set_cons_zero],cv0.set (by decide),cv1.set (by decide),cv2.set (by decide),Vd.same (by simp),cv4.set (by decide),cv5.set (by decide),cv6.set (by decide),cv7.set (by decide),cv8.set (by decide),cv9.set (by decide),cv10.set (by decide),cv11.set (by decide),by exact hJ⟩
    ·simp at hop;subst hop;simp [Region.binds] at haf
     obtain rfl:=(cv3.get (by simp [haf])).symm
     go_simp
     exact hK _ _ ⟨_,_,_,_,_,_,_,_,_,_,_,_,by simp only [putAll,Act.put,List.setIfInBounds_toArray,List.set_cons_succ,List.set_cons_zero],cv0.set (by decide),cv1.set (by decide),cv2.set (by decide),cv3.set (by decide),Vd.same (by simp),cv5.set (by decide),cv6.set (by decide),cv7.set (by decide),cv8.set (by decide),cv9.set (by decide),cv10.set (by decide),cv11.set (by decide),by exact hJ⟩
    ·simp at hop;subst hop;simp [Region.binds] at haf
     obtain rfl:=(cv4.get (by simp [haf])).symm
     have cw:=HW.out W (HBA.out.trans (hJ.mono HBA.out.size))
     have cwl:=lt_of_cell cw
     go_simp
     exact hK _ _ ⟨_,_,_,_,_,_,_,_,_,_,_,_,by simp only [putAll,Act.put,List.setIfInBounds_toArray,List.set_cons_succ,List.set_cons_zero],cv0.set (by decide),cv1.set (by decide),cv2.set (by decide),cv3.set (by decide),cv4.set (by decide),Vd.same (by simp),cv6.set (by decide),cv7.set (by decide),cv8.set (by decide),cv9.set (by decide),cv10.set (by decide),cv11.set (by decide),by exact hJ⟩
    ·simp at hop;subst hop;simp [Region.binds] at haf
     obtain rfl:=(cv5.get (by simp [haf])).symm
     go_simp
     rw [if_neg (by omega)]
     try go_simp
     exact hK _ _ ⟨_,_,_,_,_,_,_,_,_,_,_,_,by simp only [putAll,Act.put,List.setIfInBounds_toArray,List.set_cons_succ,List.set_cons_zero],cv0.set (by decide),cv1.set (by decide),cv2.set (by decide),cv3.set (by decide),cv4.set (by decide),cv5.set (by decide),Vd.same (by simp),cv7.set (by decide),cv8.set (by decide),cv9.set (by decide),cv10.set (by decide),cv11.set (by decide),by exact hJ⟩
    ·simp at hop;subst hop;simp [Region.binds] at haf
     go_simp
     exact hK _ _ ⟨_,_,_,_,_,_,_,_,_,_,_,_,by simp only [putAll,Act.put,List.setIfInBounds_toArray,List.set_cons_succ,List.set_cons_zero],cv0.set (by decide),cv1.set (by decide),cv2.set (by decide),cv3.set (by decide),cv4.set (by decide),cv5.set (by decide),cv6.set (by decide),Vd.same (by simp),cv8.set (by decide),cv9.set (by decide),cv10.set (by decide),cv11.set (by decide),by exact hJ⟩
    ·simp at hop;subst hop;simp [Region.binds] at haf
     obtain rfl:=(cv7.get (by simp [haf])).symm
     obtain ⟨xl,x0,x1,x2,x3, -⟩:=BX.out.below hJ
     go_simp
     exact hK _ _ ⟨_,_,_,_,_,_,_,_,_,_,_,_,by simp only [putAll,Act.put,List.setIfInBounds_toArray,List.set_cons_succ,List.set_cons_zero],cv0.set (by decide),cv1.set (by decide),cv2.set (by decide),cv3.set (by decide),cv4.set (by decide),cv5.set (by decide),cv6.set (by decide),cv7.set (by decide),Vd.same (by simp),cv9.set (by decide),cv10.set (by decide),cv11.set (by decide),by exact hJ⟩
    ·simp at hop;subst hop;simp [Region.binds] at haf
     obtain rfl:=(cv8.get (by simp [haf])).symm
     go_simp
     go_at_call 167
     (with_reducible refine (HF.out W (HBA.out.trans (hJ.mono HBA.out.size))).mono ?_);rintro e u ⟨rfl,hb⟩
     exact hK _ _ ⟨_,_,_,_,_,_,_,_,_,_,_,_,by simp only [putAll,Act.put,List.setIfInBounds_toArray,List.set_cons_succ,List.set_cons_zero],cv0.set (by decide),cv1.set (by decide),cv2.set (by decide),cv3.set (by decide),cv4.set (by decide),cv5.set (by decide),cv6.set (by decide),cv7.set (by decide),cv8.set (by decide),Vd.same (by simp),cv10.set (by decide),cv11.set (by decide),by exact hJ.trans (hb.mono hJ.size)⟩
    ·simp at hop;subst hop;simp [Region.binds] at haf
     obtain rfl:=(cv6.get (by simp [haf])).symm
     obtain rfl:=(cv9.get (by simp [haf])).symm
     go_simp
     rw [if_neg (by omega)]
     try go_simp
     exact hK _ _ ⟨_,_,_,_,_,_,_,_,_,_,_,_,by simp only [putAll,Act.put,List.setIfInBounds_toArray,List.set_cons_succ,List.set_cons_zero],cv0.set (by decide),cv1.set (by decide),cv2.set (by decide),cv3.set (by decide),cv4.set (by decide),cv5.set (by decide),cv6.set (by decide),cv7.set (by decide),cv8.set (by decide),cv9.set (by decide),Vd.same (by simp),cv11.set (by decide),by exact hJ⟩
    ·simp at hop;subst hop;simp [Region.binds] at haf
     obtain rfl:=(cv0.get (by simp [haf])).symm
     obtain rfl:=(cv1.get (by simp [haf])).symm
     go_simp
     exact hK _ _ ⟨_,_,_,_,_,_,_,_,_,_,_,_,by simp only [putAll,Act.put,List.setIfInBounds_toArray,List.set_cons_succ,List.set_cons_zero],cv0.set (by decide),cv1.set (by decide),cv2.set (by decide),cv3.set (by decide),cv4.set (by decide),cv5.set (by decide),cv6.set (by decide),cv7.set (by decide),cv8.set (by decide),cv9.set (by decide),cv10.set (by decide),Vd.same (by simp),by exact hJ⟩
   case re =>
    rintro ls a' W hall ⟨x19,x20,x21,x22,x23,x24,x25,x26,x27,x28,x29,x30,ha,cv0,cv1,cv2,cv3,cv4,cv5,cv6,cv7,cv8,cv9,cv10,cv11,hJ⟩ o hop
    simp only [putAll,Act.put,List.setIfInBounds_toArray,List.set_cons_succ,List.set_cons_zero] at ha
    subst ha
    simp at hop;subst hop
    obtain rfl:=(cv0.get (hall 0 (by decide))).symm
    obtain rfl:=(cv1.get (hall 1 (by decide))).symm
    obtain rfl:=(cv2.get (hall 2 (by decide))).symm
    obtain rfl:=(cv3.get (hall 3 (by decide))).symm
    obtain rfl:=(cv4.get (hall 4 (by decide))).symm
    obtain rfl:=(cv5.get (hall 5 (by decide))).symm
    obtain rfl:=(cv6.get (hall 6 (by decide))).symm
    obtain rfl:=(cv7.get (hall 7 (by decide))).symm
    obtain rfl:=(cv8.get (hall 8 (by decide))).symm
    obtain rfl:=(cv9.get (hall 9 (by decide))).symm
    obtain rfl:=(cv10.get (hall 10 (by decide))).symm
    obtain rfl:=(cv11.get (hall 11 (by decide))).symm
    have HOW:=hide ((HO.out.below HBA.out).below hJ)
    have cz:=HOW.out.cell (j:=0) (u:=.string ⟨#[]⟩) HTG.out rfl
    simp only [StrE,Nat.mul_one,Nat.add_zero] at cz
    have fz:=HOW.out.frozen k
    have czl:=lt_of_cell cz
    go_simp
    have HJB:=hide ((HB.out.trans (HBA.out.mono HB.out.size)).trans (hJ.mono (HB.out.trans (HBA.out.mono HB.out.size)).size))
    clear hJ
    go_wp2_with fail
    have HO5:=HOW.out.set (i:=k) (j:=0) (x:=⟨#[]⟩) (x++⟨#[32]⟩++t) (by decide) HTG.out rfl
    rw [HTS.out] at HO5
    simp only [StrE,Nat.mul_one,Nat.add_zero] at HO5
    have HO6:=hide HO5
    have HB6:=hide (HJB.out.setCell (p:=⟨w1.heap.size,k,none⟩) HB1.out.size (.string (x++⟨#[32]⟩++t)))
    clear HO5 cz fz
    go_roundw
    case rel=>exact ⟨k+1,by omega,by go_num,HO6,HB6⟩
    case measure=>simp [intOf];omega
   -- end part
  ·have hkn:k=n:=by omega
   have hkf:¬ (k:Int) < (n:Int):=by omega
   have HJ:=strJoin_any (.slice (some ⟨w1.heap.size,0,none⟩) n n) ps ⟨#[47]⟩ wr w.heap.size (by have:=HO.out;rw [hkn,TF.out] at this;exact this) (by rw [HPL.out];omega) HJL.out
   have HJ':Hid (Calls Tryz.prog 168 #[.slice (some ⟨w1.heap.size,0,none⟩) n n, .string ⟨#[47]⟩] wr fun e w'=>e = .returned (.string R)∧Below wr.heap.size wr w'):=hide (by rw [JE.out];exact HJ)
   clear HJ hkn hlt
   go_wp2_with fail
   (with_reducible refine HJ'.out.mono ?_);rintro e w5 ⟨rfl,hb5⟩
   go_wp2_with fail
   go_ret
   exact ⟨rfl,HB.out.trans (hb5.mono HB.out.size)⟩
end Go.Proofs.YtfbgppkdnfljhaaGreatDoor
namespace Go.Proofs.YtfbgppkdnfljhaaGreatDoor
def GoodPI (x:ByteArray) (r:Ru):Prop:=x.size≤900∧∃ t:ByteArray,cutS x 32=(wordR r.kind,t,true)∧pI 60 (.level 3) t.data.toList false=some (r.e,[],false)∧validR r.e=true∧textR 12 r.e=t∧0 < t.size∧t.size≤300∧(r.kind=1∨r.kind=2∨r.kind=3)
def piecesM (s:ByteArray):List ByteArray:=Lib.splitB ⟨#[47]⟩ 0 (Lib.countB s ⟨#[47]⟩) s
structure GoodMI (s:ByteArray) (m:List Ru):Prop where
 sz:s.size≤900
 len:(piecesM s).length=m.length
 part:∀ (i:Nat) (x:ByteArray) (r:Ru),(piecesM s)[i]? = some x→m[i]? = some r→GoodPI x r
 ok:modelOk m=true
 text:joinT m=s
 wt:wtM m≤100000
def partI (x:ByteArray):Option Ru:=
 match cutS x 32 with
 | (w,t,true)=>match pI 60 (.level 3) t.data.toList false with
  | some (c,[],false)=>if (validR c&&((textR 12 c).data.toList==t.data.toList)&&decide (0 < t.size)&&decide (t.size≤300)&&decide (x.size≤900) && !(kindW w.data.toList==0))=true then some ⟨kindW w.data.toList,c⟩ else none
  | _=>none
 | _=>none
def allI:List ByteArray→Option (List Ru)
 | []=>some []
 | x :: xs=>match partI x with
  | none=>none
  | some r=>match allI xs with
   | none=>none
   | some rs=>some (r :: rs)
def readI (s:ByteArray):Option (List Ru):=
 match allI (piecesM s) with
 | none=>none
 | some m=>if (modelOk m&&((joinT m).data.toList==s.data.toList)&&decide (s.size≤900)&&decide (wtM m≤100000))=true then some m else none
theorem partI_good {x:ByteArray} {r:Ru} (h:partI x=some r):GoodPI x r:=by
 unfold partI at h
 split at h
 ·rename_i w t hc
  split at h
  ·rename_i c hp
   split at h
   ·rename_i hb
    simp only [Bool.and_eq_true,decide_eq_true_eq,Bool.not_eq_true'] at hb
    obtain ⟨⟨⟨⟨⟨b2,b3⟩,b4⟩,b5⟩,b6⟩,b7⟩:=hb
    obtain ⟨k1,k2⟩:=kindW_word b7
    simp only [Option.some.injEq] at h
    subst h
    refine ⟨b6,t, ?_,hp,b2,bytes_ext b3,b4,b5,k1⟩
    rw [hc]
    have:wordR (kindW w.data.toList)=w:=bytes_ext (by simpa using k2)
    rw [this]
   ·cases h
  ·cases h
 ·cases h
theorem allI_good:∀ {xs:List ByteArray} {m:List Ru},allI xs=some m→xs.length=m.length∧∀ (i:Nat) (x:ByteArray) (r:Ru),xs[i]? = some x→m[i]? = some r→GoodPI x r:=by
 intro xs
 induction xs with
 | nil=>intro m h;simp [allI] at h;subst h;exact ⟨rfl,fun i x r h=>by simp at h⟩
 | cons y ys ih =>
  intro m h
  unfold allI at h
  split at h
  ·cases h
  ·rename_i r hr
   split at h
   ·cases h
   ·rename_i rs hrs
    simp only [Option.some.injEq] at h
    subst h
    obtain ⟨e1,e2⟩:=ih hrs
    refine ⟨by simp [e1],fun i x q hx hq => ?_⟩
    cases i with
    | zero=>simp at hx hq;subst hx;subst hq;exact partI_good hr
    | succ i=>simp at hx hq;exact e2 i x q hx hq
theorem readI_good {s:ByteArray} {m:List Ru} (h:readI s=some m):GoodMI s m:=by
 unfold readI at h
 split at h
 ·cases h
 ·rename_i m' hm
  split at h
  ·rename_i hb
   simp only [Bool.and_eq_true,decide_eq_true_eq] at hb
   obtain ⟨⟨⟨b1,b2⟩,b3⟩,b4⟩:=hb
   simp only [Option.some.injEq] at h
   subst h
   obtain ⟨e1,e2⟩:=allI_good hm
   exact ⟨b3,e1,e2,b1,bytes_ext b2,b4⟩
  ·cases h
def txTso:ByteArray:=⟨#[97,99,121,99,108,105,99,32,112,111,38,108,111,99,124,114,102,124,99,111,124,102,114,47,97,99,121,99,108,105,99,32,112,111,45,119,114,124,102,101,110,99,101,124,114,102,38,101,120,116,124,99,111,124,102,114,47,105,114,114,101,102,32,102,114,59,99,111]⟩
def txPso:ByteArray:=⟨#[97,99,121,99,108,105,99,32,112,111,38,108,111,99,124,114,102,124,99,111,124,102,114,47,97,99,121,99,108,105,99,32,112,111,45,40,119,114,124,119,119,41,124,102,101,110,99,101,124,114,102,38,101,120,116,124,99,111,124,102,114,47,105,114,114,101,102,32,102,114,59,99,111]⟩
def txRa:ByteArray:=⟨#[97,99,121,99,108,105,99,32,112,111,124,114,102,47,97,99,121,99,108,105,99,32,43,40,112,111,124,114,102,41,38,108,111,99,124,99,111,124,102,114,47,105,114,114,101,102,32,102,114,59,99,111]⟩
def txLoc:ByteArray:=⟨#[97,99,121,99,108,105,99,32,112,111,38,108,111,99,124,114,102,124,99,111,124,102,114]⟩
theorem seq_good:GoodMI txSeq mSeq:=readI_good (by kernel_rfl)
theorem tso_good:GoodMI txTso mTso:=readI_good (by kernel_rfl)
theorem pso_good:GoodMI txPso mPso:=readI_good (by kernel_rfl)
theorem ra_good:GoodMI txRa mRa:=readI_good (by kernel_rfl)
theorem loc_good:GoodMI txLoc mLoc:=readI_good (by kernel_rfl)
end Go.Proofs.YtfbgppkdnfljhaaGreatDoor
namespace Go.Proofs.YtfbgppkdnfljhaaGreatDoor
open Go.ChangeShapes Go.WideShapes Go.ChangeAt Go.WideMaps Go.WideElems Go.RowKit
abbrev laidM : List (String × DataW Unit) := [("unicode/utf8.acceptRanges", Rows.laid_unicode_utf8_acceptRanges), ("loop.example/weakmemory/impl.relNames", Rows.laid_loop_example_weakmemory_impl_relNames), ("loop.example/weakmemory/impl.ruleWords", Rows.laid_loop_example_weakmemory_impl_ruleWords), ("unicode/utf8.first", Rows.laid_unicode_utf8_first)]
abbrev laidW : List (String × DataW Unit) := [("loop.example/weakmemory/impl.ruleWords", Rows.laid_loop_example_weakmemory_impl_ruleWords)]
theorem laidM_L : laidM.filter (fun x => x.1 == "loop.example/weakmemory/impl.relNames") = laidL := rfl
theorem laidM_W : laidM.filter (fun x => x.1 == "loop.example/weakmemory/impl.ruleWords") = laidW := rfl
theorem gWords : Tryz.prog.globalNamed "loop.example/weakmemory/impl.ruleWords" = some 0 := by kernel_rfl
theorem tWords:(Tryz.prog.globals[0]?).map (·.type)=some 159:=by kernel_rfl
theorem glob2_of_laid {W:World} (h:laidMetH Tryz.prog laidW W):Glob2 W:=by
 rw [MakeChecks.laidMetH_plain _ _ _ (by kernel_rfl)] at h
 obtain ⟨ps,⟨g0,t0,cs0,f0,p0,q0,hg0,ht0,hv0,hd0,_⟩,_,_⟩:=h
 obtain rfl:=Option.some.inj (gWords.symm.trans hg0)
 obtain rfl:=Option.some.inj (tWords.symm.trans ht0)
 obtain ⟨xs,m1, -,hx1,hlen,hn3,hel⟩:=DataW.trod_array Tryz.underlying159 hd0
 have c3:Tryz.prog.cellsOf 9=1:=by kernel_rfl
 intro k s hs
 have hk:k < 4:=(List.getElem?_eq_some_iff.1 hs).1
 have h0:=hel k hk
 obtain ⟨y,hy⟩:=get_of_lt (xs:=xs) (k:=k) (by rw [hn3];exact hk)
 rw [hy,c3,Nat.mul_one] at h0
 obtain ⟨s',e1,e2, -⟩:=DataW.trod_string Tryz.underlying9 h0
 simp only [Prod.mk.injEq] at hx1
 have hx2:xs.map (·.1)=wordsR.map fun s=>(DataW.lit (.string s.data.toList):DataW Unit):=by
  have h4:(Rows.laid_loop_example_weakmemory_impl_ruleWords:DataW Unit) = .agg (wordsR.map fun s=>(DataW.lit (.string s.data.toList):DataW Unit)):=by kernel_rfl
  exact (DataW.agg.inj (h4.symm.trans hx1.1)).symm
 have h5:(xs.map (·.1))[k]? = some y.1:=by rw [List.getElem?_map,hy];rfl
 rw [hx2,List.getElem?_map,hs] at h5
 simp only [Option.map_some,Option.some.injEq] at h5
 rw [e2] at h5
 simp only [DataW.lit.injEq,Lit.string.injEq] at h5
 have h6:s'=s:=by
  have h7:s'.data=s.data:=by
   have:=congrArg List.toArray h5
   simpa using this.symm
  cases s';cases s;simp_all
 subst h6
 have h7:=World.var?_cell hg0 hv0 k
 rw [h7]
 have h8:cs0.toList[k]? = some (.string s'):=by
  have h9:(cs0.toList.drop k)[0]? = some (.string s'):=by
   have:=congrArg (fun l=>l[0]?) e1
   simp only [List.getElem?_cons_zero] at this
   rw [List.getElem?_take_of_lt (by omega)] at this
   exact this
  rw [List.getElem?_drop] at h9
  simpa using h9
 simpa using h8
theorem globs_of_laid {W:World} (h:laidMetH Tryz.prog laidM W):Glob W∧Glob2 W:=by
 have h1 := h.filter (fun x => x.1 == "loop.example/weakmemory/impl.relNames")
 have h2 := h.filter (fun x => x.1 == "loop.example/weakmemory/impl.ruleWords")
 rw [laidM_L] at h1
 rw [laidM_W] at h2
 exact ⟨glob_of_laid h1,glob2_of_laid h2⟩
theorem laidAll_met (os:Os) (args:Array Value):laidMetH Tryz.prog laidM ((World.laidAll Tryz.prog os laidM).forCall (fun _ _=>0) ⟨#[],args,[]⟩).memory:=by
 rw [MakeChecks.laidMetH_plain _ _ _ (by kernel_rfl)]
 exact laidMet_laidAll args (by kernel_rfl) (by kernel_rfl)
theorem laidAll_shaped (os:Os):(World.laidAll Tryz.prog os laidM).Shaped Tryz.prog:=World.shaped_of_ZipB (by kernel_rfl) (by kernel_rfl)
end Go.Proofs.YtfbgppkdnfljhaaGreatDoor