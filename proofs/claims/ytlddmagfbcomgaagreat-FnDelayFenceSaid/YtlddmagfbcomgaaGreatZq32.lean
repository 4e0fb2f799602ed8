/-
  Plain: the closure of a relation holds of what paths connect. No condition.
-/
import Derived.Test.YtlddmagfbcomgaaGreatZq23
import Derived.Test.YtlddmagfbcomgaaGreatZq00
import Derived.Test.YtlddmagfbcomgaaGreatZq02
import Derived.Deep.RegionHeld3
set_option maxHeartbeats 6400000
set_option maxRecDepth 100000
namespace Go.Proofs.YtlddmagfbcomgaaGreat
open Go.RowKit
def maskTo (f:Nat→Bool):Nat→Nat
 | 0=>0
 | k+1=>if f k=true then maskTo f k ||| 2 ^ k else maskTo f k
theorem maskTo_testBit (f:Nat→Bool):∀ n k,(maskTo f n).testBit k=(decide (k < n)&&f k):=by
 intro n
 induction n with
 | zero=>intro k;simp [maskTo]
 | succ n ih =>
  intro k
  unfold maskTo
  by_cases h:f n=true
  ·rw [if_pos h,Nat.testBit_or,ih,Nat.testBit_two_pow]
   by_cases e:n=k
   ·subst e;simp [h]
   ·have:decide (n=k)=false:=by simp [e]
    rw [this,Bool.or_false]
    by_cases hk:k < n
    ·simp [hk,show k < n+1 by omega]
    ·simp [hk,show ¬ k < n+1 by omega]
  ·rw [if_neg h,ih]
   by_cases e:n=k
   ·subst e;simp [h]
   ·by_cases hk:k < n
    ·simp [hk,show k < n+1 by omega]
    ·simp [hk,show ¬ k < n+1 by omega]
theorem maskTo_lt (f:Nat→Bool) (n:Nat):maskTo f n < 2 ^ n:=by
 apply Nat.lt_pow_two_of_testBit
 intro i hi
 rw [maskTo_testBit]
 simp;omega
theorem maskTo_congr {f g:Nat→Bool} {n:Nat} (h:∀ k,k < n→f k=g k):maskTo f n=maskTo g n:=by
 apply Nat.eq_of_testBit_eq
 intro k
 rw [maskTo_testBit,maskTo_testBit]
 by_cases hk:k < n
 ·rw [h k hk]
 ·simp [hk]
theorem pow_le60 {n:Nat} (h:n≤60):2 ^ n≤1152921504606846976:=by
 have:=Nat.pow_le_pow_right (n:=2) (by decide) h
 exact this
theorem bits_nat (op:Nat→Nat→Nat) (bop:BinOp) (a b:Nat) (hop:op a b < 9223372036854775808)
 (h:bits bop .i64 (a:Int) (b:Int)=IntKind.i64.wrap ((op a b:Nat):Int)):bits bop .i64 (a:Int) (b:Int)=((op a b:Nat):Int):=by
 rw [h,IntKind.wrap_i64]
 omega
theorem toNat64 {a:Nat} (ha:a < 9223372036854775808):(BitVec.ofInt 64 (a:Int)).toNat=a:=by
 rw [BitVec.ofInt_natCast,BitVec.toNat_ofNat];exact Nat.mod_eq_of_lt (by omega)
theorem bits_or_nat (a b:Nat) (ha:a < 9223372036854775808) (hb:b < 9223372036854775808):bits .or .i64 (a:Int) (b:Int)=((a ||| b:Nat):Int):=by
 have hx:a ||| b < 2 ^ 63:=Nat.or_lt_two_pow (by omega) (by omega)
 refine bits_nat (· ||| ·) .or a b (by omega) ?_
 show IntKind.i64.wrap ((BitVec.ofInt 64 (a:Int) ||| BitVec.ofInt 64 (b:Int)).toNat:Int)=_
 rw [BitVec.toNat_or,toNat64 ha,toNat64 hb]
theorem bits_and_nat (a b:Nat) (ha:a < 9223372036854775808) (hb:b < 9223372036854775808):bits .and .i64 (a:Int) (b:Int)=((a &&& b:Nat):Int):=by
 have hx:a &&& b < 2 ^ 63:=Nat.and_lt_two_pow _ (by omega)
 refine bits_nat (· &&& ·) .and a b (by omega) ?_
 show IntKind.i64.wrap ((BitVec.ofInt 64 (a:Int) &&& BitVec.ofInt 64 (b:Int)).toNat:Int)=_
 rw [BitVec.toNat_and,toNat64 ha,toNat64 hb]
theorem wrap_pow {k:Nat} (h:k < 60):wrap64 ((2:Int) ^ k)=((2 ^ k:Nat):Int):=by
 have h1:=pow_le60 (n:=k) (by omega)
 have h2:((2:Int) ^ k)=((2 ^ k:Nat):Int):=by simp
 rw [h2]
 generalize (2 ^ k:Nat)=z at *
 exact IntWalk.wrap64_in _ ⟨by omega,by omega⟩
theorem bitsTo_mask (f:Nat→Bool):∀ n,n≤60→bitsTo f n=(maskTo f n:Int):=by
 intro n
 induction n with
 | zero=>intro _;rfl
 | succ n ih =>
  intro h
  unfold bitsTo maskTo
  rw [ih (by omega)]
  split
  ·have h1:=maskTo_lt f n
   have h2:=pow_le60 (n:=n) (by omega)
   rw [wrap_pow (by omega),bits_or_nat _ _ (by omega) (by omega)]
  ·rfl
theorem bitsTo_lt (f:Nat→Bool) (n:Nat) (h:n≤60):0≤bitsTo f n∧bitsTo f n < (2:Int) ^ n:=by
 rw [bitsTo_mask f n h]
 have h1:=maskTo_lt f n
 have h2:((2:Int) ^ n)=((2 ^ n:Nat):Int):=by simp
 rw [h2]
 omega
theorem bitsTo_congr {f g:Nat→Bool} {n:Nat} (hn:n≤60) (h:∀ k,k < n→f k=g k):bitsTo f n=bitsTo g n:=by
 rw [bitsTo_mask f n hn,bitsTo_mask g n hn,maskTo_congr h]
theorem bitsTo_or (f g:Nat→Bool) {n:Nat} (hn:n≤60):bits .or .i64 (bitsTo f n) (bitsTo g n)=bitsTo (fun k=>f k||g k) n:=by
 have h1:=maskTo_lt f n;have h2:=maskTo_lt g n;have h3:=pow_le60 hn
 rw [bitsTo_mask f n hn,bitsTo_mask g n hn,bitsTo_mask _ n hn,bits_or_nat _ _ (by omega) (by omega)]
 congr 1
 apply Nat.eq_of_testBit_eq
 intro k
 rw [Nat.testBit_or,maskTo_testBit,maskTo_testBit,maskTo_testBit,Bool.and_or_distrib_left]
theorem bitsTo_and (f g:Nat→Bool) {n:Nat} (hn:n≤60):bits .and .i64 (bitsTo f n) (bitsTo g n)=bitsTo (fun k=>f k&&g k) n:=by
 have h1:=maskTo_lt f n;have h2:=maskTo_lt g n;have h3:=pow_le60 hn
 rw [bitsTo_mask f n hn,bitsTo_mask g n hn,bitsTo_mask _ n hn,bits_and_nat _ _ (by omega) (by omega)]
 congr 1
 apply Nat.eq_of_testBit_eq
 intro k
 rw [Nat.testBit_and,maskTo_testBit,maskTo_testBit,maskTo_testBit]
 cases decide (k < n) <;> simp
theorem bitsTo_bit (f:Nat→Bool) {n k:Nat} (hn:n≤60) (hk:k < n):bits .and .i64 (bitsTo f n / (2:Int) ^ k) 1=if f k=true then 1 else 0:=by
 have h1:=maskTo_lt f n;have h3:=pow_le60 hn
 rw [bitsTo_mask f n hn]
 have h2:((2:Int) ^ k)=((2 ^ k:Nat):Int):=by simp
 have h4:maskTo f n / 2 ^ k≤maskTo f n:=Nat.div_le_self _ _
 rw [h2,← Int.natCast_ediv]
 have:=bits_and_nat (maskTo f n / 2 ^ k) 1 (by omega) (by omega)
 rw [show ((1:Nat):Int)=1 from rfl] at this
 rw [this,Nat.and_one_is_mod]
 have ht:=maskTo_testBit f n k
 rw [Nat.testBit_eq_decide_div_mod_eq] at ht
 simp only [hk,decide_true,Bool.true_and] at ht
 cases hf:f k with
 | true =>
  rw [hf] at ht
  have:=of_decide_eq_true ht
  rw [this];rfl
 | false =>
  rw [hf] at ht
  have:=of_decide_eq_false ht
  have h5:maskTo f n / 2 ^ k % 2=0:=by omega
  rw [h5];rfl
theorem bitsTo_zero (n:Nat):bitsTo (fun _=>false) n=0:=by
 induction n with
 | zero=>rfl
 | succ n ih=>unfold bitsTo;simpa using ih
/-! Relations. -/
theorem relOf_mem {n:Nat} {f:Nat→Nat→Bool} {x:Int} (h:x∈relOf n f):∃ i,i < n∧x=bitsTo (f i) n:=by
 unfold relOf at h
 rw [List.mem_map] at h
 obtain ⟨i,hi,rfl⟩:=h
 exact ⟨i,by simpa using hi,rfl⟩
def fOr (f g:Nat→Nat→Bool):Nat→Nat→Bool:=fun i k=>f i k||g i k
def fAnd (f g:Nat→Nat→Bool):Nat→Nat→Bool:=fun i k=>f i k&&g i k
def fInv (f:Nat→Nat→Bool):Nat→Nat→Bool:=fun i k=>f k i
def fComp (m:Nat) (f g:Nat→Nat→Bool):Nat→Nat→Bool:=fun i k=>(List.range m).any fun j=>f i j&&g j k
theorem fComp_succ (m:Nat) (f g:Nat→Nat→Bool) (i:Nat):(fun k=>fComp (m+1) f g i k)=fun k=>fComp m f g i k||(f i m&&g m k):=by
 funext k
 unfold fComp
 rw [List.range_succ,List.any_append];simp
theorem fComp_assoc (n:Nat) (f g h:Nat→Nat→Bool) (i k:Nat):fComp n (fComp n f g) h i k=fComp n f (fComp n g h) i k:=by
 unfold fComp
 rw [Bool.eq_iff_iff]
 simp only [List.any_eq_true,List.mem_range,Bool.and_eq_true]
 constructor
 ·rintro ⟨j,hj,⟨m,hm,h1,h2⟩,h3⟩
  exact ⟨m,hm,h1,j,hj,h2,h3⟩
 ·rintro ⟨m,hm,h1,j,hj,h2,h3⟩
  exact ⟨j,hj,⟨m,hm,h1,h2⟩,h3⟩
def wStep (f:Nat→Nat→Bool) (m i:Nat):Nat→Nat→Bool:=fun a k=>if a=i∧f i m=true then f i k||f m k else f a k
def wIn (f:Nat→Nat→Bool) (m:Nat):Nat→Nat→Nat→Bool
 | 0=>f
 | i+1=>wStep (wIn f m i) m i
def wOut (n:Nat) (f:Nat→Nat→Bool):Nat→Nat→Nat→Bool
 | 0=>f
 | m+1=>wIn (wOut n f m) m n
def fClo (n:Nat) (f:Nat→Nat→Bool):Nat→Nat→Bool:=wOut n f n
theorem wStep_no {f:Nat→Nat→Bool} {m i:Nat} (h:f i m=false):wStep f m i=f:=by
 funext a k
 unfold wStep
 rw [if_neg (by rw [h];simp)]
theorem wStep_yes {n:Nat} {f:Nat→Nat→Bool} {m i:Nat} (hn:n≤60) (hi:i < n) (h:f i m=true) :
 relOf n (wStep f m i)=(relOf n f).set i (bits .or .i64 (bitsTo (f i) n) (bitsTo (f m) n)):=by
 rw [bitsTo_or _ _ hn]
 apply List.ext_getElem?
 intro a
 rw [List.getElem?_set,relOf_length]
 by_cases e:i=a
 ·subst e
  rw [if_pos rfl,if_pos hi,relOf_get hi]
  congr 1
  apply bitsTo_congr hn
  intro k _
  unfold wStep
  rw [if_pos ⟨rfl,h⟩]
 ·rw [if_neg e]
  by_cases ha:a < n
  ·rw [relOf_get ha,relOf_get ha]
   congr 1
   apply bitsTo_congr hn
   intro k _
   unfold wStep
   rw [if_neg (fun h=>e h.1.symm)]
  ·rw [List.getElem?_eq_none (by rw [relOf_length];omega),List.getElem?_eq_none (by rw [relOf_length];omega)]
end Go.Proofs.YtlddmagfbcomgaaGreat
namespace Go.Proofs.YtlddmagfbcomgaaGreat
open Go.RowKit
theorem belowAlloc0 (w:World) (o:Obj):Below w.heap.size w (w.alloc o):=(Below.refl _ _).alloc (Nat.le_refl _) o
theorem if_bit (b:Bool):((if b=true then (1:Int) else 0)==1)=b:=by cases b <;> rfl
theorem related_any (v:Value) (n i k:Nat) (f:Nat→Nat→Bool) (w:World) (hx:Rep IntE w v (relOf n f)) (hn:n≤60) (hi:i < n) (hk:k < n) :
 Calls Tryz.prog 96 #[v, .int .i64 i, .int .i64 k] w fun e w'=>e = .returned (.bool (f i k))∧w=w':=by
 obtain ⟨a,c,rfl, -, -, -,hx⟩:=hx.open
 simp only [relOf_length] at *
 obtain ⟨b,o,rfl,hbl,i0⟩:=hx.int (relOf_get hi)
 have hB:=bitsTo_bit (f i) hn hk
 have hlt:=bitsTo_lt (f i) n hn
 have hIB:=if_bit (f i k)
 have hi':=nat_of_lt hi
 clear hx
 generalize bitsTo (f i) n=row at *
 have HB:=hide hB;have HI:=hide hIB
 have h0:=hlt.1
 clear hB hIB hlt
 go_enter Tryz.func96,Tryz.ntmps96
 go_wp2_with fail
 go_ret
 exact ⟨by rw [HB.out,HI.out];rfl,rfl⟩
theorem l2Has_any (v:Value) (n i k:Nat) (f:Nat→Nat→Bool) (w:World) (hx:Rep IntE w v (relOf n f)) (hn:n≤60) (hi:i < n) (hk:k < n) :
 Calls Tryz.prog 159 #[v, .int .i64 i, .int .i64 k] w fun e w'=>e = .returned (.bool (f i k))∧w=w':=by
 obtain ⟨a,c,rfl, -, -, -,hx⟩:=hx.open
 simp only [relOf_length] at *
 obtain ⟨b,o,rfl,hbl,i0⟩:=hx.int (relOf_get hi)
 have hB:=bitsTo_bit (f i) hn hk
 have hlt:=bitsTo_lt (f i) n hn
 have hIB:=if_bit (f i k)
 have hi':=nat_of_lt hi
 clear hx
 generalize bitsTo (f i) n=row at *
 have HB:=hide hB;have HI:=hide hIB
 have h0:=hlt.1
 clear hB hIB hlt
 go_enter Tryz.func159,Tryz.ntmps159
 go_wp2_with fail
 go_ret
 exact ⟨by rw [HB.out,HI.out];rfl,rfl⟩
theorem div_pow_zero {x:Int} {n:Nat} (h0:0≤x) (h1:x < (2:Int) ^ n):x / (2:Int) ^ n=0:=Int.ediv_eq_zero_of_lt h0 h1
theorem relValid_1 (B n c:Nat) (a:Option Addr) (x:Int) (w:World) (hc:w.cell? ⟨B,0,none⟩=some (.slice a n c)) (hn:n≤16) (h0:0≤x) (h1:x < (2:Int) ^ n) :
 Calls Tryz.prog 155 #[.int .i64 x, .pointer (some ⟨B,0,none⟩)] w fun e w'=>e = .returned (.bool false)∧w=w':=by
 have hz:=div_pow_zero h0 h1
 have hx0:decide (x < 0)=false:=decide_eq_false (by omega)
 clear h1
 go_enter Tryz.func155,Tryz.ntmps155
 go_wp2_with fail
 go_ret
 exact ⟨rfl,rfl⟩
theorem indexValid (B n c:Nat) (a:Option Addr) (v:Value) (xs:List Int) (w:World) (hx:Rep IntE w v xs) (hc:w.cell? ⟨B,0,none⟩=some (.slice a n c)) (hn:n≤16) (hr:∀ x∈xs,0≤x∧x < (2:Int) ^ n) :
 Calls Tryz.prog 174 #[v, .func (.func 155) #[] #[.pointer (some ⟨B,0,none⟩)]] w fun e w'=>e = .returned (.int .i64 (-1))∧w=w':=by
 obtain ⟨a1,c1,rfl,hc1,hc2,hc3,hx⟩:=hx.open
 have HX:=hide hx;clear hx
 have HR:=hide (fun x hx=>relValid_1 B n c a x w hc hn (hr x hx).1 (hr x hx).2)
 clear hr hc
 generalize hm:xs.length=m at *
 have H:=hide hm;clear hm
 go_enter Tryz.func174,Tryz.ntmps174
 go_wp2_with fail
 go_loop [8] (fun i => ∃ t:Nat,t≤m∧i = .int .i64 t) (fun i=>m - (intOf i).toNat)
 case atStart=>exact ⟨0,Nat.zero_le _,rfl⟩
 case round =>
  obtain ⟨t,ht,rfl⟩:=hrel
  by_cases hlt:t < m
  ·obtain ⟨x,hxk⟩:=get_of_lt (xs:=xs) (k:=t) (by rw [H.out];exact hlt)
   obtain ⟨b,o,rfl,hbl,i0⟩:=HX.out.int hxk
   have hlt':=nat_of_lt hlt
   have HC:=hide (HR.out x (List.mem_of_getElem? hxk));clear hxk
   go_wp2_with fail
   (with_reducible refine HC.out.mono ?_);rintro e w2 ⟨rfl,rfl⟩
   go_wp2_with fail
   go_round
   case rel=>exact ⟨t+1,by omega,by go_num⟩
   case measure=>simp [intOf];omega
  ·go_wp2_with fail
   go_ret
   exact ⟨rfl,rfl⟩
theorem containsValid (B n c:Nat) (a:Option Addr) (v:Value) (xs:List Int) (w:World) (hx:Rep IntE w v xs) (hc:w.cell? ⟨B,0,none⟩=some (.slice a n c)) (hn:n≤16) (hr:∀ x∈xs,0≤x∧x < (2:Int) ^ n) :
 Calls Tryz.prog 123 #[v, .func (.func 155) #[] #[.pointer (some ⟨B,0,none⟩)]] w fun e w'=>e = .returned (.bool false)∧w=w':=by
 have HI:=hide (indexValid B n c a v xs w hx hc hn hr)
 obtain ⟨a1,c1,rfl, -⟩:=hx.open
 clear hx hr hc
 go_enter Tryz.func123,Tryz.ntmps123
 go_wp2_with fail
 (with_reducible refine HI.out.mono ?_);rintro e w1 ⟨rfl,rfl⟩
 go_wp2_with fail
 go_ret
 exact ⟨rfl,rfl⟩
theorem RelValid_any (v:Value) (n:Nat) (f:Nat→Nat→Bool) (w:World) (hx:Rep IntE w v (relOf n f)) (hn:n≤16) :
 Calls Tryz.prog 91 #[v] w fun e w'=>e = .returned (.bool true)∧Below w.heap.size w w':=by
 obtain ⟨a,c,rfl, -, -, -,hx⟩:=hx.open
 simp only [relOf_length] at *
 have HB:=hide (belowAlloc0 w (.cells #[.slice a n c] 40))
 have HC:=hide (containsValid w.heap.size n c a (.slice a n c) (relOf n f) _ (hx.below HB.out) (by simp [go_sem]) hn (fun x hx=>by
  obtain ⟨i,hi,rfl⟩:=relOf_mem hx
  exact bitsTo_lt (f i) n (by omega)))
 have hn':(n:Int)≤16:=by omega
 clear hx
 go_enter Tryz.func91,Tryz.ntmps91
 go_wp2_with fail
 (with_reducible refine HC.out.mono ?_);rintro e w1 ⟨rfl,rfl⟩
 go_wp2_with fail
 go_ret
 exact ⟨rfl,HB.out⟩
theorem areRels_any (v v':Value) (n:Nat) (f g:Nat→Nat→Bool) (w:World) (hx:Rep IntE w v (relOf n f)) (hy:Rep IntE w v' (relOf n g)) (hn:n≤16) :
 Calls Tryz.prog 178 #[v,v'] w fun e w'=>e = .returned (.bool true)∧Below w.heap.size w w':=by
 obtain ⟨a,c,rfl, -, -, -,hx⟩:=hx.open
 obtain ⟨a',c',rfl, -, -, -,hy⟩:=hy.open
 simp only [relOf_length] at *
 have H1:=hide (RelValid_any _ n f w hx hn)
 have H2:=hide (fun w' h=>RelValid_any (.slice a' n c') n g w' h hn)
 have HY:=hide hy
 clear hx hy
 go_enter Tryz.func178,Tryz.ntmps178
 go_wp2_with fail
 (with_reducible refine H1.out.mono ?_);rintro e w1 ⟨rfl,hb1⟩
 have HB1:=hide hb1;clear hb1
 go_wp2_with fail
 (with_reducible refine (H2.out _ (HY.out.below HB1.out)).mono ?_);rintro e w2 ⟨rfl,hb2⟩
 go_wp2_with fail
 go_ret
 exact ⟨rfl,HB1.out.trans (hb2.mono HB1.out.size)⟩
end Go.Proofs.YtlddmagfbcomgaaGreat
namespace Go.Proofs.YtlddmagfbcomgaaGreat
open Go.RowKit
theorem take_rel (n k:Nat) (f:Nat→Nat→Bool) (h:k < n):(relOf n f).take (k+1)=(relOf n f).take k++[bitsTo (f k) n]:=by
 rw [List.take_add_one,relOf_get h];rfl
theorem bitUnion_any (x y:Int) (w:World) :
 Calls Tryz.prog 180 #[.int .i64 x, .int .i64 y] w fun e w'=>e = .returned (.int .i64 (bits .or .i64 x y))∧w=w':=by
 go_enter Tryz.func180,Tryz.ntmps180
 go_wp2_with fail
 go_ret
 exact ⟨rfl,rfl⟩
theorem combinedUnion (v v':Value) (n:Nat) (f g:Nat→Nat→Bool) (w:World) (hx:Rep IntE w v (relOf n f)) (hy:Rep IntE w v' (relOf n g)) (hn:n≤16) :
 Calls Tryz.prog 179 #[v,v', .func (.func 180) #[] #[]] w (RetOwn IntE 3 w (relOf n (fOr f g))):=by
 have HA:=hide (areRels_any v v' n f g w hx hy hn)
 obtain ⟨a,c,rfl, -, -, -,hx⟩:=hx.open
 obtain ⟨a',c',rfl, -, -, -,hy⟩:=hy.open
 simp only [relOf_length] at *
 have HX:=hide hx;have HY:=hide hy
 clear hx hy
 go_enter Tryz.func179,Tryz.ntmps179
 go_wp2_with fail
 (with_reducible refine HA.out.mono ?_);rintro e w0 ⟨rfl,hb0⟩
 have HB0:=hide hb0;clear hb0 HA
 go_wp2_with (at_make;refine wpList_make IntE 3 0 Tryz.infoInt rfl Tryz.underlying40 n (by decide) (by omega) rfl _ _ rfl rfl rfl ?_;intro w1 hown hgr)
 have hb1:=below_of_grown hgr
 go_loopw [18] (fun i wr => ∃ k:Nat,k≤n∧i = .int .i64 k∧Hid (OwnN wr w0.heap.size (.slice (some ⟨w0.heap.size,0,none⟩) n n) ((relOf n (fOr f g)).take k++List.replicate (n - k) 0))∧Hid (Below w0.heap.size w0 wr)) (fun i _=>n - (intOf i).toNat)
 case atStart=>exact ⟨0,Nat.zero_le _,rfl,hide (by simpa using hown),hide hb1⟩
 case round =>
  obtain ⟨k,hk,rfl,HO,HB⟩:=hrel
  by_cases hlt:k < n
  ·have hlt':=nat_of_lt hlt
   have hb:=HB.out
   obtain ⟨b,o,rfl,hbl,i0⟩:=(HX.out.below HB0.out).int (relOf_get hlt)
   obtain ⟨b',o',rfl,hbl',j0⟩:=(HY.out.below HB0.out).int (relOf_get hlt)
   have i0:=(HB.out.cell (p:=⟨b,o+k,none⟩) hbl).trans i0
   have j0:=(HB.out.cell (p:=⟨b',o'+k,none⟩) hbl').trans j0
   have ne1:b≠w0.heap.size:=by omega
   have ne2:b'≠w0.heap.size:=by omega
   have ne3:w0.heap.size≠b:=by omega
   have ne4:w0.heap.size≠b':=by omega
   have hg:((relOf n (fOr f g)).take k++List.replicate (n - k) 0)[k]? = some 0:=by
    have:=get_pad (relOf n (fOr f g)) 0 (k:=k) (by rw [relOf_length];exact hlt)
    rwa [relOf_length] at this
   obtain ⟨hgl,f0,hfr⟩:=HO.out.int hg
   have ho2:=HO.out.setInt hg (bits .or .i64 (bitsTo (f k) n) (bitsTo (g k) n))
   rw [bitsTo_or (f k) (g k) (n:=n) (by omega)] at ho2
   have hset:=set_pad (relOf n (fOr f g)) 0 (relOf_get (f:=fOr f g) hlt)
   rw [relOf_length] at hset
   have e:((relOf n (fOr f g)).take k++List.replicate (n - k) 0).set k (bitsTo (fun j=>f k j||g k j) n)=(relOf n (fOr f g)).take (k+1)++List.replicate (n - (k+1)) 0:=hset
   rw [e] at ho2
   have HO2:=hide ho2
   have EQ:=hide (bitsTo_or (f k) (g k) (n:=n) (by omega))
   have hfz:=hfr k
   clear ho2 e hset hg hb hfr
   generalize bitsTo (f k) n=rf at *
   generalize bitsTo (g k) n=rg at *
   go_wp2_with fail
   go_region_held3 (fun V=>V.cell? ⟨b,o+k,none⟩=some (.int .i64 rf)∧V.cell? ⟨b',o'+k,none⟩=some (.int .i64 rg)) ((simp [go_sem, *]))
    (first
     | (go_at_call 180;(with_reducible refine (bitUnion_any _ _ _).mono ?_);rintro e u1 ⟨rfl,rfl⟩))
   all_goals
    go_wp2_with fail
    go_roundw
    case rel=>exact ⟨k+1,by omega,by go_num,hide (by have h:=HO2.out.below (Below.refl _ _).drew;rw [← EQ.out] at h;exact h),hide ((HB.out.setCell (Nat.le_refl _) _).drew)⟩
    case measure=>simp [intOf];omega
  ·have e:k=n:=by omega
   subst e
   go_wp2_with fail
   go_ret
   have ho:=HO.out
   rw [Nat.sub_self,List.replicate_zero,List.append_nil,List.take_of_length_le (by rw [relOf_length];exact Nat.le_refl _)] at ho
   exact ⟨_,rfl,ho.mono HB0.out.size,HB0.out.trans (HB.out.mono HB0.out.size)⟩
theorem UnionRel_any (v v':Value) (n:Nat) (f g:Nat→Nat→Bool) (w:World) (hx:Rep IntE w v (relOf n f)) (hy:Rep IntE w v' (relOf n g)) (hn:n≤16) :
 Calls Tryz.prog 142 #[v,v'] w (RetOwn IntE 3 w (relOf n (fOr f g))):=by
 have HC:=hide (combinedUnion v v' n f g w hx hy hn)
 clear hx hy
 go_enter Tryz.func142,Tryz.ntmps142
 go_wp2_with fail
 (with_reducible refine HC.out.mono ?_);rintro e w1 ⟨u,rfl,hu,hb1⟩
 go_wp2_with fail
 go_ret
 exact ⟨_,rfl,hu,hb1⟩
theorem bitMeet_any (x y:Int) (w:World) :
 Calls Tryz.prog 182 #[.int .i64 x, .int .i64 y] w fun e w'=>e = .returned (.int .i64 (bits .and .i64 x y))∧w=w':=by
 go_enter Tryz.func182,Tryz.ntmps182
 go_wp2_with fail
 go_ret
 exact ⟨rfl,rfl⟩
theorem combinedMeet (v v':Value) (n:Nat) (f g:Nat→Nat→Bool) (w:World) (hx:Rep IntE w v (relOf n f)) (hy:Rep IntE w v' (relOf n g)) (hn:n≤16) :
 Calls Tryz.prog 179 #[v,v', .func (.func 182) #[] #[]] w (RetOwn IntE 3 w (relOf n (fAnd f g))):=by
 have HA:=hide (areRels_any v v' n f g w hx hy hn)
 obtain ⟨a,c,rfl, -, -, -,hx⟩:=hx.open
 obtain ⟨a',c',rfl, -, -, -,hy⟩:=hy.open
 simp only [relOf_length] at *
 have HX:=hide hx;have HY:=hide hy
 clear hx hy
 go_enter Tryz.func179,Tryz.ntmps179
 go_wp2_with fail
 (with_reducible refine HA.out.mono ?_);rintro e w0 ⟨rfl,hb0⟩
 have HB0:=hide hb0;clear hb0 HA
 go_wp2_with (at_make;refine wpList_make IntE 3 0 Tryz.infoInt rfl Tryz.underlying40 n (by decide) (by omega) rfl _ _ rfl rfl rfl ?_;intro w1 hown hgr)
 have hb1:=below_of_grown hgr
 go_loopw [18] (fun i wr => ∃ k:Nat,k≤n∧i = .int .i64 k∧Hid (OwnN wr w0.heap.size (.slice (some ⟨w0.heap.size,0,none⟩) n n) ((relOf n (fAnd f g)).take k++List.replicate (n - k) 0))∧Hid (Below w0.heap.size w0 wr)) (fun i _=>n - (intOf i).toNat)
 case atStart=>exact ⟨0,Nat.zero_le _,rfl,hide (by simpa using hown),hide hb1⟩
 case round =>
  obtain ⟨k,hk,rfl,HO,HB⟩:=hrel
  by_cases hlt:k < n
  ·have hlt':=nat_of_lt hlt
   have hb:=HB.out
   obtain ⟨b,o,rfl,hbl,i0⟩:=(HX.out.below HB0.out).int (relOf_get hlt)
   obtain ⟨b',o',rfl,hbl',j0⟩:=(HY.out.below HB0.out).int (relOf_get hlt)
   have i0:=(HB.out.cell (p:=⟨b,o+k,none⟩) hbl).trans i0
   have j0:=(HB.out.cell (p:=⟨b',o'+k,none⟩) hbl').trans j0
   have ne1:b≠w0.heap.size:=by omega
   have ne2:b'≠w0.heap.size:=by omega
   have ne3:w0.heap.size≠b:=by omega
   have ne4:w0.heap.size≠b':=by omega
   have hg:((relOf n (fAnd f g)).take k++List.replicate (n - k) 0)[k]? = some 0:=by
    have:=get_pad (relOf n (fAnd f g)) 0 (k:=k) (by rw [relOf_length];exact hlt)
    rwa [relOf_length] at this
   obtain ⟨hgl,f0,hfr⟩:=HO.out.int hg
   have ho2:=HO.out.setInt hg (bits .and .i64 (bitsTo (f k) n) (bitsTo (g k) n))
   rw [bitsTo_and (f k) (g k) (n:=n) (by omega)] at ho2
   have hset:=set_pad (relOf n (fAnd f g)) 0 (relOf_get (f:=fAnd f g) hlt)
   rw [relOf_length] at hset
   have e:((relOf n (fAnd f g)).take k++List.replicate (n - k) 0).set k (bitsTo (fun j=>f k j&&g k j) n)=(relOf n (fAnd f g)).take (k+1)++List.replicate (n - (k+1)) 0:=hset
   rw [e] at ho2
   have HO2:=hide ho2
   have EQ:=hide (bitsTo_and (f k) (g k) (n:=n) (by omega))
   have hfz:=hfr k
   clear ho2 e hset hg hb hfr
   generalize bitsTo (f k) n=rf at *
   generalize bitsTo (g k) n=rg at *
   go_wp2_with fail
   go_region_held3 (fun V=>V.cell? ⟨b,o+k,none⟩=some (.int .i64 rf)∧V.cell? ⟨b',o'+k,none⟩=some (.int .i64 rg)) ((simp [go_sem, *]))
    (first
     | (go_at_call 182;(with_reducible refine (bitMeet_any _ _ _).mono ?_);rintro e u1 ⟨rfl,rfl⟩))
   all_goals
    go_wp2_with fail
    go_roundw
    case rel=>exact ⟨k+1,by omega,by go_num,hide (by have h:=HO2.out.below (Below.refl _ _).drew;rw [← EQ.out] at h;exact h),hide ((HB.out.setCell (Nat.le_refl _) _).drew)⟩
    case measure=>simp [intOf];omega
  ·have e:k=n:=by omega
   subst e
   go_wp2_with fail
   go_ret
   have ho:=HO.out
   rw [Nat.sub_self,List.replicate_zero,List.append_nil,List.take_of_length_le (by rw [relOf_length];exact Nat.le_refl _)] at ho
   exact ⟨_,rfl,ho.mono HB0.out.size,HB0.out.trans (HB.out.mono HB0.out.size)⟩
theorem MeetRel_any (v v':Value) (n:Nat) (f g:Nat→Nat→Bool) (w:World) (hx:Rep IntE w v (relOf n f)) (hy:Rep IntE w v' (relOf n g)) (hn:n≤16) :
 Calls Tryz.prog 144 #[v,v'] w (RetOwn IntE 3 w (relOf n (fAnd f g))):=by
 have HC:=hide (combinedMeet v v' n f g w hx hy hn)
 clear hx hy
 go_enter Tryz.func144,Tryz.ntmps144
 go_wp2_with fail
 (with_reducible refine HC.out.mono ?_);rintro e w1 ⟨u,rfl,hu,hb1⟩
 go_wp2_with fail
 go_ret
 exact ⟨_,rfl,hu,hb1⟩
end Go.Proofs.YtlddmagfbcomgaaGreat
namespace Go.Proofs.YtlddmagfbcomgaaGreat
theorem wIn_eq (f:Nat→Nat→Bool) (m:Nat):∀ j a k,wIn f m j a k=if a < j then (f a k||(f a m&&f m k)) else f a k:=by
 intro j
 induction j with
 | zero=>intro a k;simp [wIn]
 | succ j ih =>
  intro a k
  have hm:∀ k,wIn f m j m k=f m k:=fun k=>by
   rw [ih];split
   ·cases f m k <;> cases f m m <;> rfl
   ·rfl
  have hj:∀ k,wIn f m j j k=f j k:=fun k=>by rw [ih,if_neg (Nat.lt_irrefl j)]
  show wStep (wIn f m j) m j a k=_
  unfold wStep
  by_cases h:a=j∧wIn f m j j m=true
  ·obtain ⟨rfl,h2⟩:=h
   rw [if_pos ⟨rfl,h2⟩,hj k,hm k,if_pos (Nat.lt_succ_self _)]
   rw [hj] at h2
   rw [h2,Bool.true_and]
  ·rw [if_neg h,ih]
   by_cases hlt:a < j
   ·rw [if_pos hlt,if_pos (by omega)]
   ·rw [if_neg hlt]
    by_cases e:a=j
    ·subst e
     have h2:f a m=false:=by
      rw [← hj m]
      cases hh:wIn f m a a m with
      | false=>rfl
      | true=>exact absurd ⟨rfl,hh⟩ h
     rw [if_pos (Nat.lt_succ_self _),h2,Bool.false_and,Bool.or_false]
    ·rw [if_neg (by omega)]
theorem wOut_succ {n:Nat} {f:Nat→Nat→Bool} {m a k:Nat} (ha:a < n):wOut n f (m+1) a k=(wOut n f m a k||(wOut n f m a m&&wOut n f m m k)):=by
 show wIn _ _ _ _ _=_
 rw [wIn_eq,if_pos ha]
inductive Pth (n:Nat) (f:Nat→Nat→Bool):Nat→Nat→Prop
 | one {i k:Nat} (hi:i < n) (hk:k < n) (h:f i k=true):Pth n f i k
 | more {i j k:Nat} (hi:i < n) (hj:j < n) (h:f i j=true) (t:Pth n f j k):Pth n f i k
theorem Pth.trans {n:Nat} {f:Nat→Nat→Bool} {i j k:Nat} (h:Pth n f i j) (t:Pth n f j k):Pth n f i k:=by
 induction h with
 | one hi hk h=>exact .more hi hk h t
 | more hi hj h _ ih=>exact .more hi hj h (ih t)
theorem wOut_sound {n:Nat} {f:Nat→Nat→Bool}:∀ m,m≤n→∀ i k,i < n→k < n→wOut n f m i k=true→Pth n f i k:=by
 intro m
 induction m with
 | zero=>intro _ i k hi hk h;exact .one hi hk h
 | succ m ih =>
  intro hm i k hi hk h
  rw [wOut_succ hi] at h
  simp only [Bool.or_eq_true,Bool.and_eq_true] at h
  rcases h with h | ⟨h1,h2⟩
  ·exact ih (by omega) i k hi hk h
  ·exact (ih (by omega) i m hi (by omega) h1).trans (ih (by omega) m k (by omega) hk h2)
theorem wOut_base {n:Nat} {f:Nat→Nat→Bool} {i k:Nat} (hi:i < n) (h:f i k=true):∀ m,wOut n f m i k=true:=by
 intro m
 induction m with
 | zero=>exact h
 | succ m ih=>rw [wOut_succ hi,ih,Bool.true_or]
theorem wOut_tr {n:Nat} {f:Nat→Nat→Bool}:∀ m,m≤n→∀ i j k,i < n→j < m→wOut n f m i j=true→wOut n f m j k=true→wOut n f m i k=true:=by
 intro m
 induction m with
 | zero=>intro _ i j k _ hj;omega
 | succ m ih =>
  intro hm i j k hi hj h1 h2
  have IH:=ih (by omega)
  rw [wOut_succ hi] at h1 ⊢
  rw [wOut_succ (by omega)] at h2
  simp only [Bool.or_eq_true,Bool.and_eq_true] at h1 h2 ⊢
  by_cases e:j=m
  ·subst e
   rcases h1 with h1 | ⟨h1, -⟩
   ·rcases h2 with h2 | ⟨-,h2⟩
    ·exact .inr ⟨h1,h2⟩
    ·exact .inr ⟨h1,h2⟩
   ·rcases h2 with h2 | ⟨-,h2⟩
    ·exact .inr ⟨h1,h2⟩
    ·exact .inr ⟨h1,h2⟩
  ·have hj':j < m:=by omega
   rcases h1 with h1 | ⟨h1,h3⟩
   ·rcases h2 with h2 | ⟨h2,h4⟩
    ·exact .inl (IH i j k hi hj' h1 h2)
    ·exact .inr ⟨IH i j m hi hj' h1 h2,h4⟩
   ·rcases h2 with h2 | ⟨h2,h4⟩
    ·exact .inr ⟨h1,IH m j k (by omega) hj' h3 h2⟩
    ·exact .inr ⟨h1,h4⟩
theorem fClo_iff {n:Nat} {f:Nat→Nat→Bool} {i k:Nat} (hi:i < n) (hk:k < n):fClo n f i k=true↔Pth n f i k:=
 ⟨wOut_sound n (Nat.le_refl _) i k hi hk,fun h=>by
  induction h with
  | one hi hk h=>exact wOut_base hi h n
  | more hi hj h t ih=>exact wOut_tr n (Nat.le_refl _) _ _ _ hi hj (wOut_base hi h n) (ih hj hk)⟩
end Go.Proofs.YtlddmagfbcomgaaGreat