/-
  Lists of outcomes: whether one is among others. Condition: none but what slices read as.
-/
import Derived.Test.YtlddmagfbcomgaaGreatZq00
import Derived.Test.YtlddmagfbcomgaaGreatZq06
set_option maxHeartbeats 6400000
set_option maxRecDepth 100000
namespace Go.Proofs.YtlddmagfbcomgaaGreat
open Go.RowKit
def TestsR (a1:Addr) (f:Ins→Bool) (w0:World):Prop:=∀ (x:Ins) (w:World),Below w0.heap.size w0 w→Calls Tryz.prog 126 #[.agg #[.int .i64 x.op, .int .i64 x.loc, .int .i64 x.reg, .int .i64 x.val], .pointer (some a1)] w fun e w'=>e = .returned (.bool (f x))∧Below w.heap.size w w'
theorem IndexFuncR (a1:Addr) (v:Value) (xs:List (Ins)) (f:Ins→Bool) (w:World) (hx:Rep InsE w v xs) (hf:TestsR a1 f w) :
 Calls Tryz.prog 154 #[v, .func (.func 126) #[] #[.pointer (some a1)]] w fun e w'=>(∃ q:Int,e = .returned (.int .i64 q)∧IdxOf f xs q)∧Below w.heap.size w w':=by
 obtain ⟨a,c,rfl,hc1,hc2,hc3,hx⟩:=hx.open
 have HX:=hide hx;clear hx
 have HF:=hide hf;clear hf
 generalize hn:xs.length=n at *
 have H:=hide hn;clear hn
 go_enter Tryz.func154,Tryz.ntmps154
 go_wp2_with fail
 go_loopw [8] (fun i wr => ∃ t:Nat,t≤n∧i = .int .i64 t∧Hid (∀ x∈xs.take t,f x=false)∧Below w.heap.size w wr) (fun i _=>n - (intOf i).toNat)
 case atStart=>exact ⟨0,Nat.zero_le _,rfl,hide (by simp),Below.refl _ _⟩
 case round =>
  obtain ⟨t,ht,rfl,hno,hb⟩:=hrel
  by_cases hlt:t < n
  ·obtain ⟨x,hxk⟩:=get_of_lt (xs:=xs) (k:=t) (by rw [H.out];exact hlt)
   obtain ⟨b,o,rfl,hbl,i0,i1,i2,i3⟩:=(HX.out.below hb).ins hxk
   have hlt':=nat_of_lt hlt
   have X:=hide hxk;clear hxk
   generalize hfx:f x=fx
   have FX:=hide hfx;clear hfx
   have hcall:=HF.out x _ hb
   rw [FX.out] at hcall
   have HC:=hide hcall;clear hcall
   cases fx
   ·have NO:Hid (∀ x∈xs.take (t+1),f x=false):=hide (none_succ hno.out X.out FX.out)
    go_wp2_with fail
    (with_reducible refine HC.out.mono ?_);rintro e w2 ⟨rfl,hb2⟩
    go_wp2_with fail
    go_roundw
    case rel=>exact ⟨t+1,by omega,by go_num,NO,hb.trans (hb2.mono hb.size)⟩
    case measure=>simp [intOf];omega
   ·go_wp2_with fail
    (with_reducible refine HC.out.mono ?_);rintro e w2 ⟨rfl,hb2⟩
    go_wp2_with fail
    go_ret
    exact ⟨⟨_,rfl, .inr ⟨t,x,rfl,X.out,FX.out,hno.out⟩⟩,hb.trans (hb2.mono hb.size)⟩
  ·go_wp2_with fail
   go_ret
   refine ⟨⟨_,rfl, .inl ⟨rfl, ?_⟩⟩,hb⟩
   have h:=hno.out
   rwa [List.take_of_length_le (by rw [H.out];omega)] at h
theorem ContainsFuncR (a1:Addr) (v:Value) (xs:List (Ins)) (f:Ins→Bool) (w:World) (hx:Rep InsE w v xs) (hf:TestsR a1 f w) :
 Calls Tryz.prog 125 #[v, .func (.func 126) #[] #[.pointer (some a1)]] w fun e w'=>e = .returned (.bool (xs.any f))∧Below w.heap.size w w':=by
 have HI:=hide (IndexFuncR a1 v xs f w hx hf)
 obtain ⟨a,c,rfl, -⟩:=hx.open
 clear hx hf
 go_enter Tryz.func125,Tryz.ntmps125
 go_wp2_with fail
 (with_reducible refine HI.out.mono ?_);rintro e w1 ⟨⟨q,rfl,hq⟩,hb1⟩
 have E:Hid (decide (0≤q)=xs.any f):=hide hq.any
 clear hq
 go_wp2_with fail
 all_goals go_ret
 all_goals refine ⟨?_,hb1⟩
 all_goals rw [← E.out]
 all_goals simp_all
theorem testR (g:Nat) (r:Int) (w:World) (hg:g < w.heap.size) (hc:w.cell? ⟨g,0,none⟩=some (.int .i64 r)):TestsR ⟨g,0,none⟩ (fun x=>isRop x.op&&x.reg==r) w:=by
 intro x w2 hb
 have hc2:=(hb.cell (p:=⟨g,0,none⟩) hg).trans hc
 have hg2:=Nat.lt_of_lt_of_le hg hb.size
 obtain ⟨x0,x1,x2,x3⟩:=x
 simp only
 have HB0:=hide ((Below.refl w2.heap.size w2).alloc (Nat.le_refl _) (.cells #[.int .i64 x0, .int .i64 x1, .int .i64 x2, .int .i64 x3] 74))
 have HR:=hide (fun w'=>reads_raw x0 x1 x2 x3 w')
 clear hb hc
 obtain ⟨rb,hrb⟩:∃ rb,isRop x0=rb:=⟨_,rfl⟩
 rw [hrb] at HR ⊢
 clear hrb
 have z0:w2.heap.size < (w2.alloc (.cells #[.int .i64 x0, .int .i64 x1, .int .i64 x2, .int .i64 x3] 74)).heap.size:=by simp
 have z1:g < (w2.alloc (.cells #[.int .i64 x0, .int .i64 x1, .int .i64 x2, .int .i64 x3] 74)).heap.size:=by simp;omega
 have k1:(w2.alloc (.cells #[.int .i64 x0, .int .i64 x1, .int .i64 x2, .int .i64 x3] 74)).cell? ⟨w2.heap.size,1,none⟩=some (.int .i64 x1):=by simp [go_sem]
 have k2:(w2.alloc (.cells #[.int .i64 x0, .int .i64 x1, .int .i64 x2, .int .i64 x3] 74)).cell? ⟨w2.heap.size,2,none⟩=some (.int .i64 x2):=by simp [go_sem]
 have k3:(w2.alloc (.cells #[.int .i64 x0, .int .i64 x1, .int .i64 x2, .int .i64 x3] 74)).cell? ⟨g,0,none⟩=some (.int .i64 r):=by
  have:=((Below.refl w2.heap.size w2).alloc (Nat.le_refl _) (.cells #[.int .i64 x0, .int .i64 x1, .int .i64 x2, .int .i64 x3] 74)).cell (p:=⟨g,0,none⟩) hg2
  exact this.trans hc2
 have K1:=hide k1;have K2:=hide k2;have K3:=hide k3
 clear k1 k2 k3
 go_enter Tryz.func126,Tryz.ntmps126
 go_wp2_with fail
 (with_reducible refine (HR.out _).mono ?_);rintro e w1 ⟨rfl,hb1⟩
 have c1:=(hb1.cell (p:=⟨w2.heap.size,1,none⟩) z0).trans K1.out
 have c2:=(hb1.cell (p:=⟨w2.heap.size,2,none⟩) z0).trans K2.out
 have c3:=(hb1.cell (p:=⟨g,0,none⟩) z1).trans K3.out
 have y0:=Nat.lt_of_lt_of_le z0 hb1.size
 have y1:=Nat.lt_of_lt_of_le z1 hb1.size
 cases rb
 ·go_wp2_with fail
  go_ret
  exact ⟨rfl,HB0.out.trans (hb1.mono HB0.out.size)⟩
 ·go_wp2_with fail
  go_ret
  exact ⟨by simp,HB0.out.trans (hb1.mono HB0.out.size)⟩
def TestsW (a1:Addr) (f:Ins→Bool) (w0:World):Prop:=∀ (x:Ins) (w:World),Below w0.heap.size w0 w→Calls Tryz.prog 130 #[.agg #[.int .i64 x.op, .int .i64 x.loc, .int .i64 x.reg, .int .i64 x.val], .pointer (some a1)] w fun e w'=>e = .returned (.bool (f x))∧Below w.heap.size w w'
theorem IndexFuncW (a1:Addr) (v:Value) (xs:List (Ins)) (f:Ins→Bool) (w:World) (hx:Rep InsE w v xs) (hf:TestsW a1 f w) :
 Calls Tryz.prog 154 #[v, .func (.func 130) #[] #[.pointer (some a1)]] w fun e w'=>(∃ q:Int,e = .returned (.int .i64 q)∧IdxOf f xs q)∧Below w.heap.size w w':=by
 obtain ⟨a,c,rfl,hc1,hc2,hc3,hx⟩:=hx.open
 have HX:=hide hx;clear hx
 have HF:=hide hf;clear hf
 generalize hn:xs.length=n at *
 have H:=hide hn;clear hn
 go_enter Tryz.func154,Tryz.ntmps154
 go_wp2_with fail
 go_loopw [8] (fun i wr => ∃ t:Nat,t≤n∧i = .int .i64 t∧Hid (∀ x∈xs.take t,f x=false)∧Below w.heap.size w wr) (fun i _=>n - (intOf i).toNat)
 case atStart=>exact ⟨0,Nat.zero_le _,rfl,hide (by simp),Below.refl _ _⟩
 case round =>
  obtain ⟨t,ht,rfl,hno,hb⟩:=hrel
  by_cases hlt:t < n
  ·obtain ⟨x,hxk⟩:=get_of_lt (xs:=xs) (k:=t) (by rw [H.out];exact hlt)
   obtain ⟨b,o,rfl,hbl,i0,i1,i2,i3⟩:=(HX.out.below hb).ins hxk
   have hlt':=nat_of_lt hlt
   have X:=hide hxk;clear hxk
   generalize hfx:f x=fx
   have FX:=hide hfx;clear hfx
   have hcall:=HF.out x _ hb
   rw [FX.out] at hcall
   have HC:=hide hcall;clear hcall
   cases fx
   ·have NO:Hid (∀ x∈xs.take (t+1),f x=false):=hide (none_succ hno.out X.out FX.out)
    go_wp2_with fail
    (with_reducible refine HC.out.mono ?_);rintro e w2 ⟨rfl,hb2⟩
    go_wp2_with fail
    go_roundw
    case rel=>exact ⟨t+1,by omega,by go_num,NO,hb.trans (hb2.mono hb.size)⟩
    case measure=>simp [intOf];omega
   ·go_wp2_with fail
    (with_reducible refine HC.out.mono ?_);rintro e w2 ⟨rfl,hb2⟩
    go_wp2_with fail
    go_ret
    exact ⟨⟨_,rfl, .inr ⟨t,x,rfl,X.out,FX.out,hno.out⟩⟩,hb.trans (hb2.mono hb.size)⟩
  ·go_wp2_with fail
   go_ret
   refine ⟨⟨_,rfl, .inl ⟨rfl, ?_⟩⟩,hb⟩
   have h:=hno.out
   rwa [List.take_of_length_le (by rw [H.out];omega)] at h
theorem ContainsFuncW (a1:Addr) (v:Value) (xs:List (Ins)) (f:Ins→Bool) (w:World) (hx:Rep InsE w v xs) (hf:TestsW a1 f w) :
 Calls Tryz.prog 125 #[v, .func (.func 130) #[] #[.pointer (some a1)]] w fun e w'=>e = .returned (.bool (xs.any f))∧Below w.heap.size w w':=by
 have HI:=hide (IndexFuncW a1 v xs f w hx hf)
 obtain ⟨a,c,rfl, -⟩:=hx.open
 clear hx hf
 go_enter Tryz.func125,Tryz.ntmps125
 go_wp2_with fail
 (with_reducible refine HI.out.mono ?_);rintro e w1 ⟨⟨q,rfl,hq⟩,hb1⟩
 have E:Hid (decide (0≤q)=xs.any f):=hide hq.any
 clear hq
 go_wp2_with fail
 all_goals go_ret
 all_goals refine ⟨?_,hb1⟩
 all_goals rw [← E.out]
 all_goals simp_all
theorem testW (g:Nat) (r:Int) (w:World) (hg:g < w.heap.size) (hc:w.cell? ⟨g,0,none⟩=some (.int .i64 r)):TestsW ⟨g,0,none⟩ (fun x=>isWop x.op&&x.loc==r) w:=by
 intro x w2 hb
 have hc2:=(hb.cell (p:=⟨g,0,none⟩) hg).trans hc
 have hg2:=Nat.lt_of_lt_of_le hg hb.size
 obtain ⟨x0,x1,x2,x3⟩:=x
 simp only
 have HB0:=hide ((Below.refl w2.heap.size w2).alloc (Nat.le_refl _) (.cells #[.int .i64 x0, .int .i64 x1, .int .i64 x2, .int .i64 x3] 74))
 have HR:=hide (fun w'=>writes_raw x0 x1 x2 x3 w')
 clear hb hc
 obtain ⟨rb,hrb⟩:∃ rb,isWop x0=rb:=⟨_,rfl⟩
 rw [hrb] at HR ⊢
 clear hrb
 have z0:w2.heap.size < (w2.alloc (.cells #[.int .i64 x0, .int .i64 x1, .int .i64 x2, .int .i64 x3] 74)).heap.size:=by simp
 have z1:g < (w2.alloc (.cells #[.int .i64 x0, .int .i64 x1, .int .i64 x2, .int .i64 x3] 74)).heap.size:=by simp;omega
 have k1:(w2.alloc (.cells #[.int .i64 x0, .int .i64 x1, .int .i64 x2, .int .i64 x3] 74)).cell? ⟨w2.heap.size,1,none⟩=some (.int .i64 x1):=by simp [go_sem]
 have k2:(w2.alloc (.cells #[.int .i64 x0, .int .i64 x1, .int .i64 x2, .int .i64 x3] 74)).cell? ⟨w2.heap.size,2,none⟩=some (.int .i64 x2):=by simp [go_sem]
 have k3:(w2.alloc (.cells #[.int .i64 x0, .int .i64 x1, .int .i64 x2, .int .i64 x3] 74)).cell? ⟨g,0,none⟩=some (.int .i64 r):=by
  have:=((Below.refl w2.heap.size w2).alloc (Nat.le_refl _) (.cells #[.int .i64 x0, .int .i64 x1, .int .i64 x2, .int .i64 x3] 74)).cell (p:=⟨g,0,none⟩) hg2
  exact this.trans hc2
 have K1:=hide k1;have K2:=hide k2;have K3:=hide k3
 clear k1 k2 k3
 go_enter Tryz.func130,Tryz.ntmps130
 go_wp2_with fail
 (with_reducible refine (HR.out _).mono ?_);rintro e w1 ⟨rfl,hb1⟩
 have c1:=(hb1.cell (p:=⟨w2.heap.size,1,none⟩) z0).trans K1.out
 have c2:=(hb1.cell (p:=⟨w2.heap.size,2,none⟩) z0).trans K2.out
 have c3:=(hb1.cell (p:=⟨g,0,none⟩) z1).trans K3.out
 have y0:=Nat.lt_of_lt_of_le z0 hb1.size
 have y1:=Nat.lt_of_lt_of_le z1 hb1.size
 cases rb
 ·go_wp2_with fail
  go_ret
  exact ⟨rfl,HB0.out.trans (hb1.mono HB0.out.size)⟩
 ·go_wp2_with fail
  go_ret
  exact ⟨by simp,HB0.out.trans (hb1.mono HB0.out.size)⟩
def TestsM (a1:Addr) (f:List Ins→Bool) (w0:World):Prop:=∀ (ra:Option Addr) (rc:Nat) (x:List Ins) (w:World),Below w0.heap.size w0 w→Rep InsE w (.slice ra x.length rc) x→Calls Tryz.prog 129 #[.slice ra x.length rc, .pointer (some a1)] w fun e w'=>e = .returned (.bool (f x))∧Below w.heap.size w w'
theorem IndexFuncM (a1:Addr) (v:Value) (xs:List (List Ins)) (f:List Ins→Bool) (w:World) (hx:Rep2 InsE w v xs) (hf:TestsM a1 f w) :
 Calls Tryz.prog 175 #[v, .func (.func 129) #[] #[.pointer (some a1)]] w fun e w'=>(∃ q:Int,e = .returned (.int .i64 q)∧IdxOf f xs q)∧Below w.heap.size w w':=by
 obtain ⟨a,c,rfl,hc1,hc2,hc3,hx⟩:=hx.open
 have HX:=hide hx;clear hx
 have HF:=hide hf;clear hf
 generalize hn:xs.length=n at *
 have H:=hide hn;clear hn
 go_enter Tryz.func175,Tryz.ntmps175
 go_wp2_with fail
 go_loopw [8] (fun i wr => ∃ t:Nat,t≤n∧i = .int .i64 t∧Hid (∀ x∈xs.take t,f x=false)∧Below w.heap.size w wr) (fun i _=>n - (intOf i).toNat)
 case atStart=>exact ⟨0,Nat.zero_le _,rfl,hide (by simp),Below.refl _ _⟩
 case round =>
  obtain ⟨t,ht,rfl,hno,hb⟩:=hrel
  by_cases hlt:t < n
  ·obtain ⟨x,hxk⟩:=get_of_lt (xs:=xs) (k:=t) (by rw [H.out];exact hlt)
   obtain ⟨b,o,ra,rc,rfl,hbl,i0,i1⟩:=(HX.out.below hb).row hxk
   have I1:=hide i1;clear i1
   have hlt':=nat_of_lt hlt
   have X:=hide hxk;clear hxk
   generalize hfx:f x=fx
   have FX:=hide hfx;clear hfx
   have hcall:=HF.out ra rc x _ hb I1.out
   rw [FX.out] at hcall
   have HC:=hide hcall;clear hcall
   cases fx
   ·have NO:Hid (∀ x∈xs.take (t+1),f x=false):=hide (none_succ hno.out X.out FX.out)
    go_wp2_with fail
    (with_reducible refine HC.out.mono ?_);rintro e w2 ⟨rfl,hb2⟩
    go_wp2_with fail
    go_roundw
    case rel=>exact ⟨t+1,by omega,by go_num,NO,hb.trans (hb2.mono hb.size)⟩
    case measure=>simp [intOf];omega
   ·go_wp2_with fail
    (with_reducible refine HC.out.mono ?_);rintro e w2 ⟨rfl,hb2⟩
    go_wp2_with fail
    go_ret
    exact ⟨⟨_,rfl, .inr ⟨t,x,rfl,X.out,FX.out,hno.out⟩⟩,hb.trans (hb2.mono hb.size)⟩
  ·go_wp2_with fail
   go_ret
   refine ⟨⟨_,rfl, .inl ⟨rfl, ?_⟩⟩,hb⟩
   have h:=hno.out
   rwa [List.take_of_length_le (by rw [H.out];omega)] at h
theorem ContainsFuncM (a1:Addr) (v:Value) (xs:List (List Ins)) (f:List Ins→Bool) (w:World) (hx:Rep2 InsE w v xs) (hf:TestsM a1 f w) :
 Calls Tryz.prog 128 #[v, .func (.func 129) #[] #[.pointer (some a1)]] w fun e w'=>e = .returned (.bool (xs.any f))∧Below w.heap.size w w':=by
 have HI:=hide (IndexFuncM a1 v xs f w hx hf)
 obtain ⟨a,c,rfl, -⟩:=hx.open
 clear hx hf
 go_enter Tryz.func128,Tryz.ntmps128
 go_wp2_with fail
 (with_reducible refine HI.out.mono ?_);rintro e w1 ⟨⟨q,rfl,hq⟩,hb1⟩
 have E:Hid (decide (0≤q)=xs.any f):=hide hq.any
 clear hq
 go_wp2_with fail
 all_goals go_ret
 all_goals refine ⟨?_,hb1⟩
 all_goals rw [← E.out]
 all_goals simp_all
theorem testM (g:Nat) (r:Int) (w:World) (hg:g < w.heap.size) (hc:w.cell? ⟨g,0,none⟩=some (.int .i64 r)):TestsM ⟨g,0,none⟩ (fun row=>row.any fun x=>isWop x.op&&x.loc==r) w:=by
 intro ra rc x w2 hb hr
 have HI:=hide (ContainsFuncW ⟨g,0,none⟩ _ x _ w2 hr (testW g r w2 (Nat.lt_of_lt_of_le hg hb.size) ((hb.cell (p:=⟨g,0,none⟩) hg).trans hc)))
 obtain ⟨q,hq⟩:∃ q,(x.any fun x=>isWop x.op&&x.loc==r)=q:=⟨_,rfl⟩
 simp only [hq] at HI ⊢
 clear hq hb hc hr hg
 go_enter Tryz.func129,Tryz.ntmps129
 go_wp2_with fail
 (with_reducible refine HI.out.mono ?_);rintro e w1 ⟨rfl,hb1⟩
 go_wp2_with fail
 go_ret
 exact ⟨rfl,hb1⟩
end Go.Proofs.YtlddmagfbcomgaaGreat
namespace Go.Proofs.YtlddmagfbcomgaaGreat
open Go.RowKit
def l3L:List Int→List Int→Int
 | x :: xs,y :: ys=>if x < y then -1 else if y < x then 1 else l3L xs ys
 | _,_=>0
theorem l3L_drop {a b:List Int} {k:Nat} {x y:Int} (hx:a[k]? = some x) (hy:b[k]? = some y):l3L (a.drop k) (b.drop k)=if x < y then -1 else if y < x then 1 else l3L (a.drop (k+1)) (b.drop (k+1)):=by
 obtain ⟨hk,rfl⟩:=List.getElem?_eq_some_iff.1 hx
 obtain ⟨hk',rfl⟩:=List.getElem?_eq_some_iff.1 hy
 rw [List.drop_eq_getElem_cons hk,List.drop_eq_getElem_cons hk',l3L]
theorem l3L_end {a b:List Int} {k:Nat} (h:a.length≤k∨b.length≤k):l3L (a.drop k) (b.drop k)=0:=by
 rcases h with h | h
 ·rw [List.drop_of_length_le h];simp [l3L]
 ·rw [List.drop_of_length_le h];cases a.drop k <;> simp [l3L]
theorem l3Less_any (v v':Value) (xs ys:List Int) (w:World) (hx:Rep IntE w v xs) (hy:Rep IntE w v' ys) :
 Calls Tryz.prog 215 #[v,v'] w fun e w'=>e = .returned (.int .i64 (l3L xs ys))∧Below w.heap.size w w':=by
 obtain ⟨a,c,rfl,hc1,hc2,hc3,hx⟩:=hx.open
 obtain ⟨a',c',rfl,hc1',hc2',hc3',hy⟩:=hy.open
 have HX:=hide hx;clear hx
 have HY:=hide hy;clear hy
 have HS:Hid (l3L (xs.drop 0) (ys.drop 0)=l3L xs ys):=hide (by simp)
 generalize hR:l3L xs ys=R at *
 clear hR
 generalize hn:xs.length=n at *
 generalize hn':ys.length=n' at *
 have H:=hide hn;clear hn
 have H':=hide hn';clear hn'
 go_enter Tryz.func215,Tryz.ntmps215
 go_wp2_with fail
 go_loopw [5] (fun v wr => ∃ k:Nat,k≤n∧k≤n'∧v = .int .i64 k∧Hid (l3L (xs.drop k) (ys.drop k)=R)∧Below w.heap.size w wr) (fun v _=>n - (intOf v).toNat)
 case atStart=>exact ⟨0,Nat.zero_le _,Nat.zero_le _,rfl,HS,Below.refl _ _⟩
 case round =>
  obtain ⟨k,hk,hk',rfl,T,hb⟩:=hrel
  by_cases hlt:k < n
  ·have hlt1:=nat_of_lt hlt
   by_cases hlt2:k < n'
   ·have hlt3:=nat_of_lt hlt2
    obtain ⟨x,hxk⟩:=get_of_lt (xs:=xs) (k:=k) (by rw [H.out];exact hlt)
    obtain ⟨y,hyk⟩:=get_of_lt (xs:=ys) (k:=k) (by rw [H'.out];exact hlt2)
    obtain ⟨b,o,rfl,hbl,i0⟩:=(HX.out.below hb).int hxk
    obtain ⟨b',o',rfl,hbl',j0⟩:=(HY.out.below hb).int hyk
    have ST:=hide (l3L_drop hxk hyk)
    clear hxk hyk
    by_cases hxy:x < y
    ·have E:Hid (R = -1):=hide (by rw [← T.out,ST.out,if_pos hxy])
     go_wp2_with fail
     refine wp_region_bw (by kernel_rfl) (by kernel_rfl) ?_
     repeat (go_big_quiet_step (fail))
     refine wpQuiet_nil ?_
     intro w1 hw1
     obtain ⟨c1, -⟩:=bcell hw1
     go_wp2_with fail
     go_ret
     rw [E.out]
     exact ⟨rfl,hb.trans (hw1.mono hb.size)⟩
    ·have E0:Hid ((if y < x then 1 else l3L (xs.drop (k+1)) (ys.drop (k+1)))=R):=hide (by rw [← T.out,ST.out,if_neg hxy])
     have hxy':y≤x:=Int.not_lt.1 hxy
     clear hxy
     go_wp2_with fail
     refine wp_region_bw (by kernel_rfl) (by kernel_rfl) ?_
     repeat (go_big_quiet_step (fail))
     refine wpQuiet_nil ?_
     intro w1 hw1
     obtain ⟨c1, -⟩:=bcell hw1
     have hbl1:b < w1.heap.size:=by have:=hw1.size;omega
     have hbl1':b' < w1.heap.size:=by have:=hw1.size;omega
     have i1:=(c1 b (o+k) hbl).trans i0
     have j1:=(c1 b' (o'+k) hbl').trans j0
     by_cases hyx:y < x
     ·have E:Hid (R=1):=hide (by rw [← E0.out,if_pos hyx])
      go_wp2_with fail
      refine wp_region_bw (by kernel_rfl) (by kernel_rfl) ?_
      repeat (go_big_quiet_step (fail))
      refine wpQuiet_nil ?_
      intro w2 hw2
      go_wp2_with fail
      go_ret
      rw [E.out]
      exact ⟨rfl,(hb.trans (hw1.mono hb.size)).trans (hw2.mono (by have:=hb.size;have:=hw1.size;omega))⟩
     ·have E:Hid (l3L (xs.drop (k+1)) (ys.drop (k+1))=R):=hide (by rw [← E0.out,if_neg hyx])
      have hyx':x≤y:=Int.not_lt.1 hyx
      clear hyx
      go_wp2_with fail
      refine wp_region_bw (by kernel_rfl) (by kernel_rfl) ?_
      repeat (go_big_quiet_step (fail))
      refine wpQuiet_nil ?_
      intro w2 hw2
      go_wp2_with fail
      go_roundw
      case rel=>exact ⟨k+1,by omega,by omega,by go_num,E,(hb.trans (hw1.mono hb.size)).trans (hw2.mono (by have:=hb.size;have:=hw1.size;omega))⟩
      case measure=>simp [intOf];omega
   ·have hlt3:decide ((k:Int) < n')=false:=by simp;omega
    have E:Hid (R=0):=hide (by rw [← T.out];exact l3L_end (.inr (by rw [H'.out];omega)))
    go_wp2_with fail
    go_ret
    rw [E.out]
    exact ⟨rfl,hb⟩
  ·have hlt3:decide ((k:Int) < n)=false:=by simp;omega
   have E:Hid (R=0):=hide (by rw [← T.out];exact l3L_end (.inl (by rw [H.out];omega)))
   go_wp2_with fail
   go_ret
   rw [E.out]
   exact ⟨rfl,hb⟩
end Go.Proofs.YtlddmagfbcomgaaGreat