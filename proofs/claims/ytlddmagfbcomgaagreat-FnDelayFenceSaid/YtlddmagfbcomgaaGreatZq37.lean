/-
  Union, meet, composition, closure and inverse of relations in the reference. Condition: few elements.
-/
import Derived.Test.YtlddmagfbcomgaaGreatZq32
import Derived.Test.YtlddmagfbcomgaaGreatZq33
import Derived.Test.YtlddmagfbcomgaaGreatZq02
set_option maxHeartbeats 6400000
set_option maxRecDepth 100000
namespace Go.Proofs.YtlddmagfbcomgaaGreat
open Go.RowKit
theorem fComp_row (n m i:Nat) (f g:Nat→Nat→Bool) (hn:n≤60):bitsTo (fComp (m+1) f g i) n=if f i m=true then bits .or .i64 (bitsTo (fComp m f g i) n) (bitsTo (g m) n) else bitsTo (fComp m f g i) n:=by
 have e:=fComp_succ m f g i
 have e2:fComp (m+1) f g i=fun k=>fComp m f g i k||(f i m&&g m k):=e
 rw [e2]
 split
 ·rename_i h
  rw [bitsTo_or _ _ hn]
  apply bitsTo_congr hn
  intro k _
  rw [h,Bool.true_and]
 ·rename_i h
  apply bitsTo_congr hn
  intro k _
  have:f i m=false:=by simpa using h
  rw [this];simp
theorem fComp_zero (n i:Nat) (f g:Nat→Nat→Bool):bitsTo (fComp 0 f g i) n=0:=by
 have:fComp 0 f g i=fun _=>false:=by funext k;simp [fComp]
 rw [this,bitsTo_zero]
theorem row_get (n t:Nat) (f:Nat→Nat→Bool) (x:Int) (h:t < n):(((relOf n f).take t++List.replicate (n - t) 0).set t x)[t]? = some x:=by
 rw [List.getElem?_set,if_pos rfl,if_pos (by simp [relOf_length];omega)]
theorem row_start (n t:Nat) (f:Nat→Nat→Bool) (h:t < n):((relOf n f).take t++List.replicate (n - t) 0).set t 0=(relOf n f).take t++List.replicate (n - t) 0:=by
 have:=rel_start n t f h
 simpa [bitsTo] using this
theorem ComposeRel_any (v v':Value) (n:Nat) (f g:Nat→Nat→Bool) (w:World) (hx:Rep IntE w v (relOf n f)) (hy:Rep IntE w v' (relOf n g)) (hn:n≤16) :
 Calls Tryz.prog 141 #[v,v'] w (RetOwn IntE 3 w (relOf n (fComp n f g))):=by
 have HA:=hide (areRels_any v v' n f g w hx hy hn)
 obtain ⟨a,c,rfl, -, -, -,hx⟩:=hx.open
 obtain ⟨a',c',rfl, -, -, -,hy⟩:=hy.open
 simp only [relOf_length] at *
 have HX:=hide hx;have HY:=hide hy
 have HR:=hide (fun i k w' h hi hk=>related_any (.slice a n c) n i k f w' h (by omega) hi hk)
 clear hx hy
 go_enter Tryz.func141,Tryz.ntmps141
 go_wp2_with fail
 (with_reducible refine HA.out.mono ?_);rintro e w0 ⟨rfl,hb0⟩
 have HB0:=hide hb0;clear hb0 HA
 go_wp2_with (at_make;refine wpList_make IntE 3 0 Tryz.infoInt rfl Tryz.underlying40 n (by decide) (by omega) rfl _ _ rfl rfl rfl ?_;intro w1 hown hgr)
 have hb1:=below_of_grown hgr
 generalize hH:fComp n f g=H
 have HH:=hide hH;clear hH
 go_loopw [17] (fun i wr => ∃ t:Nat,t≤n∧i = .int .i64 t∧Hid (OwnN wr w0.heap.size (.slice (some ⟨w0.heap.size,0,none⟩) n n) ((relOf n H).take t++List.replicate (n - t) 0))∧Hid (Below w0.heap.size w0 wr)) (fun i _=>n - (intOf i).toNat)
 case atStart=>exact ⟨0,Nat.zero_le _,rfl,hide (by simpa using hown),hide hb1⟩
 case round =>
  obtain ⟨t,ht,rfl,HO,HB⟩:=hrel
  by_cases hlt:t < n
  ·have hlt':=nat_of_lt hlt
   go_wp2_with fail
   go_loopw [22] (fun i wr => ∃ k:Nat,k≤n∧i = .int .i64 k∧Hid (OwnN wr w0.heap.size (.slice (some ⟨w0.heap.size,0,none⟩) n n) (((relOf n H).take t++List.replicate (n - t) 0).set t (bitsTo (fComp k f g t) n)))∧Hid (Below w0.heap.size w0 wr)) (fun i _=>n - (intOf i).toNat)
   case atStart=>exact ⟨0,by omega,rfl,hide (by rw [fComp_zero,row_start n t H hlt];exact HO.out),HB⟩
   case round =>
    obtain ⟨k,hk,rfl,HO,HB⟩:=hrel
    by_cases hlt2:k < n
    ·have hlt2':=nat_of_lt hlt2
     have HC:=hide (HR.out t k wr ((HX.out.below HB0.out).below HB.out) hlt hlt2)
     have BS:=hide (fComp_row n k t f g (by omega))
     generalize f t k=fb at *
     cases fb
     ·go_wp2_with fail
      (with_reducible refine HC.out.mono ?_);rintro e w2 ⟨rfl,rfl⟩
      go_wp2_with fail
      go_roundw
      case rel=>exact ⟨k+1,by omega,by go_num,hide (by rw [BS.out];exact HO.out),HB⟩
      case measure=>simp [intOf];omega
     ·obtain ⟨b,o,rfl,hbl,i0⟩:=(HY.out.below HB0.out).int (relOf_get hlt2)
      have i0:=(HB.out.cell (p:=⟨b,o+k,none⟩) hbl).trans i0
      have ne1:b≠w0.heap.size:=by omega
      have ne3:w0.heap.size≠b:=by omega
      obtain ⟨hgl,c0,hfr⟩:=HO.out.int (row_get n t H (bitsTo (fComp k f g t) n) hlt)
      have ho3:=HO.out.setInt (row_get n t H (bitsTo (fComp k f g t) n) hlt) (bits .or .i64 (bitsTo (fComp k f g t) n) (bitsTo (g k) n))
      rw [List.set_set] at ho3
      have HO3:=hide ho3
      have hfz:=hfr t
      clear ho3 hfr
      have BS2:Hid (bitsTo (fComp (k+1) f g t) n=bits .or .i64 (bitsTo (fComp k f g t) n) (bitsTo (g k) n)):=hide (by rw [BS.out,if_pos rfl])
      generalize bitsTo (fComp k f g t) n=row at *
      generalize bitsTo (g k) n=rg at *
      go_wp2_with fail
      (with_reducible refine HC.out.mono ?_);rintro e w2 ⟨rfl,rfl⟩
      go_wp2_with fail
      go_region
      all_goals
       go_wp2_with fail
       go_roundw
       case rel=>exact ⟨k+1,by omega,by go_num,hide (by rw [BS2.out];exact HO3.out.below (Below.refl _ _).drew),hide ((HB.out.setCell (Nat.le_refl _) _).drew)⟩
       case measure=>simp [intOf];omega
    ·have e:k=n:=by omega
     subst e
     have ho:=HO.out
     rw [HH.out,rel_done k t H hlt] at ho
     have HO2:=hide ho
     clear ho
     go_wp2_with fail
     go_roundw
     case rel=>exact ⟨t+1,by omega,by go_num,HO2,HB⟩
     case measure=>simp [intOf];omega
  ·have e:t=n:=by omega
   subst e
   have ho:=HO.out
   rw [Nat.sub_self,List.replicate_zero,List.append_nil,List.take_of_length_le (by rw [relOf_length];exact Nat.le_refl _)] at ho
   have HO2:=hide ho
   clear ho
   go_wp2_with fail
   go_ret
   exact ⟨_,rfl,by rw [HH.out];exact HO2.out.mono HB0.out.size,HB0.out.trans (HB.out.mono HB0.out.size)⟩
theorem CloneN_any (v:Value) (xs:List Int) (w:World) (hx:Rep IntE w v xs) (hl:xs.length≤1048576) :
 Calls Tryz.prog 181 #[v] w (RetOwn IntE 3 w xs):=by
 obtain ⟨a,c,rfl,hc1,hc2,hc3,hx⟩:=hx.open
 have HX:=hide hx;clear hx
 generalize hn:xs.length=n at *
 have H:=hide hn;clear hn
 have hlen:([]:List Int).length+n≤68719476736:=by simp;omega
 cases a with
 | none =>
  have hE:=fun w':World=>eql_slice_nil Tryz.prog w' 40 3 none n c 0 0 Tryz.underlying40
  have hn0:xs=[]:=by
   cases xs with
   | nil=>rfl
   | cons x xs=>obtain ⟨b,o,he,_⟩:=HX.out.int (k:=0) (x:=x) rfl;cases he
  subst hn0
  go_enter Tryz.func181,Tryz.ntmps181
  go_wp2_with fail
  go_ret
  exact ⟨_,rfl,Own.nil _ _ _,Below.refl _ _⟩
 | some ad =>
  have hE:=fun w':World=>eql_slice_nil Tryz.prog w' 40 3 (some ad) n c 0 0 Tryz.underlying40
  go_enter Tryz.func181,Tryz.ntmps181
  go_wp2_with (at_builtin;refine wpList_appS IntE 3 Tryz.infoInt rfl Tryz.underlying40 w.heap.size _ [] xs _ (Own.empty _ w (Nat.le_refl _)) (HX.out.below ((Below.refl _ _).alloc (Nat.le_refl _) _)) (by decide) (by rw [H.out];exact hlen) (by simp) rfl _ _ rfl rfl rfl ?_;intro v' w1 hown1 hgr1)
  go_ret
  exact ⟨_,rfl,by simpa using hown1,((Below.refl _ _).alloc (Nat.le_refl _) _).grown hgr1 (by simp) (fun k hk=>by simp [Value.ownBlock] at hk;omega)⟩
theorem ClosureRel_any (v:Value) (n:Nat) (f:Nat→Nat→Bool) (w:World) (hx:Rep IntE w v (relOf n f)) (hn:n≤16) :
 Calls Tryz.prog 143 #[v] w (RetOwn IntE 3 w (relOf n (fClo n f))):=by
 have HA:=hide (RelValid_any v n f w hx hn)
 have HC:=hide (fun w' h=>CloneN_any v (relOf n f) w' h (by rw [relOf_length];omega))
 have HX:=hide hx
 clear hx
 go_enter Tryz.func143,Tryz.ntmps143
 go_wp2_with fail
 (with_reducible refine HA.out.mono ?_);rintro e w0 ⟨rfl,hb0⟩
 have HB0:=hide hb0;clear hb0 HA
 go_wp2_with fail
 (with_reducible refine (HC.out _ (HX.out.below HB0.out)).mono ?_);rintro e w1 ⟨u,rfl,ho,hb1⟩
 have HO1:=hide ho;have HB1:=hide (HB0.out.trans (hb1.mono HB0.out.size))
 have hbase:w.heap.size≤w0.heap.size:=HB0.out.size
 clear hb1 HC HB0 HX
 rcases ho.shape with ⟨rfl,h0⟩ | ⟨gg,cap,rfl,hg1,hg2,hc1,hc2⟩
 ·obtain rfl:n=0:=by have:=congrArg List.length h0;rw [relOf_length] at this;simpa using this
  clear ho h0
  go_wp2_with fail
  go_loopw [13] (fun i wr=>i = .int .i64 0∧wr=w1) (fun i _=>(intOf i).toNat)
  case atStart=>exact ⟨rfl,rfl⟩
  case round =>
   obtain ⟨rfl,rfl⟩:=hrel
   go_wp2_with fail
   go_ret
   exact ⟨_,rfl,(HO1.out).mono hbase,HB1.out⟩
 ·simp only [relOf_length] at *
  clear ho
  go_wp2_with fail
  go_loopw [13] (fun i wr => ∃ m:Nat,m≤n∧i = .int .i64 m∧Hid (OwnN wr w.heap.size (.slice (some ⟨gg,0,none⟩) n cap) (relOf n (wOut n f m)))∧Hid (Below w.heap.size w wr)) (fun i _=>n - (intOf i).toNat)
  case atStart=>exact ⟨0,Nat.zero_le _,rfl,hide (HO1.out.mono hbase),HB1⟩
  case round =>
   obtain ⟨m,hm,rfl,HO,HB⟩:=hrel
   by_cases hlt:m < n
   ·have hlt':=nat_of_lt hlt
    go_wp2_with fail
    go_loopw [18] (fun i wr => ∃ k:Nat,k≤n∧i = .int .i64 k∧Hid (OwnN wr w.heap.size (.slice (some ⟨gg,0,none⟩) n cap) (relOf n (wIn (wOut n f m) m k)))∧Hid (Below w.heap.size w wr)) (fun i _=>n - (intOf i).toNat)
    case atStart=>exact ⟨0,by omega,rfl,HO,HB⟩
    case round =>
     obtain ⟨k,hk,rfl,HO,HB⟩:=hrel
     by_cases hlt2:k < n
     ·have hlt2':=nat_of_lt hlt2
      have WS:Hid (wIn (wOut n f m) m (k+1)=wStep (wIn (wOut n f m) m k) m k):=hide rfl
      generalize wIn (wOut n f m) m k=F at *
      have HC:=hide (related_any (.slice (some ⟨gg,0,none⟩) n cap) n k m F wr HO.out.rep (by omega) hlt2 hlt)
      rcases Bool.eq_false_or_eq_true (F k m) with hf | hf
      case inr =>
       have WN:=hide (wStep_no (f:=F) (m:=m) (i:=k) hf)
       rw [hf] at HC
       clear hf
       go_wp2_with fail
       (with_reducible refine HC.out.mono ?_);rintro e w2 ⟨rfl,rfl⟩
       go_wp2_with fail
       go_roundw
       case rel=>exact ⟨k+1,by omega,by go_num,hide (by rw [WS.out,WN.out];exact HO.out),HB⟩
       case measure=>simp [intOf];omega
      case inl =>
       have WY:=hide (wStep_yes (n:=n) (f:=F) (m:=m) (i:=k) (by omega) hlt2 hf)
       rw [hf] at HC
       clear hf
       obtain ⟨hgl,c0,hfr⟩:=HO.out.int (relOf_get (f:=F) hlt2)
       obtain ⟨-,c1, -⟩:=HO.out.int (relOf_get (f:=F) hlt)
       have ho3:=HO.out.setInt (relOf_get (f:=F) hlt2) (bits .or .i64 (bitsTo (F k) n) (bitsTo (F m) n))
       rw [← WY.out,← WS.out] at ho3
       have HO3:=hide ho3
       have hfz:=hfr k
       clear ho3 hfr
       generalize bitsTo (F k) n=rk at *
       generalize bitsTo (F m) n=rm at *
       go_wp2_with fail
       (with_reducible refine HC.out.mono ?_);rintro e w2 ⟨rfl,rfl⟩
       go_wp2_with fail
       go_region
       all_goals
        go_wp2_with fail
        go_roundw
        case rel=>exact ⟨k+1,by omega,by go_num,hide (HO3.out.below (Below.refl _ _).drew),hide ((HB.out.setCell (Nat.le_trans hbase hg1) _).drew)⟩
        case measure=>simp [intOf];omega
     ·have e:k=n:=by omega
      subst e
      go_wp2_with fail
      go_roundw
      case rel=>exact ⟨m+1,by omega,by go_num,HO,HB⟩
      case measure=>simp [intOf];omega
   ·have e:m=n:=by omega
    subst e
    go_wp2_with fail
    go_ret
    exact ⟨_,rfl,HO.out,HB.out⟩
def TestsP_inv (a1:Addr) (n:Nat) (f:Nat→Nat→Bool) (w0:World):Prop:=∀ (i k:Nat) (w:World),i < n→k < n→Below w0.heap.size w0 w →
 Calls Tryz.prog 183 #[.int .i64 i, .int .i64 k, .pointer (some a1)] w fun e w'=>e = .returned (.bool (f i k))∧Below w.heap.size w w'
theorem pairsOf_inv (a1:Addr) (n:Nat) (f:Nat→Nat→Bool) (w:World) (hn:n≤60) (hf:TestsP_inv a1 n f w) :
 Calls Tryz.prog 138 #[.int .i64 n, .func (.func 183) #[] #[.pointer (some a1)]] w (RetOwn IntE 3 w (relOf n f)):=by
 have HF:=hide hf;clear hf
 go_enter Tryz.func138,Tryz.ntmps138
 go_wp2_with (at_make;refine wpList_make IntE 3 0 Tryz.infoInt rfl Tryz.underlying40 n (by decide) (by omega) rfl _ _ rfl rfl rfl ?_;intro w1 hown hgr)
 have hb1:=below_of_grown hgr
 go_loopw [11] (fun i wr => ∃ t:Nat,t≤n∧i = .int .i64 t∧OwnN wr w.heap.size (.slice (some ⟨w.heap.size,0,none⟩) n n) ((relOf n f).take t++List.replicate (n - t) 0)∧Below w.heap.size w wr) (fun i _=>n - (intOf i).toNat)
 case atStart=>exact ⟨0,by omega,rfl,by simpa using hown,hb1⟩
 case round =>
  obtain ⟨t,ht,rfl,ho,hb⟩:=hrel
  by_cases hlt:t < n
  ·have hlt':=nat_of_lt hlt
   go_wp2_with fail
   go_loopw [15] (fun i wr => ∃ k:Nat,k≤n∧i = .int .i64 k∧OwnN wr w.heap.size (.slice (some ⟨w.heap.size,0,none⟩) n n) (((relOf n f).take t++List.replicate (n - t) 0).set t (bitsTo (f t) k))∧Below w.heap.size w wr) (fun i _=>n - (intOf i).toNat)
   case atStart=>exact ⟨0,by omega,rfl,by rw [rel_start n t f hlt];exact ho,hb⟩
   case round =>
    obtain ⟨k,hk,rfl,ho,hb⟩:=hrel
    by_cases hlt2:k < n
    ·have hlt2':=nat_of_lt hlt2
     have HC:=hide (HF.out t k wr hlt hlt2 hb)
     have BS:Hid (bitsTo (f t) (k+1)=if f t k=true then bits .or .i64 (bitsTo (f t) k) (wrap64 ((2:Int) ^ k)) else bitsTo (f t) k):=hide rfl
     generalize f t k=fb at *
     cases fb
     ·go_wp2_with fail
      (with_reducible refine HC.out.mono ?_);rintro e w2 ⟨rfl,hb2⟩
      go_wp2_with fail
      go_roundw
      case rel=>exact ⟨k+1,by omega,by go_num,by rw [BS.out];exact ho.below hb2,hb.trans (hb2.mono hb.size)⟩
      case measure=>simp [intOf];omega
     ·go_wp2_with fail
      (with_reducible refine HC.out.mono ?_);rintro e w2 ⟨rfl,hb2⟩
      have ho2:=ho.below hb2
      obtain ⟨hgl,c0,hfr⟩:=ho2.int (rel_get n t k f hlt)
      have ho3:=ho2.setInt (rel_get n t k f hlt) (bits .or .i64 (bitsTo (f t) k) (wrap64 ((2:Int) ^ k)))
      rw [List.set_set] at ho3
      have HO3:=hide ho3;clear ho3
      go_wp2_with fail
      go_region
      go_wp2_with fail
      go_roundw
      case rel=>exact ⟨k+1,by omega,by go_num,by rw [BS.out];exact HO3.out.below (Below.refl _ _).drew,((hb.trans (hb2.mono hb.size)).setCell (Nat.le_refl _) _).drew⟩
      case measure=>simp [intOf];omega
    ·have e:k=n:=by omega
     rw [e,rel_done n t f hlt] at ho
     go_wp2_with fail
     go_roundw
     case rel=>exact ⟨t+1,by omega,by go_num,ho,hb⟩
     case measure=>simp [intOf];omega
  ·have e:t=n:=by omega
   rw [e,Nat.sub_self,List.replicate_zero,List.append_nil,List.take_of_length_le (by rw [relOf_length];exact Nat.le_refl _)] at ho
   go_wp2_with fail
   go_ret
   exact ⟨_,rfl,ho,hb⟩
theorem inverse_1 (B n c:Nat) (a:Option Addr) (f:Nat→Nat→Bool) (w0:World) (h1:w0.cell? ⟨B,0,none⟩=some (.slice a n c)) (hL:Rep IntE w0 (.slice a n c) (relOf n f)) (hn:n≤16) :
 TestsP_inv ⟨B,0,none⟩ n (fInv f) w0:=by
 intro i k w hi hk hb
 have q1:=(hb.cell (p:=⟨B,0,none⟩) (lt_of_cell h1)).trans h1
 have HC:=hide (related_any (.slice a n c) n k i f w (hL.below hb) (by omega) hk hi)
 clear hL h1 hb
 go_enter Tryz.func183,Tryz.ntmps183
 go_wp2_with fail
 (with_reducible refine HC.out.mono ?_);rintro e w2 ⟨rfl,rfl⟩
 go_wp2_with fail
 go_ret
 exact ⟨rfl,Below.refl _ _⟩
theorem InverseRel_any (v:Value) (n:Nat) (f:Nat→Nat→Bool) (w:World) (hx:Rep IntE w v (relOf n f)) (hn:n≤16) :
 Calls Tryz.prog 145 #[v] w (RetOwn IntE 3 w (relOf n (fInv f))):=by
 obtain ⟨a,c,rfl, -, -, -,hx⟩:=hx.open
 simp only [relOf_length] at *
 have HB:=hide (belowAlloc0 w (.cells #[.slice a n c] 40))
 have HX:=hide (hx.below HB.out)
 have HA:=hide (RelValid_any (.slice a n c) n f _ HX.out hn)
 have k0:Hid ((w.alloc (.cells #[.slice a n c] 40)).cell? ⟨w.heap.size,0,none⟩=some (.slice a n c)):=hide (by simp [go_sem])
 have hsz:Hid ((w.alloc (.cells #[.slice a n c] 40)).heap.size=w.heap.size+1):=hide (by simp)
 clear hx
 go_enter Tryz.func145,Tryz.ntmps145
 go_wp2_with fail
 (with_reducible refine HA.out.mono ?_);rintro e w1 ⟨rfl,hb1⟩
 have k1:=(hb1.cell (p:=⟨w.heap.size,0,none⟩) (by rw [hsz.out];exact Nat.lt_succ_self _)).trans k0.out
 have HC:=hide (pairsOf_inv ⟨w.heap.size,0,none⟩ n (fInv f) w1 (by omega) (inverse_1 w.heap.size n c a f w1 k1 (HX.out.below hb1) hn))
 have HB1:=hide (HB.out.trans (hb1.mono HB.out.size))
 clear hb1 HA
 go_wp2_with fail
 (with_reducible refine HC.out.mono ?_);rintro e w2 ⟨u,rfl,ho,hb2⟩
 go_wp2_with fail
 go_ret
 exact ⟨_,rfl,ho.mono HB1.out.size,HB1.out.trans (hb2.mono HB1.out.size)⟩
end Go.Proofs.YtlddmagfbcomgaaGreat
namespace Go.Proofs.YtlddmagfbcomgaaGreat
open Go.RowKit
theorem news_drew {w:World} {l:List Value} {T:TypeId}:∀ (j:Nat) (u:Value),l[j]? = some u→((w.alloc (.cells l.toArray T)).drew).cell? ⟨w.heap.size,0+j,none⟩=some u:=by
 intro j u h
 have:=news_alloc (w:=w) (T:=T) j u h
 simpa [go_sem] using this
theorem cell_grown {w w':World} {row:Option Nat} (hg:w.grownBy w' row) {b:Nat} (hb:b < w.heap.size) (hne:∀ q,row=some q→q≠b) (o:Nat):w'.cell? ⟨b,o,none⟩=w.cell? ⟨b,o,none⟩:=by
 unfold World.cell?
 rw [hg.block b hb (fun e=>hne b e.symm rfl)]
theorem ownRel_sl {w:World} {base n:Nat} {f:Nat→Nat→Bool} {v:Value} (h:OwnN w base v (relOf n f)):∃ a c,v = .slice a n c:=by
 rcases h.shape with ⟨h1,h2⟩ | ⟨g,cap,h1, -⟩
 ·have:=congrArg List.length h2
  rw [relOf_length] at this
  obtain rfl:n=0:=by simpa using this
  exact ⟨none,0,h1⟩
 ·rw [relOf_length] at h1
  exact ⟨_,_,h1⟩
theorem own_ge {α:Type} {E:El α} {T:TypeId} {w:World} {base:Nat} {v:Value} {xs:List α} (h:Own E T w base v xs):∀ q,v.ownBlock=some q→base≤q:=fun q hq=>(World.ownsRow.lt h q hq).1
theorem l2Union_any (v v':Value) (n:Nat) (f g:Nat→Nat→Bool) (w:World) (hx:Rep IntE w v (relOf n f)) (hy:Rep IntE w v' (relOf n g)) (hn:n≤60) :
 Calls Tryz.prog 149 #[v,v'] w (RetOwn IntE 3 w (relOf n (fOr f g))):=by
 obtain ⟨a,c,rfl, -, -, -,hx⟩:=hx.open
 obtain ⟨a',c',rfl, -, -, -,hy⟩:=hy.open
 simp only [relOf_length] at *
 have HX:=hide hx;have HY:=hide hy
 clear hx hy
 have hown:=Own.empty (E:=IntE) 3 w (Nat.le_refl _)
 have hb1:=belowAlloc0 w (.cells #[] 3)
 go_enter Tryz.func149,Tryz.ntmps149
 go_wp2_with fail
 go_loopw [5,6] (fun s i wr => ∃ k:Nat,k≤n∧i = .int .i64 k∧Hid (OwnN wr w.heap.size s ((relOf n (fOr f g)).take k))∧Hid (Below w.heap.size w wr)) (fun _ i _=>n - (intOf i).toNat)
 case atStart=>exact ⟨0,Nat.zero_le _,rfl,hide (by simpa using hown),hide hb1⟩
 case round =>
  obtain ⟨k,hk,rfl,HO,HB⟩:=hrel
  by_cases hlt:k < n
  ·have hlt':=nat_of_lt hlt
   obtain ⟨b,o,rfl,hbl,i0⟩:=HX.out.int (relOf_get hlt)
   obtain ⟨b',o',rfl,hbl',j0⟩:=HY.out.int (relOf_get hlt)
   have i0:=(HB.out.cell (p:=⟨b,o+k,none⟩) hbl).trans i0
   have j0:=(HB.out.cell (p:=⟨b',o'+k,none⟩) hbl').trans j0
   have EQ:=hide (bitsTo_or (f k) (g k) (n:=n) hn)
   have TK:=hide (take_rel n k (fOr f g) hlt)
   have hlen:((relOf n (fOr f g)).take k).length≤68719476736:=by rw [List.length_take,relOf_length];omega
   have hsz:=HB.out.size
   obtain ⟨wm,rfl⟩:∃ wm:World,wm=wr:=⟨_,rfl⟩
   have l1:b < wm.heap.size:=by omega
   have l2:b' < wm.heap.size:=by omega
   generalize hGG:(relOf n (fOr f g)).take k=G at *
   clear hGG
   have EQ2:Hid (bits .or .i64 (bitsTo (f k) n) (bitsTo (g k) n)=bitsTo ((fOr f g) k) n):=hide EQ.out
   clear EQ
   generalize bitsTo (f k) n=rf at *
   generalize bitsTo (g k) n=rg at *
   have HO1:=hide ((HO.out.alloc (.cells #[.int .i64 (bits .or .i64 rf rg)] 3)).below (Below.refl _ _).drew)
   have HB1:=hide ((HB.out.alloc hsz (.cells #[.int .i64 (bits .or .i64 rf rg)] 3)).drew)
   have q1:Hid (((wm.alloc (.cells #[.int .i64 (bits .or .i64 rf rg)] 3)).drew).cell? ⟨b,o+k,none⟩=some (.int .i64 rf)):=hide (by simp [go_sem,i0,l1])
   have q2:Hid (((wm.alloc (.cells #[.int .i64 (bits .or .i64 rf rg)] 3)).drew).cell? ⟨b',o'+k,none⟩=some (.int .i64 rg)):=hide (by simp [go_sem,j0,l2])
   go_wp2_with fail
   go_region_held3 (fun V=>V.cell? ⟨b,o+k,none⟩=some (.int .i64 rf)∧V.cell? ⟨b',o'+k,none⟩=some (.int .i64 rg)) ((simp [go_sem, *]))
    (first
     | (refine step_app IntE 3 Tryz.infoInt rfl Tryz.underlying40 w.heap.size _ G (bits .or .i64 rf rg) HO1.out (by decide) hlen (by simp;omega) (by rfl) _ _ (by rfl) (by rfl) wm.heap.size 0 1 (by rfl) (news_drew) ?_;intro v' w6 hown6 hgr6;have k1:=(cell_grown hgr6 (b:=b) (by simp;omega) (fun q hq=>by have:=own_ge HO1.out q hq;omega) (o+k)).trans q1.out;have k2:=(cell_grown hgr6 (b:=b') (by simp;omega) (fun q hq=>by have:=own_ge HO1.out q hq;omega) (o'+k)).trans q2.out))
   all_goals
    have HOWN6:=hide hown6;have HB6:=hide (HB1.out.grown hgr6 (by simp;omega) (fun q hq=>own_ge HO1.out q hq))
    clear hown6 hgr6 k1 k2
    go_wp2_with fail
    go_roundw
    case rel=>exact ⟨k+1,by omega,by go_num,hide (by rw [TK.out];have h:=HOWN6.out;rw [EQ2.out] at h;exact h),HB6⟩
    case measure=>simp [intOf];omega
  ·have e:k=n:=by omega
   subst e
   have ho:=HO.out
   rw [List.take_of_length_le (by rw [relOf_length];exact Nat.le_refl _)] at ho
   have HO2:=hide ho
   clear ho
   go_wp2_with fail
   go_ret
   exact ⟨_,rfl,HO2.out,HB.out⟩
theorem l2Meet_any (v v':Value) (n:Nat) (f g:Nat→Nat→Bool) (w:World) (hx:Rep IntE w v (relOf n f)) (hy:Rep IntE w v' (relOf n g)) (hn:n≤60) :
 Calls Tryz.prog 151 #[v,v'] w (RetOwn IntE 3 w (relOf n (fAnd f g))):=by
 obtain ⟨a,c,rfl, -, -, -,hx⟩:=hx.open
 obtain ⟨a',c',rfl, -, -, -,hy⟩:=hy.open
 simp only [relOf_length] at *
 have HX:=hide hx;have HY:=hide hy
 clear hx hy
 have hown:=Own.empty (E:=IntE) 3 w (Nat.le_refl _)
 have hb1:=belowAlloc0 w (.cells #[] 3)
 go_enter Tryz.func151,Tryz.ntmps151
 go_wp2_with fail
 go_loopw [5,6] (fun s i wr => ∃ k:Nat,k≤n∧i = .int .i64 k∧Hid (OwnN wr w.heap.size s ((relOf n (fAnd f g)).take k))∧Hid (Below w.heap.size w wr)) (fun _ i _=>n - (intOf i).toNat)
 case atStart=>exact ⟨0,Nat.zero_le _,rfl,hide (by simpa using hown),hide hb1⟩
 case round =>
  obtain ⟨k,hk,rfl,HO,HB⟩:=hrel
  by_cases hlt:k < n
  ·have hlt':=nat_of_lt hlt
   obtain ⟨b,o,rfl,hbl,i0⟩:=HX.out.int (relOf_get hlt)
   obtain ⟨b',o',rfl,hbl',j0⟩:=HY.out.int (relOf_get hlt)
   have i0:=(HB.out.cell (p:=⟨b,o+k,none⟩) hbl).trans i0
   have j0:=(HB.out.cell (p:=⟨b',o'+k,none⟩) hbl').trans j0
   have EQ:=hide (bitsTo_and (f k) (g k) (n:=n) hn)
   have TK:=hide (take_rel n k (fAnd f g) hlt)
   have hlen:((relOf n (fAnd f g)).take k).length≤68719476736:=by rw [List.length_take,relOf_length];omega
   have hsz:=HB.out.size
   obtain ⟨wm,rfl⟩:∃ wm:World,wm=wr:=⟨_,rfl⟩
   have l1:b < wm.heap.size:=by omega
   have l2:b' < wm.heap.size:=by omega
   generalize hGG:(relOf n (fAnd f g)).take k=G at *
   clear hGG
   have EQ2:Hid (bits .and .i64 (bitsTo (f k) n) (bitsTo (g k) n)=bitsTo ((fAnd f g) k) n):=hide EQ.out
   clear EQ
   generalize bitsTo (f k) n=rf at *
   generalize bitsTo (g k) n=rg at *
   have HO1:=hide ((HO.out.alloc (.cells #[.int .i64 (bits .and .i64 rf rg)] 3)).below (Below.refl _ _).drew)
   have HB1:=hide ((HB.out.alloc hsz (.cells #[.int .i64 (bits .and .i64 rf rg)] 3)).drew)
   have q1:Hid (((wm.alloc (.cells #[.int .i64 (bits .and .i64 rf rg)] 3)).drew).cell? ⟨b,o+k,none⟩=some (.int .i64 rf)):=hide (by simp [go_sem,i0,l1])
   have q2:Hid (((wm.alloc (.cells #[.int .i64 (bits .and .i64 rf rg)] 3)).drew).cell? ⟨b',o'+k,none⟩=some (.int .i64 rg)):=hide (by simp [go_sem,j0,l2])
   go_wp2_with fail
   go_region_held3 (fun V=>V.cell? ⟨b,o+k,none⟩=some (.int .i64 rf)∧V.cell? ⟨b',o'+k,none⟩=some (.int .i64 rg)) ((simp [go_sem, *]))
    (first
     | (refine step_app IntE 3 Tryz.infoInt rfl Tryz.underlying40 w.heap.size _ G (bits .and .i64 rf rg) HO1.out (by decide) hlen (by simp;omega) (by rfl) _ _ (by rfl) (by rfl) wm.heap.size 0 1 (by rfl) (news_drew) ?_;intro v' w6 hown6 hgr6;have k1:=(cell_grown hgr6 (b:=b) (by simp;omega) (fun q hq=>by have:=own_ge HO1.out q hq;omega) (o+k)).trans q1.out;have k2:=(cell_grown hgr6 (b:=b') (by simp;omega) (fun q hq=>by have:=own_ge HO1.out q hq;omega) (o'+k)).trans q2.out))
   all_goals
    have HOWN6:=hide hown6;have HB6:=hide (HB1.out.grown hgr6 (by simp;omega) (fun q hq=>own_ge HO1.out q hq))
    clear hown6 hgr6 k1 k2
    go_wp2_with fail
    go_roundw
    case rel=>exact ⟨k+1,by omega,by go_num,hide (by rw [TK.out];have h:=HOWN6.out;rw [EQ2.out] at h;exact h),HB6⟩
    case measure=>simp [intOf];omega
  ·have e:k=n:=by omega
   subst e
   have ho:=HO.out
   rw [List.take_of_length_le (by rw [relOf_length];exact Nat.le_refl _)] at ho
   have HO2:=hide ho
   clear ho
   go_wp2_with fail
   go_ret
   exact ⟨_,rfl,HO2.out,HB.out⟩
theorem l2Compose_any (v v':Value) (n:Nat) (f g:Nat→Nat→Bool) (w:World) (hx:Rep IntE w v (relOf n f)) (hy:Rep IntE w v' (relOf n g)) (hn:n≤60) :
 Calls Tryz.prog 150 #[v,v'] w (RetOwn IntE 3 w (relOf n (fComp n f g))):=by
 obtain ⟨a,c,rfl, -, -, -,hx⟩:=hx.open
 obtain ⟨a',c',rfl, -, -, -,hy⟩:=hy.open
 simp only [relOf_length] at *
 have HX:=hide hx;have HY:=hide hy
 have HR:=hide (fun i k w' h hi hk=>l2Has_any (.slice a n c) n i k f w' h hn hi hk)
 clear hx hy
 have hown:=Own.empty (E:=IntE) 3 w (Nat.le_refl _)
 have hb1:=belowAlloc0 w (.cells #[] 3)
 generalize hH:fComp n f g=H
 have HH:=hide hH;clear hH
 go_enter Tryz.func150,Tryz.ntmps150
 go_wp2_with fail
 go_loopw [5,6] (fun s i wr => ∃ t:Nat,t≤n∧i = .int .i64 t∧Hid (OwnN wr w.heap.size s ((relOf n H).take t))∧Hid (Below w.heap.size w wr)) (fun _ i _=>n - (intOf i).toNat)
 case atStart=>exact ⟨0,Nat.zero_le _,rfl,hide (by simpa using hown),hide hb1⟩
 case round =>
  obtain ⟨t,ht,rfl,HO,HB⟩:=hrel
  by_cases hlt:t < n
  ·have hlt':=nat_of_lt hlt
   have TK:=hide (take_rel n t H hlt)
   have hlen:((relOf n H).take t).length≤68719476736:=by rw [List.length_take,relOf_length];omega
   generalize (relOf n H).take t=G at *
   obtain ⟨wm,rfl⟩:∃ wm:World,wm=wr:=⟨_,rfl⟩
   go_wp2_with fail
   go_loop [7,8] (fun q i => ∃ k:Nat,k≤n∧i = .int .i64 k∧q = .int .i64 (bitsTo (fComp k f g t) n)) (fun _ i=>n - (intOf i).toNat)
   case atStart=>exact ⟨0,by omega,rfl,by rw [fComp_zero]⟩
   case round =>
    obtain ⟨k,hk,rfl,rfl⟩:=hrel
    by_cases hlt2:k < n
    ·have hlt2':=nat_of_lt hlt2
     have HC:=hide (HR.out t k wm (HX.out.below HB.out) hlt hlt2)
     have BS:=hide (fComp_row n k t f g hn)
     obtain ⟨b,o,rfl,hbl,i0⟩:=(HY.out.below HB.out).int (relOf_get hlt2)
     generalize bitsTo (fComp k f g t) n=row at *
     generalize bitsTo (g k) n=rg at *
     rcases Bool.eq_false_or_eq_true (f t k) with hf | hf
     case inr =>
      rw [hf] at HC
      have BS2:Hid (bitsTo (fComp (k+1) f g t) n=row):=hide (by rw [BS.out,hf];rfl)
      clear hf BS
      go_wp2_with fail
      (with_reducible refine HC.out.mono ?_);rintro e w2 ⟨rfl,rfl⟩
      go_wp2_with fail
      go_round
      case rel=>exact ⟨k+1,by omega,by go_num,by rw [BS2.out]⟩
      case measure=>simp [intOf];omega
     case inl =>
      rw [hf] at HC
      have BS2:Hid (bitsTo (fComp (k+1) f g t) n=bits .or .i64 row rg):=hide (by rw [BS.out,if_pos hf])
      clear hf BS
      go_wp2_with fail
      (with_reducible refine HC.out.mono ?_);rintro e w2 ⟨rfl,rfl⟩
      go_wp2_with fail
      go_round
      case rel=>exact ⟨k+1,by omega,by go_num,by rw [BS2.out]⟩
      case measure=>simp [intOf];omega
    ·have e:k=n:=by omega
     subst e
     have RW:Hid (bitsTo (fComp k f g t) k=bitsTo (H t) k):=hide (by rw [HH.out])
     rw [RW.out]
     have HO1:=hide (HO.out.alloc (.cells #[.int .i64 (bitsTo (H t) k)] 3))
     have hsz:=HB.out.size
     clear RW
     go_wp2_with (at_builtin;refine wpList_app IntE 3 Tryz.infoInt rfl Tryz.underlying40 w.heap.size _ G (bitsTo (H t) k) HO1.out (by decide) hlen (by simp;omega) rfl _ _ rfl rfl _ 0 1 rfl news_alloc ?_;intro v' w6 hown6 hgr6)
     have HOWN6:=hide hown6;have HB6:=hide (below_app HB.out HO.out hgr6)
     clear hown6 hgr6
     go_roundw
     case rel=>exact ⟨t+1,by omega,by go_num,hide (by rw [TK.out];exact HOWN6.out),HB6⟩
     case measure=>simp [intOf];omega
  ·have e:t=n:=by omega
   subst e
   have ho:=HO.out
   rw [List.take_of_length_le (by rw [relOf_length];exact Nat.le_refl _)] at ho
   have HO2:=hide ho
   clear ho
   go_wp2_with fail
   go_ret
   exact ⟨_,rfl,HO2.out,HB.out⟩
theorem bitsTo_step (f:Nat→Bool) (k:Nat):bitsTo f (k+1)=if f k=true then bits .or .i64 (bitsTo f k) (wrap64 ((2:Int) ^ k)) else bitsTo f k:=rfl
def invRow (n i k:Nat) (f:Nat→Nat→Bool):List Int:=(List.range n).map fun j=>bitsTo (fun a=>f a j) (if j < k then i+1 else i)
theorem invRow_length (n i k:Nat) (f:Nat→Nat→Bool):(invRow n i k f).length=n:=by simp [invRow]
theorem invRow_get {n i k j:Nat} {f:Nat→Nat→Bool} (h:j < n):(invRow n i k f)[j]? = some (bitsTo (fun a=>f a j) (if j < k then i+1 else i)):=by simp [invRow,h]
theorem invRow_next (n i:Nat) (f:Nat→Nat→Bool):invRow n i n f=invRow n (i+1) 0 f:=by
 unfold invRow
 apply List.map_congr_left
 intro j hj
 rw [List.mem_range] at hj
 rw [if_pos hj,if_neg (by omega)]
theorem invRow_zero (n:Nat) (f:Nat→Nat→Bool):invRow n 0 0 f=List.replicate n 0:=by
 apply List.ext_getElem?
 intro j
 by_cases h:j < n
 ·rw [invRow_get h,if_neg (by omega),List.getElem?_replicate,if_pos h];rfl
 ·rw [List.getElem?_eq_none (by rw [invRow_length];omega),List.getElem?_eq_none (by simp;omega)]
theorem invRow_all (n:Nat) (f:Nat→Nat→Bool):invRow n n 0 f=relOf n (fInv f):=by
 unfold invRow relOf
 apply List.map_congr_left
 intro j hj
 rw [if_neg (by omega)]
 rfl
theorem invRow_no {n i k:Nat} {f:Nat→Nat→Bool} (h:f i k=false):invRow n i (k+1) f=invRow n i k f:=by
 unfold invRow
 apply List.map_congr_left
 intro j hj
 by_cases e:j=k
 ·subst e
  rw [if_pos (by omega),if_neg (by omega),bitsTo_step,if_neg (by rw [h];simp)]
 ·by_cases e2:j < k
  ·rw [if_pos (by omega),if_pos e2]
  ·rw [if_neg (by omega),if_neg e2]
theorem invRow_yes {n i k:Nat} {f:Nat→Nat→Bool} (hk:k < n) (h:f i k=true):invRow n i (k+1) f=(invRow n i k f).set k (bits .or .i64 (bitsTo (fun a=>f a k) i) (wrap64 ((2:Int) ^ i))):=by
 apply List.ext_getElem?
 intro j
 rw [List.getElem?_set,invRow_length]
 by_cases e:k=j
 ·subst e
  rw [if_pos rfl,if_pos hk,invRow_get hk,if_pos (by omega),bitsTo_step,if_pos h]
 ·rw [if_neg e]
  by_cases hj:j < n
  ·rw [invRow_get hj,invRow_get hj]
   by_cases e2:j < k
   ·rw [if_pos (by omega),if_pos e2]
   ·rw [if_neg (by omega),if_neg e2]
  ·rw [List.getElem?_eq_none (by rw [invRow_length];omega),List.getElem?_eq_none (by rw [invRow_length];omega)]
theorem l2Inverse_any (v:Value) (n:Nat) (f:Nat→Nat→Bool) (w:World) (hx:Rep IntE w v (relOf n f)) (hn:n≤60) :
 Calls Tryz.prog 152 #[v] w (RetOwn IntE 3 w (relOf n (fInv f))):=by
 obtain ⟨a,c,rfl, -, -, -,hx⟩:=hx.open
 simp only [relOf_length] at *
 have HX:=hide hx
 have HR:=hide (fun i k w' h hi hk=>l2Has_any (.slice a n c) n i k f w' h hn hi hk)
 clear hx
 go_enter Tryz.func152,Tryz.ntmps152
 go_wp2_with (at_make;refine wpList_make IntE 3 0 Tryz.infoInt rfl Tryz.underlying40 n (by decide) (by omega) rfl _ _ rfl rfl rfl ?_;intro w1 hown hgr)
 have hb1:=below_of_grown hgr
 go_loopw [4] (fun i wr => ∃ t:Nat,t≤n∧i = .int .i64 t∧Hid (OwnN wr w.heap.size (.slice (some ⟨w.heap.size,0,none⟩) n n) (invRow n t 0 f))∧Hid (Below w.heap.size w wr)) (fun i _=>n - (intOf i).toNat)
 case atStart=>exact ⟨0,Nat.zero_le _,rfl,hide (by rw [invRow_zero];exact hown),hide hb1⟩
 case round =>
  obtain ⟨t,ht,rfl,HO,HB⟩:=hrel
  by_cases hlt:t < n
  ·have hlt':=nat_of_lt hlt
   have ht60:(t:Int)≤62:=by omega
   go_wp2_with fail
   go_loopw [5] (fun i wr => ∃ k:Nat,k≤n∧i = .int .i64 k∧Hid (OwnN wr w.heap.size (.slice (some ⟨w.heap.size,0,none⟩) n n) (invRow n t k f))∧Hid (Below w.heap.size w wr)) (fun i _=>n - (intOf i).toNat)
   case atStart=>exact ⟨0,by omega,rfl,HO,HB⟩
   case round =>
    obtain ⟨k,hk,rfl,HO,HB⟩:=hrel
    by_cases hlt2:k < n
    ·have hlt2':=nat_of_lt hlt2
     have HC:=hide (HR.out t k wr (HX.out.below HB.out) hlt hlt2)
     rcases Bool.eq_false_or_eq_true (f t k) with hf | hf
     case inr =>
      rw [hf] at HC
      have BS:=hide (invRow_no (n:=n) hf)
      clear hf
      go_wp2_with fail
      (with_reducible refine HC.out.mono ?_);rintro e w2 ⟨rfl,rfl⟩
      go_wp2_with fail
      go_roundw
      case rel=>exact ⟨k+1,by omega,by go_num,hide (by rw [BS.out];exact HO.out),HB⟩
      case measure=>simp [intOf];omega
     case inl =>
      rw [hf] at HC
      have BS:=hide (invRow_yes (n:=n) hlt2 hf)
      have hget:=invRow_get (n:=n) (i:=t) (k:=k) (j:=k) (f:=f) hlt2
      rw [if_neg (Nat.lt_irrefl k)] at hget
      obtain ⟨hgl,c0,hfr⟩:=HO.out.int hget
      have ho3:=HO.out.setInt hget (bits .or .i64 (bitsTo (fun a=>f a k) t) (wrap64 ((2:Int) ^ t)))
      rw [← BS.out] at ho3
      have HO3:=hide ho3
      have hfz:=hfr k
      clear ho3 hfr hget hf BS
      generalize bitsTo (fun a=>f a k) t=row at *
      go_wp2_with fail
      (with_reducible refine HC.out.mono ?_);rintro e w2 ⟨rfl,rfl⟩
      go_wp2_with fail
      go_region
      all_goals
       go_wp2_with fail
       go_roundw
       case rel=>exact ⟨k+1,by omega,by go_num,hide (HO3.out.below (Below.refl _ _).drew),hide ((HB.out.setCell (Nat.le_refl _) _).drew)⟩
       case measure=>simp [intOf];omega
    ·have e:k=n:=by omega
     subst e
     have ho:=HO.out
     rw [invRow_next] at ho
     have HO2:=hide ho
     clear ho
     go_wp2_with fail
     go_roundw
     case rel=>exact ⟨t+1,by omega,by go_num,HO2,HB⟩
     case measure=>simp [intOf];omega
  ·have e:t=n:=by omega
   subst e
   have ho:=HO.out
   rw [invRow_all] at ho
   have HO2:=hide ho
   clear ho
   go_wp2_with fail
   go_ret
   exact ⟨_,rfl,HO2.out,HB.out⟩
theorem l2Closure_any (v:Value) (n:Nat) (f:Nat→Nat→Bool) (w:World) (hx:Rep IntE w v (relOf n f)) (hn:n≤60) :
 Calls Tryz.prog 148 #[v] w (RetOwn IntE 3 w (relOf n (fClo n f))):=by
 have HX:=hide hx
 have hlen:([]:List Int).length+(relOf n f).length≤68719476736:=by rw [relOf_length];simp;omega
 have HLEN:=hide hlen
 clear hx hlen
 go_enter Tryz.func148,Tryz.ntmps148
 go_wp2_with (at_builtin;refine wpList_appS IntE 3 Tryz.infoInt rfl Tryz.underlying40 w.heap.size _ [] (relOf n f) _ (Own.empty _ w (Nat.le_refl _)) (HX.out.below (belowAlloc0 _ _)) (by decide) HLEN.out (by simp) rfl _ _ rfl rfl rfl ?_;intro v' w1 hown1 hgr1;have ho:OwnN w1 w.heap.size v' (relOf n f):=(by simpa using hown1);have HB1:=hide ((belowAlloc0 w (.cells #[] 3)).grown hgr1 (by simp) (fun k hk=>by simp [Value.ownBlock] at hk;omega));clear hown1 hgr1;have HO1:=hide ho;obtain ⟨ua,uc,rfl⟩:=ownRel_sl ho;clear ho)
 go_loopw [4] (fun i wr => ∃ m:Nat,m≤n∧i = .int .i64 m∧Hid (OwnN wr w.heap.size (.slice ua n uc) (relOf n (wOut n f m)))∧Hid (Below w.heap.size w wr)) (fun i _=>n - (intOf i).toNat)
 case atStart=>exact ⟨0,Nat.zero_le _,rfl,HO1,HB1⟩
 case round =>
  obtain ⟨m,hm,rfl,HO,HB⟩:=hrel
  by_cases hlt:m < n
  ·have hlt':=nat_of_lt hlt
   go_wp2_with fail
   go_loopw [5] (fun i wr => ∃ k:Nat,k≤n∧i = .int .i64 k∧Hid (OwnN wr w.heap.size (.slice ua n uc) (relOf n (wIn (wOut n f m) m k)))∧Hid (Below w.heap.size w wr)) (fun i _=>n - (intOf i).toNat)
   case atStart=>exact ⟨0,by omega,rfl,HO,HB⟩
   case round =>
    obtain ⟨k,hk,rfl,HO,HB⟩:=hrel
    by_cases hlt2:k < n
    ·have hlt2':=nat_of_lt hlt2
     have WS:Hid (wIn (wOut n f m) m (k+1)=wStep (wIn (wOut n f m) m k) m k):=hide rfl
     generalize wIn (wOut n f m) m k=F at *
     have HC:=hide (l2Has_any (.slice ua n uc) n k m F wr HO.out.rep (by omega) hlt2 hlt)
     rcases Bool.eq_false_or_eq_true (F k m) with hf | hf
     case inr =>
      have WN:=hide (wStep_no (f:=F) (m:=m) (i:=k) hf)
      rw [hf] at HC
      clear hf
      go_wp2_with fail
      (with_reducible refine HC.out.mono ?_);rintro e w2 ⟨rfl,rfl⟩
      go_wp2_with fail
      go_roundw
      case rel=>exact ⟨k+1,by omega,by go_num,hide (by rw [WS.out,WN.out];exact HO.out),HB⟩
      case measure=>simp [intOf];omega
     case inl =>
      have WY:=hide (wStep_yes (n:=n) (f:=F) (m:=m) (i:=k) (by omega) hlt2 hf)
      rw [hf] at HC
      clear hf
      obtain ⟨gg,rfl,hgg⟩:∃ gg,ua=some ⟨gg,0,none⟩∧w.heap.size≤gg:=by
       rcases HO.out.shape with ⟨h1,h2⟩ | ⟨g,cap,h1,h2, -⟩
       ·have:=congrArg List.length h2;rw [relOf_length] at this;simp at this;omega
       ·simp only [Value.slice.injEq] at h1;exact ⟨g,h1.1,h2⟩
      obtain ⟨hgl,c0,hfr⟩:=HO.out.int (relOf_get (f:=F) hlt2)
      obtain ⟨-,c1, -⟩:=HO.out.int (relOf_get (f:=F) hlt)
      have ho3:=HO.out.setInt (relOf_get (f:=F) hlt2) (bits .or .i64 (bitsTo (F k) n) (bitsTo (F m) n))
      rw [← WY.out,← WS.out] at ho3
      have HO3:=hide ho3
      have hfz:=hfr k
      clear ho3 hfr
      generalize bitsTo (F k) n=rk at *
      generalize bitsTo (F m) n=rm at *
      go_wp2_with fail
      (with_reducible refine HC.out.mono ?_);rintro e w2 ⟨rfl,rfl⟩
      go_wp2_with fail
      go_region
      all_goals
       go_wp2_with fail
       go_roundw
       case rel=>exact ⟨k+1,by omega,by go_num,hide (HO3.out.below (Below.refl _ _).drew),hide ((HB.out.setCell hgg _).drew)⟩
       case measure=>simp [intOf];omega
    ·have e:k=n:=by omega
     subst e
     go_wp2_with fail
     go_roundw
     case rel=>exact ⟨m+1,by omega,by go_num,HO,HB⟩
     case measure=>simp [intOf];omega
  ·have e:m=n:=by omega
   subst e
   go_wp2_with fail
   go_ret
   exact ⟨_,rfl,HO.out,HB.out⟩
end Go.Proofs.YtlddmagfbcomgaaGreat