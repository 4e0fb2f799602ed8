/-
  pairsOf: the relation of those pairs for which a function value holds. Condition: few elements.
-/
import Derived.Test.YtlddmagfbcomgaaGreatZq23
import Derived.Test.YtlddmagfbcomgaaGreatZq00
set_option maxHeartbeats 6400000
set_option maxRecDepth 100000
namespace Go.Proofs.YtlddmagfbcomgaaGreat
open Go.RowKit
def TestsP_conf (a1 a2:Addr) (n:Nat) (f:Nat→Nat→Bool) (w0:World):Prop:=∀ (i k:Nat) (w:World),i < n→k < n→Below w0.heap.size w0 w →
 Calls Tryz.prog 177 #[.int .i64 i, .int .i64 k, .pointer (some a1), .pointer (some a2)] w fun e w'=>e = .returned (.bool (f i k))∧Below w.heap.size w w'
theorem rel_get (n t k:Nat) (f:Nat→Nat→Bool) (h:t < n):(((relOf n f).take t++List.replicate (n - t) 0).set t (bitsTo (f t) k))[t]? = some (bitsTo (f t) k):=by
 rw [List.getElem?_set,if_pos rfl,if_pos (by simp [relOf_length];omega)]
theorem rel_start (n t:Nat) (f:Nat→Nat→Bool) (h:t < n):((relOf n f).take t++List.replicate (n - t) 0).set t (bitsTo (f t) 0)=(relOf n f).take t++List.replicate (n - t) 0:=by
 rw [List.set_append_right _ _ (by rw [List.length_take];exact Nat.min_le_left _ _),List.length_take,relOf_length,Nat.min_eq_left (by omega),Nat.sub_self,show n - t=(n - (t+1))+1 by omega,List.replicate_succ,List.set_cons_zero]
 rfl
theorem rel_done (n t:Nat) (f:Nat→Nat→Bool) (h:t < n):((relOf n f).take t++List.replicate (n - t) 0).set t (bitsTo (f t) n)=(relOf n f).take (t+1)++List.replicate (n - (t+1)) 0:=by
 have:=set_pad (relOf n f) 0 (relOf_get (f:=f) h)
 rw [relOf_length] at this
 exact this
theorem pairsOf_conf (a1 a2:Addr) (n:Nat) (f:Nat→Nat→Bool) (w:World) (hn:n≤60) (hf:TestsP_conf a1 a2 n f w) :
 Calls Tryz.prog 138 #[.int .i64 n, .func (.func 177) #[] #[.pointer (some a1), .pointer (some a2)]] w (RetOwn IntE 3 w (relOf n f)):=by
 have HF:=hide hf;clear hf
 go_enter Tryz.func138,Tryz.ntmps138
 go_wp2_with (at_make;refine wpList_make IntE 3 0 Tryz.infoInt rfl Tryz.underlying40 n (by decide) (by omega) rfl _ _ rfl rfl rfl ?_;intro w1 hown hgr)
 have hb1:=below_of_grown hgr
 go_loopw [11] (fun i wr => ∃ t:Nat,t≤n∧i = .int .i64 t∧OwnN wr w.heap.size (.slice (some ⟨w.heap.size,0,none⟩) n n) ((relOf n f).take t++List.replicate (n - t) 0)∧Below w.heap.size w wr) (fun i _=>n - (intOf i).toNat)
 case atStart=>exact ⟨0,by omega,rfl,by simpa using hown,hb1⟩
 case round =>
  obtain ⟨t,ht,rfl,ho,hb⟩:=hrel
  by_cases hlt:t < n
  ·have hlt':=nat_of_lt hlt
   go_wp2_with fail
   go_loopw [15] (fun i wr => ∃ k:Nat,k≤n∧i = .int .i64 k∧OwnN wr w.heap.size (.slice (some ⟨w.heap.size,0,none⟩) n n) (((relOf n f).take t++List.replicate (n - t) 0).set t (bitsTo (f t) k))∧Below w.heap.size w wr) (fun i _=>n - (intOf i).toNat)
   case atStart=>exact ⟨0,by omega,rfl,by rw [rel_start n t f hlt];exact ho,hb⟩
   case round =>
    obtain ⟨k,hk,rfl,ho,hb⟩:=hrel
    by_cases hlt2:k < n
    ·have hlt2':=nat_of_lt hlt2
     have HC:=hide (HF.out t k wr hlt hlt2 hb)
     have BS:Hid (bitsTo (f t) (k+1)=if f t k=true then bits .or .i64 (bitsTo (f t) k) (wrap64 ((2:Int) ^ k)) else bitsTo (f t) k):=hide rfl
     generalize f t k=fb at *
     cases fb
     ·go_wp2_with fail
      (with_reducible refine HC.out.mono ?_);rintro e w2 ⟨rfl,hb2⟩
      go_wp2_with fail
      go_roundw
      case rel=>exact ⟨k+1,by omega,by go_num,by rw [BS.out];exact ho.below hb2,hb.trans (hb2.mono hb.size)⟩
      case measure=>simp [intOf];omega
     ·go_wp2_with fail
      (with_reducible refine HC.out.mono ?_);rintro e w2 ⟨rfl,hb2⟩
      have ho2:=ho.below hb2
      obtain ⟨hgl,c0,hfr⟩:=ho2.int (rel_get n t k f hlt)
      have ho3:=ho2.setInt (rel_get n t k f hlt) (bits .or .i64 (bitsTo (f t) k) (wrap64 ((2:Int) ^ k)))
      rw [List.set_set] at ho3
      have HO3:=hide ho3;clear ho3
      go_wp2_with fail
      go_region
      go_wp2_with fail
      go_roundw
      case rel=>exact ⟨k+1,by omega,by go_num,by rw [BS.out];exact HO3.out.below (Below.refl _ _).drew,((hb.trans (hb2.mono hb.size)).setCell (Nat.le_refl _) _).drew⟩
      case measure=>simp [intOf];omega
    ·have e:k=n:=by omega
     rw [e,rel_done n t f hlt] at ho
     go_wp2_with fail
     go_roundw
     case rel=>exact ⟨t+1,by omega,by go_num,ho,hb⟩
     case measure=>simp [intOf];omega
  ·have e:t=n:=by omega
   rw [e,Nat.sub_self,List.replicate_zero,List.append_nil,List.take_of_length_le (by rw [relOf_length];exact Nat.le_refl _)] at ho
   go_wp2_with fail
   go_ret
   exact ⟨_,rfl,ho,hb⟩
end Go.Proofs.YtlddmagfbcomgaaGreat