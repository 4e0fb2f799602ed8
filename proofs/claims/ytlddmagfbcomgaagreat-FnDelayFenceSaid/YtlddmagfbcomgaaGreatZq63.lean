/-
  FnDelayFence: for every input the law returns true and the input reads afterwards as it read before. No condition.
-/
import Derived.Test.YtlddmagfbcomgaaGreatZq62
import Derived.Test.YtlddmagfbcomgaaGreatZq37
import Derived.Test.YtlddmagfbcomgaaGreatZq36
import Derived.Test.YtlddmagfbcomgaaGreatZq49
import Derived.Test.YtlddmagfbcomgaaGreatZq40
import Derived.Test.YtlddmagfbcomgaaGreatZq26
import Derived.Test.YtlddmagfbcomgaaGreatZq25
import Derived.Test.YtlddmagfbcomgaaGreatZq47
import Derived.Test.YtlddmagfbcomgaaGreatZq21
import Derived.Test.YtlddmagfbcomgaaGreatZq04
set_option maxHeartbeats 6400000
set_option maxRecDepth 100000
namespace Go.Proofs.YtlddmagfbcomgaaGreat
open Go.RowKit
def cntB (f:Nat→Bool):Nat→Nat
 | 0=>0
 | n+1=>cntB f n+if f n=true then 1 else 0
theorem cntB_le (f:Nat→Bool) (n:Nat):cntB f n≤n:=by
 induction n with
 | zero=>exact Nat.le_refl _
 | succ n ih=>simp only [cntB];split <;> omega
theorem cntB_congr {f g:Nat→Bool}:∀ n,(∀ k,k < n→f k=g k)→cntB f n=cntB g n:=by
 intro n
 induction n with
 | zero=>intro _;rfl
 | succ n ih=>intro h;simp only [cntB];rw [ih (fun k hk=>h k (by omega)),h n (by omega)]
def popN (x:Nat):Nat:=x % 2+x / 2 % 2+x / 4 % 2+x / 8 % 2+x / 16 % 2+x / 32 % 2+x / 64 % 2+x / 128 % 2+x / 256 % 2+x / 512 % 2+x / 1024 % 2+x / 2048 % 2+x / 4096 % 2+x / 8192 % 2+x / 16384 % 2
def chkO:Nat→Nat→Bool
 | 0,_=>true
 | n+1,s=>Nat.beq (ones s) (popN s)&&chkO n (s+1)
theorem chkO_spec:∀ n s,chkO n s=true→∀ x,s≤x→x < s+n→ones x=popN x:=by
 intro n
 induction n with
 | zero=>intro s _ x h1 h2;omega
 | succ n ih =>
  intro s h x h1 h2
  simp only [chkO,Bool.and_eq_true] at h
  by_cases e:x=s
  ·rw [e];exact Nat.eq_of_beq_eq_true h.1
  ·exact ih (s+1) h.2 x (by omega) (by omega)
theorem chkO_0:chkO 512 0=true:=by kernel_rfl
theorem chkO_1:chkO 512 512=true:=by kernel_rfl
theorem chkO_2:chkO 512 1024=true:=by kernel_rfl
theorem chkO_3:chkO 512 1536=true:=by kernel_rfl
theorem chkO_4:chkO 512 2048=true:=by kernel_rfl
theorem chkO_5:chkO 512 2560=true:=by kernel_rfl
theorem chkO_6:chkO 512 3072=true:=by kernel_rfl
theorem chkO_7:chkO 512 3584=true:=by kernel_rfl
theorem chkO_8:chkO 512 4096=true:=by kernel_rfl
theorem chkO_9:chkO 512 4608=true:=by kernel_rfl
theorem chkO_10:chkO 512 5120=true:=by kernel_rfl
theorem chkO_11:chkO 512 5632=true:=by kernel_rfl
theorem chkO_12:chkO 512 6144=true:=by kernel_rfl
theorem chkO_13:chkO 512 6656=true:=by kernel_rfl
theorem chkO_14:chkO 512 7168=true:=by kernel_rfl
theorem chkO_15:chkO 512 7680=true:=by kernel_rfl
theorem chkO_16:chkO 512 8192=true:=by kernel_rfl
theorem chkO_17:chkO 512 8704=true:=by kernel_rfl
theorem chkO_18:chkO 512 9216=true:=by kernel_rfl
theorem chkO_19:chkO 512 9728=true:=by kernel_rfl
theorem chkO_20:chkO 512 10240=true:=by kernel_rfl
theorem chkO_21:chkO 512 10752=true:=by kernel_rfl
theorem chkO_22:chkO 512 11264=true:=by kernel_rfl
theorem chkO_23:chkO 512 11776=true:=by kernel_rfl
theorem chkO_24:chkO 512 12288=true:=by kernel_rfl
theorem chkO_25:chkO 512 12800=true:=by kernel_rfl
theorem chkO_26:chkO 512 13312=true:=by kernel_rfl
theorem chkO_27:chkO 512 13824=true:=by kernel_rfl
theorem chkO_28:chkO 512 14336=true:=by kernel_rfl
theorem chkO_29:chkO 512 14848=true:=by kernel_rfl
theorem chkO_30:chkO 512 15360=true:=by kernel_rfl
theorem chkO_31:chkO 512 15872=true:=by kernel_rfl
theorem chkO_32:chkO 512 16384=true:=by kernel_rfl
theorem chkO_33:chkO 512 16896=true:=by kernel_rfl
theorem chkO_34:chkO 512 17408=true:=by kernel_rfl
theorem chkO_35:chkO 512 17920=true:=by kernel_rfl
theorem chkO_36:chkO 512 18432=true:=by kernel_rfl
theorem chkO_37:chkO 512 18944=true:=by kernel_rfl
theorem chkO_38:chkO 512 19456=true:=by kernel_rfl
theorem chkO_39:chkO 512 19968=true:=by kernel_rfl
theorem chkO_40:chkO 512 20480=true:=by kernel_rfl
theorem chkO_41:chkO 512 20992=true:=by kernel_rfl
theorem chkO_42:chkO 512 21504=true:=by kernel_rfl
theorem chkO_43:chkO 512 22016=true:=by kernel_rfl
theorem chkO_44:chkO 512 22528=true:=by kernel_rfl
theorem chkO_45:chkO 512 23040=true:=by kernel_rfl
theorem chkO_46:chkO 512 23552=true:=by kernel_rfl
theorem chkO_47:chkO 512 24064=true:=by kernel_rfl
theorem chkO_48:chkO 512 24576=true:=by kernel_rfl
theorem chkO_49:chkO 512 25088=true:=by kernel_rfl
theorem chkO_50:chkO 512 25600=true:=by kernel_rfl
theorem chkO_51:chkO 512 26112=true:=by kernel_rfl
theorem chkO_52:chkO 512 26624=true:=by kernel_rfl
theorem chkO_53:chkO 512 27136=true:=by kernel_rfl
theorem chkO_54:chkO 512 27648=true:=by kernel_rfl
theorem chkO_55:chkO 512 28160=true:=by kernel_rfl
theorem chkO_56:chkO 512 28672=true:=by kernel_rfl
theorem chkO_57:chkO 512 29184=true:=by kernel_rfl
theorem chkO_58:chkO 512 29696=true:=by kernel_rfl
theorem chkO_59:chkO 512 30208=true:=by kernel_rfl
theorem chkO_60:chkO 512 30720=true:=by kernel_rfl
theorem chkO_61:chkO 512 31232=true:=by kernel_rfl
theorem chkO_62:chkO 512 31744=true:=by kernel_rfl
theorem chkO_63:chkO 512 32256=true:=by kernel_rfl
theorem ones_pop {x:Nat} (h:x < 32768):ones x=popN x:=by
 have hc:x / 512=0∨x / 512=1∨x / 512=2∨x / 512=3∨x / 512=4∨x / 512=5∨x / 512=6∨x / 512=7∨x / 512=8∨x / 512=9∨x / 512=10∨x / 512=11∨x / 512=12∨x / 512=13∨x / 512=14∨x / 512=15∨x / 512=16∨x / 512=17∨x / 512=18∨x / 512=19∨x / 512=20∨x / 512=21∨x / 512=22∨x / 512=23∨x / 512=24∨x / 512=25∨x / 512=26∨x / 512=27∨x / 512=28∨x / 512=29∨x / 512=30∨x / 512=31∨x / 512=32∨x / 512=33∨x / 512=34∨x / 512=35∨x / 512=36∨x / 512=37∨x / 512=38∨x / 512=39∨x / 512=40∨x / 512=41∨x / 512=42∨x / 512=43∨x / 512=44∨x / 512=45∨x / 512=46∨x / 512=47∨x / 512=48∨x / 512=49∨x / 512=50∨x / 512=51∨x / 512=52∨x / 512=53∨x / 512=54∨x / 512=55∨x / 512=56∨x / 512=57∨x / 512=58∨x / 512=59∨x / 512=60∨x / 512=61∨x / 512=62∨x / 512=63:=by omega
 rcases hc with h0 | h0 | h0 | h0 | h0 | h0 | h0 | h0 | h0 | h0 | h0 | h0 | h0 | h0 | h0 | h0 | h0 | h0 | h0 | h0 | h0 | h0 | h0 | h0 | h0 | h0 | h0 | h0 | h0 | h0 | h0 | h0 | h0 | h0 | h0 | h0 | h0 | h0 | h0 | h0 | h0 | h0 | h0 | h0 | h0 | h0 | h0 | h0 | h0 | h0 | h0 | h0 | h0 | h0 | h0 | h0 | h0 | h0 | h0 | h0 | h0 | h0 | h0 | h0
 ·exact chkO_spec 512 0 chkO_0 x (by omega) (by omega)
 ·exact chkO_spec 512 512 chkO_1 x (by omega) (by omega)
 ·exact chkO_spec 512 1024 chkO_2 x (by omega) (by omega)
 ·exact chkO_spec 512 1536 chkO_3 x (by omega) (by omega)
 ·exact chkO_spec 512 2048 chkO_4 x (by omega) (by omega)
 ·exact chkO_spec 512 2560 chkO_5 x (by omega) (by omega)
 ·exact chkO_spec 512 3072 chkO_6 x (by omega) (by omega)
 ·exact chkO_spec 512 3584 chkO_7 x (by omega) (by omega)
 ·exact chkO_spec 512 4096 chkO_8 x (by omega) (by omega)
 ·exact chkO_spec 512 4608 chkO_9 x (by omega) (by omega)
 ·exact chkO_spec 512 5120 chkO_10 x (by omega) (by omega)
 ·exact chkO_spec 512 5632 chkO_11 x (by omega) (by omega)
 ·exact chkO_spec 512 6144 chkO_12 x (by omega) (by omega)
 ·exact chkO_spec 512 6656 chkO_13 x (by omega) (by omega)
 ·exact chkO_spec 512 7168 chkO_14 x (by omega) (by omega)
 ·exact chkO_spec 512 7680 chkO_15 x (by omega) (by omega)
 ·exact chkO_spec 512 8192 chkO_16 x (by omega) (by omega)
 ·exact chkO_spec 512 8704 chkO_17 x (by omega) (by omega)
 ·exact chkO_spec 512 9216 chkO_18 x (by omega) (by omega)
 ·exact chkO_spec 512 9728 chkO_19 x (by omega) (by omega)
 ·exact chkO_spec 512 10240 chkO_20 x (by omega) (by omega)
 ·exact chkO_spec 512 10752 chkO_21 x (by omega) (by omega)
 ·exact chkO_spec 512 11264 chkO_22 x (by omega) (by omega)
 ·exact chkO_spec 512 11776 chkO_23 x (by omega) (by omega)
 ·exact chkO_spec 512 12288 chkO_24 x (by omega) (by omega)
 ·exact chkO_spec 512 12800 chkO_25 x (by omega) (by omega)
 ·exact chkO_spec 512 13312 chkO_26 x (by omega) (by omega)
 ·exact chkO_spec 512 13824 chkO_27 x (by omega) (by omega)
 ·exact chkO_spec 512 14336 chkO_28 x (by omega) (by omega)
 ·exact chkO_spec 512 14848 chkO_29 x (by omega) (by omega)
 ·exact chkO_spec 512 15360 chkO_30 x (by omega) (by omega)
 ·exact chkO_spec 512 15872 chkO_31 x (by omega) (by omega)
 ·exact chkO_spec 512 16384 chkO_32 x (by omega) (by omega)
 ·exact chkO_spec 512 16896 chkO_33 x (by omega) (by omega)
 ·exact chkO_spec 512 17408 chkO_34 x (by omega) (by omega)
 ·exact chkO_spec 512 17920 chkO_35 x (by omega) (by omega)
 ·exact chkO_spec 512 18432 chkO_36 x (by omega) (by omega)
 ·exact chkO_spec 512 18944 chkO_37 x (by omega) (by omega)
 ·exact chkO_spec 512 19456 chkO_38 x (by omega) (by omega)
 ·exact chkO_spec 512 19968 chkO_39 x (by omega) (by omega)
 ·exact chkO_spec 512 20480 chkO_40 x (by omega) (by omega)
 ·exact chkO_spec 512 20992 chkO_41 x (by omega) (by omega)
 ·exact chkO_spec 512 21504 chkO_42 x (by omega) (by omega)
 ·exact chkO_spec 512 22016 chkO_43 x (by omega) (by omega)
 ·exact chkO_spec 512 22528 chkO_44 x (by omega) (by omega)
 ·exact chkO_spec 512 23040 chkO_45 x (by omega) (by omega)
 ·exact chkO_spec 512 23552 chkO_46 x (by omega) (by omega)
 ·exact chkO_spec 512 24064 chkO_47 x (by omega) (by omega)
 ·exact chkO_spec 512 24576 chkO_48 x (by omega) (by omega)
 ·exact chkO_spec 512 25088 chkO_49 x (by omega) (by omega)
 ·exact chkO_spec 512 25600 chkO_50 x (by omega) (by omega)
 ·exact chkO_spec 512 26112 chkO_51 x (by omega) (by omega)
 ·exact chkO_spec 512 26624 chkO_52 x (by omega) (by omega)
 ·exact chkO_spec 512 27136 chkO_53 x (by omega) (by omega)
 ·exact chkO_spec 512 27648 chkO_54 x (by omega) (by omega)
 ·exact chkO_spec 512 28160 chkO_55 x (by omega) (by omega)
 ·exact chkO_spec 512 28672 chkO_56 x (by omega) (by omega)
 ·exact chkO_spec 512 29184 chkO_57 x (by omega) (by omega)
 ·exact chkO_spec 512 29696 chkO_58 x (by omega) (by omega)
 ·exact chkO_spec 512 30208 chkO_59 x (by omega) (by omega)
 ·exact chkO_spec 512 30720 chkO_60 x (by omega) (by omega)
 ·exact chkO_spec 512 31232 chkO_61 x (by omega) (by omega)
 ·exact chkO_spec 512 31744 chkO_62 x (by omega) (by omega)
 ·exact chkO_spec 512 32256 chkO_63 x (by omega) (by omega)
theorem pop_bits (x:Nat):popN x=cntB (fun k=>x.testBit k) 15:=by
 have h:∀ k,(if x.testBit k=true then 1 else 0)=x / 2 ^ k % 2:=by
  intro k
  rw [Nat.testBit_eq_decide_div_mod_eq]
  have:=Nat.mod_two_eq_zero_or_one (x / 2 ^ k)
  rcases this with h | h <;> rw [h] <;> simp
 simp only [cntB,h]
 unfold popN
 simp
theorem ones_eq {x:Nat} (h:x < 32768):ones x=cntB (fun k=>x.testBit k) 15:=(ones_pop h).trans (pop_bits x)
theorem ones_mask (f : Nat → Bool) {n : Nat} (hn : n ≤ 15) : ones (maskTo f n) = cntB f n := by
  have hlt : maskTo f n < 32768 := Nat.lt_of_lt_of_le (maskTo_lt f n) (by
    have : 2 ^ n ≤ 2 ^ 15 := Nat.pow_le_pow_right (by decide) hn
    exact this)
  rw [ones_eq hlt]
  have h1 : cntB (fun k => (maskTo f n).testBit k) 15 = cntB (fun k => decide (k < n) && f k) 15 := cntB_congr _ (fun k _ => maskTo_testBit f n k)
  rw [h1]
  have key : ∀ m, n ≤ m → cntB (fun k => decide (k < n) && f k) m = cntB f n := by
    intro m
    induction m with
    | zero => intro h; have : n = 0 := by omega
              subst this; rfl
    | succ m ih =>
      intro h
      simp only [cntB]
      by_cases e : n = m + 1
      · subst e
        rw [cntB_congr m (g := f) (fun k hk => by simp; omega)]
        simp [cntB]
      · rw [ih (by omega)]
        simp; omega
  exact key 15 hn
def pairsTo (n:Nat) (f:Nat→Nat→Bool):Nat→Nat
 | 0=>0
 | j+1=>pairsTo n f j+cntB (f j) n
theorem pairsTo_le (n:Nat) (f:Nat→Nat→Bool) (j:Nat):pairsTo n f j≤j * n:=by
 induction j with
 | zero=>exact Nat.zero_le _
 | succ j ih=>simp only [pairsTo];have:=cntB_le (f j) n;rw [Nat.add_mul];omega
end Go.Proofs.YtlddmagfbcomgaaGreat
namespace Go.Proofs.YtlddmagfbcomgaaGreat
open Go.RowKit
theorem CountRel_any (v:Value) (n:Nat) (f:Nat→Nat→Bool) (w:World) (hx:Rep IntE w v (relOf n f)) (hn:n≤15) :
 Calls Tryz.prog 37 #[v] w fun e w'=>e = .returned (.int .i64 (pairsTo n f n:Nat))∧Below w.heap.size w w':=by
 have HA:=hide (RelValid_any v n f w hx (by omega))
 obtain ⟨a,c,rfl, -, -, -,hx⟩:=hx.open
 simp only [relOf_length] at *
 have HX:=hide hx
 have HS:Hid (∀ k,pairsTo n f (k+1)=pairsTo n f k+cntB (f k) n):=hide (fun k=>rfl)
 have hq0:Hid (pairsTo n f 0=0):=hide rfl
 have HL:=hide (fun k=>pairsTo_le n f k)
 have HC:=hide (fun k=>cntB_le (f k) n)
 have HO:=hide (fun k w'=>OnesCount_any (maskTo (f k) n) w' (Nat.lt_of_lt_of_le (maskTo_lt (f k) n) (Nat.pow_le_pow_right (by decide:0 < 2) hn)))
 have HM:=hide (fun k=>ones_mask (f k) hn)
 have HB:=hide (fun k=>bitsTo_mask (f k) n (by omega))
 have HT:=hide (fun k=>Nat.lt_of_lt_of_le (maskTo_lt (f k) n) (Nat.pow_le_pow_right (by decide:0 < 2) hn))
 clear hx
 generalize hG:relOf n f=G at *
 have HG:=hide hG;clear hG
 generalize hq:pairsTo n f=Q at *
 clear hq
 go_enter Tryz.func37,Tryz.ntmps37
 go_wp2_with fail
 (with_reducible refine HA.out.mono ?_);rintro e w0 ⟨rfl,hb0⟩
 have HB0:=hide hb0;clear hb0 HA
 go_wp2_with fail
 go_loopw [3,11] (fun s i wr => ∃ k:Nat,k≤n∧i = .int .i64 k∧s = .int .i64 (Q k:Nat)∧wr=w0) (fun _ i _=>n - (intOf i).toNat)
 case atStart=>exact ⟨0,Nat.zero_le _,rfl,by rw [hq0.out];rfl,rfl⟩
 case round =>
  obtain ⟨k,hk,rfl,rfl,rfl⟩:=hrel
  by_cases hlt:k < n
  ·have hlt':=nat_of_lt hlt
   obtain ⟨b,o,rfl,hbl,i0⟩:=(HX.out.below HB0.out).int (by rw [← HG.out];exact relOf_get hlt)
   rw [HB.out] at i0
   have ho:=HO.out k
   rw [HM.out] at ho
   have HO1:=hide ho
   have hm:=HT.out k
   have hs:=HS.out k
   have hl:=HL.out (k+1)
   have hc:=HC.out k
   have hm2:IntKind.u64.wrap (maskTo (f k) n:Int)=(maskTo (f k) n:Int):=by rw [IntKind.wrap_u64];omega
   have hkn:(k+1) * n≤225:=by
    have h1:(k+1) * n≤15 * 15:=Nat.mul_le_mul (by omega) hn
    omega
   have hq1:wrap64 ((Q k:Int)+(cntB (f k) n:Int))=(Q (k+1):Int):=by unfold wrap64;omega
   clear hs hl
   generalize maskTo (f k) n=m at *
   generalize cntB (f k) n=z at *
   go_wp2_with fail
   (with_reducible refine (HO1.out _).mono ?_);rintro e w2 ⟨rfl,rfl⟩
   go_wp2_with fail
   go_roundw
   case rel=>exact ⟨k+1,by omega,by go_num,by first | rw [← hq1] | simp [hq1],by first | exact rfl | trivial⟩
   case measure=>simp [intOf];omega
  ·go_wp2_with fail
   go_ret
   obtain rfl:k=n:=by omega
   exact ⟨rfl,HB0.out⟩
end Go.Proofs.YtlddmagfbcomgaaGreat
namespace Go.Proofs.YtlddmagfbcomgaaGreat
open Go.RowKit
theorem DrawDelayRel_any (v:Value) (xs0:List Int) (w:World) (hx:Rep ByteE w v xs0) (hb:∀ x∈xs0,0≤x∧x≤255) :
 Calls Tryz.prog 32 #[v] w (RetProg w):=by
 have HO:=hide (DrawRacesOf_any v xs0 w hx hb)
 clear hx hb
 go_enter Tryz.func32,Tryz.ntmps32
 go_wp2_with fail
 (with_reducible refine HO.out.mono ?_);rintro e w1 ⟨v1,P,rfl,hP,hl,hl2,hb1⟩
 have HL2:=hide hl2
 clear hl2
 go_wp2_with fail
 go_ret
 exact ⟨_,P,rfl,hP,hl,HL2.out,hb1⟩
theorem cntB_zero {f:Nat→Bool}:∀ {n:Nat},cntB f n=0→∀ k,k < n→f k=false:=by
 intro n
 induction n with
 | zero=>intro _ k hk;omega
 | succ n ih =>
  intro h k hk
  unfold cntB at h
  by_cases e:k=n
  ·subst e
   cases hf:f k with
   | false=>rfl
   | true=>rw [hf] at h;simp at h
  ·exact ih (by omega) k (by omega)
theorem pairsTo_zero {n:Nat} {f:Nat→Nat→Bool}:∀ {j:Nat},pairsTo n f j=0→∀ a b,a < j→b < n→f a b=false:=by
 intro j
 induction j with
 | zero=>intro _ a b ha;omega
 | succ j ih =>
  intro h a b ha hb
  unfold pairsTo at h
  by_cases e:a=j
  ·subst e;exact cntB_zero (by omega) b hb
  ·exact ih (by omega) a b (by omega) hb
def delN (P:List (List Ins)):Nat:=pairsTo (evAll P).length (delF (evAll P).length (confB (evAll P)) (poB (evAll P))) (evAll P).length
theorem delay_facts {P:List (List Ins)} (h:progValid P=true):progValid (dropV P)=true∧delayV (dropV P)=delayV P∧(delN P=0→∀ t i k,Delayed (dropV P) t i k→Sep (dropV P) t i k):=by
 have e:dropV P=dropP P:=by unfold dropV;rw [if_pos h]
 rw [e]
 refine ⟨progValid_drop h, ?_,fun h0 t i k hd=>none_sep ?_ hd⟩
 ·unfold delayV
  rw [if_pos h,if_pos (progValid_drop h)]
  unfold delays
  rw [delF_drop,evLen_drop]
 ·intro a b ha hb
  rw [delF_drop]
  rw [evLen_drop] at ha hb
  exact pairsTo_zero h0 a b ha hb
theorem delay_count {P:List (List Ins)} (h:progValid P=true) (v:Value) (w:World) (hr:Rep IntE w v (delayV P)):Calls Tryz.prog 37 #[v] w fun e w'=>e = .returned (.int .i64 (delN P:Nat))∧Below w.heap.size w w':=by
 have e:delayV P=relOf (evAll P).length (delF (evAll P).length (confB (evAll P)) (poB (evAll P))):=by unfold delayV delays;rw [if_pos h]
 rw [e] at hr
 exact CountRel_any v _ _ w hr (evAll_le h)
theorem dropV_flatY (P:List (List Ins)):(dropV P).flatten.length≤P.flatten.length:=by
 unfold dropV
 split
 ·exact dropP_flatten P
 ·simp
theorem lawFnDelayFence (v:Value) (xs:List Int) (w:World) (h:Rep ByteE w v xs∧∀ x∈xs,0≤x∧x≤255) :
 Calls Tryz.prog 7 #[v] w fun e w'=>e = .returned (.bool true)∧Below w.heap.size w w':=by
 obtain ⟨hx,hb⟩:=h
 obtain ⟨a0,c0,rfl, -,hm, -,hx⟩:=hx.open
 have HD:=hide (DrawDelayRel_any (.slice a0 xs.length c0) xs w hx hb)
 clear hx hb
 generalize xs.length=n at *
 by_cases hl:(n:Int) > 1048576
 ·go_enter Tryz.func7,Tryz.ntmps7
  go_wp2_with fail
  go_ret
  exact ⟨rfl,Below.refl _ _⟩
 ·have hl':decide ((n:Int) > 1048576)=false:=decide_eq_false hl
  go_enter Tryz.func7,Tryz.ntmps7
  go_wp2_with fail
  (with_reducible refine HD.out.mono ?_);rintro e w1 ⟨v1,P,rfl,hP,hPl,hPr,hb1⟩
  have hfl:=flatten_bound9 hPl hPr
  have hfq:=dropV_flatY P
  have HP:=hide hP;have HB1:=hide hb1
  have HI:=hide (DelayRel_any v1 P w1 hP (by omega))
  have HS:=hide (fun w' h=>sDelayRel_any v1 P w' h (by omega) (by omega))
  have HV:=hide (fun w' h=>ProgramValid_any v1 P w' h (by omega))
  have HDF:=hide (fun w' h=>DropFences_any v1 P w' h (by omega))
  have HDQ:=hide (fun q w' h=>DelayRel_any q (dropV P) w' h (by omega))
  have HT:=hide (fun h=>delay_facts (P:=P) h)
  have HC:=hide (fun h v w hr=>delay_count (P:=P) h v w hr)
  have HRT:=hide (fun q w' h h2 h3=>Robust_tso q (dropV P) w' h (by omega) h2 h3)
  have HRP:=hide (fun q w' h h2 h3=>Robust_pso q (dropV P) w' h (by omega) h2 h3)
  clear hP hb1 HD hPr hfl hfq hPl
  generalize dropV P=Q at *
  generalize delN P=c at *
  generalize hD0:delayV P=R at *
  clear hD0
  go_wp2_with fail
  (with_reducible refine HI.out.mono ?_);rintro e wa ⟨rv,rfl,hro,hba⟩
  have HBa:=hide (HB1.out.trans (hba.mono HB1.out.size));have HPa:=hide (HP.out.below hba);have HRa:=hide hro.rep
  clear hro hba HI HP HB1
  go_wp2_with fail
  (with_reducible refine (HS.out _ HPa.out).mono ?_);rintro e w2 ⟨sv,rfl,hso,hb2⟩
  have S2:=hide hso.rep;have HB2:=hide (HBa.out.trans (hb2.mono HBa.out.size));have HP2:=hide (HPa.out.below hb2);have HR2:=hide (HRa.out.below hb2)
  clear hso hb2 HPa HBa HRa
  go_wp2_with fail
  (with_reducible refine (wmInts_any rv sv R _ HR2.out S2.out).mono ?_);rintro e w3 ⟨rfl,hb3⟩
  have HB3:=hide (HB2.out.trans (hb3.mono HB2.out.size));have HP3:=hide (HP2.out.below hb3);have HR3:=hide (HR2.out.below hb3)
  clear hb3 HP2 HB2 HR2 S2
  go_wp2_with fail
  (with_reducible refine (HV.out _ HP3.out).mono ?_);rintro e w4 ⟨rfl,hb4⟩
  have HB4:=hide (HB3.out.trans (hb4.mono HB3.out.size));have HP4:=hide (HP3.out.below hb4);have HR4:=hide (HR3.out.below hb4)
  clear hb4 HP3 HB3 HR3
  cases hv:progValid P
  ·clear HT HC hv
   go_wp2_with fail
   (with_reducible refine (HS.out _ HP4.out).mono ?_);rintro e w5 ⟨sv5,rfl,hso5,hb5⟩
   have S5:=hide hso5.rep;have HB5:=hide (HB4.out.trans (hb5.mono HB4.out.size));have HR5:=hide (HR4.out.below hb5)
   clear hso5 hb5
   go_wp2_with fail
   (with_reducible refine (wmInts_any rv sv5 R _ HR5.out S5.out).mono ?_);rintro e w6 ⟨rfl,hb6⟩
   go_wp2_with fail
   go_ret
   exact ⟨rfl,HB5.out.trans (hb6.mono HB5.out.size)⟩
  ·obtain ⟨hvQ,hdq,hsep⟩:=HT.out hv
   have HVQ:=hide hvQ;have HSEP:=hide hsep;have HCV:=hide (fun v w hr=>HC.out hv v w hr)
   rw [hv] at HDF
   rw [hdq] at HDQ
   clear HT hvQ hsep hdq HC hv
   go_wp2_with fail
   (with_reducible refine (HDF.out _ HP4.out).mono ?_);rintro e w5 ⟨q,rfl,o5,hb5⟩
   have R5:=hide o5.rep;have HB5:=hide (HB4.out.trans (hb5.mono HB4.out.size));have HR5:=hide (HR4.out.below hb5)
   clear o5 hb5 HB4 HP4 HR4
   go_wp2_with fail
   (with_reducible refine (HCV.out rv _ HR5.out).mono ?_);rintro e w6 ⟨rfl,hb6⟩
   have R6:=hide (R5.out.below hb6);have HB6:=hide (HB5.out.trans (hb6.mono HB5.out.size));have HR6:=hide (HR5.out.below hb6)
   clear hb6 HB5 R5 HR5
   by_cases hc0:c=0
   ·subst hc0
    have HSE2:=hide (HSEP.out rfl)
    clear HSEP
    go_wp2_with fail
    (with_reducible refine (HDQ.out q _ R6.out).mono ?_);rintro e w7 ⟨dv,rfl,hdo,hb7⟩
    have D7:=hide hdo.rep;have R7:=hide (R6.out.below hb7);have HB7:=hide (HB6.out.trans (hb7.mono HB6.out.size));have HR7:=hide (HR6.out.below hb7)
    clear hdo hb7 HB6 R6 HR6
    go_wp2_with fail
    (with_reducible refine (wmInts_any dv rv R _ D7.out HR7.out).mono ?_);rintro e w8 ⟨rfl,hb8⟩
    have R8:=hide (R7.out.below hb8);have HB8:=hide (HB7.out.trans (hb8.mono HB7.out.size))
    clear hb8 HB7 R7 HR7 D7
    go_wp2_with fail
    (with_reducible refine (HRT.out q _ R8.out HVQ.out HSE2.out).mono ?_);rintro e w9 ⟨rfl,hb9⟩
    have HB9:=hide (HB8.out.trans (hb9.mono HB8.out.size));have R9:=hide (R8.out.below hb9)
    clear hb9 HB8 R8 HRT
    go_wp2_with fail
    (with_reducible refine (HRP.out q _ R9.out HVQ.out HSE2.out).mono ?_);rintro e w10 ⟨rfl,hb10⟩
    go_wp2_with fail
    go_ret
    exact ⟨rfl,HB9.out.trans (hb10.mono HB9.out.size)⟩
   ·have hce:((c:Int)==0)=false:=by simp;omega
    clear hc0
    go_wp2_with fail
    (with_reducible refine (HDQ.out q _ R6.out).mono ?_);rintro e w7 ⟨dv,rfl,hdo,hb7⟩
    have D7:=hide hdo.rep;have R7:=hide (R6.out.below hb7);have HB7:=hide (HB6.out.trans (hb7.mono HB6.out.size));have HR7:=hide (HR6.out.below hb7)
    clear hdo hb7 HB6 R6 HR6
    go_wp2_with fail
    (with_reducible refine (wmInts_any dv rv R _ D7.out HR7.out).mono ?_);rintro e w8 ⟨rfl,hb8⟩
    go_wp2_with fail
    go_ret
    exact ⟨rfl,HB7.out.trans (hb8.mono HB7.out.size)⟩
end Go.Proofs.YtlddmagfbcomgaaGreat
namespace Go.Proofs.YtlddmagfbcomgaaGreat
open Go.RowKit Go.ChangeShapes Go.WideShapes Go.ChangeAt
open Go.ChangeMaps (open_string)
theorem fnDelayFence_reads:∀ t∈Tryz.f7.params.toList,Tryz.prog.readableRec t=true∧t < Tryz.prog.types.size:=by
 intro t ht
 have:t=22:=by simpa [Tryz.params7] using ht
 subst this
 exact ⟨by kernel_rfl,of_decide_eq_true (by kernel_rfl)⟩
theorem fnDelayFence_lifted (os:Os) (started:os.Started) (H:Type) (enc:TypeId × Value→H) :
 ReturnsInHanded {} Tryz.checked os 7 .any (Rows.fnDelayFenceSpec.pre6 enc Tryz.prog Tryz.f7 Rows.fnDelayFenceRow.domain false) (Rows.fnDelayFenceSpec.post enc Tryz.prog Tryz.f7 false true false false):=by
 refine returnsInHanded_of_change (C:=Tryz.checked) Tryz.own started (by kernel_rfl) Tryz.func7
  (ChangeSpec.witness6 (enc:=enc) (C:=Tryz.checked) false ⟨#[],#[.slice none 0 0],[]⟩ 8 (by kernel_rfl) (by kernel_rfl) (by kernel_rfl) (by kernel_rfl)) ?_
 intro W base args ds gs before hval0 hW hcnd _
 have hval:∀ (j:Nat) t v,Tryz.f7.params[j]? = some t→args[j]? = some v→Value.okWide Tryz.prog W .any base t v:=hval0
 have hW':=hW
 obtain ⟨p,q,hA0,hV,rfl,hfz,hnd⟩:=hW
 have hA:DataW.TrodAll enc Tryz.prog W 0 (fun _=>true) true Tryz.f7.params.toList args.toList ds p:=hA0
 rw [Tryz.params7] at hA hval
 obtain ⟨v0,d0,rfl,rfl,h0⟩:=trodAll_one hA
 obtain ⟨rfl,rfl⟩:=trodVars_none hV
 obtain ⟨B0,hB0⟩:=bytes_of_trod (okWide_slice Tryz.underlying22 (hval 0 22 v0 rfl rfl)) h0
 refine (lawFnDelayFence v0 B0 W hB0).mono fun e W' ⟨he,hb⟩ => ?_
 exact ⟨_,he,post_law Tryz.laidOut fnDelayFence_reads rfl rfl (by kernel_rfl) Tryz.underlying4 hW' hb⟩
theorem fnDelayFence_holds:Rows.FnDelayFenceSaid:=
 OpenClaim.holds_of_wide 7 Tryz.f7 rfl rfl rfl rfl rfl rfl rfl ⟨rfl,rfl,rfl,rfl,rfl⟩ rfl rfl rfl rfl rfl (by kernel_rfl) Tryz.func7 (by kernel_rfl)
  (of_decide_eq_true (by kernel_rfl)) (by unfold Func.isWrapper;first | (rw [if_pos (by decide +kernel)];kernel_rfl) | (rw [if_neg (by decide +kernel)];exact ⟨rfl,rfl⟩))
  (fun os started H enc _=>fnDelayFence_lifted os started H enc)
end Go.Proofs.YtlddmagfbcomgaaGreat