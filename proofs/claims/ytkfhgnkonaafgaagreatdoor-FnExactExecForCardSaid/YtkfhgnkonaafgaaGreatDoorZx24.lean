/-
  The reference's parser of expressions: bytes, levels, signs, operations. No condition but bounds.
-/
import Derived.Test.YtkfhgnkonaafgaaGreatDoorZx20
import Derived.Test.YtkfhgnkonaafgaaGreatDoorZx15
import Derived.Test.YtkfhgnkonaafgaaGreatDoorZx19
import Derived.Test.YtkfhgnkonaafgaaGreatDoorZx16
import Derived.Test.YtkfhgnkonaafgaaGreatDoorZx22
set_option maxHeartbeats 6400000
set_option maxRecDepth 100000
namespace Go.Proofs.YtkfhgnkonaafgaaGreatDoor
open Go.RowKit
def cntB (f:Nat→Bool):Nat→Nat
 | 0=>0
 | n+1=>cntB f n+if f n=true then 1 else 0
theorem cntB_le (f:Nat→Bool) (n:Nat):cntB f n≤n:=by
 induction n with
 | zero=>exact Nat.le_refl _
 | succ n ih=>simp only [cntB];split <;> omega
theorem cntB_congr {f g:Nat→Bool}:∀ n,(∀ k,k < n→f k=g k)→cntB f n=cntB g n:=by
 intro n
 induction n with
 | zero=>intro _;rfl
 | succ n ih=>intro h;simp only [cntB];rw [ih (fun k hk=>h k (by omega)),h n (by omega)]
def popN (x:Nat):Nat:=x % 2+x / 2 % 2+x / 4 % 2+x / 8 % 2+x / 16 % 2+x / 32 % 2+x / 64 % 2+x / 128 % 2+x / 256 % 2+x / 512 % 2+x / 1024 % 2+x / 2048 % 2+x / 4096 % 2+x / 8192 % 2+x / 16384 % 2
def chkO:Nat→Nat→Bool
 | 0,_=>true
 | n+1,s=>Nat.beq (ones s) (popN s)&&chkO n (s+1)
theorem chkO_spec:∀ n s,chkO n s=true→∀ x,s≤x→x < s+n→ones x=popN x:=by
 intro n
 induction n with
 | zero=>intro s _ x h1 h2;omega
 | succ n ih =>
  intro s h x h1 h2
  simp only [chkO,Bool.and_eq_true] at h
  by_cases e:x=s
  ·rw [e];exact Nat.eq_of_beq_eq_true h.1
  ·exact ih (s+1) h.2 x (by omega) (by omega)
theorem chkO_0:chkO 512 0=true:=by kernel_rfl
theorem chkO_1:chkO 512 512=true:=by kernel_rfl
theorem chkO_2:chkO 512 1024=true:=by kernel_rfl
theorem chkO_3:chkO 512 1536=true:=by kernel_rfl
theorem chkO_4:chkO 512 2048=true:=by kernel_rfl
theorem chkO_5:chkO 512 2560=true:=by kernel_rfl
theorem chkO_6:chkO 512 3072=true:=by kernel_rfl
theorem chkO_7:chkO 512 3584=true:=by kernel_rfl
theorem chkO_8:chkO 512 4096=true:=by kernel_rfl
theorem chkO_9:chkO 512 4608=true:=by kernel_rfl
theorem chkO_10:chkO 512 5120=true:=by kernel_rfl
theorem chkO_11:chkO 512 5632=true:=by kernel_rfl
theorem chkO_12:chkO 512 6144=true:=by kernel_rfl
theorem chkO_13:chkO 512 6656=true:=by kernel_rfl
theorem chkO_14:chkO 512 7168=true:=by kernel_rfl
theorem chkO_15:chkO 512 7680=true:=by kernel_rfl
theorem chkO_16:chkO 512 8192=true:=by kernel_rfl
theorem chkO_17:chkO 512 8704=true:=by kernel_rfl
theorem chkO_18:chkO 512 9216=true:=by kernel_rfl
theorem chkO_19:chkO 512 9728=true:=by kernel_rfl
theorem chkO_20:chkO 512 10240=true:=by kernel_rfl
theorem chkO_21:chkO 512 10752=true:=by kernel_rfl
theorem chkO_22:chkO 512 11264=true:=by kernel_rfl
theorem chkO_23:chkO 512 11776=true:=by kernel_rfl
theorem chkO_24:chkO 512 12288=true:=by kernel_rfl
theorem chkO_25:chkO 512 12800=true:=by kernel_rfl
theorem chkO_26:chkO 512 13312=true:=by kernel_rfl
theorem chkO_27:chkO 512 13824=true:=by kernel_rfl
theorem chkO_28:chkO 512 14336=true:=by kernel_rfl
theorem chkO_29:chkO 512 14848=true:=by kernel_rfl
theorem chkO_30:chkO 512 15360=true:=by kernel_rfl
theorem chkO_31:chkO 512 15872=true:=by kernel_rfl
theorem chkO_32:chkO 512 16384=true:=by kernel_rfl
theorem chkO_33:chkO 512 16896=true:=by kernel_rfl
theorem chkO_34:chkO 512 17408=true:=by kernel_rfl
theorem chkO_35:chkO 512 17920=true:=by kernel_rfl
theorem chkO_36:chkO 512 18432=true:=by kernel_rfl
theorem chkO_37:chkO 512 18944=true:=by kernel_rfl
theorem chkO_38:chkO 512 19456=true:=by kernel_rfl
theorem chkO_39:chkO 512 19968=true:=by kernel_rfl
theorem chkO_40:chkO 512 20480=true:=by kernel_rfl
theorem chkO_41:chkO 512 20992=true:=by kernel_rfl
theorem chkO_42:chkO 512 21504=true:=by kernel_rfl
theorem chkO_43:chkO 512 22016=true:=by kernel_rfl
theorem chkO_44:chkO 512 22528=true:=by kernel_rfl
theorem chkO_45:chkO 512 23040=true:=by kernel_rfl
theorem chkO_46:chkO 512 23552=true:=by kernel_rfl
theorem chkO_47:chkO 512 24064=true:=by kernel_rfl
theorem chkO_48:chkO 512 24576=true:=by kernel_rfl
theorem chkO_49:chkO 512 25088=true:=by kernel_rfl
theorem chkO_50:chkO 512 25600=true:=by kernel_rfl
theorem chkO_51:chkO 512 26112=true:=by kernel_rfl
theorem chkO_52:chkO 512 26624=true:=by kernel_rfl
theorem chkO_53:chkO 512 27136=true:=by kernel_rfl
theorem chkO_54:chkO 512 27648=true:=by kernel_rfl
theorem chkO_55:chkO 512 28160=true:=by kernel_rfl
theorem chkO_56:chkO 512 28672=true:=by kernel_rfl
theorem chkO_57:chkO 512 29184=true:=by kernel_rfl
theorem chkO_58:chkO 512 29696=true:=by kernel_rfl
theorem chkO_59:chkO 512 30208=true:=by kernel_rfl
theorem chkO_60:chkO 512 30720=true:=by kernel_rfl
theorem chkO_61:chkO 512 31232=true:=by kernel_rfl
theorem chkO_62:chkO 512 31744=true:=by kernel_rfl
theorem chkO_63:chkO 512 32256=true:=by kernel_rfl
theorem ones_pop {x:Nat} (h:x < 32768):ones x=popN x:=by
 have hc:x / 512=0∨x / 512=1∨x / 512=2∨x / 512=3∨x / 512=4∨x / 512=5∨x / 512=6∨x / 512=7∨x / 512=8∨x / 512=9∨x / 512=10∨x / 512=11∨x / 512=12∨x / 512=13∨x / 512=14∨x / 512=15∨x / 512=16∨x / 512=17∨x / 512=18∨x / 512=19∨x / 512=20∨x / 512=21∨x / 512=22∨x / 512=23∨x / 512=24∨x / 512=25∨x / 512=26∨x / 512=27∨x / 512=28∨x / 512=29∨x / 512=30∨x / 512=31∨x / 512=32∨x / 512=33∨x / 512=34∨x / 512=35∨x / 512=36∨x / 512=37∨x / 512=38∨x / 512=39∨x / 512=40∨x / 512=41∨x / 512=42∨x / 512=43∨x / 512=44∨x / 512=45∨x / 512=46∨x / 512=47∨x / 512=48∨x / 512=49∨x / 512=50∨x / 512=51∨x / 512=52∨x / 512=53∨x / 512=54∨x / 512=55∨x / 512=56∨x / 512=57∨x / 512=58∨x / 512=59∨x / 512=60∨x / 512=61∨x / 512=62∨x / 512=63:=by omega
 rcases hc with h0 | h0 | h0 | h0 | h0 | h0 | h0 | h0 | h0 | h0 | h0 | h0 | h0 | h0 | h0 | h0 | h0 | h0 | h0 | h0 | h0 | h0 | h0 | h0 | h0 | h0 | h0 | h0 | h0 | h0 | h0 | h0 | h0 | h0 | h0 | h0 | h0 | h0 | h0 | h0 | h0 | h0 | h0 | h0 | h0 | h0 | h0 | h0 | h0 | h0 | h0 | h0 | h0 | h0 | h0 | h0 | h0 | h0 | h0 | h0 | h0 | h0 | h0 | h0
 ·exact chkO_spec 512 0 chkO_0 x (by omega) (by omega)
 ·exact chkO_spec 512 512 chkO_1 x (by omega) (by omega)
 ·exact chkO_spec 512 1024 chkO_2 x (by omega) (by omega)
 ·exact chkO_spec 512 1536 chkO_3 x (by omega) (by omega)
 ·exact chkO_spec 512 2048 chkO_4 x (by omega) (by omega)
 ·exact chkO_spec 512 2560 chkO_5 x (by omega) (by omega)
 ·exact chkO_spec 512 3072 chkO_6 x (by omega) (by omega)
 ·exact chkO_spec 512 3584 chkO_7 x (by omega) (by omega)
 ·exact chkO_spec 512 4096 chkO_8 x (by omega) (by omega)
 ·exact chkO_spec 512 4608 chkO_9 x (by omega) (by omega)
 ·exact chkO_spec 512 5120 chkO_10 x (by omega) (by omega)
 ·exact chkO_spec 512 5632 chkO_11 x (by omega) (by omega)
 ·exact chkO_spec 512 6144 chkO_12 x (by omega) (by omega)
 ·exact chkO_spec 512 6656 chkO_13 x (by omega) (by omega)
 ·exact chkO_spec 512 7168 chkO_14 x (by omega) (by omega)
 ·exact chkO_spec 512 7680 chkO_15 x (by omega) (by omega)
 ·exact chkO_spec 512 8192 chkO_16 x (by omega) (by omega)
 ·exact chkO_spec 512 8704 chkO_17 x (by omega) (by omega)
 ·exact chkO_spec 512 9216 chkO_18 x (by omega) (by omega)
 ·exact chkO_spec 512 9728 chkO_19 x (by omega) (by omega)
 ·exact chkO_spec 512 10240 chkO_20 x (by omega) (by omega)
 ·exact chkO_spec 512 10752 chkO_21 x (by omega) (by omega)
 ·exact chkO_spec 512 11264 chkO_22 x (by omega) (by omega)
 ·exact chkO_spec 512 11776 chkO_23 x (by omega) (by omega)
 ·exact chkO_spec 512 12288 chkO_24 x (by omega) (by omega)
 ·exact chkO_spec 512 12800 chkO_25 x (by omega) (by omega)
 ·exact chkO_spec 512 13312 chkO_26 x (by omega) (by omega)
 ·exact chkO_spec 512 13824 chkO_27 x (by omega) (by omega)
 ·exact chkO_spec 512 14336 chkO_28 x (by omega) (by omega)
 ·exact chkO_spec 512 14848 chkO_29 x (by omega) (by omega)
 ·exact chkO_spec 512 15360 chkO_30 x (by omega) (by omega)
 ·exact chkO_spec 512 15872 chkO_31 x (by omega) (by omega)
 ·exact chkO_spec 512 16384 chkO_32 x (by omega) (by omega)
 ·exact chkO_spec 512 16896 chkO_33 x (by omega) (by omega)
 ·exact chkO_spec 512 17408 chkO_34 x (by omega) (by omega)
 ·exact chkO_spec 512 17920 chkO_35 x (by omega) (by omega)
 ·exact chkO_spec 512 18432 chkO_36 x (by omega) (by omega)
 ·exact chkO_spec 512 18944 chkO_37 x (by omega) (by omega)
 ·exact chkO_spec 512 19456 chkO_38 x (by omega) (by omega)
 ·exact chkO_spec 512 19968 chkO_39 x (by omega) (by omega)
 ·exact chkO_spec 512 20480 chkO_40 x (by omega) (by omega)
 ·exact chkO_spec 512 20992 chkO_41 x (by omega) (by omega)
 ·exact chkO_spec 512 21504 chkO_42 x (by omega) (by omega)
 ·exact chkO_spec 512 22016 chkO_43 x (by omega) (by omega)
 ·exact chkO_spec 512 22528 chkO_44 x (by omega) (by omega)
 ·exact chkO_spec 512 23040 chkO_45 x (by omega) (by omega)
 ·exact chkO_spec 512 23552 chkO_46 x (by omega) (by omega)
 ·exact chkO_spec 512 24064 chkO_47 x (by omega) (by omega)
 ·exact chkO_spec 512 24576 chkO_48 x (by omega) (by omega)
 ·exact chkO_spec 512 25088 chkO_49 x (by omega) (by omega)
 ·exact chkO_spec 512 25600 chkO_50 x (by omega) (by omega)
 ·exact chkO_spec 512 26112 chkO_51 x (by omega) (by omega)
 ·exact chkO_spec 512 26624 chkO_52 x (by omega) (by omega)
 ·exact chkO_spec 512 27136 chkO_53 x (by omega) (by omega)
 ·exact chkO_spec 512 27648 chkO_54 x (by omega) (by omega)
 ·exact chkO_spec 512 28160 chkO_55 x (by omega) (by omega)
 ·exact chkO_spec 512 28672 chkO_56 x (by omega) (by omega)
 ·exact chkO_spec 512 29184 chkO_57 x (by omega) (by omega)
 ·exact chkO_spec 512 29696 chkO_58 x (by omega) (by omega)
 ·exact chkO_spec 512 30208 chkO_59 x (by omega) (by omega)
 ·exact chkO_spec 512 30720 chkO_60 x (by omega) (by omega)
 ·exact chkO_spec 512 31232 chkO_61 x (by omega) (by omega)
 ·exact chkO_spec 512 31744 chkO_62 x (by omega) (by omega)
 ·exact chkO_spec 512 32256 chkO_63 x (by omega) (by omega)
theorem pop_bits (x:Nat):popN x=cntB (fun k=>x.testBit k) 15:=by
 have h:∀ k,(if x.testBit k=true then 1 else 0)=x / 2 ^ k % 2:=by
  intro k
  rw [Nat.testBit_eq_decide_div_mod_eq]
  have:=Nat.mod_two_eq_zero_or_one (x / 2 ^ k)
  rcases this with h | h <;> rw [h] <;> simp
 simp only [cntB,h]
 unfold popN
 simp
theorem ones_eq {x:Nat} (h:x < 32768):ones x=cntB (fun k=>x.testBit k) 15:=(ones_pop h).trans (pop_bits x)
theorem ones_mask (f : Nat → Bool) {n : Nat} (hn : n ≤ 15) : ones (maskTo f n) = cntB f n := by
  have hlt : maskTo f n < 32768 := Nat.lt_of_lt_of_le (maskTo_lt f n) (by
    have : 2 ^ n ≤ 2 ^ 15 := Nat.pow_le_pow_right (by decide) hn
    exact this)
  rw [ones_eq hlt]
  have h1 : cntB (fun k => (maskTo f n).testBit k) 15 = cntB (fun k => decide (k < n) && f k) 15 := cntB_congr _ (fun k _ => maskTo_testBit f n k)
  rw [h1]
  have key : ∀ m, n ≤ m → cntB (fun k => decide (k < n) && f k) m = cntB f n := by
    intro m
    induction m with
    | zero => intro h; have : n = 0 := by omega
              subst this; rfl
    | succ m ih =>
      intro h
      simp only [cntB]
      by_cases e : n = m + 1
      · subst e
        rw [cntB_congr m (g := f) (fun k hk => by simp; omega)]
        simp [cntB]
      · rw [ih (by omega)]
        simp; omega
  exact key 15 hn
def pairsTo (n:Nat) (f:Nat→Nat→Bool):Nat→Nat
 | 0=>0
 | j+1=>pairsTo n f j+cntB (f j) n
theorem pairsTo_le (n:Nat) (f:Nat→Nat→Bool) (j:Nat):pairsTo n f j≤j * n:=by
 induction j with
 | zero=>exact Nat.zero_le _
 | succ j ih=>simp only [pairsTo];have:=cntB_le (f j) n;rw [Nat.add_mul];omega
end Go.Proofs.YtkfhgnkonaafgaaGreatDoor
namespace Go.Proofs.YtkfhgnkonaafgaaGreatDoor
theorem prodR_get {α:Type}:∀ {cs:List (List α)} {r:List α},r∈prodR cs→∀ {i:Nat} {y:α},r[i]? = some y→∃ c,cs[i]? = some c∧y∈c:=by
 intro cs
 induction cs with
 | nil=>intro r hr i y hy;simp [prodR] at hr;subst hr;simp at hy
 | cons c cs ih =>
  intro r hr i y hy
  simp only [prodR,List.mem_flatMap,List.mem_map] at hr
  obtain ⟨z,hz,q,hq,rfl⟩:=hr
  cases i with
  | zero=>simp at hy;subst hy;exact ⟨c,rfl,hz⟩
  | succ i=>exact ih hq (by simpa using hy)
theorem permsL_perm:∀ (n:Nat) (xs:List Int),xs.length=n→∀ r∈permsL xs,r.Perm xs:=by
 intro n
 induction n with
 | zero =>
  intro xs hx r hr
  obtain rfl:xs=[]:=List.length_eq_zero_iff.1 hx
  rw [permsL_nil] at hr
  simp at hr;subst hr;exact List.Perm.refl _
 | succ n ih =>
  intro xs hx r hr
  rw [permsL_step (by omega)] at hr
  simp only [List.mem_flatMap,List.mem_range,List.mem_map] at hr
  obtain ⟨i,hi,q,hq,rfl⟩:=hr
  have h1:=ih (xs.eraseIdx i) (by rw [List.length_eraseIdx,if_pos hi,hx];rfl) q hq
  have h2:xs.getD i 0=xs[i]:=by simp [List.getD,hi]
  rw [h2]
  refine (h1.cons _).trans ?_
  have h3:xs=xs.take i++xs[i] :: xs.drop (i+1):=by rw [← List.drop_eq_getElem_cons hi,List.take_append_drop]
  rw [List.eraseIdx_eq_take_drop_succ]
  have h4:=(List.perm_middle (a:=xs[i]) (l₁:=xs.take i) (l₂:=xs.drop (i+1))).symm
  rw [← h3] at h4
  exact h4
theorem allX_ok {p:List (List Ins)} (hp:progValid p=true) {x:Xc} (h:x∈allX (evAll p)):execOk p x=true:=by
 rw [allX_eq] at h
 simp only [List.mem_flatMap,List.mem_map] at h
 obtain ⟨f,hf,o,ho,rfl⟩:=h
 have hfl:f.length=(evAll p).length:=by rw [prodR_row _ f hf];simp [chsF]
 have hol:o.length=3:=by rw [prodR_row _ o ho];simp [chsO]
 unfold execOk
 simp only [Bool.and_eq_true,decide_eq_true_eq]
 refine ⟨hp,hfl,hol, ?_, ?_⟩
 ·unfold fromsOk
  simp only [List.all_eq_true,List.mem_range]
  intro i hi
  obtain ⟨e,he⟩:=get_of_lt (xs:=evAll p) (k:=i) hi
  obtain ⟨y,hy⟩:=get_of_lt (xs:=f) (k:=i) (by omega)
  obtain ⟨c,hc,hm⟩:=prodR_get hf hy
  rw [he,hy]
  have hc2:c=chF (evAll p) i:=by
   unfold chsF at hc
   rw [List.getElem?_map,List.getElem?_range hi] at hc
   simpa using hc.symm
  subst hc2
  unfold chF at hm
  rw [he] at hm
  simp only at hm
  unfold fromOk
  simp only
  split at hm
  ·rename_i hr
   rw [if_pos hr]
   simp only [List.mem_filter,Bool.not_eq_true',beq_eq_false_iff_ne,ne_eq] at hm
   simp only [Bool.and_eq_true,bne_iff_ne,ne_eq,List.contains_iff_mem]
   exact ⟨hm.2,hm.1⟩
  ·rename_i hr
   rw [if_neg hr]
   simpa using hm
 ·unfold ordersOk
  simp only [List.all_eq_true,List.mem_range]
  intro l hl
  obtain ⟨y,hy⟩:=get_of_lt (xs:=o) (k:=l) (by omega)
  obtain ⟨c,hc,hm⟩:=prodR_get ho hy
  rw [hy]
  have hc2:c=chO (evAll p) l:=by
   unfold chsO at hc
   rw [List.getElem?_map,List.getElem?_range hl] at hc
   simpa using hc.symm
  subst hc2
  unfold chO at hm
  obtain ⟨q,hq,rfl⟩:=List.mem_map.1 hm
  have h1:=permsL_perm _ (wrL (evAll p) l).tail rfl q hq
  have h2:=head_wrL (p:=p) hl
  unfold orderOk
  simp only [Bool.and_eq_true,decide_eq_true_eq,List.head?_cons,beq_self_eq_true,and_true]
  cases hw:wrL (evAll p) l with
  | nil=>rw [hw] at h2;simp at h2
  | cons z zs =>
   rw [hw] at h1 h2
   simp only [List.head?_cons,Option.some.injEq] at h2
   subst h2
   exact h1.cons _
theorem cntB_zero {f:Nat→Bool}:∀ n,(∀ k,k < n→f k=false)→cntB f n=0:=by
 intro n
 induction n with
 | zero=>intro _;rfl
 | succ n ih=>intro h;simp only [cntB,ih fun k hk=>h k (by omega),h n (by omega)];rfl
theorem cntB_zero' {f:Nat→Bool}:∀ n,cntB f n=0→∀ k,k < n→f k=false:=by
 intro n
 induction n with
 | zero=>intro _ k hk;omega
 | succ n ih =>
  intro h k hk
  simp only [cntB] at h
  have h1:f n=false:=by cases hf:f n with
   | false=>rfl
   | true=>rw [hf] at h;simp at h
  by_cases e:k=n
  ·rw [e];exact h1
  ·exact ih (by omega) k (by omega)
theorem pairsTo_zero {n:Nat} {f:Nat→Nat→Bool}:∀ j,(∀ i k,i < j→k < n→f i k=false)→pairsTo n f j=0:=by
 intro j
 induction j with
 | zero=>intro _;rfl
 | succ j ih=>intro h;simp only [pairsTo,ih fun i k hi hk=>h i k (by omega) hk,cntB_zero n fun k hk=>h j k (by omega) hk]
theorem pairsTo_zero' {n:Nat} {f:Nat→Nat→Bool}:∀ j,pairsTo n f j=0→∀ i k,i < j→k < n→f i k=false:=by
 intro j
 induction j with
 | zero=>intro _ i k hi;omega
 | succ j ih =>
  intro h i k hi hk
  simp only [pairsTo] at h
  by_cases e:i=j
  ·rw [e];exact cntB_zero' n (by omega) k hk
  ·exact ih (by omega) i k (by omega) hk
end Go.Proofs.YtkfhgnkonaafgaaGreatDoor
namespace Go.Proofs.YtkfhgnkonaafgaaGreatDoor
section
variable {p : List (List Ins)} {x : Xc}
end
section
variable {p : List (List Ins)} {x : Xc}
end
end Go.Proofs.YtkfhgnkonaafgaaGreatDoor
namespace Go.Proofs.YtkfhgnkonaafgaaGreatDoor
inductive PM where
 | prime (i d:Int)
 | parse (i d lv:Int)
 | loop (d lv:Int) (l:Re) (n:Int)
end Go.Proofs.YtkfhgnkonaafgaaGreatDoor
namespace Go.Proofs.YtkfhgnkonaafgaaGreatDoor
open Go.RowKit
end Go.Proofs.YtkfhgnkonaafgaaGreatDoor