/-
  What rules ask of relations, in the program and in the reference. Condition: few elements.
-/
import Derived.Test.YtkfhgnkonaafgaaGreatDoorZs17
import Derived.Test.YtkfhgnkonaafgaaGreatDoorZs12
import Derived.Test.YtkfhgnkonaafgaaGreatDoorZs19
import Derived.Test.YtkfhgnkonaafgaaGreatDoorZs11
import Derived.Test.YtkfhgnkonaafgaaGreatDoorZs15
set_option maxHeartbeats 6400000
set_option maxRecDepth 100000
namespace Go.Proofs.YtkfhgnkonaafgaaGreatDoor
open Go.RowKit
def cntB (f:Nat→Bool):Nat→Nat
 | 0=>0
 | n+1=>cntB f n+if f n=true then 1 else 0
theorem cntB_le (f:Nat→Bool) (n:Nat):cntB f n≤n:=by
 induction n with
 | zero=>exact Nat.le_refl _
 | succ n ih=>simp only [cntB];split <;> omega
theorem cntB_congr {f g:Nat→Bool}:∀ n,(∀ k,k < n→f k=g k)→cntB f n=cntB g n:=by
 intro n
 induction n with
 | zero=>intro _;rfl
 | succ n ih=>intro h;simp only [cntB];rw [ih (fun k hk=>h k (by omega)),h n (by omega)]
def popN (x:Nat):Nat:=x % 2+x / 2 % 2+x / 4 % 2+x / 8 % 2+x / 16 % 2+x / 32 % 2+x / 64 % 2+x / 128 % 2+x / 256 % 2+x / 512 % 2+x / 1024 % 2+x / 2048 % 2+x / 4096 % 2+x / 8192 % 2+x / 16384 % 2
def chkO:Nat→Nat→Bool
 | 0,_=>true
 | n+1,s=>Nat.beq (ones s) (popN s)&&chkO n (s+1)
theorem chkO_spec:∀ n s,chkO n s=true→∀ x,s≤x→x < s+n→ones x=popN x:=by
 intro n
 induction n with
 | zero=>intro s _ x h1 h2;omega
 | succ n ih =>
  intro s h x h1 h2
  simp only [chkO,Bool.and_eq_true] at h
  by_cases e:x=s
  ·rw [e];exact Nat.eq_of_beq_eq_true h.1
  ·exact ih (s+1) h.2 x (by omega) (by omega)
theorem chkO_0:chkO 512 0=true:=by kernel_rfl
theorem chkO_1:chkO 512 512=true:=by kernel_rfl
theorem chkO_2:chkO 512 1024=true:=by kernel_rfl
theorem chkO_3:chkO 512 1536=true:=by kernel_rfl
theorem chkO_4:chkO 512 2048=true:=by kernel_rfl
theorem chkO_5:chkO 512 2560=true:=by kernel_rfl
theorem chkO_6:chkO 512 3072=true:=by kernel_rfl
theorem chkO_7:chkO 512 3584=true:=by kernel_rfl
theorem chkO_8:chkO 512 4096=true:=by kernel_rfl
theorem chkO_9:chkO 512 4608=true:=by kernel_rfl
theorem chkO_10:chkO 512 5120=true:=by kernel_rfl
theorem chkO_11:chkO 512 5632=true:=by kernel_rfl
theorem chkO_12:chkO 512 6144=true:=by kernel_rfl
theorem chkO_13:chkO 512 6656=true:=by kernel_rfl
theorem chkO_14:chkO 512 7168=true:=by kernel_rfl
theorem chkO_15:chkO 512 7680=true:=by kernel_rfl
theorem chkO_16:chkO 512 8192=true:=by kernel_rfl
theorem chkO_17:chkO 512 8704=true:=by kernel_rfl
theorem chkO_18:chkO 512 9216=true:=by kernel_rfl
theorem chkO_19:chkO 512 9728=true:=by kernel_rfl
theorem chkO_20:chkO 512 10240=true:=by kernel_rfl
theorem chkO_21:chkO 512 10752=true:=by kernel_rfl
theorem chkO_22:chkO 512 11264=true:=by kernel_rfl
theorem chkO_23:chkO 512 11776=true:=by kernel_rfl
theorem chkO_24:chkO 512 12288=true:=by kernel_rfl
theorem chkO_25:chkO 512 12800=true:=by kernel_rfl
theorem chkO_26:chkO 512 13312=true:=by kernel_rfl
theorem chkO_27:chkO 512 13824=true:=by kernel_rfl
theorem chkO_28:chkO 512 14336=true:=by kernel_rfl
theorem chkO_29:chkO 512 14848=true:=by kernel_rfl
theorem chkO_30:chkO 512 15360=true:=by kernel_rfl
theorem chkO_31:chkO 512 15872=true:=by kernel_rfl
theorem chkO_32:chkO 512 16384=true:=by kernel_rfl
theorem chkO_33:chkO 512 16896=true:=by kernel_rfl
theorem chkO_34:chkO 512 17408=true:=by kernel_rfl
theorem chkO_35:chkO 512 17920=true:=by kernel_rfl
theorem chkO_36:chkO 512 18432=true:=by kernel_rfl
theorem chkO_37:chkO 512 18944=true:=by kernel_rfl
theorem chkO_38:chkO 512 19456=true:=by kernel_rfl
theorem chkO_39:chkO 512 19968=true:=by kernel_rfl
theorem chkO_40:chkO 512 20480=true:=by kernel_rfl
theorem chkO_41:chkO 512 20992=true:=by kernel_rfl
theorem chkO_42:chkO 512 21504=true:=by kernel_rfl
theorem chkO_43:chkO 512 22016=true:=by kernel_rfl
theorem chkO_44:chkO 512 22528=true:=by kernel_rfl
theorem chkO_45:chkO 512 23040=true:=by kernel_rfl
theorem chkO_46:chkO 512 23552=true:=by kernel_rfl
theorem chkO_47:chkO 512 24064=true:=by kernel_rfl
theorem chkO_48:chkO 512 24576=true:=by kernel_rfl
theorem chkO_49:chkO 512 25088=true:=by kernel_rfl
theorem chkO_50:chkO 512 25600=true:=by kernel_rfl
theorem chkO_51:chkO 512 26112=true:=by kernel_rfl
theorem chkO_52:chkO 512 26624=true:=by kernel_rfl
theorem chkO_53:chkO 512 27136=true:=by kernel_rfl
theorem chkO_54:chkO 512 27648=true:=by kernel_rfl
theorem chkO_55:chkO 512 28160=true:=by kernel_rfl
theorem chkO_56:chkO 512 28672=true:=by kernel_rfl
theorem chkO_57:chkO 512 29184=true:=by kernel_rfl
theorem chkO_58:chkO 512 29696=true:=by kernel_rfl
theorem chkO_59:chkO 512 30208=true:=by kernel_rfl
theorem chkO_60:chkO 512 30720=true:=by kernel_rfl
theorem chkO_61:chkO 512 31232=true:=by kernel_rfl
theorem chkO_62:chkO 512 31744=true:=by kernel_rfl
theorem chkO_63:chkO 512 32256=true:=by kernel_rfl
theorem ones_pop {x:Nat} (h:x < 32768):ones x=popN x:=by
 have hc:x / 512=0∨x / 512=1∨x / 512=2∨x / 512=3∨x / 512=4∨x / 512=5∨x / 512=6∨x / 512=7∨x / 512=8∨x / 512=9∨x / 512=10∨x / 512=11∨x / 512=12∨x / 512=13∨x / 512=14∨x / 512=15∨x / 512=16∨x / 512=17∨x / 512=18∨x / 512=19∨x / 512=20∨x / 512=21∨x / 512=22∨x / 512=23∨x / 512=24∨x / 512=25∨x / 512=26∨x / 512=27∨x / 512=28∨x / 512=29∨x / 512=30∨x / 512=31∨x / 512=32∨x / 512=33∨x / 512=34∨x / 512=35∨x / 512=36∨x / 512=37∨x / 512=38∨x / 512=39∨x / 512=40∨x / 512=41∨x / 512=42∨x / 512=43∨x / 512=44∨x / 512=45∨x / 512=46∨x / 512=47∨x / 512=48∨x / 512=49∨x / 512=50∨x / 512=51∨x / 512=52∨x / 512=53∨x / 512=54∨x / 512=55∨x / 512=56∨x / 512=57∨x / 512=58∨x / 512=59∨x / 512=60∨x / 512=61∨x / 512=62∨x / 512=63:=by omega
 rcases hc with h0 | h0 | h0 | h0 | h0 | h0 | h0 | h0 | h0 | h0 | h0 | h0 | h0 | h0 | h0 | h0 | h0 | h0 | h0 | h0 | h0 | h0 | h0 | h0 | h0 | h0 | h0 | h0 | h0 | h0 | h0 | h0 | h0 | h0 | h0 | h0 | h0 | h0 | h0 | h0 | h0 | h0 | h0 | h0 | h0 | h0 | h0 | h0 | h0 | h0 | h0 | h0 | h0 | h0 | h0 | h0 | h0 | h0 | h0 | h0 | h0 | h0 | h0 | h0
 ·exact chkO_spec 512 0 chkO_0 x (by omega) (by omega)
 ·exact chkO_spec 512 512 chkO_1 x (by omega) (by omega)
 ·exact chkO_spec 512 1024 chkO_2 x (by omega) (by omega)
 ·exact chkO_spec 512 1536 chkO_3 x (by omega) (by omega)
 ·exact chkO_spec 512 2048 chkO_4 x (by omega) (by omega)
 ·exact chkO_spec 512 2560 chkO_5 x (by omega) (by omega)
 ·exact chkO_spec 512 3072 chkO_6 x (by omega) (by omega)
 ·exact chkO_spec 512 3584 chkO_7 x (by omega) (by omega)
 ·exact chkO_spec 512 4096 chkO_8 x (by omega) (by omega)
 ·exact chkO_spec 512 4608 chkO_9 x (by omega) (by omega)
 ·exact chkO_spec 512 5120 chkO_10 x (by omega) (by omega)
 ·exact chkO_spec 512 5632 chkO_11 x (by omega) (by omega)
 ·exact chkO_spec 512 6144 chkO_12 x (by omega) (by omega)
 ·exact chkO_spec 512 6656 chkO_13 x (by omega) (by omega)
 ·exact chkO_spec 512 7168 chkO_14 x (by omega) (by omega)
 ·exact chkO_spec 512 7680 chkO_15 x (by omega) (by omega)
 ·exact chkO_spec 512 8192 chkO_16 x (by omega) (by omega)
 ·exact chkO_spec 512 8704 chkO_17 x (by omega) (by omega)
 ·exact chkO_spec 512 9216 chkO_18 x (by omega) (by omega)
 ·exact chkO_spec 512 9728 chkO_19 x (by omega) (by omega)
 ·exact chkO_spec 512 10240 chkO_20 x (by omega) (by omega)
 ·exact chkO_spec 512 10752 chkO_21 x (by omega) (by omega)
 ·exact chkO_spec 512 11264 chkO_22 x (by omega) (by omega)
 ·exact chkO_spec 512 11776 chkO_23 x (by omega) (by omega)
 ·exact chkO_spec 512 12288 chkO_24 x (by omega) (by omega)
 ·exact chkO_spec 512 12800 chkO_25 x (by omega) (by omega)
 ·exact chkO_spec 512 13312 chkO_26 x (by omega) (by omega)
 ·exact chkO_spec 512 13824 chkO_27 x (by omega) (by omega)
 ·exact chkO_spec 512 14336 chkO_28 x (by omega) (by omega)
 ·exact chkO_spec 512 14848 chkO_29 x (by omega) (by omega)
 ·exact chkO_spec 512 15360 chkO_30 x (by omega) (by omega)
 ·exact chkO_spec 512 15872 chkO_31 x (by omega) (by omega)
 ·exact chkO_spec 512 16384 chkO_32 x (by omega) (by omega)
 ·exact chkO_spec 512 16896 chkO_33 x (by omega) (by omega)
 ·exact chkO_spec 512 17408 chkO_34 x (by omega) (by omega)
 ·exact chkO_spec 512 17920 chkO_35 x (by omega) (by omega)
 ·exact chkO_spec 512 18432 chkO_36 x (by omega) (by omega)
 ·exact chkO_spec 512 18944 chkO_37 x (by omega) (by omega)
 ·exact chkO_spec 512 19456 chkO_38 x (by omega) (by omega)
 ·exact chkO_spec 512 19968 chkO_39 x (by omega) (by omega)
 ·exact chkO_spec 512 20480 chkO_40 x (by omega) (by omega)
 ·exact chkO_spec 512 20992 chkO_41 x (by omega) (by omega)
 ·exact chkO_spec 512 21504 chkO_42 x (by omega) (by omega)
 ·exact chkO_spec 512 22016 chkO_43 x (by omega) (by omega)
 ·exact chkO_spec 512 22528 chkO_44 x (by omega) (by omega)
 ·exact chkO_spec 512 23040 chkO_45 x (by omega) (by omega)
 ·exact chkO_spec 512 23552 chkO_46 x (by omega) (by omega)
 ·exact chkO_spec 512 24064 chkO_47 x (by omega) (by omega)
 ·exact chkO_spec 512 24576 chkO_48 x (by omega) (by omega)
 ·exact chkO_spec 512 25088 chkO_49 x (by omega) (by omega)
 ·exact chkO_spec 512 25600 chkO_50 x (by omega) (by omega)
 ·exact chkO_spec 512 26112 chkO_51 x (by omega) (by omega)
 ·exact chkO_spec 512 26624 chkO_52 x (by omega) (by omega)
 ·exact chkO_spec 512 27136 chkO_53 x (by omega) (by omega)
 ·exact chkO_spec 512 27648 chkO_54 x (by omega) (by omega)
 ·exact chkO_spec 512 28160 chkO_55 x (by omega) (by omega)
 ·exact chkO_spec 512 28672 chkO_56 x (by omega) (by omega)
 ·exact chkO_spec 512 29184 chkO_57 x (by omega) (by omega)
 ·exact chkO_spec 512 29696 chkO_58 x (by omega) (by omega)
 ·exact chkO_spec 512 30208 chkO_59 x (by omega) (by omega)
 ·exact chkO_spec 512 30720 chkO_60 x (by omega) (by omega)
 ·exact chkO_spec 512 31232 chkO_61 x (by omega) (by omega)
 ·exact chkO_spec 512 31744 chkO_62 x (by omega) (by omega)
 ·exact chkO_spec 512 32256 chkO_63 x (by omega) (by omega)
theorem pop_bits (x:Nat):popN x=cntB (fun k=>x.testBit k) 15:=by
 have h:∀ k,(if x.testBit k=true then 1 else 0)=x / 2 ^ k % 2:=by
  intro k
  rw [Nat.testBit_eq_decide_div_mod_eq]
  have:=Nat.mod_two_eq_zero_or_one (x / 2 ^ k)
  rcases this with h | h <;> rw [h] <;> simp
 simp only [cntB,h]
 unfold popN
 simp
theorem ones_eq {x:Nat} (h:x < 32768):ones x=cntB (fun k=>x.testBit k) 15:=(ones_pop h).trans (pop_bits x)
theorem ones_mask (f : Nat → Bool) {n : Nat} (hn : n ≤ 15) : ones (maskTo f n) = cntB f n := by
  have hlt : maskTo f n < 32768 := Nat.lt_of_lt_of_le (maskTo_lt f n) (by
    have : 2 ^ n ≤ 2 ^ 15 := Nat.pow_le_pow_right (by decide) hn
    exact this)
  rw [ones_eq hlt]
  have h1 : cntB (fun k => (maskTo f n).testBit k) 15 = cntB (fun k => decide (k < n) && f k) 15 := cntB_congr _ (fun k _ => maskTo_testBit f n k)
  rw [h1]
  have key : ∀ m, n ≤ m → cntB (fun k => decide (k < n) && f k) m = cntB f n := by
    intro m
    induction m with
    | zero => intro h; have : n = 0 := by omega
              subst this; rfl
    | succ m ih =>
      intro h
      simp only [cntB]
      by_cases e : n = m + 1
      · subst e
        rw [cntB_congr m (g := f) (fun k hk => by simp; omega)]
        simp [cntB]
      · rw [ih (by omega)]
        simp; omega
  exact key 15 hn
def pairsTo (n:Nat) (f:Nat→Nat→Bool):Nat→Nat
 | 0=>0
 | j+1=>pairsTo n f j+cntB (f j) n
theorem pairsTo_le (n:Nat) (f:Nat→Nat→Bool) (j:Nat):pairsTo n f j≤j * n:=by
 induction j with
 | zero=>exact Nat.zero_le _
 | succ j ih=>simp only [pairsTo];have:=cntB_le (f j) n;rw [Nat.add_mul];omega
end Go.Proofs.YtkfhgnkonaafgaaGreatDoor
namespace Go.Proofs.YtkfhgnkonaafgaaGreatDoor
theorem prodR_get {α:Type}:∀ {cs:List (List α)} {r:List α},r∈prodR cs→∀ {i:Nat} {y:α},r[i]? = some y→∃ c,cs[i]? = some c∧y∈c:=by
 intro cs
 induction cs with
 | nil=>intro r hr i y hy;simp [prodR] at hr;subst hr;simp at hy
 | cons c cs ih =>
  intro r hr i y hy
  simp only [prodR,List.mem_flatMap,List.mem_map] at hr
  obtain ⟨z,hz,q,hq,rfl⟩:=hr
  cases i with
  | zero=>simp at hy;subst hy;exact ⟨c,rfl,hz⟩
  | succ i=>exact ih hq (by simpa using hy)
theorem permsL_perm:∀ (n:Nat) (xs:List Int),xs.length=n→∀ r∈permsL xs,r.Perm xs:=by
 intro n
 induction n with
 | zero =>
  intro xs hx r hr
  obtain rfl:xs=[]:=List.length_eq_zero_iff.1 hx
  rw [permsL_nil] at hr
  simp at hr;subst hr;exact List.Perm.refl _
 | succ n ih =>
  intro xs hx r hr
  rw [permsL_step (by omega)] at hr
  simp only [List.mem_flatMap,List.mem_range,List.mem_map] at hr
  obtain ⟨i,hi,q,hq,rfl⟩:=hr
  have h1:=ih (xs.eraseIdx i) (by rw [List.length_eraseIdx,if_pos hi,hx];rfl) q hq
  have h2:xs.getD i 0=xs[i]:=by simp [List.getD,hi]
  rw [h2]
  refine (h1.cons _).trans ?_
  have h3:xs=xs.take i++xs[i] :: xs.drop (i+1):=by rw [← List.drop_eq_getElem_cons hi,List.take_append_drop]
  rw [List.eraseIdx_eq_take_drop_succ]
  have h4:=(List.perm_middle (a:=xs[i]) (l₁:=xs.take i) (l₂:=xs.drop (i+1))).symm
  rw [← h3] at h4
  exact h4
theorem allX_ok {p:List (List Ins)} (hp:progValid p=true) {x:Xc} (h:x∈allX (evAll p)):execOk p x=true:=by
 rw [allX_eq] at h
 simp only [List.mem_flatMap,List.mem_map] at h
 obtain ⟨f,hf,o,ho,rfl⟩:=h
 have hfl:f.length=(evAll p).length:=by rw [prodR_row _ f hf];simp [chsF]
 have hol:o.length=3:=by rw [prodR_row _ o ho];simp [chsO]
 unfold execOk
 simp only [Bool.and_eq_true,decide_eq_true_eq]
 refine ⟨hp,hfl,hol, ?_, ?_⟩
 ·unfold fromsOk
  simp only [List.all_eq_true,List.mem_range]
  intro i hi
  obtain ⟨e,he⟩:=get_of_lt (xs:=evAll p) (k:=i) hi
  obtain ⟨y,hy⟩:=get_of_lt (xs:=f) (k:=i) (by omega)
  obtain ⟨c,hc,hm⟩:=prodR_get hf hy
  rw [he,hy]
  have hc2:c=chF (evAll p) i:=by
   unfold chsF at hc
   rw [List.getElem?_map,List.getElem?_range hi] at hc
   simpa using hc.symm
  subst hc2
  unfold chF at hm
  rw [he] at hm
  simp only at hm
  unfold fromOk
  simp only
  split at hm
  ·rename_i hr
   rw [if_pos hr]
   simp only [List.mem_filter,Bool.not_eq_true',beq_eq_false_iff_ne,ne_eq] at hm
   simp only [Bool.and_eq_true,bne_iff_ne,ne_eq,List.contains_iff_mem]
   exact ⟨hm.2,hm.1⟩
  ·rename_i hr
   rw [if_neg hr]
   simpa using hm
 ·unfold ordersOk
  simp only [List.all_eq_true,List.mem_range]
  intro l hl
  obtain ⟨y,hy⟩:=get_of_lt (xs:=o) (k:=l) (by omega)
  obtain ⟨c,hc,hm⟩:=prodR_get ho hy
  rw [hy]
  have hc2:c=chO (evAll p) l:=by
   unfold chsO at hc
   rw [List.getElem?_map,List.getElem?_range hl] at hc
   simpa using hc.symm
  subst hc2
  unfold chO at hm
  obtain ⟨q,hq,rfl⟩:=List.mem_map.1 hm
  have h1:=permsL_perm _ (wrL (evAll p) l).tail rfl q hq
  have h2:=head_wrL (p:=p) hl
  unfold orderOk
  simp only [Bool.and_eq_true,decide_eq_true_eq,List.head?_cons,beq_self_eq_true,and_true]
  cases hw:wrL (evAll p) l with
  | nil=>rw [hw] at h2;simp at h2
  | cons z zs =>
   rw [hw] at h1 h2
   simp only [List.head?_cons,Option.some.injEq] at h2
   subst h2
   exact h1.cons _
theorem cntB_zero {f:Nat→Bool}:∀ n,(∀ k,k < n→f k=false)→cntB f n=0:=by
 intro n
 induction n with
 | zero=>intro _;rfl
 | succ n ih=>intro h;simp only [cntB,ih fun k hk=>h k (by omega),h n (by omega)];rfl
theorem cntB_zero' {f:Nat→Bool}:∀ n,cntB f n=0→∀ k,k < n→f k=false:=by
 intro n
 induction n with
 | zero=>intro _ k hk;omega
 | succ n ih =>
  intro h k hk
  simp only [cntB] at h
  have h1:f n=false:=by cases hf:f n with
   | false=>rfl
   | true=>rw [hf] at h;simp at h
  by_cases e:k=n
  ·rw [e];exact h1
  ·exact ih (by omega) k (by omega)
theorem pairsTo_zero {n:Nat} {f:Nat→Nat→Bool}:∀ j,(∀ i k,i < j→k < n→f i k=false)→pairsTo n f j=0:=by
 intro j
 induction j with
 | zero=>intro _;rfl
 | succ j ih=>intro h;simp only [pairsTo,ih fun i k hi hk=>h i k (by omega) hk,cntB_zero n fun k hk=>h j k (by omega) hk]
theorem pairsTo_zero' {n:Nat} {f:Nat→Nat→Bool}:∀ j,pairsTo n f j=0→∀ i k,i < j→k < n→f i k=false:=by
 intro j
 induction j with
 | zero=>intro _ i k hi;omega
 | succ j ih =>
  intro h i k hi hk
  simp only [pairsTo] at h
  by_cases e:i=j
  ·rw [e];exact cntB_zero' n (by omega) k hk
  ·exact ih (by omega) i k (by omega) hk
end Go.Proofs.YtkfhgnkonaafgaaGreatDoor
namespace Go.Proofs.YtkfhgnkonaafgaaGreatDoor
section
variable {p : List (List Ins)} {x : Xc}
end
section
variable {p : List (List Ins)} {x : Xc}
end
end Go.Proofs.YtkfhgnkonaafgaaGreatDoor
namespace Go.Proofs.YtkfhgnkonaafgaaGreatDoor
def zR:Re:=.mk 0 ⟨#[]⟩ []
def isAt (s:ByteArray) (i:Int) (k:UInt8):Bool:=decide (0≤i)&&(s.data.toList[i.toNat]? == some k)
def lvlR (o:Int):Int:=if o=2 then 3 else if o=3 then 2 else if o=4 then 2 else if o=5 then 1 else 0
def sgnR (o:Int):ByteArray:=if o=2 then ⟨#[124]⟩ else if o=3 then ⟨#[38]⟩ else if o=4 then ⟨#[45]⟩ else if o=5 then ⟨#[59]⟩ else if o=6 then ⟨#[126]⟩ else if o=7 then ⟨#[43]⟩ else ⟨#[]⟩
def sgB (o:Int):UInt8:=if o=2 then 124 else if o=3 then 38 else if o=4 then 45 else 59
def hitO (s:ByteArray) (i lv o:Int):Bool:=(lvlR o==lv)&&isAt s i (sgB o)
def opAt (s:ByteArray) (i lv:Int):Int:=if hitO s i lv 2=true then 2 else if hitO s i lv 3=true then 3 else if hitO s i lv 4=true then 4 else if hitO s i lv 5=true then 5 else 0
def isLow (c:UInt8):Bool:=decide ((97:Nat)≤c.toNat)&&decide (c.toNat≤122)
def endL (l:List UInt8):Nat→Nat→Nat
 | 0,i=>i
 | f+1,i=>match l[i]? with
  | some c=>if isLow c=true then endL l f (i+1) else i
  | none=>i
inductive PM where
 | prime (i d:Int)
 | parse (i d lv:Int)
 | loop (d lv:Int) (l:Re) (n:Int)
def pR (s:ByteArray):Nat→PM→Option (Re × Int)
 | 0,_=>none
 | f+1, .prime i d =>
  if d < 1∨i < 0∨(s.size:Int)≤i then some (zR, -1)
  else if isAt s i 40=true then
   match pR s f (.parse (i+1) d 3) with
   | none=>none
   | some (e,n)=>if isAt s n 41=true then some (e,n+1) else some (zR, -1)
  else if isAt s i 126=true then
   match pR s f (.prime (i+1) (d - 1)) with
   | none=>none
   | some (e,n)=>some (.mk 6 ⟨#[]⟩ [e],n)
  else if isAt s i 43=true then
   match pR s f (.prime (i+1) (d - 1)) with
   | none=>none
   | some (e,n)=>some (.mk 7 ⟨#[]⟩ [e],n)
  else if endL s.data.toList s.size i.toNat=i.toNat then some (zR, -1)
  else some (.mk 1 (s.extract i.toNat (endL s.data.toList s.size i.toNat)) [],(endL s.data.toList s.size i.toNat:Nat))
 | f+1, .parse i d lv =>
  if lv=0 then pR s f (.prime i d)
  else match pR s f (.parse i d (lv - 1)) with
   | none=>none
   | some (l,n)=>pR s f (.loop d lv l n)
 | f+1, .loop d lv l n =>
  if n < 0 then some (zR, -1)
  else if opAt s n lv=0 then some (l,n)
  else match pR s f (.parse (n+1) d (lv - 1)) with
   | none=>none
   | some (r,e)=>pR s f (.loop d lv (.mk (opAt s n lv) ⟨#[]⟩ [l,r]) e)
theorem isAt_lt {s:ByteArray} {i:Int} {k:UInt8} (h:isAt s i k=true):0≤i∧i < s.size:=by
 unfold isAt at h
 rw [Bool.and_eq_true,decide_eq_true_eq,beq_iff_eq] at h
 obtain ⟨h0,h1⟩:=h
 have h2:=(List.getElem?_eq_some_iff.1 h1).1
 have h3:s.data.toList.length=s.size:=by simp
 omega
theorem endL_bd (l:List UInt8):∀ f i,i≤l.length→i≤endL l f i∧endL l f i≤l.length:=by
 intro f
 induction f with
 | zero=>intro i h;exact ⟨Nat.le_refl _,h⟩
 | succ f ih =>
  intro i h
  unfold endL
  cases hc:l[i]? with
  | none=>exact ⟨Nat.le_refl _,h⟩
  | some c =>
   have hlt:=(List.getElem?_eq_some_iff.1 hc).1
   simp only
   split
   ·have:=ih (i+1) (by omega);omega
   ·exact ⟨Nat.le_refl _,h⟩
def PM.bd (s:ByteArray) (r:Re × Int):PM→Prop
 | .prime i _=>r.2 = -1∨(0≤i∧i < r.2∧r.2≤s.size)
 | .parse i _ _=>r.2 = -1∨(0≤i∧i < r.2∧r.2≤s.size)
 | .loop _ _ _ n=>n≤s.size→(r.2 = -1∨(0≤n∧n≤r.2∧r.2≤s.size))
theorem pR_bd (s:ByteArray):∀ f m r,pR s f m=some r→m.bd s r:=by
 intro f
 induction f with
 | zero=>intro m r h;simp [pR] at h
 | succ f ih =>
  intro m r h
  cases m with
  | prime i d =>
   unfold pR at h
   show r.2 = -1∨_
   split at h
   ·simp only [Option.some.injEq] at h;subst h;exact .inl rfl
   ·rename_i hn
    have hi:0≤i∧i < s.size:=by omega
    split at h
    ·split at h
     ·cases h
     ·rename_i e n hp
      have h1:n = -1∨(0≤i+1∧i+1 < n∧n≤s.size):=ih _ _ hp
      split at h
      ·rename_i ha
       have h2:=isAt_lt ha
       simp only [Option.some.injEq] at h;subst h
       simp only
       omega
      ·simp only [Option.some.injEq] at h;subst h;exact .inl rfl
    ·split at h
     ·split at h
      ·cases h
      ·rename_i e n hp
       have h1:n = -1∨(0≤i+1∧i+1 < n∧n≤s.size):=ih _ _ hp
       simp only [Option.some.injEq] at h;subst h
       simp only
       omega
     ·split at h
      ·split at h
       ·cases h
       ·rename_i e n hp
        have h1:n = -1∨(0≤i+1∧i+1 < n∧n≤s.size):=ih _ _ hp
        simp only [Option.some.injEq] at h;subst h
        simp only
        omega
      ·split at h
       ·simp only [Option.some.injEq] at h;subst h;exact .inl rfl
       ·rename_i hne
        simp only [Option.some.injEq] at h;subst h
        simp only
        have h3:s.data.toList.length=s.size:=by simp
        have:=endL_bd s.data.toList s.size i.toNat (by omega)
        omega
  | parse i d lv =>
   unfold pR at h
   show r.2 = -1∨_
   split at h
   ·exact ih _ _ h
   ·split at h
    ·cases h
    ·rename_i l n hp
     have h1:n = -1∨(0≤i∧i < n∧n≤s.size):=ih _ _ hp
     have h2:n≤s.size→(r.2 = -1∨(0≤n∧n≤r.2∧r.2≤s.size)):=ih _ _ h
     omega
  | loop d lv l n =>
   unfold pR at h
   show n≤s.size→_
   intro hns
   split at h
   ·simp only [Option.some.injEq] at h;subst h;exact .inl rfl
   ·split at h
    ·simp only [Option.some.injEq] at h;subst h
     simp only
     omega
    ·split at h
     ·cases h
     ·rename_i q e hp
      have h1:e = -1∨(0≤n+1∧n+1 < e∧e≤s.size):=ih _ _ hp
      have h2:e≤s.size→(r.2 = -1∨(0≤e∧e≤r.2∧r.2≤s.size)):=ih _ _ h
      omega
def textR:Nat→Re→ByteArray
 | 0,_=>⟨#[]⟩
 | d+1,c =>
  if kidsO c.op=0 then c.nm
  else if kidsO c.op=1 then sgnR c.op++(if lvlR (kidR c 0).op > 0 then ⟨#[40]⟩++textR d (kidR c 0)++⟨#[41]⟩ else textR d (kidR c 0))
  else (if lvlR (kidR c 0).op > lvlR c.op then ⟨#[40]⟩++textR d (kidR c 0)++⟨#[41]⟩ else textR d (kidR c 0))++sgnR c.op++(if lvlR (kidR c 1).op > lvlR c.op - 1 then ⟨#[40]⟩++textR d (kidR c 1)++⟨#[41]⟩ else textR d (kidR c 1))
def wordR (k:Int):ByteArray:=if k=1 then ⟨#[97,99,121,99,108,105,99]⟩ else if k=2 then ⟨#[105,114,114,101,102]⟩ else if k=3 then ⟨#[101,109,112,116,121]⟩ else ⟨#[]⟩
def modelTo (m:List Ru):Nat→ByteArray
 | 0=>⟨#[]⟩
 | k+1=>match m[k]? with
  | none=>modelTo m k
  | some r=>(if 0 < k then modelTo m k++⟨#[47]⟩ else modelTo m k)++wordR r.kind++⟨#[32]⟩++textR 12 r.e
end Go.Proofs.YtkfhgnkonaafgaaGreatDoor
namespace Go.Proofs.YtkfhgnkonaafgaaGreatDoor
open Go.RowKit
theorem evAll_ge (p:List (List Ins)):3≤(evAll p).length:=by unfold evAll;simp [evHead_length]
theorem rep_snoc (k:Nat) (x:Int):List.replicate k x++[x]=List.replicate (k+1) x:=by
 rw [show k+1=k+1 from rfl,List.replicate_succ']
theorem l6Values_any (v vf vo:Value) (p:List (List Ins)) (x:Xc) (w:World) (hp:RepP w v p) (hx:RepX w vf vo x) (hl:p.flatten.length≤1048576) (hok:execOk p x=true) :
 Calls Tryz.prog 36 #[v, .agg #[vf,vo]] w (RetNB w (valsL p x.fr,valsOk p x.fr)):=by
 have HE:=hide (fun w' h=>l6Events_any v p w' h hl)
 unfold execOk at hok
 simp only [Bool.and_eq_true,decide_eq_true_eq] at hok
 obtain ⟨hpv,hfl,hol,hfo,hoo⟩:=hok
 have HFO:=hide hfo
 have hen:=evAll_le hpv
 have hen3:=evAll_ge p
 have HDV:=hide (fun i v (h:depV p (evAll p) x.fr i = .inl v)=>dep_val hpv h)
 clear hpv hol hoo hfo hfl
 have HP:=hide hp;have HX:=hide hx
 obtain ⟨pa,pc,rfl, -,hpn, -, -⟩:=hp.open
 obtain ⟨fa,fc,rfl, -,hfn, -, -⟩:=hx.fr.open
 obtain ⟨oa,oc,rfl, -,hon, -, -⟩:=hx.od.open
 clear hp hx
 have HRV:Hid ((valsL p x.fr,valsOk p x.fr)=(valTo (evAll p) (cX p x.fr) (evAll p).length,okTo (evAll p) (cX p x.fr) (evAll p).length)):=hide rfl
 generalize (valsL p x.fr,valsOk p x.fr)=R at *
 have HC:Hid (cX p x.fr=chain (depV p (evAll p) x.fr) (evAll p).length):=hide rfl
 generalize cX p x.fr=c at *
 generalize hes:evAll p=es at *
 have HES:=hide hes.symm
 have HOS:=hide (fun k e h=>okTo_succ (es:=es) c (k:=k) (e:=e) h)
 have HON:=hide (fun k e h hw hc=>okTo_no (es:=es) c (k:=k) (e:=e) h hw hc)
 have HVL:=hide (valTo_length es c)
 have HVG:=hide (fun i e h1 h2=>valTo_get (es:=es) c (i:=i) (e:=e) (k:=es.length) h1 (Nat.le_refl _) h2)
 have HB0:=hide ((Below.refl w.heap.size w).alloc (Nat.le_refl _) (.cells #[.slice fa x.fr.length fc, .slice oa x.od.length oc] 29))
 have HBX:=hide (heap_alloc_new w (.cells #[.slice fa x.fr.length fc, .slice oa x.od.length oc] 29))
 have HP0:=hide (HP.out.below HB0.out);have HX0:=hide (HX.out.below HB0.out)
 clear hes
 generalize hfn':x.fr.length=fn at *
 generalize hon':x.od.length=on at *
 generalize hpn':p.length=pn at *
 clear hfn' hon' hpn'
 have HKI0:=hide (KInv.start (depV p es x.fr) es)
 have HKD:=hide (fun (r:Nat) (K:List Int) (h:KInv (depV p es x.fr) es r 0 K) hr=>h.done hr)
 have HW:=hide (fun (vp ve vf vo vk:Value) (i:Nat) (K:List Int) (w':World) h1 h2 h3 h4 h5 h6=>l6Write_any vp ve vf vo vk p es HES.out x i K w' h1 h2 h3 h4 HFO.out h5 h6 (by omega))
 have HLT:=hide (fun i j h1 h2=>dep_lt (p:=p) HFO.out i j h1 h2)
 have HIN:=hide (fun i j h=>dep_inr (p:=p) HFO.out (i:=i) (j:=j) h)
 generalize hn:es.length=n at *
 have HN:=hide hn;clear hn
 generalize depV p es x.fr=d at *
 go_enter Tryz.func36,Tryz.ntmps36
 go_wp2_with fail
 generalize hw1:w.alloc (.cells #[.slice fa fn fc, .slice oa on oc] 29)=w1 at *
 clear hw1
 (with_reducible refine (HE.out _ HP0.out).mono ?_);rintro e w2 ⟨ve,rfl,oe,hb2⟩
 have hre:=oe.rep
 obtain ⟨ea,ec,rfl, -, -, -,hre⟩:=hre.open
 rw [HN.out] at hre ⊢
 have HRE:=hide hre;have HP2:=hide (HP0.out.below hb2);have HX2:=hide (HX0.out.below hb2)
 have HB2:=hide (HB0.out.trans (hb2.mono HB0.out.size))
 have HBX2:=hide ((hb2.block w.heap.size (Array.getElem?_eq_some_iff.1 HBX.out).1).trans HBX.out)
 clear oe hre hb2 HB0 HBX HP0 HX0 HP HX HE
 go_wp2_with fail
 go_loopw [7,8] (fun s i wr => ∃ k:Nat,k≤n∧i = .int .i64 k∧OwnN wr w2.heap.size s (List.replicate k (-1))∧Below w2.heap.size w2 wr) (fun _ i _=>n - (intOf i).toNat)
 case atStart=>exact ⟨0,Nat.zero_le _,rfl,Own.empty (E:=IntE) _ w2 (Nat.le_refl _),(Below.refl _ _).alloc (Nat.le_refl _) _⟩
 case round =>
  obtain ⟨k,hk,rfl,hown,hb⟩:=hrel
  by_cases hlt:k < n
  ·have hlt':=nat_of_lt hlt
   have hlen:(List.replicate k (-1:Int)).length≤68719476736:=by simp;omega
   have HS:=hide (rep_snoc k (-1))
   generalize List.replicate k (-1:Int)=G at *
   go_wp2_with (at_builtin;refine wpList_app IntE 3 Tryz.infoInt rfl Tryz.underlying24 w2.heap.size _ G (-1) (hown.alloc _) (by decide) hlen (by simp;have:=hb.size;omega) rfl _ _ rfl rfl _ 0 1 rfl (news_allocV (by simp)) ?_;intro v' w3 hown3 hgr3)
   have hb3:=below_app hb hown hgr3
   go_roundw
   case rel=>exact ⟨k+1,by omega,by go_num,by rw [← HS.out];exact hown3,hb3⟩
   case measure=>simp [intOf];omega
  ·obtain rfl:k=n:=by omega
   have HO3:=hide hown;clear hown
   rcases HO3.out.shape with ⟨rfl,h0⟩ | ⟨g,cap,rfl,hg1,hg2,hg3,hg4⟩
   ·exfalso;have:=congrArg List.length h0;simp at this;omega
   rw [List.length_replicate] at HO3 hg3 ⊢
   have HB3:=hide hb;clear hb
   go_wp2_with fail
   go_loopw [9] (fun i wr => ∃ r:Nat,r≤k∧i = .int .i64 r∧(∃ K,Hid (KInv d es r 0 K)∧OwnN wr w2.heap.size (.slice (some ⟨g,0,none⟩) k cap) K)∧Below w2.heap.size w2 wr) (fun i _=>k - (intOf i).toNat)
   case atStart=>exact ⟨0,Nat.zero_le _,rfl,⟨_,HKI0,HO3.out⟩,HB3.out⟩
   case round =>
    obtain ⟨r,hr,rfl,⟨K,hki,hown⟩,hb⟩:=hrel
    by_cases hltr:r < k
    ·have hltr':=nat_of_lt hltr
     have HO4:=hide hown;clear hown
     go_wp2_with fail
     go_loopw [10] (fun i wr => ∃ t:Nat,t≤k∧i = .int .i64 t∧(∃ K,Hid (KInv d es r t K)∧OwnN wr w2.heap.size (.slice (some ⟨g,0,none⟩) k cap) K)∧Below w2.heap.size w2 wr) (fun i _=>k - (intOf i).toNat)
     case atStart=>exact ⟨0,Nat.zero_le _,rfl,⟨K,hki,HO4.out⟩,hb⟩
     case round =>
      obtain ⟨t,ht,rfl,⟨K2,hkt,hown⟩,hb4⟩:=hrel
      by_cases hltt:t < k
      ·obtain ⟨e,hek⟩:=get_of_lt (xs:=es) (k:=t) (by rw [HN.out];exact hltt)
       obtain ⟨b,o,rfl,hbl,i0,i1,i2,i3,i4⟩:=(HRE.out.below hb4).ev hek
       have hltt':=nat_of_lt hltt
       have HEK:=hide hek;clear hek
       clear i0 i1 i2 i3
       cases hew:e.w
       ·rw [hew] at i4
        have HK2:=hide (hkt.out.skip HEK.out hew)
        clear hew
        go_wp2_with fail
        go_roundw
        case rel=>exact ⟨t+1,by omega,by go_num,⟨K2,HK2,hown⟩,hb4⟩
        case measure=>simp [intOf];omega
       ·rw [hew] at i4
        have HK2:=hide (hkt.out.step HEK.out hew (by rw [HN.out];exact HLT.out) (fun j h=>HIN.out t j h) HDV.out)
        have hKl:=hkt.out.len
        obtain ⟨u,hu⟩:=get_of_lt (xs:=K2) (k:=t) (by rw [hKl,HN.out];exact hltt)
        obtain ⟨hgl,f0,hfr⟩:=hown.int hu
        have HWC:=hide (HW.out (.slice pa pn pc) (.slice (some ⟨b,o,none⟩) k ec) (.slice fa fn fc) (.slice oa on oc) (.slice (some ⟨g,0,none⟩) k cap) t K2 wr (HP2.out.below hb4) (HRE.out.below hb4) (HX2.out.below hb4) hown.rep hltt (by rw [hKl,HN.out]))
        have hxb:=(hb4.block w.heap.size (Array.getElem?_eq_some_iff.1 HBX2.out).1).trans HBX2.out
        have x0:=cell_of_heapV hxb (k:=0) rfl
        have x1:=cell_of_heapV hxb (k:=1) rfl
        have xl:=lt_of_cell x0
        have HU:=hide hu;have HOW:=hide hown;have HB4:=hide hb4
        clear hew hKl hu hown hxb hkt f0 hfr
        generalize linkV d K2 t=lv at *
        go_wp2_with fail
        (with_reducible refine HWC.out.mono ?_);rintro e w7 ⟨rfl,hb7⟩
        have O7:=hide (HOW.out.below hb7)
        have HB7:=hide (HB4.out.trans (hb7.mono HB4.out.size))
        obtain ⟨hgl7,f7,hfr7⟩:=O7.out.int HU.out
        have OS:=hide (O7.out.setInt HU.out lv)
        clear hb7 x0 x1 xl
        go_wp2_with fail
        go_roundw
        case rel=>exact ⟨t+1,by omega,by go_num,⟨_,HK2,OS.out⟩,HB7.out.setCell hg1 _⟩
        case measure=>simp [intOf];omega
      ·have e:t=k:=by omega
       have HK2:=hide (hkt.out.next (by rw [HN.out];exact e))
       go_wp2_with fail
       go_roundw
       case rel=>exact ⟨r+1,by omega,by go_num,⟨K2,HK2,hown⟩,hb4⟩
       case measure=>simp [intOf];omega
    ·obtain rfl:r=k:=by omega
     have hK:=HKD.out r K hki.out rfl
     rw [← HC.out] at hK
     have HOW:=hide hown;have HB4:=hide hb
     have HKE:=hide hK
     clear hown hb hki hK
     go_wp2_with fail
     go_loop [11] (fun i => ∃ t:Nat,t≤r∧i = .int .i64 t∧Hid (okTo es c t=true)) (fun i=>r - (intOf i).toNat)
     case atStart=>exact ⟨0,Nat.zero_le _,rfl,hide (by simp [okTo])⟩
     case round =>
      obtain ⟨t,ht,rfl,hok⟩:=hrel
      by_cases hltt:t < r
      ·obtain ⟨e,hek⟩:=get_of_lt (xs:=es) (k:=t) (by rw [HN.out];exact hltt)
       obtain ⟨b,o,rfl,hbl,i0,i1,i2,i3,i4⟩:=(HRE.out.below HB4.out).ev hek
       have hltt':=nat_of_lt hltt
       have hkt:=HVG.out t e hltt hek
       rw [← HKE.out] at hkt
       obtain ⟨hgl,f0,hfr⟩:=HOW.out.int hkt
       have OS:=hide (HOS.out t e hek);have ON:=hide (HON.out t e hek)
       have HV1:Hid (val1 c t e=if e.w=true then (c t).getD (-1) else -1):=hide rfl
       clear i0 i1 i2 i3 hek hkt hfr
       cases hew:e.w
       ·rw [hew] at i4
        have OK2:Hid (okTo es c (t+1)=true):=hide (by rw [OS.out,hok.out,hew];rfl)
        clear hew
        go_wp2_with fail
        go_round
        case rel=>exact ⟨t+1,by omega,by go_num,OK2⟩
        case measure=>simp [intOf];omega
       ·rw [hew] at i4
        cases hct:c t with
        | none =>
         rw [HV1.out,if_pos hew,hct] at f0
         have RE:Hid (R=(K,false)):=hide (by rw [HRV.out,ON.out hew hct,HKE.out])
         clear hew hct
         go_wp2_with fail
         go_ret2
         rw [RE.out]
         exact ⟨⟨some ⟨g,0,none⟩,r,cap⟩,rfl,HOW.out.mono HB2.out.size,HB2.out.trans (HB4.out.mono HB2.out.size)⟩
        | some vv =>
         rw [HV1.out,if_pos hew,hct] at f0
         have OK2:Hid (okTo es c (t+1)=true):=hide (by rw [OS.out,hok.out,hct];simp)
         have hvv:0≤vv:=by
          have h:=hct
          rw [HC.out] at h
          exact (chain_val HDV.out h).1
         have k3:decide (vv < 0)=false:=by simp [hvv]
         simp only [Option.getD_some] at f0
         clear hew hct
         go_wp2_with fail
         go_round
         case rel=>exact ⟨t+1,by omega,by go_num,OK2⟩
         case measure=>simp [intOf];omega
      ·have e:t=r:=by omega
       subst e
       have RE:Hid (R=(K,true)):=hide (by rw [HRV.out,hok.out,HKE.out])
       go_wp2_with fail
       go_ret2
       rw [RE.out]
       exact ⟨⟨some ⟨g,0,none⟩,t,cap⟩,rfl,HOW.out.mono HB2.out.size,HB2.out.trans (HB4.out.mono HB2.out.size)⟩
end Go.Proofs.YtkfhgnkonaafgaaGreatDoor
namespace Go.Proofs.YtkfhgnkonaafgaaGreatDoor
open Go.RowKit
theorem CountRel_any (v:Value) (n:Nat) (f:Nat→Nat→Bool) (w:World) (hx:Rep IntE w v (relOf n f)) (hn:n≤15) :
 Calls Tryz.prog 192 #[v] w fun e w'=>e = .returned (.int .i64 (pairsTo n f n:Nat))∧Below w.heap.size w w':=by
 have HA:=hide (RelValid_any v n f w hx (by omega))
 obtain ⟨a,c,rfl, -, -, -,hx⟩:=hx.open
 simp only [relOf_length] at *
 have HX:=hide hx
 have HS:Hid (∀ k,pairsTo n f (k+1)=pairsTo n f k+cntB (f k) n):=hide (fun k=>rfl)
 have hq0:Hid (pairsTo n f 0=0):=hide rfl
 have HL:=hide (fun k=>pairsTo_le n f k)
 have HC:=hide (fun k=>cntB_le (f k) n)
 have HO:=hide (fun k w'=>OnesCount_any (maskTo (f k) n) w' (Nat.lt_of_lt_of_le (maskTo_lt (f k) n) (Nat.pow_le_pow_right (by decide:0 < 2) hn)))
 have HM:=hide (fun k=>ones_mask (f k) hn)
 have HB:=hide (fun k=>bitsTo_mask (f k) n (by omega))
 have HT:=hide (fun k=>Nat.lt_of_lt_of_le (maskTo_lt (f k) n) (Nat.pow_le_pow_right (by decide:0 < 2) hn))
 clear hx
 generalize hG:relOf n f=G at *
 have HG:=hide hG;clear hG
 generalize hq:pairsTo n f=Q at *
 clear hq
 go_enter Tryz.func192,Tryz.ntmps192
 go_wp2_with fail
 (with_reducible refine HA.out.mono ?_);rintro e w0 ⟨rfl,hb0⟩
 have HB0:=hide hb0;clear hb0 HA
 go_wp2_with fail
 go_loopw [3,11] (fun s i wr => ∃ k:Nat,k≤n∧i = .int .i64 k∧s = .int .i64 (Q k:Nat)∧wr=w0) (fun _ i _=>n - (intOf i).toNat)
 case atStart=>exact ⟨0,Nat.zero_le _,rfl,by rw [hq0.out];rfl,rfl⟩
 case round =>
  obtain ⟨k,hk,rfl,rfl,rfl⟩:=hrel
  by_cases hlt:k < n
  ·have hlt':=nat_of_lt hlt
   obtain ⟨b,o,rfl,hbl,i0⟩:=(HX.out.below HB0.out).int (by rw [← HG.out];exact relOf_get hlt)
   rw [HB.out] at i0
   have ho:=HO.out k
   rw [HM.out] at ho
   have HO1:=hide ho
   have hm:=HT.out k
   have hs:=HS.out k
   have hl:=HL.out (k+1)
   have hc:=HC.out k
   have hm2:IntKind.u64.wrap (maskTo (f k) n:Int)=(maskTo (f k) n:Int):=by rw [IntKind.wrap_u64];omega
   have hkn:(k+1) * n≤225:=by
    have h1:(k+1) * n≤15 * 15:=Nat.mul_le_mul (by omega) hn
    omega
   have hq1:wrap64 ((Q k:Int)+(cntB (f k) n:Int))=(Q (k+1):Int):=by unfold wrap64;omega
   clear hs hl
   generalize maskTo (f k) n=m at *
   generalize cntB (f k) n=z at *
   go_wp2_with fail
   (with_reducible refine (HO1.out _).mono ?_);rintro e w2 ⟨rfl,rfl⟩
   go_wp2_with fail
   go_roundw
   case rel=>exact ⟨k+1,by omega,by go_num,by first | rw [← hq1] | simp [hq1],by first | exact rfl | trivial⟩
   case measure=>simp [intOf];omega
  ·go_wp2_with fail
   go_ret
   obtain rfl:k=n:=by omega
   exact ⟨rfl,HB0.out⟩
end Go.Proofs.YtkfhgnkonaafgaaGreatDoor
namespace Go.Proofs.YtkfhgnkonaafgaaGreatDoor
open Go.RowKit
theorem irrB_all {n:Nat} {f:Nat→Nat→Bool} (h:∀ j,j < n→f j j=false):irrB n f=true:=by
 simp only [irrB,List.all_eq_true,List.mem_range,Bool.not_eq_true']
 exact h
theorem irrB_not {n j:Nat} {f:Nat→Nat→Bool} (hj:j < n) (h:f j j=true):irrB n f=false:=by
 cases hh:irrB n f with
 | false=>rfl
 | true =>
  simp only [irrB,List.all_eq_true,List.mem_range,Bool.not_eq_true'] at hh
  have:=hh j hj
  rw [h] at this;cases this
theorem isIrreflexive_any (v:Value) (n:Nat) (f:Nat→Nat→Bool) (w:World) (hx:Rep IntE w v (relOf n f)) (hn:n≤60) :
 Calls Tryz.prog 191 #[v] w fun e w'=>e = .returned (.bool (irrB n f))∧w=w':=by
 have HRX:=hide hx
 obtain ⟨a,c,rfl,hc1,hc2,hc3,hx⟩:=hx.open
 simp only [relOf_length] at *
 have HC:=hide (fun k (hk:k < n)=>related_any (.slice a n c) n k k f w HRX.out hn hk hk)
 have HT:=hide (@irrB_all n f)
 have HN:=hide (fun (j:Nat) (hj:j < n) (h:f j j=true)=>irrB_not hj h)
 clear hx HRX
 generalize hR:irrB n f=R at *
 clear hR
 go_enter Tryz.func191,Tryz.ntmps191
 go_wp2_with fail
 go_loop [6] (fun i => ∃ k:Nat,k≤n∧i = .int .i64 k∧Hid (∀ j,j < k→f j j=false)) (fun i=>n - (intOf i).toNat)
 case atStart=>exact ⟨0,Nat.zero_le _,rfl,hide (fun j h=>by omega)⟩
 case round =>
  obtain ⟨k,hk,rfl,T⟩:=hrel
  by_cases hlt:k < n
  ·have hlt':=nat_of_lt hlt
   have HC1:=hide (HC.out k hlt)
   have HN1:=hide (HN.out k hlt)
   generalize hfk:f k k=fk at *
   have FK:=hide hfk;clear hfk
   cases fk
   ·have T2:Hid (∀ j,j < k+1→f j j=false):=hide (fun j hj=>by
     by_cases e:j=k
     ·rw [e];exact FK.out
     ·exact T.out j (by omega))
    go_wp2_with fail
    (with_reducible refine HC1.out.mono ?_);rintro e w2 ⟨rfl,rfl⟩
    go_wp2_with fail
    go_round
    case rel=>exact ⟨k+1,by omega,by go_num,T2⟩
    case measure=>simp [intOf];omega
   ·have RF:Hid (R=false):=hide (by have:=HN1.out rfl;exact this)
    go_wp2_with fail
    (with_reducible refine HC1.out.mono ?_);rintro e w2 ⟨rfl,rfl⟩
    go_wp2_with fail
    go_ret
    exact ⟨by rw [RF.out];rfl,rfl⟩
  ·obtain rfl:k=n:=by omega
   have RT:Hid (R=true):=hide (HT.out T.out)
   go_wp2_with fail
   go_ret
   exact ⟨by rw [RT.out];rfl,rfl⟩
theorem acyB_irr (n:Nat) (f:Nat→Nat→Bool):acyB n f=irrB n (fClo n f):=rfl
theorem AcyclicRel_any (v:Value) (n:Nat) (f:Nat→Nat→Bool) (w:World) (hx:Rep IntE w v (relOf n f)) (hn:n≤16) :
 Calls Tryz.prog 190 #[v] w fun e w'=>e = .returned (.bool (acyB n f))∧Below w.heap.size w w':=by
 have HV:=hide (RelValid_any v n f w hx hn)
 have HC:=hide (fun w' (hb:Below w.heap.size w w')=>ClosureRel_any v n f w' (hx.below hb) hn)
 have HI:=hide (fun u w' h=>isIrreflexive_any u n (fClo n f) w' h (by omega))
 obtain ⟨a,c,rfl, -, -, -, -⟩:=hx.open
 simp only [relOf_length] at *
 rw [acyB_irr]
 clear hx
 generalize irrB n (fClo n f)=R at *
 go_enter Tryz.func190,Tryz.ntmps190
 go_wp2_with fail
 (with_reducible refine HV.out.mono ?_);rintro e w1 ⟨rfl,hb1⟩
 have HC1:=hide (HC.out _ hb1)
 have HB1:=hide hb1;clear hb1
 go_wp2_with fail
 (with_reducible refine HC1.out.mono ?_);rintro e w2 ⟨u,rfl,ou,hb2⟩
 have HI2:=hide (HI.out u w2 ou.rep)
 have HB2:=hide (HB1.out.trans (hb2.mono HB1.out.size));clear hb2 ou
 go_wp2_with fail
 (with_reducible refine HI2.out.mono ?_);rintro e w3 ⟨rfl,rfl⟩
 go_wp2_with fail
 go_ret
 exact ⟨rfl,HB2.out⟩
theorem empB_pairs (n:Nat) (f:Nat→Nat→Bool):(((pairsTo n f n:Nat):Int)==0)=empB n f:=by
 rw [Bool.eq_iff_iff,beq_iff_eq]
 simp only [empB,List.all_eq_true,List.mem_range,Bool.not_eq_true']
 constructor
 ·intro h i hi k hk
  exact pairsTo_zero' n (by omega) i k hi hk
 ·intro h
  rw [pairsTo_zero n fun i k hi hk=>h i hi k hk];rfl
theorem fulfilled_any (k:Int) (v:Value) (n:Nat) (f:Nat→Nat→Bool) (w:World) (hx:Rep IntE w v (relOf n f)) (hn:n≤15) :
 Calls Tryz.prog 142 #[.int .i64 k,v] w fun e w'=>e = .returned (.bool (holdsB n k f))∧Below w.heap.size w w':=by
 have HA:=hide (AcyclicRel_any v n f w hx (by omega))
 have HI:=hide (isIrreflexive_any v n f w hx (by omega))
 have HN:=hide (CountRel_any v n f w hx hn)
 have HE:=hide (empB_pairs n f)
 have HH:Hid (holdsB n k f=if k=1 then acyB n f else if k=2 then irrB n f else empB n f):=hide rfl
 obtain ⟨a,c,rfl, -, -, -, -⟩:=hx.open
 simp only [relOf_length] at *
 clear hx
 generalize holdsB n k f=R at *
 generalize acyB n f=RA at *
 generalize irrB n f=RI at *
 generalize empB n f=RE at *
 generalize ((pairsTo n f n:Nat):Int)=PZ at *
 by_cases h1:k=1
 ·subst h1
  have E:Hid (R=RA):=hide (by rw [HH.out];rfl)
  go_enter Tryz.func142,Tryz.ntmps142
  go_wp2_with fail
  (with_reducible refine HA.out.mono ?_);rintro e w1 ⟨rfl,hb1⟩
  go_wp2_with fail
  go_ret
  exact ⟨by rw [E.out];rfl,hb1⟩
 ·by_cases h2:k=2
  ·subst h2
   have E:Hid (R=RI):=hide (by rw [HH.out];rfl)
   go_enter Tryz.func142,Tryz.ntmps142
   go_wp2_with fail
   (with_reducible refine HI.out.mono ?_);rintro e w1 ⟨rfl,rfl⟩
   go_wp2_with fail
   go_ret
   exact ⟨by rw [E.out];rfl,Below.refl _ _⟩
  ·have E:Hid (R=RE):=hide (by rw [HH.out,if_neg h1,if_neg h2])
   have g1:(k==1)=false:=by simp [h1]
   have g2:(k==2)=false:=by simp [h2]
   clear h1 h2
   go_enter Tryz.func142,Tryz.ntmps142
   go_wp2_with fail
   (with_reducible refine HN.out.mono ?_);rintro e w1 ⟨rfl,hb1⟩
   go_wp2_with fail
   go_ret
   exact ⟨by rw [E.out,← HE.out];rfl,hb1⟩
theorem l2Loose_any (v:Value) (n:Nat) (f:Nat→Nat→Bool) (w:World) (hx:Rep IntE w v (relOf n f)) (hn:n≤60) :
 Calls Tryz.prog 150 #[v] w fun e w'=>e = .returned (.bool (irrB n f))∧w=w':=by
 have HRX:=hide hx
 obtain ⟨a,c,rfl,hc1,hc2,hc3,hx⟩:=hx.open
 simp only [relOf_length] at *
 have HC:=hide (fun k (hk:k < n)=>l2Has_any (.slice a n c) n k k f w HRX.out hn hk hk)
 have HT:=hide (@irrB_all n f)
 have HN:=hide (fun (j:Nat) (hj:j < n) (h:f j j=true)=>irrB_not hj h)
 clear hx HRX
 generalize hR:irrB n f=R at *
 clear hR
 go_enter Tryz.func150,Tryz.ntmps150
 go_wp2_with fail
 go_loop [3] (fun i => ∃ k:Nat,k≤n∧i = .int .i64 k∧Hid (∀ j,j < k→f j j=false)) (fun i=>n - (intOf i).toNat)
 case atStart=>exact ⟨0,Nat.zero_le _,rfl,hide (fun j h=>by omega)⟩
 case round =>
  obtain ⟨k,hk,rfl,T⟩:=hrel
  by_cases hlt:k < n
  ·have hlt':=nat_of_lt hlt
   have HC1:=hide (HC.out k hlt)
   have HN1:=hide (HN.out k hlt)
   generalize hfk:f k k=fk at *
   have FK:=hide hfk;clear hfk
   cases fk
   ·have T2:Hid (∀ j,j < k+1→f j j=false):=hide (fun j hj=>by
     by_cases e:j=k
     ·rw [e];exact FK.out
     ·exact T.out j (by omega))
    go_wp2_with fail
    (with_reducible refine HC1.out.mono ?_);rintro e w2 ⟨rfl,rfl⟩
    go_wp2_with fail
    go_round
    case rel=>exact ⟨k+1,by omega,by go_num,T2⟩
    case measure=>simp [intOf];omega
   ·have RF:Hid (R=false):=hide (by have:=HN1.out rfl;exact this)
    go_wp2_with fail
    (with_reducible refine HC1.out.mono ?_);rintro e w2 ⟨rfl,rfl⟩
    go_wp2_with fail
    go_ret
    exact ⟨by rw [RF.out];rfl,rfl⟩
  ·obtain rfl:k=n:=by omega
   have RT:Hid (R=true):=hide (HT.out T.out)
   go_wp2_with fail
   go_ret
   exact ⟨by rw [RT.out];rfl,rfl⟩
theorem l2Acyclic_any (v:Value) (n:Nat) (f:Nat→Nat→Bool) (w:World) (hx:Rep IntE w v (relOf n f)) (hn:n≤60) :
 Calls Tryz.prog 149 #[v] w fun e w'=>e = .returned (.bool (acyB n f))∧Below w.heap.size w w':=by
 have HC:=hide (l2Closure_any v n f w hx hn)
 have HI:=hide (fun u w' h=>l2Loose_any u n (fClo n f) w' h hn)
 obtain ⟨a,c,rfl, -, -, -, -⟩:=hx.open
 rw [acyB_irr]
 clear hx
 generalize irrB n (fClo n f)=R at *
 go_enter Tryz.func149,Tryz.ntmps149
 go_wp2_with fail
 (with_reducible refine HC.out.mono ?_);rintro e w2 ⟨u,rfl,ou,hb2⟩
 have HI2:=hide (HI.out u w2 ou.rep)
 have HB2:=hide hb2;clear hb2 ou
 go_wp2_with fail
 (with_reducible refine HI2.out.mono ?_);rintro e w3 ⟨rfl,rfl⟩
 go_wp2_with fail
 go_ret
 exact ⟨rfl,HB2.out⟩
theorem pairsTo_succ (n:Nat) (f:Nat→Nat→Bool) (k:Nat):pairsTo n f (k+1)=pairsTo n f k+cntB (f k) n:=rfl
theorem cntB_succ (f:Nat→Bool) (k:Nat):cntB f (k+1)=cntB f k+if f k=true then 1 else 0:=rfl
theorem l2Count_any (v:Value) (n:Nat) (f:Nat→Nat→Bool) (w:World) (hx:Rep IntE w v (relOf n f)) (hn:n≤60) :
 Calls Tryz.prog 151 #[v] w fun e w'=>e = .returned (.int .i64 ((pairsTo n f n:Nat):Int))∧w=w':=by
 have HRX:=hide hx
 obtain ⟨a,c,rfl,hc1,hc2,hc3,hx⟩:=hx.open
 simp only [relOf_length] at *
 have HC:=hide (fun i k (hi:i < n) (hk:k < n)=>l2Has_any (.slice a n c) n i k f w HRX.out hn hi hk)
 have HS:=hide (pairsTo_succ n f)
 have HL:=hide (fun k=>pairsTo_le n f k)
 have hq0:Hid (pairsTo n f 0=0):=hide rfl
 clear hx HRX
 generalize hQ:pairsTo n f=Q at *
 clear hQ
 go_enter Tryz.func151,Tryz.ntmps151
 go_wp2_with fail
 go_loop [3,4,5] (fun s i q => ∃ k:Nat,k≤n∧i = .int .i64 k∧s = .int .i64 (Q k:Nat)) (fun _ i _=>n - (intOf i).toNat)
 case atStart=>exact ⟨0,Nat.zero_le _,rfl,by rw [hq0.out];rfl⟩
 case round =>
  obtain ⟨k,hk,rfl,rfl⟩:=hrel
  by_cases hlt:k < n
  ·have hlt':=nat_of_lt hlt
   have hQl:=HL.out k
   have hQk:Q k≤3600:=by
    have h1:k * n≤60 * 60:=Nat.mul_le_mul (by omega) hn
    omega
   have HK:=hide (HS.out k)
   generalize hq:Q k=qk at *
   clear hQl hq
   go_wp2_with fail
   go_loop [3,5] (fun s i => ∃ j:Nat,j≤n∧i = .int .i64 j∧s = .int .i64 ((qk+cntB (f k) j:Nat):Int)) (fun _ i=>n - (intOf i).toNat)
   case atStart=>exact ⟨0,Nat.zero_le _,rfl,rfl⟩
   case round =>
    obtain ⟨j,hj,rfl,rfl⟩:=hrel
    by_cases hltj:j < n
    ·have hltj':=nat_of_lt hltj
     have hcl:=cntB_le (f k) j
     have HC1:=hide (HC.out k j hlt hltj)
     have HS1:=hide (cntB_succ (f k) j)
     generalize f k j=fk at *
     generalize cntB (f k) j=c1 at *
     cases fk
     ·have E:Hid (cntB (f k) (j+1)=c1):=hide (by rw [HS1.out];rfl)
      go_wp2_with fail
      (with_reducible refine HC1.out.mono ?_);rintro e w2 ⟨rfl,rfl⟩
      go_wp2_with fail
      go_round
      case rel=>exact ⟨j+1,by omega,by go_num,by rw [E.out];exact congrArg _ (by omega)⟩
      case measure=>simp [intOf];omega
     ·have E:Hid (cntB (f k) (j+1)=c1+1):=hide (by rw [HS1.out];rfl)
      have hw1:IntKind.i64.wrap (((qk+c1:Nat):Int)+1)=((qk+(c1+1):Nat):Int):=by rw [IntKind.wrap_i64];omega
      go_wp2_with fail
      (with_reducible refine HC1.out.mono ?_);rintro e w2 ⟨rfl,rfl⟩
      go_wp2_with fail
      go_round
      case rel=>exact ⟨j+1,by omega,by go_num,by rw [E.out];exact congrArg _ (by omega)⟩
      case measure=>simp [intOf];omega
    ·obtain rfl:j=n:=by omega
     go_wp2_with fail
     go_round
     case rel=>exact ⟨k+1,by omega,by go_num,by rw [HK.out]⟩
     case measure=>simp [intOf];omega
  ·obtain rfl:k=n:=by omega
   go_wp2_with fail
   go_ret
   exact ⟨rfl,rfl⟩
theorem l7Holds_any (k:Int) (v:Value) (n:Nat) (f:Nat→Nat→Bool) (w:World) (hx:Rep IntE w v (relOf n f)) (hn:n≤60) :
 Calls Tryz.prog 113 #[.int .i64 k,v] w fun e w'=>e = .returned (.bool (holdsB n k f))∧Below w.heap.size w w':=by
 have HA:=hide (l2Acyclic_any v n f w hx (by omega))
 have HI:=hide (l2Loose_any v n f w hx (by omega))
 have HN:=hide (l2Count_any v n f w hx hn)
 have HE:=hide (empB_pairs n f)
 have HH:Hid (holdsB n k f=if k=1 then acyB n f else if k=2 then irrB n f else empB n f):=hide rfl
 obtain ⟨a,c,rfl, -, -, -, -⟩:=hx.open
 simp only [relOf_length] at *
 clear hx
 generalize holdsB n k f=R at *
 generalize acyB n f=RA at *
 generalize irrB n f=RI at *
 generalize empB n f=RE at *
 generalize ((pairsTo n f n:Nat):Int)=PZ at *
 by_cases h1:k=1
 ·subst h1
  have E:Hid (R=RA):=hide (by rw [HH.out];rfl)
  go_enter Tryz.func113,Tryz.ntmps113
  go_wp2_with fail
  (with_reducible refine HA.out.mono ?_);rintro e w1 ⟨rfl,hb1⟩
  go_wp2_with fail
  go_ret
  exact ⟨by rw [E.out];rfl,hb1⟩
 ·by_cases h2:k=2
  ·subst h2
   have E:Hid (R=RI):=hide (by rw [HH.out];rfl)
   go_enter Tryz.func113,Tryz.ntmps113
   go_wp2_with fail
   (with_reducible refine HI.out.mono ?_);rintro e w1 ⟨rfl,rfl⟩
   go_wp2_with fail
   go_ret
   exact ⟨by rw [E.out];rfl,Below.refl _ _⟩
  ·have E:Hid (R=RE):=hide (by rw [HH.out,if_neg h1,if_neg h2])
   have g1:(k==1)=false:=by simp [h1]
   have g2:(k==2)=false:=by simp [h2]
   clear h1 h2
   go_enter Tryz.func113,Tryz.ntmps113
   go_wp2_with fail
   (with_reducible refine HN.out.mono ?_);rintro e w1 ⟨rfl,rfl⟩
   go_wp2_with fail
   go_ret
   exact ⟨by rw [E.out,← HE.out];rfl,Below.refl _ _⟩
end Go.Proofs.YtkfhgnkonaafgaaGreatDoor