/-
  Plain: how the program reads expressions of relations and models. No condition.
-/
import Derived.Test.YtfbgppkdnfljhaaGreatDoorZt17
import Derived.Test.YtfbgppkdnfljhaaGreatDoorZt12
import Derived.Test.YtfbgppkdnfljhaaGreatDoorZt19
import Derived.Test.YtfbgppkdnfljhaaGreatDoorZt10
import Derived.Test.YtfbgppkdnfljhaaGreatDoorZt15
set_option maxHeartbeats 6400000
set_option maxRecDepth 100000
namespace Go.Proofs.YtfbgppkdnfljhaaGreatDoor
open Go.RowKit
def cntB (f:Nat→Bool):Nat→Nat
 | 0=>0
 | n+1=>cntB f n+if f n=true then 1 else 0
theorem cntB_le (f:Nat→Bool) (n:Nat):cntB f n≤n:=by
 induction n with
 | zero=>exact Nat.le_refl _
 | succ n ih=>simp only [cntB];split <;> omega
theorem cntB_congr {f g:Nat→Bool}:∀ n,(∀ k,k < n→f k=g k)→cntB f n=cntB g n:=by
 intro n
 induction n with
 | zero=>intro _;rfl
 | succ n ih=>intro h;simp only [cntB];rw [ih (fun k hk=>h k (by omega)),h n (by omega)]
def popN (x:Nat):Nat:=x % 2+x / 2 % 2+x / 4 % 2+x / 8 % 2+x / 16 % 2+x / 32 % 2+x / 64 % 2+x / 128 % 2+x / 256 % 2+x / 512 % 2+x / 1024 % 2+x / 2048 % 2+x / 4096 % 2+x / 8192 % 2+x / 16384 % 2
def chkO:Nat→Nat→Bool
 | 0,_=>true
 | n+1,s=>Nat.beq (ones s) (popN s)&&chkO n (s+1)
theorem chkO_spec:∀ n s,chkO n s=true→∀ x,s≤x→x < s+n→ones x=popN x:=by
 intro n
 induction n with
 | zero=>intro s _ x h1 h2;omega
 | succ n ih =>
  intro s h x h1 h2
  simp only [chkO,Bool.and_eq_true] at h
  by_cases e:x=s
  ·rw [e];exact Nat.eq_of_beq_eq_true h.1
  ·exact ih (s+1) h.2 x (by omega) (by omega)
theorem chkO_0:chkO 512 0=true:=by kernel_rfl
theorem chkO_1:chkO 512 512=true:=by kernel_rfl
theorem chkO_2:chkO 512 1024=true:=by kernel_rfl
theorem chkO_3:chkO 512 1536=true:=by kernel_rfl
theorem chkO_4:chkO 512 2048=true:=by kernel_rfl
theorem chkO_5:chkO 512 2560=true:=by kernel_rfl
theorem chkO_6:chkO 512 3072=true:=by kernel_rfl
theorem chkO_7:chkO 512 3584=true:=by kernel_rfl
theorem chkO_8:chkO 512 4096=true:=by kernel_rfl
theorem chkO_9:chkO 512 4608=true:=by kernel_rfl
theorem chkO_10:chkO 512 5120=true:=by kernel_rfl
theorem chkO_11:chkO 512 5632=true:=by kernel_rfl
theorem chkO_12:chkO 512 6144=true:=by kernel_rfl
theorem chkO_13:chkO 512 6656=true:=by kernel_rfl
theorem chkO_14:chkO 512 7168=true:=by kernel_rfl
theorem chkO_15:chkO 512 7680=true:=by kernel_rfl
theorem chkO_16:chkO 512 8192=true:=by kernel_rfl
theorem chkO_17:chkO 512 8704=true:=by kernel_rfl
theorem chkO_18:chkO 512 9216=true:=by kernel_rfl
theorem chkO_19:chkO 512 9728=true:=by kernel_rfl
theorem chkO_20:chkO 512 10240=true:=by kernel_rfl
theorem chkO_21:chkO 512 10752=true:=by kernel_rfl
theorem chkO_22:chkO 512 11264=true:=by kernel_rfl
theorem chkO_23:chkO 512 11776=true:=by kernel_rfl
theorem chkO_24:chkO 512 12288=true:=by kernel_rfl
theorem chkO_25:chkO 512 12800=true:=by kernel_rfl
theorem chkO_26:chkO 512 13312=true:=by kernel_rfl
theorem chkO_27:chkO 512 13824=true:=by kernel_rfl
theorem chkO_28:chkO 512 14336=true:=by kernel_rfl
theorem chkO_29:chkO 512 14848=true:=by kernel_rfl
theorem chkO_30:chkO 512 15360=true:=by kernel_rfl
theorem chkO_31:chkO 512 15872=true:=by kernel_rfl
theorem chkO_32:chkO 512 16384=true:=by kernel_rfl
theorem chkO_33:chkO 512 16896=true:=by kernel_rfl
theorem chkO_34:chkO 512 17408=true:=by kernel_rfl
theorem chkO_35:chkO 512 17920=true:=by kernel_rfl
theorem chkO_36:chkO 512 18432=true:=by kernel_rfl
theorem chkO_37:chkO 512 18944=true:=by kernel_rfl
theorem chkO_38:chkO 512 19456=true:=by kernel_rfl
theorem chkO_39:chkO 512 19968=true:=by kernel_rfl
theorem chkO_40:chkO 512 20480=true:=by kernel_rfl
theorem chkO_41:chkO 512 20992=true:=by kernel_rfl
theorem chkO_42:chkO 512 21504=true:=by kernel_rfl
theorem chkO_43:chkO 512 22016=true:=by kernel_rfl
theorem chkO_44:chkO 512 22528=true:=by kernel_rfl
theorem chkO_45:chkO 512 23040=true:=by kernel_rfl
theorem chkO_46:chkO 512 23552=true:=by kernel_rfl
theorem chkO_47:chkO 512 24064=true:=by kernel_rfl
theorem chkO_48:chkO 512 24576=true:=by kernel_rfl
theorem chkO_49:chkO 512 25088=true:=by kernel_rfl
theorem chkO_50:chkO 512 25600=true:=by kernel_rfl
theorem chkO_51:chkO 512 26112=true:=by kernel_rfl
theorem chkO_52:chkO 512 26624=true:=by kernel_rfl
theorem chkO_53:chkO 512 27136=true:=by kernel_rfl
theorem chkO_54:chkO 512 27648=true:=by kernel_rfl
theorem chkO_55:chkO 512 28160=true:=by kernel_rfl
theorem chkO_56:chkO 512 28672=true:=by kernel_rfl
theorem chkO_57:chkO 512 29184=true:=by kernel_rfl
theorem chkO_58:chkO 512 29696=true:=by kernel_rfl
theorem chkO_59:chkO 512 30208=true:=by kernel_rfl
theorem chkO_60:chkO 512 30720=true:=by kernel_rfl
theorem chkO_61:chkO 512 31232=true:=by kernel_rfl
theorem chkO_62:chkO 512 31744=true:=by kernel_rfl
theorem chkO_63:chkO 512 32256=true:=by kernel_rfl
theorem ones_pop {x:Nat} (h:x < 32768):ones x=popN x:=by
 have hc:x / 512=0∨x / 512=1∨x / 512=2∨x / 512=3∨x / 512=4∨x / 512=5∨x / 512=6∨x / 512=7∨x / 512=8∨x / 512=9∨x / 512=10∨x / 512=11∨x / 512=12∨x / 512=13∨x / 512=14∨x / 512=15∨x / 512=16∨x / 512=17∨x / 512=18∨x / 512=19∨x / 512=20∨x / 512=21∨x / 512=22∨x / 512=23∨x / 512=24∨x / 512=25∨x / 512=26∨x / 512=27∨x / 512=28∨x / 512=29∨x / 512=30∨x / 512=31∨x / 512=32∨x / 512=33∨x / 512=34∨x / 512=35∨x / 512=36∨x / 512=37∨x / 512=38∨x / 512=39∨x / 512=40∨x / 512=41∨x / 512=42∨x / 512=43∨x / 512=44∨x / 512=45∨x / 512=46∨x / 512=47∨x / 512=48∨x / 512=49∨x / 512=50∨x / 512=51∨x / 512=52∨x / 512=53∨x / 512=54∨x / 512=55∨x / 512=56∨x / 512=57∨x / 512=58∨x / 512=59∨x / 512=60∨x / 512=61∨x / 512=62∨x / 512=63:=by omega
 rcases hc with h0 | h0 | h0 | h0 | h0 | h0 | h0 | h0 | h0 | h0 | h0 | h0 | h0 | h0 | h0 | h0 | h0 | h0 | h0 | h0 | h0 | h0 | h0 | h0 | h0 | h0 | h0 | h0 | h0 | h0 | h0 | h0 | h0 | h0 | h0 | h0 | h0 | h0 | h0 | h0 | h0 | h0 | h0 | h0 | h0 | h0 | h0 | h0 | h0 | h0 | h0 | h0 | h0 | h0 | h0 | h0 | h0 | h0 | h0 | h0 | h0 | h0 | h0 | h0
 ·exact chkO_spec 512 0 chkO_0 x (by omega) (by omega)
 ·exact chkO_spec 512 512 chkO_1 x (by omega) (by omega)
 ·exact chkO_spec 512 1024 chkO_2 x (by omega) (by omega)
 ·exact chkO_spec 512 1536 chkO_3 x (by omega) (by omega)
 ·exact chkO_spec 512 2048 chkO_4 x (by omega) (by omega)
 ·exact chkO_spec 512 2560 chkO_5 x (by omega) (by omega)
 ·exact chkO_spec 512 3072 chkO_6 x (by omega) (by omega)
 ·exact chkO_spec 512 3584 chkO_7 x (by omega) (by omega)
 ·exact chkO_spec 512 4096 chkO_8 x (by omega) (by omega)
 ·exact chkO_spec 512 4608 chkO_9 x (by omega) (by omega)
 ·exact chkO_spec 512 5120 chkO_10 x (by omega) (by omega)
 ·exact chkO_spec 512 5632 chkO_11 x (by omega) (by omega)
 ·exact chkO_spec 512 6144 chkO_12 x (by omega) (by omega)
 ·exact chkO_spec 512 6656 chkO_13 x (by omega) (by omega)
 ·exact chkO_spec 512 7168 chkO_14 x (by omega) (by omega)
 ·exact chkO_spec 512 7680 chkO_15 x (by omega) (by omega)
 ·exact chkO_spec 512 8192 chkO_16 x (by omega) (by omega)
 ·exact chkO_spec 512 8704 chkO_17 x (by omega) (by omega)
 ·exact chkO_spec 512 9216 chkO_18 x (by omega) (by omega)
 ·exact chkO_spec 512 9728 chkO_19 x (by omega) (by omega)
 ·exact chkO_spec 512 10240 chkO_20 x (by omega) (by omega)
 ·exact chkO_spec 512 10752 chkO_21 x (by omega) (by omega)
 ·exact chkO_spec 512 11264 chkO_22 x (by omega) (by omega)
 ·exact chkO_spec 512 11776 chkO_23 x (by omega) (by omega)
 ·exact chkO_spec 512 12288 chkO_24 x (by omega) (by omega)
 ·exact chkO_spec 512 12800 chkO_25 x (by omega) (by omega)
 ·exact chkO_spec 512 13312 chkO_26 x (by omega) (by omega)
 ·exact chkO_spec 512 13824 chkO_27 x (by omega) (by omega)
 ·exact chkO_spec 512 14336 chkO_28 x (by omega) (by omega)
 ·exact chkO_spec 512 14848 chkO_29 x (by omega) (by omega)
 ·exact chkO_spec 512 15360 chkO_30 x (by omega) (by omega)
 ·exact chkO_spec 512 15872 chkO_31 x (by omega) (by omega)
 ·exact chkO_spec 512 16384 chkO_32 x (by omega) (by omega)
 ·exact chkO_spec 512 16896 chkO_33 x (by omega) (by omega)
 ·exact chkO_spec 512 17408 chkO_34 x (by omega) (by omega)
 ·exact chkO_spec 512 17920 chkO_35 x (by omega) (by omega)
 ·exact chkO_spec 512 18432 chkO_36 x (by omega) (by omega)
 ·exact chkO_spec 512 18944 chkO_37 x (by omega) (by omega)
 ·exact chkO_spec 512 19456 chkO_38 x (by omega) (by omega)
 ·exact chkO_spec 512 19968 chkO_39 x (by omega) (by omega)
 ·exact chkO_spec 512 20480 chkO_40 x (by omega) (by omega)
 ·exact chkO_spec 512 20992 chkO_41 x (by omega) (by omega)
 ·exact chkO_spec 512 21504 chkO_42 x (by omega) (by omega)
 ·exact chkO_spec 512 22016 chkO_43 x (by omega) (by omega)
 ·exact chkO_spec 512 22528 chkO_44 x (by omega) (by omega)
 ·exact chkO_spec 512 23040 chkO_45 x (by omega) (by omega)
 ·exact chkO_spec 512 23552 chkO_46 x (by omega) (by omega)
 ·exact chkO_spec 512 24064 chkO_47 x (by omega) (by omega)
 ·exact chkO_spec 512 24576 chkO_48 x (by omega) (by omega)
 ·exact chkO_spec 512 25088 chkO_49 x (by omega) (by omega)
 ·exact chkO_spec 512 25600 chkO_50 x (by omega) (by omega)
 ·exact chkO_spec 512 26112 chkO_51 x (by omega) (by omega)
 ·exact chkO_spec 512 26624 chkO_52 x (by omega) (by omega)
 ·exact chkO_spec 512 27136 chkO_53 x (by omega) (by omega)
 ·exact chkO_spec 512 27648 chkO_54 x (by omega) (by omega)
 ·exact chkO_spec 512 28160 chkO_55 x (by omega) (by omega)
 ·exact chkO_spec 512 28672 chkO_56 x (by omega) (by omega)
 ·exact chkO_spec 512 29184 chkO_57 x (by omega) (by omega)
 ·exact chkO_spec 512 29696 chkO_58 x (by omega) (by omega)
 ·exact chkO_spec 512 30208 chkO_59 x (by omega) (by omega)
 ·exact chkO_spec 512 30720 chkO_60 x (by omega) (by omega)
 ·exact chkO_spec 512 31232 chkO_61 x (by omega) (by omega)
 ·exact chkO_spec 512 31744 chkO_62 x (by omega) (by omega)
 ·exact chkO_spec 512 32256 chkO_63 x (by omega) (by omega)
theorem pop_bits (x:Nat):popN x=cntB (fun k=>x.testBit k) 15:=by
 have h:∀ k,(if x.testBit k=true then 1 else 0)=x / 2 ^ k % 2:=by
  intro k
  rw [Nat.testBit_eq_decide_div_mod_eq]
  have:=Nat.mod_two_eq_zero_or_one (x / 2 ^ k)
  rcases this with h | h <;> rw [h] <;> simp
 simp only [cntB,h]
 unfold popN
 simp
theorem ones_eq {x:Nat} (h:x < 32768):ones x=cntB (fun k=>x.testBit k) 15:=(ones_pop h).trans (pop_bits x)
theorem ones_mask (f : Nat → Bool) {n : Nat} (hn : n ≤ 15) : ones (maskTo f n) = cntB f n := by
  have hlt : maskTo f n < 32768 := Nat.lt_of_lt_of_le (maskTo_lt f n) (by
    have : 2 ^ n ≤ 2 ^ 15 := Nat.pow_le_pow_right (by decide) hn
    exact this)
  rw [ones_eq hlt]
  have h1 : cntB (fun k => (maskTo f n).testBit k) 15 = cntB (fun k => decide (k < n) && f k) 15 := cntB_congr _ (fun k _ => maskTo_testBit f n k)
  rw [h1]
  have key : ∀ m, n ≤ m → cntB (fun k => decide (k < n) && f k) m = cntB f n := by
    intro m
    induction m with
    | zero => intro h; have : n = 0 := by omega
              subst this; rfl
    | succ m ih =>
      intro h
      simp only [cntB]
      by_cases e : n = m + 1
      · subst e
        rw [cntB_congr m (g := f) (fun k hk => by simp; omega)]
        simp [cntB]
      · rw [ih (by omega)]
        simp; omega
  exact key 15 hn
def pairsTo (n:Nat) (f:Nat→Nat→Bool):Nat→Nat
 | 0=>0
 | j+1=>pairsTo n f j+cntB (f j) n
theorem pairsTo_le (n:Nat) (f:Nat→Nat→Bool) (j:Nat):pairsTo n f j≤j * n:=by
 induction j with
 | zero=>exact Nat.zero_le _
 | succ j ih=>simp only [pairsTo];have:=cntB_le (f j) n;rw [Nat.add_mul];omega
end Go.Proofs.YtfbgppkdnfljhaaGreatDoor
namespace Go.Proofs.YtfbgppkdnfljhaaGreatDoor
theorem prodR_get {α:Type}:∀ {cs:List (List α)} {r:List α},r∈prodR cs→∀ {i:Nat} {y:α},r[i]? = some y→∃ c,cs[i]? = some c∧y∈c:=by
 intro cs
 induction cs with
 | nil=>intro r hr i y hy;simp [prodR] at hr;subst hr;simp at hy
 | cons c cs ih =>
  intro r hr i y hy
  simp only [prodR,List.mem_flatMap,List.mem_map] at hr
  obtain ⟨z,hz,q,hq,rfl⟩:=hr
  cases i with
  | zero=>simp at hy;subst hy;exact ⟨c,rfl,hz⟩
  | succ i=>exact ih hq (by simpa using hy)
theorem permsL_perm:∀ (n:Nat) (xs:List Int),xs.length=n→∀ r∈permsL xs,r.Perm xs:=by
 intro n
 induction n with
 | zero =>
  intro xs hx r hr
  obtain rfl:xs=[]:=List.length_eq_zero_iff.1 hx
  rw [permsL_nil] at hr
  simp at hr;subst hr;exact List.Perm.refl _
 | succ n ih =>
  intro xs hx r hr
  rw [permsL_step (by omega)] at hr
  simp only [List.mem_flatMap,List.mem_range,List.mem_map] at hr
  obtain ⟨i,hi,q,hq,rfl⟩:=hr
  have h1:=ih (xs.eraseIdx i) (by rw [List.length_eraseIdx,if_pos hi,hx];rfl) q hq
  have h2:xs.getD i 0=xs[i]:=by simp [List.getD,hi]
  rw [h2]
  refine (h1.cons _).trans ?_
  have h3:xs=xs.take i++xs[i] :: xs.drop (i+1):=by rw [← List.drop_eq_getElem_cons hi,List.take_append_drop]
  rw [List.eraseIdx_eq_take_drop_succ]
  have h4:=(List.perm_middle (a:=xs[i]) (l₁:=xs.take i) (l₂:=xs.drop (i+1))).symm
  rw [← h3] at h4
  exact h4
theorem allX_ok {p:List (List Ins)} (hp:progValid p=true) {x:Xc} (h:x∈allX (evAll p)):execOk p x=true:=by
 rw [allX_eq] at h
 simp only [List.mem_flatMap,List.mem_map] at h
 obtain ⟨f,hf,o,ho,rfl⟩:=h
 have hfl:f.length=(evAll p).length:=by rw [prodR_row _ f hf];simp [chsF]
 have hol:o.length=3:=by rw [prodR_row _ o ho];simp [chsO]
 unfold execOk
 simp only [Bool.and_eq_true,decide_eq_true_eq]
 refine ⟨hp,hfl,hol, ?_, ?_⟩
 ·unfold fromsOk
  simp only [List.all_eq_true,List.mem_range]
  intro i hi
  obtain ⟨e,he⟩:=get_of_lt (xs:=evAll p) (k:=i) hi
  obtain ⟨y,hy⟩:=get_of_lt (xs:=f) (k:=i) (by omega)
  obtain ⟨c,hc,hm⟩:=prodR_get hf hy
  rw [he,hy]
  have hc2:c=chF (evAll p) i:=by
   unfold chsF at hc
   rw [List.getElem?_map,List.getElem?_range hi] at hc
   simpa using hc.symm
  subst hc2
  unfold chF at hm
  rw [he] at hm
  simp only at hm
  unfold fromOk
  simp only
  split at hm
  ·rename_i hr
   rw [if_pos hr]
   simp only [List.mem_filter,Bool.not_eq_true',beq_eq_false_iff_ne,ne_eq] at hm
   simp only [Bool.and_eq_true,bne_iff_ne,ne_eq,List.contains_iff_mem]
   exact ⟨hm.2,hm.1⟩
  ·rename_i hr
   rw [if_neg hr]
   simpa using hm
 ·unfold ordersOk
  simp only [List.all_eq_true,List.mem_range]
  intro l hl
  obtain ⟨y,hy⟩:=get_of_lt (xs:=o) (k:=l) (by omega)
  obtain ⟨c,hc,hm⟩:=prodR_get ho hy
  rw [hy]
  have hc2:c=chO (evAll p) l:=by
   unfold chsO at hc
   rw [List.getElem?_map,List.getElem?_range hl] at hc
   simpa using hc.symm
  subst hc2
  unfold chO at hm
  obtain ⟨q,hq,rfl⟩:=List.mem_map.1 hm
  have h1:=permsL_perm _ (wrL (evAll p) l).tail rfl q hq
  have h2:=head_wrL (p:=p) hl
  unfold orderOk
  simp only [Bool.and_eq_true,decide_eq_true_eq,List.head?_cons,beq_self_eq_true,and_true]
  cases hw:wrL (evAll p) l with
  | nil=>rw [hw] at h2;simp at h2
  | cons z zs =>
   rw [hw] at h1 h2
   simp only [List.head?_cons,Option.some.injEq] at h2
   subst h2
   exact h1.cons _
theorem cntB_zero {f:Nat→Bool}:∀ n,(∀ k,k < n→f k=false)→cntB f n=0:=by
 intro n
 induction n with
 | zero=>intro _;rfl
 | succ n ih=>intro h;simp only [cntB,ih fun k hk=>h k (by omega),h n (by omega)];rfl
theorem cntB_zero' {f:Nat→Bool}:∀ n,cntB f n=0→∀ k,k < n→f k=false:=by
 intro n
 induction n with
 | zero=>intro _ k hk;omega
 | succ n ih =>
  intro h k hk
  simp only [cntB] at h
  have h1:f n=false:=by cases hf:f n with
   | false=>rfl
   | true=>rw [hf] at h;simp at h
  by_cases e:k=n
  ·rw [e];exact h1
  ·exact ih (by omega) k (by omega)
theorem pairsTo_zero {n:Nat} {f:Nat→Nat→Bool}:∀ j,(∀ i k,i < j→k < n→f i k=false)→pairsTo n f j=0:=by
 intro j
 induction j with
 | zero=>intro _;rfl
 | succ j ih=>intro h;simp only [pairsTo,ih fun i k hi hk=>h i k (by omega) hk,cntB_zero n fun k hk=>h j k (by omega) hk]
theorem pairsTo_zero' {n:Nat} {f:Nat→Nat→Bool}:∀ j,pairsTo n f j=0→∀ i k,i < j→k < n→f i k=false:=by
 intro j
 induction j with
 | zero=>intro _ i k hi;omega
 | succ j ih =>
  intro h i k hi hk
  simp only [pairsTo] at h
  by_cases e:i=j
  ·rw [e];exact cntB_zero' n (by omega) k hk
  ·exact ih (by omega) i k (by omega) hk
end Go.Proofs.YtfbgppkdnfljhaaGreatDoor
namespace Go.Proofs.YtfbgppkdnfljhaaGreatDoor
def rN (nm:ByteArray):Re:=.mk 1 nm []
def rB (o:Int) (a b:Re):Re:=.mk o ⟨#[]⟩ [a,b]
def rU (o:Int) (a:Re):Re:=.mk o ⟨#[]⟩ [a]
def rPo:Re:=rN ⟨#[112,111]⟩
def rLoc:Re:=rN ⟨#[108,111,99]⟩
def rExt:Re:=rN ⟨#[101,120,116]⟩
def rRf:Re:=rN ⟨#[114,102]⟩
def rCo:Re:=rN ⟨#[99,111]⟩
def rFr:Re:=rN ⟨#[102,114]⟩
def rFence:Re:=rN ⟨#[102,101,110,99,101]⟩
def rWr:Re:=rN ⟨#[119,114]⟩
def rWw:Re:=rN ⟨#[119,119]⟩
def rOr (a b:Re):Re:=rB 2 a b
def rAnd (a b:Re):Re:=rB 3 a b
def rMinus (a b:Re):Re:=rB 4 a b
def rComp (a b:Re):Re:=rB 5 a b
def rClo (a:Re):Re:=rU 7 a
def eUni:Re:=rOr (rOr (rOr (rAnd rPo rLoc) rRf) rCo) rFr
def eSeq:Re:=rOr (rOr (rOr rPo rRf) rCo) rFr
def eTso:Re:=rOr (rOr (rOr (rOr (rMinus rPo rWr) rFence) (rAnd rRf rExt)) rCo) rFr
def ePso:Re:=rOr (rOr (rOr (rOr (rMinus rPo (rOr rWr rWw)) rFence) (rAnd rRf rExt)) rCo) rFr
def eHb:Re:=rOr rPo rRf
def eRa:Re:=rOr (rOr (rAnd (rClo (rOr rPo rRf)) rLoc) rCo) rFr
def eFc:Re:=rComp rFr rCo
def mSeq:List Ru:=[⟨1,eSeq⟩]
def mTso:List Ru:=[⟨1,eUni⟩,⟨1,eTso⟩,⟨2,eFc⟩]
def mPso:List Ru:=[⟨1,eUni⟩,⟨1,ePso⟩,⟨2,eFc⟩]
def mRa:List Ru:=[⟨1,eHb⟩,⟨1,eRa⟩,⟨2,eFc⟩]
def mLoc:List Ru:=[⟨1,eUni⟩]
section
variable {p : List (List Ins)} {x : Xc}
theorem ev_name {d:Nat} {nm:ByteArray} {k:Nat} (h:nameId nm=k):evalD p x (d+1) (rN nm)=relN p x k:=by
 simp [evalD,rN,Re.op,Re.nm,h]
theorem ev_or {d:Nat} {a b:Re} {f g:Nat→Nat→Bool} (h:evalD p x d a=f) (h':evalD p x d b=g):evalD p x (d+1) (rOr a b)=fOr f g:=by
 simp [evalD,rOr,rB,Re.op,Re.kids,kidR,h,h']
theorem ev_and {d:Nat} {a b:Re} {f g:Nat→Nat→Bool} (h:evalD p x d a=f) (h':evalD p x d b=g):evalD p x (d+1) (rAnd a b)=fAnd f g:=by
 simp [evalD,rAnd,rB,Re.op,Re.kids,kidR,h,h']
theorem ev_minus {d:Nat} {a b:Re} {f g:Nat→Nat→Bool} (h:evalD p x d a=f) (h':evalD p x d b=g):evalD p x (d+1) (rMinus a b)=fMinus f g:=by
 simp [evalD,rMinus,rB,Re.op,Re.kids,kidR,h,h']
theorem ev_comp {d:Nat} {a b:Re} {f g:Nat→Nat→Bool} (h:evalD p x d a=f) (h':evalD p x d b=g):evalD p x (d+1) (rComp a b)=fComp (evAll p).length f g:=by
 simp [evalD,rComp,rB,Re.op,Re.kids,kidR,h,h']
theorem id_po:nameId ⟨#[112,111]⟩=0:=by decide +kernel
theorem id_loc:nameId ⟨#[108,111,99]⟩=1:=by decide +kernel
theorem id_ext:nameId ⟨#[101,120,116]⟩=2:=by decide +kernel
theorem id_rf:nameId ⟨#[114,102]⟩=3:=by decide +kernel
theorem id_co:nameId ⟨#[99,111]⟩=4:=by decide +kernel
theorem id_fr:nameId ⟨#[102,114]⟩=5:=by decide +kernel
theorem id_fence:nameId ⟨#[102,101,110,99,101]⟩=6:=by decide +kernel
theorem id_wr:nameId ⟨#[119,114]⟩=7:=by decide +kernel
theorem id_ww:nameId ⟨#[119,119]⟩=8:=by decide +kernel
theorem ev_uni:evalD p x 12 eUni=uniF p x:=ev_or (ev_or (ev_or (ev_and (ev_name id_po) (ev_name id_loc)) (ev_name id_rf)) (ev_name id_co)) (ev_name id_fr)
theorem ev_seq:evalD p x 12 eSeq=seqF p x:=ev_or (ev_or (ev_or (ev_name id_po) (ev_name id_rf)) (ev_name id_co)) (ev_name id_fr)
theorem ev_tso:evalD p x 12 eTso=tsoF p x:=ev_or (ev_or (ev_or (ev_or (ev_minus (ev_name id_po) (ev_name id_wr)) (ev_name id_fence)) (ev_and (ev_name id_rf) (ev_name id_ext))) (ev_name id_co)) (ev_name id_fr)
theorem ev_pso:evalD p x 12 ePso=psoF p x:=ev_or (ev_or (ev_or (ev_or (ev_minus (ev_name id_po) (ev_or (ev_name id_wr) (ev_name id_ww))) (ev_name id_fence)) (ev_and (ev_name id_rf) (ev_name id_ext))) (ev_name id_co)) (ev_name id_fr)
theorem ev_fc:evalD p x 12 eFc=fcF p x:=ev_comp (ev_name id_fr) (ev_name id_co)
theorem allow_seq:allowB p mSeq x=(valsOk p x.fr&&acyB (evAll p).length (seqF p x)):=by
 simp [allowB,mSeq,ruleB,holdsB,ev_seq]
theorem allow_tso:allowB p mTso x=(valsOk p x.fr&&(acyB (evAll p).length (uniF p x)&&(acyB (evAll p).length (tsoF p x)&&irrB (evAll p).length (fcF p x)))):=by
 simp [allowB,mTso,ruleB,holdsB,ev_uni,ev_tso,ev_fc]
theorem allow_pso:allowB p mPso x=(valsOk p x.fr&&(acyB (evAll p).length (uniF p x)&&(acyB (evAll p).length (psoF p x)&&irrB (evAll p).length (fcF p x)))):=by
 simp [allowB,mPso,ruleB,holdsB,ev_uni,ev_pso,ev_fc]
theorem allow_seq_tso (h:allowB p mSeq x=true):allowB p mTso x=true:=by
 rw [allow_seq] at h;rw [allow_tso]
 simp only [Bool.and_eq_true] at h ⊢
 exact ⟨h.1,seq_tso h.2⟩
theorem allow_tso_pso (h:allowB p mTso x=true):allowB p mPso x=true:=by
 rw [allow_tso] at h;rw [allow_pso]
 simp only [Bool.and_eq_true] at h ⊢
 exact ⟨h.1,h.2.1,tso_pso h.2.2.1,h.2.2.2⟩
end
theorem filter_same {α:Type} {f g:α→Bool} {xs:List α} (h:∀ x∈xs,f x=g x):xs.filter f=xs.filter g:=List.filter_congr h
def NoAdj (L:List Ins):Prop:=∀ k x y,L[k]? = some x→L[k+1]? = some y→x.op=4∨y.op=4
theorem NoAdj.snoc {L:List Ins} {y:Ins} (h:NoAdj L) (hl:∀ x,L[L.length - 1]? = some x→x.op=4∨y.op=4):NoAdj (L++[y]):=by
 intro k a b ha hb
 by_cases hk:k+1 < L.length
 ·rw [List.getElem?_append_left (by omega)] at ha
  rw [List.getElem?_append_left hk] at hb
  exact h k a b ha hb
 ·have hlt:=(List.getElem?_eq_some_iff.1 hb).1
  simp at hlt
  have e:k+1=L.length:=by omega
  rw [List.getElem?_append_left (by omega)] at ha
  rw [List.getElem?_append_right (by omega),e,Nat.sub_self] at hb
  simp at hb;subst hb
  exact hl a (by rw [← e];exact ha)
theorem last_app {L:List Ins} {y:Ins}:(L++[y])[(L++[y]).length - 1]? = some y:=by simp
theorem putTo_adj {f:Int→Bool} {r:List Ins} (hf:∀ i:Nat,1≤i→i < r.length→f i=gapAt r i):∀ n,n≤r.length→NoAdj (putTo f r n)∧(∀ x,0 < n→(putTo f r n)[(putTo f r n).length - 1]? = some x→r[n - 1]? = some x):=by
 intro n
 induction n with
 | zero=>intro _;exact ⟨fun k x y h=>by simp [putTo] at h,fun x h=>by omega⟩
 | succ n ih =>
  intro hn
  obtain ⟨h1,h2⟩:=ih (by omega)
  obtain ⟨x,hx⟩:=get_of_lt (xs:=r) (k:=n) (by omega)
  rw [putTo_succ hx]
  cases hfn:f n with
  | true =>
   rw [if_pos rfl]
   have e:putTo f r n++[fenceI,x]=(putTo f r n++[fenceI])++[x]:=by simp
   rw [e]
   refine ⟨(h1.snoc fun y _ => .inr rfl).snoc fun y hy => .inl ?_,fun y _ hy => ?_⟩
   ·rw [last_app] at hy;simp at hy;rw [← hy];rfl
   ·rw [last_app] at hy;simp at hy;subst hy;exact hx
  | false =>
   simp only [Bool.false_eq_true,if_false]
   refine ⟨h1.snoc fun y hy => ?_,fun y _ hy => ?_⟩
   ·by_cases h0:n=0
    ·subst h0;simp [putTo] at hy
    ·have h3:=h2 y (by omega) hy
     have h4:=hf n (by omega) (by omega)
     rw [hfn] at h4
     unfold gapAt at h4
     rw [h3,hx] at h4
     have h5:decide (1≤n)=true:=by simp;omega
     simp only [h5,Bool.true_and] at h4
     have h6:=h4.symm
     simp only [Bool.and_eq_false_iff,bne_eq_false_iff_eq] at h6
     exact h6
   ·rw [last_app] at hy;simp at hy;subst hy;exact hx
theorem mem_gapsP {p:List (List Ins)} {t i:Nat} {r:List Ins} (hr:p[t]? = some r) (hi:i < r.length) (hg:gapAt r i=true):(⟨t,i⟩:Gp)∈gapsP p:=by
 unfold gapsP gapsTo
 rw [List.mem_flatMap]
 refine ⟨t,List.mem_range.2 (List.getElem?_eq_some_iff.1 hr).1, ?_⟩
 rw [hr]
 exact List.mem_map.2 ⟨i,List.mem_filter.2 ⟨List.mem_range.2 hi,hg⟩,rfl⟩
theorem full_adj (p:List (List Ins)):∀ r∈putP (inL (gapsP p)) p,NoAdj r:=by
 intro r hr
 obtain ⟨t,ht⟩:=List.getElem?_of_mem hr
 have hlt:=(List.getElem?_eq_some_iff.1 ht).1
 rw [putP_length] at hlt
 obtain ⟨r0,h0⟩:=get_of_lt (xs:=p) (k:=t) hlt
 rw [putP_get h0] at ht
 simp only [Option.some.injEq] at ht
 subst ht
 refine (putTo_adj (fun i h1 h2 => ?_) r0.length (Nat.le_refl _)).1
 unfold inL
 rw [Bool.eq_iff_iff,decide_eq_true_eq]
 constructor
 ·intro h
  obtain ⟨t',i',r',e,h3,h4,h5,h6⟩:=gapsP_mem h
  simp only [Gp.mk.injEq] at e
  obtain ⟨e1,e2⟩:=e
  have e1':t=t':=by omega
  have e2':i=i':=by omega
  subst e1';subst e2'
  rw [h0] at h3;simp only [Option.some.injEq] at h3;subst h3
  exact h6
 ·intro h;exact mem_gapsP h0 h2 h
section
variable {p : List (List Ins)} {x : Xc}
theorem full_po (hq:∀ r∈p,NoAdj r) {i j:Nat} (h:relN p x 0 i j=true):relN p x 6 i j=true:=by
 obtain ⟨a,b,ha,hb,h1⟩:=R_some h
 rw [relN_eq ha hb]
 simp only [relE] at h1 ⊢
 rw [h1,Bool.true_and]
 unfold poE at h1
 simp only [Bool.and_eq_true,decide_eq_true_eq,beq_iff_eq] at h1
 obtain ⟨h2,h3,h4⟩:=h1
 rcases mem_evAll (List.mem_of_getElem? ha) with hh | ⟨t,i1,r,y,hr,hy,rfl,hy4⟩
 ·omega
 rcases mem_evAll (List.mem_of_getElem? hb) with hh | ⟨t',i2,r',y',hr',hy',rfl,hy4'⟩
 ·simp only at h3;omega
 simp only at h2 h3 h4
 have ht:t=t':=by omega
 subst ht
 rw [hr] at hr';simp only [Option.some.injEq] at hr';subst hr'
 have hlt2:=(List.getElem?_eq_some_iff.1 hy').1
 obtain ⟨z,hz⟩:=get_of_lt (xs:=r) (k:=i1+1) (by omega)
 have hz4:z.op=4:=by
  rcases hq r (List.mem_of_getElem? hr) i1 y z hy hz with h5 | h5
  ·exact absurd h5 hy4
  ·exact h5
 have hne:i1+1≠i2:=fun e=>by subst e;rw [hz] at hy';simp only [Option.some.injEq] at hy';subst hy';exact hy4' hz4
 unfold fenB
 simp only [Int.toNat_natCast,hr,Option.getD_some]
 refine List.any_eq_true.2 ⟨z,List.mem_of_getElem? (i:=1) ?_,by simp [hz4]⟩
 rw [List.getElem?_take_of_lt (by omega),List.getElem?_drop];exact hz
theorem full_seq (C:Cand p x) (hf:∀ i j,relN p x 0 i j=true→relN p x 6 i j=true) {f:Nat→Nat→Bool} (h6:∀ i j,relN p x 6 i j=true→f i j=true) (h3:∀ i j,(fAnd (relN p x 3) (relN p x 2)) i j=true→f i j=true) (h4:∀ i j,relN p x 4 i j=true→f i j=true) (h5:∀ i j,relN p x 5 i j=true→f i j=true)
 (hU:acyB (evAll p).length (uniF p x)=true) (hG:acyB (evAll p).length f=true):acyB (evAll p).length (seqF p x)=true:=by
 refine acyB_mono (fun i k _ _ h => ?_) hG
 simp only [seqF,fOr,Bool.or_eq_true] at h
 rcases h with ((h | h) | h) | h
 ·exact h6 _ _ (hf _ _ h)
 ·rcases rfi_po C hU h with h | h
  ·exact h6 _ _ (hf _ _ h)
  ·exact h3 _ _ h
 ·exact h4 _ _ h
 ·exact h5 _ _ h
theorem full_tso (hX:execOk p x=true) (hq:∀ r∈p,NoAdj r):allowB p mTso x=allowB p mSeq x:=by
 rw [Bool.eq_iff_iff]
 refine ⟨fun h => ?_,allow_seq_tso⟩
 rw [allow_tso] at h;rw [allow_seq]
 simp only [Bool.and_eq_true] at h ⊢
 exact ⟨h.1,full_seq (f:=tsoF p x) (cand_of hX) (fun i j=>full_po hq) (fun i j h=>by simp [tsoF,fOr,h]) (fun i j h=>by unfold tsoF;simp only [fOr,h,Bool.or_true,Bool.true_or]) (fun i j h=>by simp [tsoF,fOr,h]) (fun i j h=>by simp [tsoF,fOr,h]) h.2.1 h.2.2.1⟩
theorem full_pso (hX:execOk p x=true) (hq:∀ r∈p,NoAdj r):allowB p mPso x=allowB p mSeq x:=by
 rw [Bool.eq_iff_iff]
 refine ⟨fun h => ?_,fun h=>allow_tso_pso (allow_seq_tso h)⟩
 rw [allow_pso] at h;rw [allow_seq]
 simp only [Bool.and_eq_true] at h ⊢
 exact ⟨h.1,full_seq (f:=psoF p x) (cand_of hX) (fun i j=>full_po hq) (fun i j h=>by simp [psoF,fOr,h]) (fun i j h=>by unfold psoF;simp only [fOr,h,Bool.or_true,Bool.true_or]) (fun i j h=>by simp [psoF,fOr,h]) (fun i j h=>by simp [psoF,fOr,h]) h.2.1 h.2.2.1⟩
end
theorem full_models {p:List (List Ins)} (hp:progValid p=true) (hq:∀ r∈p,NoAdj r):allowL p mTso=allowL p mSeq∧allowL p mPso=allowL p mSeq:=
 ⟨filter_same fun _ hx=>full_tso (allX_ok hp hx) hq,filter_same fun _ hx=>full_pso (allX_ok hp hx) hq⟩
end Go.Proofs.YtfbgppkdnfljhaaGreatDoor
namespace Go.Proofs.YtfbgppkdnfljhaaGreatDoor
def zR:Re:=.mk 0 ⟨#[]⟩ []
def isAt (s:ByteArray) (i:Int) (k:UInt8):Bool:=decide (0≤i)&&(s.data.toList[i.toNat]? == some k)
def lvlR (o:Int):Int:=if o=2 then 3 else if o=3 then 2 else if o=4 then 2 else if o=5 then 1 else 0
def sgnR (o:Int):ByteArray:=if o=2 then ⟨#[124]⟩ else if o=3 then ⟨#[38]⟩ else if o=4 then ⟨#[45]⟩ else if o=5 then ⟨#[59]⟩ else if o=6 then ⟨#[126]⟩ else if o=7 then ⟨#[43]⟩ else ⟨#[]⟩
def sgB (o:Int):UInt8:=if o=2 then 124 else if o=3 then 38 else if o=4 then 45 else 59
def hitO (s:ByteArray) (i lv o:Int):Bool:=(lvlR o==lv)&&isAt s i (sgB o)
def opAt (s:ByteArray) (i lv:Int):Int:=if hitO s i lv 2=true then 2 else if hitO s i lv 3=true then 3 else if hitO s i lv 4=true then 4 else if hitO s i lv 5=true then 5 else 0
def isLow (c:UInt8):Bool:=decide ((97:Nat)≤c.toNat)&&decide (c.toNat≤122)
def endL (l:List UInt8):Nat→Nat→Nat
 | 0,i=>i
 | f+1,i=>match l[i]? with
  | some c=>if isLow c=true then endL l f (i+1) else i
  | none=>i
inductive PM where
 | prime (i d:Int)
 | parse (i d lv:Int)
 | loop (d lv:Int) (l:Re) (n:Int)
def pR (s:ByteArray):Nat→PM→Option (Re × Int)
 | 0,_=>none
 | f+1, .prime i d =>
  if d < 1∨i < 0∨(s.size:Int)≤i then some (zR, -1)
  else if isAt s i 40=true then
   match pR s f (.parse (i+1) d 3) with
   | none=>none
   | some (e,n)=>if isAt s n 41=true then some (e,n+1) else some (zR, -1)
  else if isAt s i 126=true then
   match pR s f (.prime (i+1) (d - 1)) with
   | none=>none
   | some (e,n)=>some (.mk 6 ⟨#[]⟩ [e],n)
  else if isAt s i 43=true then
   match pR s f (.prime (i+1) (d - 1)) with
   | none=>none
   | some (e,n)=>some (.mk 7 ⟨#[]⟩ [e],n)
  else if endL s.data.toList s.size i.toNat=i.toNat then some (zR, -1)
  else some (.mk 1 (s.extract i.toNat (endL s.data.toList s.size i.toNat)) [],(endL s.data.toList s.size i.toNat:Nat))
 | f+1, .parse i d lv =>
  if lv=0 then pR s f (.prime i d)
  else match pR s f (.parse i d (lv - 1)) with
   | none=>none
   | some (l,n)=>pR s f (.loop d lv l n)
 | f+1, .loop d lv l n =>
  if n < 0 then some (zR, -1)
  else if opAt s n lv=0 then some (l,n)
  else match pR s f (.parse (n+1) d (lv - 1)) with
   | none=>none
   | some (r,e)=>pR s f (.loop d lv (.mk (opAt s n lv) ⟨#[]⟩ [l,r]) e)
theorem isAt_lt {s:ByteArray} {i:Int} {k:UInt8} (h:isAt s i k=true):0≤i∧i < s.size:=by
 unfold isAt at h
 rw [Bool.and_eq_true,decide_eq_true_eq,beq_iff_eq] at h
 obtain ⟨h0,h1⟩:=h
 have h2:=(List.getElem?_eq_some_iff.1 h1).1
 have h3:s.data.toList.length=s.size:=by simp
 omega
theorem endL_bd (l:List UInt8):∀ f i,i≤l.length→i≤endL l f i∧endL l f i≤l.length:=by
 intro f
 induction f with
 | zero=>intro i h;exact ⟨Nat.le_refl _,h⟩
 | succ f ih =>
  intro i h
  unfold endL
  cases hc:l[i]? with
  | none=>exact ⟨Nat.le_refl _,h⟩
  | some c =>
   have hlt:=(List.getElem?_eq_some_iff.1 hc).1
   simp only
   split
   ·have:=ih (i+1) (by omega);omega
   ·exact ⟨Nat.le_refl _,h⟩
def PM.bd (s:ByteArray) (r:Re × Int):PM→Prop
 | .prime i _=>r.2 = -1∨(0≤i∧i < r.2∧r.2≤s.size)
 | .parse i _ _=>r.2 = -1∨(0≤i∧i < r.2∧r.2≤s.size)
 | .loop _ _ _ n=>n≤s.size→(r.2 = -1∨(0≤n∧n≤r.2∧r.2≤s.size))
theorem pR_bd (s:ByteArray):∀ f m r,pR s f m=some r→m.bd s r:=by
 intro f
 induction f with
 | zero=>intro m r h;simp [pR] at h
 | succ f ih =>
  intro m r h
  cases m with
  | prime i d =>
   unfold pR at h
   show r.2 = -1∨_
   split at h
   ·simp only [Option.some.injEq] at h;subst h;exact .inl rfl
   ·rename_i hn
    have hi:0≤i∧i < s.size:=by omega
    split at h
    ·split at h
     ·cases h
     ·rename_i e n hp
      have h1:n = -1∨(0≤i+1∧i+1 < n∧n≤s.size):=ih _ _ hp
      split at h
      ·rename_i ha
       have h2:=isAt_lt ha
       simp only [Option.some.injEq] at h;subst h
       simp only
       omega
      ·simp only [Option.some.injEq] at h;subst h;exact .inl rfl
    ·split at h
     ·split at h
      ·cases h
      ·rename_i e n hp
       have h1:n = -1∨(0≤i+1∧i+1 < n∧n≤s.size):=ih _ _ hp
       simp only [Option.some.injEq] at h;subst h
       simp only
       omega
     ·split at h
      ·split at h
       ·cases h
       ·rename_i e n hp
        have h1:n = -1∨(0≤i+1∧i+1 < n∧n≤s.size):=ih _ _ hp
        simp only [Option.some.injEq] at h;subst h
        simp only
        omega
      ·split at h
       ·simp only [Option.some.injEq] at h;subst h;exact .inl rfl
       ·rename_i hne
        simp only [Option.some.injEq] at h;subst h
        simp only
        have h3:s.data.toList.length=s.size:=by simp
        have:=endL_bd s.data.toList s.size i.toNat (by omega)
        omega
  | parse i d lv =>
   unfold pR at h
   show r.2 = -1∨_
   split at h
   ·exact ih _ _ h
   ·split at h
    ·cases h
    ·rename_i l n hp
     have h1:n = -1∨(0≤i∧i < n∧n≤s.size):=ih _ _ hp
     have h2:n≤s.size→(r.2 = -1∨(0≤n∧n≤r.2∧r.2≤s.size)):=ih _ _ h
     omega
  | loop d lv l n =>
   unfold pR at h
   show n≤s.size→_
   intro hns
   split at h
   ·simp only [Option.some.injEq] at h;subst h;exact .inl rfl
   ·split at h
    ·simp only [Option.some.injEq] at h;subst h
     simp only
     omega
    ·split at h
     ·cases h
     ·rename_i q e hp
      have h1:e = -1∨(0≤n+1∧n+1 < e∧e≤s.size):=ih _ _ hp
      have h2:e≤s.size→(r.2 = -1∨(0≤e∧e≤r.2∧r.2≤s.size)):=ih _ _ h
      omega
def textR:Nat→Re→ByteArray
 | 0,_=>⟨#[]⟩
 | d+1,c =>
  if kidsO c.op=0 then c.nm
  else if kidsO c.op=1 then sgnR c.op++(if lvlR (kidR c 0).op > 0 then ⟨#[40]⟩++textR d (kidR c 0)++⟨#[41]⟩ else textR d (kidR c 0))
  else (if lvlR (kidR c 0).op > lvlR c.op then ⟨#[40]⟩++textR d (kidR c 0)++⟨#[41]⟩ else textR d (kidR c 0))++sgnR c.op++(if lvlR (kidR c 1).op > lvlR c.op - 1 then ⟨#[40]⟩++textR d (kidR c 1)++⟨#[41]⟩ else textR d (kidR c 1))
def wordR (k:Int):ByteArray:=if k=1 then ⟨#[97,99,121,99,108,105,99]⟩ else if k=2 then ⟨#[105,114,114,101,102]⟩ else if k=3 then ⟨#[101,109,112,116,121]⟩ else ⟨#[]⟩
def modelTo (m:List Ru):Nat→ByteArray
 | 0=>⟨#[]⟩
 | k+1=>match m[k]? with
  | none=>modelTo m k
  | some r=>(if 0 < k then modelTo m k++⟨#[47]⟩ else modelTo m k)++wordR r.kind++⟨#[32]⟩++textR 12 r.e
def txSeq:ByteArray:=⟨#[97,99,121,99,108,105,99,32,112,111,124,114,102,124,99,111,124,102,114]⟩
end Go.Proofs.YtfbgppkdnfljhaaGreatDoor
namespace Go.Proofs.YtfbgppkdnfljhaaGreatDoor
open Go.RowKit
theorem CountRel_any (v:Value) (n:Nat) (f:Nat→Nat→Bool) (w:World) (hx:Rep IntE w v (relOf n f)) (hn:n≤15) :
 Calls Tryz.prog 183 #[v] w fun e w'=>e = .returned (.int .i64 (pairsTo n f n:Nat))∧Below w.heap.size w w':=by
 have HA:=hide (RelValid_any v n f w hx (by omega))
 obtain ⟨a,c,rfl, -, -, -,hx⟩:=hx.open
 simp only [relOf_length] at *
 have HX:=hide hx
 have HS:Hid (∀ k,pairsTo n f (k+1)=pairsTo n f k+cntB (f k) n):=hide (fun k=>rfl)
 have hq0:Hid (pairsTo n f 0=0):=hide rfl
 have HL:=hide (fun k=>pairsTo_le n f k)
 have HC:=hide (fun k=>cntB_le (f k) n)
 have HO:=hide (fun k w'=>OnesCount_any (maskTo (f k) n) w' (Nat.lt_of_lt_of_le (maskTo_lt (f k) n) (Nat.pow_le_pow_right (by decide:0 < 2) hn)))
 have HM:=hide (fun k=>ones_mask (f k) hn)
 have HB:=hide (fun k=>bitsTo_mask (f k) n (by omega))
 have HT:=hide (fun k=>Nat.lt_of_lt_of_le (maskTo_lt (f k) n) (Nat.pow_le_pow_right (by decide:0 < 2) hn))
 clear hx
 generalize hG:relOf n f=G at *
 have HG:=hide hG;clear hG
 generalize hq:pairsTo n f=Q at *
 clear hq
 go_enter Tryz.func183,Tryz.ntmps183
 go_wp2_with fail
 (with_reducible refine HA.out.mono ?_);rintro e w0 ⟨rfl,hb0⟩
 have HB0:=hide hb0;clear hb0 HA
 go_wp2_with fail
 go_loopw [3,11] (fun s i wr => ∃ k:Nat,k≤n∧i = .int .i64 k∧s = .int .i64 (Q k:Nat)∧wr=w0) (fun _ i _=>n - (intOf i).toNat)
 case atStart=>exact ⟨0,Nat.zero_le _,rfl,by rw [hq0.out];rfl,rfl⟩
 case round =>
  obtain ⟨k,hk,rfl,rfl,rfl⟩:=hrel
  by_cases hlt:k < n
  ·have hlt':=nat_of_lt hlt
   obtain ⟨b,o,rfl,hbl,i0⟩:=(HX.out.below HB0.out).int (by rw [← HG.out];exact relOf_get hlt)
   rw [HB.out] at i0
   have ho:=HO.out k
   rw [HM.out] at ho
   have HO1:=hide ho
   have hm:=HT.out k
   have hs:=HS.out k
   have hl:=HL.out (k+1)
   have hc:=HC.out k
   have hm2:IntKind.u64.wrap (maskTo (f k) n:Int)=(maskTo (f k) n:Int):=by rw [IntKind.wrap_u64];omega
   have hkn:(k+1) * n≤225:=by
    have h1:(k+1) * n≤15 * 15:=Nat.mul_le_mul (by omega) hn
    omega
   have hq1:wrap64 ((Q k:Int)+(cntB (f k) n:Int))=(Q (k+1):Int):=by unfold wrap64;omega
   clear hs hl
   generalize maskTo (f k) n=m at *
   generalize cntB (f k) n=z at *
   go_wp2_with fail
   (with_reducible refine (HO1.out _).mono ?_);rintro e w2 ⟨rfl,rfl⟩
   go_wp2_with fail
   go_roundw
   case rel=>exact ⟨k+1,by omega,by go_num,by first | rw [← hq1] | simp [hq1],by first | exact rfl | trivial⟩
   case measure=>simp [intOf];omega
  ·go_wp2_with fail
   go_ret
   obtain rfl:k=n:=by omega
   exact ⟨rfl,HB0.out⟩
end Go.Proofs.YtfbgppkdnfljhaaGreatDoor
namespace Go.Proofs.YtfbgppkdnfljhaaGreatDoor
open Go.RowKit
theorem irrB_all {n:Nat} {f:Nat→Nat→Bool} (h:∀ j,j < n→f j j=false):irrB n f=true:=by
 simp only [irrB,List.all_eq_true,List.mem_range,Bool.not_eq_true']
 exact h
theorem irrB_not {n j:Nat} {f:Nat→Nat→Bool} (hj:j < n) (h:f j j=true):irrB n f=false:=by
 cases hh:irrB n f with
 | false=>rfl
 | true =>
  simp only [irrB,List.all_eq_true,List.mem_range,Bool.not_eq_true'] at hh
  have:=hh j hj
  rw [h] at this;cases this
theorem isIrreflexive_any (v:Value) (n:Nat) (f:Nat→Nat→Bool) (w:World) (hx:Rep IntE w v (relOf n f)) (hn:n≤60) :
 Calls Tryz.prog 182 #[v] w fun e w'=>e = .returned (.bool (irrB n f))∧w=w':=by
 have HRX:=hide hx
 obtain ⟨a,c,rfl,hc1,hc2,hc3,hx⟩:=hx.open
 simp only [relOf_length] at *
 have HC:=hide (fun k (hk:k < n)=>related_any (.slice a n c) n k k f w HRX.out hn hk hk)
 have HT:=hide (@irrB_all n f)
 have HN:=hide (fun (j:Nat) (hj:j < n) (h:f j j=true)=>irrB_not hj h)
 clear hx HRX
 generalize hR:irrB n f=R at *
 clear hR
 go_enter Tryz.func182,Tryz.ntmps182
 go_wp2_with fail
 go_loop [6] (fun i => ∃ k:Nat,k≤n∧i = .int .i64 k∧Hid (∀ j,j < k→f j j=false)) (fun i=>n - (intOf i).toNat)
 case atStart=>exact ⟨0,Nat.zero_le _,rfl,hide (fun j h=>by omega)⟩
 case round =>
  obtain ⟨k,hk,rfl,T⟩:=hrel
  by_cases hlt:k < n
  ·have hlt':=nat_of_lt hlt
   have HC1:=hide (HC.out k hlt)
   have HN1:=hide (HN.out k hlt)
   generalize hfk:f k k=fk at *
   have FK:=hide hfk;clear hfk
   cases fk
   ·have T2:Hid (∀ j,j < k+1→f j j=false):=hide (fun j hj=>by
     by_cases e:j=k
     ·rw [e];exact FK.out
     ·exact T.out j (by omega))
    go_wp2_with fail
    (with_reducible refine HC1.out.mono ?_);rintro e w2 ⟨rfl,rfl⟩
    go_wp2_with fail
    go_round
    case rel=>exact ⟨k+1,by omega,by go_num,T2⟩
    case measure=>simp [intOf];omega
   ·have RF:Hid (R=false):=hide (by have:=HN1.out rfl;exact this)
    go_wp2_with fail
    (with_reducible refine HC1.out.mono ?_);rintro e w2 ⟨rfl,rfl⟩
    go_wp2_with fail
    go_ret
    exact ⟨by rw [RF.out];rfl,rfl⟩
  ·obtain rfl:k=n:=by omega
   have RT:Hid (R=true):=hide (HT.out T.out)
   go_wp2_with fail
   go_ret
   exact ⟨by rw [RT.out];rfl,rfl⟩
theorem acyB_irr (n:Nat) (f:Nat→Nat→Bool):acyB n f=irrB n (fClo n f):=rfl
theorem AcyclicRel_any (v:Value) (n:Nat) (f:Nat→Nat→Bool) (w:World) (hx:Rep IntE w v (relOf n f)) (hn:n≤16) :
 Calls Tryz.prog 181 #[v] w fun e w'=>e = .returned (.bool (acyB n f))∧Below w.heap.size w w':=by
 have HV:=hide (RelValid_any v n f w hx hn)
 have HC:=hide (fun w' (hb:Below w.heap.size w w')=>ClosureRel_any v n f w' (hx.below hb) hn)
 have HI:=hide (fun u w' h=>isIrreflexive_any u n (fClo n f) w' h (by omega))
 obtain ⟨a,c,rfl, -, -, -, -⟩:=hx.open
 simp only [relOf_length] at *
 rw [acyB_irr]
 clear hx
 generalize irrB n (fClo n f)=R at *
 go_enter Tryz.func181,Tryz.ntmps181
 go_wp2_with fail
 (with_reducible refine HV.out.mono ?_);rintro e w1 ⟨rfl,hb1⟩
 have HC1:=hide (HC.out _ hb1)
 have HB1:=hide hb1;clear hb1
 go_wp2_with fail
 (with_reducible refine HC1.out.mono ?_);rintro e w2 ⟨u,rfl,ou,hb2⟩
 have HI2:=hide (HI.out u w2 ou.rep)
 have HB2:=hide (HB1.out.trans (hb2.mono HB1.out.size));clear hb2 ou
 go_wp2_with fail
 (with_reducible refine HI2.out.mono ?_);rintro e w3 ⟨rfl,rfl⟩
 go_wp2_with fail
 go_ret
 exact ⟨rfl,HB2.out⟩
theorem empB_pairs (n:Nat) (f:Nat→Nat→Bool):(((pairsTo n f n:Nat):Int)==0)=empB n f:=by
 rw [Bool.eq_iff_iff,beq_iff_eq]
 simp only [empB,List.all_eq_true,List.mem_range,Bool.not_eq_true']
 constructor
 ·intro h i hi k hk
  exact pairsTo_zero' n (by omega) i k hi hk
 ·intro h
  rw [pairsTo_zero n fun i k hi hk=>h i hi k hk];rfl
theorem fulfilled_any (k:Int) (v:Value) (n:Nat) (f:Nat→Nat→Bool) (w:World) (hx:Rep IntE w v (relOf n f)) (hn:n≤15) :
 Calls Tryz.prog 131 #[.int .i64 k,v] w fun e w'=>e = .returned (.bool (holdsB n k f))∧Below w.heap.size w w':=by
 have HA:=hide (AcyclicRel_any v n f w hx (by omega))
 have HI:=hide (isIrreflexive_any v n f w hx (by omega))
 have HN:=hide (CountRel_any v n f w hx hn)
 have HE:=hide (empB_pairs n f)
 have HH:Hid (holdsB n k f=if k=1 then acyB n f else if k=2 then irrB n f else empB n f):=hide rfl
 obtain ⟨a,c,rfl, -, -, -, -⟩:=hx.open
 simp only [relOf_length] at *
 clear hx
 generalize holdsB n k f=R at *
 generalize acyB n f=RA at *
 generalize irrB n f=RI at *
 generalize empB n f=RE at *
 generalize ((pairsTo n f n:Nat):Int)=PZ at *
 by_cases h1:k=1
 ·subst h1
  have E:Hid (R=RA):=hide (by rw [HH.out];rfl)
  go_enter Tryz.func131,Tryz.ntmps131
  go_wp2_with fail
  (with_reducible refine HA.out.mono ?_);rintro e w1 ⟨rfl,hb1⟩
  go_wp2_with fail
  go_ret
  exact ⟨by rw [E.out];rfl,hb1⟩
 ·by_cases h2:k=2
  ·subst h2
   have E:Hid (R=RI):=hide (by rw [HH.out];rfl)
   go_enter Tryz.func131,Tryz.ntmps131
   go_wp2_with fail
   (with_reducible refine HI.out.mono ?_);rintro e w1 ⟨rfl,rfl⟩
   go_wp2_with fail
   go_ret
   exact ⟨by rw [E.out];rfl,Below.refl _ _⟩
  ·have E:Hid (R=RE):=hide (by rw [HH.out,if_neg h1,if_neg h2])
   have g1:(k==1)=false:=by simp [h1]
   have g2:(k==2)=false:=by simp [h2]
   clear h1 h2
   go_enter Tryz.func131,Tryz.ntmps131
   go_wp2_with fail
   (with_reducible refine HN.out.mono ?_);rintro e w1 ⟨rfl,hb1⟩
   go_wp2_with fail
   go_ret
   exact ⟨by rw [E.out,← HE.out];rfl,hb1⟩
end Go.Proofs.YtfbgppkdnfljhaaGreatDoor
namespace Go.Proofs.YtfbgppkdnfljhaaGreatDoor
def tkI (c:UInt8) (l:List UInt8) (f:Bool):Bool:=!f&&(l.head? == some c)
def nmI:List UInt8→Nat
 | []=>0
 | c :: l=>if isLow c=true then nmI l+1 else 0
def hitI (lv o:Int) (l:List UInt8) (f:Bool):Bool:=(lvlR o==lv)&&tkI (sgB o) l f
def opI (lv:Int) (l:List UInt8) (f:Bool):Int:=if hitI lv 2 l f=true then 2 else if hitI lv 3 l f=true then 3 else if hitI lv 4 l f=true then 4 else if hitI lv 5 l f=true then 5 else 0
inductive PJ where
 | atom
 | level (lv:Int)
 | loop (lv:Int) (e:Re)
def pI:Nat→PJ→List UInt8→Bool→Option (Re × List UInt8 × Bool)
 | 0,_,_,_=>none
 | n+1, .atom,l,f =>
  if tkI 40 l f=true then
   match pI n (.level 3) l.tail f with
   | none=>none
   | some (e,l1,f1)=>if tkI 41 l1 f1=true then some (e,l1.tail,f1) else some (e,l1,true)
  else if tkI 126 l f=true then
   match pI n .atom l.tail f with
   | none=>none
   | some (e,l1,f1)=>some (.mk 6 ⟨#[]⟩ [e],l1,f1)
  else if tkI 43 l f=true then
   match pI n .atom l.tail f with
   | none=>none
   | some (e,l1,f1)=>some (.mk 7 ⟨#[]⟩ [e],l1,f1)
  else some (.mk 1 ⟨(l.take (nmI l)).toArray⟩ [],l.drop (nmI l),f||(nmI l==0))
 | n+1, .level lv,l,f =>
  if lv=0 then pI n .atom l f
  else match pI n (.level (lv - 1)) l f with
   | none=>none
   | some (e,l1,f1)=>pI n (.loop lv e) l1 f1
 | n+1, .loop lv e,l,f =>
  if opI lv l f=0 then some (e,l,f)
  else match pI n (.level (lv - 1)) l.tail f with
   | none=>none
   | some (b,l1,f1)=>pI n (.loop lv (.mk (opI lv l f) ⟨#[]⟩ [e,b])) l1 f1
theorem tkI_cons {c:UInt8} {l:List UInt8} {f:Bool} (h:tkI c l f=true):f=false∧l=c :: l.tail:=by
 unfold tkI at h
 cases f
 ·cases l with
  | nil=>simp at h
  | cons a l=>simp at h;subst h;exact ⟨rfl,rfl⟩
 ·simp at h
theorem nmI_le:∀ l:List UInt8,nmI l≤l.length
 | []=>Nat.le_refl _
 | c :: l=>by
  have:=nmI_le l
  unfold nmI
  split <;> simp <;> omega
theorem opI_cons {lv:Int} {l:List UInt8} {f:Bool} (h:opI lv l f≠0):f=false∧∃ c,l=c :: l.tail:=by
 unfold opI hitI at h
 by_cases h2:tkI (sgB 2) l f=true
 ·exact ⟨(tkI_cons h2).1,_,(tkI_cons h2).2⟩
 by_cases h3:tkI (sgB 3) l f=true
 ·exact ⟨(tkI_cons h3).1,_,(tkI_cons h3).2⟩
 by_cases h4:tkI (sgB 4) l f=true
 ·exact ⟨(tkI_cons h4).1,_,(tkI_cons h4).2⟩
 by_cases h5:tkI (sgB 5) l f=true
 ·exact ⟨(tkI_cons h5).1,_,(tkI_cons h5).2⟩
 exfalso
 apply h
 simp [h2,h3,h4,h5]
theorem pI_len:∀ n m l f r,pI n m l f=some r→r.2.1.length≤l.length:=by
 intro n
 induction n with
 | zero=>intro m l f r h;simp [pI] at h
 | succ n ih =>
  intro m l f r h
  have htl:l.tail.length≤l.length:=by simp
  cases m with
  | atom =>
   unfold pI at h
   split at h
   ·split at h
    ·cases h
    ·rename_i e l1 f1 hp
     have h1:l1.length≤l.tail.length:=ih _ _ _ _ hp
     have h2:l1.tail.length≤l1.length:=by simp
     split at h <;> (simp only [Option.some.injEq] at h;subst h;simp only;omega)
   ·split at h
    ·split at h
     ·cases h
     ·rename_i e l1 f1 hp
      have h1:l1.length≤l.tail.length:=ih _ _ _ _ hp
      simp only [Option.some.injEq] at h;subst h;simp only;omega
    ·split at h
     ·split at h
      ·cases h
      ·rename_i e l1 f1 hp
       have h1:l1.length≤l.tail.length:=ih _ _ _ _ hp
       simp only [Option.some.injEq] at h;subst h;simp only;omega
     ·simp only [Option.some.injEq] at h;subst h;simp
  | level lv =>
   unfold pI at h
   split at h
   ·exact ih _ _ _ _ h
   ·split at h
    ·cases h
    ·rename_i e l1 f1 hp
     have h1:l1.length≤l.length:=ih _ _ _ _ hp
     have h2:=ih _ _ _ _ h
     omega
  | loop lv e =>
   unfold pI at h
   split at h
   ·simp only [Option.some.injEq] at h;subst h;simp
   ·split at h
    ·cases h
    ·rename_i b l1 f1 hp
     have h1:l1.length≤l.tail.length:=ih _ _ _ _ hp
     have h2:=ih _ _ _ _ h
     omega
theorem pI_loop_end {n:Nat} {lv:Int} {e:Re} {l:List UInt8} {f:Bool} {r:Re × List UInt8 × Bool} (h:pI n (.loop lv e) l f=some r) (ho:opI lv l f=0):r=(e,l,f):=by
 cases n with
 | zero=>simp [pI] at h
 | succ n=>unfold pI at h;rw [if_pos ho] at h;exact (Option.some.inj h).symm
theorem pI_loop_more {n:Nat} {lv:Int} {e:Re} {l:List UInt8} {f:Bool} {r:Re × List UInt8 × Bool} (h:pI n (.loop lv e) l f=some r) (ho:opI lv l f≠0) :
 ∃ (m:Nat) (b:Re) (l1:List UInt8) (f1:Bool),n=m+1∧pI m (.level (lv - 1)) l.tail f=some (b,l1,f1)∧pI m (.loop lv (.mk (opI lv l f) ⟨#[]⟩ [e,b])) l1 f1=some r:=by
 cases n with
 | zero=>simp [pI] at h
 | succ n =>
  unfold pI at h
  rw [if_neg ho] at h
  split at h
  ·cases h
  ·rename_i b l1 f1 hp
   exact ⟨n,b,l1,f1,rfl,hp,h⟩
end Go.Proofs.YtfbgppkdnfljhaaGreatDoor