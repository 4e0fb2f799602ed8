/-
  CountRel of the program: the number of pairs. Condition: at most 15 elements.
-/
import Derived.Test.YtfbgppkdnfljhaaGreatDoorZj16
import Derived.Test.YtfbgppkdnfljhaaGreatDoorZj11
import Derived.Test.YtfbgppkdnfljhaaGreatDoorZj18
import Derived.Test.YtfbgppkdnfljhaaGreatDoorZj10
import Derived.Test.YtfbgppkdnfljhaaGreatDoorZj15
import Derived.Test.YtfbgppkdnfljhaaGreatDoorZj14
set_option maxHeartbeats 6400000
set_option maxRecDepth 100000
namespace Go.Proofs.YtfbgppkdnfljhaaGreatDoor
open Go.RowKit
def cntB (f:Nat→Bool):Nat→Nat
 | 0=>0
 | n+1=>cntB f n+if f n=true then 1 else 0
theorem cntB_le (f:Nat→Bool) (n:Nat):cntB f n≤n:=by
 induction n with
 | zero=>exact Nat.le_refl _
 | succ n ih=>simp only [cntB];split <;> omega
theorem cntB_congr {f g:Nat→Bool}:∀ n,(∀ k,k < n→f k=g k)→cntB f n=cntB g n:=by
 intro n
 induction n with
 | zero=>intro _;rfl
 | succ n ih=>intro h;simp only [cntB];rw [ih (fun k hk=>h k (by omega)),h n (by omega)]
def popN (x:Nat):Nat:=x % 2+x / 2 % 2+x / 4 % 2+x / 8 % 2+x / 16 % 2+x / 32 % 2+x / 64 % 2+x / 128 % 2+x / 256 % 2+x / 512 % 2+x / 1024 % 2+x / 2048 % 2+x / 4096 % 2+x / 8192 % 2+x / 16384 % 2
def chkO:Nat→Nat→Bool
 | 0,_=>true
 | n+1,s=>Nat.beq (ones s) (popN s)&&chkO n (s+1)
theorem chkO_spec:∀ n s,chkO n s=true→∀ x,s≤x→x < s+n→ones x=popN x:=by
 intro n
 induction n with
 | zero=>intro s _ x h1 h2;omega
 | succ n ih =>
  intro s h x h1 h2
  simp only [chkO,Bool.and_eq_true] at h
  by_cases e:x=s
  ·rw [e];exact Nat.eq_of_beq_eq_true h.1
  ·exact ih (s+1) h.2 x (by omega) (by omega)
theorem chkO_0:chkO 512 0=true:=by kernel_rfl
theorem chkO_1:chkO 512 512=true:=by kernel_rfl
theorem chkO_2:chkO 512 1024=true:=by kernel_rfl
theorem chkO_3:chkO 512 1536=true:=by kernel_rfl
theorem chkO_4:chkO 512 2048=true:=by kernel_rfl
theorem chkO_5:chkO 512 2560=true:=by kernel_rfl
theorem chkO_6:chkO 512 3072=true:=by kernel_rfl
theorem chkO_7:chkO 512 3584=true:=by kernel_rfl
theorem chkO_8:chkO 512 4096=true:=by kernel_rfl
theorem chkO_9:chkO 512 4608=true:=by kernel_rfl
theorem chkO_10:chkO 512 5120=true:=by kernel_rfl
theorem chkO_11:chkO 512 5632=true:=by kernel_rfl
theorem chkO_12:chkO 512 6144=true:=by kernel_rfl
theorem chkO_13:chkO 512 6656=true:=by kernel_rfl
theorem chkO_14:chkO 512 7168=true:=by kernel_rfl
theorem chkO_15:chkO 512 7680=true:=by kernel_rfl
theorem chkO_16:chkO 512 8192=true:=by kernel_rfl
theorem chkO_17:chkO 512 8704=true:=by kernel_rfl
theorem chkO_18:chkO 512 9216=true:=by kernel_rfl
theorem chkO_19:chkO 512 9728=true:=by kernel_rfl
theorem chkO_20:chkO 512 10240=true:=by kernel_rfl
theorem chkO_21:chkO 512 10752=true:=by kernel_rfl
theorem chkO_22:chkO 512 11264=true:=by kernel_rfl
theorem chkO_23:chkO 512 11776=true:=by kernel_rfl
theorem chkO_24:chkO 512 12288=true:=by kernel_rfl
theorem chkO_25:chkO 512 12800=true:=by kernel_rfl
theorem chkO_26:chkO 512 13312=true:=by kernel_rfl
theorem chkO_27:chkO 512 13824=true:=by kernel_rfl
theorem chkO_28:chkO 512 14336=true:=by kernel_rfl
theorem chkO_29:chkO 512 14848=true:=by kernel_rfl
theorem chkO_30:chkO 512 15360=true:=by kernel_rfl
theorem chkO_31:chkO 512 15872=true:=by kernel_rfl
theorem chkO_32:chkO 512 16384=true:=by kernel_rfl
theorem chkO_33:chkO 512 16896=true:=by kernel_rfl
theorem chkO_34:chkO 512 17408=true:=by kernel_rfl
theorem chkO_35:chkO 512 17920=true:=by kernel_rfl
theorem chkO_36:chkO 512 18432=true:=by kernel_rfl
theorem chkO_37:chkO 512 18944=true:=by kernel_rfl
theorem chkO_38:chkO 512 19456=true:=by kernel_rfl
theorem chkO_39:chkO 512 19968=true:=by kernel_rfl
theorem chkO_40:chkO 512 20480=true:=by kernel_rfl
theorem chkO_41:chkO 512 20992=true:=by kernel_rfl
theorem chkO_42:chkO 512 21504=true:=by kernel_rfl
theorem chkO_43:chkO 512 22016=true:=by kernel_rfl
theorem chkO_44:chkO 512 22528=true:=by kernel_rfl
theorem chkO_45:chkO 512 23040=true:=by kernel_rfl
theorem chkO_46:chkO 512 23552=true:=by kernel_rfl
theorem chkO_47:chkO 512 24064=true:=by kernel_rfl
theorem chkO_48:chkO 512 24576=true:=by kernel_rfl
theorem chkO_49:chkO 512 25088=true:=by kernel_rfl
theorem chkO_50:chkO 512 25600=true:=by kernel_rfl
theorem chkO_51:chkO 512 26112=true:=by kernel_rfl
theorem chkO_52:chkO 512 26624=true:=by kernel_rfl
theorem chkO_53:chkO 512 27136=true:=by kernel_rfl
theorem chkO_54:chkO 512 27648=true:=by kernel_rfl
theorem chkO_55:chkO 512 28160=true:=by kernel_rfl
theorem chkO_56:chkO 512 28672=true:=by kernel_rfl
theorem chkO_57:chkO 512 29184=true:=by kernel_rfl
theorem chkO_58:chkO 512 29696=true:=by kernel_rfl
theorem chkO_59:chkO 512 30208=true:=by kernel_rfl
theorem chkO_60:chkO 512 30720=true:=by kernel_rfl
theorem chkO_61:chkO 512 31232=true:=by kernel_rfl
theorem chkO_62:chkO 512 31744=true:=by kernel_rfl
theorem chkO_63:chkO 512 32256=true:=by kernel_rfl
theorem ones_pop {x:Nat} (h:x < 32768):ones x=popN x:=by
 have hc:x / 512=0∨x / 512=1∨x / 512=2∨x / 512=3∨x / 512=4∨x / 512=5∨x / 512=6∨x / 512=7∨x / 512=8∨x / 512=9∨x / 512=10∨x / 512=11∨x / 512=12∨x / 512=13∨x / 512=14∨x / 512=15∨x / 512=16∨x / 512=17∨x / 512=18∨x / 512=19∨x / 512=20∨x / 512=21∨x / 512=22∨x / 512=23∨x / 512=24∨x / 512=25∨x / 512=26∨x / 512=27∨x / 512=28∨x / 512=29∨x / 512=30∨x / 512=31∨x / 512=32∨x / 512=33∨x / 512=34∨x / 512=35∨x / 512=36∨x / 512=37∨x / 512=38∨x / 512=39∨x / 512=40∨x / 512=41∨x / 512=42∨x / 512=43∨x / 512=44∨x / 512=45∨x / 512=46∨x / 512=47∨x / 512=48∨x / 512=49∨x / 512=50∨x / 512=51∨x / 512=52∨x / 512=53∨x / 512=54∨x / 512=55∨x / 512=56∨x / 512=57∨x / 512=58∨x / 512=59∨x / 512=60∨x / 512=61∨x / 512=62∨x / 512=63:=by omega
 rcases hc with h0 | h0 | h0 | h0 | h0 | h0 | h0 | h0 | h0 | h0 | h0 | h0 | h0 | h0 | h0 | h0 | h0 | h0 | h0 | h0 | h0 | h0 | h0 | h0 | h0 | h0 | h0 | h0 | h0 | h0 | h0 | h0 | h0 | h0 | h0 | h0 | h0 | h0 | h0 | h0 | h0 | h0 | h0 | h0 | h0 | h0 | h0 | h0 | h0 | h0 | h0 | h0 | h0 | h0 | h0 | h0 | h0 | h0 | h0 | h0 | h0 | h0 | h0 | h0
 ·exact chkO_spec 512 0 chkO_0 x (by omega) (by omega)
 ·exact chkO_spec 512 512 chkO_1 x (by omega) (by omega)
 ·exact chkO_spec 512 1024 chkO_2 x (by omega) (by omega)
 ·exact chkO_spec 512 1536 chkO_3 x (by omega) (by omega)
 ·exact chkO_spec 512 2048 chkO_4 x (by omega) (by omega)
 ·exact chkO_spec 512 2560 chkO_5 x (by omega) (by omega)
 ·exact chkO_spec 512 3072 chkO_6 x (by omega) (by omega)
 ·exact chkO_spec 512 3584 chkO_7 x (by omega) (by omega)
 ·exact chkO_spec 512 4096 chkO_8 x (by omega) (by omega)
 ·exact chkO_spec 512 4608 chkO_9 x (by omega) (by omega)
 ·exact chkO_spec 512 5120 chkO_10 x (by omega) (by omega)
 ·exact chkO_spec 512 5632 chkO_11 x (by omega) (by omega)
 ·exact chkO_spec 512 6144 chkO_12 x (by omega) (by omega)
 ·exact chkO_spec 512 6656 chkO_13 x (by omega) (by omega)
 ·exact chkO_spec 512 7168 chkO_14 x (by omega) (by omega)
 ·exact chkO_spec 512 7680 chkO_15 x (by omega) (by omega)
 ·exact chkO_spec 512 8192 chkO_16 x (by omega) (by omega)
 ·exact chkO_spec 512 8704 chkO_17 x (by omega) (by omega)
 ·exact chkO_spec 512 9216 chkO_18 x (by omega) (by omega)
 ·exact chkO_spec 512 9728 chkO_19 x (by omega) (by omega)
 ·exact chkO_spec 512 10240 chkO_20 x (by omega) (by omega)
 ·exact chkO_spec 512 10752 chkO_21 x (by omega) (by omega)
 ·exact chkO_spec 512 11264 chkO_22 x (by omega) (by omega)
 ·exact chkO_spec 512 11776 chkO_23 x (by omega) (by omega)
 ·exact chkO_spec 512 12288 chkO_24 x (by omega) (by omega)
 ·exact chkO_spec 512 12800 chkO_25 x (by omega) (by omega)
 ·exact chkO_spec 512 13312 chkO_26 x (by omega) (by omega)
 ·exact chkO_spec 512 13824 chkO_27 x (by omega) (by omega)
 ·exact chkO_spec 512 14336 chkO_28 x (by omega) (by omega)
 ·exact chkO_spec 512 14848 chkO_29 x (by omega) (by omega)
 ·exact chkO_spec 512 15360 chkO_30 x (by omega) (by omega)
 ·exact chkO_spec 512 15872 chkO_31 x (by omega) (by omega)
 ·exact chkO_spec 512 16384 chkO_32 x (by omega) (by omega)
 ·exact chkO_spec 512 16896 chkO_33 x (by omega) (by omega)
 ·exact chkO_spec 512 17408 chkO_34 x (by omega) (by omega)
 ·exact chkO_spec 512 17920 chkO_35 x (by omega) (by omega)
 ·exact chkO_spec 512 18432 chkO_36 x (by omega) (by omega)
 ·exact chkO_spec 512 18944 chkO_37 x (by omega) (by omega)
 ·exact chkO_spec 512 19456 chkO_38 x (by omega) (by omega)
 ·exact chkO_spec 512 19968 chkO_39 x (by omega) (by omega)
 ·exact chkO_spec 512 20480 chkO_40 x (by omega) (by omega)
 ·exact chkO_spec 512 20992 chkO_41 x (by omega) (by omega)
 ·exact chkO_spec 512 21504 chkO_42 x (by omega) (by omega)
 ·exact chkO_spec 512 22016 chkO_43 x (by omega) (by omega)
 ·exact chkO_spec 512 22528 chkO_44 x (by omega) (by omega)
 ·exact chkO_spec 512 23040 chkO_45 x (by omega) (by omega)
 ·exact chkO_spec 512 23552 chkO_46 x (by omega) (by omega)
 ·exact chkO_spec 512 24064 chkO_47 x (by omega) (by omega)
 ·exact chkO_spec 512 24576 chkO_48 x (by omega) (by omega)
 ·exact chkO_spec 512 25088 chkO_49 x (by omega) (by omega)
 ·exact chkO_spec 512 25600 chkO_50 x (by omega) (by omega)
 ·exact chkO_spec 512 26112 chkO_51 x (by omega) (by omega)
 ·exact chkO_spec 512 26624 chkO_52 x (by omega) (by omega)
 ·exact chkO_spec 512 27136 chkO_53 x (by omega) (by omega)
 ·exact chkO_spec 512 27648 chkO_54 x (by omega) (by omega)
 ·exact chkO_spec 512 28160 chkO_55 x (by omega) (by omega)
 ·exact chkO_spec 512 28672 chkO_56 x (by omega) (by omega)
 ·exact chkO_spec 512 29184 chkO_57 x (by omega) (by omega)
 ·exact chkO_spec 512 29696 chkO_58 x (by omega) (by omega)
 ·exact chkO_spec 512 30208 chkO_59 x (by omega) (by omega)
 ·exact chkO_spec 512 30720 chkO_60 x (by omega) (by omega)
 ·exact chkO_spec 512 31232 chkO_61 x (by omega) (by omega)
 ·exact chkO_spec 512 31744 chkO_62 x (by omega) (by omega)
 ·exact chkO_spec 512 32256 chkO_63 x (by omega) (by omega)
theorem pop_bits (x:Nat):popN x=cntB (fun k=>x.testBit k) 15:=by
 have h:∀ k,(if x.testBit k=true then 1 else 0)=x / 2 ^ k % 2:=by
  intro k
  rw [Nat.testBit_eq_decide_div_mod_eq]
  have:=Nat.mod_two_eq_zero_or_one (x / 2 ^ k)
  rcases this with h | h <;> rw [h] <;> simp
 simp only [cntB,h]
 unfold popN
 simp
theorem ones_eq {x:Nat} (h:x < 32768):ones x=cntB (fun k=>x.testBit k) 15:=(ones_pop h).trans (pop_bits x)
theorem ones_mask (f : Nat → Bool) {n : Nat} (hn : n ≤ 15) : ones (maskTo f n) = cntB f n := by
  have hlt : maskTo f n < 32768 := Nat.lt_of_lt_of_le (maskTo_lt f n) (by
    have : 2 ^ n ≤ 2 ^ 15 := Nat.pow_le_pow_right (by decide) hn
    exact this)
  rw [ones_eq hlt]
  have h1 : cntB (fun k => (maskTo f n).testBit k) 15 = cntB (fun k => decide (k < n) && f k) 15 := cntB_congr _ (fun k _ => maskTo_testBit f n k)
  rw [h1]
  have key : ∀ m, n ≤ m → cntB (fun k => decide (k < n) && f k) m = cntB f n := by
    intro m
    induction m with
    | zero => intro h; have : n = 0 := by omega
              subst this; rfl
    | succ m ih =>
      intro h
      simp only [cntB]
      by_cases e : n = m + 1
      · subst e
        rw [cntB_congr m (g := f) (fun k hk => by simp; omega)]
        simp [cntB]
      · rw [ih (by omega)]
        simp; omega
  exact key 15 hn
def pairsTo (n:Nat) (f:Nat→Nat→Bool):Nat→Nat
 | 0=>0
 | j+1=>pairsTo n f j+cntB (f j) n
theorem pairsTo_le (n:Nat) (f:Nat→Nat→Bool) (j:Nat):pairsTo n f j≤j * n:=by
 induction j with
 | zero=>exact Nat.zero_le _
 | succ j ih=>simp only [pairsTo];have:=cntB_le (f j) n;rw [Nat.add_mul];omega
end Go.Proofs.YtfbgppkdnfljhaaGreatDoor
namespace Go.Proofs.YtfbgppkdnfljhaaGreatDoor
theorem prodR_get {α:Type}:∀ {cs:List (List α)} {r:List α},r∈prodR cs→∀ {i:Nat} {y:α},r[i]? = some y→∃ c,cs[i]? = some c∧y∈c:=by
 intro cs
 induction cs with
 | nil=>intro r hr i y hy;simp [prodR] at hr;subst hr;simp at hy
 | cons c cs ih =>
  intro r hr i y hy
  simp only [prodR,List.mem_flatMap,List.mem_map] at hr
  obtain ⟨z,hz,q,hq,rfl⟩:=hr
  cases i with
  | zero=>simp at hy;subst hy;exact ⟨c,rfl,hz⟩
  | succ i=>exact ih hq (by simpa using hy)
theorem permsL_perm:∀ (n:Nat) (xs:List Int),xs.length=n→∀ r∈permsL xs,r.Perm xs:=by
 intro n
 induction n with
 | zero =>
  intro xs hx r hr
  obtain rfl:xs=[]:=List.length_eq_zero_iff.1 hx
  rw [permsL_nil] at hr
  simp at hr;subst hr;exact List.Perm.refl _
 | succ n ih =>
  intro xs hx r hr
  rw [permsL_step (by omega)] at hr
  simp only [List.mem_flatMap,List.mem_range,List.mem_map] at hr
  obtain ⟨i,hi,q,hq,rfl⟩:=hr
  have h1:=ih (xs.eraseIdx i) (by rw [List.length_eraseIdx,if_pos hi,hx];rfl) q hq
  have h2:xs.getD i 0=xs[i]:=by simp [List.getD,hi]
  rw [h2]
  refine (h1.cons _).trans ?_
  have h3:xs=xs.take i++xs[i] :: xs.drop (i+1):=by rw [← List.drop_eq_getElem_cons hi,List.take_append_drop]
  rw [List.eraseIdx_eq_take_drop_succ]
  have h4:=(List.perm_middle (a:=xs[i]) (l₁:=xs.take i) (l₂:=xs.drop (i+1))).symm
  rw [← h3] at h4
  exact h4
theorem allX_ok {p:List (List Ins)} (hp:progValid p=true) {x:Xc} (h:x∈allX (evAll p)):execOk p x=true:=by
 rw [allX_eq] at h
 simp only [List.mem_flatMap,List.mem_map] at h
 obtain ⟨f,hf,o,ho,rfl⟩:=h
 have hfl:f.length=(evAll p).length:=by rw [prodR_row _ f hf];simp [chsF]
 have hol:o.length=3:=by rw [prodR_row _ o ho];simp [chsO]
 unfold execOk
 simp only [Bool.and_eq_true,decide_eq_true_eq]
 refine ⟨hp,hfl,hol, ?_, ?_⟩
 ·unfold fromsOk
  simp only [List.all_eq_true,List.mem_range]
  intro i hi
  obtain ⟨e,he⟩:=get_of_lt (xs:=evAll p) (k:=i) hi
  obtain ⟨y,hy⟩:=get_of_lt (xs:=f) (k:=i) (by omega)
  obtain ⟨c,hc,hm⟩:=prodR_get hf hy
  rw [he,hy]
  have hc2:c=chF (evAll p) i:=by
   unfold chsF at hc
   rw [List.getElem?_map,List.getElem?_range hi] at hc
   simpa using hc.symm
  subst hc2
  unfold chF at hm
  rw [he] at hm
  simp only at hm
  unfold fromOk
  simp only
  split at hm
  ·rename_i hr
   rw [if_pos hr]
   simp only [List.mem_filter,Bool.not_eq_true',beq_eq_false_iff_ne,ne_eq] at hm
   simp only [Bool.and_eq_true,bne_iff_ne,ne_eq,List.contains_iff_mem]
   exact ⟨hm.2,hm.1⟩
  ·rename_i hr
   rw [if_neg hr]
   simpa using hm
 ·unfold ordersOk
  simp only [List.all_eq_true,List.mem_range]
  intro l hl
  obtain ⟨y,hy⟩:=get_of_lt (xs:=o) (k:=l) (by omega)
  obtain ⟨c,hc,hm⟩:=prodR_get ho hy
  rw [hy]
  have hc2:c=chO (evAll p) l:=by
   unfold chsO at hc
   rw [List.getElem?_map,List.getElem?_range hl] at hc
   simpa using hc.symm
  subst hc2
  unfold chO at hm
  obtain ⟨q,hq,rfl⟩:=List.mem_map.1 hm
  have h1:=permsL_perm _ (wrL (evAll p) l).tail rfl q hq
  have h2:=head_wrL (p:=p) hl
  unfold orderOk
  simp only [Bool.and_eq_true,decide_eq_true_eq,List.head?_cons,beq_self_eq_true,and_true]
  cases hw:wrL (evAll p) l with
  | nil=>rw [hw] at h2;simp at h2
  | cons z zs =>
   rw [hw] at h1 h2
   simp only [List.head?_cons,Option.some.injEq] at h2
   subst h2
   exact h1.cons _
theorem cntB_zero {f:Nat→Bool}:∀ n,(∀ k,k < n→f k=false)→cntB f n=0:=by
 intro n
 induction n with
 | zero=>intro _;rfl
 | succ n ih=>intro h;simp only [cntB,ih fun k hk=>h k (by omega),h n (by omega)];rfl
theorem cntB_zero' {f:Nat→Bool}:∀ n,cntB f n=0→∀ k,k < n→f k=false:=by
 intro n
 induction n with
 | zero=>intro _ k hk;omega
 | succ n ih =>
  intro h k hk
  simp only [cntB] at h
  have h1:f n=false:=by cases hf:f n with
   | false=>rfl
   | true=>rw [hf] at h;simp at h
  by_cases e:k=n
  ·rw [e];exact h1
  ·exact ih (by omega) k (by omega)
theorem pairsTo_zero {n:Nat} {f:Nat→Nat→Bool}:∀ j,(∀ i k,i < j→k < n→f i k=false)→pairsTo n f j=0:=by
 intro j
 induction j with
 | zero=>intro _;rfl
 | succ j ih=>intro h;simp only [pairsTo,ih fun i k hi hk=>h i k (by omega) hk,cntB_zero n fun k hk=>h j k (by omega) hk]
theorem pairsTo_zero' {n:Nat} {f:Nat→Nat→Bool}:∀ j,pairsTo n f j=0→∀ i k,i < j→k < n→f i k=false:=by
 intro j
 induction j with
 | zero=>intro _ i k hi;omega
 | succ j ih =>
  intro h i k hi hk
  simp only [pairsTo] at h
  by_cases e:i=j
  ·rw [e];exact cntB_zero' n (by omega) k hk
  ·exact ih (by omega) i k (by omega) hk
end Go.Proofs.YtfbgppkdnfljhaaGreatDoor
namespace Go.Proofs.YtfbgppkdnfljhaaGreatDoor
def rN (nm:ByteArray):Re:=.mk 1 nm []
def rB (o:Int) (a b:Re):Re:=.mk o ⟨#[]⟩ [a,b]
def rU (o:Int) (a:Re):Re:=.mk o ⟨#[]⟩ [a]
def rPo:Re:=rN ⟨#[112,111]⟩
def rLoc:Re:=rN ⟨#[108,111,99]⟩
def rExt:Re:=rN ⟨#[101,120,116]⟩
def rRf:Re:=rN ⟨#[114,102]⟩
def rCo:Re:=rN ⟨#[99,111]⟩
def rFr:Re:=rN ⟨#[102,114]⟩
def rFence:Re:=rN ⟨#[102,101,110,99,101]⟩
def rWr:Re:=rN ⟨#[119,114]⟩
def rWw:Re:=rN ⟨#[119,119]⟩
def rOr (a b:Re):Re:=rB 2 a b
def rAnd (a b:Re):Re:=rB 3 a b
def rMinus (a b:Re):Re:=rB 4 a b
def rComp (a b:Re):Re:=rB 5 a b
def rClo (a:Re):Re:=rU 7 a
def eUni:Re:=rOr (rOr (rOr (rAnd rPo rLoc) rRf) rCo) rFr
def eSeq:Re:=rOr (rOr (rOr rPo rRf) rCo) rFr
def eTso:Re:=rOr (rOr (rOr (rOr (rMinus rPo rWr) rFence) (rAnd rRf rExt)) rCo) rFr
def ePso:Re:=rOr (rOr (rOr (rOr (rMinus rPo (rOr rWr rWw)) rFence) (rAnd rRf rExt)) rCo) rFr
def eHb:Re:=rOr rPo rRf
def eRa:Re:=rOr (rOr (rAnd (rClo (rOr rPo rRf)) rLoc) rCo) rFr
def eFc:Re:=rComp rFr rCo
def mSeq:List Ru:=[⟨1,eSeq⟩]
def mTso:List Ru:=[⟨1,eUni⟩,⟨1,eTso⟩,⟨2,eFc⟩]
def mPso:List Ru:=[⟨1,eUni⟩,⟨1,ePso⟩,⟨2,eFc⟩]
def mRa:List Ru:=[⟨1,eHb⟩,⟨1,eRa⟩,⟨2,eFc⟩]
def mLoc:List Ru:=[⟨1,eUni⟩]
section
variable {p : List (List Ins)} {x : Xc}
theorem ev_name {d:Nat} {nm:ByteArray} {k:Nat} (h:nameId nm=k):evalD p x (d+1) (rN nm)=relN p x k:=by
 simp [evalD,rN,Re.op,Re.nm,h]
theorem ev_or {d:Nat} {a b:Re} {f g:Nat→Nat→Bool} (h:evalD p x d a=f) (h':evalD p x d b=g):evalD p x (d+1) (rOr a b)=fOr f g:=by
 simp [evalD,rOr,rB,Re.op,Re.kids,kidR,h,h']
theorem ev_and {d:Nat} {a b:Re} {f g:Nat→Nat→Bool} (h:evalD p x d a=f) (h':evalD p x d b=g):evalD p x (d+1) (rAnd a b)=fAnd f g:=by
 simp [evalD,rAnd,rB,Re.op,Re.kids,kidR,h,h']
theorem ev_minus {d:Nat} {a b:Re} {f g:Nat→Nat→Bool} (h:evalD p x d a=f) (h':evalD p x d b=g):evalD p x (d+1) (rMinus a b)=fMinus f g:=by
 simp [evalD,rMinus,rB,Re.op,Re.kids,kidR,h,h']
theorem ev_comp {d:Nat} {a b:Re} {f g:Nat→Nat→Bool} (h:evalD p x d a=f) (h':evalD p x d b=g):evalD p x (d+1) (rComp a b)=fComp (evAll p).length f g:=by
 simp [evalD,rComp,rB,Re.op,Re.kids,kidR,h,h']
theorem ev_clo {d:Nat} {a:Re} {f:Nat→Nat→Bool} (h:evalD p x d a=f):evalD p x (d+1) (rClo a)=fClo (evAll p).length f:=by
 simp [evalD,rClo,rU,Re.op,Re.kids,kidR,h]
theorem id_po:nameId ⟨#[112,111]⟩=0:=by decide +kernel
theorem id_loc:nameId ⟨#[108,111,99]⟩=1:=by decide +kernel
theorem id_ext:nameId ⟨#[101,120,116]⟩=2:=by decide +kernel
theorem id_rf:nameId ⟨#[114,102]⟩=3:=by decide +kernel
theorem id_co:nameId ⟨#[99,111]⟩=4:=by decide +kernel
theorem id_fr:nameId ⟨#[102,114]⟩=5:=by decide +kernel
theorem id_fence:nameId ⟨#[102,101,110,99,101]⟩=6:=by decide +kernel
theorem id_wr:nameId ⟨#[119,114]⟩=7:=by decide +kernel
theorem id_ww:nameId ⟨#[119,119]⟩=8:=by decide +kernel
theorem ev_uni:evalD p x 12 eUni=uniF p x:=ev_or (ev_or (ev_or (ev_and (ev_name id_po) (ev_name id_loc)) (ev_name id_rf)) (ev_name id_co)) (ev_name id_fr)
theorem ev_seq:evalD p x 12 eSeq=seqF p x:=ev_or (ev_or (ev_or (ev_name id_po) (ev_name id_rf)) (ev_name id_co)) (ev_name id_fr)
theorem ev_tso:evalD p x 12 eTso=tsoF p x:=ev_or (ev_or (ev_or (ev_or (ev_minus (ev_name id_po) (ev_name id_wr)) (ev_name id_fence)) (ev_and (ev_name id_rf) (ev_name id_ext))) (ev_name id_co)) (ev_name id_fr)
theorem ev_pso:evalD p x 12 ePso=psoF p x:=ev_or (ev_or (ev_or (ev_or (ev_minus (ev_name id_po) (ev_or (ev_name id_wr) (ev_name id_ww))) (ev_name id_fence)) (ev_and (ev_name id_rf) (ev_name id_ext))) (ev_name id_co)) (ev_name id_fr)
theorem ev_hb:evalD p x 12 eHb=hbF p x:=ev_or (ev_name id_po) (ev_name id_rf)
theorem ev_ra:evalD p x 12 eRa=raF p x:=ev_or (ev_or (ev_and (ev_clo (ev_or (ev_name id_po) (ev_name id_rf))) (ev_name id_loc)) (ev_name id_co)) (ev_name id_fr)
theorem ev_fc:evalD p x 12 eFc=fcF p x:=ev_comp (ev_name id_fr) (ev_name id_co)
theorem allow_seq:allowB p mSeq x=(valsOk p x.fr&&acyB (evAll p).length (seqF p x)):=by
 simp [allowB,mSeq,ruleB,holdsB,ev_seq]
theorem allow_tso:allowB p mTso x=(valsOk p x.fr&&(acyB (evAll p).length (uniF p x)&&(acyB (evAll p).length (tsoF p x)&&irrB (evAll p).length (fcF p x)))):=by
 simp [allowB,mTso,ruleB,holdsB,ev_uni,ev_tso,ev_fc]
theorem allow_pso:allowB p mPso x=(valsOk p x.fr&&(acyB (evAll p).length (uniF p x)&&(acyB (evAll p).length (psoF p x)&&irrB (evAll p).length (fcF p x)))):=by
 simp [allowB,mPso,ruleB,holdsB,ev_uni,ev_pso,ev_fc]
theorem allow_ra:allowB p mRa x=(valsOk p x.fr&&(acyB (evAll p).length (hbF p x)&&(acyB (evAll p).length (raF p x)&&irrB (evAll p).length (fcF p x)))):=by
 simp [allowB,mRa,ruleB,holdsB,ev_hb,ev_ra,ev_fc]
theorem allow_loc:allowB p mLoc x=(valsOk p x.fr&&acyB (evAll p).length (uniF p x)):=by
 simp [allowB,mLoc,ruleB,holdsB,ev_uni]
theorem ev_rw (hp:progValid p=true) (i:Nat) (a:Ev) (h:(evAll p)[i]? = some a) (hw:a.w=false):a.r=true:=by
 rcases mem_evAll (List.mem_of_getElem? h) with h1 | ⟨t,k,r,y,h1,h2,rfl,h4⟩
 ·have hm:=List.mem_of_getElem? h
  unfold evAll at hm
  rcases List.mem_append.1 hm with hm | hm
  ·simp only [evHead,List.mem_map,List.mem_range] at hm
   obtain ⟨l,hl,rfl⟩:=hm
   cases hw
  ·have:=(mem_evToL hm).1;omega
 ·have hv:insValid y=true:=by
   unfold progValid shapeOk at hp
   simp only [Bool.and_eq_true,List.all_eq_true] at hp
   have h5:=hp.1.1.1.2 r (List.mem_of_getElem? h1)
   unfold rowOk at h5
   simp only [Bool.and_eq_true,List.all_eq_true] at h5
   exact h5.1 y (List.mem_of_getElem? h2)
  have ho:y.op=1∨y.op=2∨y.op=3∨y.op=4∨y.op=5:=by
   unfold insValid at hv
   split at hv
   ·omega
   ·split at hv
    ·omega
    ·split at hv
     ·omega
     ·cases hv
  simp only at hw ⊢
  rcases ho with e | e | e | e | e
  ·rw [e];rfl
  ·rw [e] at hw;cases hw
  ·rw [e] at hw;cases hw
  ·exact absurd e h4
  ·rw [e];rfl
theorem allow_seq_tso (h:allowB p mSeq x=true):allowB p mTso x=true:=by
 rw [allow_seq] at h;rw [allow_tso]
 simp only [Bool.and_eq_true] at h ⊢
 exact ⟨h.1,seq_tso h.2⟩
theorem allow_tso_pso (h:allowB p mTso x=true):allowB p mPso x=true:=by
 rw [allow_tso] at h;rw [allow_pso]
 simp only [Bool.and_eq_true] at h ⊢
 exact ⟨h.1,h.2.1,tso_pso h.2.2.1,h.2.2.2⟩
theorem allow_pso_loc (h:allowB p mPso x=true):allowB p mLoc x=true:=by
 rw [allow_pso] at h;rw [allow_loc]
 simp only [Bool.and_eq_true] at h ⊢
 exact ⟨h.1,h.2.1⟩
theorem allow_tso_ra (hX:execOk p x=true) (h:allowB p mTso x=true):allowB p mRa x=true:=by
 have hp:progValid p=true:=by unfold execOk at hX;simp only [Bool.and_eq_true] at hX;exact hX.1
 rw [allow_tso] at h;rw [allow_ra]
 simp only [Bool.and_eq_true] at h ⊢
 have C:=cand_of hX
 exact ⟨h.1,tso_hb C h.2.1 h.2.2.1,tso_ra C (ev_rw hp) h.2.1 h.2.2.1 h.2.2.2,h.2.2.2⟩
theorem allow_ra_loc (hX:execOk p x=true) (h:allowB p mRa x=true):allowB p mLoc x=true:=by
 rw [allow_ra] at h;rw [allow_loc]
 simp only [Bool.and_eq_true] at h ⊢
 exact ⟨h.1,ra_loc (cand_of hX) h.2.2.1⟩
end
theorem filter_len {α:Type} {f g:α→Bool} {xs:List α} (h:∀ x∈xs,f x=true→g x=true):(xs.filter f).length≤(xs.filter g).length:=by
 induction xs with
 | nil=>simp
 | cons y ys ih =>
  have h1:=ih (fun x hx=>h x (by simp [hx]))
  have h2:=h y (by simp)
  simp only [List.filter_cons]
  cases hf:f y with
  | true=>rw [if_pos rfl,if_pos (h2 hf)];simp only [List.length_cons];omega
  | false =>
   simp only [Bool.false_eq_true,if_false]
   split
   ·simp only [List.length_cons];omega
   ·exact h1
theorem order_models {p:List (List Ins)} (hp:progValid p=true):(allowL p mSeq).length≤(allowL p mTso).length∧(allowL p mTso).length≤(allowL p mPso).length∧(allowL p mTso).length≤(allowL p mRa).length∧(allowL p mPso).length≤(allowL p mLoc).length∧(allowL p mRa).length≤(allowL p mLoc).length:=
 ⟨filter_len fun _ _ h=>allow_seq_tso h,filter_len fun _ _ h=>allow_tso_pso h,filter_len fun _ hx h=>allow_tso_ra (allX_ok hp hx) h,filter_len fun _ _ h=>allow_pso_loc h,filter_len fun _ hx h=>allow_ra_loc (allX_ok hp hx) h⟩
section
variable {p : List (List Ins)} {x : Xc}
end
end Go.Proofs.YtfbgppkdnfljhaaGreatDoor
namespace Go.Proofs.YtfbgppkdnfljhaaGreatDoor
def zR:Re:=.mk 0 ⟨#[]⟩ []
def isAt (s:ByteArray) (i:Int) (k:UInt8):Bool:=decide (0≤i)&&(s.data.toList[i.toNat]? == some k)
def lvlR (o:Int):Int:=if o=2 then 3 else if o=3 then 2 else if o=4 then 2 else if o=5 then 1 else 0
def sgnR (o:Int):ByteArray:=if o=2 then ⟨#[124]⟩ else if o=3 then ⟨#[38]⟩ else if o=4 then ⟨#[45]⟩ else if o=5 then ⟨#[59]⟩ else if o=6 then ⟨#[126]⟩ else if o=7 then ⟨#[43]⟩ else ⟨#[]⟩
def sgB (o:Int):UInt8:=if o=2 then 124 else if o=3 then 38 else if o=4 then 45 else 59
def hitO (s:ByteArray) (i lv o:Int):Bool:=(lvlR o==lv)&&isAt s i (sgB o)
def opAt (s:ByteArray) (i lv:Int):Int:=if hitO s i lv 2=true then 2 else if hitO s i lv 3=true then 3 else if hitO s i lv 4=true then 4 else if hitO s i lv 5=true then 5 else 0
def isLow (c:UInt8):Bool:=decide ((97:Nat)≤c.toNat)&&decide (c.toNat≤122)
def endL (l:List UInt8):Nat→Nat→Nat
 | 0,i=>i
 | f+1,i=>match l[i]? with
  | some c=>if isLow c=true then endL l f (i+1) else i
  | none=>i
inductive PM where
 | prime (i d:Int)
 | parse (i d lv:Int)
 | loop (d lv:Int) (l:Re) (n:Int)
def pR (s:ByteArray):Nat→PM→Option (Re × Int)
 | 0,_=>none
 | f+1, .prime i d =>
  if d < 1∨i < 0∨(s.size:Int)≤i then some (zR, -1)
  else if isAt s i 40=true then
   match pR s f (.parse (i+1) d 3) with
   | none=>none
   | some (e,n)=>if isAt s n 41=true then some (e,n+1) else some (zR, -1)
  else if isAt s i 126=true then
   match pR s f (.prime (i+1) (d - 1)) with
   | none=>none
   | some (e,n)=>some (.mk 6 ⟨#[]⟩ [e],n)
  else if isAt s i 43=true then
   match pR s f (.prime (i+1) (d - 1)) with
   | none=>none
   | some (e,n)=>some (.mk 7 ⟨#[]⟩ [e],n)
  else if endL s.data.toList s.size i.toNat=i.toNat then some (zR, -1)
  else some (.mk 1 (s.extract i.toNat (endL s.data.toList s.size i.toNat)) [],(endL s.data.toList s.size i.toNat:Nat))
 | f+1, .parse i d lv =>
  if lv=0 then pR s f (.prime i d)
  else match pR s f (.parse i d (lv - 1)) with
   | none=>none
   | some (l,n)=>pR s f (.loop d lv l n)
 | f+1, .loop d lv l n =>
  if n < 0 then some (zR, -1)
  else if opAt s n lv=0 then some (l,n)
  else match pR s f (.parse (n+1) d (lv - 1)) with
   | none=>none
   | some (r,e)=>pR s f (.loop d lv (.mk (opAt s n lv) ⟨#[]⟩ [l,r]) e)
theorem isAt_lt {s:ByteArray} {i:Int} {k:UInt8} (h:isAt s i k=true):0≤i∧i < s.size:=by
 unfold isAt at h
 rw [Bool.and_eq_true,decide_eq_true_eq,beq_iff_eq] at h
 obtain ⟨h0,h1⟩:=h
 have h2:=(List.getElem?_eq_some_iff.1 h1).1
 have h3:s.data.toList.length=s.size:=by simp
 omega
theorem endL_bd (l:List UInt8):∀ f i,i≤l.length→i≤endL l f i∧endL l f i≤l.length:=by
 intro f
 induction f with
 | zero=>intro i h;exact ⟨Nat.le_refl _,h⟩
 | succ f ih =>
  intro i h
  unfold endL
  cases hc:l[i]? with
  | none=>exact ⟨Nat.le_refl _,h⟩
  | some c =>
   have hlt:=(List.getElem?_eq_some_iff.1 hc).1
   simp only
   split
   ·have:=ih (i+1) (by omega);omega
   ·exact ⟨Nat.le_refl _,h⟩
def PM.bd (s:ByteArray) (r:Re × Int):PM→Prop
 | .prime i _=>r.2 = -1∨(0≤i∧i < r.2∧r.2≤s.size)
 | .parse i _ _=>r.2 = -1∨(0≤i∧i < r.2∧r.2≤s.size)
 | .loop _ _ _ n=>n≤s.size→(r.2 = -1∨(0≤n∧n≤r.2∧r.2≤s.size))
theorem pR_bd (s:ByteArray):∀ f m r,pR s f m=some r→m.bd s r:=by
 intro f
 induction f with
 | zero=>intro m r h;simp [pR] at h
 | succ f ih =>
  intro m r h
  cases m with
  | prime i d =>
   unfold pR at h
   show r.2 = -1∨_
   split at h
   ·simp only [Option.some.injEq] at h;subst h;exact .inl rfl
   ·rename_i hn
    have hi:0≤i∧i < s.size:=by omega
    split at h
    ·split at h
     ·cases h
     ·rename_i e n hp
      have h1:n = -1∨(0≤i+1∧i+1 < n∧n≤s.size):=ih _ _ hp
      split at h
      ·rename_i ha
       have h2:=isAt_lt ha
       simp only [Option.some.injEq] at h;subst h
       simp only
       omega
      ·simp only [Option.some.injEq] at h;subst h;exact .inl rfl
    ·split at h
     ·split at h
      ·cases h
      ·rename_i e n hp
       have h1:n = -1∨(0≤i+1∧i+1 < n∧n≤s.size):=ih _ _ hp
       simp only [Option.some.injEq] at h;subst h
       simp only
       omega
     ·split at h
      ·split at h
       ·cases h
       ·rename_i e n hp
        have h1:n = -1∨(0≤i+1∧i+1 < n∧n≤s.size):=ih _ _ hp
        simp only [Option.some.injEq] at h;subst h
        simp only
        omega
      ·split at h
       ·simp only [Option.some.injEq] at h;subst h;exact .inl rfl
       ·rename_i hne
        simp only [Option.some.injEq] at h;subst h
        simp only
        have h3:s.data.toList.length=s.size:=by simp
        have:=endL_bd s.data.toList s.size i.toNat (by omega)
        omega
  | parse i d lv =>
   unfold pR at h
   show r.2 = -1∨_
   split at h
   ·exact ih _ _ h
   ·split at h
    ·cases h
    ·rename_i l n hp
     have h1:n = -1∨(0≤i∧i < n∧n≤s.size):=ih _ _ hp
     have h2:n≤s.size→(r.2 = -1∨(0≤n∧n≤r.2∧r.2≤s.size)):=ih _ _ h
     omega
  | loop d lv l n =>
   unfold pR at h
   show n≤s.size→_
   intro hns
   split at h
   ·simp only [Option.some.injEq] at h;subst h;exact .inl rfl
   ·split at h
    ·simp only [Option.some.injEq] at h;subst h
     simp only
     omega
    ·split at h
     ·cases h
     ·rename_i q e hp
      have h1:e = -1∨(0≤n+1∧n+1 < e∧e≤s.size):=ih _ _ hp
      have h2:e≤s.size→(r.2 = -1∨(0≤e∧e≤r.2∧r.2≤s.size)):=ih _ _ h
      omega
def textR:Nat→Re→ByteArray
 | 0,_=>⟨#[]⟩
 | d+1,c =>
  if kidsO c.op=0 then c.nm
  else if kidsO c.op=1 then sgnR c.op++(if lvlR (kidR c 0).op > 0 then ⟨#[40]⟩++textR d (kidR c 0)++⟨#[41]⟩ else textR d (kidR c 0))
  else (if lvlR (kidR c 0).op > lvlR c.op then ⟨#[40]⟩++textR d (kidR c 0)++⟨#[41]⟩ else textR d (kidR c 0))++sgnR c.op++(if lvlR (kidR c 1).op > lvlR c.op - 1 then ⟨#[40]⟩++textR d (kidR c 1)++⟨#[41]⟩ else textR d (kidR c 1))
def wordR (k:Int):ByteArray:=if k=1 then ⟨#[97,99,121,99,108,105,99]⟩ else if k=2 then ⟨#[105,114,114,101,102]⟩ else if k=3 then ⟨#[101,109,112,116,121]⟩ else ⟨#[]⟩
def modelTo (m:List Ru):Nat→ByteArray
 | 0=>⟨#[]⟩
 | k+1=>match m[k]? with
  | none=>modelTo m k
  | some r=>(if 0 < k then modelTo m k++⟨#[47]⟩ else modelTo m k)++wordR r.kind++⟨#[32]⟩++textR 12 r.e
def txSeq:ByteArray:=⟨#[97,99,121,99,108,105,99,32,112,111,124,114,102,124,99,111,124,102,114]⟩
end Go.Proofs.YtfbgppkdnfljhaaGreatDoor
namespace Go.Proofs.YtfbgppkdnfljhaaGreatDoor
open Go.RowKit
theorem OwnFU.grown_ne {α β γ:Type} {E:El α} {F:El γ} {T:TypeId} {R:Dd→Dd→Prop} {φ:Dd→World→α→β→Prop} {us:List α} {ds:List Dd} {w w':World} {base base':Nat} {v v':Value} {xs:List β} {ys:List γ} (h:OwnFU E T R φ us ds w base v xs)
 (ho:Own F T w base' v' ys) (hg:w.grownBy w' v'.ownBlock) (hne:v.ownBlock=none∨v.ownBlock≠v'.ownBlock):OwnFU E T R φ us ds w' base v xs:=
 ⟨h.lu,h.ld,h.pw,h.own.grown hg hne,fun i u d x h1 h2 h3=>⟨(h.rows i u d x h1 h2 h3).1,(h.rows i u d x h1 h2 h3).2.grown ho hg⟩⟩
theorem OwnF.grown_ne {α β γ:Type} {E:El α} {F:El γ} {T:TypeId} {R:Dd→Dd→Prop} {φ:Dd→World→α→β→Prop} {w w':World} {base base':Nat} {v v':Value} {xs:List β} {ys:List γ} (h:OwnF E T R φ w base v xs)
 (ho:Own F T w base' v' ys) (hg:w.grownBy w' v'.ownBlock) (hne:v.ownBlock=none∨v.ownBlock≠v'.ownBlock):OwnF E T R φ w' base v xs:=by
 obtain ⟨us,ds,h⟩:=h
 exact ⟨us,ds,h.grown_ne ho hg hne⟩
theorem step_appL {α:Type} (E:El α) {P:Program} {w:World} {ops:Array Oper} {o:Oper} {a:Act} {K:Act→World→Prop} {Q:Exit→Act→World→Prop} {F:Prop}
 (T:TypeId) {zv:Value} {bytes:Nat} (hinfo:(P.info? T).map (fun i=>(i.zero,i.size,i.bytes))=some (some zv,E.sz,bytes)) (hz:zv.cells.size=E.sz) {t:TypeId} (h1:P.underlying t=some (.slice T))
 (base:Nat) (v:Value) (xs:List α) (x:α) (hown:Own E T w base v xs) (hby:bytes≤256) (hn:xs.length≤68719476736) (hbase:base≤w.heap.size)
 (hg:o.guard=none) (s y:Operand) (hop:o.op = .call { callee:=.builtin .append,args:=#[s,y],argTypes:=#[t,t] })
 (hs:a.eval s=v) (b off c:Nat) (hy:a.eval y = .slice (some ⟨b,off,none⟩) 1 c) (hnews:∀ j u,(E.c x)[j]? = some u→w.cell? ⟨b,off+j,none⟩=some u)
 (hK:∀ v' w',Own E T w' base v' (xs++[x])→w.grownBy w' v.ownBlock→(v'.ownBlock=v.ownBlock∨v'.ownBlock=some w.heap.size)→K (a.put o.dst v') w') :
 if Region.wanted o (yielded ops a.tmps)=true then Oper.wp P o a w K Q else F:=by
 obtain ⟨it,hi,hz0,hz1,hz2⟩:=info_parts hinfo
 refine step_append_lies w hg s y t hop base T it zv E.sz bytes h1 hi hz0 hz1 hz2 hz E.pos v xs.length _ hs hown ⟨b,off,none⟩ 1 c (E.c x) hy (by rw [E.len,Nat.one_mul]) ?_ (E.one x) (by omega) (by unfold maxLen;omega) ?_ hbase _ rfl ?_
 ·intro j u hu
  have hadd:(⟨b,off,none⟩:Addr).add j=⟨b,off+j,none⟩:=by unfold Addr.add;split <;> simp_all
  rw [hadd]
  exact hnews j u hu
 ·have:=Nat.mul_le_mul (show xs.length+1≤68719476737 by omega) hby
  omega
 ·intro g cap w' h2 h3 h4 _
  refine hK _ w' ?_ h3 ?_
  ·unfold Own
   simpa [List.flatMap_append] using h2
  ·rcases h4 with h4 | h4
   ·exact .inl (by rw [h4];rfl)
   ·exact .inr (by rw [h4];rfl)
theorem Rep.takeI {w:World} {a:Option Addr} {n c:Nat} {xs:List Int} (h:Rep IntE w (.slice a n c) xs) {k:Nat} (hk:k≤xs.length):Rep IntE w (.slice a k c) (xs.take k):=by
 obtain ⟨a',c',hv,h1,h2,h3⟩:=h
 simp only [Value.slice.injEq] at hv
 obtain ⟨rfl,rfl,rfl⟩:=hv
 refine ⟨a,c,by rw [List.length_take,Nat.min_eq_left hk],by rw [List.length_take];omega,h2,fun i x hx => ?_⟩
 rw [List.getElem?_take] at hx
 split at hx
 ·exact h3 i x hx
 ·cases hx
theorem Rep.dropI {w:World} {b o n c:Nat} {xs:List Int} (h:Rep IntE w (.slice (some ⟨b,o,none⟩) n c) xs) {k:Nat} (hk:k≤xs.length):Rep IntE w (.slice (some ⟨b,o+k,none⟩) (n - k) (c - k)) (xs.drop k):=by
 obtain ⟨a',c',hv,h1,h2,h3⟩:=h
 simp only [Value.slice.injEq] at hv
 obtain ⟨rfl,rfl,rfl⟩:=hv
 refine ⟨some ⟨b,o+k,none⟩,c - k,by rw [List.length_drop],by rw [List.length_drop];omega,by omega,fun i x hx => ?_⟩
 rw [List.getElem?_drop] at hx
 obtain ⟨b',o',hb,h4⟩:=h3 (k+i) x hx
 simp only [Option.some.injEq,Addr.mk.injEq,and_true] at hb
 obtain ⟨rfl,rfl⟩:=hb
 refine ⟨b,o+k,rfl,fun j u hu => ?_⟩
 have h5:=h4 j u hu
 rw [show o+k+i * IntE.sz+j=o+(k+i) * IntE.sz+j by simp only [IntE];omega]
 exact h5
theorem Rep.dropV {w:World} {b o n c:Nat} {xs:List Int} (h:Rep IntE w (.slice (some ⟨b,o,none⟩) n c) xs) {k:Nat} (hk:k≤xs.length):Rep IntE w (.slice (if c=k then some ⟨b,o,none⟩ else some ⟨b,o+k,none⟩) (n - k) (c - k)) (xs.drop k):=by
 split
 ·rename_i hc
  obtain ⟨a',c',hv,h1,h2,h3⟩:=h
  simp only [Value.slice.injEq] at hv
  obtain ⟨rfl,rfl,rfl⟩:=hv
  refine ⟨_,_,by rw [List.length_drop],by rw [List.length_drop];omega,by omega,fun i x hx => ?_⟩
  rw [List.getElem?_eq_none (by rw [List.length_drop];omega)] at hx
  cases hx
 ·exact h.dropI hk
def permTo (xs:List Int) (k:Nat):List (List Int):=(List.range k).flatMap fun i=>(permsL (xs.eraseIdx i)).map (xs.getD i 0 :: ·)
theorem permTo_succ (xs:List Int) (k:Nat):permTo xs (k+1)=permTo xs k++(permsL (xs.eraseIdx k)).map (xs.getD k 0 :: ·):=by
 unfold permTo
 rw [List.range_succ,List.flatMap_append]
 simp
theorem permTo_length (xs:List Int) (k:Nat) (hk:k≤xs.length):(permTo xs k).length≤fact xs.length:=by
 have h:=permsL_length xs
 by_cases h0:xs.length=0
 ·have:k=0:=by omega
  subst this
  simp [permTo]
 ·have h1:=flatMap_length_le (fun i=>(permsL (xs.eraseIdx i)).map (xs.getD i 0 :: ·)) (fact (xs.length - 1)) (List.range k) (fun i hi=>by
   rw [List.mem_range] at hi
   rw [List.length_map]
   refine Nat.le_trans (permsL_length _) ?_
   rw [List.length_eraseIdx,if_pos (by omega)]
   exact Nat.le_refl _)
  rw [List.length_range] at h1
  obtain ⟨m,hm⟩:∃ m,xs.length=m+1:=⟨xs.length - 1,by omega⟩
  rw [hm] at h1 ⊢
  rw [fact,Nat.mul_comm]
  exact Nat.le_trans h1 (Nat.mul_le_mul_right _ (by omega))
theorem permsL_row:∀ (n:Nat) (xs:List Int),xs.length=n→∀ r∈permsL xs,r.length=n:=by
 intro n
 induction n with
 | zero =>
  intro xs hx r hr
  have:xs=[]:=List.length_eq_zero_iff.1 hx
  subst this
  rw [permsL_nil] at hr;simp at hr;subst hr;rfl
 | succ n ih =>
  intro xs hx r hr
  rw [permsL_step (by omega),List.mem_flatMap] at hr
  obtain ⟨k,hk1,hk⟩:=hr
  rw [List.mem_range] at hk1
  rw [List.mem_map] at hk
  obtain ⟨y,hy,rfl⟩:=hk
  rw [List.length_cons,ih _ (by rw [List.length_eraseIdx,if_pos hk1,hx];rfl) y hy]
theorem fact_mono {m n:Nat} (h:m≤n):fact m≤fact n:=by
 obtain ⟨k,h1,h2⟩:=fact_mul h
 rw [h2];exact Nat.le_mul_of_pos_right _ h1
theorem fact_lt {n:Nat} (h:fact n≤3000):n≤6:=by
 rcases Nat.lt_or_ge 6 n with h1 | h1
 ·have:=fact_mono h1
  have e:fact (Nat.succ 6)=5040:=by decide
  omega
 ·exact h1
theorem l6Perms_any (n:Nat):∀ (v:Value) (xs:List Int) (w:World),xs.length=n→fact n≤3000→Rep IntE w v xs →
 Calls Tryz.prog 190 #[v] w fun e w' => ∃ u:Slc,e = .returned (.slice u.a u.n u.cap)∧RowsI w' w.heap.size u.v (permsL xs)∧Below w.heap.size w w':=by
 induction n with
 | zero =>
  intro v xs w hx _ he
  obtain rfl:xs=[]:=List.length_eq_zero_iff.1 hx
  obtain ⟨a,c,rfl, -, -, -, -⟩:=he.open
  rw [permsL_nil]
  go_enter Tryz.func190,Tryz.ntmps190
  go_wp2_with fail
  go_ret
  have hb1:=(Below.refl w.heap.size w).alloc (Nat.le_refl _) (.cells #[] 3)
  have h0:=Own.empty (E:=IntE) 3 w (Nat.le_refl _)
  have hz:(w.alloc (.cells #[] 3)).heap.size=w.heap.size+1:=by simp
  have h1:=Own.lit1 (E:=SlcE) (T:=57) (w.alloc (.cells #[] 3)) (base:=w.heap.size) (by omega) ⟨some ⟨w.heap.size,0,none⟩,0,0⟩
  refine ⟨⟨some ⟨w.heap.size+1,0,none⟩,1,1⟩,rfl,⟨[⟨some ⟨w.heap.size,0,none⟩,0,0⟩],[⟨w.heap.size,w.heap.size+1,[]⟩],rfl,rfl,by simp,by rw [hz] at h1;exact h1,fun i u d x h2 h3 h4 => ?_⟩,hb1.alloc (by omega) _⟩
  cases i with
  | succ i=>simp at h2
  | zero =>
   simp at h2 h3 h4
   subst h2;subst h3;subst h4
   refine ⟨Nat.le_refl _, ?_⟩
   have h5:=(PhiI.loc (u:=⟨some ⟨w.heap.size,0,none⟩,0,0⟩) h0).below ((Below.refl _ (w.alloc (.cells #[] 3))).alloc (Nat.le_refl _) (.cells (SlcE.c ⟨some ⟨w.heap.size,0,none⟩,0,0⟩).toArray 57))
   rw [hz] at h5
   exact h5
 | succ n ih =>
  intro v xs w hx hfact he
  have hn6:=fact_lt hfact
  have HI:=hide (fun v ys w' h h'=>ih v ys w' h (Nat.le_trans (fact_mono (Nat.le_succ n)) hfact) h')
  have HPS:=hide (permTo_succ xs)
  have HPL:=hide (fun k (hk:k≤n+1)=>Nat.le_trans (permTo_length xs k (by omega)) (by rw [hx];exact hfact))
  have HP0:Hid (permTo xs 0=[]):=hide rfl
  have HPE:Hid (permsL xs=permTo xs (n+1)):=hide (by rw [permsL_step (by omega),hx];rfl)
  have HE:=hide he
  have HXL:=hide hx
  obtain ⟨a,c,rfl,hnc, -, -, -⟩:=he.open
  obtain ⟨x0,hx0⟩:=get_of_lt (xs:=xs) (k:=0) (by omega)
  obtain ⟨b,o,rfl,hbl, -⟩:=he.int hx0
  rw [hx] at hnc ⊢
  have hne:(((n+1:Nat):Int)==0)=false:=by simp;omega
  rw [hx] at HE
  have HFA:Hid (fact (n+1)≤3000):=hide hfact
  clear he ih hx hx0 hfact
  generalize permsL xs=R at *
  generalize hm:n+1=m at *
  have HM:=hide hm
  clear hm
  go_enter Tryz.func190,Tryz.ntmps190
  go_wp2_with fail
  go_loopw [3,4] (fun s i wr => ∃ k:Nat,k≤m∧i = .int .i64 k∧RowsI wr w.heap.size s (permTo xs k)∧Below w.heap.size w wr) (fun _ i _=>m - (intOf i).toNat)
  case atStart=>exact ⟨0,Nat.zero_le _,rfl,by rw [HP0.out];exact OwnF.empty _ w (Nat.le_refl _),(Below.refl _ _).alloc (Nat.le_refl _) _⟩
  case round =>
   obtain ⟨k,hk,rfl,hrows,hbr⟩:=hrel
   by_cases hlt:k < m
   ·obtain ⟨x,hxk⟩:=get_of_lt (xs:=xs) (k:=k) (by rw [HXL.out];exact hlt)
    have hltk:=nat_of_lt hlt
    have PS:=hide (HPS.out k)
    have hgd:xs.getD k 0=x:=by simp [List.getD,hxk]
    rw [hgd] at PS
    have PL:=hide (HPL.out k hk)
    generalize permTo xs k=G at *
    have HEr:=HE.out.below hbr
    obtain ⟨b',o',hbo,hbf,f0⟩:=HEr.int hxk
    simp only [Option.some.injEq,Addr.mk.injEq,and_true] at hbo
    obtain ⟨rfl,rfl⟩:=hbo
    have hba:=(Below.refl wr.heap.size wr).alloc (Nat.le_refl _) (.cells #[] 3)
    have T1:=hide ((HEr.takeI (k:=k) (by rw [HXL.out];exact hk)).below hba.drew)
    have T2:=hide (HEr.dropV (k:=k+1) (by rw [HXL.out];exact hlt))
    have HES:Hid (xs.take k++xs.drop (k+1)=xs.eraseIdx k):=hide (List.eraseIdx_eq_take_drop_succ xs k).symm
    have hkc:(k:Int)≤(c:Int):=by omega
    have hwk:wrap64 ((k:Int)+1)=(k:Int)+1:=by unfold wrap64;omega
    have hwk2:IntKind.i64.wrap ((k:Int)+1)=(k:Int)+1:=by rw [IntKind.wrap_i64];omega
    have hkm:(k:Int)+1≤(m:Int):=by omega
    have hk0:(0:Int)≤(k:Int)+1:=by omega
    have hmc:(m:Int)≤(c:Int):=by omega
    have hkt:((k:Int)+1).toNat=k+1:=by omega
    have OE:Hid (Own IntE 3 (wr.alloc (.cells #[] 3)).drew wr.heap.size (.slice (some ⟨wr.heap.size,0,none⟩) 0 0) []):=hide (Own.empty (E:=IntE) 3 wr (Nat.le_refl _))
    have hl1:([]:List Int).length+(xs.take k).length≤68719476736:=by rw [List.length_take];simp;omega
    have hl2:([]++xs.take k).length+(xs.drop (k+1)).length≤68719476736:=by rw [List.nil_append,List.length_take,List.length_drop];have:=HXL.out;omega
    go_upto_region 7 with fail
    go_cut [5] (fun s5 W => ∃ f:Slc,s5 = .slice f.a f.n f.cap∧Own IntE 3 W wr.heap.size f.v (xs.eraseIdx k)∧Below wr.heap.size wr W)
    case first =>
     by_cases hck:c=k+1
     ·rw [if_pos hck] at T2
      obtain rfl:m=k+1:=by omega
      subst hck
      rw [Nat.sub_self] at T2
      have hkc:(k:Int)≤(k:Int)+1:=by omega
      clear hmc
      go_region_held3 (fun V=>V.cell? ⟨b,o+k,none⟩=some (.int .i64 x)) ((simp [go_sem, *]))
       (first
        | (refine step_appS IntE 3 Tryz.infoInt rfl Tryz.underlying57 wr.heap.size _ [] (xs.take k) _ OE.out T1.out (by decide) hl1 (by simp) (by rfl) _ _ (by rfl) (by rfl) (by rfl) ?_;intro v6 w6 hown6 hgr6;obtain ⟨⟨a6,n6,c6⟩,rfl, -⟩:=hown6.toSlc;have O6:=hide hown6;have hk6:(∀ o,w6.cell? ⟨b,o,none⟩=wr.cell? ⟨b,o,none⟩):=(kept_d hgr6 hbf (fun q hq=>by simp [Value.ownBlock] at hq;omega));have B6:=hide (below_lit hgr6);have hb6:=B6.out.size;have T3:=hide (T2.out.below B6.out);clear hown6 hgr6)
        | (refine step_appS IntE 3 Tryz.infoInt rfl Tryz.underlying57 wr.heap.size _ ([]++xs.take k) (xs.drop (k+1)) _ O6.out T3.out (by decide) hl2 (by omega) (by rfl) _ _ (by rfl) (by rfl) (by rfl) ?_;intro v7 w7 hown7 hgr7;obtain ⟨⟨a7,n7,c7⟩,rfl, -⟩:=hown7.toSlc;have hk7:(∀ o,w7.cell? ⟨b,o,none⟩=wr.cell? ⟨b,o,none⟩):=(fun o=>(cell_of_block2 (hgr7.block b (Nat.lt_of_lt_of_le hbf hb6) (fun e=>by have:=(World.ownsRow.lt O6.out b e.symm).1;omega)) o).trans (hk6 o))))
      all_goals
       have O7:Hid (Own IntE 3 w7 wr.heap.size (Slc.v ⟨a7,n7,c7⟩) (xs.eraseIdx k)):=hide (by rw [← HES.out];exact hown7)
       have B7:=hide (B6.out.grown hgr7 (Nat.le_of_lt_succ (by have:=B6.out.size;omega)) (fun q hq=>(World.ownsRow.lt O6.out q hq).1))
       go_wp2_with fail
       go_meet
       exact ⟨⟨a7,n7,c7⟩,rfl,O7.out,B7.out⟩
     ·rw [if_neg hck] at T2
      go_region_held3 (fun V=>V.cell? ⟨b,o+k,none⟩=some (.int .i64 x)) ((simp [go_sem, *]))
       (first
        | (refine step_appS IntE 3 Tryz.infoInt rfl Tryz.underlying57 wr.heap.size _ [] (xs.take k) _ OE.out T1.out (by decide) hl1 (by simp) (by rfl) _ _ (by rfl) (by rfl) (by rfl) ?_;intro v6 w6 hown6 hgr6;obtain ⟨⟨a6,n6,c6⟩,rfl, -⟩:=hown6.toSlc;have O6:=hide hown6;have hk6:(∀ o,w6.cell? ⟨b,o,none⟩=wr.cell? ⟨b,o,none⟩):=(kept_d hgr6 hbf (fun q hq=>by simp [Value.ownBlock] at hq;omega));have B6:=hide (below_lit hgr6);have hb6:=B6.out.size;have T3:=hide (T2.out.below B6.out);clear hown6 hgr6)
        | (refine step_appS IntE 3 Tryz.infoInt rfl Tryz.underlying57 wr.heap.size _ ([]++xs.take k) (xs.drop (k+1)) _ O6.out T3.out (by decide) hl2 (by omega) (by rfl) _ _ (by rfl) (by rfl) (by rfl) ?_;intro v7 w7 hown7 hgr7;obtain ⟨⟨a7,n7,c7⟩,rfl, -⟩:=hown7.toSlc;have hk7:(∀ o,w7.cell? ⟨b,o,none⟩=wr.cell? ⟨b,o,none⟩):=(fun o=>(cell_of_block2 (hgr7.block b (Nat.lt_of_lt_of_le hbf hb6) (fun e=>by have:=(World.ownsRow.lt O6.out b e.symm).1;omega)) o).trans (hk6 o))))
      all_goals
       have O7:Hid (Own IntE 3 w7 wr.heap.size (Slc.v ⟨a7,n7,c7⟩) (xs.eraseIdx k)):=hide (by rw [← HES.out];exact hown7)
       have B7:=hide (B6.out.grown hgr7 (Nat.le_of_lt_succ (by have:=B6.out.size;omega)) (fun q hq=>(World.ownsRow.lt O6.out q hq).1))
       go_wp2_with fail
       go_meet
       exact ⟨⟨a7,n7,c7⟩,rfl,O7.out,B7.out⟩
    case rest =>
     obtain ⟨⟨a7,n7,c7⟩,rfl,h7,hb7⟩:=hcut
     have O7:=hide h7;have B7:=hide hb7
     clear h7 hb7
     generalize wc=w7 at *
     have HC:=hide (HI.out _ (xs.eraseIdx k) w7 (by rw [List.length_eraseIdx,HXL.out,if_pos hlt];have:=HM.out;omega) O7.out.rep)
     have HRL:=hide (fun r (hr:r∈permsL (xs.eraseIdx k))=>permsL_row n (xs.eraseIdx k) (by rw [List.length_eraseIdx,HXL.out,if_pos hlt];have:=HM.out;omega) r hr)
     have HRN0:=hide (permsL_length (xs.eraseIdx k))
     have HEL:Hid (fact (xs.eraseIdx k).length≤3000):=hide (by
      rw [List.length_eraseIdx,HXL.out,if_pos hlt]
      refine Nat.le_trans (fact_mono (Nat.sub_le m 1)) ?_
      have:=HFA.out
      exact this)
     have HB7:=hide (hbr.trans (B7.out.mono hbr.size))
     have HR7:=hide (OwnF.below hrows B7.out)
     have hq3:∀ q,u3.ownBlock=some q→q < w7.heap.size:=fun q hq=>by
      obtain ⟨us,ds,hU⟩:=hrows
      exact Nat.lt_of_lt_of_le (World.ownsRow.lt hU.own q hq).2 B7.out.size
     have HQ3:=hide hq3
     have F0:=hide ((hbr.cell (p:=⟨b,o+k,none⟩) hbl).symm.trans f0)
     clear hq3 O7 B7 T1 T2 OE HES hl1 hl2 hba f0 hrows hbr HEr hwk hwk2 hkm hk0 hmc hkt hkc hbf
     generalize permsL (xs.eraseIdx k)=RR at *
     go_wp2_with fail
     (with_reducible refine HC.out.mono ?_);rintro e w8 ⟨⟨ra,rn,rc⟩,rfl,ou,hb8⟩
     have hrn:rn=RR.length:=by
      rcases ou.shape with ⟨h1,h2⟩ | ⟨g,cap,h1, -⟩
      ·simp only [Slc.v,Value.slice.injEq] at h1;rw [h1.2.1,h2];rfl
      ·simp only [Slc.v,Value.slice.injEq] at h1;exact h1.2.1
     have HRN:Hid (RR.length=rn):=hide hrn.symm
     have hrb:rn≤3000:=by have:=HRN0.out;have:=HEL.out;omega
     have HRS:=hide ou
     have HQ8:Hid (∀ q,(Slc.v ⟨ra,rn,rc⟩).ownBlock=some q→w7.heap.size≤q∧q < w8.heap.size):=hide (fun q hq=>by
      obtain ⟨us,ds,hU⟩:=ou
      exact World.ownsRow.lt hU.own q hq)
     have HR8:=hide (OwnF.below HR7.out hb8)
     have HB8:=hide (HB7.out.trans (hb8.mono HB7.out.size))
     have h78:=hb8.size
     clear ou hb8 hrn HR7 HB7 HC
     go_wp2_with fail
     go_loopw [3,7] (fun s i wr => ∃ j:Nat,j≤rn∧i = .int .i64 j∧RowsI wr w.heap.size s (G++(RR.take j).map (x :: ·))∧RowsI wr w7.heap.size (.slice ra rn rc) RR∧Hid (∀ q,s.ownBlock=some q→q < w7.heap.size∨w8.heap.size≤q)∧Below w.heap.size w wr∧w8.heap.size≤wr.heap.size) (fun _ i _=>rn - (intOf i).toNat)
     case atStart=>exact ⟨0,Nat.zero_le _,rfl,by rw [List.take_zero,List.map_nil,List.append_nil];exact HR8.out,HRS.out,hide (fun q hq => .inl (HQ3.out q hq)),HB8.out,Nat.le_refl _⟩
     case round =>
      obtain ⟨j,hj,rfl,hrows,hrest,hsq,hbr,hsz⟩:=hrel
      by_cases hltj:j < rn
      ·obtain ⟨r,hrj⟩:=get_of_lt (xs:=RR) (k:=j) (by rw [HRN.out];exact hltj)
       have hltj':=nat_of_lt hltj
       have f0:=(hbr.cell (p:=⟨b,o+k,none⟩) hbl).trans F0.out
       have hbf:=Nat.lt_of_lt_of_le hbl hbr.size
       obtain ⟨⟨sa,sn,sc⟩,g,hga,hg,g0,hrep⟩:=RowsI.row hrest hrj
       subst hga
       have hgq:=HQ8.out g rfl
       have RS:Hid (G++(RR.take (j+1)).map (x :: ·)=(G++(RR.take j).map (x :: ·))++[x :: r]):=hide (by rw [map_take_succ (x :: ·) hrj,List.append_assoc])
       have hrl:=HRL.out r (List.mem_of_getElem? hrj)
       have hlen:(G++(RR.take j).map (x :: ·)).length≤68719476736:=by
        rw [List.length_append,List.length_map,List.length_take]
        have:=PL.out;have:=HRN.out;omega
       have hn1:([x]:List Int).length+r.length≤68719476736:=by have:=HM.out;simp;omega
       have HRP:=hide (hrep.below ((Below.refl wr.heap.size wr).alloc (Nat.le_refl _) (.cells #[.int .i64 x] 3)).drew)
       obtain ⟨us,ds,hU⟩:=hrows
       have HUL:Hid (us.length≤68719476736):=hide (by rw [hU.lu];exact hlen)
       have HU:=hide hU
       have HBR2:=hide hbr
       have HRS2:=hide hrest
       have HLT:Hid (Own IntE 3 (wr.alloc (.cells #[.int .i64 x] 3)).drew wr.heap.size (.slice (some ⟨wr.heap.size,0,none⟩) 1 1) [x]):=hide (Own.lit1 (E:=IntE) (T:=3) wr (Nat.le_refl _) x)
       have hbs:w.heap.size≤wr.heap.size:=hbr.size
       have HQ7:Hid (∀ q,u3.ownBlock=some q→w.heap.size≤q∧q≠g):=hide (fun q hq=>⟨(World.ownsRow.lt hU.own q hq).1,by have:=hsq.out q hq;omega⟩)
       generalize G++(RR.take j).map (x :: ·)=GG at *
       clear hrj hrep hbr hrl hU hlen hrest
       go_wp2_with fail
       go_region_held3 (fun V=>V.cell? ⟨b,o+k,none⟩=some (.int .i64 x)∧V.cell? ⟨g,j,none⟩=some (.slice sa sn sc)) ((simp [go_sem, *]))
        (first
         | (refine step_appS IntE 3 Tryz.infoInt rfl Tryz.underlying57 wr.heap.size _ [x] r _ HLT.out HRP.out (by decide) hn1 (by simp) (by rfl) _ _ (by rfl) (by rfl) (by rfl) ?_;intro v6 w6 hown6 hgr6;obtain ⟨⟨a6,n6,c6⟩,rfl, -⟩:=hown6.toSlc;have O6:=hide hown6;have hk6:(∀ o,w6.cell? ⟨b,o,none⟩=wr.cell? ⟨b,o,none⟩):=(kept_d hgr6 hbf (fun q hq=>by simp [Value.ownBlock] at hq;omega));have hk7:(∀ o,w6.cell? ⟨g,o,none⟩=wr.cell? ⟨g,o,none⟩):=(kept_d hgr6 hg (fun q hq=>by simp [Value.ownBlock] at hq;omega));have B6:=hide (below_lit hgr6);have hb6:=B6.out.size;have hz6:b < w6.heap.size:=(Nat.lt_of_lt_of_le hbf hb6);have hz7:g < w6.heap.size:=(Nat.lt_of_lt_of_le hg hb6);clear hown6 hgr6)
         | (refine step_appL SlcE 57 Tryz.infoIntS rfl Tryz.underlying58 w.heap.size _ us ⟨a6,n6,c6⟩ ((HU.out.own.below B6.out).alloc _) (by decide) HUL.out (by simp;omega) (by rfl) _ _ (by rfl) (by rfl) w6.heap.size 0 1 (by rfl) news_alloc ?_;intro v8 w9 hown8 hgr8 hv8;have hk8:(∀ o,w9.cell? ⟨b,o,none⟩=wr.cell? ⟨b,o,none⟩):=(fun o=>(kept_cell hgr8 (by omega) (fun q hq=>by have:=HQ7.out q hq;omega) o).trans (hk6 o));have hk9:(∀ o,w9.cell? ⟨g,o,none⟩=wr.cell? ⟨g,o,none⟩):=(fun o=>(kept_cell hgr8 (by omega) (fun q hq=>(HQ7.out q hq).2) o).trans (hk7 o))))
       have R8:=RowsI.app HU.out B6.out hbs rfl O6.out hown8 hgr8
       have B8:=(HBR2.out.trans (B6.out.mono hbs)).alloc (by omega) (.cells #[.slice a6 n6 c6] 57)
       have B9:=B8.grown hgr8 (by simp;omega) (fun q hq=>(HQ7.out q hq).1)
       have ba:=(Below.refl w6.heap.size w6).alloc (Nat.le_refl _) (.cells #[.slice a6 n6 c6] 57)
       have S9:=OwnF.grown_ne (OwnF.below (OwnF.below HRS2.out B6.out) ba) ((HU.out.own.below B6.out).below ba) hgr8 (.inr fun e=>(HQ7.out g e.symm).2 rfl)
       have hs9:=hgr8.size
       simp only [World.size_alloc] at hs9 hv8
       have hq9:∀ q,v8.ownBlock=some q→q < w7.heap.size∨w8.heap.size≤q:=fun q hq=>by
        rcases hv8 with h | h
        ·rw [h] at hq;exact hsq.out q hq
        ·rw [h] at hq;simp at hq;omega
       have HQ9:=hide hq9
       go_wp2_with fail
       go_roundw
       case rel=>exact ⟨j+1,by omega,by go_num,by rw [RS.out];exact R8,S9,HQ9,B9,by omega⟩
       case measure=>simp [intOf];omega
      ·obtain rfl:j=rn:=by omega
       rw [List.take_of_length_le (by rw [HRN.out];exact Nat.le_refl _),← PS.out] at hrows
       go_wp2_with fail
       go_roundw
       case rel=>exact ⟨k+1,by omega,by go_num,hrows,hbr⟩
       case measure=>simp [intOf];omega
   ·obtain rfl:k=m:=by omega
    obtain ⟨us,ds,hU⟩:=hrows
    obtain ⟨⟨qa,qn,qc⟩,rfl, -⟩:=hU.own.toSlc
    have hrows:RowsI _ _ _ _:=⟨us,ds,hU⟩
    clear hU
    go_wp2_with fail
    go_ret
    exact ⟨⟨qa,qn,qc⟩,rfl,by rw [HPE.out];exact hrows,hbr⟩
end Go.Proofs.YtfbgppkdnfljhaaGreatDoor
namespace Go.Proofs.YtfbgppkdnfljhaaGreatDoor
open Go.RowKit
theorem CountRel_any (v:Value) (n:Nat) (f:Nat→Nat→Bool) (w:World) (hx:Rep IntE w v (relOf n f)) (hn:n≤15) :
 Calls Tryz.prog 183 #[v] w fun e w'=>e = .returned (.int .i64 (pairsTo n f n:Nat))∧Below w.heap.size w w':=by
 have HA:=hide (RelValid_any v n f w hx (by omega))
 obtain ⟨a,c,rfl, -, -, -,hx⟩:=hx.open
 simp only [relOf_length] at *
 have HX:=hide hx
 have HS:Hid (∀ k,pairsTo n f (k+1)=pairsTo n f k+cntB (f k) n):=hide (fun k=>rfl)
 have hq0:Hid (pairsTo n f 0=0):=hide rfl
 have HL:=hide (fun k=>pairsTo_le n f k)
 have HC:=hide (fun k=>cntB_le (f k) n)
 have HO:=hide (fun k w'=>OnesCount_any (maskTo (f k) n) w' (Nat.lt_of_lt_of_le (maskTo_lt (f k) n) (Nat.pow_le_pow_right (by decide:0 < 2) hn)))
 have HM:=hide (fun k=>ones_mask (f k) hn)
 have HB:=hide (fun k=>bitsTo_mask (f k) n (by omega))
 have HT:=hide (fun k=>Nat.lt_of_lt_of_le (maskTo_lt (f k) n) (Nat.pow_le_pow_right (by decide:0 < 2) hn))
 clear hx
 generalize hG:relOf n f=G at *
 have HG:=hide hG;clear hG
 generalize hq:pairsTo n f=Q at *
 clear hq
 go_enter Tryz.func183,Tryz.ntmps183
 go_wp2_with fail
 (with_reducible refine HA.out.mono ?_);rintro e w0 ⟨rfl,hb0⟩
 have HB0:=hide hb0;clear hb0 HA
 go_wp2_with fail
 go_loopw [3,11] (fun s i wr => ∃ k:Nat,k≤n∧i = .int .i64 k∧s = .int .i64 (Q k:Nat)∧wr=w0) (fun _ i _=>n - (intOf i).toNat)
 case atStart=>exact ⟨0,Nat.zero_le _,rfl,by rw [hq0.out];rfl,rfl⟩
 case round =>
  obtain ⟨k,hk,rfl,rfl,rfl⟩:=hrel
  by_cases hlt:k < n
  ·have hlt':=nat_of_lt hlt
   obtain ⟨b,o,rfl,hbl,i0⟩:=(HX.out.below HB0.out).int (by rw [← HG.out];exact relOf_get hlt)
   rw [HB.out] at i0
   have ho:=HO.out k
   rw [HM.out] at ho
   have HO1:=hide ho
   have hm:=HT.out k
   have hs:=HS.out k
   have hl:=HL.out (k+1)
   have hc:=HC.out k
   have hm2:IntKind.u64.wrap (maskTo (f k) n:Int)=(maskTo (f k) n:Int):=by rw [IntKind.wrap_u64];omega
   have hkn:(k+1) * n≤225:=by
    have h1:(k+1) * n≤15 * 15:=Nat.mul_le_mul (by omega) hn
    omega
   have hq1:wrap64 ((Q k:Int)+(cntB (f k) n:Int))=(Q (k+1):Int):=by unfold wrap64;omega
   clear hs hl
   generalize maskTo (f k) n=m at *
   generalize cntB (f k) n=z at *
   go_wp2_with fail
   (with_reducible refine (HO1.out _).mono ?_);rintro e w2 ⟨rfl,rfl⟩
   go_wp2_with fail
   go_roundw
   case rel=>exact ⟨k+1,by omega,by go_num,by first | rw [← hq1] | simp [hq1],by first | exact rfl | trivial⟩
   case measure=>simp [intOf];omega
  ·go_wp2_with fail
   go_ret
   obtain rfl:k=n:=by omega
   exact ⟨rfl,HB0.out⟩
end Go.Proofs.YtfbgppkdnfljhaaGreatDoor