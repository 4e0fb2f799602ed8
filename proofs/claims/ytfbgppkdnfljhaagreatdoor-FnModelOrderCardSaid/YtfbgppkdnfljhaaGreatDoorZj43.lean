/-
  The program's parser of expressions: what one expression of level 0 gives. Condition: a bound on the text.
-/
import Derived.Test.YtfbgppkdnfljhaaGreatDoorZj20
import Derived.Test.YtfbgppkdnfljhaaGreatDoorZj25
import Derived.Test.YtfbgppkdnfljhaaGreatDoorZj04
import Derived.Laws.DeepStrings4
import Derived.Test.YtfbgppkdnfljhaaGreatDoorZj33
import Derived.Test.YtfbgppkdnfljhaaGreatDoorZj08
set_option maxHeartbeats 6400000
set_option maxRecDepth 100000
namespace Go.Proofs.YtfbgppkdnfljhaaGreatDoor
def tkI (c:UInt8) (l:List UInt8) (f:Bool):Bool:=!f&&(l.head? == some c)
def nmI:List UInt8→Nat
 | []=>0
 | c :: l=>if isLow c=true then nmI l+1 else 0
def hitI (lv o:Int) (l:List UInt8) (f:Bool):Bool:=(lvlR o==lv)&&tkI (sgB o) l f
def opI (lv:Int) (l:List UInt8) (f:Bool):Int:=if hitI lv 2 l f=true then 2 else if hitI lv 3 l f=true then 3 else if hitI lv 4 l f=true then 4 else if hitI lv 5 l f=true then 5 else 0
inductive PJ where
 | atom
 | level (lv:Int)
 | loop (lv:Int) (e:Re)
def pI:Nat→PJ→List UInt8→Bool→Option (Re × List UInt8 × Bool)
 | 0,_,_,_=>none
 | n+1, .atom,l,f =>
  if tkI 40 l f=true then
   match pI n (.level 3) l.tail f with
   | none=>none
   | some (e,l1,f1)=>if tkI 41 l1 f1=true then some (e,l1.tail,f1) else some (e,l1,true)
  else if tkI 126 l f=true then
   match pI n .atom l.tail f with
   | none=>none
   | some (e,l1,f1)=>some (.mk 6 ⟨#[]⟩ [e],l1,f1)
  else if tkI 43 l f=true then
   match pI n .atom l.tail f with
   | none=>none
   | some (e,l1,f1)=>some (.mk 7 ⟨#[]⟩ [e],l1,f1)
  else some (.mk 1 ⟨(l.take (nmI l)).toArray⟩ [],l.drop (nmI l),f||(nmI l==0))
 | n+1, .level lv,l,f =>
  if lv=0 then pI n .atom l f
  else match pI n (.level (lv - 1)) l f with
   | none=>none
   | some (e,l1,f1)=>pI n (.loop lv e) l1 f1
 | n+1, .loop lv e,l,f =>
  if opI lv l f=0 then some (e,l,f)
  else match pI n (.level (lv - 1)) l.tail f with
   | none=>none
   | some (b,l1,f1)=>pI n (.loop lv (.mk (opI lv l f) ⟨#[]⟩ [e,b])) l1 f1
theorem tkI_cons {c:UInt8} {l:List UInt8} {f:Bool} (h:tkI c l f=true):f=false∧l=c :: l.tail:=by
 unfold tkI at h
 cases f
 ·cases l with
  | nil=>simp at h
  | cons a l=>simp at h;subst h;exact ⟨rfl,rfl⟩
 ·simp at h
theorem nmI_le:∀ l:List UInt8,nmI l≤l.length
 | []=>Nat.le_refl _
 | c :: l=>by
  have:=nmI_le l
  unfold nmI
  split <;> simp <;> omega
theorem opI_cons {lv:Int} {l:List UInt8} {f:Bool} (h:opI lv l f≠0):f=false∧∃ c,l=c :: l.tail:=by
 unfold opI hitI at h
 by_cases h2:tkI (sgB 2) l f=true
 ·exact ⟨(tkI_cons h2).1,_,(tkI_cons h2).2⟩
 by_cases h3:tkI (sgB 3) l f=true
 ·exact ⟨(tkI_cons h3).1,_,(tkI_cons h3).2⟩
 by_cases h4:tkI (sgB 4) l f=true
 ·exact ⟨(tkI_cons h4).1,_,(tkI_cons h4).2⟩
 by_cases h5:tkI (sgB 5) l f=true
 ·exact ⟨(tkI_cons h5).1,_,(tkI_cons h5).2⟩
 exfalso
 apply h
 simp [h2,h3,h4,h5]
theorem pI_len:∀ n m l f r,pI n m l f=some r→r.2.1.length≤l.length:=by
 intro n
 induction n with
 | zero=>intro m l f r h;simp [pI] at h
 | succ n ih =>
  intro m l f r h
  have htl:l.tail.length≤l.length:=by simp
  cases m with
  | atom =>
   unfold pI at h
   split at h
   ·split at h
    ·cases h
    ·rename_i e l1 f1 hp
     have h1:l1.length≤l.tail.length:=ih _ _ _ _ hp
     have h2:l1.tail.length≤l1.length:=by simp
     split at h <;> (simp only [Option.some.injEq] at h;subst h;simp only;omega)
   ·split at h
    ·split at h
     ·cases h
     ·rename_i e l1 f1 hp
      have h1:l1.length≤l.tail.length:=ih _ _ _ _ hp
      simp only [Option.some.injEq] at h;subst h;simp only;omega
    ·split at h
     ·split at h
      ·cases h
      ·rename_i e l1 f1 hp
       have h1:l1.length≤l.tail.length:=ih _ _ _ _ hp
       simp only [Option.some.injEq] at h;subst h;simp only;omega
     ·simp only [Option.some.injEq] at h;subst h;simp
  | level lv =>
   unfold pI at h
   split at h
   ·exact ih _ _ _ _ h
   ·split at h
    ·cases h
    ·rename_i e l1 f1 hp
     have h1:l1.length≤l.length:=ih _ _ _ _ hp
     have h2:=ih _ _ _ _ h
     omega
  | loop lv e =>
   unfold pI at h
   split at h
   ·simp only [Option.some.injEq] at h;subst h;simp
   ·split at h
    ·cases h
    ·rename_i b l1 f1 hp
     have h1:l1.length≤l.tail.length:=ih _ _ _ _ hp
     have h2:=ih _ _ _ _ h
     omega
theorem pI_loop_end {n:Nat} {lv:Int} {e:Re} {l:List UInt8} {f:Bool} {r:Re × List UInt8 × Bool} (h:pI n (.loop lv e) l f=some r) (ho:opI lv l f=0):r=(e,l,f):=by
 cases n with
 | zero=>simp [pI] at h
 | succ n=>unfold pI at h;rw [if_pos ho] at h;exact (Option.some.inj h).symm
theorem pI_loop_more {n:Nat} {lv:Int} {e:Re} {l:List UInt8} {f:Bool} {r:Re × List UInt8 × Bool} (h:pI n (.loop lv e) l f=some r) (ho:opI lv l f≠0) :
 ∃ (m:Nat) (b:Re) (l1:List UInt8) (f1:Bool),n=m+1∧pI m (.level (lv - 1)) l.tail f=some (b,l1,f1)∧pI m (.loop lv (.mk (opI lv l f) ⟨#[]⟩ [e,b])) l1 f1=some r:=by
 cases n with
 | zero=>simp [pI] at h
 | succ n =>
  unfold pI at h
  rw [if_neg ho] at h
  split at h
  ·cases h
  ·rename_i b l1 f1 hp
   exact ⟨n,b,l1,f1,rfl,hp,h⟩
end Go.Proofs.YtfbgppkdnfljhaaGreatDoor
namespace Go.Proofs.YtfbgppkdnfljhaaGreatDoor
open Go.RowKit
def strQ (l:List UInt8):ByteArray:=⟨l.toArray⟩
theorem strQ_size (l:List UInt8):(strQ l).size=l.length:=by simp [strQ,ByteArray.size]
theorem strQ_data (s:ByteArray):strQ s.data.toList=s:=by simp [strQ]
theorem strQ_tail (c:UInt8) (l:List UInt8):(strQ (c :: l)).extract 1 (strQ (c :: l)).size=strQ l:=by
 apply ByteArray.ext
 rw [ByteArray.data_extract]
 apply Array.toList_inj.1
 simp [strQ,ByteArray.size]
theorem strQ_drop (l:List UInt8) (k:Nat):(strQ l).extract k (strQ l).size=strQ (l.drop k):=by
 apply ByteArray.ext
 rw [ByteArray.data_extract]
 apply Array.toList_inj.1
 simp [strQ,ByteArray.size]
 exact List.take_of_length_le (by simp)
theorem strQ_take (l:List UInt8) (k:Nat):(strQ l).extract 0 k=strQ (l.take k):=by
 apply ByteArray.ext
 rw [ByteArray.data_extract]
 apply Array.toList_inj.1
 simp [strQ]
theorem strQ_head (c:UInt8) (l:List UInt8) (h:0 < (strQ (c :: l)).size):(strQ (c :: l))[0]'h=c:=rfl
theorem strQ_get (l:List UInt8) (k:Nat) (h:k < (strQ l).size):l[k]? = some ((strQ l)[k]'h):=by
 have h2:k < l.length:=by rw [strQ_size] at h;exact h
 rw [List.getElem?_eq_getElem h2]
 rfl
theorem strQ_ne (c:UInt8) (l:List UInt8):(strQ (c :: l)).toList.isEmpty=false:=by rw [ByteArray.toList_eq];rfl
theorem strQ_ne2 (c:UInt8) (l:List UInt8):((strQ (c :: l)).toList==[])=false:=by rw [ByteArray.toList_eq];rfl
theorem strQ_nil:strQ []=⟨#[]⟩:=rfl
structure PQ (w:World) (pb:Nat) (l:List UInt8) (f:Bool):Prop where
 lt:pb < w.heap.size
 c0:w.cell? ⟨pb,0,none⟩=some (.string (strQ l))
 c1:w.cell? ⟨pb,1,none⟩=some (.bool f)
 fr:∀ j,w.frozen? ⟨pb,j,none⟩=false
theorem PQ.below {w w':World} {pb:Nat} {l:List UInt8} {f:Bool} (h:PQ w pb l f) (hb:Below w.heap.size w w'):PQ w' pb l f:=
 ⟨Nat.lt_of_lt_of_le h.lt hb.size,(hb.cell (p:=⟨pb,0,none⟩) h.lt).trans h.c0,(hb.cell (p:=⟨pb,1,none⟩) h.lt).trans h.c1,fun j=>(hb.frozen (p:=⟨pb,j,none⟩) h.lt).trans (h.fr j)⟩
theorem PQ.setNew {w:World} {pb:Nat} {l:List UInt8} {f:Bool} (h:PQ w pb l f) {g:Nat} (hg:g≠pb) (j:Nat) (v:Value):PQ (w.setCell ⟨g,j,none⟩ v) pb l f:=by
 obtain ⟨hlt,c0,c1,hf⟩:=h
 have e:=heap_setCell_other w ⟨g,j,none⟩ pb v (fun e=>hg e.symm)
 exact ⟨by simpa using hlt,(cell_of_block e 0).trans c0,(cell_of_block e 1).trans c1,fun i=>by
  have h1:=hf i
  unfold World.frozen? at *
  rw [e];exact h1⟩
theorem PQ.allocNew {w:World} {pb:Nat} {l:List UInt8} {f:Bool} (h:PQ w pb l f) (o:Obj):PQ (w.alloc o) pb l f:=h.below (belowAlloc w o)
def StepQ (w:World) (pb:Nat) (v:Value) (l:List UInt8) (f:Bool) (e:Ending) (w':World):Prop:=e = .returned v∧PQ w' pb l f∧Outside pb (pb+1) w w'
theorem outside_rowQ {pb:Nat} {w w':World} (h:w.grownBy w' (some pb)):Outside pb (pb+1) w w':=⟨h.os,h.tape,h.output,h.size,fun k hk hlh=>h.block k hk (by simp;omega)⟩
theorem outside_setQ (w:World) (pb j:Nat) (v:Value):Outside pb (pb+1) w (w.setCell ⟨pb,j,none⟩ v):=outside_rowQ (grown_set (grown_of_below (Below.refl _ _) _) _ _)
theorem take_any (pb:Nat) (l:List UInt8) (f:Bool) (k:UInt8) (c:Int) (hk:(k.toNat:Int)=c) (w:World) (h:PQ w pb l f) :
 Calls Tryz.prog 214 #[.pointer (some ⟨pb,0,none⟩), .int .u8 c] w (StepQ w pb (.bool (tkI k l f)) (if tkI k l f=true then l.tail else l) f):=by
 have HH:=hide h
 obtain ⟨hlt,c0,c1,hfr⟩:=h
 have f1:=hfr 1
 have f0:=hfr 0
 cases f
 ·cases l with
  | nil =>
   have P0:tkI k [] false=false:=rfl
   rw [strQ_nil] at c0
   rw [P0]
   clear P0
   go_enter Tryz.func214,Tryz.ntmps214
   go_wp2_with fail
   go_ret
   exact ⟨rfl,HH.out,Outside.refl _ _ _⟩
  | cons a l =>
   have h1:=strQ_ne a l
   have h1':=strQ_ne2 a l
   have h2:=strQ_tail a l
   have h3:0 < (strQ (a :: l)).size:=by rw [strQ_size];simp
   have h4:=strQ_head a l h3
   have hu:=a.toNat_lt
   have H2:=hide h2
   by_cases e:a=k
   ·have P0:tkI k (a :: l) false=true:=by simp [tkI,e]
    rw [P0]
    have g:(((((strQ (a :: l))[0]'h3).toNat:Int)) != c)=false:=by rw [h4,e,hk];simp
    clear h2 h4 P0 HH
    generalize strQ (a :: l)=s at *
    go_enter Tryz.func214,Tryz.ntmps214
    go_wp2_with fail
    go_ret
    refine ⟨rfl,⟨by simp;exact hlt,by show _=some (Value.string (strQ l));rw [← H2.out];simp [go_sem, *],by simp [go_sem, *],fun j=>by simp [go_sem, *]⟩,outside_setQ _ _ _ _⟩
   ·have P0:tkI k (a :: l) false=false:=by simp [tkI,e]
    rw [P0]
    have g:(((((strQ (a :: l))[0]'h3).toNat:Int)) != c)=true:=by
     rw [h4,← hk]
     simp only [bne_iff_ne,ne_eq]
     intro e2
     exact e (UInt8.toNat_inj.1 (by omega))
    clear h2 h4 P0
    generalize strQ (a :: l)=s at *
    go_enter Tryz.func214,Tryz.ntmps214
    go_wp2_with fail
    go_ret
    exact ⟨rfl,HH.out,Outside.refl _ _ _⟩
 ·have P0:tkI k l true=false:=rfl
  rw [P0]
  clear P0
  go_enter Tryz.func214,Tryz.ntmps214
  go_wp2_with fail
  go_ret
  exact ⟨rfl,HH.out,Outside.refl _ _ _⟩
theorem nmI_lt:∀ {l:List UInt8} {k:Nat} {c:UInt8},k≤nmI l→l[k]? = some c→(isLow c=true↔k < nmI l)
 | [],k,c,_,h=>by simp at h
 | a :: l,0,c,_,h=>by
  simp at h;subst h
  unfold nmI
  split <;> simp_all
 | a :: l,k+1,c,hk,h=>by
  simp at h
  unfold nmI at hk ⊢
  split at hk
  ·rename_i ha
   rw [if_pos ha]
   have:=nmI_lt (l:=l) (k:=k) (by omega) h
   rw [this];omega
  ·omega
theorem name_any (pb:Nat) (l:List UInt8) (f:Bool) (w:World) (hl:l.length≤300) (h:PQ w pb l f) :
 Calls Tryz.prog 259 #[.pointer (some ⟨pb,0,none⟩)] w (StepQ w pb (.string (strQ (l.take (nmI l)))) (l.drop (nmI l)) f):=by
 obtain ⟨hlt,c0,c1,hfr⟩:=h
 have f1:=hfr 1
 have f0:=hfr 0
 have LT:=hide (fun (k:Nat)=>strQ_take l k)
 have LD:=hide (fun (k:Nat)=>strQ_drop l k)
 have LS:Hid ((strQ l).size=l.length):=hide (strQ_size l)
 have LA:Hid (strQ (l.take (strQ l).size)=strQ l):=hide (by rw [strQ_size,List.take_length])
 have LZ:Hid (strQ (l.drop (strQ l).size)=ByteArray.empty):=hide (by rw [strQ_size,List.drop_length];rfl)
 have LG:=hide (fun k hk=>strQ_get l k hk)
 have NL:=hide (fun (k:Nat) (c:UInt8) (h1:k≤nmI l) (h2:l[k]? = some c)=>nmI_lt h1 h2)
 have NB:=nmI_le l
 have hsz:(strQ l).size≤300:=by rw [LS.out];exact hl
 generalize nmI l=N at *
 generalize strQ l=s at *
 go_enter Tryz.func259,Tryz.ntmps259
 go_wp2_with fail
 go_loop [3] (fun q => ∃ j:Nat,q = .int .i64 j∧j≤N) (fun q=>s.size - (intOf q).toNat)
 case atStart=>exact ⟨0,rfl,Nat.zero_le _⟩
 case round =>
  obtain ⟨j,rfl,hj⟩:=hrel
  have hjs:j≤s.size:=by rw [LS.out];omega
  have fin:j=N→True:=fun _=>trivial
  by_cases hltj:j < s.size
  ·have hlt':(j:Int) < s.size:=by omega
   have hki:0≤(j:Int)∧(j:Int) < s.size:=by omega
   have hsj:=LG.out j hltj
   have hn:=NL.out j _ hj hsj
   by_cases g1:((s[j]'hltj).toNat:Int)≥97
   ·have g1':decide (((s[j]'hltj).toNat:Int)≥97)=true:=decide_eq_true g1
    by_cases g2:((s[j]'hltj).toNat:Int)≤122
    ·have g2':decide (((s[j]'hltj).toNat:Int)≤122)=true:=decide_eq_true g2
     have hN:j < N:=hn.1 (by unfold isLow;rw [decide_eq_true (by omega),decide_eq_true (by omega)];rfl)
     clear hsj hn g1 g2
     go_wp2_with fail
     go_round
     case rel=>exact ⟨j+1,by go_num,by omega⟩
     case measure=>simp [intOf];omega
    ·have g2':decide (((s[j]'hltj).toNat:Int)≤122)=false:=decide_eq_false g2
     obtain rfl:j=N:=by
      have h3:isLow (s[j]'hltj)=false:=by unfold isLow;rw [decide_eq_false (show ¬ (s[j]'hltj).toNat≤122 by omega),Bool.and_false]
      rw [h3] at hn
      have h4:¬ j < N:=fun h=>by simpa using hn.2 h
      omega
     clear hsj hn g1 g2
     go_wp2_with fail
     go_ret
     exact ⟨by rw [← LT.out];rfl,⟨by simp;exact hlt,by rw [← LD.out];simp [go_sem, *],by simp [go_sem, *],fun j=>by simp [go_sem, *]⟩,outside_setQ _ _ _ _⟩
   ·have g1':decide (((s[j]'hltj).toNat:Int)≥97)=false:=decide_eq_false g1
    obtain rfl:j=N:=by
     have h3:isLow (s[j]'hltj)=false:=by unfold isLow;rw [decide_eq_false (show ¬ 97≤(s[j]'hltj).toNat by omega)];rfl
     rw [h3] at hn
     have h4:¬ j < N:=fun h=>by simpa using hn.2 h
     omega
    clear hsj hn g1
    go_wp2_with fail
    go_ret
    exact ⟨by rw [← LT.out];rfl,⟨by simp;exact hlt,by rw [← LD.out];simp [go_sem, *],by simp [go_sem, *],fun j=>by simp [go_sem, *]⟩,outside_setQ _ _ _ _⟩
  ·obtain rfl:j=s.size:=by omega
   have hltf:decide ((s.size:Int) < (s.size:Int))=false:=decide_eq_false (by omega)
   obtain rfl:N=s.size:=by have:=LS.out;omega
   clear hltj
   go_wp2_with fail
   go_ret
   exact ⟨by rw [LA.out];rfl,⟨by simp;exact hlt,by rw [LZ.out];simp [go_sem, *],by simp [go_sem, *],fun j=>by simp [go_sem, *]⟩,outside_setQ _ _ _ _⟩
theorem relLevel_op (o:Int) (h2:2≤o) (h5:o≤5) (w:World):Calls Tryz.prog 169 #[.int .i64 o] w fun e w'=>e = .returned (.tuple #[.int .i64 (lvlR o), .string (sgnR o), .int .i64 2])∧w=w':=by
 have h:o=2∨o=3∨o=4∨o=5:=by omega
 rcases h with rfl | rfl | rfl | rfl
 ·go_enter Tryz.func169,Tryz.ntmps169
  go_wp2
  refine bodyPost_ret (v:=.tuple #[.int .i64 3, .string ⟨#[124]⟩, .int .i64 2]) (by simp [results,Tryz.results169,go_sem]) rfl ⟨rfl,rfl⟩
 ·go_enter Tryz.func169,Tryz.ntmps169
  go_wp2
  refine bodyPost_ret (v:=.tuple #[.int .i64 2, .string ⟨#[38]⟩, .int .i64 2]) (by simp [results,Tryz.results169,go_sem]) rfl ⟨rfl,rfl⟩
 ·go_enter Tryz.func169,Tryz.ntmps169
  go_wp2
  refine bodyPost_ret (v:=.tuple #[.int .i64 2, .string ⟨#[45]⟩, .int .i64 2]) (by simp [results,Tryz.results169,go_sem]) rfl ⟨rfl,rfl⟩
 ·go_enter Tryz.func169,Tryz.ntmps169
  go_wp2
  refine bodyPost_ret (v:=.tuple #[.int .i64 1, .string ⟨#[59]⟩, .int .i64 2]) (by simp [results,Tryz.results169,go_sem]) rfl ⟨rfl,rfl⟩
theorem relLevel_all (o:Int) (h1:1≤o) (h7:o≤7) (w:World):Calls Tryz.prog 169 #[.int .i64 o] w fun e w'=>e = .returned (.tuple #[.int .i64 (lvlR o), .string (sgnR o), .int .i64 (kidsO o)])∧w=w':=by
 have h:o=1∨(2≤o∧o≤5)∨o=6∨o=7:=by omega
 rcases h with rfl | ⟨h2,h5⟩ | rfl | rfl
 ·go_enter Tryz.func169,Tryz.ntmps169
  go_wp2
  refine bodyPost_ret (v:=.tuple #[.int .i64 0, .string ⟨#[]⟩, .int .i64 0]) (by simp [results,Tryz.results169,go_sem]) rfl ⟨rfl,rfl⟩
 ·have hk:kidsO o=2:=by
   have h:o=2∨o=3∨o=4∨o=5:=by omega
   rcases h with rfl | rfl | rfl | rfl <;> rfl
  rw [hk]
  exact relLevel_op o h2 h5 w
 ·go_enter Tryz.func169,Tryz.ntmps169
  go_wp2
  refine bodyPost_ret (v:=.tuple #[.int .i64 0, .string ⟨#[126]⟩, .int .i64 1]) (by simp [results,Tryz.results169,go_sem]) rfl ⟨rfl,rfl⟩
 ·go_enter Tryz.func169,Tryz.ntmps169
  go_wp2
  refine bodyPost_ret (v:=.tuple #[.int .i64 0, .string ⟨#[43]⟩, .int .i64 1]) (by simp [results,Tryz.results169,go_sem]) rfl ⟨rfl,rfl⟩
end Go.Proofs.YtfbgppkdnfljhaaGreatDoor
namespace Go.Proofs.YtfbgppkdnfljhaaGreatDoor
open Go.RowKit
def TextAtI (d:Nat):Prop:=∀ (c:Re) (L:Int) (a:Option Addr) (n cp:Nat) (w:World),shapeR d c=true→nodesR c≤400→RepRk 0 w ⟨a,n,cp⟩ c.kids→0≤L→L≤3 →
 Calls Tryz.prog 215 #[.agg #[.int .i64 c.op, .string c.nm, .slice a n cp], .int .i64 L] w fun e w'=>e = .returned (.string (partR c.op L (textR d c)))∧Below w.heap.size w w'
theorem textI_zero (o L:Int) (nm:ByteArray) (a:Option Addr) (n c:Nat) (w:World) (ho:o=1) (h0:0≤L) (h3:L≤3) :
 Calls Tryz.prog 215 #[.agg #[.int .i64 o, .string nm, .slice a n c], .int .i64 L] w fun e w'=>e = .returned (.string (partR o L nm))∧Below w.heap.size w w':=by
 subst ho
 have HB:=hide (belowAlloc w (.cells #[.int .i64 1, .string nm, .slice a n c] 52))
 have HK:Hid (∀ w',Calls Tryz.prog 169 #[.int .i64 1] w' fun e w''=>e = .returned (.tuple #[.int .i64 0, .string ⟨#[]⟩, .int .i64 0])∧w'=w''):=hide (fun w'=>relLevel_all 1 (by omega) (by omega) w')
 have hl:decide ((0:Int) > L)=false:=decide_eq_false (by omega)
 have PE:Hid (partR 1 L nm=nm):=hide (by unfold partR;rw [if_neg];show ¬ (0:Int) > L;omega)
 generalize partR 1 L nm=R at *
 go_enter Tryz.func215,Tryz.ntmps215
 go_wp2_with fail
 (with_reducible refine (HK.out _).mono ?_);rintro e w1 ⟨rfl,rfl⟩
 go_wp2_with fail
 go_ret
 exact ⟨by rw [PE.out];rfl,HB.out⟩
theorem textI_one (o k0 L:Int) (nm kn t:ByteArray) (b q cp:Nat) (ka:Option Addr) (kl kc:Nat) (w:World) (ho:o=6∨o=7) (hL0:0≤L) (hL3:L≤3) (hz:t.size≤4096) (i0:w.cell? ⟨b,q,none⟩=some (.int .i64 k0)) (i1:w.cell? ⟨b,q+1,none⟩=some (.string kn)) (i2:w.cell? ⟨b,q+2,none⟩=some (.slice ka kl kc))
 (ht:∀ w',Below w.heap.size w w'→Calls Tryz.prog 215 #[.agg #[.int .i64 k0, .string kn, .slice ka kl kc], .int .i64 0] w' fun e w''=>e = .returned (.string t)∧Below w'.heap.size w' w'') :
 Calls Tryz.prog 215 #[.agg #[.int .i64 o, .string nm, .slice (some ⟨b,q,none⟩) 1 cp], .int .i64 L] w fun e w'=>e = .returned (.string (partR o L (sgnR o++t)))∧Below w.heap.size w w':=by
 have HB:=hide (belowAlloc w (.cells #[.int .i64 o, .string nm, .slice (some ⟨b,q,none⟩) 1 cp] 52))
 have X:=hide (BoxR.new w o nm ⟨some ⟨b,q,none⟩,1,cp⟩ 52)
 have j0:=(HB.out.cell (p:=⟨b,q,none⟩) (lt_of_cell i0)).trans i0
 have j1:=(HB.out.cell (p:=⟨b,q+1,none⟩) (lt_of_cell i0)).trans i1
 have j2:=(HB.out.cell (p:=⟨b,q+2,none⟩) (lt_of_cell i0)).trans i2
 have hlv:lvlR o=0:=by rcases ho with rfl | rfl <;> rfl
 have hks:kidsO o=1:=by rcases ho with rfl | rfl <;> rfl
 have HK:=hide (fun w'=>relLevel_all o (by omega) (by omega) w')
 have PE:Hid (partR o L (sgnR o++t)=sgnR o++t):=hide (by unfold partR;rw [if_neg];rw [hlv];omega)
 rw [hlv,hks] at HK
 have zs:=sgnR_size o
 generalize partR o L (sgnR o++t)=R at *
 generalize sgnR o=sg at *
 have hl:decide ((0:Int) > L)=false:=decide_eq_false (by omega)
 have HT:=hide (fun (y:BW (w.alloc (.cells #[.int .i64 o, .string nm, .slice (some ⟨b,q,none⟩) 1 cp] 52)))=>ht y.val (HB.out.trans (y.prop.mono HB.out.size)))
 clear ho hlv hks i0 i1 i2 ht
 generalize hW:w.alloc (.cells #[.int .i64 o, .string nm, .slice (some ⟨b,q,none⟩) 1 cp] 52)=W at *
 obtain ⟨el,e0,e1,e2, -⟩:=X.out
 have jl:=lt_of_cell j0
 go_enter Tryz.func215,Tryz.ntmps215
 go_wp2_with fail
 clear hW
 (with_reducible refine (HK.out _).mono ?_);rintro e w1 ⟨rfl,rfl⟩
 go_wp2_with fail
 (with_reducible refine (HT.out ⟨_,Below.refl _ _⟩).mono ?_);rintro e w2 ⟨rfl,hb2⟩
 have HB5:=hide (HB.out.trans (hb2.mono HB.out.size))
 clear hb2 e0 e1 e2 j0 j1 j2
 go_wp2_with fail
 go_ret
 exact ⟨by rw [PE.out];rfl,HB5.out⟩
theorem textI_two (o L k0 h0':Int) (nm kn h1' t t':ByteArray) (b q cp:Nat) (ka ha:Option Addr) (kl kc hl hc:Nat) (w:World) (h2:2≤o) (h5:o≤5) (hz:t.size≤4096) (hz':t'.size≤4096) (i0:w.cell? ⟨b,q,none⟩=some (.int .i64 k0)) (i1:w.cell? ⟨b,q+1,none⟩=some (.string kn)) (i2:w.cell? ⟨b,q+2,none⟩=some (.slice ka kl kc))
 (i3:w.cell? ⟨b,q+3,none⟩=some (.int .i64 h0')) (i4:w.cell? ⟨b,q+4,none⟩=some (.string h1')) (i5:w.cell? ⟨b,q+5,none⟩=some (.slice ha hl hc))
 (ht:∀ w',Below w.heap.size w w'→Calls Tryz.prog 215 #[.agg #[.int .i64 k0, .string kn, .slice ka kl kc], .int .i64 (lvlR o)] w' fun e w''=>e = .returned (.string t)∧Below w'.heap.size w' w'')
 (ht':∀ w',Below w.heap.size w w'→Calls Tryz.prog 215 #[.agg #[.int .i64 h0', .string h1', .slice ha hl hc], .int .i64 (lvlR o - 1)] w' fun e w''=>e = .returned (.string t')∧Below w'.heap.size w' w'') :
 Calls Tryz.prog 215 #[.agg #[.int .i64 o, .string nm, .slice (some ⟨b,q,none⟩) 2 cp], .int .i64 L] w fun e w'=>e = .returned (.string (partR o L (t++sgnR o++t')))∧Below w.heap.size w w':=by
 have HB:=hide (belowAlloc w (.cells #[.int .i64 o, .string nm, .slice (some ⟨b,q,none⟩) 2 cp] 52))
 have X:=hide (BoxR.new w o nm ⟨some ⟨b,q,none⟩,2,cp⟩ 52)
 have j0:=(HB.out.cell (p:=⟨b,q,none⟩) (lt_of_cell i0)).trans i0
 have j1:=(HB.out.cell (p:=⟨b,q+1,none⟩) (lt_of_cell i0)).trans i1
 have j2:=(HB.out.cell (p:=⟨b,q+2,none⟩) (lt_of_cell i0)).trans i2
 have j3:=(HB.out.cell (p:=⟨b,q+3,none⟩) (lt_of_cell i0)).trans i3
 have j4:=(HB.out.cell (p:=⟨b,q+4,none⟩) (lt_of_cell i0)).trans i4
 have j5:=(HB.out.cell (p:=⟨b,q+5,none⟩) (lt_of_cell i0)).trans i5
 have HK:=hide (fun w'=>relLevel_op o h2 h5 w')
 have PE:Hid (partR o L (t++sgnR o++t')=if lvlR o > L then ⟨#[40]⟩++(t++sgnR o++t')++⟨#[41]⟩ else t++sgnR o++t'):=hide rfl
 have zs:=sgnR_size o
 generalize partR o L (t++sgnR o++t')=R at *
 generalize sgnR o=sg at *
 have hlv:0≤lvlR o∧lvlR o≤3:=by unfold lvlR;repeat (first | omega | split)
 have HT:=hide (fun (y:BW (w.alloc (.cells #[.int .i64 o, .string nm, .slice (some ⟨b,q,none⟩) 2 cp] 52)))=>ht y.val (HB.out.trans (y.prop.mono HB.out.size)))
 have HT':=hide (fun (y:BW (w.alloc (.cells #[.int .i64 o, .string nm, .slice (some ⟨b,q,none⟩) 2 cp] 52)))=>ht' y.val (HB.out.trans (y.prop.mono HB.out.size)))
 clear h2 h5 i0 i1 i2 i3 i4 i5 ht ht'
 obtain ⟨lv0,lv3⟩:=hlv
 generalize lvlR o=lv at *
 generalize hW:w.alloc (.cells #[.int .i64 o, .string nm, .slice (some ⟨b,q,none⟩) 2 cp] 52)=W at *
 obtain ⟨el,e0,e1,e2, -⟩:=X.out
 have jl:=lt_of_cell j0
 by_cases hg:lv > L
 ·have hg':decide (lv > L)=true:=decide_eq_true hg
  obtain rfl:R=⟨#[40]⟩++(t++sg++t')++⟨#[41]⟩:=by rw [PE.out,if_pos hg]
  clear hg PE
  go_enter Tryz.func215,Tryz.ntmps215
  go_wp2_with fail
  clear hW
  (with_reducible refine (HK.out _).mono ?_);rintro e w1 ⟨rfl,rfl⟩
  go_wp2_with fail
  refine wp_region_bw (by kernel_rfl) (by kernel_rfl) ?_
  repeat (go_big_quiet_step ((go_at_call 215;first | (with_reducible exact Calls.bw (HT.out _)) | (with_reducible exact Calls.bw (HT'.out _)))))
  refine wpQuiet_nil ?_
  intro w5 hb5
  have HB5:=hide (HB.out.trans (hb5.mono HB.out.size))
  clear hb5 e0 e1 e2 j0 j1 j2 j3 j4 j5
  go_wp2_with fail
  go_ret
  exact ⟨rfl,HB5.out⟩
 ·have hg':decide (lv > L)=false:=decide_eq_false hg
  obtain rfl:R=t++sg++t':=by rw [PE.out,if_neg hg]
  clear hg PE
  go_enter Tryz.func215,Tryz.ntmps215
  go_wp2_with fail
  clear hW
  (with_reducible refine (HK.out _).mono ?_);rintro e w1 ⟨rfl,rfl⟩
  go_wp2_with fail
  refine wp_region_bw (by kernel_rfl) (by kernel_rfl) ?_
  repeat (go_big_quiet_step ((go_at_call 215;first | (with_reducible exact Calls.bw (HT.out _)) | (with_reducible exact Calls.bw (HT'.out _)))))
  refine wpQuiet_nil ?_
  intro w5 hb5
  have HB5:=hide (HB.out.trans (hb5.mono HB.out.size))
  clear hb5 e0 e1 e2 j0 j1 j2 j3 j4 j5
  go_wp2_with fail
  go_ret
  exact ⟨rfl,HB5.out⟩
theorem relText_any:∀ d,TextAtI d:=by
 intro d
 induction d with
 | zero=>intro c L a n cp w h;simp [shapeR] at h
 | succ d ih =>
  intro c L a n cp w hs hnd hk hL0 hL3
  obtain ⟨hne,hks⟩:=(shapeR_succ d c).1 hs
  have hkn:=hk.open.1
  simp only at hkn
  rcases node_cases hne with ⟨hop,hnm⟩ | ⟨hop,k,hkk⟩ | ⟨hop,k,k',hkk⟩
  ·rw [textR_zero (by rw [hop];rfl)]
   exact textI_zero c.op L c.nm a n cp w hop hL0 hL3
  ·have h0:c.kids[0]? = some k:=by rw [hkk];rfl
   have er:kidR c 0=k:=by simp [kidR,hkk]
   have ho:kidsO c.op=1:=by rcases hop with e | e <;> rw [e] <;> rfl
   obtain ⟨b,q,s,rfl,hbl,i0,i1,i2,i3⟩:=hk.kid h0
   simp only [Nat.zero_mul,Nat.add_zero] at i0 i1 i2
   obtain rfl:n=1:=by rw [hkn,hkk];rfl
   have h3:=nodesR_one hkk
   have hz:=textR_size d k (hks k (by simp [hkk]))
   have hz2:=partR_size k.op 0 (textR d k)
   rw [textR_one ho,er]
   exact textI_one c.op k.op L c.nm k.nm _ b q cp s.a s.n s.cap w hop hL0 hL3 (by omega) i0 i1 i2 (fun w' hb=>ih k 0 s.a s.n s.cap w' (hks k (by simp [hkk])) (by omega) (i3.below hb) (by omega) (by omega))
  ·have h0:c.kids[0]? = some k:=by rw [hkk];rfl
   have h1:c.kids[1]? = some k':=by rw [hkk];rfl
   have er:kidR c 0=k:=by simp [kidR,hkk]
   have er':kidR c 1=k':=by simp [kidR,hkk]
   have ho:kidsO c.op=2:=by rcases hop with e | e | e | e <;> rw [e] <;> rfl
   have ho2:2≤c.op∧c.op≤5:=by omega
   have hlv:1≤lvlR c.op∧lvlR c.op≤3:=by rcases hop with e | e | e | e <;> rw [e] <;> decide
   obtain ⟨b,q,s,rfl,hbl,i0,i1,i2,i3⟩:=hk.kid h0
   obtain ⟨b',q',s',hbq,hbl',j0,j1,j2,j3⟩:=hk.kid h1
   simp only [Option.some.injEq,Addr.mk.injEq,and_true] at hbq
   obtain ⟨rfl,rfl⟩:=hbq
   simp only [Nat.zero_mul,Nat.add_zero,Nat.one_mul,Nat.add_assoc,Nat.reduceAdd] at i0 i1 i2 j0 j1 j2
   obtain rfl:n=2:=by rw [hkn,hkk];rfl
   have h3:=nodesR_two hkk
   have hz:=textR_size d k (hks k (by simp [hkk]))
   have hz2:=partR_size k.op (lvlR c.op) (textR d k)
   have hy:=textR_size d k' (hks k' (by simp [hkk]))
   have hy2:=partR_size k'.op (lvlR c.op - 1) (textR d k')
   rw [textR_two ho,er,er']
   exact textI_two c.op L k.op k'.op c.nm k.nm k'.nm _ _ b q cp s.a s'.a s.n s.cap s'.n s'.cap w ho2.1 ho2.2 (by omega) (by omega) i0 i1 i2 j0 j1 j2 (fun w' hb=>ih k _ s.a s.n s.cap w' (hks k (by simp [hkk])) (by omega) (i3.below hb) (by omega) (by omega)) (fun w' hb=>ih k' _ s'.a s'.n s'.cap w' (hks k' (by simp [hkk])) (by omega) (j3.below hb) (by omega) (by omega))
theorem FormatRelExpr_any (c:Re) (a:Option Addr) (n cp:Nat) (w:World) (hv:validR c=true) (hk:RepRk 0 w ⟨a,n,cp⟩ c.kids) (hg:Glob w) :
 Calls Tryz.prog 167 #[.agg #[.int .i64 c.op, .string c.nm, .slice a n cp]] w fun e w'=>e = .returned (.string (textR 12 c))∧Below w.heap.size w w':=by
 have hs:shapeR 12 c=true:=by unfold validR at hv;simp only [Bool.and_eq_true] at hv;exact hv.1
 have hn:nodesR c≤40:=by unfold validR at hv;simp only [Bool.and_eq_true,decide_eq_true_eq] at hv;exact hv.2
 have HB:=hide (belowAlloc w (.cells #[.int .i64 c.op, .string c.nm, .slice a n cp] 52))
 have X:=hide (BoxR.new w c.op c.nm ⟨a,n,cp⟩ 52)
 have HV:=hide (RelExprValid_raw c.op c.nm c.kids a n cp _ (hk.below HB.out) (hg.below HB.out))
 rw [Re.eta,hv] at HV
 have HT:=hide (fun w' (hb:Below w.heap.size w w')=>relText_any 12 c 3 a n cp w' hs (by omega) (hk.below hb) (by omega) (by omega))
 have hp:partR c.op 3 (textR 12 c)=textR 12 c:=by
  unfold partR
  rw [if_neg]
  have:lvlR c.op≤3:=by unfold lvlR;repeat (first | omega | split)
  omega
 rw [hp] at HT
 clear hv hk hs hn hp hg
 generalize textR 12 c=t at *
 generalize hW:w.alloc (.cells #[.int .i64 c.op, .string c.nm, .slice a n cp] 52)=W at *
 obtain ⟨el,e0,e1,e2, -⟩:=X.out
 go_enter Tryz.func167,Tryz.ntmps167
 go_wp2_with fail
 clear hW
 (with_reducible refine HV.out.mono ?_);rintro e w1 ⟨rfl,hb1⟩
 have d0:=(hb1.cell (p:=⟨w.heap.size,0,none⟩) el).trans e0
 have d1:=(hb1.cell (p:=⟨w.heap.size,1,none⟩) el).trans e1
 have d2:=(hb1.cell (p:=⟨w.heap.size,2,none⟩) el).trans e2
 have dl:=lt_of_cell d0
 have HB1:=hide (HB.out.trans (hb1.mono HB.out.size))
 have HT1:=hide (HT.out _ HB1.out)
 clear e0 e1 e2 el hb1 HV X HT
 go_wp2_with fail
 (with_reducible refine HT1.out.mono ?_);rintro e w2 ⟨rfl,hb2⟩
 go_wp2_with fail
 go_ret
 exact ⟨rfl,HB1.out.trans (hb2.mono HB1.out.size)⟩
end Go.Proofs.YtfbgppkdnfljhaaGreatDoor
namespace Go.Proofs.YtfbgppkdnfljhaaGreatDoor
open Go.RowKit
def RetPI (w:World) (pb:Nat) (r:Re × List UInt8 × Bool) (e:Ending) (w':World):Prop:=
 ∃ (o:Int) (nm:ByteArray) (ks:List Re) (s:Slc),r.1 = .mk o nm ks∧e = .returned (.agg #[.int .i64 o, .string nm, .slice s.a s.n s.cap])∧OwnR 52 w' (Made' w w') s ks∧PQ w' pb r.2.1 r.2.2∧Outside pb (pb+1) w w'
def AtomAt (n:Nat):Prop:=∀ (pb:Nat) (l:List UInt8) (f:Bool) (r:Re × List UInt8 × Bool) (w:World),pI n .atom l f=some r→l.length≤300→PQ w pb l f→Calls Tryz.prog 213 #[.pointer (some ⟨pb,0,none⟩)] w (RetPI w pb r)
def LevelAt (n:Nat):Prop:=∀ (pb:Nat) (lv:Int) (l:List UInt8) (f:Bool) (r:Re × List UInt8 × Bool) (w:World),pI n (.level lv) l f=some r→l.length≤300→0≤lv→lv≤3→PQ w pb l f→Calls Tryz.prog 166 #[.pointer (some ⟨pb,0,none⟩), .int .i64 lv] w (RetPI w pb r)
theorem OwnR.outP {T:TypeId} {w w':World} {S:Nat→Prop} {s:Slc} {ks:List Re} {pb:Nat} (h:OwnR T w S s ks) (ho:Outside pb (pb+1) w w') (hp:¬ S pb):OwnR T w' S s ks:=
 h.keep fun q h1 h2=>ho.block q h2 (by have:q≠pb:=fun e=>hp (e ▸ h1);omega)
theorem BoxR.outP {w w':World} {g pb:Nat} {o:Int} {p:ByteArray} {s:Slc} (h:BoxR w g o p s) (ho:Outside pb (pb+1) w w') (hg:g≠pb):BoxR w' g o p s:=by
 have e:=ho.block g h.lt (by omega)
 obtain ⟨h1,h2,h3,h4,h5⟩:=h
 exact ⟨Nat.lt_of_lt_of_le h1 ho.size,(cell_of_block e _).trans h2,(cell_of_block e _).trans h3,(cell_of_block e _).trans h4,fun k=>by
  have h6:=h5 k
  unfold World.frozen? at h6 ⊢
  rw [e];exact h6⟩
theorem take_yes {pb:Nat} {l:List UInt8} {f:Bool} {k:UInt8} {c:Int} (hk:(k.toNat:Int)=c) (h:tkI k l f=true):Hid (∀ w,PQ w pb l f→Calls Tryz.prog 214 #[.pointer (some ⟨pb,0,none⟩), .int .u8 c] w (StepQ w pb (.bool true) l.tail f)):=hide fun w hp=>by
 have:=take_any pb l f k c hk w hp
 rw [h,if_pos rfl] at this;exact this
theorem take_no {pb:Nat} {l:List UInt8} {f:Bool} {k:UInt8} {c:Int} (hk:(k.toNat:Int)=c) (h:tkI k l f=false):Hid (∀ w,PQ w pb l f→Calls Tryz.prog 214 #[.pointer (some ⟨pb,0,none⟩), .int .u8 c] w (StepQ w pb (.bool false) l f)):=hide fun w hp=>by
 have:=take_any pb l f k c hk w hp
 rw [h,if_neg (by simp)] at this;exact this
abbrev zObj:Obj:=.cells #[.int .i64 0, .string ⟨#[]⟩, .slice none 0 0] 52
theorem PQ.fail {w:World} {pb:Nat} {l:List UInt8} {f:Bool} (h:PQ w pb l f):PQ (w.setCell ⟨pb,1,none⟩ (.bool true)) pb l true:=by
 obtain ⟨h1,h2,h3,h4⟩:=h
 exact ⟨by simpa using h1,by simp [go_sem,h2],by simp [go_sem,h3],fun j=>by simp [go_sem,h4]⟩
theorem atom_word (pb:Nat) (l:List UInt8) (f:Bool) (w:World) (hl:l.length≤300) (h1:tkI 40 l f=false) (h2:tkI 126 l f=false) (h3:tkI 43 l f=false) (h:PQ w pb l f) :
 Calls Tryz.prog 213 #[.pointer (some ⟨pb,0,none⟩)] w (RetPI w pb (.mk 1 ⟨(l.take (nmI l)).toArray⟩ [],l.drop (nmI l),f||(nmI l==0))):=by
 have HB:=hide (belowAlloc w zObj)
 have BX:=hide (BoxR.new w 0 ⟨#[]⟩ ⟨none,0,0⟩ 52)
 have hz0:(w.alloc zObj).heap.size=w.heap.size+1:=by simp
 have hpw:=h.lt
 have hne:w.heap.size≠pb:=by omega
 have P0:=hide (h.allocNew zObj)
 have O0:=hide (Outside.of_below (lo:=pb) (hi:=pb+1) HB.out)
 have T1:=take_no (pb:=pb) (k:=40) (c:=40) rfl h1
 have T2:=take_no (pb:=pb) (k:=126) (c:=126) rfl h2
 have T3:=take_no (pb:=pb) (k:=43) (c:=43) rfl h3
 have HN:=hide (fun w' h'=>name_any pb l f w' hl h')
 have NZ:Hid ((strQ (l.take (nmI l))).toList=[]↔nmI l=0):=hide (by
  rw [ByteArray.toList_eq]
  have:=nmI_le l
  constructor
  ·intro e
   have e2:=congrArg List.length e
   simp [strQ] at e2
   rcases e2 with e2 | e2
   ·exact e2
   ·subst e2;rfl
  ·intro e;rw [e];rfl)
 have NE:Hid ((⟨(l.take (nmI l)).toArray⟩:ByteArray)=strQ (l.take (nmI l))):=hide rfl
 rw [NE.out]
 clear h1 h2 h3 h NE
 generalize strQ (l.take (nmI l))=nm at *
 generalize hr:l.drop (nmI l)=rest at *
 clear hr
 by_cases hz:nmI l=0
 ·have g:(nm.toList==[])=true:=by rw [beq_iff_eq];exact NZ.out.2 hz
  have RE:(f||(nmI l==0))=true:=by rw [hz];simp
  rw [RE]
  clear hz NZ RE
  go_enter Tryz.func213,Tryz.ntmps213
  go_wp2_with fail
  (with_reducible refine (T1.out _ P0.out).mono ?_);rintro e w1 ⟨rfl,hp1,ho1⟩
  go_wp2_with fail
  (with_reducible refine (T2.out _ hp1).mono ?_);rintro e w2 ⟨rfl,hp2,ho2⟩
  go_wp2_with fail
  (with_reducible refine (T3.out _ hp2).mono ?_);rintro e w3 ⟨rfl,hp3,ho3⟩
  go_wp2_with fail
  (with_reducible refine (HN.out _ hp3).mono ?_);rintro e w4 ⟨rfl,hp4,ho4⟩
  have OA:=hide (((ho1.trans ho2).trans ho3).trans ho4)
  obtain ⟨bl,r0,r1,r2,rf⟩:=BX.out.outP OA.out hne
  have HP4:=hide hp4
  obtain ⟨pl,p0,p1,pf⟩:=hp4
  have pf1:=pf 1
  have OO:=hide (O0.out.trans OA.out)
  have hbw:w.heap.size < w4.heap.size:=bl
  clear hp1 hp2 hp3 ho1 ho2 ho3 ho4 P0
  go_wp2_with fail
  refine bodyPost_ret (v:=.agg #[.int .i64 1, .string nm, .slice none 0 0]) (by simp [results,Tryz.results213,go_sem, *]) rfl ⟨1,nm,[],⟨none,0,0⟩,rfl,rfl, .nil, ?_, ?_⟩
  ·exact (((HP4.out.fail).setNew hne _ _).setNew hne _ _).setNew hne _ _
  ·exact (((OO.out.trans (outside_setQ _ _ _ _)).setNew (Nat.le_refl _) _ _).setNew (Nat.le_refl _) _ _).setNew (Nat.le_refl _) _ _
 ·have g:(nm.toList==[])=false:=by rw [beq_eq_false_iff_ne];exact fun e=>hz (NZ.out.1 e)
  have RE:(f||(nmI l==0))=f:=by rw [beq_eq_false_iff_ne.2 hz];simp
  rw [RE]
  clear hz NZ RE
  go_enter Tryz.func213,Tryz.ntmps213
  go_wp2_with fail
  (with_reducible refine (T1.out _ P0.out).mono ?_);rintro e w1 ⟨rfl,hp1,ho1⟩
  go_wp2_with fail
  (with_reducible refine (T2.out _ hp1).mono ?_);rintro e w2 ⟨rfl,hp2,ho2⟩
  go_wp2_with fail
  (with_reducible refine (T3.out _ hp2).mono ?_);rintro e w3 ⟨rfl,hp3,ho3⟩
  go_wp2_with fail
  (with_reducible refine (HN.out _ hp3).mono ?_);rintro e w4 ⟨rfl,hp4,ho4⟩
  have OA:=hide (((ho1.trans ho2).trans ho3).trans ho4)
  obtain ⟨bl,r0,r1,r2,rf⟩:=BX.out.outP OA.out hne
  have HP4:=hide hp4
  obtain ⟨pl,p0,p1,pf⟩:=hp4
  have pf1:=pf 1
  have OO:=hide (O0.out.trans OA.out)
  have hbw:w.heap.size < w4.heap.size:=bl
  clear hp1 hp2 hp3 ho1 ho2 ho3 ho4 P0
  go_wp2_with fail
  refine bodyPost_ret (v:=.agg #[.int .i64 1, .string nm, .slice none 0 0]) (by simp [results,Tryz.results213,go_sem, *]) rfl ⟨1,nm,[],⟨none,0,0⟩,rfl,rfl, .nil, ?_, ?_⟩
  ·exact (((HP4.out).setNew hne _ _).setNew hne _ _).setNew hne _ _
  ·exact ((OO.out.setNew (Nat.le_refl _) _ _).setNew (Nat.le_refl _) _ _).setNew (Nat.le_refl _) _ _
theorem atom_par (n:Nat) (IQ:LevelAt n) (pb:Nat) (l:List UInt8) (f:Bool) (w:World) (hl:l.length≤300) (h1:tkI 40 l f=true) (ex:Re) (l1:List UInt8) (f1:Bool) (hq:pI n (.level 3) l.tail f=some (ex,l1,f1)) (h:PQ w pb l f) :
 Calls Tryz.prog 213 #[.pointer (some ⟨pb,0,none⟩)] w (RetPI w pb (if tkI 41 l1 f1=true then (ex,l1.tail,f1) else (ex,l1,true))):=by
 have HB:=hide (belowAlloc w zObj)
 have BX:=hide (BoxR.new w 0 ⟨#[]⟩ ⟨none,0,0⟩ 52)
 have hz0:(w.alloc zObj).heap.size=w.heap.size+1:=by simp
 have hpw:=h.lt
 have hne:w.heap.size≠pb:=by omega
 have P0:=hide (h.allocNew zObj)
 have O0:=hide (Outside.of_below (lo:=pb) (hi:=pb+1) HB.out)
 have T1:=take_yes (pb:=pb) (k:=40) (c:=40) rfl h1
 have HQ:=hide (fun w' h'=>IQ pb 3 l.tail f (ex,l1,f1) w' hq (by simp;omega) (by omega) (by omega) h')
 obtain ⟨eo,en,ek⟩:=ex
 clear h1 hq h IQ
 by_cases hc:tkI 41 l1 f1=true
 ·rw [if_pos hc]
  have T2:=take_yes (pb:=pb) (k:=41) (c:=41) rfl hc
  clear hc
  go_enter Tryz.func213,Tryz.ntmps213
  go_wp2_with fail
  (with_reducible refine (T1.out _ P0.out).mono ?_);rintro e w1 ⟨rfl,hp1,ho1⟩
  go_wp2_with fail
  (with_reducible refine (HQ.out _ hp1).mono ?_);rintro e w2 ⟨eo',en',ek',s,he,rfl,own,hp2,ho2⟩
  simp only [Re.mk.injEq] at he
  obtain ⟨rfl,rfl,rfl⟩:=he
  have hz1:=ho1.size
  have hz2:=ho2.size
  rw [hz0] at hz1
  have O2:=hide (ho1.trans ho2)
  have X2:=hide (BX.out.outP O2.out hne)
  have HBL:=hide (belowAlloc w2 (.cells #[.int .i64 eo, .string en, .slice s.a s.n s.cap] 52))
  have BL:=hide (BoxR.new w2 eo en s 52)
  have HP3:=hide (hp2.allocNew (.cells #[.int .i64 eo, .string en, .slice s.a s.n s.cap] 52))
  have OWN:=hide (own.bel HBL.out)
  have hz3:(w2.alloc (.cells #[.int .i64 eo, .string en, .slice s.a s.n s.cap] 52)).heap.size=w2.heap.size+1:=by simp
  have X3:=hide (X2.out.below HBL.out)
  have hSq:∀ q,Made' w1 w2 q→w.heap.size+1≤q∧q < w2.heap.size:=fun q hq=>⟨by have:=hq.1;omega,hq.2⟩
  generalize Made' w1 w2=S at *
  have hSp:¬ S pb:=fun hq=>by have:=hSq _ hq;omega
  have hS0:¬ S w.heap.size:=fun hq=>by have:=hSq _ hq;omega
  have hbn:w2.heap.size≠pb:=by omega
  clear hp1 hp2 own X2 BX P0 HQ
  go_wp2_with fail
  (with_reducible refine (T2.out _ HP3.out).mono ?_);rintro e w4 ⟨rfl,hp4,ho4⟩
  have hz4:=ho4.size
  rw [hz3] at hz4
  have OO:=hide ((O0.out.trans O2.out).trans ((Outside.of_below (lo:=pb) (hi:=pb+1) HBL.out).trans ho4))
  obtain ⟨bl,r0,r1,r2,rf⟩:=X3.out.outP ho4 hne
  obtain ⟨cl,d0,d1,d2,df⟩:=BL.out.outP ho4 hbn
  have OWN4:=hide (OWN.out.outP ho4 hSp)
  have HP4:=hide hp4
  obtain ⟨pl,p0,p1,pf⟩:=hp4
  have pf1:=pf 1
  clear ho4 ho1 ho2 HP3 X3 BL OWN
  go_wp2_with fail
  refine bodyPost_ret (v:=.agg #[.int .i64 eo, .string en, .slice s.a s.n s.cap]) (by simp [results,Tryz.results213,go_sem, *]) rfl ⟨eo,en,ek,s,rfl,rfl, ?_, ?_, ?_⟩
  ·exact (((OWN4.out.set hS0 _ _).set hS0 _ _).set hS0 _ _).wide fun q hq=>⟨by have:=(hSq q hq).1;omega,by have:=(hSq q hq).2;simp;omega⟩
  ·exact (((HP4.out).setNew hne _ _).setNew hne _ _).setNew hne _ _
  ·exact ((OO.out.setNew (Nat.le_refl _) _ _).setNew (Nat.le_refl _) _ _).setNew (Nat.le_refl _) _ _
 ·rw [if_neg hc]
  have hc':tkI 41 l1 f1=false:=by simpa using hc
  have T2:=take_no (pb:=pb) (k:=41) (c:=41) rfl hc'
  clear hc hc'
  go_enter Tryz.func213,Tryz.ntmps213
  go_wp2_with fail
  (with_reducible refine (T1.out _ P0.out).mono ?_);rintro e w1 ⟨rfl,hp1,ho1⟩
  go_wp2_with fail
  (with_reducible refine (HQ.out _ hp1).mono ?_);rintro e w2 ⟨eo',en',ek',s,he,rfl,own,hp2,ho2⟩
  simp only [Re.mk.injEq] at he
  obtain ⟨rfl,rfl,rfl⟩:=he
  have hz1:=ho1.size
  have hz2:=ho2.size
  rw [hz0] at hz1
  have O2:=hide (ho1.trans ho2)
  have X2:=hide (BX.out.outP O2.out hne)
  have HBL:=hide (belowAlloc w2 (.cells #[.int .i64 eo, .string en, .slice s.a s.n s.cap] 52))
  have BL:=hide (BoxR.new w2 eo en s 52)
  have HP3:=hide (hp2.allocNew (.cells #[.int .i64 eo, .string en, .slice s.a s.n s.cap] 52))
  have OWN:=hide (own.bel HBL.out)
  have hz3:(w2.alloc (.cells #[.int .i64 eo, .string en, .slice s.a s.n s.cap] 52)).heap.size=w2.heap.size+1:=by simp
  have X3:=hide (X2.out.below HBL.out)
  have hSq:∀ q,Made' w1 w2 q→w.heap.size+1≤q∧q < w2.heap.size:=fun q hq=>⟨by have:=hq.1;omega,hq.2⟩
  generalize Made' w1 w2=S at *
  have hSp:¬ S pb:=fun hq=>by have:=hSq _ hq;omega
  have hS0:¬ S w.heap.size:=fun hq=>by have:=hSq _ hq;omega
  have hbn:w2.heap.size≠pb:=by omega
  clear hp1 hp2 own X2 BX P0 HQ
  go_wp2_with fail
  (with_reducible refine (T2.out _ HP3.out).mono ?_);rintro e w4 ⟨rfl,hp4,ho4⟩
  have hz4:=ho4.size
  rw [hz3] at hz4
  have OO:=hide ((O0.out.trans O2.out).trans ((Outside.of_below (lo:=pb) (hi:=pb+1) HBL.out).trans ho4))
  obtain ⟨bl,r0,r1,r2,rf⟩:=X3.out.outP ho4 hne
  obtain ⟨cl,d0,d1,d2,df⟩:=BL.out.outP ho4 hbn
  have OWN4:=hide (OWN.out.outP ho4 hSp)
  have HP4:=hide hp4
  obtain ⟨pl,p0,p1,pf⟩:=hp4
  have pf1:=pf 1
  clear ho4 ho1 ho2 HP3 X3 BL OWN
  go_wp2_with fail
  refine bodyPost_ret (v:=.agg #[.int .i64 eo, .string en, .slice s.a s.n s.cap]) (by simp [results,Tryz.results213,go_sem, *]) rfl ⟨eo,en,ek,s,rfl,rfl, ?_, ?_, ?_⟩
  ·exact ((((OWN4.out.set hSp _ _).set hS0 _ _).set hS0 _ _).set hS0 _ _).wide fun q hq=>⟨by have:=(hSq q hq).1;omega,by have:=(hSq q hq).2;simp;omega⟩
  ·exact (((HP4.out.fail).setNew hne _ _).setNew hne _ _).setNew hne _ _
  ·exact (((OO.out.trans (outside_setQ _ _ _ _)).setNew (Nat.le_refl _) _ _).setNew (Nat.le_refl _) _ _).setNew (Nat.le_refl _) _ _
theorem atom_un6 (n:Nat) (IP:AtomAt n) (pb:Nat) (l:List UInt8) (f:Bool) (w:World) (hl:l.length≤300) (h1:tkI 40 l f=false) (h3:tkI 126 l f=true) (ex:Re) (l1:List UInt8) (f1:Bool) (hq:pI n .atom l.tail f=some (ex,l1,f1)) (h:PQ w pb l f) :
 Calls Tryz.prog 213 #[.pointer (some ⟨pb,0,none⟩)] w (RetPI w pb (.mk 6 ⟨#[]⟩ [ex],l1,f1)):=by
 have HB:=hide (belowAlloc w zObj)
 have BX:=hide (BoxR.new w 0 ⟨#[]⟩ ⟨none,0,0⟩ 52)
 have hz0:(w.alloc zObj).heap.size=w.heap.size+1:=by simp
 have hpw:=h.lt
 have hne:w.heap.size≠pb:=by omega
 have P0:=hide (h.allocNew zObj)
 have O0:=hide (Outside.of_below (lo:=pb) (hi:=pb+1) HB.out)
 have T1:=take_no (pb:=pb) (k:=40) (c:=40) rfl h1
 have T3:=take_yes (pb:=pb) (k:=126) (c:=126) rfl h3
 have HQ:=hide (fun w' h'=>IP pb l.tail f (ex,l1,f1) w' hq (by simp;omega) h')
 obtain ⟨eo,en,ek⟩:=ex
 clear h1 h3 hq h IP
 go_enter Tryz.func213,Tryz.ntmps213
 go_wp2_with fail
 (with_reducible refine (T1.out _ P0.out).mono ?_);rintro e wa ⟨rfl,hpa,hoa⟩
 go_wp2_with fail
 (with_reducible refine (T3.out _ hpa).mono ?_);rintro e w1 ⟨rfl,hp1,ho1'⟩
 have ho1:=hoa.trans ho1'
 go_wp2_with fail
 (with_reducible refine (HQ.out _ hp1).mono ?_);rintro e w2 ⟨eo',en',ek',s,he,rfl,own,hp2,ho2⟩
 simp only [Re.mk.injEq] at he
 obtain ⟨rfl,rfl,rfl⟩:=he
 have hz1:=ho1.size
 have hz2:=ho2.size
 rw [hz0] at hz1
 have O2:=hide (ho1.trans ho2)
 obtain ⟨bl,r0,r1,r2,rf⟩:=BX.out.outP O2.out hne
 have OWN:=hide own
 have HP2:=hide hp2
 have hSq:∀ q,Made' w1 w2 q→w.heap.size+1≤q∧q < w2.heap.size:=fun q hq=>⟨by have:=hq.1;omega,hq.2⟩
 generalize Made' w1 w2=S at *
 have hS0:¬ S w.heap.size:=fun hq=>by have:=hSq _ hq;omega
 have OO:=hide (O0.out.trans O2.out)
 clear hp1 hp2 own BX P0 HQ hpa hoa ho1' ho1 ho2
 go_wp2_with fail
 refine bodyPost_ret (v:=.agg #[.int .i64 6, .string ⟨#[]⟩, .slice (some ⟨w2.heap.size,0,none⟩) 1 1]) (by simp [results,Tryz.results213,go_sem, *]) rfl ⟨6,⟨#[]⟩,[.mk eo en ek],⟨some ⟨w2.heap.size,0,none⟩,1,1⟩,rfl,rfl, ?_, ?_, ?_⟩
 ·have h2:=((OWN.out.set hS0 0 (.int .i64 6)).set hS0 1 (.string ⟨#[]⟩)).set hS0 2 (.slice (some ⟨w2.heap.size,0,none⟩) 1 1)
  have h3:=OwnR.one (S':=fun q=>w.heap.size+1≤q∧q < w2.heap.size+1) h2 (fun q hq=>by have:=(hSq q hq).2;simp;omega) (fun q hq=>⟨(hSq q hq).1,by have:=(hSq q hq).2;omega⟩) ⟨by simp;omega,by simp⟩ eo en
  refine OwnR.wide (S:=fun q=>w.heap.size+1≤q∧q < w2.heap.size+1) (by simpa using h3) fun q hq=>⟨by omega,by simp;omega⟩
 ·exact (((HP2.out.setNew hne _ _).setNew hne _ _).setNew hne _ _).allocNew _
 ·exact (((OO.out.setNew (Nat.le_refl _) _ _).setNew (Nat.le_refl _) _ _).setNew (Nat.le_refl _) _ _).allocNew _
theorem atom_un7 (n:Nat) (IP:AtomAt n) (pb:Nat) (l:List UInt8) (f:Bool) (w:World) (hl:l.length≤300) (h1:tkI 40 l f=false) (h2:tkI 126 l f=false) (h3:tkI 43 l f=true) (ex:Re) (l1:List UInt8) (f1:Bool) (hq:pI n .atom l.tail f=some (ex,l1,f1)) (h:PQ w pb l f) :
 Calls Tryz.prog 213 #[.pointer (some ⟨pb,0,none⟩)] w (RetPI w pb (.mk 7 ⟨#[]⟩ [ex],l1,f1)):=by
 have HB:=hide (belowAlloc w zObj)
 have BX:=hide (BoxR.new w 0 ⟨#[]⟩ ⟨none,0,0⟩ 52)
 have hz0:(w.alloc zObj).heap.size=w.heap.size+1:=by simp
 have hpw:=h.lt
 have hne:w.heap.size≠pb:=by omega
 have P0:=hide (h.allocNew zObj)
 have O0:=hide (Outside.of_below (lo:=pb) (hi:=pb+1) HB.out)
 have T1:=take_no (pb:=pb) (k:=40) (c:=40) rfl h1
 have T2:=take_no (pb:=pb) (k:=126) (c:=126) rfl h2
 have T3:=take_yes (pb:=pb) (k:=43) (c:=43) rfl h3
 have HQ:=hide (fun w' h'=>IP pb l.tail f (ex,l1,f1) w' hq (by simp;omega) h')
 obtain ⟨eo,en,ek⟩:=ex
 clear h1 h2 h3 hq h IP
 go_enter Tryz.func213,Tryz.ntmps213
 go_wp2_with fail
 (with_reducible refine (T1.out _ P0.out).mono ?_);rintro e wa ⟨rfl,hpa,hoa⟩
 go_wp2_with fail
 (with_reducible refine (T2.out _ hpa).mono ?_);rintro e wb ⟨rfl,hpb,hob⟩
 go_wp2_with fail
 (with_reducible refine (T3.out _ hpb).mono ?_);rintro e w1 ⟨rfl,hp1,ho1'⟩
 have ho1:=(hoa.trans hob).trans ho1'
 go_wp2_with fail
 (with_reducible refine (HQ.out _ hp1).mono ?_);rintro e w2 ⟨eo',en',ek',s,he,rfl,own,hp2,ho2⟩
 simp only [Re.mk.injEq] at he
 obtain ⟨rfl,rfl,rfl⟩:=he
 have hz1:=ho1.size
 have hz2:=ho2.size
 rw [hz0] at hz1
 have O2:=hide (ho1.trans ho2)
 obtain ⟨bl,r0,r1,r2,rf⟩:=BX.out.outP O2.out hne
 have OWN:=hide own
 have HP2:=hide hp2
 have hSq:∀ q,Made' w1 w2 q→w.heap.size+1≤q∧q < w2.heap.size:=fun q hq=>⟨by have:=hq.1;omega,hq.2⟩
 generalize Made' w1 w2=S at *
 have hS0:¬ S w.heap.size:=fun hq=>by have:=hSq _ hq;omega
 have OO:=hide (O0.out.trans O2.out)
 clear hp1 hp2 own BX P0 HQ hpa hoa ho1' ho1 ho2
 go_wp2_with fail
 refine bodyPost_ret (v:=.agg #[.int .i64 7, .string ⟨#[]⟩, .slice (some ⟨w2.heap.size,0,none⟩) 1 1]) (by simp [results,Tryz.results213,go_sem, *]) rfl ⟨7,⟨#[]⟩,[.mk eo en ek],⟨some ⟨w2.heap.size,0,none⟩,1,1⟩,rfl,rfl, ?_, ?_, ?_⟩
 ·have h2:=((OWN.out.set hS0 0 (.int .i64 7)).set hS0 1 (.string ⟨#[]⟩)).set hS0 2 (.slice (some ⟨w2.heap.size,0,none⟩) 1 1)
  have h3:=OwnR.one (S':=fun q=>w.heap.size+1≤q∧q < w2.heap.size+1) h2 (fun q hq=>by have:=(hSq q hq).2;simp;omega) (fun q hq=>⟨(hSq q hq).1,by have:=(hSq q hq).2;omega⟩) ⟨by simp;omega,by simp⟩ eo en
  refine OwnR.wide (S:=fun q=>w.heap.size+1≤q∧q < w2.heap.size+1) (by simpa using h3) fun q hq=>⟨by omega,by simp;omega⟩
 ·exact (((HP2.out.setNew hne _ _).setNew hne _ _).setNew hne _ _).allocNew _
 ·exact (((OO.out.setNew (Nat.le_refl _) _ _).setNew (Nat.le_refl _) _ _).setNew (Nat.le_refl _) _ _).allocNew _
theorem atom_step (n:Nat) (IP:AtomAt n) (IQ:LevelAt n):AtomAt (n+1):=by
 intro pb l f r w h hl hp
 unfold pI at h
 split at h
 ·rename_i h1
  split at h
  ·cases h
  ·rename_i e l1 f1 hq
   have h2:=atom_par n IQ pb l f w hl h1 e l1 f1 hq hp
   split at h
   ·rename_i hb
    rw [if_pos hb] at h2
    simp only [Option.some.injEq] at h;subst h;exact h2
   ·rename_i hb
    rw [if_neg hb] at h2
    simp only [Option.some.injEq] at h;subst h;exact h2
 ·rename_i h1
  have h1':tkI 40 l f=false:=by simpa using h1
  split at h
  ·rename_i h2
   split at h
   ·cases h
   ·rename_i e l1 f1 hq
    simp only [Option.some.injEq] at h;subst h
    exact atom_un6 n IP pb l f w hl h1' h2 e l1 f1 hq hp
  ·rename_i h2
   have h2':tkI 126 l f=false:=by simpa using h2
   split at h
   ·rename_i h3
    split at h
    ·cases h
    ·rename_i e l1 f1 hq
     simp only [Option.some.injEq] at h;subst h
     exact atom_un7 n IP pb l f w hl h1' h2' h3 e l1 f1 hq hp
   ·rename_i h3
    simp only [Option.some.injEq] at h;subst h
    exact atom_word pb l f w hl h1' h2' (by simpa using h3) hp
end Go.Proofs.YtfbgppkdnfljhaaGreatDoor