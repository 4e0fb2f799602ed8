/-
  What the program reads as one expression. Condition: a bound on the text.
-/
import Derived.Test.YtfbgppkdnfljhaaGreatDoorZt30
import Derived.Test.YtfbgppkdnfljhaaGreatDoorZt32
set_option maxHeartbeats 6400000
set_option maxRecDepth 100000
namespace Go.Proofs.YtfbgppkdnfljhaaGreatDoor
open Go.RowKit
def TextAtI (d:Nat):Prop:=∀ (c:Re) (L:Int) (a:Option Addr) (n cp:Nat) (w:World),shapeR d c=true→nodesR c≤400→RepRk 0 w ⟨a,n,cp⟩ c.kids→0≤L→L≤3 →
 Calls Tryz.prog 215 #[.agg #[.int .i64 c.op, .string c.nm, .slice a n cp], .int .i64 L] w fun e w'=>e = .returned (.string (partR c.op L (textR d c)))∧Below w.heap.size w w'
theorem textI_zero (o L:Int) (nm:ByteArray) (a:Option Addr) (n c:Nat) (w:World) (ho:o=1) (h0:0≤L) (h3:L≤3) :
 Calls Tryz.prog 215 #[.agg #[.int .i64 o, .string nm, .slice a n c], .int .i64 L] w fun e w'=>e = .returned (.string (partR o L nm))∧Below w.heap.size w w':=by
 subst ho
 have HB:=hide (belowAlloc w (.cells #[.int .i64 1, .string nm, .slice a n c] 52))
 have HK:Hid (∀ w',Calls Tryz.prog 169 #[.int .i64 1] w' fun e w''=>e = .returned (.tuple #[.int .i64 0, .string ⟨#[]⟩, .int .i64 0])∧w'=w''):=hide (fun w'=>relLevel_all 1 (by omega) (by omega) w')
 have hl:decide ((0:Int) > L)=false:=decide_eq_false (by omega)
 have PE:Hid (partR 1 L nm=nm):=hide (by unfold partR;rw [if_neg];show ¬ (0:Int) > L;omega)
 generalize partR 1 L nm=R at *
 go_enter Tryz.func215,Tryz.ntmps215
 go_wp2_with fail
 (with_reducible refine (HK.out _).mono ?_);rintro e w1 ⟨rfl,rfl⟩
 go_wp2_with fail
 go_ret
 exact ⟨by rw [PE.out];rfl,HB.out⟩
theorem textI_one (o k0 L:Int) (nm kn t:ByteArray) (b q cp:Nat) (ka:Option Addr) (kl kc:Nat) (w:World) (ho:o=6∨o=7) (hL0:0≤L) (hL3:L≤3) (hz:t.size≤4096) (i0:w.cell? ⟨b,q,none⟩=some (.int .i64 k0)) (i1:w.cell? ⟨b,q+1,none⟩=some (.string kn)) (i2:w.cell? ⟨b,q+2,none⟩=some (.slice ka kl kc))
 (ht:∀ w',Below w.heap.size w w'→Calls Tryz.prog 215 #[.agg #[.int .i64 k0, .string kn, .slice ka kl kc], .int .i64 0] w' fun e w''=>e = .returned (.string t)∧Below w'.heap.size w' w'') :
 Calls Tryz.prog 215 #[.agg #[.int .i64 o, .string nm, .slice (some ⟨b,q,none⟩) 1 cp], .int .i64 L] w fun e w'=>e = .returned (.string (partR o L (sgnR o++t)))∧Below w.heap.size w w':=by
 have HB:=hide (belowAlloc w (.cells #[.int .i64 o, .string nm, .slice (some ⟨b,q,none⟩) 1 cp] 52))
 have X:=hide (BoxR.new w o nm ⟨some ⟨b,q,none⟩,1,cp⟩ 52)
 have j0:=(HB.out.cell (p:=⟨b,q,none⟩) (lt_of_cell i0)).trans i0
 have j1:=(HB.out.cell (p:=⟨b,q+1,none⟩) (lt_of_cell i0)).trans i1
 have j2:=(HB.out.cell (p:=⟨b,q+2,none⟩) (lt_of_cell i0)).trans i2
 have hlv:lvlR o=0:=by rcases ho with rfl | rfl <;> rfl
 have hks:kidsO o=1:=by rcases ho with rfl | rfl <;> rfl
 have HK:=hide (fun w'=>relLevel_all o (by omega) (by omega) w')
 have PE:Hid (partR o L (sgnR o++t)=sgnR o++t):=hide (by unfold partR;rw [if_neg];rw [hlv];omega)
 rw [hlv,hks] at HK
 have zs:=sgnR_size o
 generalize partR o L (sgnR o++t)=R at *
 generalize sgnR o=sg at *
 have hl:decide ((0:Int) > L)=false:=decide_eq_false (by omega)
 have HT:=hide (fun (y:BW (w.alloc (.cells #[.int .i64 o, .string nm, .slice (some ⟨b,q,none⟩) 1 cp] 52)))=>ht y.val (HB.out.trans (y.prop.mono HB.out.size)))
 clear ho hlv hks i0 i1 i2 ht
 generalize hW:w.alloc (.cells #[.int .i64 o, .string nm, .slice (some ⟨b,q,none⟩) 1 cp] 52)=W at *
 obtain ⟨el,e0,e1,e2, -⟩:=X.out
 have jl:=lt_of_cell j0
 go_enter Tryz.func215,Tryz.ntmps215
 go_wp2_with fail
 clear hW
 (with_reducible refine (HK.out _).mono ?_);rintro e w1 ⟨rfl,rfl⟩
 go_wp2_with fail
 (with_reducible refine (HT.out ⟨_,Below.refl _ _⟩).mono ?_);rintro e w2 ⟨rfl,hb2⟩
 have HB5:=hide (HB.out.trans (hb2.mono HB.out.size))
 clear hb2 e0 e1 e2 j0 j1 j2
 go_wp2_with fail
 go_ret
 exact ⟨by rw [PE.out];rfl,HB5.out⟩
theorem textI_two (o L k0 h0':Int) (nm kn h1' t t':ByteArray) (b q cp:Nat) (ka ha:Option Addr) (kl kc hl hc:Nat) (w:World) (h2:2≤o) (h5:o≤5) (hz:t.size≤4096) (hz':t'.size≤4096) (i0:w.cell? ⟨b,q,none⟩=some (.int .i64 k0)) (i1:w.cell? ⟨b,q+1,none⟩=some (.string kn)) (i2:w.cell? ⟨b,q+2,none⟩=some (.slice ka kl kc))
 (i3:w.cell? ⟨b,q+3,none⟩=some (.int .i64 h0')) (i4:w.cell? ⟨b,q+4,none⟩=some (.string h1')) (i5:w.cell? ⟨b,q+5,none⟩=some (.slice ha hl hc))
 (ht:∀ w',Below w.heap.size w w'→Calls Tryz.prog 215 #[.agg #[.int .i64 k0, .string kn, .slice ka kl kc], .int .i64 (lvlR o)] w' fun e w''=>e = .returned (.string t)∧Below w'.heap.size w' w'')
 (ht':∀ w',Below w.heap.size w w'→Calls Tryz.prog 215 #[.agg #[.int .i64 h0', .string h1', .slice ha hl hc], .int .i64 (lvlR o - 1)] w' fun e w''=>e = .returned (.string t')∧Below w'.heap.size w' w'') :
 Calls Tryz.prog 215 #[.agg #[.int .i64 o, .string nm, .slice (some ⟨b,q,none⟩) 2 cp], .int .i64 L] w fun e w'=>e = .returned (.string (partR o L (t++sgnR o++t')))∧Below w.heap.size w w':=by
 have HB:=hide (belowAlloc w (.cells #[.int .i64 o, .string nm, .slice (some ⟨b,q,none⟩) 2 cp] 52))
 have X:=hide (BoxR.new w o nm ⟨some ⟨b,q,none⟩,2,cp⟩ 52)
 have j0:=(HB.out.cell (p:=⟨b,q,none⟩) (lt_of_cell i0)).trans i0
 have j1:=(HB.out.cell (p:=⟨b,q+1,none⟩) (lt_of_cell i0)).trans i1
 have j2:=(HB.out.cell (p:=⟨b,q+2,none⟩) (lt_of_cell i0)).trans i2
 have j3:=(HB.out.cell (p:=⟨b,q+3,none⟩) (lt_of_cell i0)).trans i3
 have j4:=(HB.out.cell (p:=⟨b,q+4,none⟩) (lt_of_cell i0)).trans i4
 have j5:=(HB.out.cell (p:=⟨b,q+5,none⟩) (lt_of_cell i0)).trans i5
 have HK:=hide (fun w'=>relLevel_op o h2 h5 w')
 have PE:Hid (partR o L (t++sgnR o++t')=if lvlR o > L then ⟨#[40]⟩++(t++sgnR o++t')++⟨#[41]⟩ else t++sgnR o++t'):=hide rfl
 have zs:=sgnR_size o
 generalize partR o L (t++sgnR o++t')=R at *
 generalize sgnR o=sg at *
 have hlv:0≤lvlR o∧lvlR o≤3:=by unfold lvlR;repeat (first | omega | split)
 have HT:=hide (fun (y:BW (w.alloc (.cells #[.int .i64 o, .string nm, .slice (some ⟨b,q,none⟩) 2 cp] 52)))=>ht y.val (HB.out.trans (y.prop.mono HB.out.size)))
 have HT':=hide (fun (y:BW (w.alloc (.cells #[.int .i64 o, .string nm, .slice (some ⟨b,q,none⟩) 2 cp] 52)))=>ht' y.val (HB.out.trans (y.prop.mono HB.out.size)))
 clear h2 h5 i0 i1 i2 i3 i4 i5 ht ht'
 obtain ⟨lv0,lv3⟩:=hlv
 generalize lvlR o=lv at *
 generalize hW:w.alloc (.cells #[.int .i64 o, .string nm, .slice (some ⟨b,q,none⟩) 2 cp] 52)=W at *
 obtain ⟨el,e0,e1,e2, -⟩:=X.out
 have jl:=lt_of_cell j0
 by_cases hg:lv > L
 ·have hg':decide (lv > L)=true:=decide_eq_true hg
  obtain rfl:R=⟨#[40]⟩++(t++sg++t')++⟨#[41]⟩:=by rw [PE.out,if_pos hg]
  clear hg PE
  go_enter Tryz.func215,Tryz.ntmps215
  go_wp2_with fail
  clear hW
  (with_reducible refine (HK.out _).mono ?_);rintro e w1 ⟨rfl,rfl⟩
  go_wp2_with fail
  refine wp_region_bw (by kernel_rfl) (by kernel_rfl) ?_
  repeat (go_big_quiet_step ((go_at_call 215;first | (with_reducible exact Calls.bw (HT.out _)) | (with_reducible exact Calls.bw (HT'.out _)))))
  refine wpQuiet_nil ?_
  intro w5 hb5
  have HB5:=hide (HB.out.trans (hb5.mono HB.out.size))
  clear hb5 e0 e1 e2 j0 j1 j2 j3 j4 j5
  go_wp2_with fail
  go_ret
  exact ⟨rfl,HB5.out⟩
 ·have hg':decide (lv > L)=false:=decide_eq_false hg
  obtain rfl:R=t++sg++t':=by rw [PE.out,if_neg hg]
  clear hg PE
  go_enter Tryz.func215,Tryz.ntmps215
  go_wp2_with fail
  clear hW
  (with_reducible refine (HK.out _).mono ?_);rintro e w1 ⟨rfl,rfl⟩
  go_wp2_with fail
  refine wp_region_bw (by kernel_rfl) (by kernel_rfl) ?_
  repeat (go_big_quiet_step ((go_at_call 215;first | (with_reducible exact Calls.bw (HT.out _)) | (with_reducible exact Calls.bw (HT'.out _)))))
  refine wpQuiet_nil ?_
  intro w5 hb5
  have HB5:=hide (HB.out.trans (hb5.mono HB.out.size))
  clear hb5 e0 e1 e2 j0 j1 j2 j3 j4 j5
  go_wp2_with fail
  go_ret
  exact ⟨rfl,HB5.out⟩
theorem relText_any:∀ d,TextAtI d:=by
 intro d
 induction d with
 | zero=>intro c L a n cp w h;simp [shapeR] at h
 | succ d ih =>
  intro c L a n cp w hs hnd hk hL0 hL3
  obtain ⟨hne,hks⟩:=(shapeR_succ d c).1 hs
  have hkn:=hk.open.1
  simp only at hkn
  rcases node_cases hne with ⟨hop,hnm⟩ | ⟨hop,k,hkk⟩ | ⟨hop,k,k',hkk⟩
  ·rw [textR_zero (by rw [hop];rfl)]
   exact textI_zero c.op L c.nm a n cp w hop hL0 hL3
  ·have h0:c.kids[0]? = some k:=by rw [hkk];rfl
   have er:kidR c 0=k:=by simp [kidR,hkk]
   have ho:kidsO c.op=1:=by rcases hop with e | e <;> rw [e] <;> rfl
   obtain ⟨b,q,s,rfl,hbl,i0,i1,i2,i3⟩:=hk.kid h0
   simp only [Nat.zero_mul,Nat.add_zero] at i0 i1 i2
   obtain rfl:n=1:=by rw [hkn,hkk];rfl
   have h3:=nodesR_one hkk
   have hz:=textR_size d k (hks k (by simp [hkk]))
   have hz2:=partR_size k.op 0 (textR d k)
   rw [textR_one ho,er]
   exact textI_one c.op k.op L c.nm k.nm _ b q cp s.a s.n s.cap w hop hL0 hL3 (by omega) i0 i1 i2 (fun w' hb=>ih k 0 s.a s.n s.cap w' (hks k (by simp [hkk])) (by omega) (i3.below hb) (by omega) (by omega))
  ·have h0:c.kids[0]? = some k:=by rw [hkk];rfl
   have h1:c.kids[1]? = some k':=by rw [hkk];rfl
   have er:kidR c 0=k:=by simp [kidR,hkk]
   have er':kidR c 1=k':=by simp [kidR,hkk]
   have ho:kidsO c.op=2:=by rcases hop with e | e | e | e <;> rw [e] <;> rfl
   have ho2:2≤c.op∧c.op≤5:=by omega
   have hlv:1≤lvlR c.op∧lvlR c.op≤3:=by rcases hop with e | e | e | e <;> rw [e] <;> decide
   obtain ⟨b,q,s,rfl,hbl,i0,i1,i2,i3⟩:=hk.kid h0
   obtain ⟨b',q',s',hbq,hbl',j0,j1,j2,j3⟩:=hk.kid h1
   simp only [Option.some.injEq,Addr.mk.injEq,and_true] at hbq
   obtain ⟨rfl,rfl⟩:=hbq
   simp only [Nat.zero_mul,Nat.add_zero,Nat.one_mul,Nat.add_assoc,Nat.reduceAdd] at i0 i1 i2 j0 j1 j2
   obtain rfl:n=2:=by rw [hkn,hkk];rfl
   have h3:=nodesR_two hkk
   have hz:=textR_size d k (hks k (by simp [hkk]))
   have hz2:=partR_size k.op (lvlR c.op) (textR d k)
   have hy:=textR_size d k' (hks k' (by simp [hkk]))
   have hy2:=partR_size k'.op (lvlR c.op - 1) (textR d k')
   rw [textR_two ho,er,er']
   exact textI_two c.op L k.op k'.op c.nm k.nm k'.nm _ _ b q cp s.a s'.a s.n s.cap s'.n s'.cap w ho2.1 ho2.2 (by omega) (by omega) i0 i1 i2 j0 j1 j2 (fun w' hb=>ih k _ s.a s.n s.cap w' (hks k (by simp [hkk])) (by omega) (i3.below hb) (by omega) (by omega)) (fun w' hb=>ih k' _ s'.a s'.n s'.cap w' (hks k' (by simp [hkk])) (by omega) (j3.below hb) (by omega) (by omega))
theorem FormatRelExpr_any (c:Re) (a:Option Addr) (n cp:Nat) (w:World) (hv:validR c=true) (hk:RepRk 0 w ⟨a,n,cp⟩ c.kids) (hg:Glob w) :
 Calls Tryz.prog 167 #[.agg #[.int .i64 c.op, .string c.nm, .slice a n cp]] w fun e w'=>e = .returned (.string (textR 12 c))∧Below w.heap.size w w':=by
 have hs:shapeR 12 c=true:=by unfold validR at hv;simp only [Bool.and_eq_true] at hv;exact hv.1
 have hn:nodesR c≤40:=by unfold validR at hv;simp only [Bool.and_eq_true,decide_eq_true_eq] at hv;exact hv.2
 have HB:=hide (belowAlloc w (.cells #[.int .i64 c.op, .string c.nm, .slice a n cp] 52))
 have X:=hide (BoxR.new w c.op c.nm ⟨a,n,cp⟩ 52)
 have HV:=hide (RelExprValid_raw c.op c.nm c.kids a n cp _ (hk.below HB.out) (hg.below HB.out))
 rw [Re.eta,hv] at HV
 have HT:=hide (fun w' (hb:Below w.heap.size w w')=>relText_any 12 c 3 a n cp w' hs (by omega) (hk.below hb) (by omega) (by omega))
 have hp:partR c.op 3 (textR 12 c)=textR 12 c:=by
  unfold partR
  rw [if_neg]
  have:lvlR c.op≤3:=by unfold lvlR;repeat (first | omega | split)
  omega
 rw [hp] at HT
 clear hv hk hs hn hp hg
 generalize textR 12 c=t at *
 generalize hW:w.alloc (.cells #[.int .i64 c.op, .string c.nm, .slice a n cp] 52)=W at *
 obtain ⟨el,e0,e1,e2, -⟩:=X.out
 go_enter Tryz.func167,Tryz.ntmps167
 go_wp2_with fail
 clear hW
 (with_reducible refine HV.out.mono ?_);rintro e w1 ⟨rfl,hb1⟩
 have d0:=(hb1.cell (p:=⟨w.heap.size,0,none⟩) el).trans e0
 have d1:=(hb1.cell (p:=⟨w.heap.size,1,none⟩) el).trans e1
 have d2:=(hb1.cell (p:=⟨w.heap.size,2,none⟩) el).trans e2
 have dl:=lt_of_cell d0
 have HB1:=hide (HB.out.trans (hb1.mono HB.out.size))
 have HT1:=hide (HT.out _ HB1.out)
 clear e0 e1 e2 el hb1 HV X HT
 go_wp2_with fail
 (with_reducible refine HT1.out.mono ?_);rintro e w2 ⟨rfl,hb2⟩
 go_wp2_with fail
 go_ret
 exact ⟨rfl,HB1.out.trans (hb2.mono HB1.out.size)⟩
end Go.Proofs.YtfbgppkdnfljhaaGreatDoor
namespace Go.Proofs.YtfbgppkdnfljhaaGreatDoor
open Go.RowKit
theorem level_step (n:Nat) (IP:AtomAt n) (IQ:∀ m,m≤n→LevelAt m):LevelAt (n+1):=by
 intro pb lv l f r w h hl h0 h3 hp
 unfold pI at h
 split at h
 ·rename_i hz
  subst hz
  exact level_zero n IP pb l f r w h hl hp
 ·rename_i hz
  split at h
  ·cases h
  ·rename_i e l1 f1 hq
   exact level_more n IQ pb lv l f e l1 f1 r w hq h hl (by omega) h3 hp
theorem pI_all:∀ n m,m≤n→AtomAt m∧LevelAt m:=by
 intro n
 induction n with
 | zero =>
  intro m hm
  obtain rfl:m=0:=by omega
  exact ⟨fun pb l f r w h=>by simp [pI] at h,fun pb lv l f r w h=>by simp [pI] at h⟩
 | succ n ih =>
  intro m hm
  by_cases he:m≤n
  ·exact ih m he
  ·obtain rfl:m=n+1:=by omega
   exact ⟨atom_step n (ih n (Nat.le_refl _)).1 (ih n (Nat.le_refl _)).2,level_step n (ih n (Nat.le_refl _)).1 fun m hm=>(ih m hm).2⟩
theorem PQ.new (w:World) (l:List UInt8) (T:TypeId):PQ (w.alloc (.cells #[.string (strQ l), .bool false] T)) w.heap.size l false:=
 ⟨by simp,by simp [go_sem],by simp [go_sem],fun j=>by simp [go_sem]⟩
theorem ParseRelExpr_ok (s:ByteArray) (hs:s.size≤300) (f:Nat) (c:Re) (h:pI f (.level 3) s.data.toList false=some (c,[],false)) (hv:validR c=true) (ht:textR 12 c=s) (hne:0 < s.size) (w:World) (hg:Glob w) :
 Calls Tryz.prog 123 #[.string s] w (RetPE w c):=by
 have HB:=hide (belowAlloc w zObj)
 have X:=hide (BoxR.new w 0 ⟨#[]⟩ ⟨none,0,0⟩ 52)
 have hz0:(w.alloc zObj).heap.size=w.heap.size+1:=by simp
 have HBP:=hide (belowAlloc (w.alloc zObj) (.cells #[.string s, .bool false] 195))
 have hzp:((w.alloc zObj).alloc (.cells #[.string s, .bool false] 195)).heap.size=w.heap.size+2:=by simp
 have HPN:=hide (PQ.new (w.alloc zObj) s.data.toList 195)
 rw [strQ_data,hz0] at HPN
 have HP:=hide (fun w' h'=>(pI_all f f (Nat.le_refl _)).2 (w.heap.size+1) 3 s.data.toList false _ w' h (by simp;omega) (by omega) (by omega) h')
 have HF:=hide (fun (a:Option Addr) n cp w' (hk:RepRk 0 w' ⟨a,n,cp⟩ c.kids) hg=>FormatRelExpr_any c a n cp w' hv hk hg)
 rw [ht] at HF
 have HG:=hide hg
 have hss:(s.toList==s.toList)=true:=by simp
 have hse:(s.toList==[])=false:=by
  rw [beq_eq_false_iff_ne]
  intro e
  have h1:s.toList.length=s.size:=by rw [ByteArray.toList_eq];simp
  rw [e] at h1
  simp at h1;omega
 have hlen:¬ (s.size:Int) > 300:=by omega
 have X1:=hide (X.out.below HBP.out)
 have HB1:=hide (HB.out.trans (HBP.out.mono HB.out.size))
 clear h hv ht hg X HBP HB
 generalize hWp:(w.alloc zObj).alloc (.cells #[.string s, .bool false] 195)=W at *
 go_enter Tryz.func123,Tryz.ntmps123
 go_wp2_with fail
 clear hWp
 (with_reducible refine (HP.out _ HPN.out).mono ?_);rintro e w1 ⟨eo,en,ek,sk,he,rfl,own,hp1,ho1⟩
 simp only at he hp1
 subst he
 have hz1:=ho1.size
 rw [hzp] at hz1
 have X2:=hide (X1.out.outP ho1 (show w.heap.size≠w.heap.size+1 by omega))
 have HB2:=hide (HB1.out.trans (below_of_outside ho1 (show w.heap.size≤w.heap.size+1 by omega) (by omega)))
 have HBL:=hide (belowAlloc w1 (.cells #[.int .i64 eo, .string en, .slice sk.a sk.n sk.cap] 52))
 have BL:=hide (BoxR.new w1 eo en sk 52)
 have OWN:=hide (own.bel HBL.out)
 have X3:=hide (X2.out.below HBL.out)
 have HB3:=hide (HB2.out.trans (HBL.out.mono HB2.out.size))
 have hf1:=HF.out sk.a sk.n sk.cap _ (OWN.out.rep (lo:=0) (fun q _=>Nat.zero_le _)) (HG.out.below HB3.out)
 simp only [Re.op,Re.nm] at hf1
 have HF1:=hide hf1
 clear hf1
 obtain ⟨pl,p0,p1,pf⟩:=hp1.below HBL.out
 rw [strQ_nil] at p0
 obtain ⟨bl,b0,b1,b2, -⟩:=BL.out
 have hz2:(w1.alloc (.cells #[.int .i64 eo, .string en, .slice sk.a sk.n sk.cap] 52)).heap.size=w1.heap.size+1:=by simp
 clear own hp1 ho1 HP X1 X2 HF HPN
 generalize hW2:w1.alloc (.cells #[.int .i64 eo, .string en, .slice sk.a sk.n sk.cap] 52)=W2 at *
 go_wp2_with fail
 clear hW2
 (with_reducible refine HF1.out.mono ?_);rintro e w3 ⟨rfl,hb3⟩
 clear pl p0 p1 pf bl b0 b1 b2
 obtain ⟨bl,b0,b1,b2, -⟩:=BL.out.below hb3
 obtain ⟨cl,r0,r1,r2,rf⟩:=X3.out.below hb3
 have HB4:=hide (HB3.out.trans (hb3.mono HB3.out.size))
 have OWN3:=hide (OWN.out.bel hb3)
 have hz3:=hb3.size
 rw [hz2] at hz3
 have hS0:¬ Made' W w1 w.heap.size:=fun hq=>by have:=hq.1;omega
 clear hb3 HF1
 go_wp2_with fail
 refine bodyPost_ret (v:=.tuple #[.agg #[.int .i64 eo, .string en, .slice sk.a sk.n sk.cap], .bool true]) (by simp [results,Tryz.results123,go_sem, *]) rfl ⟨sk,rfl, ?_, ?_⟩
 ·refine (((OWN3.out.set hS0 _ _).set hS0 _ _).set hS0 _ _).wide fun q hq=>⟨?_, ?_⟩
  ·have:=hq.1;omega
  ·have:=hq.2;simp;omega
 ·exact ((HB4.out.setCell (Nat.le_refl _) _).setCell (Nat.le_refl _) _).setCell (Nat.le_refl _) _
end Go.Proofs.YtfbgppkdnfljhaaGreatDoor