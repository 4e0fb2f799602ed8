/-
  Fences taken away: the outcomes stay (buffers), none is added with one memory (plain law). Condition: valid instructions.
-/
import Derived.Test.YtlddmagfbcomgaaZr04
import Derived.Test.YtlddmagfbcomgaaZr05
import Derived.Test.YtlddmagfbcomgaaZr00
import Derived.Deep.RegionHeld3
import Derived.Deep.DeepCutAuto
import Derived.Test.YtlddmagfbcomgaaZr03
set_option maxHeartbeats 6400000
set_option maxRecDepth 100000
namespace Go.Proofs.Ytlddmagfbcomgaa
open Go.RowKit
theorem numLit3 (b:Nat) (a:Option Addr) (c:Nat) (xs:List Int) (p:Int) (y0 y1 y2:Int) (w':World) (G:Nat) (hG:w'.heap.size=G) (hb:b < G) (h:Rd (w'.alloc (.cells #[.int .i64 y0, .int .i64 y1, .int .i64 y2] 3)) b a c xs p) (hp:p≤1000000000) :
 Calls Try.prog 38 #[.pointer (some ⟨b,0,none⟩), .slice (some ⟨G,0,none⟩) 3 3] (w'.alloc (.cells #[.int .i64 y0, .int .i64 y1, .int .i64 y2] 3)) (RetRd (w'.alloc (.cells #[.int .i64 y0, .int .i64 y1, .int .i64 y2] 3)) b a c xs p 1 (OneOf [y0,y1,y2])):=by
 subst hG
 exact num_any b a c xs p (Value.slice (some (Addr.mk w'.heap.size 0 none)) 3 3) [y0,y1,y2] _ h hp (rep_lit w' [y0,y1,y2] 3 (by simp)) (by simp) (by simp) (by intro g o e;simp at e;omega)
theorem numLit5 (b:Nat) (a:Option Addr) (c:Nat) (xs:List Int) (p:Int) (y0 y1 y2 y3 y4:Int) (w':World) (G:Nat) (hG:w'.heap.size=G) (hb:b < G) (h:Rd (w'.alloc (.cells #[.int .i64 y0, .int .i64 y1, .int .i64 y2, .int .i64 y3, .int .i64 y4] 3)) b a c xs p) (hp:p≤1000000000) :
 Calls Try.prog 38 #[.pointer (some ⟨b,0,none⟩), .slice (some ⟨G,0,none⟩) 5 5] (w'.alloc (.cells #[.int .i64 y0, .int .i64 y1, .int .i64 y2, .int .i64 y3, .int .i64 y4] 3)) (RetRd (w'.alloc (.cells #[.int .i64 y0, .int .i64 y1, .int .i64 y2, .int .i64 y3, .int .i64 y4] 3)) b a c xs p 1 (OneOf [y0,y1,y2,y3,y4])):=by
 subst hG
 exact num_any b a c xs p (Value.slice (some (Addr.mk w'.heap.size 0 none)) 5 5) [y0,y1,y2,y3,y4] _ h hp (rep_lit w' [y0,y1,y2,y3,y4] 3 (by simp)) (by simp) (by simp) (by intro g o e;simp at e;omega)
end Go.Proofs.Ytlddmagfbcomgaa
namespace Go.Proofs.Ytlddmagfbcomgaa
open Go.RowKit
end Go.Proofs.Ytlddmagfbcomgaa
namespace Go.Proofs.Ytlddmagfbcomgaa
open Go.RowKit
def RetOpen (w:World) (e:Ending) (w':World):Prop:=∃ (B:Nat) (a:Option Addr) (c:Nat) (xs:List Int),e = .returned (.pointer (some ⟨B,0,none⟩))∧Rd w' B a c xs 0∧w.heap.size≤B∧Below w.heap.size w w'
theorem Rep.take {w:World} {a:Option Addr} {n c:Nat} {xs:List Int} (h:Rep ByteE w (.slice a n c) xs) {k:Nat} (hk:k≤xs.length):Rep ByteE w (.slice a k c) (xs.take k):=by
 obtain ⟨a',c',hv,h1,h2,h3⟩:=h
 simp only [Value.slice.injEq] at hv
 obtain ⟨rfl,rfl,rfl⟩:=hv
 refine ⟨a,c,by rw [List.length_take,Nat.min_eq_left hk],by rw [List.length_take];omega,h2,fun i x hx => ?_⟩
 rw [List.getElem?_take] at hx
 split at hx
 ·exact h3 i x hx
 ·cases hx
theorem rep_lt {w:World} {a:Option Addr} {n c:Nat} {xs:List Int} (h:Rep ByteE w (.slice a n c) xs) (g o:Nat) (hne:xs≠[]) (e:a=some ⟨g,o,none⟩):g < w.heap.size:=by
 cases xs with
 | nil=>exact absurd rfl hne
 | cons x xs =>
  obtain ⟨b,o',hb,hlt, -⟩:=h.byte (k:=0) (x:=x) rfl
  rw [e] at hb
  simp only [Option.some.injEq,Addr.mk.injEq,and_true] at hb
  omega
theorem l17Open_any (v:Value) (xs:List Int) (w:World) (hx:Rep ByteE w v xs) (hb:∀ x∈xs,0≤x∧x≤255) :
 Calls Try.prog 23 #[v] w (RetOpen w):=by
 obtain ⟨a,c,rfl,hc1,hc2,hc3,hx⟩:=hx.open
 have HX:=hide hx;clear hx
 by_cases hl:xs.length > 2000
 ·have hT:=hide (HX.out.take (k:=2000) (by omega))
  have hlt:(2000:Int) < (xs.length:Int):=by omega
  have hc4:2000≤c:=by omega
  have htl:(xs.take 2000).length=2000:=by rw [List.length_take];omega
  have HTL:=hide htl;clear htl
  generalize hn:xs.length=n at *
  clear hn
  go_enter Try.func23,Try.ntmps23
  go_wp2_with fail
  go_ret
  have h2:Rd (w.alloc (.cells #[.slice a 2000 c, .int .i64 0] 61)) w.heap.size a c (xs.take 2000) 0:=
   ⟨by simp,by rw [HTL.out];simp [go_sem],by simp [go_sem],by simp [go_sem],by rw [HTL.out];exact hT.out.below ((Below.refl _ _).alloc (Nat.le_refl _) _),fun g o hne e=>rep_lt hT.out g o hne e,fun x hx=>hb x (List.mem_of_mem_take hx),by omega⟩
  exact ⟨w.heap.size,a,c,_,rfl,h2,Nat.le_refl _,(Below.refl _ _).alloc (Nat.le_refl _) _⟩
 ·have hge:decide ((xs.length:Int) > 2000)=false:=decide_eq_false (by omega)
  clear hl
  have HXR:=hide (fun g o hne e=>rep_lt HX.out g o hne e)
  generalize hn:xs.length=n at *
  have H:=hide hn;clear hn
  go_enter Try.func23,Try.ntmps23
  go_wp2_with fail
  go_ret
  have h2:Rd (w.alloc (.cells #[.slice a n c, .int .i64 0] 61)) w.heap.size a c xs 0:=
   ⟨by simp,by rw [H.out];simp [go_sem],by simp [go_sem],by simp [go_sem],by rw [H.out];exact HX.out.below ((Below.refl _ _).alloc (Nat.le_refl _) _),HXR.out,hb,by omega⟩
  exact ⟨w.heap.size,a,c,_,rfl,h2,Nat.le_refl _,(Below.refl _ _).alloc (Nat.le_refl _) _⟩
end Go.Proofs.Ytlddmagfbcomgaa
namespace Go.Proofs.Ytlddmagfbcomgaa
open Go.RowKit
theorem below_of_outside {b:Nat} {w w':World} {B:Nat} (h:Outside b (b+1) w w') (hB:B≤b) (hB2:B≤w.heap.size):Below B w w':=h.below hB hB2
end Go.Proofs.Ytlddmagfbcomgaa
namespace Go.Proofs.Ytlddmagfbcomgaa
inductive Fd:List Ins→List Ins→Prop
 | nil:Fd [] []
 | keep {r r':List Ins} (x:Ins) (h:Fd r r'):Fd (x :: r) (x :: r')
 | drop {r r':List Ins} (x:Ins) (h4:x.op=4) (h:Fd r r'):Fd (x :: r) r'
theorem Fd.snoc {r r':List Ins} (h:Fd r r') (x:Ins):Fd (r++[x]) (r'++[x]):=by
 induction h with
 | nil=>exact .keep x .nil
 | keep y _ ih=>exact .keep y ih
 | drop y h4 _ ih=>exact .drop y h4 ih
theorem Fd.snocD {r r':List Ins} (h:Fd r r') (x:Ins) (h4:x.op=4):Fd (r++[x]) r':=by
 induction h with
 | nil=>exact .drop x h4 .nil
 | keep y _ ih=>exact .keep y ih
 | drop y h4 _ ih=>exact .drop y h4 ih
def FdAt (r r':List Ins) (k k':Nat):Prop:=∃ a b a' b',r=a++b∧r'=a'++b'∧a.length=k∧a'.length=k'∧Fd a a'∧Fd b b'
theorem FdAt.zero {r r':List Ins} (h:Fd r r'):FdAt r r' 0 0:=⟨[],r,[],r',rfl,rfl,rfl,rfl, .nil,h⟩
theorem FdAt.next {r r':List Ins} {k k':Nat} (h:FdAt r r' k k') {x:Ins} (hx:r[k]? = some x):(r'[k']? = some x∧FdAt r r' (k+1) (k'+1))∨(x.op=4∧FdAt r r' (k+1) k'):=by
 obtain ⟨a,b,a',b',rfl,rfl,rfl,rfl,h1,h2⟩:=h
 rw [List.getElem?_append_right (Nat.le_refl _),Nat.sub_self] at hx
 cases h2 with
 | nil=>simp at hx
 | keep y h3 =>
  simp only [List.getElem?_cons_zero,Option.some.injEq] at hx
  subst hx
  exact .inl ⟨by simp,_,_,_,_,List.append_cons ..,List.append_cons ..,by simp,by simp,h1.snoc y,h3⟩
 | drop y h4 h3 =>
  simp only [List.getElem?_cons_zero,Option.some.injEq] at hx
  subst hx
  exact .inr ⟨h4,_,_,_,_,List.append_cons ..,rfl,by simp,rfl,h1.snocD y h4,h3⟩
theorem Fd.nil_left {r':List Ins} (h:Fd [] r'):r'=[]:=by cases h;rfl
theorem FdAt.fin {r r':List Ins} {k':Nat} (h:FdAt r r' r.length k'):k'=r'.length:=by
 obtain ⟨a,b,a',b',rfl,rfl,h1,rfl, -,h2⟩:=h
 rw [List.length_append] at h1
 obtain rfl:b=[]:=List.eq_nil_of_length_eq_zero (by omega)
 rw [h2.nil_left];simp
def FdP (p q:List (List Ins)):Prop:=p.length=q.length∧∀ (t:Nat) (r r':List Ins),p[t]? = some r→q[t]? = some r'→Fd r r'
def FdS (p q:List (List Ins)) (s s':Sq):Prop:=s'.rg=s.rg∧s'.mm=s.mm∧∀ t,t < p.length→FdAt (p.getD t []) (q.getD t []) (pcN s t) (pcN s' t)
theorem getD_some {α:Type} {l:List (List α)} {t:Nat} {r:List α} (h:l[t]? = some r):l.getD t []=r:=by rw [List.getD_eq_getElem?_getD,h];rfl
theorem FdS.start {p q:List (List Ins)} (h:FdP p q):FdS p q (sqStart p) (sqStart q):=by
 have hz:∀ p t,pcN (sqStart p) t=0:=fun p t=>by
  unfold pcN sqStart
  rw [List.getD_eq_getElem?_getD,List.getElem?_replicate]
  split <;> rfl
 refine ⟨by simp [sqStart,h.1],rfl,fun t ht => ?_⟩
 rw [hz,hz]
 have h1:=List.getElem?_eq_getElem ht
 have h2:=List.getElem?_eq_getElem (l:=q) (i:=t) (by rw [← h.1];exact ht)
 exact .zero (h.2 t _ _ (by rw [getD_some h1];exact h1) (by rw [getD_some h2];exact h2))
theorem bfDo_pc {s s1:Bf} {split:Bool} {t:Nat} {k:Int} {x:Ins} (h:bfDo s split t k x=some s1):s1.q.pc=s.q.pc.set t (k+1):=by
 unfold bfDo at h
 split at h
 ·split at h
  ·cases h;rfl
  ·cases h
 ·split at h
  ·cases h;rfl
  ·cases h;rfl
theorem bfDo_same {s s1 s':Bf} {split:Bool} {t:Nat} {k k':Int} {x:Ins} (hb:s'.bf=s.bf) (hr:s'.q.rg=s.q.rg) (hm:s'.q.mm=s.q.mm) (h:bfDo s split t k x=some s1) :
 ∃ s1',bfDo s' split t k' x=some s1'∧s1'.bf=s1.bf∧s1'.q.rg=s1.q.rg∧s1'.q.mm=s1.q.mm:=by
 obtain ⟨⟨pc,rg,mm⟩,bf⟩:=s
 obtain ⟨⟨pc',rg',mm'⟩,bf'⟩:=s'
 simp only at hb hr hm
 subst hb;subst hr;subst hm
 have e1:bfEmpty ⟨⟨pc',rg',mm'⟩,bf'⟩ t split=bfEmpty ⟨⟨pc,rg',mm'⟩,bf'⟩ t split:=rfl
 have e2:∀ t l,bfSeen ⟨⟨pc',rg',mm'⟩,bf'⟩ t l split=bfSeen ⟨⟨pc,rg',mm'⟩,bf'⟩ t l split:=fun _ _=>rfl
 have e3:∀ t x,sqVal ⟨pc',rg',mm'⟩ t x=sqVal ⟨pc,rg',mm'⟩ t x:=fun _ _=>rfl
 unfold bfDo at h ⊢
 by_cases h45:x.op=4∨x.op=5
 ·rw [if_pos h45] at h ⊢
  rw [e1]
  split at h
  ·rename_i he
   rw [if_pos he]
   cases h
   exact ⟨_,rfl,rfl,rfl,rfl⟩
  ·cases h
 ·rw [if_neg h45] at h ⊢
  by_cases h1:x.op=1
  ·rw [if_pos h1] at h ⊢
   cases h
   exact ⟨_,rfl,rfl,rfl,rfl⟩
  ·rw [if_neg h1] at h ⊢
   cases h
   exact ⟨_,rfl,rfl,rfl,rfl⟩
theorem pcN_set {s:Sq} {t:Nat} {k:Int} (hk:s.pc[t]? = some k) (h0:0≤k) {s1:Sq} (h1:s1.pc=s.pc.set t (k+1)) (u:Nat):pcN s1 u=if u=t then pcN s t+1 else pcN s u:=by
 have hg:s.pc.getD t 0=k:=by rw [List.getD_eq_getElem?_getD,hk];rfl
 have ht:=(List.getElem?_eq_some_iff.1 hk).1
 unfold pcN
 rw [h1,hg]
 by_cases e:u=t
 ·subst e
  rw [if_pos rfl,getD_set_same ht];omega
 ·rw [if_neg e,getD_set_other (fun q=>e q.symm)]
theorem bf_drop {p q:List (List Ins)} {split:Bool} (hp:∀ r∈p,∀ x∈r,insValid x=true) (hq:∀ r∈q,∀ x∈r,insValid x=true) (hpq:FdP p q) {s:Bf} (h:ReachM (bfStart p split) (bfNext p split) s) :
 ∃ s',ReachM (bfStart q split) (bfNext q split) s'∧s'.bf=s.bf∧FdS p q s.q s'.q:=by
 induction h with
 | start=>exact ⟨_, .start,by simp [bfStart,hpq.1],FdS.start hpq⟩
 | step hs ht ih =>
  rename_i s s1 m
  obtain ⟨s',h1,h2,h3,h4,h5⟩:=ih
  have ho:=BfOk.reach hp hs
  have ho':=BfOk.reach hq h1
  by_cases hm:m < p.length
  ·obtain ⟨r,k,x,hr,hk,hx,hd⟩:=bfNext_thread ht hm
   obtain ⟨r',hr'⟩:∃ r',q[m]? = some r':=⟨_,List.getElem?_eq_getElem (by rw [← hpq.1];exact hm)⟩
   obtain ⟨k',hk'⟩:∃ k',s'.q.pc[m]? = some k':=⟨_,List.getElem?_eq_getElem (by rw [ho'.q.lp,← hpq.1];exact hm)⟩
   have hk0:=(ho.q.pc m k r hk hr).1
   have hk0':=(ho'.q.pc m k' r' hk' hr').1
   have hn:pcN s.q m=k.toNat:=by unfold pcN;rw [List.getD_eq_getElem?_getD,hk];rfl
   have hn':pcN s'.q m=k'.toNat:=by unfold pcN;rw [List.getD_eq_getElem?_getD,hk'];rfl
   have hat:=h5 m hm
   rw [getD_some hr,getD_some hr',hn,hn'] at hat
   have hpc:=pcN_set hk hk0 (bfDo_pc hd)
   rcases hat.next hx with ⟨g1,g2⟩ | ⟨g1,g2⟩
   ·obtain ⟨s1',f1,f2,f3,f4⟩:=bfDo_same (k':=k') h2 h3 h4 hd
    have hpc':=pcN_set hk' hk0' (bfDo_pc f1)
    refine ⟨s1', .step (i:=m) h1 ?_,f2,f3,f4,fun t htl => ?_⟩
    ·unfold bfNext
     rw [if_pos (by rw [← hpq.1];exact hm),hr',hk']
     simp only [g1]
     exact f1
    ·rw [hpc,hpc']
     by_cases e:t=m
     ·subst e
      rw [if_pos rfl,if_pos rfl,getD_some hr,getD_some hr',hn,hn']
      exact g2
     ·rw [if_neg e,if_neg e]
      exact h5 t htl
   ·unfold bfDo at hd
    rw [if_pos (.inl g1)] at hd
    split at hd
    ·simp only [Option.some.injEq] at hd
     subst hd
     refine ⟨s',h1,h2, ?_, ?_,fun t htl => ?_⟩
     ·rw [h3];simp [sqDo,g1,isRop]
     ·rw [h4];simp [sqDo,g1,isWop]
     ·rw [hpc]
      by_cases e:t=m
      ·subst e
       rw [if_pos rfl,getD_some hr,getD_some hr',hn,hn']
       exact g2
      ·rw [if_neg e]
       exact h5 t htl
    ·cases hd
  ·obtain ⟨l,v,rest,hb,rfl⟩:=bfNext_flush ht hm
   refine ⟨⟨⟨s'.q.pc,s'.q.rg,s'.q.mm.set l.toNat v⟩,s'.bf.set (m - p.length) rest⟩, .step (i:=m) h1 ?_,by rw [h2],h3,by simp only;rw [h4],h5⟩
   unfold bfNext
   rw [if_neg (by rw [← hpq.1];exact hm),← hpq.1,h2,hb]
theorem FdS.done {p q:List (List Ins)} (hpq:FdP p q) {s s':Sq} (h:FdS p q s s') (hd:∀ t,t < p.length→pcN s t=(p.getD t []).length):∀ t,t < q.length→pcN s' t=(q.getD t []).length:=fun t ht=>by
 have h1:=h.2.2 t (by rw [hpq.1];exact ht)
 rw [hd t (by rw [hpq.1];exact ht)] at h1
 exact h1.fin
theorem done_pc {p:List (List Ins)} {s:Sq} (ho:SqOk p s) (h:∀ t,t < p.length→pcN s t=(p.getD t []).length):sqDone p s=true:=by
 unfold sqDone
 rw [List.all_eq_true]
 intro t ht
 have htl:=List.mem_range.1 ht
 have h1:=h t htl
 obtain ⟨k,hk⟩:∃ k,s.pc[t]? = some k:=⟨_,List.getElem?_eq_getElem (by rw [ho.lp];exact htl)⟩
 have h0:=(ho.pc t k p[t] hk (List.getElem?_eq_getElem htl)).1
 have e:s.pc.getD t 0=k:=by rw [List.getD_eq_getElem?_getD,hk,Option.getD_some]
 unfold pcN at h1
 simp only [decide_eq_true_eq]
 rw [e] at h1 ⊢
 omega
theorem done_pc' {p:List (List Ins)} {s:Sq} (ho:SqOk p s) (hd:sqDone p s=true) (t:Nat) (ht:t < p.length):pcN s t=(p.getD t []).length:=by
 unfold sqDone at hd
 have h1:=List.all_eq_true.1 hd t (List.mem_range.2 ht)
 simp only [decide_eq_true_eq] at h1
 obtain ⟨k,hk⟩:∃ k,s.pc[t]? = some k:=⟨_,List.getElem?_eq_getElem (by rw [ho.lp];exact ht)⟩
 obtain ⟨r,hr⟩:∃ r,p[t]? = some r:=⟨_,List.getElem?_eq_getElem ht⟩
 have h0:=ho.pc t k r hk hr
 have e:s.pc.getD t 0=k:=by rw [List.getD_eq_getElem?_getD,hk,Option.getD_some]
 have e2:p.getD t []=r:=getD_some hr
 unfold pcN
 rw [e] at h1 ⊢
 rw [e2] at h1 ⊢
 omega
theorem bf_out_drop {p q:List (List Ins)} {split:Bool} (hp:∀ r∈p,∀ x∈r,insValid x=true) (hq:∀ r∈q,∀ x∈r,insValid x=true) (hpq:FdP p q) {o:List Int}
 (h:∃ s,ReachM (bfStart p split) (bfNext p split) s∧bfDone p s=true∧bfOut s=o):∃ s,ReachM (bfStart q split) (bfNext q split) s∧bfDone q s=true∧bfOut s=o:=by
 obtain ⟨s,h1,h2,h3⟩:=h
 obtain ⟨s',k1,k2,k3⟩:=bf_drop hp hq hpq h1
 have ho:=BfOk.reach hp h1
 have ho':=BfOk.reach hq k1
 unfold bfDone at h2
 rw [Bool.and_eq_true] at h2
 refine ⟨s',k1, ?_, ?_⟩
 ·unfold bfDone
  rw [Bool.and_eq_true,k2]
  exact ⟨h2.1,done_pc ho'.q (k3.done hpq (done_pc' ho.q h2.2))⟩
 ·rw [← h3]
  unfold bfOut sqOut
  rw [k3.1,k3.2.1]
end Go.Proofs.Ytlddmagfbcomgaa