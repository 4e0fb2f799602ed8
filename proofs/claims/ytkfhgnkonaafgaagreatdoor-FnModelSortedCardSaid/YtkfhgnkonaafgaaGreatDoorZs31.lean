/-
  The reference's list of outcomes: one is put there. Condition: bounds on lengths.
-/
import Derived.Test.YtkfhgnkonaafgaaGreatDoorZs05
import Derived.Test.YtkfhgnkonaafgaaGreatDoorZs27
import Derived.Test.YtkfhgnkonaafgaaGreatDoorZs22
import Derived.Test.YtkfhgnkonaafgaaGreatDoorZs06
set_option maxHeartbeats 6400000
set_option maxRecDepth 100000
namespace Go.Proofs.YtkfhgnkonaafgaaGreatDoor
open Go.RowKit
abbrev XP:Type:=Sl2 × Dd × Xc
def PE:El XP:=⟨2,by decide,fun x=>[.slice x.1.f.a x.1.f.n x.1.f.cap, .slice x.1.o.a x.1.o.n x.1.o.cap],fun _=>rfl,fun x u h=>by simp at h;rcases h with rfl | rfl <;> rfl⟩
theorem PE.flat (ps:List XP):ps.flatMap PE.c=(ps.map (·.1)).flatMap XE.c:=by
 rw [List.flatMap_map];rfl
theorem PE.own {T:TypeId} {w:World} {base:Nat} {v:Value} {ps:List XP}:Own PE T w base v ps↔Own XE T w base v (ps.map (·.1)):=by
 unfold Own
 rw [PE.flat,List.length_map];exact Iff.rfl
theorem Own.xp {T:TypeId} {w:World} {base g n cap:Nat} {xs:List XP} (h:Own PE T w base (.slice (some ⟨g,0,none⟩) n cap) xs) {k:Nat} {x:XP} (hx:xs[k]? = some x) :
 g < w.heap.size∧w.cell? ⟨g,k * 2,none⟩=some (.slice x.1.f.a x.1.f.n x.1.f.cap)∧w.cell? ⟨g,k * 2+1,none⟩=some (.slice x.1.o.a x.1.o.n x.1.o.cap)∧∀ j,w.frozen? ⟨g,j,none⟩=false:=
 ⟨(World.ownsRow.lt h g rfl).2,h.cell hx (j:=0) rfl,h.cell hx (j:=1) rfl,fun j=>h.frozen j⟩
theorem Own.setXp {T:TypeId} {w:World} {base g n cap:Nat} {xs:List XP} (h:Own PE T w base (.slice (some ⟨g,0,none⟩) n cap) xs) {k:Nat} {z:XP} (hz:xs[k]? = some z) (x:XP) :
 Own PE T ((w.setCell ⟨g,k * 2,none⟩ (.slice x.1.f.a x.1.f.n x.1.f.cap)).setCell ⟨g,k * 2+1,none⟩ (.slice x.1.o.a x.1.o.n x.1.o.cap)) base (.slice (some ⟨g,0,none⟩) n cap) (xs.set k x):=by
 have h0:=h.set (i:=k) (j:=0) (⟨⟨x.1.f,z.1.o⟩,x.2⟩:XP) (u:=.slice x.1.f.a x.1.f.n x.1.f.cap) (by decide) hz rfl
 have h1:=h0.set (i:=k) (j:=1) x (u:=.slice x.1.o.a x.1.o.n x.1.o.cap) (by decide) (get_set_self hz _) rfl
 simp only [List.set_set] at h1
 exact h1
theorem Rep.xp {w:World} {a:Option Addr} {n c:Nat} {xs:List XP} (h:Rep PE w (.slice a n c) xs) {k:Nat} {x:XP} (hx:xs[k]? = some x) :
 ∃ b o,a=some ⟨b,o,none⟩∧b < w.heap.size∧w.cell? ⟨b,o+k * 2,none⟩=some (.slice x.1.f.a x.1.f.n x.1.f.cap)∧w.cell? ⟨b,o+k * 2+1,none⟩=some (.slice x.1.o.a x.1.o.n x.1.o.cap):=by
 obtain ⟨a',c',hv, -, -,h⟩:=h
 simp only [Value.slice.injEq] at hv
 obtain ⟨rfl, -, -⟩:=hv
 obtain ⟨b,o,rfl,h'⟩:=h k x hx
 exact ⟨b,o,rfl,lt_of_cell (h' 0 _ rfl),h' 0 _ rfl,h' 1 _ rfl⟩
def IdxOfX (f:XP→Bool) (xs:List XP) (q:Int):Prop:=(q = -1∧∀ x∈xs,f x=false)∨∃ (t:Nat) (x:XP),q=t∧xs[t]? = some x∧f x=true∧∀ y∈xs.take t,f y=false
theorem none_succX {f:XP→Bool} {xs:List XP} {t:Nat} {x:XP} (h:∀ y∈xs.take t,f y=false) (hx:xs[t]? = some x) (hf:f x=false):∀ y∈xs.take (t+1),f y=false:=by
 intro y hy
 rw [List.take_add_one,hx] at hy
 simp at hy
 rcases hy with hy | rfl
 ·exact h y hy
 ·exact hf
def TestsX (a1 a2:Addr) (f:XP→Bool) (xs:List XP) (w0:World) (row:Option Nat):Prop:=∀ x∈xs,∀ w:World,w0.grownBy w row→Calls Tryz.prog 59 #[.agg #[.slice x.1.f.a x.1.f.n x.1.f.cap, .slice x.1.o.a x.1.o.n x.1.o.cap], .pointer (some a1), .pointer (some a2)] w fun e w'=>e = .returned (.bool (f x))∧Below w.heap.size w w'
theorem IndexFunc_ax (a1 a2:Addr) (v:Value) (xs:List XP) (f:XP→Bool) (w:World) (row:Option Nat) (hx:Rep PE w v xs) (hf:TestsX a1 a2 f xs w row) :
 Calls Tryz.prog 96 #[v, .func (.func 59) #[] #[.pointer (some a1), .pointer (some a2)]] w fun e w'=>(∃ q:Int,e = .returned (.int .i64 q)∧IdxOfX f xs q)∧Below w.heap.size w w':=by
 obtain ⟨a,c,rfl,hc1,hc2,hc3,hx⟩:=hx.open
 have HX:=hide hx;clear hx
 have HF:=hide hf;clear hf
 generalize hn:xs.length=n at *
 have H:=hide hn;clear hn
 go_enter Tryz.func96,Tryz.ntmps96
 go_wp2_with fail
 go_loopw [8] (fun i wr => ∃ t:Nat,t≤n∧i = .int .i64 t∧Hid (∀ x∈xs.take t,f x=false)∧Below w.heap.size w wr) (fun i _=>n - (intOf i).toNat)
 case atStart=>exact ⟨0,Nat.zero_le _,rfl,hide (by simp),Below.refl _ _⟩
 case round =>
  obtain ⟨t,ht,rfl,hno,hb⟩:=hrel
  by_cases hlt:t < n
  ·obtain ⟨x,hxk⟩:=get_of_lt (xs:=xs) (k:=t) (by rw [H.out];exact hlt)
   obtain ⟨b,o,rfl,hbl,i0,i1⟩:=(HX.out.below hb).xp hxk
   have hlt':=nat_of_lt hlt
   have X:=hide hxk
   have hcall:=HF.out x (List.mem_of_getElem? hxk) _ (grown_of_below hb row)
   clear hxk
   generalize hfx:f x=fx at *
   have FX:=hide hfx;clear hfx
   have HC:=hide hcall;clear hcall
   cases fx
   ·have NO:Hid (∀ x∈xs.take (t+1),f x=false):=hide (none_succX hno.out X.out FX.out)
    go_wp2_with fail
    (with_reducible refine HC.out.mono ?_);rintro e w2 ⟨rfl,hb2⟩
    go_wp2_with fail
    go_roundw
    case rel=>exact ⟨t+1,by omega,by go_num,NO,hb.trans (hb2.mono hb.size)⟩
    case measure=>simp [intOf];omega
   ·go_wp2_with fail
    (with_reducible refine HC.out.mono ?_);rintro e w2 ⟨rfl,hb2⟩
    go_wp2_with fail
    go_ret
    exact ⟨⟨_,rfl, .inr ⟨t,x,rfl,X.out,FX.out,hno.out⟩⟩,hb.trans (hb2.mono hb.size)⟩
  ·go_wp2_with fail
   go_ret
   refine ⟨⟨_,rfl, .inl ⟨rfl, ?_⟩⟩,hb⟩
   have h:=hno.out
   rwa [List.take_of_length_le (by rw [H.out];omega)] at h
theorem DeleteFunc_ax (a1 a2:Addr) (v:Value) (xs:List XP) (f:XP→Bool) (w:World) (base:Nat) (hx:Own PE 29 w base v xs) (hl:xs.length≤1048576) (hf:TestsX a1 a2 f xs w v.ownBlock) :
 Calls Tryz.prog 57 #[v, .func (.func 59) #[] #[.pointer (some a1), .pointer (some a2)]] w fun e w'=>DelPost PE 29 w base v (xs.filter fun x => !f x) e w':=by
 have DP:Hid (∀ v' w',Own PE 29 w' base v' (xs.filter fun x => !f x)→w.grownBy w' v.ownBlock→v'.ownBlock=v.ownBlock→DelPost PE 29 w base v (xs.filter fun x => !f x) (.returned v') w'):=hide (fun v' w' h1 h2 h3=>⟨v',rfl,h1,h2,h3⟩)
 have HF:=hide hf;clear hf
 have HX:=hide hx;clear hx
 have HI:=hide (fun h=>IndexFunc_ax a1 a2 v xs f w v.ownBlock h HF.out)
 generalize hG:(xs.filter fun x => !f x)=G at *
 have HG:=hide hG;clear hG
 go_enter Tryz.func57,Tryz.ntmps57
 go_wp2_with fail
 (with_reducible refine (HI.out HX.out.rep).mono ?_);rintro e w1 ⟨⟨q,rfl,hq⟩,hb1⟩
 have HX1:=hide (HX.out.below hb1)
 have hg1:=grown_of_below hb1 v.ownBlock
 rcases hq with ⟨rfl,hno⟩ | ⟨t,x0,rfl,ht,hft,hno⟩
 ·have e1:G=xs:=by rw [← HG.out];exact filter_all (fun x h=>by rw [hno x h];rfl)
  have HE:=hide e1;clear e1 hno
  go_wp2_with fail
  go_ret
  exact DP.out _ _ (by rw [HE.out];exact HX1.out) hg1 rfl
 ·rcases HX.out.shape with ⟨-,rfl⟩ | ⟨g,c,rfl,hg,hgl,hc1,hc2⟩
  ·simp at ht
  ·have htl:=(List.getElem?_eq_some_iff.1 ht).1
   have hstart:=del_start ht hft hno
   have ST:=hide hstart;clear hstart ht hft hno
   have HF2:Hid (∀ x∈xs,∀ w':World,w.grownBy w' (some g)→Calls Tryz.prog 59 #[.agg #[.slice x.1.f.a x.1.f.n x.1.f.cap, .slice x.1.o.a x.1.o.n x.1.o.cap], .pointer (some a1), .pointer (some a2)] w' fun e w''=>e = .returned (.bool (f x))∧Below w'.heap.size w' w''):=hide HF.out
   clear HF
   generalize hn:xs.length=n at *
   have H:=hide hn;clear hn
   have htl':=nat_of_lt htl
   have hm1:((t:Int) == -1)=false:=by rw [beq_eq_false_iff_ne];omega
   go_wp2_with fail
   go_loopw [5,6] (fun si sj wr => ∃ (i j:Nat) (L:List XP),i < j∧j≤n∧si = .int .i64 i∧sj = .int .i64 j∧Own PE 29 wr base (.slice (some ⟨g,0,none⟩) n c) L∧Hid (DelInv f xs L i j)∧w.grownBy wr (some g)) (fun _ sj _=>n - (intOf sj).toNat)
   case atStart=>exact ⟨t,t+1,xs,by omega,by omega,rfl,rfl,HX1.out,hide ST.out,hg1⟩
   case round =>
    obtain ⟨i,j,L,hij,hj,rfl,rfl,ho,hI,hgr⟩:=hrel
    have hLl:L.length=n:=ho.len.symm
    have HLL:=hide hLl;clear hLl
    by_cases hlt:j < n
    ·obtain ⟨x,hxk⟩:=get_of_lt (xs:=xs) (k:=j) (by rw [H.out];exact hlt)
     have hLj:=hI.out.get hxk
     obtain ⟨y,hyi⟩:=get_of_lt (xs:=L) (k:=i) (by rw [HLL.out];omega)
     obtain ⟨-,m0,m1, -⟩:=ho.xp hyi
     obtain ⟨hgl2,j0,j1,hfr⟩:=ho.xp hLj
     have hset:=ho.setXp hyi x
     have hlt':=nat_of_lt hlt
     have hij':=nat_of_lt hij
     have hcall:=HF2.out x (List.mem_of_getElem? hxk) _ (grown_trans hgr (World.grownBy_alloc wr (.cells #[.slice x.1.f.a x.1.f.n x.1.f.cap, .slice x.1.o.a x.1.o.n x.1.o.cap] 29) (some g)))
     have X:=hide hxk;have SET:=hide hset;have YI:=hide hyi;have LJ:=hide hLj
     clear hxk hset hyi hLj
     generalize hfx:f x=fx at *
     have FX:=hide hfx;have HC:=hide hcall
     clear hfx hcall
     cases fx
     ·have KEEP:=hide (hI.out.keep hij X.out FX.out)
      go_wp2_with fail
      (with_reducible refine HC.out.mono ?_);rintro e w2 ⟨rfl,hb2⟩
      obtain ⟨hc2,hf2⟩:=bcell hb2
      have hsz2:wr.heap.size+1≤w2.heap.size:=by have:=hb2.size;simp at this;omega
      have hset2:=(ho.alloc (.cells #[.slice x.1.f.a x.1.f.n x.1.f.cap, .slice x.1.o.a x.1.o.n x.1.o.cap] 29)).below hb2
      have hset3:=hset2.setXp YI.out x
      have S3:=hide hset3;clear hset2 hset3
      have hgr2:=grown_trans hgr (grown_trans (World.grownBy_alloc wr (.cells #[.slice x.1.f.a x.1.f.n x.1.f.cap, .slice x.1.o.a x.1.o.n x.1.o.cap] 29) (some g)) (grown_of_below hb2 (some g)))
      go_wp2_with fail
      go_roundw
      case rel=>exact ⟨i+1,j+1,L.set i x,by omega,by omega,by go_num,by go_num,S3.out,hide KEEP.out,grown_set (grown_set hgr2 _ _) _ _⟩
      case measure=>simp [intOf];omega
     ·have SKIP:=hide (hI.out.skip X.out FX.out)
      go_wp2_with fail
      (with_reducible refine HC.out.mono ?_);rintro e w2 ⟨rfl,hb2⟩
      have hset2:=(ho.alloc (.cells #[.slice x.1.f.a x.1.f.n x.1.f.cap, .slice x.1.o.a x.1.o.n x.1.o.cap] 29)).below hb2
      have hgr2:=grown_trans hgr (grown_trans (World.grownBy_alloc wr (.cells #[.slice x.1.f.a x.1.f.n x.1.f.cap, .slice x.1.o.a x.1.o.n x.1.o.cap] 29) (some g)) (grown_of_below hb2 (some g)))
      go_wp2_with fail
      go_roundw
      case rel=>exact ⟨i,j+1,L,by omega,by omega,rfl,by go_num,hset2,hide SKIP.out,hgr2⟩
      case measure=>simp [intOf];omega
    ·have e:j=n:=by omega
     subst e
     have hin:=hij
     have hin':=nat_of_lt hij
     have hic:i≤c:=by omega
     have DONE:=hide (hI.out.done (by rw [H.out];exact Nat.le_refl _))
     go_wp2_with (refine wpList_clear PE 29 (⟨⟨⟨none,0,0⟩,⟨none,0,0⟩⟩,⟨0,0,[]⟩,⟨[],[]⟩⟩:XP) Tryz.infoExecY rfl Tryz.underlying54 base g _ c i _ L ho hin rfl _ rfl rfl ?_;intro w3 ho3 hgr3)
     go_ret
     have hcut:=ho3.cut (i:=i) (by omega)
     have hLi:(L.take i).length=i:=by rw [List.length_take,HLL.out];omega
     rw [List.take_append_of_le_length (by omega),List.take_take,Nat.min_self,DONE.out,HG.out] at hcut
     exact DP.out _ _ hcut (grown_trans hgr hgr3) rfl
theorem zipX {us:List Sl2} {ds:List Dd} {L:List Xc} (h1:us.length=L.length) (h2:ds.length=L.length):(us.zip (ds.zip L)).map (·.2.2)=L∧(us.zip (ds.zip L)).map (·.2.1)=ds∧(us.zip (ds.zip L)).map (·.1)=us:=by
 have a1:(us.zip (ds.zip L)).map (·.2)=ds.zip L:=List.map_snd_zip (by rw [List.length_zip];omega)
 have a2:(ds.zip L).map (·.2)=L:=List.map_snd_zip (by omega)
 have a3:(ds.zip L).map (·.1)=ds:=List.map_fst_zip (by omega)
 have e1:(us.zip (ds.zip L)).map (·.2.2)=((us.zip (ds.zip L)).map (·.2)).map (·.2):=by rw [List.map_map];rfl
 have e2:(us.zip (ds.zip L)).map (·.2.1)=((us.zip (ds.zip L)).map (·.2)).map (·.1):=by rw [List.map_map];rfl
 exact ⟨by rw [e1,a1,a2],by rw [e2,a1,a3],List.map_fst_zip (by rw [List.length_zip];omega)⟩
theorem zipX_row {φ:Dd→World→Sl2→Xc→Prop} {us:List Sl2} {ds:List Dd} {w:World} {base:Nat} {v:Value} {L:List Xc} (h:OwnFU XE 29 Rafter φ us ds w base v L) {q:XP} (hq:q∈us.zip (ds.zip L)) :
 base≤q.2.1.lo∧LocR 29 q.2.1.lo q.2.1.hi w (fun W=>φ q.2.1 W q.1 q.2.2):=by
 obtain ⟨i,hi⟩:=List.getElem?_of_mem hq
 obtain ⟨h1,h2⟩:=List.getElem?_zip_eq_some.1 hi
 obtain ⟨h3,h4⟩:=List.getElem?_zip_eq_some.1 h2
 exact h.rows i _ _ _ h1 h3 h4
theorem RowsX.filter {φ:Dd→World→Sl2→Xc→Prop} {us:List Sl2} {ds:List Dd} {w w':World} {base base':Nat} {v v':Value} {L:List Xc} (h:OwnFU XE 29 Rafter φ us ds w base v L) {f:Xc→Bool}
 (ho:Own PE 29 w' base' v' ((us.zip (ds.zip L)).filter fun x=>f x.2.2)) (hb:base'≤base) (hk:∀ q∈us.zip (ds.zip L),LocR 29 q.2.1.lo q.2.1.hi w' (fun W=>φ q.2.1 W q.1 q.2.2)):OwnF XE 29 Rafter φ w' base' v' (L.filter f):=by
 obtain ⟨hz,hd, -⟩:=zipX h.lu h.ld
 have hrow:=fun q (hq:q∈us.zip (ds.zip L))=>(zipX_row h hq).1
 have hpw:=h.pw
 generalize us.zip (ds.zip L)=ps at *
 have hL:L.filter f=(ps.filter fun x=>f x.2.2).map (·.2.2):=by
  rw [← hz,List.filter_map];rfl
 rw [hL]
 refine ⟨(ps.filter fun x=>f x.2.2).map (·.1),(ps.filter fun x=>f x.2.2).map (·.2.1),by simp,by simp, ?_,PE.own.1 ho, ?_⟩
 ·have:((ps.filter fun x=>f x.2.2).map (·.2.1)).Sublist ds:=by
   rw [← hd];exact List.Sublist.map _ List.filter_sublist
  exact hpw.sublist this
 ·intro i u d x h1 h2 h3
  rw [List.getElem?_map] at h1 h2 h3
  cases hq:(ps.filter fun x=>f x.2.2)[i]? with
  | none=>rw [hq] at h1;cases h1
  | some q =>
   rw [hq] at h1 h2 h3
   simp only [Option.map_some,Option.some.injEq] at h1 h2 h3
   subst h1;subst h2;subst h3
   have hm:=(List.mem_filter.1 (List.mem_of_getElem? hq)).1
   exact ⟨Nat.le_trans hb (hrow q hm),hk q hm⟩
end Go.Proofs.YtkfhgnkonaafgaaGreatDoor
namespace Go.Proofs.YtkfhgnkonaafgaaGreatDoor
open Go.RowKit
theorem l3L_lexO (a b:List Int):l3L a b=lexO a b:=by
 induction a generalizing b with
 | nil=>cases b <;> rfl
 | cons x a ih =>
  cases b with
  | nil=>rfl
  | cons y b=>simp only [l3L,lexO,ih]
theorem putO_take {o:List Int} {L:List (List Int)} {k:Nat} (h:∀ x∈L.take k,lexO x o = -1):putO o L=L.take k++putO o (L.drop k):=by
 induction L generalizing k with
 | nil=>simp
 | cons x L ih =>
  cases k with
  | zero=>simp
  | succ k =>
   have h1:=h x (by simp)
   have h2:=ih (k:=k) fun y hy=>h y (by simp [hy])
   rw [List.take_succ_cons,List.drop_succ_cons,List.cons_append,← h2]
   simp [putO,h1]
theorem putO_eq {o x:List Int} {L:List (List Int)} {k:Nat} (h:∀ x∈L.take k,lexO x o = -1) (hx:L[k]? = some x) (he:lexO x o=0):putO o L=L:=by
 obtain ⟨hk,rfl⟩:=List.getElem?_eq_some_iff.1 hx
 rw [putO_take h,List.drop_eq_getElem_cons hk]
 simp only [putO,he,if_true,if_neg (show ¬ (0:Int) = -1 by decide)]
 rw [← List.drop_eq_getElem_cons hk,List.take_append_drop]
theorem putO_in {o x:List Int} {L:List (List Int)} {k:Nat} (h:∀ x∈L.take k,lexO x o = -1) (hx:L[k]? = some x) (he:lexO x o=1):putO o L=L.take k++[o]++L.drop k:=by
 obtain ⟨hk,rfl⟩:=List.getElem?_eq_some_iff.1 hx
 rw [putO_take h,List.drop_eq_getElem_cons hk]
 simp [putO,he]
theorem putO_end {o:List Int} {L:List (List Int)} {k:Nat} (h:∀ x∈L.take k,lexO x o = -1) (hk:L.length≤k):putO o L=L.take k++[o]++L.drop k:=by
 rw [putO_take h,List.drop_of_length_le hk]
 simp [putO]
def OutL (Ls:List TypeId) (B:Nat) (w:World) (base:Nat) (v:Value) (L:List (List Int)):Prop:=
 v≠.slice none 0 0∧∃ us:List Slc,us.length=L.length∧Own SlcE 24 w base v us∧∀ (i:Nat) (u:Slc) (r:List Int),us[i]? = some u→L[i]? = some r→LocT Ls B w (fun W=>Own IntE 3 W base u.v r)
theorem OutL.step {Ls:List TypeId} {B:Nat} {w w':World} {base:Nat} {v:Value} {L:List (List Int)} (h:OutL Ls B w base v L) (k:KpT Ls B w w') (hT:24∉Ls):OutL Ls B w' base v L:=by
 obtain ⟨h0,us,h1,h2,h3⟩:=h
 exact ⟨h0,us,h1,(LocT.own h2 hT).keep w' k,fun i u r hu hr=>(h3 i u r hu hr).step k⟩
theorem OutL.rep2 {Ls:List TypeId} {B:Nat} {w:World} {base:Nat} {v:Value} {L:List (List Int)} (h:OutL Ls B w base v L):Rep2 IntE w v L:=by
 obtain ⟨-,us,h1,h2,h3⟩:=h
 exact ⟨us,h1,h2.rep,fun i u r hu hr=>(h3 i u r hu hr).now.rep⟩
theorem OutL.empty {Ls:List TypeId} {B:Nat} {w:World} {base:Nat} (hb:base≤w.heap.size):OutL Ls B (w.alloc (.cells #[] 24)) base (.slice (some ⟨w.heap.size,0,none⟩) 0 0) []:=
 ⟨by simp,[],rfl,Own.empty _ _ hb,fun i u r h=>by simp at h⟩
def RetOut (Ls:List TypeId) (B:Nat) (w:World) (base:Nat) (L:List (List Int)) (e:Ending) (w':World):Prop:=∃ v,e = .returned v∧OutL Ls B w' base v L∧Below w.heap.size w w'
theorem Rep.takeM {α:Type} {E:El α} {w:World} {a:Option Addr} {n c:Nat} {xs:List α} (h:Rep E w (.slice a n c) xs) {k:Nat} (hk:k≤n):Rep E w (.slice a k c) (xs.take k):=by
 obtain ⟨a',c',hv,h1,h2,h3⟩:=h
 simp only [Value.slice.injEq] at hv
 obtain ⟨rfl,rfl,rfl⟩:=hv
 have hl:(xs.take k).length=k:=by rw [List.length_take];omega
 exact ⟨a,c,by rw [hl],by omega,h2,fun i x hx=>h3 i x (by
  rw [List.getElem?_take] at hx
  split at hx
  ·exact hx
  ·cases hx)⟩
theorem Rep.dropM {α:Type} {E:El α} {w:World} {g o n c:Nat} {xs:List α} (h:Rep E w (.slice (some ⟨g,o,none⟩) n c) xs) {k:Nat} (hk:k≤n):Rep E w (.slice (some ⟨g,o+k * E.sz,none⟩) (n - k) (c - k)) (xs.drop k):=by
 obtain ⟨a',c',hv,h1,h2,h3⟩:=h
 simp only [Value.slice.injEq] at hv
 obtain ⟨rfl,rfl,rfl⟩:=hv
 refine ⟨_,c - k,by rw [List.length_drop],by rw [List.length_drop];omega,by omega,fun i x hx => ?_⟩
 rw [List.getElem?_drop] at hx
 obtain ⟨b,o',hb,hi⟩:=h3 (k+i) x hx
 simp only [Option.some.injEq,Addr.mk.injEq,and_true] at hb
 obtain ⟨rfl,rfl⟩:=hb
 refine ⟨g,o+k * E.sz,rfl,fun j u hu => ?_⟩
 have:=hi j u hu
 rw [Nat.add_mul] at this
 rw [← this]
 congr 2
 omega
theorem Rep.tail0 {α:Type} {E:El α} {w:World} {a:Option Addr} {n c k:Nat} {xs:List α} (h:Rep E w (.slice a n c) xs) (hk:n≤k) {a':Option Addr} {c':Nat} (hc:c'≤maxLen):Rep E w (.slice a' 0 c') (xs.drop k):=by
 obtain ⟨a2,c2,hv,h1,h2,h3⟩:=h
 simp only [Value.slice.injEq] at hv
 obtain ⟨rfl,rfl,rfl⟩:=hv
 rw [List.drop_of_length_le hk]
 exact ⟨a',c',rfl,Nat.zero_le _,hc,fun i x hx=>by simp at hx⟩
theorem out_in {Ls:List TypeId} {B base:Nat} {w w8:World} {us:List Slc} {L R:List (List Int)} {u:Slc} {o:List Int} {v8:Value} {k:Nat} (hul:us.length=L.length)
 (hrows:∀ (i:Nat) (u:Slc) (r:List Int),us[i]? = some u→L[i]? = some r→LocT Ls B w (fun W=>Own IntE 3 W base u.v r)) (ho:LocT Ls B w (fun W=>Own IntE 3 W base u.v o)) (hR:R=L.take k++[o]++L.drop k)
 (h8:Own SlcE 24 w8 w.heap.size v8 (us.take k++[u]++us.drop k)) (hb:Below w.heap.size w w8) (hbase:base≤w.heap.size):RetOut Ls B w base R (.returned v8) w8:=by
 refine ⟨v8,rfl,⟨?_,us.take k++[u]++us.drop k,by rw [hR];simp [hul],h8.mono hbase,fun i u' r hu hr => ?_⟩,hb⟩
 ·rintro rfl
  have:=h8.len
  simp at this
 ·rw [hR] at hr
  have key:∀ (i:Nat) (u':Slc) (r:List Int),us[i]? = some u'→L[i]? = some r→LocT Ls B w8 (fun W=>Own IntE 3 W base u'.v r):=fun i u' r h1 h2=>(hrows i u' r h1 h2).step (.of_below hb)
  have hlk:(us.take k).length=(L.take k).length:=by simp [hul]
  rw [List.append_assoc] at hu hr
  rcases Nat.lt_or_ge i (us.take k).length with hi | hi
  ·rw [List.getElem?_append_left hi] at hu
   rw [List.getElem?_append_left (by omega)] at hr
   rw [List.getElem?_take] at hu hr
   split at hu
   ·rename_i hik
    rw [if_pos hik] at hr
    exact key i u' r hu hr
   ·cases hu
  ·rw [List.getElem?_append_right hi] at hu
   rw [List.getElem?_append_right (by omega),← hlk] at hr
   generalize i - (us.take k).length=j at *
   cases j with
   | zero =>
    simp at hu hr
    subst hu;subst hr
    exact ho.step (.of_below hb)
   | succ j =>
    simp only [List.singleton_append,List.getElem?_cons_succ,List.getElem?_drop] at hu hr
    exact key _ u' r hu hr
theorem l3Put_any (Ls:List TypeId) (B base:Nat) (vl:Value) (u:Slc) (L:List (List Int)) (o:List Int) (w:World) (hL:OutL Ls B w base vl L) (ho:LocT Ls B w (fun W=>Own IntE 3 W base u.v o)) (hT:24∉Ls) (hb:base≤w.heap.size) (hl:L.length≤68719476000) :
 Calls Tryz.prog 84 #[vl, .slice u.a u.n u.cap] w (RetOut Ls B w base (putO o L)):=by
 obtain ⟨hne,us,hul,hown,hrows⟩:=hL
 rcases hown.shape with ⟨e,_⟩ | ⟨g,lc,rfl,hg1,hg2,hg3,hg4⟩
 ·exact absurd e hne
 have HO:=hide ho
 have HT:=hide hT
 have HUL:=hide hul;have HOW:=hide hown;have HRW:=hide hrows
 have HREP:=hide hown.rep
 have HLE:=hide (fun w' v (x:List Int) (h:Rep IntE w' v x) (h2:Rep IntE w' u.v o)=>(l3L_lexO x o) ▸ (l3Less_any v u.v x o w' h h2))
 obtain ⟨ua,un,uc⟩:=u
 have hn:us.length=L.length:=hul
 generalize hN:us.length=n at *
 have HN:=hide hN
 have hnl:n≤68719476000:=by omega
 clear hul hown hrows ho hT hn hN hne
 go_enter Tryz.func84,Tryz.ntmps84
 go_wp2_with fail
 go_loopw [5] (fun i wr => ∃ k:Nat,k≤n∧i = .int .i64 k∧Hid (∀ x∈L.take k,lexO x o = -1)∧Below w.heap.size w wr) (fun i _=>n - (intOf i).toNat)
 case atStart=>exact ⟨0,Nat.zero_le _,rfl,hide (by simp),Below.refl _ _⟩
 case round =>
  obtain ⟨k,hk,rfl,hlo,hbr⟩:=hrel
  have HBR:=hide hbr
  have hbs:=hbr.size
  clear hbr
  by_cases hlt:k < n
  ·have hlt':=nat_of_lt hlt
   obtain ⟨x,hx⟩:=get_of_lt (xs:=L) (k:=k) (by rw [← HUL.out];exact hlt)
   obtain ⟨⟨xa,xn,xc⟩,hux⟩:=get_of_lt (xs:=us) (k:=k) (by rw [HN.out];exact hlt)
   obtain ⟨b,q,hbq,hbl,i0⟩:=(HREP.out.below HBR.out).slc hux
   simp only [Option.some.injEq,Addr.mk.injEq,and_true] at hbq
   obtain ⟨rfl,rfl⟩:=hbq
   simp only [Nat.zero_add] at i0
   have hrx:=(HRW.out k _ x hux hx).step (.of_below HBR.out)
   have ho2:=HO.out.step (.of_below HBR.out)
   have HC:=hide (HLE.out wr (.slice xa xn xc) x hrx.now.rep ho2.now.rep)
   have HRX:=hide hrx;have HO2:=hide ho2
   have X:=hide hx
   clear hx hux hrx ho2
   rcases lexO_three x o with e | e | e
   ·rw [e] at HC
    have NO:Hid (∀ y∈L.take (k+1),lexO y o = -1):=hide fun y hy=>by
     rw [List.take_add_one,X.out] at hy
     rcases List.mem_append.1 hy with h | h
     ·exact hlo.out y h
     ·simp at h;rw [h];exact e
    clear e
    go_wp2_with (first | (go_at_call 37;(with_reducible refine HC.out.mono ?_);rintro e w1 ⟨rfl,hb1⟩))
    go_roundw
    case rel=>exact ⟨k+1,by omega,by go_num,NO,HBR.out.trans (hb1.mono hbs)⟩
    case measure=>simp [intOf];omega
   ·have HE:=hide (putO_eq hlo.out X.out e)
    rw [e] at HC
    have E0:=hide e
    clear e
    go_wp2_with (first
     | (go_at_call 37;(with_reducible refine HC.out.mono ?_);rintro e w1 ⟨rfl,hb1⟩;have B1:=hide hb1;have j0:w1.cell? ⟨g,k,none⟩=some (.slice xa xn xc):=(hb1.cell (p:=⟨g,k,none⟩) hbl).trans i0;have jl:=lt_of_cell j0;have HC2:=hide (HLE.out w1 (.slice xa xn xc) x (HRX.out.step (.of_below hb1)).now.rep (HO2.out.step (.of_below hb1)).now.rep);rw [E0.out] at HC2;clear hb1)
     | (go_at_call 37;(with_reducible refine HC2.out.mono ?_);rintro e w2 ⟨rfl,hb2⟩))
    go_ret
    rw [HE.out]
    have hb9:=(HBR.out.trans (B1.out.mono hbs)).trans (hb2.mono (Nat.le_trans hbs B1.out.size))
    exact ⟨_,rfl,OutL.step (w:=w) ⟨by simp,us,HN.out.trans HUL.out,HOW.out,HRW.out⟩ (.of_below hb9) HT.out,hb9⟩
   ·have HE:=hide (putO_in hlo.out X.out e)
    rw [e] at HC
    have E0:=hide e
    clear e
    go_wp2_with (first
     | (go_at_call 37;(with_reducible refine HC.out.mono ?_);rintro e w1 ⟨rfl,hb1⟩;have B1:=hide hb1;have j0:w1.cell? ⟨g,k,none⟩=some (.slice xa xn xc):=(hb1.cell (p:=⟨g,k,none⟩) hbl).trans i0;have jl:=lt_of_cell j0;have HC2:=hide (HLE.out w1 (.slice xa xn xc) x (HRX.out.step (.of_below hb1)).now.rep (HO2.out.step (.of_below hb1)).now.rep);rw [E0.out] at HC2;clear hb1)
     | (go_at_call 37;(with_reducible refine HC2.out.mono ?_);rintro e w2 ⟨rfl,hb2⟩;have HBE:=hide ((HBR.out.trans (B1.out.mono hbs)).trans (hb2.mono (Nat.le_trans hbs B1.out.size)));have hbe:=HBE.out.size;clear hb2)
     | (at_builtin;refine wpList_appS SlcE 24 Tryz.infoIntSM rfl Tryz.underlying27 w.heap.size _ [] (us.take k) _ (Own.empty _ _ hbe) (((HREP.out.takeM (k:=k) (by omega)).below HBE.out).below (belowAlloc _ _)) (by decide) (by simp;omega) (by simp;omega) rfl _ _ rfl rfl rfl ?_;intro v4 w4 hown4 hgr4;obtain ⟨⟨a4,n4,c4⟩,rfl, -⟩:=hown4.toSlc;rw [List.nil_append] at hown4;have O4:=hide hown4;have B4:=hide (HBE.out.trans ((((Below.refl _ _).alloc (Nat.le_refl _) (.cells #[] 24)).grown hgr4 (by simp) (fun q hq=>by simp [Value.ownBlock] at hq;omega)).mono hbe));have hb4:=B4.out.size;clear hown4 hgr4)
     | (at_builtin;refine wpList_app SlcE 24 Tryz.infoIntSM rfl Tryz.underlying27 w.heap.size _ (us.take k) ⟨ua,un,uc⟩ (O4.out.alloc _) (by decide) (by rw [List.length_take];omega) (by simp;omega) rfl _ _ rfl rfl _ 0 1 rfl news_alloc ?_;intro v6 w6 hown6 hgr6;obtain ⟨⟨a6,n6,c6⟩,rfl, -⟩:=hown6.toSlc;have O6:=hide hown6;have B6:=hide (below_app B4.out O4.out hgr6);have hb6:=B6.out.size;clear hown6 hgr6)
     | (at_builtin;refine wpList_appS SlcE 24 Tryz.infoIntSM rfl Tryz.underlying27 w.heap.size _ (us.take k++[⟨ua,un,uc⟩]) (us.drop k) _ O6.out (by have h:=HREP.out.dropM (k:=k) (by omega);simp only [SlcE,Nat.mul_one,Nat.zero_add] at h;exact h.below B6.out) (by decide) (by have:=HN.out;simp;omega) hb6 rfl _ _ rfl rfl rfl ?_;intro v8 w8 hown8 hgr8;have O8:=hide hown8;have B8:=hide (B6.out.grown hgr8 hb6 (fun q hq=>(World.ownsRow.lt O6.out q hq).1));clear hown8 hgr8))
    go_ret
    exact out_in (HN.out.trans HUL.out) HRW.out HO.out HE.out O8.out B8.out hb
  ·obtain rfl:k=n:=by omega
   have HE:=hide (putO_end hlo.out (show L.length≤k by rw [← HUL.out];exact Nat.le_refl _))
   by_cases hcn:k=lc
   ·subst hcn
    go_wp2_with (first
     | (at_builtin;refine wpList_appS SlcE 24 Tryz.infoIntSM rfl Tryz.underlying27 w.heap.size _ [] (us.take k) _ (Own.empty _ _ hbs) (((HREP.out.takeM (k:=k) (by omega)).below HBR.out).below (belowAlloc _ _)) (by decide) (by simp;omega) (by simp;omega) rfl _ _ rfl rfl rfl ?_;intro v4 w4 hown4 hgr4;obtain ⟨⟨a4,n4,c4⟩,rfl, -⟩:=hown4.toSlc;rw [List.nil_append] at hown4;have O4:=hide hown4;have B4:=hide (HBR.out.trans ((((Below.refl _ _).alloc (Nat.le_refl _) (.cells #[] 24)).grown hgr4 (by simp) (fun q hq=>by simp [Value.ownBlock] at hq;omega)).mono hbs));have hb4:=B4.out.size;clear hown4 hgr4)
     | (at_builtin;refine wpList_app SlcE 24 Tryz.infoIntSM rfl Tryz.underlying27 w.heap.size _ (us.take k) ⟨ua,un,uc⟩ (O4.out.alloc _) (by decide) (by rw [List.length_take];omega) (by simp;omega) rfl _ _ rfl rfl _ 0 1 rfl news_alloc ?_;intro v6 w6 hown6 hgr6;obtain ⟨⟨a6,n6,c6⟩,rfl, -⟩:=hown6.toSlc;have O6:=hide hown6;have B6:=hide (below_app B4.out O4.out hgr6);have hb6:=B6.out.size;clear hown6 hgr6)
     | (at_builtin;refine wpList_appS SlcE 24 Tryz.infoIntSM rfl Tryz.underlying27 w.heap.size _ (us.take k++[⟨ua,un,uc⟩]) (us.drop k) _ O6.out ((HREP.out.tail0 (Nat.le_refl _) (Nat.zero_le _)).below B6.out) (by decide) (by have:=HN.out;simp;omega) hb6 rfl _ _ rfl rfl rfl ?_;intro v8 w8 hown8 hgr8;have O8:=hide hown8;have B8:=hide (B6.out.grown hgr8 hb6 (fun q hq=>(World.ownsRow.lt O6.out q hq).1));clear hown8 hgr8))
    go_ret
    exact out_in (HN.out.trans HUL.out) HRW.out HO.out HE.out O8.out B8.out hb
   ·go_wp2_with (first
     | (at_builtin;refine wpList_appS SlcE 24 Tryz.infoIntSM rfl Tryz.underlying27 w.heap.size _ [] (us.take k) _ (Own.empty _ _ hbs) (((HREP.out.takeM (k:=k) (by omega)).below HBR.out).below (belowAlloc _ _)) (by decide) (by simp;omega) (by simp;omega) rfl _ _ rfl rfl rfl ?_;intro v4 w4 hown4 hgr4;obtain ⟨⟨a4,n4,c4⟩,rfl, -⟩:=hown4.toSlc;rw [List.nil_append] at hown4;have O4:=hide hown4;have B4:=hide (HBR.out.trans ((((Below.refl _ _).alloc (Nat.le_refl _) (.cells #[] 24)).grown hgr4 (by simp) (fun q hq=>by simp [Value.ownBlock] at hq;omega)).mono hbs));have hb4:=B4.out.size;clear hown4 hgr4)
     | (at_builtin;refine wpList_app SlcE 24 Tryz.infoIntSM rfl Tryz.underlying27 w.heap.size _ (us.take k) ⟨ua,un,uc⟩ (O4.out.alloc _) (by decide) (by rw [List.length_take];omega) (by simp;omega) rfl _ _ rfl rfl _ 0 1 rfl news_alloc ?_;intro v6 w6 hown6 hgr6;obtain ⟨⟨a6,n6,c6⟩,rfl, -⟩:=hown6.toSlc;have O6:=hide hown6;have B6:=hide (below_app B4.out O4.out hgr6);have hb6:=B6.out.size;clear hown6 hgr6)
     | (at_builtin;refine wpList_appS SlcE 24 Tryz.infoIntSM rfl Tryz.underlying27 w.heap.size _ (us.take k++[⟨ua,un,uc⟩]) (us.drop k) _ O6.out ((HREP.out.tail0 (Nat.le_refl _) (by omega)).below B6.out) (by decide) (by have:=HN.out;simp;omega) hb6 rfl _ _ rfl rfl rfl ?_;intro v8 w8 hown8 hgr8;have O8:=hide hown8;have B8:=hide (B6.out.grown hgr8 hb6 (fun q hq=>(World.ownsRow.lt O6.out q hq).1));clear hown8 hgr8))
    go_ret
    exact out_in (HN.out.trans HUL.out) HRW.out HO.out HE.out O8.out B8.out hb
end Go.Proofs.YtkfhgnkonaafgaaGreatDoor