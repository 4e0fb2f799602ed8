/-
  sortedOutcomes. Condition: outcomes of one length, bounds on lengths.
-/
import Derived.Test.YtlddmagfbcomgaaGreatZq10
import Derived.Test.YtlddmagfbcomgaaGreatZq09
import Derived.Test.YtlddmagfbcomgaaGreatZq01
import Derived.Test.YtlddmagfbcomgaaGreatZq08
import Derived.Shelf.SlSortCmp.NoneTotal
set_option maxHeartbeats 6400000
set_option maxRecDepth 100000
namespace Go.Proofs.YtlddmagfbcomgaaGreat
open Go.RowKit
theorem take_put {α:Type} [Inhabited α] (enc:α→Value) (d:Array α) (cur:Array Value) (h:d.size≤cur.size):(Sort.putCells enc 0 d cur).toList.take d.size=d.toList.map enc:=by
 apply List.ext_getElem?
 intro k
 rw [List.getElem?_take]
 by_cases hk:k < d.size
 ·rw [if_pos hk]
  have h1:k < cur.size:=by omega
  simp [Sort.putCells,hk,h1]
 ·rw [if_neg hk,List.getElem?_eq_none (by simpa using hk)]
theorem pairs_flat (l:List (Slc × List Int)):l.flatMap PrE.c=l.map fun x=>x.1.v:=by
 induction l with
 | nil=>rfl
 | cons x l ih=>rw [List.flatMap_cons,ih];rfl
theorem SortF_any (base g c0 n:Nat) (l:List (Slc × List Int)) (w:World) (ho:Own PrE 40 w base (.slice (some ⟨g,0,none⟩) l.length c0) l) (hr:∀ x∈l,Own IntE 3 w base x.1.v x.2) (hn:∀ x∈l,x.2.length=n) (hl:l.length≤68719476736) :
 Calls Tryz.prog 167 #[.slice (some ⟨g,0,none⟩) l.length c0, .func (.func 168) #[] #[]] w fun e w'=>e = .returned (.tuple #[]) ∧
  ∃ l':List (Slc × List Int),l'.Perm l∧Own PrE 40 w' base (.slice (some ⟨g,0,none⟩) l.length c0) l'∧(l'.Pairwise fun a b=>lexO a.2 b.2≠1)∧(∀ x∈l',Own IntE 3 w' base x.1.v x.2)∧KpT [40] base w w':=by
 obtain ⟨cur,hcur⟩:=ho.typeT (g:=g) rfl
 have hgl:=World.ownsRow.lt ho g rfl
 obtain ⟨D,hD1,hD2⟩:=mkOE (F:=fun x:OE w g=>x.u) (G:=fun x:OE w g=>x.o) (us:=l.map Prod.fst) (outs:=l.map Prod.snd) (by simp) fun i u o hu ho'=>by
  rw [List.getElem?_map] at hu ho'
  cases hx:l[i]? with
  | none=>rw [hx] at hu;simp at hu
  | some x =>
   rw [hx] at hu ho'
   simp only [Option.map_some,Option.some.injEq] at hu ho'
   subst hu;subst ho'
   have hrow:=hr x (List.mem_of_getElem? hx)
   refine ⟨⟨x.1,x.2,fun W hW=>(hrow.sameT fun q hq => ?_).rep⟩,rfl,rfl⟩
   refine hW q (World.ownsRow.lt hrow q hq).2 fun e => ?_
   obtain ⟨a,ha⟩:=hrow.typeT hq
   rw [e,hcur] at ha
   simp at ha
 have hlen:D.length=l.length:=by simpa using congrArg List.length hD1
 have hpair:D.map (fun x=>(x.u,x.o))=l:=by
  apply List.ext_getElem?
  intro k
  have h1:=congrArg (fun t:List Slc=>t[k]?) hD1
  have h2:=congrArg (fun t:List (List Int)=>t[k]?) hD2
  simp only [List.getElem?_map] at h1 h2 ⊢
  cases hd:D[k]? with
  | none=>rw [hd] at h1;cases hx:l[k]? with
   | none=>rfl
   | some x=>rw [hx] at h1;simp at h1
  | some y =>
   rw [hd] at h1 h2
   cases hx:l[k]? with
   | none=>rw [hx] at h1;simp at h1
   | some x =>
    rw [hx] at h1 h2
    simp only [Option.map_some,Option.some.injEq] at h1 h2 ⊢
    rw [h1,h2]
 have hsz:D.toArray.size=l.length:=by simpa using hlen
 have hH:Sort.Holds (fun x:OE w g=>x.u.v) w g 0 D.toArray:=fun j hj=>by
  have hj2:j < l.length:=by omega
  obtain ⟨x,hx⟩:=get_of_lt (xs:=l) (k:=j) hj2
  have hc:=ho.cell hx (j:=0) rfl
  simp only [PrE,Nat.mul_one,Nat.add_zero] at hc
  have hfz:=ho.frozen j
  rw [Nat.zero_add]
  refine ⟨?_,hfz⟩
  rw [hc]
  have h1:=congrArg (fun t:List Slc=>t[j]?) hD1
  simp only [List.getElem?_map,hx,Option.map_some] at h1
  have hjd:j < D.length:=by simpa using hj
  rw [List.getElem?_eq_getElem hjd] at h1
  simp only [Option.map_some,Option.some.injEq] at h1
  simp [hjd,h1]
 have hcmp:CmpLays1 Tryz.prog 168 #[] (fun x:OE w g=>x.u.v) (fun x y=>cmpL x.o y.o) g 0 D.toArray.size w:=fun m os dk _ x y=>by
  refine (Compare_any x.u.v y.u.v x.o y.o _ (x.h _ fun k hk hg=>sortW_block k hk hg) (y.h _ fun k hk hg=>sortW_block k hk hg)).mono ?_
  rintro e w' ⟨rfl,rfl⟩
  exact ⟨rfl,0,#[],by rw [Sort.grow_empty];rfl⟩
 have h:=Any.slices_SortFunc Tryz.laysSF (fun x:OE w g=>x.u.v) (fun _=>rfl) (fun x y=>cmpL x.o y.o) (swoO w g) 168 #[] g 0 c0 D.toArray w (fun _ _=>by kernel_rfl) hcmp hH hgl.2 (by omega)
 rw [hsz] at h
 refine Calls.mono h ?_
 rintro e w' ⟨rfl,d',q,os,hp,hso,rfl⟩
 obtain ⟨hp1, -,hp3⟩:=hp
 have hd's:d'.size=l.length:=by rw [hp1,hsz]
 have hperm:d'.toList.Perm D:=by
  have e1:(d'.extract 0 l.length).toList=d'.toList:=by rw [← hd's];simp
  have e2:(D.toArray.extract 0 l.length).toList=D:=by rw [← hsz];simp
  rw [e1,e2] at hp3
  exact hp3
 have hk:=sortW_kp (enc:=fun x:OE w g=>x.u.v) (m:=q) (d:=d') (os:=os) hcur hgl.1
 have hlp:(d'.toList.map fun x=>(x.u,x.o)).Perm l:=by
  have:=hperm.map fun x:OE w g=>(x.u,x.o)
  rwa [hpair] at this
 refine ⟨rfl,d'.toList.map fun x=>(x.u,x.o),hlp, ?_, ?_,fun x hx=>rows_kp (fun x hx=>hr x hx) hk x (hlp.mem_iff.1 hx),hk⟩
 ·have hcs:l.length≤cur.size∧l.length≤c0∧c0≤maxLen∧cur.size=c0:=by
   rcases ho.2 with ⟨e,_⟩ | ⟨g',cap',cur',e,_,h3,h4,h5,h6,_⟩
   ·simp at e
   ·simp only [Value.slice.injEq,Option.some.injEq,Addr.mk.injEq] at e
    obtain ⟨⟨rfl, -, -⟩, -,rfl⟩:=e
    rw [hcur] at h3
    simp only [Option.some.injEq,Obj.cells.injEq,and_true] at h3
    subst h3
    simp only [PrE,Nat.mul_one] at h6
    exact ⟨by omega,h4,h5,h6⟩
  refine ⟨?_, .inr ⟨g,c0,_, ?_,hgl.1,sortW_at hcur, ?_,hcs.2.2.1, ?_, ?_⟩⟩
  ·rw [pairs_flat];simp [PrE]
  ·simp [hd's]
  ·simp [hd's];exact hcs.2.1
  ·simp [Sort.putCells,PrE];exact hcs.2.2.2
  ·rw [pairs_flat]
   have:=take_put (fun x:OE w g=>x.u.v) d' cur (by omega)
   simpa [PrE,Function.comp_def] using this
 ·rw [List.pairwise_map,List.pairwise_iff_getElem]
  intro i j hi hj hij hlex
  have h1:=hso i j (Nat.zero_le _) hij (by rw [← hd's];simpa using hj)
  simp only [ltOf,decide_eq_false_iff_not] at h1
  have hi2:i < d'.size:=by simpa using hi
  have hj2:j < d'.size:=by simpa using hj
  rw [getElem!_pos d' i hi2,getElem!_pos d' j hj2] at h1
  have m1:=hn _ (hlp.mem_iff.1 (List.mem_map.2 ⟨d'[i],by simp,rfl⟩))
  have m2:=hn _ (hlp.mem_iff.1 (List.mem_map.2 ⟨d'[j],by simp,rfl⟩))
  simp only at m1 m2
  rw [cmpL_lex (m2.trans m1.symm)] at h1
  have h3:=lexO_swap d'[i].o d'[j].o
  simp only [Array.getElem_toList] at hlex
  omega
end Go.Proofs.YtlddmagfbcomgaaGreat
namespace Go.Proofs.YtlddmagfbcomgaaGreat
open Go.RowKit
theorem OutsU.toPairs {w:World} {base:Nat} {v:Value} {outs:List (List Int)} (h:OutsU w base v outs):∃ l:List (Slc × List Int),l.map Prod.snd=outs∧Own PrE 40 w base v l∧∀ x∈l,Own IntE 3 w base x.1.v x.2:=by
 obtain ⟨us,h1,h2,h3⟩:=h
 refine ⟨us.zip outs,List.map_snd_zip (Nat.le_of_eq h1.symm),Own.pairs.2 (by rw [List.map_fst_zip (Nat.le_of_eq h1)];exact h2),fun x hx => ?_⟩
 obtain ⟨i,hi⟩:=List.mem_iff_getElem?.1 hx
 rw [List.getElem?_zip_eq_some] at hi
 exact h3 i x.1 x.2 hi.1 hi.2
theorem OutsU.ofPairs {w:World} {base:Nat} {v:Value} {l:List (Slc × List Int)} (h:Own PrE 40 w base v l) (hr:∀ x∈l,Own IntE 3 w base x.1.v x.2):OutsU w base v (l.map Prod.snd):=by
 refine ⟨l.map Prod.fst,by simp,Own.pairs.1 h,fun i u o hu ho => ?_⟩
 rw [List.getElem?_map] at hu ho
 cases hx:l[i]? with
 | none=>rw [hx] at hu;simp at hu
 | some x =>
  rw [hx] at hu ho
  simp only [Option.map_some,Option.some.injEq] at hu ho
  subst hu;subst ho
  exact hr x (List.mem_of_getElem? hx)
theorem Compact_nil (w:World):Calls Tryz.prog 169 #[.slice none 0 0, .func (.func 170) #[] #[]] w fun e w'=>e = .returned (.slice none 0 0)∧w=w':=by
 go_enter Tryz.func169,Tryz.ntmps169
 go_wp2_with fail
 go_ret
 exact ⟨rfl,rfl⟩
theorem sortedOutcomes_any (n N:Nat) (hN:N≤68719476736) : @SortsTo n N:=by
 intro w base v outs ho hb hn hl
 obtain ⟨l,rfl,hp,hr⟩:=ho.toPairs
 have hn2:∀ x∈l,x.2.length=n:=fun x hx=>hn x.2 (List.mem_map.2 ⟨x,hx,rfl⟩)
 have hl2:l.length≤68719476736:=by rw [List.length_map] at hl;omega
 rcases hp.shape with ⟨rfl,rfl⟩ | ⟨g,c0,rfl, -⟩
 ·have H1:=hide (AnyF.slices_SortFunc_none (P:=Tryz.prog) (ρ:=Tryz.laysSF_ren) { Tryz.laysSF with } none 0 (.func (.func 168) #[] #[]) w)
  have H2:=hide (Compact_nil w)
  have F:Hid (∃ v' l',Ending.returned (Value.slice none 0 0) = .returned v'∧OutsU w base v' l'∧OutsOk n l'∧(∀ o,o∈l'↔o∈List.map Prod.snd ([]:List (Slc × List Int)))∧KpT [40] base w w):=hide ⟨_,[],rfl, .nil _ _,⟨fun o h=>by simp at h, .nil⟩,fun o=>by simp, .refl _ _ _⟩
  clear ho hp hr hn hl hn2
  go_enter Tryz.func113,Tryz.ntmps113
  go_wp2_with (first
   | (go_at_call 167;refine H1.out.mono ?_;rintro e w1 ⟨rfl,rfl⟩)
   | (go_at_call 169;(with_reducible refine H2.out.mono ?_);rintro e w2 ⟨rfl,rfl⟩))
  go_ret
  exact F.out
 ·have H1:=hide (SortF_any base g c0 n l w hp hr hn2 hl2)
  have HC:=hide (fun (l':List (Slc × List Int)) (w1:World) (h1:l'.Perm l) h2 h3 h4=>Compact_any base g c0 n l' w1 h2 h3 (fun x hx=>hn2 x (h1.mem_iff.1 hx)) h4 (by rw [h1.length_eq];exact hl2))
  clear ho hp hr hn hl hn2
  generalize hm:l.length=m at *
  have HM:=hide hm
  clear hm
  go_enter Tryz.func113,Tryz.ntmps113
  go_wp2_with fail
  (with_reducible refine H1.out.mono ?_);rintro e w1 ⟨rfl,l',hpm,ho1,hs1,hr1,hk1⟩
  have hlm:l'.length=m:=by rw [hpm.length_eq];exact HM.out
  have H2:=hide (HC.out l' w1 hpm (by rw [hlm];exact ho1) hr1 hs1)
  rw [hlm] at H2
  have HPM:=hide hpm;have HK1:=hide hk1;have HLM:=hide hlm
  clear hpm ho1 hs1 hr1 hk1 hlm H1 HC
  go_wp2_with fail
  (with_reducible refine H2.out.mono ?_);rintro e w2 ⟨v',r,rfl,ho2,hci,hr2,hk2⟩
  have F:Hid (∃ v'' l'',Ending.returned v' = .returned v''∧OutsU w2 base v'' l''∧OutsOk n l''∧(∀ o,o∈l''↔o∈l.map Prod.snd)∧KpT [40] base w w2):=hide ⟨v',r.map Prod.snd,rfl, .ofPairs ho2 (fun x hx=>hr2 x (hci.sub x hx)),hci.ok,fun o=>by
   rw [hci.mem,List.take_length]
   exact (HPM.out.map Prod.snd).mem_iff,HK1.out.trans hk2⟩
  clear ho2 hci hr2 hk2
  go_wp2_with fail
  go_ret
  exact F.out
end Go.Proofs.YtlddmagfbcomgaaGreat