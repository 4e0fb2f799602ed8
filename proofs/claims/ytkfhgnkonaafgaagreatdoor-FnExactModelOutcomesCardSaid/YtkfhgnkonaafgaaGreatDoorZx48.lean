/-
  FnExactModelOutcomes: for every input the law returns true and the input reads afterwards as it read before; the tied card. Condition: none beyond the row's own (the listed variable starts as the program's text lays it, which the card ties).
-/
import Derived.Test.YtkfhgnkonaafgaaGreatDoorZx46
import Derived.Test.YtkfhgnkonaafgaaGreatDoorZx47
import Derived.Shelf.SlSortCmp.NoneTotal
import Derived.Test.YtkfhgnkonaafgaaGreatDoorZx38
import Derived.Test.YtkfhgnkonaafgaaGreatDoorZx26
import Derived.Test.YtkfhgnkonaafgaaGreatDoorZx11
import Derived.Test.YtkfhgnkonaafgaaGreatDoorZx18
import Derived.Test.YtkfhgnkonaafgaaGreatDoorZx40
import Derived.Test.YtkfhgnkonaafgaaGreatDoorZx12
import Derived.Test.YtkfhgnkonaafgaaGreatDoorZx05
import Derived.Test.YtkfhgnkonaafgaaGreatDoorZx41
import Derived.Test.YtkfhgnkonaafgaaGreatDoorZx10
import Derived.Test.YtkfhgnkonaafgaaGreatDoorZx27
import Derived.Test.YtkfhgnkonaafgaaGreatDoorZx04
import Derived.Test.YtkfhgnkonaafgaaGreatDoorZx25
import Derived.Test.YtkfhgnkonaafgaaGreatDoorTie
import Derived.Test.YtkfhgnkonaafgaaGreatDoorCards
import Derived.SevenTiedAt
set_option maxHeartbeats 6400000
set_option maxRecDepth 100000
namespace Go.Proofs.YtkfhgnkonaafgaaGreatDoor
open Go.RowKit
theorem take_put {α:Type} [Inhabited α] (enc:α→Value) (d:Array α) (cur:Array Value) (h:d.size≤cur.size):(Sort.putCells enc 0 d cur).toList.take d.size=d.toList.map enc:=by
 apply List.ext_getElem?
 intro k
 rw [List.getElem?_take]
 by_cases hk:k < d.size
 ·rw [if_pos hk]
  have h1:k < cur.size:=by omega
  simp [Sort.putCells,hk,h1]
 ·rw [if_neg hk,List.getElem?_eq_none (by simpa using hk)]
theorem pairs_flat (l:List (Slc × List Int)):l.flatMap PrE.c=l.map fun x=>x.1.v:=by
 induction l with
 | nil=>rfl
 | cons x l ih=>rw [List.flatMap_cons,ih];rfl
theorem SortF_any (base g c0 n:Nat) (l:List (Slc × List Int)) (w:World) (ho:Own PrE 24 w base (.slice (some ⟨g,0,none⟩) l.length c0) l) (hr:∀ x∈l,Own IntE 3 w base x.1.v x.2) (hn:∀ x∈l,x.2.length=n) (hl:l.length≤68719476736) :
 Calls Tryz.prog 85 #[.slice (some ⟨g,0,none⟩) l.length c0, .func (.func 86) #[] #[]] w fun e w'=>e = .returned (.tuple #[]) ∧
  ∃ l':List (Slc × List Int),l'.Perm l∧Own PrE 24 w' base (.slice (some ⟨g,0,none⟩) l.length c0) l'∧(l'.Pairwise fun a b=>lexO a.2 b.2≠1)∧(∀ x∈l',Own IntE 3 w' base x.1.v x.2)∧KpT [24] base w w':=by
 obtain ⟨cur,hcur⟩:=ho.typeT (g:=g) rfl
 have hgl:=World.ownsRow.lt ho g rfl
 obtain ⟨D,hD1,hD2⟩:=mkOE (F:=fun x:OE w g=>x.u) (G:=fun x:OE w g=>x.o) (us:=l.map Prod.fst) (outs:=l.map Prod.snd) (by simp) fun i u o hu ho'=>by
  rw [List.getElem?_map] at hu ho'
  cases hx:l[i]? with
  | none=>rw [hx] at hu;simp at hu
  | some x =>
   rw [hx] at hu ho'
   simp only [Option.map_some,Option.some.injEq] at hu ho'
   subst hu;subst ho'
   have hrow:=hr x (List.mem_of_getElem? hx)
   refine ⟨⟨x.1,x.2,fun W hW=>(hrow.sameT fun q hq => ?_).rep⟩,rfl,rfl⟩
   refine hW q (World.ownsRow.lt hrow q hq).2 fun e => ?_
   obtain ⟨a,ha⟩:=hrow.typeT hq
   rw [e,hcur] at ha
   simp at ha
 have hlen:D.length=l.length:=by simpa using congrArg List.length hD1
 have hpair:D.map (fun x=>(x.u,x.o))=l:=by
  apply List.ext_getElem?
  intro k
  have h1:=congrArg (fun t:List Slc=>t[k]?) hD1
  have h2:=congrArg (fun t:List (List Int)=>t[k]?) hD2
  simp only [List.getElem?_map] at h1 h2 ⊢
  cases hd:D[k]? with
  | none=>rw [hd] at h1;cases hx:l[k]? with
   | none=>rfl
   | some x=>rw [hx] at h1;simp at h1
  | some y =>
   rw [hd] at h1 h2
   cases hx:l[k]? with
   | none=>rw [hx] at h1;simp at h1
   | some x =>
    rw [hx] at h1 h2
    simp only [Option.map_some,Option.some.injEq] at h1 h2 ⊢
    rw [h1,h2]
 have hsz:D.toArray.size=l.length:=by simpa using hlen
 have hH:Sort.Holds (fun x:OE w g=>x.u.v) w g 0 D.toArray:=fun j hj=>by
  have hj2:j < l.length:=by omega
  obtain ⟨x,hx⟩:=get_of_lt (xs:=l) (k:=j) hj2
  have hc:=ho.cell hx (j:=0) rfl
  simp only [PrE,Nat.mul_one,Nat.add_zero] at hc
  have hfz:=ho.frozen j
  rw [Nat.zero_add]
  refine ⟨?_,hfz⟩
  rw [hc]
  have h1:=congrArg (fun t:List Slc=>t[j]?) hD1
  simp only [List.getElem?_map,hx,Option.map_some] at h1
  have hjd:j < D.length:=by simpa using hj
  rw [List.getElem?_eq_getElem hjd] at h1
  simp only [Option.map_some,Option.some.injEq] at h1
  simp [hjd,h1]
 have hcmp:CmpLays1 Tryz.prog 86 #[] (fun x:OE w g=>x.u.v) (fun x y=>cmpL x.o y.o) g 0 D.toArray.size w:=fun m os dk _ x y=>by
  refine (Compare_any x.u.v y.u.v x.o y.o _ (x.h _ fun k hk hg=>sortW_block k hk hg) (y.h _ fun k hk hg=>sortW_block k hk hg)).mono ?_
  rintro e w' ⟨rfl,rfl⟩
  exact ⟨rfl,0,#[],by rw [Sort.grow_empty];rfl⟩
 have h:=Any.slices_SortFunc Tryz.laysSF (fun x:OE w g=>x.u.v) (fun _=>rfl) (fun x y=>cmpL x.o y.o) (swoO w g) 86 #[] g 0 c0 D.toArray w (fun _ _=>by kernel_rfl) hcmp hH hgl.2 (by omega)
 rw [hsz] at h
 refine Calls.mono h ?_
 rintro e w' ⟨rfl,d',q,os,hp,hso,rfl⟩
 obtain ⟨hp1, -,hp3⟩:=hp
 have hd's:d'.size=l.length:=by rw [hp1,hsz]
 have hperm:d'.toList.Perm D:=by
  have e1:(d'.extract 0 l.length).toList=d'.toList:=by rw [← hd's];simp
  have e2:(D.toArray.extract 0 l.length).toList=D:=by rw [← hsz];simp
  rw [e1,e2] at hp3
  exact hp3
 have hk:=sortW_kp (enc:=fun x:OE w g=>x.u.v) (m:=q) (d:=d') (os:=os) hcur hgl.1
 have hlp:(d'.toList.map fun x=>(x.u,x.o)).Perm l:=by
  have:=hperm.map fun x:OE w g=>(x.u,x.o)
  rwa [hpair] at this
 refine ⟨rfl,d'.toList.map fun x=>(x.u,x.o),hlp, ?_, ?_,fun x hx=>rows_kp (fun x hx=>hr x hx) hk x (hlp.mem_iff.1 hx),hk⟩
 ·have hcs:l.length≤cur.size∧l.length≤c0∧c0≤maxLen∧cur.size=c0:=by
   rcases ho.2 with ⟨e,_⟩ | ⟨g',cap',cur',e,_,h3,h4,h5,h6,_⟩
   ·simp at e
   ·simp only [Value.slice.injEq,Option.some.injEq,Addr.mk.injEq] at e
    obtain ⟨⟨rfl, -, -⟩, -,rfl⟩:=e
    rw [hcur] at h3
    simp only [Option.some.injEq,Obj.cells.injEq,and_true] at h3
    subst h3
    simp only [PrE,Nat.mul_one] at h6
    exact ⟨by omega,h4,h5,h6⟩
  refine ⟨?_, .inr ⟨g,c0,_, ?_,hgl.1,sortW_at hcur, ?_,hcs.2.2.1, ?_, ?_⟩⟩
  ·rw [pairs_flat];simp [PrE]
  ·simp [hd's]
  ·simp [hd's];exact hcs.2.1
  ·simp [Sort.putCells,PrE];exact hcs.2.2.2
  ·rw [pairs_flat]
   have:=take_put (fun x:OE w g=>x.u.v) d' cur (by omega)
   simpa [PrE,Function.comp_def] using this
 ·rw [List.pairwise_map,List.pairwise_iff_getElem]
  intro i j hi hj hij hlex
  have h1:=hso i j (Nat.zero_le _) hij (by rw [← hd's];simpa using hj)
  simp only [ltOf,decide_eq_false_iff_not] at h1
  have hi2:i < d'.size:=by simpa using hi
  have hj2:j < d'.size:=by simpa using hj
  rw [getElem!_pos d' i hi2,getElem!_pos d' j hj2] at h1
  have m1:=hn _ (hlp.mem_iff.1 (List.mem_map.2 ⟨d'[i],by simp,rfl⟩))
  have m2:=hn _ (hlp.mem_iff.1 (List.mem_map.2 ⟨d'[j],by simp,rfl⟩))
  simp only at m1 m2
  rw [cmpL_lex (m2.trans m1.symm)] at h1
  have h3:=lexO_swap d'[i].o d'[j].o
  simp only [Array.getElem_toList] at hlex
  omega
end Go.Proofs.YtkfhgnkonaafgaaGreatDoor
namespace Go.Proofs.YtkfhgnkonaafgaaGreatDoor
open Go.RowKit
def OneB (l:List (Slc × List Int)):Prop:=∀ x∈l,∀ y∈l,∀ q,x.1.v.ownBlock=some q→y.1.v.ownBlock=some q→x.2=y.2
theorem OneB.nil:OneB []:=fun x h=>by simp at h
theorem OneB.snoc {l:List (Slc × List Int)} (h:OneB l) {x:Slc × List Int} (hx:∀ y∈l,∀ q,x.1.v.ownBlock=some q→y.1.v.ownBlock≠some q):OneB (l++[x]):=fun a ha b hb q h1 h2=>by
 rcases List.mem_append.1 ha with ka | ka <;> rcases List.mem_append.1 hb with kb | kb
 ·exact h a ka b kb q h1 h2
 ·simp at kb;rw [kb] at h2;exact absurd h1 (hx a ka q h2)
 ·simp at ka;rw [ka] at h1;exact absurd h2 (hx b kb q h1)
 ·simp at ka kb;rw [ka,kb]
def RetSP (w:World) (base n:Nat) (l:List (Slc × List Int)) (e:Ending) (w':World):Prop:=
 ∃ v' r,e = .returned v'∧Own PrE 24 w' base v' r∧(∀ x∈r,Own IntE 3 w' base x.1.v x.2)∧(∀ x∈r,x∈l)∧OutsOk n (r.map Prod.snd)∧(∀ o,o∈r.map Prod.snd↔o∈l.map Prod.snd)∧KpT [24] base w w'
theorem Compact_nil7 (w:World):Calls Tryz.prog 87 #[.slice none 0 0, .func (.func 88) #[] #[]] w fun e w'=>e = .returned (.slice none 0 0)∧w=w':=by
 go_enter Tryz.func87,Tryz.ntmps87
 go_wp2_with fail
 go_ret
 exact ⟨rfl,rfl⟩
theorem sortedPairs_any (n:Nat) (w:World) (base:Nat) (v:Value) (l:List (Slc × List Int)) (hp:Own PrE 24 w base v l) (hr:∀ x∈l,Own IntE 3 w base x.1.v x.2) (hn:∀ x∈l,x.2.length=n) (hl:l.length≤68719476736) :
 Calls Tryz.prog 53 #[v] w (RetSP w base n l):=by
 rcases hp.shape with ⟨rfl,rfl⟩ | ⟨g,c0,rfl, -⟩
 ·have H1:=hide (AnyF.slices_SortFunc_none (P:=Tryz.prog) (ρ:=Tryz.laysSF_ren) { Tryz.laysSF with } none 0 (.func (.func 86) #[] #[]) w)
  have H2:=hide (Compact_nil7 w)
  have F:Hid (RetSP w base n [] (Ending.returned (Value.slice none 0 0)) w):=hide ⟨_,[],rfl,Own.nil _ _ _,fun x h=>by simp at h,fun x h=>by simp at h,⟨fun o h=>by simp at h, .nil⟩,fun o=>by simp, .refl _ _ _⟩
  clear hp hr hn hl
  go_enter Tryz.func53,Tryz.ntmps53
  go_wp2_with (first
   | (go_at_call 85;refine H1.out.mono ?_;rintro e w1 ⟨rfl,rfl⟩)
   | (go_at_call 87;(with_reducible refine H2.out.mono ?_);rintro e w2 ⟨rfl,rfl⟩))
  go_ret
  exact F.out
 ·have H1:=hide (SortF_any base g c0 n l w hp hr hn hl)
  have HC:=hide (fun (l':List (Slc × List Int)) (w1:World) (h1:l'.Perm l) h2 h3 h4=>Compact_any base g c0 n l' w1 h2 h3 (fun x hx=>hn x (h1.mem_iff.1 hx)) h4 (by rw [h1.length_eq];exact hl))
  clear hp hr hn hl
  generalize hm:l.length=m at *
  have HM:=hide hm
  clear hm
  go_enter Tryz.func53,Tryz.ntmps53
  go_wp2_with fail
  (with_reducible refine H1.out.mono ?_);rintro e w1 ⟨rfl,l',hpm,ho1,hs1,hr1,hk1⟩
  have hlm:l'.length=m:=by rw [hpm.length_eq];exact HM.out
  have H2:=hide (HC.out l' w1 hpm (by rw [hlm];exact ho1) hr1 hs1)
  rw [hlm] at H2
  have HPM:=hide hpm;have HK1:=hide hk1;have HLM:=hide hlm
  clear hpm ho1 hs1 hr1 hk1 hlm H1 HC
  go_wp2_with fail
  (with_reducible refine H2.out.mono ?_);rintro e w2 ⟨v',r,rfl,ho2,hci,hr2,hk2⟩
  have F:Hid (RetSP w base n l (Ending.returned v') w2):=hide ⟨v',r,rfl,ho2,(fun x hx=>hr2 x (hci.sub x hx)),(fun x hx=>HPM.out.mem_iff.1 (hci.sub x hx)),hci.ok,fun o=>by
   rw [hci.mem,List.take_length]
   exact (HPM.out.map Prod.snd).mem_iff,HK1.out.trans hk2⟩
  clear ho2 hci hr2 hk2
  go_wp2_with fail
  go_ret
  exact F.out
theorem own2_pairs {w:World} {base n:Nat} {v:Value} {r:List (Slc × List Int)} (ho:Own PrE 24 w base v r) (hr:∀ x∈r,Own IntE 3 w base x.1.v x.2) (h1:OneB r) (hk:OutsOk n (r.map Prod.snd)):Own2 IntE 24 3 w base v (r.map Prod.snd):=by
 have get:∀ {i:Nat} {u:Slc},(r.map Prod.fst)[i]? = some u→∃ x,r[i]? = some x∧x.1=u:=fun {i u} h=>by
  rw [List.getElem?_map] at h
  cases hx:r[i]? with
  | none=>rw [hx] at h;simp at h
  | some x=>rw [hx] at h;simp at h;exact ⟨x,rfl,h⟩
 refine ⟨r.map Prod.fst,by simp,Own.pairs.1 ho,fun i u o hu hoo => ?_,fun i j u u' hu hu' hij q h2 h3 => ?_,fun i u hu q h2 h3 => ?_⟩
 ·obtain ⟨x,hx,rfl⟩:=get hu
  rw [List.getElem?_map,hx] at hoo
  simp at hoo
  subst hoo
  exact hr x (List.mem_of_getElem? hx)
 ·obtain ⟨x,hx,rfl⟩:=get hu
  obtain ⟨y,hy,rfl⟩:=get hu'
  have e:=h1 x (List.mem_of_getElem? hx) y (List.mem_of_getElem? hy) q h2 h3
  have g1:(r.map Prod.snd)[i]? = some x.2:=by rw [List.getElem?_map,hx];rfl
  have g2:(r.map Prod.snd)[j]? = some y.2:=by rw [List.getElem?_map,hy];rfl
  obtain ⟨a1,a2⟩:=List.getElem?_eq_some_iff.1 g1
  obtain ⟨b1,b2⟩:=List.getElem?_eq_some_iff.1 g2
  have z:=(lexO_eq (a:=x.2) (b:=x.2) rfl).2 rfl
  rcases Nat.lt_or_ge i j with g | g
  ·have h4:=List.pairwise_iff_getElem.1 hk.pw i j a1 b1 g
   rw [a2,b2,← e] at h4;omega
  ·have h4:=List.pairwise_iff_getElem.1 hk.pw j i b1 a1 (by omega)
   rw [a2,b2,← e] at h4;omega
 ·obtain ⟨x,hx,rfl⟩:=get hu
  obtain ⟨a,ha⟩:=(hr x (List.mem_of_getElem? hx)).typeT h2
  obtain ⟨b,hb⟩:=ho.typeT h3
  rw [ha] at hb
  simp only [Option.some.injEq,Obj.cells.injEq,and_true] at hb
  exact absurd hb.2 (by decide)
end Go.Proofs.YtkfhgnkonaafgaaGreatDoor
namespace Go.Proofs.YtkfhgnkonaafgaaGreatDoor
open Go.RowKit
def RetOO (w:World) (L:List (List Int)) (e:Ending) (w':World):Prop:=∃ v',e = .returned v'∧Own2 IntE 24 3 w' w.heap.size v' L∧Below w.heap.size w w'
theorem ModelOutcomes_any (pv:Value) (a:Option Addr) (n c:Nat) (p:List (List Ins)) (m:List Ru) (w:World) (hp:RepP w pv p) (hm:RepM 0 w ⟨a,n,c⟩ m) (hl:p.flatten.length≤1048576) (hg:Glob w) :
 Calls Tryz.prog 23 #[pv, .slice a n c] w (RetOO w (outsM p m)):=by
 obtain ⟨pa,pc,rfl, -, -, -, -⟩:=hp.open
 have HA:=hide (AllowedExecs_any (.slice pa p.length pc) a n c p m w hp hm hl hg)
 have HP:=hide hp
 have HOK:=hide (fun (x:Xc) (h:x∈allowV p m)=>(allowV_ok h).2)
 have HO:=hide (fun (W:World) (f o:Slc) (x:Xc) (h:RepP W (.slice pa p.length pc) p) (h':RepX W f.v o.v x) (hx:execOk p x=true) (hv:valsOk p x.fr=true)=>(by
  have h1:=outcomeOf_any (.slice pa p.length pc) f.v o.v p x W h h' hl hx
  rw [if_pos hv] at h1
  exact h1:Calls Tryz.prog 43 #[.slice pa p.length pc, .agg #[f.v,o.v]] W (RetNB W (outX p x,true))))
 have HS:=hide (fun (W:World) base v l h1 h2 h3 h4=>sortedPairs_any (3 * p.length+3) W base v l h1 h2 h3 h4)
 have HXL:=hide (fun x=>outX_length p x)
 have HPM:=hide (putsM_ok p (allowV p m))
 have ER:Hid (outsM p m=putsM p (allowV p m)):=hide rfl
 have XN:=hide (allowV_le p m)
 clear hp hm hg
 generalize outsM p m=R at *
 generalize putsM p (allowV p m)=R2 at *
 generalize allowV p m=L at *
 generalize outX p=F at *
 generalize p.length=pn at *
 go_enter Tryz.func23,Tryz.ntmps23
 go_wp2_with fail
 (with_reducible refine HA.out.mono ?_);rintro e w1 ⟨⟨ua,un,uc⟩,rfl,⟨us,ds,hu⟩,hb1⟩
 have HU:=hide hu
 have hun:un=L.length:=by
  have h1:=hu.own.len
  rw [hu.lu] at h1;exact h1
 have HUN:=hide hun
 have hU2:un≤3000:=by rw [HUN.out];exact XN.out
 have B1:=hide hb1
 clear hu hun HA hb1
 go_wp2_with fail
 go_loopw [5,14] (fun s i wr => ∃ (k:Nat) (l:List (Slc × List Int)),k≤un∧i = .int .i64 k∧Own PrE 24 wr w1.heap.size s l∧Hid (l.map Prod.snd=(L.take k).map F)∧Hid (∀ x∈l,Own IntE 3 wr w1.heap.size x.1.v x.2)∧Hid (OneB l)∧Hid (Below w1.heap.size w1 wr)) (fun _ i _=>un - (intOf i).toNat)
 case atStart=>exact ⟨0,[],Nat.zero_le _,rfl,Own.nil _ _ _,hide (by simp),hide (fun x h=>by simp at h),hide OneB.nil,hide (Below.refl _ _)⟩
 case round =>
  obtain ⟨k,l,hk,rfl,ho,HL,HR,HB1,HBW⟩:=hrel
  by_cases hlt:k < un
  ·have hlt':=nat_of_lt hlt
   obtain ⟨x,hxk⟩:=get_of_lt (xs:=L) (k:=k) (by rw [← HUN.out];exact hlt)
   obtain ⟨u,d,g,hu1,hd1,hga,hg1,hg2,hcell,hdl,hloc⟩:=HU.out.at hxk
   subst hga
   have c0:wr.cell? ⟨g,k * 2,none⟩=some (.slice u.f.a u.f.n u.f.cap):=by
    have:=hcell 0 _ rfl
    exact (HBW.out.cell (p:=⟨g,k * 2,none⟩) hg2).trans (by simpa [XE] using this)
   have c1:wr.cell? ⟨g,k * 2+1,none⟩=some (.slice u.o.a u.o.n u.o.cap):=by
    have:=hcell 1 _ rfl
    exact (HBW.out.cell (p:=⟨g,k * 2+1,none⟩) hg2).trans (by simpa [XE] using this)
   have cl:=lt_of_cell c0
   have BA:=hide (belowAlloc wr (.cells #[.slice u.f.a u.f.n u.f.cap, .slice u.o.a u.o.n u.o.cap] 29))
   have hRX:RepX wr u.f.v u.o.v x:=hloc.keep wr (fun q ob h1 h2 h3 _=>(HBW.out.block q (Array.getElem?_eq_some_iff.1 h3).1).trans h3)
   have hok:=HOK.out x (List.mem_of_getElem? hxk)
   have HO1:=hide (HO.out _ u.f u.o x ((HP.out.below (B1.out.trans (HBW.out.mono B1.out.size))).below BA.out) (hRX.below BA.out) hok.1 hok.2)
   have TS:Hid ((L.take (k+1)).map F=(L.take k).map F++[F x]):=hide (by rw [List.take_add_one,hxk,List.map_append];rfl)
   have hlen:l.length≤68719476736:=by
    have h1:=congrArg List.length HL.out
    rw [List.length_map,List.length_map,List.length_take] at h1
    omega
   generalize F x=fx at *
   obtain ⟨⟨fa,fn,fc⟩,⟨oa,on,oc⟩⟩:=u
   simp only at c0 c1
   have HOW:=hide ho
   clear hu1 hd1 hcell hloc hxk hRX hok ho
   go_wp2_with fail
   (with_reducible refine HO1.out.mono ?_);rintro e w3 ⟨⟨va,vn,vc⟩,rfl,oo,hb3⟩
   have OO:=hide oo
   have B3:=hide (BA.out.trans (hb3.mono BA.out.size))
   have hz3:=B3.out.size
   clear hb3 oo HO1 c0 c1 cl
   go_wp2_with (at_builtin;refine wpList_appAt PrE 24 Tryz.infoIntSM rfl Tryz.underlying27 w1.heap.size _ l (⟨⟨va,vn,vc⟩,fx⟩:Slc × List Int) ((HOW.out.below B3.out).alloc _) (by decide) hlen (by simp;have:=HBW.out.size;omega) rfl _ _ rfl rfl w3.heap.size 0 1 rfl news_alloc ?_;intro v' w5 hown5 hgr5 hbl5)
   have A3:=belowAlloc w3 (.cells #[.slice va vn vc] 24)
   have HOW3:=hide ((HOW.out.below B3.out).below A3)
   have HN:Hid (∀ x∈l++[(⟨⟨va,vn,vc⟩,fx⟩:Slc × List Int)],Own IntE 3 w5 w1.heap.size x.1.v x.2):=hide (fun x hx=>by
    rcases List.mem_append.1 hx with hx | hx
    ·exact (((HR.out x hx).below B3.out).below A3).grown_ne HOW3.out (by decide) hgr5
    ·simp at hx
     subst hx
     exact ((OO.out.mono (by have:=HBW.out.size;have:=BA.out.size;omega)).below A3).grown_ne HOW3.out (by decide) hgr5)
   have HN1:Hid (OneB (l++[(⟨⟨va,vn,vc⟩,fx⟩:Slc × List Int)])):=hide (HB1.out.snoc fun y hy q h1 h2=>by
    have g1:=(World.ownsRow.lt OO.out q h1).1
    have g2:=(World.ownsRow.lt (HR.out y hy) q h2).2
    have:=BA.out.size
    omega)
   have HW5:Hid (Below w1.heap.size w1 w5):=hide ((HBW.out.trans ((B3.out.trans (A3.mono hz3)).mono HBW.out.size)).grown hgr5 (by simp;have:=HBW.out.size;omega) (fun q hq=>(World.ownsRow.lt HOW.out q hq).1))
   have HL5:Hid ((l++[(⟨⟨va,vn,vc⟩,fx⟩:Slc × List Int)]).map Prod.snd=(L.take (k+1)).map F):=hide (by rw [TS.out,List.map_append,HL.out];rfl)
   have HO5:=hide hown5
   clear hown5 hgr5 hbl5 A3
   go_roundw
   case rel=>exact ⟨k+1,_,by omega,by go_num,HO5.out,HL5,HN,HN1,HW5⟩
   case measure=>simp [intOf];omega
  ·obtain rfl:k=un:=by omega
   have hL:l.map Prod.snd=L.map F:=by rw [HL.out,List.take_of_length_le (by rw [HUN.out];exact Nat.le_refl _)]
   have hmem:∀ y∈l,y.2.length=3 * pn+3:=fun y hy=>by
    have h1:y.2∈L.map F:=by rw [← hL];exact List.mem_map.2 ⟨y,hy,rfl⟩
    obtain ⟨x, -,h2⟩:=List.mem_map.1 h1
    rw [← h2];exact HXL.out x
   have hlen:l.length≤68719476736:=by
    have h1:=congrArg List.length hL
    rw [List.length_map,List.length_map] at h1
    have:=HUN.out;omega
   have HSC:=hide (HS.out wr w1.heap.size _ l ho HR.out hmem hlen)
   have HLL:=hide hL
   clear ho hL hmem hlen
   go_wp2_with fail
   (with_reducible refine HSC.out.mono ?_);rintro e w2 ⟨v',r,rfl,ro,rr',rs,rk,rm,rkp⟩
   have FIN:Hid (RetOO w R (.returned v') w2):=hide (by
    refine ⟨v',rfl, ?_,B1.out.trans ((HBW.out.trans (rkp.below HBW.out.size)).mono B1.out.size)⟩
    have e:r.map Prod.snd=R:=by
     rw [ER.out]
     refine outs_unique rk HPM.out.1 fun o => ?_
     rw [rm,HLL.out,HPM.out.2.1]
    rw [← e]
    exact (own2_pairs ro rr' (fun x hx y hy=>HB1.out x (rs x hx) y (rs y hy)) rk).mono B1.out.size)
   clear ro rr' rs rk rm rkp
   go_wp2_with fail
   go_ret
   exact FIN.out
end Go.Proofs.YtkfhgnkonaafgaaGreatDoor
namespace Go.Proofs.YtkfhgnkonaafgaaGreatDoor
open Go.RowKit
theorem l8Outcomes_any (pv:Value) (u0:Slc) (p:List (List Ins)) (L:List Xc) (base0:Nat) (w:World) (hp:RepP w pv p) (hx:RowsX w base0 u0.v L) (hl:p.flatten.length≤1048576) (hL:L.length≤3000) (hok:∀ x∈L,execOk p x=true∧valsOk p x.fr=true) :
 Calls Tryz.prog 51 #[pv, .slice u0.a u0.n u0.cap] w fun e w' => ∃ v,e = .returned v∧Rep2 IntE w' v (putsM p L)∧Below w.heap.size w w':=by
 obtain ⟨pa,pc,rfl, -, -, -, -⟩:=hp.open
 obtain ⟨ua,un,uc⟩:=u0
 obtain ⟨us,ds,hu⟩:=hx
 have HP:=hide hp
 have HOK:=hide hok
 have HV:=hide (fun (W:World) (f o:Slc) (x:Xc) (h:RepP W (.slice pa p.length pc) p) (h':RepX W f.v o.v x) (hx:execOk p x=true)=>l6Values_any (.slice pa p.length pc) f.v o.v p x W h h' hl hx)
 have HO:=hide (fun (W:World) (f o vv:Slc) (x:Xc) (h:RepP W (.slice pa p.length pc) p) (h':RepX W f.v o.v x) (h2:Rep IntE W vv.v (valsL p x.fr)) (hx:execOk p x=true) (hv:valsOk p x.fr=true)=>(show Calls Tryz.prog 38 #[.slice pa p.length pc, .agg #[f.v,o.v],vv.v] W (RetOwn IntE 3 W (outX p x)) from l6Outcome_any (.slice pa p.length pc) f.v o.v vv.v p x W h h' h2 hl hx hv))
 have HPU:=hide (fun (B:Nat) vl u K o W h1 h2 h3 h4=>l3Put_any [] B w.heap.size vl u K o W h1 h2 (by simp) h3 h4)
 have HSN:=hide (fun (K:List Xc) x=>putsM_snoc p K x)
 have HSZ:Hid (putsM p []=[]):=hide rfl
 have HLN:=hide (fun K=>(putsM_ok p K).2.2)
 have HU:=hide hu
 have hun:un=L.length:=by
  have h1:=hu.own.len
  rw [hu.lu] at h1;exact h1
 have HUN:=hide hun
 have hU2:un≤3000:=by rw [HUN.out];exact hL
 clear hp hu hun hok hL
 generalize putsM p=F at *
 go_enter Tryz.func51,Tryz.ntmps51
 go_wp2_with fail
 go_loopw [5,6] (fun s i wr => ∃ k:Nat,k≤un∧i = .int .i64 k∧OutL [] 0 wr w.heap.size s (F (L.take k))∧Hid (Below w.heap.size w wr)) (fun _ i _=>un - (intOf i).toNat)
 case atStart=>exact ⟨0,Nat.zero_le _,rfl,by rw [List.take_zero,HSZ.out];exact OutL.empty (Nat.le_refl _),hide (belowAlloc _ _)⟩
 case round =>
  obtain ⟨k,hk,rfl,ho,HBW⟩:=hrel
  have hsz:=HBW.out.size
  by_cases hlt:k < un
  ·have hlt':=nat_of_lt hlt
   obtain ⟨x,hxk⟩:=get_of_lt (xs:=L) (k:=k) (by rw [← HUN.out];exact hlt)
   obtain ⟨u,d,g,hu1,hd1,hga,hg1,hg2,hcell,hdl,hloc⟩:=HU.out.at hxk
   subst hga
   have c0:wr.cell? ⟨g,k * 2,none⟩=some (.slice u.f.a u.f.n u.f.cap):=by
    have:=hcell 0 _ rfl
    exact (HBW.out.cell (p:=⟨g,k * 2,none⟩) hg2).trans (by simpa [XE] using this)
   have c1:wr.cell? ⟨g,k * 2+1,none⟩=some (.slice u.o.a u.o.n u.o.cap):=by
    have:=hcell 1 _ rfl
    exact (HBW.out.cell (p:=⟨g,k * 2+1,none⟩) hg2).trans (by simpa [XE] using this)
   have cl:=lt_of_cell c0
   have hRX:RepX wr u.f.v u.o.v x:=hloc.keep wr (fun q ob h1 h2 h3 _=>(HBW.out.block q (Array.getElem?_eq_some_iff.1 h3).1).trans h3)
   have hok:=HOK.out x (List.mem_of_getElem? hxk)
   have HV1:=hide (HV.out wr u.f u.o x (HP.out.below HBW.out) hRX hok.1)
   have HO1:=hide (fun W vv (hb:Below wr.heap.size wr W) h2=>HO.out W u.f u.o vv x ((HP.out.below HBW.out).below hb) (hRX.below hb) h2 hok.1 hok.2)
   have TS:Hid (F (L.take (k+1))=putO (outX p x) (F (L.take k))):=hide (by rw [List.take_add_one,hxk];exact HSN.out _ x)
   have hlen:(F (L.take k)).length≤68719476000:=by
    have:=HLN.out (L.take k)
    have h2:(L.take k).length≤k:=by rw [List.length_take];exact Nat.min_le_left _ _
    omega
   have VO:Hid (valsOk p x.fr=true):=hide hok.2
   generalize F (L.take k)=G at *
   generalize outX p x=fx at *
   generalize valsL p x.fr=vl at *
   generalize valsOk p x.fr=vo at *
   obtain rfl:=VO.out
   obtain ⟨⟨fa,fn,fc⟩,⟨oa,on,oc⟩⟩:=u
   simp only at c0 c1
   have HOW:=hide ho
   clear hu1 hd1 hcell hloc hxk hRX hok ho VO
   go_wp2_with fail
   (with_reducible refine HV1.out.mono ?_);rintro e w3 ⟨⟨va,vn,vc⟩,rfl,ov,hb3⟩
   have c0':=(hb3.cell (p:=⟨g,k * 2,none⟩) cl).trans c0
   have c1':=(hb3.cell (p:=⟨g,k * 2+1,none⟩) cl).trans c1
   have cl':=lt_of_cell c0'
   have HO3:=hide (HO1.out w3 ⟨va,vn,vc⟩ hb3 ov.rep)
   have B3:=hide hb3
   clear hb3 ov c0 c1 cl HV1
   go_wp2_with fail
   (with_reducible refine HO3.out.mono ?_);rintro e w4 ⟨v4,rfl,oo,hb4⟩
   obtain ⟨⟨qa,qn,qc⟩,rfl⟩:∃ s:Slc,v4=s.v:=by obtain ⟨a',c',h, -⟩:=oo.rep.open;exact ⟨⟨a',_,c'⟩,h⟩
   have B4:=hide (B3.out.trans (hb4.mono B3.out.size))
   have hs4:=B4.out.size
   have O4:=HOW.out.step (.of_below (L:=[]) (B:=0) B4.out) (by simp)
   have OO4:Own IntE 3 w4 w.heap.size (Slc.v ⟨qa,qn,qc⟩) fx:=oo.mono (Nat.le_trans hsz B3.out.size)
   have HP4:=hide (HPU.out 0 _ ⟨qa,qn,qc⟩ G fx w4 O4 (LocT.own (L:=[]) (B:=0) OO4 (by simp)) (by omega) hlen)
   clear hb4 oo c0' c1' cl' O4 OO4 HO3
   go_wp2_with fail
   (with_reducible refine HP4.out.mono ?_);rintro e w5 ⟨v5,rfl,o5,hb5⟩
   have HO5:=hide o5
   have B5:=hide (HBW.out.trans ((B4.out.trans (hb5.mono hs4)).mono hsz))
   clear o5 hb5 HP4
   go_wp2_with fail
   go_roundw
   case rel=>exact ⟨k+1,by omega,by go_num,by rw [TS.out];exact HO5.out,B5⟩
   case measure=>simp [intOf];omega
  ·obtain rfl:k=un:=by omega
   rw [List.take_of_length_le (by rw [HUN.out];exact Nat.le_refl _)] at ho
   have HRR:=hide ho.rep2
   clear ho
   go_wp2_with fail
   go_ret
   exact ⟨_,rfl,HRR.out,HBW.out⟩
theorem sModelOutcomes_any (pv:Value) (a:Option Addr) (n c:Nat) (p:List (List Ins)) (m:List Ru) (w:World) (hp:RepP w pv p) (hm:RepM 0 w ⟨a,n,c⟩ m) (hl:p.flatten.length≤1048576) (hpl:p.length≤1048576) (hml:wtM m≤1048576) :
 Calls Tryz.prog 22 #[pv, .slice a n c] w fun e w' => ∃ v,e = .returned v∧Rep2 IntE w' v (outsM p m)∧Below w.heap.size w w':=by
 have HA:=hide (sAllowedExecs_any pv a n c p m w hp hm hl hpl hml)
 have HO:=hide (fun W base u (hb:Below w.heap.size w W) h=>l8Outcomes_any pv u p (allowV p m) base W (hp.below hb) h hl (allowV_le p m) (fun x hx=>(allowV_ok hx).2))
 have ER:Hid (outsM p m=putsM p (allowV p m)):=hide rfl
 obtain ⟨pa,pc,rfl, -, -, -, -⟩:=hp.open
 clear hp hm
 generalize outsM p m=R at *
 generalize putsM p (allowV p m)=R2 at *
 obtain rfl:=ER.out
 clear ER
 generalize allowV p m=L at *
 go_enter Tryz.func22,Tryz.ntmps22
 go_wp2_with fail
 (with_reducible refine HA.out.mono ?_);rintro e w1 ⟨u,rfl,hu,hb1⟩
 have HO1:=hide (HO.out w1 w.heap.size u hb1 hu)
 have B1:=hide hb1
 clear hu hb1
 go_wp2_with fail
 (with_reducible refine HO1.out.mono ?_);rintro e w2 ⟨v,rfl,h2,hb2⟩
 have H2:=hide h2
 have B2:=hide (B1.out.trans (hb2.mono B1.out.size))
 clear h2 hb2
 go_wp2_with fail
 go_ret
 exact ⟨v,rfl,H2.out,B2.out⟩
end Go.Proofs.YtkfhgnkonaafgaaGreatDoor
namespace Go.Proofs.YtkfhgnkonaafgaaGreatDoor
open Go.RowKit
theorem own2_outs {w w':World} {base a b:Nat} {v:Value} {p:List (List Int)} (h:Own2 IntE 24 3 w base v p) (ho:Outside a b w w') (hb:b≤base):Own2 IntE 24 3 w' base v p:=by
 obtain ⟨us,h1,h2,h3,h4,h5⟩:=h
 exact ⟨us,h1,ho.own h2 (fun q hq => .inr (by have:=(World.ownsRow.lt h2 q hq).1;omega)),fun i u r hu hr=>ho.own (h3 i u r hu hr) (fun q hq => .inr (by have:=(World.ownsRow.lt (h3 i u r hu hr) q hq).1;omega)),h4,h5⟩
theorem szMm_le (m:List Ru) (l:Int) (h:¬ szMm m l < 0) (hl:l≤1048576):wtM m≤1048576:=by
 unfold szMm at h
 split at h <;> omega
theorem lawFnExactModelOutcomes (v:Value) (p:List (List Ins)) (a:Option Addr) (n c:Nat) (m:List Ru) (w:World) (hp:RepP w v p) (hm:RepM 0 w ⟨a,n,c⟩ m) (hnm:∀ r∈m,NmOk r.e) (hg:Glob w) :
 Calls Tryz.prog 4 #[v, .slice a n c] w fun e w'=>e = .returned (.bool true)∧Below w.heap.size w w':=by
 have HP:=hide (fun W (hb:Below w.heap.size w W)=>hp.below hb)
 have HM:=hide (fun W (hb:Below w.heap.size w W)=>hm.below hb)
 have HG:=hide (fun W (hb:Below w.heap.size w W)=>hg.below hb)
 have HZ0:=hide (szInstrSS_any v p 1048576 w hp (by omega) (by omega))
 have HS:=hide (fun l W (hb:Below w.heap.size w W) h0 h1=>szRuleS_any m a n c l W (hm.below hb) hnm h0 h1)
 have LE0:=hide (szPP_le2 p 1048576)
 have LE1:=hide (szMm_le m)
 obtain ⟨pa,pc,rfl, -, -, -, -⟩:=hp.open
 clear hp hm hnm hg
 generalize hpn:p.length=pn at *
 have HPN:=hide hpn;clear hpn
 generalize szPP p 1048576=Z0 at *
 by_cases hz0:Z0 < 0
 ·have hz0':decide (Z0 < 0)=true:=decide_eq_true hz0
  go_enter Tryz.func4,Tryz.ntmps4
  go_wp2_with fail
  (with_reducible refine HZ0.out.mono ?_);rintro e w1 ⟨rfl,hb1⟩
  go_wp2_with fail
  go_ret
  exact ⟨rfl,hb1⟩
 have hz0':decide (Z0 < 0)=false:=decide_eq_false hz0
 obtain ⟨⟨hz1,hz2⟩,hpl,hpf,hpr⟩:=LE0.out hz0 (by omega)
 have HS1:=hide (fun W hb=>HS.out Z0 W hb hz1 hz2)
 have LE2:=hide (fun h=>LE1.out Z0 h hz2)
 clear HS LE1 LE0
 generalize szMm m Z0=Z1 at *
 by_cases hz3:Z1 < 0
 ·have hz3':decide (Z1 < 0)=true:=decide_eq_true hz3
  go_enter Tryz.func4,Tryz.ntmps4
  go_wp2_with fail
  (with_reducible refine HZ0.out.mono ?_);rintro e w1 ⟨rfl,hb1⟩
  go_wp2_with fail
  (with_reducible refine (HS1.out w1 hb1).mono ?_);rintro e w2 ⟨rfl,hb2⟩
  go_wp2_with fail
  go_ret
  exact ⟨rfl,hb1.trans (hb2.mono hb1.size)⟩
 have hz3':decide (Z1 < 0)=false:=decide_eq_false hz3
 have hmw:=LE2.out hz3
 have HTP:=hide (fun W hb=>toInstrSS_any _ p W (HP.out W hb) (by rw [HPN.out];exact hpl) hpr)
 have HTM:=hide (fun W hb=>toRuleS_anyO m a n c W (HM.out W hb) hmw)
 have HSA:=hide (fun pv a n c W h1 h2=>sModelOutcomes_any pv a n c p m W h1 h2 hpf (by rw [HPN.out];exact hpl) hmw)
 have HIA:=hide (fun pv a n c W h1 h2 h3=>ModelOutcomes_any pv a n c p m W h1 h2 hpf h3)
 have HEP:=hide (fun x y W h1 h2=>eqInstrSS_any x y p p W h1 h2)
 have HEM:=hide (fun a a' n c n' c' W h1 h2=>eqRuleS_any m m a a' n c n' c' true W h1 h2 (by simp))
 have hsum:sumN (p.map List.length)≤1048576:=by rw [sumN_flatten];exact hpf
 have HMP:=hide (fun x w0 W base h1 h2=>markInstrSS_any x p 1 w0 W base h1 h2 (by omega) (by rw [HPN.out];exact hpl) (by omega) (by omega))
 have hdsc:dscM m≤3145728:=by have:=dscM_wt m;omega
 have HMM:=hide (fun a n c (k:Int) W base us ds HH h1 h2 h5 (h3:0≤k) (h4:k≤100000000)=>markRuleS_any m base a n c k W us ds HH h1 h2 h5 h3 (by omega))
 obtain ⟨hod,hwx⟩:=outsM_few p m
 have HMX:=hide (fun v W base h1=>markIntSS_any v (outsM p m) 1 W W base h1 (Below.refl _ _) (by omega) (by omega) (by omega) (by omega))
 have HHX:=hide (fun v W h1=>heldIntSS_any v ((outsM p m).map List.length) 1 W h1 (by omega) (by omega) (by omega))
 have HEX:=hide (fun v v' W h1 h2=>eqLL_same v v' (outsM p m) W h1 h2)
 have hdd:decide (p=p)=true:=decide_eq_true rfl
 rw [hdd] at HEP
 clear hdd hod hdsc hmw hpl hpf hpr hz1 hz2 LE2
 generalize sumN (p.map List.length)=SP at *
 generalize hX:outsM p m=X at *
 clear hX
 generalize sumN (X.map List.length)=WX at *
 have hwn:¬ ((1:Int)+WX < 0):=by omega
 go_enter Tryz.func4,Tryz.ntmps4
 go_wp2_with fail
 (with_reducible refine HZ0.out.mono ?_);rintro e w1 ⟨rfl,hb1⟩
 go_wp2_with fail
 (with_reducible refine (HS1.out w1 hb1).mono ?_);rintro e w2 ⟨rfl,hb2⟩
 have H2:=hide (hb1.trans (hb2.mono hb1.size))
 clear hb1 hb2 HZ0 HS1
 go_wp2_with fail
 (with_reducible refine (HTP.out w2 H2.out).mono ?_);rintro e w3 ⟨v3,rfl,o3,hb3⟩
 have H3:=hide (H2.out.trans (hb3.mono H2.out.size))
 have O3:=hide o3.rep
 clear hb3 o3
 go_wp2_with fail
 (with_reducible refine (HTM.out w3 H3.out).mono ?_);rintro e w4 ⟨⟨s1,s2,s3⟩,rfl,o4,hb4⟩
 have H4:=hide (H3.out.trans (hb4.mono H3.out.size))
 have HSC:=hide (HSA.out v3 s1 s2 s3 w4 (O3.out.below hb4) (o4.weak.rep.low (Nat.zero_le _)))
 clear hb4 o4 O3
 go_wp2_with fail
 (with_reducible refine HSC.out.mono ?_);rintro e w5 ⟨t5,rfl,o5,hb5⟩
 have H5:=hide (H4.out.trans (hb5.mono H4.out.size))
 have T5:=hide o5
 clear hb5 o5 HSC
 go_wp2_with fail
 (with_reducible refine (HTP.out w5 H5.out).mono ?_);rintro e w6 ⟨v6,rfl,o6,hb6⟩
 have OP6:=hide o6
 have K6:=hide hb6
 obtain ⟨⟨x1,x2,x3⟩,rfl⟩:=own2_slc o6
 have H6:=hide (H5.out.trans (hb6.mono H5.out.size))
 clear hb6 o6
 go_wp2_with fail
 (with_reducible refine (HTM.out w6 H6.out).mono ?_);rintro e w7 ⟨⟨y1,y2,y3⟩,rfl,o7,hb7⟩
 have OM7:=hide o7
 obtain ⟨usm,dsm,hU7⟩:=id o7
 have OMU7:=hide hU7
 have HGH:=hide (fun g hg=>(World.ownsRow.lt hU7.own g hg).2)
 have HLE:=hide (fun d hd=>hU7.hi d hd)
 clear hU7
 have P7:=hide hb7
 have K7:=hide (K6.out.trans (hb7.mono K6.out.size))
 have H7:=hide (H5.out.trans (K7.out.mono H5.out.size))
 have HIC:=hide (HIA.out _ y1 y2 y3 w7 (OP6.out.rep.below hb7) (o7.weak.rep.low (Nat.zero_le _)) (HG.out w7 H7.out))
 clear hb7 o7
 go_wp2_with fail
 (with_reducible refine HIC.out.mono ?_);rintro e w8 ⟨g8,rfl,o8,hb8⟩
 have OX8:=hide o8
 have P8:=hide (P7.out.trans (hb8.mono P7.out.size))
 have M8:=hide hb8
 have K8:=hide (K7.out.trans (hb8.mono K7.out.size))
 have HEC:=hide (HEX.out g8 t5 w8 (Own2.rep o8) (T5.out.below K8.out))
 clear hb8 o8 HIC
 go_wp2_with fail
 (with_reducible refine HEC.out.mono ?_);rintro e w9 ⟨rfl,hb9⟩
 have OX9:=hide (Own2.below OX8.out hb9)
 have P9:=hide (P8.out.trans (hb9.mono P8.out.size))
 have M9:=hide (M8.out.trans (hb9.mono M8.out.size))
 have K9:=hide (K8.out.trans (hb9.mono K8.out.size))
 have H9:=hide (H5.out.trans (K9.out.mono H5.out.size))
 clear hb9 HEC OX8 K8 P8 M8
 go_wp2_with fail
 (with_reducible refine (HTP.out w9 H9.out).mono ?_);rintro e w10 ⟨v10,rfl,o10,hb10⟩
 have OX10:=hide (Own2.below OX9.out hb10)
 have P10:=hide (P9.out.trans (hb10.mono P9.out.size))
 have M10:=hide (M9.out.trans (hb10.mono M9.out.size))
 have K10:=hide (K9.out.trans (hb10.mono K9.out.size))
 have HEC:=hide (HEP.out _ v10 w10 (OP6.out.rep.below P10.out) o10.rep)
 clear hb10 o10 OX9 K9 P9 M9 H9
 go_wp2_with fail
 (with_reducible refine HEC.out.mono ?_);rintro e w11 ⟨rfl,hb11⟩
 have OX11:=hide (Own2.below OX10.out hb11)
 have P11:=hide (P10.out.trans (hb11.mono P10.out.size))
 have M11:=hide (M10.out.trans (hb11.mono M10.out.size))
 have K11:=hide (K10.out.trans (hb11.mono K10.out.size))
 have H11:=hide (H5.out.trans (K11.out.mono H5.out.size))
 clear hb11 HEC OX10 K10 P10 M10
 go_wp2_with fail
 (with_reducible refine (HTM.out w11 H11.out).mono ?_);rintro e w12 ⟨⟨q1,q2,q3⟩,rfl,o12,hb12⟩
 have OX12:=hide (Own2.below OX11.out hb12)
 have P12:=hide (P11.out.trans (hb12.mono P11.out.size))
 have M12:=hide (M11.out.trans (hb12.mono M11.out.size))
 have K12:=hide (K11.out.trans (hb12.mono K11.out.size))
 have HEC:=hide (HEM.out y1 q1 y2 y3 q2 q3 w12 ((OM7.out.weak.rep.low (Nat.zero_le _)).below M12.out) (o12.weak.rep.low (Nat.zero_le _)))
 clear hb12 o12 OX11 K11 P11 M11 H11
 go_wp2_with fail
 (with_reducible refine HEC.out.mono ?_);rintro e w13 ⟨rfl,hb13⟩
 have OX13:=hide (Own2.below OX12.out hb13)
 have P13:=hide (P12.out.trans (hb13.mono P12.out.size))
 have M13:=hide (M12.out.trans (hb13.mono M12.out.size))
 have K13:=hide (K12.out.trans (hb13.mono K12.out.size))
 have HKP:=hide (HMP.out _ w6 w13 w5.heap.size OP6.out P13.out)
 clear hb13 HEC OX12 K12 P12 M12
 go_wp2_with fail
 (with_reducible refine HKP.out.mono ?_);rintro e w14 ⟨rfl, -,ht14⟩
 have hs67:=P7.out.size
 have hs56:=K6.out.size
 have OMU13:=hide (OMU7.out.below M13.out)
 have OMU14:=hide (OMU13.out.outsA ht14 (Nat.le_refl _))
 have OX14:=hide (own2_outs OX13.out ht14 hs67)
 have K14:=hide (K13.out.trans (ht14.below (Nat.le_refl _) K13.out.size))
 have HKM:=hide (HMM.out y1 y2 y3 (1+4 * SP) w14 w6.heap.size usm dsm w7.heap.size OMU14.out HGH.out HLE.out (by omega) (by omega))
 clear ht14 HKP OX13 K13 OMU13 OMU14 OMU7 M13 P13
 go_wp2_with fail
 (with_reducible refine HKM.out.mono ?_);rintro e w15 ⟨q15,xs15,rfl,hmk, -, -,ht15⟩
 have hq15:=hmk.pos
 have hqn:¬ q15 < 0:=by omega
 have hqd:decide (q15 < 0)=false:=decide_eq_false hqn
 have OX15:=hide (own2_outs OX14.out ht15.outside (Nat.le_refl _))
 have K15:=hide (K14.out.trans (ht15.below (fun q hq=>by omega) K14.out.size))
 have HEC:=hide (HEX.out g8 t5 w15 (Own2.rep OX15.out) (T5.out.below K15.out))
 clear ht15 hmk HKM OX14 K14
 go_wp2_with fail
 (with_reducible refine HEC.out.mono ?_);rintro e w16 ⟨rfl,hb16⟩
 have OX16:=hide (Own2.below OX15.out hb16)
 have K16:=hide (K15.out.trans (hb16.mono K15.out.size))
 have HKX:=hide (HMX.out g8 w16 w7.heap.size OX16.out)
 clear hb16 HEC OX15 K15
 go_wp2_with fail
 (with_reducible refine HKX.out.mono ?_);rintro e w17 ⟨rfl,ho17,ht17⟩
 have hr17:=Own2.rep ho17
 have K17:=hide (K16.out.trans (ht17.below (by omega) K16.out.size))
 have R17:=hide hr17
 have HH17:=hide (HHX.out g8 w17 hr17)
 have H17:=hide (H5.out.trans (K17.out.mono H5.out.size))
 clear ht17 hr17 ho17 HKX OX16 K16
 go_wp2_with fail
 (with_reducible refine HH17.out.mono ?_);rintro e w17' ⟨rfl,rfl⟩
 go_wp2_with fail
 (with_reducible refine (HTP.out w17 H17.out).mono ?_);rintro e w18 ⟨v18,rfl,o18,hb18⟩
 have O18:=hide o18.rep
 have J18:=hide hb18
 have H18:=hide (H17.out.trans (hb18.mono H17.out.size))
 clear hb18 o18
 go_wp2_with fail
 (with_reducible refine (HTM.out w18 H18.out).mono ?_);rintro e w19 ⟨⟨r1,r2,r3⟩,rfl,o19,hb19⟩
 have J19:=hide (J18.out.trans (hb19.mono J18.out.size))
 have H19:=hide (H18.out.trans (hb19.mono H18.out.size))
 have HIC:=hide (HIA.out v18 r1 r2 r3 w19 (O18.out.below hb19) (o19.weak.rep.low (Nat.zero_le _)) (HG.out w19 H19.out))
 clear hb19 o19 O18
 go_wp2_with fail
 (with_reducible refine HIC.out.mono ?_);rintro e w20 ⟨h20,rfl,o20,hb20⟩
 have J20:=hide (J19.out.trans (hb20.mono J19.out.size))
 have K20:=hide (K17.out.trans (J20.out.mono K17.out.size))
 have HEC:=hide (HEX.out h20 t5 w20 (Own2.rep o20) (T5.out.below K20.out))
 clear hb20 o20 HIC
 go_wp2_with fail
 (with_reducible refine HEC.out.mono ?_);rintro e w21 ⟨rfl,hb21⟩
 have J21:=hide (J20.out.trans (hb21.mono J20.out.size))
 have H21:=hide (H17.out.trans (J21.out.mono H17.out.size))
 have HH21:=hide (HHX.out g8 w21 (R17.out.below J21.out))
 clear hb21 HEC
 go_wp2_with fail
 (with_reducible refine HH21.out.mono ?_);rintro e w22 ⟨rfl,rfl⟩
 go_wp2_with fail
 go_ret
 exact ⟨rfl,H21.out⟩
end Go.Proofs.YtkfhgnkonaafgaaGreatDoor
namespace Go.Proofs.YtkfhgnkonaafgaaGreatDoor
open Go Go.RowKit Go.ChangeShapes Go.WideShapes Go.ChangeAt
open Go.ChangeMaps (open_string)
theorem fnExactModelOutcomes_reads:∀ t∈Tryz.f4.params.toList,Tryz.prog.readableRec t=true∧t < Tryz.prog.types.size:=by
 intro t ht
 have:t=22∨t=23:=by simpa [Tryz.params4] using ht
 rcases this with rfl | rfl
 ·exact ⟨by kernel_rfl,of_decide_eq_true (by kernel_rfl)⟩
 ·exact ⟨by kernel_rfl,of_decide_eq_true (by kernel_rfl)⟩
theorem fnExactModelOutcomes_lifted (os:Os) (started:os.Started) (H:Type) (enc:TypeId × Value→H) :
 ReturnsInHanded {} Tryz.checked os 4 .any (fun w args=>(Rows.fnExactModelOutcomesSpec.pre enc Tryz.prog Tryz.f4 [] false w args∧laidMetH Tryz.prog laidL w)∧sizedMet enc Tryz.prog Tryz.f4 (OpenSpec.ofChange Rows.fnExactModelOutcomesSpec) false w args)
  (Rows.fnExactModelOutcomesSpec.post enc Tryz.prog Tryz.f4 false true false false):=by
 refine returnsInHanded_of_change_and (C:=Tryz.checked) (X:=fun w _=>laidMetH Tryz.prog laidL w) (fun _ _ _ hh h=>h.of_heap hh) Tryz.own started (by kernel_rfl) Tryz.func4
  (ChangeSpec.witness_shaped (enc:=enc) (C:=Tryz.checked) (os:=os) (X:=fun w _=>laidMetH Tryz.prog laidL w) false (World.doorLaid Tryz.prog 14 os) #[.slice none 0 0, .slice none 0 0] 8 rfl (World.shaped_of_RefB (by kernel_rfl) (by kernel_rfl)) (by kernel_rfl) (by kernel_rfl) (by kernel_rfl) (door_met os _)) ?_
 intro W base args ds gs before hval0 hW _ _ hL _
 have hval:∀ (j:Nat) t v,Tryz.f4.params[j]? = some t→args[j]? = some v→Value.okWide Tryz.prog W .any base t v:=hval0
 have hW':=hW
 obtain ⟨p,q,hA0,hV,rfl,hfz,hnd⟩:=hW
 have hA:DataW.TrodAll enc Tryz.prog W 0 (fun _=>true) true Tryz.f4.params.toList args.toList ds p:=hA0
 rw [Tryz.params4] at hA hval
 obtain ⟨v0,v1,d0,d1,p0,p1,rfl,rfl,rfl,h0,h1⟩:=trodAll_two hA
 obtain ⟨g1,rfl⟩:∃ g1,gs=[g1]:=by
  match gs,hV with
  | [g1],_=>exact ⟨g1,rfl⟩
  | [],h=>exact h.elim
  | _ :: _ :: _,⟨_,_,_,_,_,_,_,_,_,_,h,_⟩=>exact h.elim
 obtain ⟨P0,hP0⟩:=progR_of_trod (okWide_slice Tryz.underlying22 (hval 0 22 v0 rfl rfl)) h0
 obtain ⟨ma,mn,mc,M0,rfl,hM0,hN0⟩:=model_of_trod (okWide_slice Tryz.underlying23 (hval 1 23 v1 rfl rfl)) h1
 refine (lawFnExactModelOutcomes v0 P0 ma mn mc M0 W hP0 hM0 hN0 (glob_of_laid hL)).mono fun e W' ⟨he,hb⟩ => ?_
 exact ⟨_,he,post_lawV Tryz.laidOut fnExactModelOutcomes_reads (by kernel_rfl) rfl (by kernel_rfl) Tryz.underlying4 hW' hb⟩
theorem fnExactModelOutcomes_named:Tryz.prog.funcNamed Rows.fnExactModelOutcomesRow.func=some 4:=by kernel_rfl
theorem fnExactModelOutcomes_closed:joinedFacts Tryz.prog 4 Tryz.f4 Rows.fnExactModelOutcomesSpec Rows.fnExactModelOutcomesRow=true:=by kernel_rfl
theorem fnExactModelOutcomes_inst:Func.isInstance Tryz.prog Tryz.f4 Rows.fnExactModelOutcomesRow.origin Rows.fnExactModelOutcomesRow.targs:=of_decide_eq_true (by kernel_rfl)
theorem fnExactModelOutcomes_wrap:Func.isWrapper Tryz.prog Tryz.f4 Rows.fnExactModelOutcomesRow.wrapper Rows.fnExactModelOutcomesRow.mainSum:=by unfold Func.isWrapper;first | (rw [if_pos (by decide +kernel)];kernel_rfl) | (rw [if_neg (by decide +kernel)];exact ⟨rfl,rfl⟩)
theorem fnExactModelOutcomes_wf:Rows.fnExactModelOutcomesRow.wfByText (OpenSpec.ofChange Rows.fnExactModelOutcomesSpec)=true:=by kernel_rfl
theorem fnExactModelOutcomes_main:Tryz.prog.mainIs=some (Rows.fnExactModelOutcomesCard.stood.harness.1,Rows.fnExactModelOutcomesCard.stood.harness.2.toList):=by kernel_rfl
theorem fnExactModelOutcomes_looks:false=Tryz.prog.looks []:=by kernel_rfl
theorem fnExactModelOutcomes_goes:false=Rows.fnExactModelOutcomesRow.goesBy Tryz.prog:=by kernel_rfl
theorem fnExactModelOutcomes_row:Rows.FnExactModelOutcomesSaid:=
 OpenClaim.holds_of_wide 4 Tryz.f4 rfl rfl rfl rfl rfl rfl rfl ⟨rfl,rfl,rfl,rfl,rfl⟩ rfl rfl rfl rfl rfl fnExactModelOutcomes_named Tryz.func4 fnExactModelOutcomes_closed fnExactModelOutcomes_inst fnExactModelOutcomes_wrap
  (fun os started H enc _=>fnExactModelOutcomes_lifted os started H enc)
theorem fnExactModelOutcomes_holds:Rows.FnExactModelOutcomesCardSaid:=
 Claim7.holds_tied_plain_at .later [] [.widerDeep] true Rows.fnExactModelOutcomesCard.stood.harness false
  fnExactModelOutcomes_row (fun _ h=>by cases h) fnExactModelOutcomes_wf (fun _ h=>by cases h) fnExactModelOutcomes_row_tie rfl ⟨rfl,rfl⟩ fnExactModelOutcomes_main rfl
  (fun f fn hf hfn=>by
   obtain rfl:f=4:=Option.some.inj (fnExactModelOutcomes_named.symm.trans hf) |>.symm
   obtain rfl:fn=Tryz.f4:=(Option.some.inj (Tryz.func4.symm.trans hfn)).symm
   exact ⟨fnExactModelOutcomes_looks,fun j t ht=>by
    rw [Tryz.params4] at ht
    have hm:t∈[22,23]:=by simpa using Array.mem_of_getElem? ht
    have hall:([22,23].all fun u => !Tryz.prog.wantsStandIn u)=true:=by kernel_rfl
    exact (show Tryz.prog.wantsStandIn t=false by simpa using List.all_eq_true.1 hall t hm)⟩)
  fnExactModelOutcomes_goes
end Go.Proofs.YtkfhgnkonaafgaaGreatDoor