/-
  sortedOutcomes. Condition: outcomes of one length, bounds on lengths.
-/
import Derived.Test.YtlddmagfbcomgaaZr06
import Derived.Test.YtlddmagfbcomgaaZr00
import Derived.Test.YtlddmagfbcomgaaZr04
import Derived.Deep.RegionHeld3
import Derived.Deep.DeepCutAuto
import Derived.Test.YtlddmagfbcomgaaZr09
import Derived.Test.YtlddmagfbcomgaaZr08
import Derived.Shelf.SlSortCmp.NoneTotal
set_option maxHeartbeats 6400000
set_option maxRecDepth 100000
namespace Go.Proofs.Ytlddmagfbcomgaa
def wr1 (l:Int) (i:Nat) (e:Ev):List Int:=if (e.w&&e.l==l)=true then [(i:Int)] else []
def wrTo (es:List Ev) (l:Int) (k:Nat):List Int:=(List.range k).flatMap fun i=>match es[i]? with
 | some e=>wr1 l i e
 | none=>[]
def wrL (es:List Ev) (l:Int):List Int:=wrTo es l es.length
theorem wrTo_succ {es:List Ev} (l:Int) {k:Nat} {e:Ev} (h:es[k]? = some e):wrTo es l (k+1)=wrTo es l k++wr1 l k e:=by
 unfold wrTo
 rw [List.range_succ,List.flatMap_append]
 simp [h]
end Go.Proofs.Ytlddmagfbcomgaa
namespace Go.Proofs.Ytlddmagfbcomgaa
open Go.RowKit
end Go.Proofs.Ytlddmagfbcomgaa
namespace Go.Proofs.Ytlddmagfbcomgaa
open Go.RowKit
end Go.Proofs.Ytlddmagfbcomgaa
namespace Go.Proofs.Ytlddmagfbcomgaa
open Go.RowKit
end Go.Proofs.Ytlddmagfbcomgaa
namespace Go.Proofs.Ytlddmagfbcomgaa
open Go.RowKit
theorem OutsU.toPairs {w:World} {base:Nat} {v:Value} {outs:List (List Int)} (h:OutsU w base v outs):∃ l:List (Slc × List Int),l.map Prod.snd=outs∧Own PrE 43 w base v l∧∀ x∈l,Own IntE 3 w base x.1.v x.2:=by
 obtain ⟨us,h1,h2,h3⟩:=h
 refine ⟨us.zip outs,List.map_snd_zip (Nat.le_of_eq h1.symm),Own.pairs.2 (by rw [List.map_fst_zip (Nat.le_of_eq h1)];exact h2),fun x hx => ?_⟩
 obtain ⟨i,hi⟩:=List.mem_iff_getElem?.1 hx
 rw [List.getElem?_zip_eq_some] at hi
 exact h3 i x.1 x.2 hi.1 hi.2
theorem OutsU.ofPairs {w:World} {base:Nat} {v:Value} {l:List (Slc × List Int)} (h:Own PrE 43 w base v l) (hr:∀ x∈l,Own IntE 3 w base x.1.v x.2):OutsU w base v (l.map Prod.snd):=by
 refine ⟨l.map Prod.fst,by simp,Own.pairs.1 h,fun i u o hu ho => ?_⟩
 rw [List.getElem?_map] at hu ho
 cases hx:l[i]? with
 | none=>rw [hx] at hu;simp at hu
 | some x =>
  rw [hx] at hu ho
  simp only [Option.map_some,Option.some.injEq] at hu ho
  subst hu;subst ho
  exact hr x (List.mem_of_getElem? hx)
theorem Compact_nil (w:World):Calls Try.prog 56 #[.slice none 0 0, .func (.func 57) #[] #[]] w fun e w'=>e = .returned (.slice none 0 0)∧w=w':=by
 go_enter Try.func56,Try.ntmps56
 go_wp2_with fail
 go_ret
 exact ⟨rfl,rfl⟩
theorem sortedOutcomes_any (n N:Nat) (hN:N≤68719476736) : @SortsTo n N:=by
 intro w base v outs ho hb hn hl
 obtain ⟨l,rfl,hp,hr⟩:=ho.toPairs
 have hn2:∀ x∈l,x.2.length=n:=fun x hx=>hn x.2 (List.mem_map.2 ⟨x,hx,rfl⟩)
 have hl2:l.length≤68719476736:=by rw [List.length_map] at hl;omega
 rcases hp.shape with ⟨rfl,rfl⟩ | ⟨g,c0,rfl, -⟩
 ·have H1:=hide (AnyF.slices_SortFunc_none (P:=Try.prog) (ρ:=Try.laysSF_ren) { Try.laysSF with } none 0 (.func (.func 55) #[] #[]) w)
  have H2:=hide (Compact_nil w)
  have F:Hid (∃ v' l',Ending.returned (Value.slice none 0 0) = .returned v'∧OutsU w base v' l'∧OutsOk n l'∧(∀ o,o∈l'↔o∈List.map Prod.snd ([]:List (Slc × List Int)))∧KpT [43] base w w):=hide ⟨_,[],rfl, .nil _ _,⟨fun o h=>by simp at h, .nil⟩,fun o=>by simp, .refl _ _ _⟩
  clear ho hp hr hn hl hn2
  go_enter Try.func47,Try.ntmps47
  go_wp2_with (first
   | (go_at_call 54;refine H1.out.mono ?_;rintro e w1 ⟨rfl,rfl⟩)
   | (go_at_call 56;(with_reducible refine H2.out.mono ?_);rintro e w2 ⟨rfl,rfl⟩))
  go_ret
  exact F.out
 ·have H1:=hide (SortF_any base g c0 n l w hp hr hn2 hl2)
  have HC:=hide (fun (l':List (Slc × List Int)) (w1:World) (h1:l'.Perm l) h2 h3 h4=>Compact_any base g c0 n l' w1 h2 h3 (fun x hx=>hn2 x (h1.mem_iff.1 hx)) h4 (by rw [h1.length_eq];exact hl2))
  clear ho hp hr hn hl hn2
  generalize hm:l.length=m at *
  have HM:=hide hm
  clear hm
  go_enter Try.func47,Try.ntmps47
  go_wp2_with fail
  (with_reducible refine H1.out.mono ?_);rintro e w1 ⟨rfl,l',hpm,ho1,hs1,hr1,hk1⟩
  have hlm:l'.length=m:=by rw [hpm.length_eq];exact HM.out
  have H2:=hide (HC.out l' w1 hpm (by rw [hlm];exact ho1) hr1 hs1)
  rw [hlm] at H2
  have HPM:=hide hpm;have HK1:=hide hk1;have HLM:=hide hlm
  clear hpm ho1 hs1 hr1 hk1 hlm H1 HC
  go_wp2_with fail
  (with_reducible refine H2.out.mono ?_);rintro e w2 ⟨v',r,rfl,ho2,hci,hr2,hk2⟩
  have F:Hid (∃ v'' l'',Ending.returned v' = .returned v''∧OutsU w2 base v'' l''∧OutsOk n l''∧(∀ o,o∈l''↔o∈l.map Prod.snd)∧KpT [43] base w w2):=hide ⟨v',r.map Prod.snd,rfl, .ofPairs ho2 (fun x hx=>hr2 x (hci.sub x hx)),hci.ok,fun o=>by
   rw [hci.mem,List.take_length]
   exact (HPM.out.map Prod.snd).mem_iff,HK1.out.trans hk2⟩
  clear ho2 hci hr2 hk2
  go_wp2_with fail
  go_ret
  exact F.out
end Go.Proofs.Ytlddmagfbcomgaa