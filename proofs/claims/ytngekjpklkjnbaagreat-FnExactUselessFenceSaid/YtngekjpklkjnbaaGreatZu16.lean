/-
  The program's lists of so many places. Condition: at most eight places.
-/
import Derived.Test.YtngekjpklkjnbaaGreatZu12
import Derived.Test.YtngekjpklkjnbaaGreatZu13
set_option maxHeartbeats 6400000
set_option maxRecDepth 100000
namespace Go.Proofs.YtngekjpklkjnbaaGreat
open Go.RowKit
theorem Z7.IU {α:Type}{E:El α}{w:World}{b o n c:Nat}{xs:List α}(h:Z7 E w (.slice (some ⟨b,o,none⟩) n c) xs) {k:Nat}(hk:k≤xs.length):Z7 E w (.slice (some ⟨b,o+k * E.sz,none⟩) (n - k) (c - k)) (xs.drop k):=by
 obtain⟨a',c',hv,h1,h2,h3⟩:=h;simp only[Value.slice.injEq]at hv;obtain⟨rfl,rfl,rfl⟩:=hv;refine⟨some ⟨b,o+k * E.sz,none⟩,c - k,by rw[List.length_drop],by rw[List.length_drop];omega,Om,fun i x hx => ?_⟩;rw[List.getElem?_drop]at hx;obtain⟨b',o',hb,h4⟩:=h3 (k+i) x hx;simp only[Option.some.injEq,Addr.mk.injEq,and_true]at hb;obtain⟨rfl,rfl⟩:=hb;refine⟨b,o+k * E.sz,rfl,fun j u hu => ?_⟩;have h5:=h4 j u hu;rw[show o+k * E.sz+i * E.sz+j=o+(k+i) * E.sz+j by rw[Nat.add_mul];omega];exact h5
theorem Z7.HJ {α:Type}{E:El α}{w:World}{b o n c:Nat}{xs:List α}(h:Z7 E w (.slice (some ⟨b,o,none⟩) n c) xs) {k:Nat}(hk:k≤xs.length):Z7 E w (.slice (if c=k then some ⟨b,o,none⟩ else some ⟨b,o+k * E.sz,none⟩) (n - k) (c - k)) (xs.drop k):=by
 split
 ·rename_i hc
  obtain⟨a',c',hv,h1,h2,h3⟩:=h;simp only[Value.slice.injEq]at hv;obtain⟨rfl,rfl,rfl⟩:=hv;refine⟨_,_,by rw[List.length_drop],by rw[List.length_drop];omega,Om,fun i x hx => ?_⟩;rw[List.getElem?_eq_none (by rw[List.length_drop];omega)]at hx;cases hx
 ·exact h.IU hk
end Go.Proofs.YtngekjpklkjnbaaGreat