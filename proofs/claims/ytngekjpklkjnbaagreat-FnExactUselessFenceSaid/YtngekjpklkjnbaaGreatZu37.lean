/-
  Lists of places that a law holds: where they lie, marking them. No condition.
-/
import Derived.Test.YtngekjpklkjnbaaGreatZu07
import Derived.Test.YtngekjpklkjnbaaGreatZu08
set_option maxHeartbeats 6400000
set_option maxRecDepth 100000
namespace Go.Proofs.YtngekjpklkjnbaaGreat
open Go.RowKit
structure Va (lo hi:Nat) (w w':World):Prop where
 os:w'.os=w.os
 tape:w'.tape=w.tape
 output:w'.output=w.output
 size:w.heap.size≤w'.heap.size
 block:∀ k,lo≤k→k < hi→w'.heap[k]? = w.heap[k]?
theorem Va.FQ {lo hi:Nat}{w w':World}(h:Below w.heap.size w w') (hh:hi≤w.heap.size):Va lo hi w w':=⟨h.os,h.tape,h.output,h.size,fun k _ h2=>h.block k Om⟩
theorem Va.trans {lo hi:Nat}{a b c:World}(h:Va lo hi a b) (k:Va lo hi b c):Va lo hi a c:=⟨k.os.trans h.os,k.tape.trans h.tape,k.output.trans h.output,Nat.le_trans h.size k.size,fun q h1 h2=>(k.block q h1 h2).trans (h.block q h1 h2)⟩
theorem Va.below {w w':World}(h:Va 0 w.heap.size w w'):Below w.heap.size w w':=⟨h.os,h.tape,h.output,h.size,fun k hk=>h.block k (Nat.zero_le _) hk⟩
structure Loc (lo hi:Nat) (w:World) (φ:World→Prop):Prop where
 now:φ w
 le:hi≤w.heap.size
 keep:∀ w':World,Va lo hi w w'→φ w'
theorem Loc.same {lo hi:Nat}{w w':World}{φ:World→Prop}(h:Loc lo hi w φ) (k:Va lo hi w w'):Loc lo hi w' φ:=⟨h.keep w' k,Nat.le_trans h.le k.size,fun w'' h2=>h.keep w'' (k.trans h2)⟩
theorem Loc.below {lo hi:Nat}{w w':World}{φ:World→Prop}(h:Loc lo hi w φ) (hb:Below w.heap.size w w'):Loc lo hi w' φ:=h.same (Va.FQ hb h.le)
theorem Loc.arg {w:World}{φ:World→Prop}(h:φ w) (k:∀ w',Below w.heap.size w w'→φ w'):Loc 0 w.heap.size w φ:=⟨h,Nat.le_refl _,fun w' s=>k w' s.below⟩
def cut (hi:Nat) (w:World):World:={ w with heap:=w.heap.extract 0 hi }
theorem VK {hi:Nat}{w:World}(h:hi≤w.heap.size):(cut hi w).heap.size=hi:=by simp[cut];omega
theorem Ks {hi:Nat}{w:World}{k:Nat}(hk:k < hi):(cut hi w).heap[k]? = w.heap[k]?:=by
 simp[cut,Array.getElem?_extract];omega
theorem Dg {hi:Nat}{w:World}(h:hi≤w.heap.size):Below (cut hi w).heap.size (cut hi w) w:=by
 refine⟨rfl,rfl,rfl,by rw[VK h];exact h,fun k hk => ?_⟩;rw[VK h]at hk;exact(Ks hk).symm
theorem Em (w:World):cut w.heap.size w=w:=by simp[cut]
theorem Own.same {α:Type}{E:El α}{T:TypeId}{w w':World}{base:Nat}{v:Value}{xs:List α}(h:Own E T w base v xs) (hB:∀ k,v.ownBlock=some k→w'.heap[k]? = w.heap[k]?):Own E T w' base v xs:=by
 refine⟨h.1,?_⟩;rcases h.2 with hn | ⟨g,cap,cur,rfl,hb1,hgg,rest⟩
 ·exact .inl hn
 ·exact .inr ⟨g,cap,cur,rfl,hb1,(hB g rfl).trans hgg,rest⟩
theorem ZG.same {α:Type}{E:El α}{T1 T2:TypeId}{w w':World}{base:Nat}{v:Value}{p:List (List α)}(h:ZG E T1 T2 w base v p) (hB:∀ k,base≤k→k < w.heap.size→w'.heap[k]? = w.heap[k]?):ZG E T1 T2 w' base v p:=by
 obtain⟨us,⟨h1,h2,h3,h4,h5⟩,hlt⟩:=h.told;exact⟨us,h1,h2.same fun k hk=>by have:=World.ownsRow.lt h2 k hk;exact hB k this.1 this.2,fun i u r hu hr=>(h3 i u r hu hr).same fun k hk=>by have:=hlt i u hu k hk;exact hB k this.1 this.2,h4,h5⟩
theorem Ek {lo hi:Nat}{w w':World}(s:Va lo hi w w') (hh:hi≤w.heap.size) {k:Nat}(h1:lo≤k) (h2:k < (cut hi w).heap.size):(cut hi w').heap[k]? = (cut hi w).heap[k]?:=by
 rw[VK hh]at h2;rw[Ks h2,Ks h2];exact s.block k h1 h2
theorem Loc.FT {α:Type}{E:El α}{T1 T2:TypeId}{lo hi:Nat}{w:World}{v:Value}{p:List (List α)}(h:ZG E T1 T2 (cut hi w) lo v p) (hh:hi≤w.heap.size):Loc lo hi w (fun W=>ZG E T1 T2 (cut hi W) lo v p):=
 ⟨h,hh,fun _ s=>h.same fun _ h1 h2=>Ek s hh h1 h2⟩
theorem Loc.Uo {α:Type}{E:El α}{T1 T2:TypeId}{lo hi:Nat}{w:World}{v:Value}{p:List (List α)}(h:Loc lo hi w (fun W=>ZG E T1 T2 (cut hi W) lo v p)):Yv E w v p:=(h.now.below (Dg h.le)).rep
def Made (w:World) (φ:Value→Nat→Nat→World→Prop) (e:Ending) (w':World):Prop:=∃ u,e = .returned u∧Loc w.heap.size w'.heap.size w' (φ u w.heap.size w'.heap.size)∧Below w.heap.size w w'
abbrev H0 (lo hi:Nat) (w:World) (v:Value) (p:List (List Ins)):Prop:=Loc lo hi w (fun W=>ZG ZH 42 44 (cut hi W) lo v p)
theorem Loc.Iz {α:Type}{E:El α}{T1 T2:TypeId}{lo:Nat}{w:World}{v:Value}{p:List (List α)}(h:ZG E T1 T2 w lo v p):Loc lo w.heap.size w (fun W=>ZG E T1 T2 (cut w.heap.size W) lo v p):=Loc.FT (by rw[Em];exact h) (Nat.le_refl _)
theorem Fm (v:Value) (p:List (List Ins)) (w:World) (hp:Z5 w v p) (hl:p.length≤1048576) (hl2:∀ r∈p,r.length≤1048576):Calls Tryz.prog 10 #[v] w (Made w fun u lo hi W=>ZG ZH 42 44 (cut hi W) lo u p):=
 (UM v p w hp hl hl2).mono fun _ _ ⟨u,h1,h2,h3⟩=>⟨u,h1,Loc.Iz h2,h3⟩
theorem Er (v v':Value) (p:List (List Ins)) (w:World) (h:Z5 w v p) (h':Z5 w v' p):Calls Tryz.prog 13 #[v,v'] w fun e w'=>e = .returned (.bool true)∧Below w.heap.size w w':=
 (UB v v' p p w h h').mono fun _ _ ⟨a,b⟩=>⟨by rw[a,decide_eq_true rfl],b⟩
end Go.Proofs.YtngekjpklkjnbaaGreat