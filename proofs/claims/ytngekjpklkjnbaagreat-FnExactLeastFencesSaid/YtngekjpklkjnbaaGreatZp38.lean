/-
  Lists of places that a law holds: where they lie, marking them. No condition.
-/
import Derived.Test.YtngekjpklkjnbaaGreatZp03
import Derived.Test.YtngekjpklkjnbaaGreatZp08
set_option maxHeartbeats 6400000
set_option maxRecDepth 100000
namespace Go.Proofs.YtngekjpklkjnbaaGreat
open Go.RowKit
structure Vy (lo hi:Nat) (w w':World):Prop where
 os:w'.os=w.os
 tape:w'.tape=w.tape
 output:w'.output=w.output
 size:w.heap.size≤w'.heap.size
 block:∀ k,lo≤k→k < hi→w'.heap[k]? = w.heap[k]?
theorem Vy.NC {lo hi:Nat}{w w':World}(h:Below w.heap.size w w') (hh:hi≤w.heap.size):Vy lo hi w w':=⟨h.os,h.tape,h.output,h.size,fun k _ h2=>h.block k Om⟩
theorem Vy.Pe {lo hi lo' hi':Nat}{w w':World}(h:Outside lo' hi' w w') (hh:hi≤w.heap.size) (hd:hi≤lo'∨hi'≤lo):Vy lo hi w w':=⟨h.os,h.tape,h.output,h.size,fun k h1 h2=>h.block k Om Om⟩
theorem Vy.trans {lo hi:Nat}{a b c:World}(h:Vy lo hi a b) (k:Vy lo hi b c):Vy lo hi a c:=⟨k.os.trans h.os,k.tape.trans h.tape,k.output.trans h.output,Nat.le_trans h.size k.size,fun q h1 h2=>(k.block q h1 h2).trans (h.block q h1 h2)⟩
theorem Vy.below {w w':World}(h:Vy 0 w.heap.size w w'):Below w.heap.size w w':=⟨h.os,h.tape,h.output,h.size,fun k hk=>h.block k (Nat.zero_le _) hk⟩
structure Loc (lo hi:Nat) (w:World) (φ:World→Prop):Prop where
 now:φ w
 le:hi≤w.heap.size
 Yf:∀ w':World,Vy lo hi w w'→φ w'
theorem Loc.same {lo hi:Nat}{w w':World}{φ:World→Prop}(h:Loc lo hi w φ) (k:Vy lo hi w w'):Loc lo hi w' φ:=⟨h.Yf w' k,Nat.le_trans h.le k.size,fun w'' h2=>h.Yf w'' (k.trans h2)⟩
theorem Loc.below {lo hi:Nat}{w w':World}{φ:World→Prop}(h:Loc lo hi w φ) (hb:Below w.heap.size w w'):Loc lo hi w' φ:=h.same (Vy.NC hb h.le)
theorem Loc.outs {lo hi lo' hi':Nat}{w w':World}{φ:World→Prop}(h:Loc lo hi w φ) (ho:Outside lo' hi' w w') (hd:hi≤lo'∨hi'≤lo):Loc lo hi w' φ:=h.same (Vy.Pe ho h.le hd)
theorem Loc.arg {w:World}{φ:World→Prop}(h:φ w) (k:∀ w',Below w.heap.size w w'→φ w'):Loc 0 w.heap.size w φ:=⟨h,Nat.le_refl _,fun w' s=>k w' s.below⟩
def cut (hi:Nat) (w:World):World:={ w with heap:=w.heap.extract 0 hi }
theorem Kp {hi:Nat}{w:World}(h:hi≤w.heap.size):(cut hi w).heap.size=hi:=by simp[cut];omega
theorem KH {hi:Nat}{w:World}{k:Nat}(hk:k < hi):(cut hi w).heap[k]? = w.heap[k]?:=by
 simp[cut,Array.getElem?_extract];omega
theorem KG {hi:Nat}{w:World}(h:hi≤w.heap.size):Below (cut hi w).heap.size (cut hi w) w:=by
 refine⟨rfl,rfl,rfl,by rw[Kp h];exact h,fun k hk => ?_⟩;rw[Kp h]at hk;exact(KH hk).symm
theorem DJ (w:World):cut w.heap.size w=w:=by simp[cut]
theorem Own.same {α:Type}{E:El α}{T:TypeId}{w w':World}{base:Nat}{v:Value}{xs:List α}(h:Own E T w base v xs) (hB:∀ k,v.ownBlock=some k→w'.heap[k]? = w.heap[k]?):Own E T w' base v xs:=by
 refine⟨h.1,?_⟩;rcases h.2 with hn | ⟨g,cap,cur,rfl,hb1,hgg,rest⟩
 ·exact .inl hn
 ·exact .inr ⟨g,cap,cur,rfl,hb1,(hB g rfl).trans hgg,rest⟩
theorem ZL.same {α:Type}{E:El α}{T1 T2:TypeId}{w w':World}{base:Nat}{v:Value}{p:List (List α)}(h:ZL E T1 T2 w base v p) (hB:∀ k,base≤k→k < w.heap.size→w'.heap[k]? = w.heap[k]?):ZL E T1 T2 w' base v p:=by
 obtain⟨us,⟨h1,h2,h3,h4,h5⟩,hlt⟩:=h.told;exact⟨us,h1,h2.same fun k hk=>by have:=World.ownsRow.lt h2 k hk;exact hB k this.1 this.2,fun i u r hu hr=>(h3 i u r hu hr).same fun k hk=>by have:=hlt i u hu k hk;exact hB k this.1 this.2,h4,h5⟩
theorem DI {lo hi:Nat}{w w':World}(s:Vy lo hi w w') (hh:hi≤w.heap.size) {k:Nat}(h1:lo≤k) (h2:k < (cut hi w).heap.size):(cut hi w').heap[k]? = (cut hi w).heap[k]?:=by
 rw[Kp hh]at h2;rw[KH h2,KH h2];exact s.block k h1 h2
theorem Loc.own {α:Type}{E:El α}{T:TypeId}{lo hi:Nat}{w:World}{v:Value}{xs:List α}(h:Own E T (cut hi w) lo v xs) (hh:hi≤w.heap.size):Loc lo hi w (fun W=>Own E T (cut hi W) lo v xs):=
 ⟨h,hh,fun _ s=>h.same fun k hk=>by have:=World.ownsRow.lt h k hk;exact DI s hh this.1 this.2⟩
theorem Loc.NG {α:Type}{E:El α}{T1 T2:TypeId}{lo hi:Nat}{w:World}{v:Value}{p:List (List α)}(h:ZL E T1 T2 (cut hi w) lo v p) (hh:hi≤w.heap.size):Loc lo hi w (fun W=>ZL E T1 T2 (cut hi W) lo v p):=
 ⟨h,hh,fun _ s=>h.same fun _ h1 h2=>DI s hh h1 h2⟩
theorem Loc.rep {α:Type}{E:El α}{T:TypeId}{lo hi:Nat}{w:World}{v:Value}{xs:List α}(h:Loc lo hi w (fun W=>Own E T (cut hi W) lo v xs)):ZC E w v xs:=(h.now.below (KG h.le)).rep
theorem Loc.Ug {α:Type}{E:El α}{T1 T2:TypeId}{lo hi:Nat}{w:World}{v:Value}{p:List (List α)}(h:Loc lo hi w (fun W=>ZL E T1 T2 (cut hi W) lo v p)):YV E w v p:=(h.now.below (KG h.le)).rep
def Made (w:World) (φ:Value→Nat→Nat→World→Prop) (e:Ending) (w':World):Prop:=∃ u,e = .returned u∧Loc w.heap.size w'.heap.size w' (φ u w.heap.size w'.heap.size)∧Below w.heap.size w w'
abbrev Lo (lo hi:Nat) (w:World) (v:Value) (p:List (List Ins)):Prop:=Loc lo hi w (fun W=>ZL Zx 42 44 (cut hi W) lo v p)
theorem Loc.Mo {α:Type}{E:El α}{T:TypeId}{lo:Nat}{w:World}{v:Value}{xs:List α}(h:Own E T w lo v xs):Loc lo w.heap.size w (fun W=>Own E T (cut w.heap.size W) lo v xs):=Loc.own (by rw[DJ];exact h) (Nat.le_refl _)
theorem Loc.Pf {α:Type}{E:El α}{T1 T2:TypeId}{lo:Nat}{w:World}{v:Value}{p:List (List α)}(h:ZL E T1 T2 w lo v p):Loc lo w.heap.size w (fun W=>ZL E T1 T2 (cut w.heap.size W) lo v p):=Loc.NG (by rw[DJ];exact h) (Nat.le_refl _)
theorem MX (v:Value) (p:List (List Ins)) (w:World) (hp:Z9 w v p) (hl:p.length≤1048576) (hl2:∀ r∈p,r.length≤1048576):Calls Tryz.prog 10 #[v] w (Made w fun u lo hi W=>ZL Zx 42 44 (cut hi W) lo u p):=
 (AE v p w hp hl hl2).mono fun _ _ ⟨u,h1,h2,h3⟩=>⟨u,h1,Loc.Pf h2,h3⟩
theorem IF (v:Value) (p:List (List Ins)) (m:Int) (lo hi:Nat) (w:World) (h:Lo lo hi w v p) (hl:XY (p.map List.length)≤268435456) (hpl:p.length≤1048576) (hm0:0≤m) (hm1:m≤1048576) :
 Calls Tryz.prog 17 #[v,.int .i64 m] w fun e w'=>e = .returned (.int .i64 (m+4 * XY (p.map List.length)))∧Outside lo hi w w':=by
 have hs:=Kp h.le;have h2:=Gj v p m (cut hi w) w lo h.now (KG h.le) hl hpl hm0 hm1;rw[hs]at h2;exact h2.mono fun _ _ ⟨a,_,b⟩=>⟨a,b⟩
theorem LQ (v v':Value) (p:List (List Ins)) (w:World) (h:Z9 w v p) (h':Z9 w v' p):Calls Tryz.prog 13 #[v,v'] w fun e w'=>e = .returned (.bool true)∧Below w.heap.size w w':=
 (Ax v v' p p w h h').mono fun _ _ ⟨a,b⟩=>⟨by rw[a,decide_eq_true rfl],b⟩
abbrev Ic (lo hi:Nat) (w:World) (v:Value) (xs:List Gp):Prop:=Loc lo hi w (fun W=>Own ZZ 25 (cut hi W) lo v xs)
def Py (w:World) (L:List Gp) (b:Bool) (e:Ending) (w':World):Prop:=∃ u:Zs,e = .returned (.tuple #[.slice u.a u.n u.cap,.bool b])∧Loc w.heap.size w'.heap.size w' (fun W=>Own ZZ 25 (cut w'.heap.size W) w.heap.size u.v L)∧Below w.heap.size w w'
theorem IE (v:Value) (xs:List Gp) (m:Int) (lo hi:Nat) (w:World) (h:Ic lo hi w v xs) (hl:xs.length≤1099511627776) (hm0:0≤m) (hm1:m≤1099511627776) :
 Calls Tryz.prog 18 #[v,.int .i64 m] w fun e w'=>e = .returned (.int .i64 (m+2 * xs.length))∧Ic lo hi w' v (Xk xs.length m)∧Outside lo hi w w':=by
 have hq:∀ q,v.ownBlock=some q→lo≤q∧q < hi:=fun q hq=>by
  have h1:=World.ownsRow.lt h.now q hq;rw[Kp h.le]at h1;exact h1
 refine(Cy v xs m w lo (h.now.below (KG h.le)) hl hm0 hm1).mono fun _ w' ⟨a,b,c⟩=>⟨a,?_,(Outside.refl lo hi w).grown c hq⟩
 have hsz:=Nat.le_trans h.le c.size;exact Loc.own (b.same fun k hk=>KH (hq k hk).2) hsz
theorem AS (v:Value) (n:Nat) (m:Int) (lo hi:Nat) (w:World) (h:Ic lo hi w v (Xk n m)) (hl:n≤1099511627776) (hm0:0≤m) (hm1:m≤1099511627776) :
 Calls Tryz.prog 19 #[v,.int .i64 m] w fun e w'=>e = .returned (.int .i64 (m+2 * n))∧w=w':=Cj v n m w h.rep hl hm0 hm1
theorem Rh (v v':Value) (p:List Gp) (w:World) (h:ZC ZZ w v p) (h':ZC ZZ w v' p):Calls Tryz.prog 16 #[v,v'] w fun e w'=>e = .returned (.bool true)∧Below w.heap.size w w':=
 (Fw v v' p p w h h').mono fun _ _ ⟨a,b⟩=>⟨by rw[a,decide_eq_true rfl],b⟩
end Go.Proofs.YtngekjpklkjnbaaGreat