/-
  Plain: valid conditions.
-/
import Derived.Test.YtngekjpklkjnbaaGreatProg
import Derived.WalkSpells
import Derived.WalkLawsBesides
import Derived.BigQuiet
set_option maxHeartbeats 6400000
set_option maxRecDepth 100000
namespace Go.Proofs.YtngekjpklkjnbaaGreat
open Go.RowKit
theorem Dc {p:Prop} (h:p:=by decide):p:=h
theorem Om {p:Prop} (h:p:=by omega):p:=h
theorem Sm {p:Prop} (h:p:=by simp):p:=h
theorem Rf {p:Prop} (h:p:=by rfl):p:=h
theorem Kr {p:Prop} (h:p:=by kernel_rfl):p:=h
theorem Gn {p:Prop} (h:p:=by go_num):p:=h
theorem So {p:Prop} (h:p:=by simp; omega):p:=h
theorem Za {p:Prop}(h:p):Hid p:=h
theorem Zb {w:World}{b o:Nat}{v:Value}(h:w.cell? ⟨b,o,none⟩=some v):b < w.heap.size:=World.block_lt_of_cell? w ⟨b,o,none⟩ h
theorem XN {w w':World}(hg:w.grownBy w' none):Below w.heap.size w w':=(Below.refl _ _).grown hg (Nat.le_refl _) (fun _ h=>by cases h)
theorem KB {W w1:World}(hb:Below W.heap.size W w1):(∀ b o,b < W.heap.size→w1.cell? ⟨b,o,none⟩=W.cell? ⟨b,o,none⟩)∧(∀ b o,b < W.heap.size→w1.frozen? ⟨b,o,none⟩=W.frozen? ⟨b,o,none⟩):=
 ⟨fun b o h=>hb.cell (p:=⟨b,o,none⟩) h,fun b o h=>hb.frozen (p:=⟨b,o,none⟩) h⟩
structure BW (w:World) where
 val:World
 prop:Below w.heap.size w val
instance BW.some (w:World):Nonempty (BW w):=⟨⟨w,Below.refl _ _⟩⟩
@[go_sem] theorem BW.cell {w:World}(x:BW w) {b o:Nat}(h:b < w.heap.size):x.val.cell? ⟨b,o,none⟩=w.cell? ⟨b,o,none⟩:=x.prop.cell (p:=⟨b,o,none⟩) h
@[go_sem] theorem BW.frozen {w:World}(x:BW w) {b o:Nat}(h:b < w.heap.size):x.val.frozen? ⟨b,o,none⟩=w.frozen? ⟨b,o,none⟩:=x.prop.frozen (p:=⟨b,o,none⟩) h
theorem Zs {P:Program}{id:Nat}{Q:Exit→Act→World→Prop}{a:Act}{w:World}{l:List Oper}(hm:P.follows .mixedOrders=true) (hB:Region.lexB .any l.toArray=true)
 (h:wpQuiet P l.toArray (fun w' => ∃ x:BW w,w'=x.val) (fun a' => ∀ w',Below w.heap.size w w'→Q .normal a' w') l a):(Code.region id l.toArray true).wp P Q a w:=
 wp_region_quiet (C:=fun w' => ∃ x:BW w,w'=x.val) hm hB ⟨⟨_,(Below.refl w.heap.size w).drew⟩,rfl⟩ (by
  have e:(fun a':Act => ∀ w',(∃ x:BW w,w'=x.val)→Q .normal a' w')=(fun a' => ∀ w',Below w.heap.size w w'→Q .normal a' w'):=by
   funext a';exact propext ⟨fun h w' hb=>h w' ⟨⟨w',hb⟩,rfl⟩,fun h w' ⟨x,hx⟩=>hx ▸ h _ x.prop⟩
  rw[e];simpa using h)
theorem Calls.bw {P:Program}{f:FuncId}{args:Array Value}{w:World}{x:BW w}{v:Value}
 (h:Calls P f args x.val fun e w'=>e = .returned v∧Below x.val.heap.size x.val w'):Calls P f args x.val fun e w''=>e = .returned v∧∃ y:BW w,w''=y.val:=
 h.mono fun _ w' ⟨he,hb⟩=>⟨he,⟨w',x.prop.trans (hb.mono x.prop.size)⟩,rfl⟩
theorem Calls.Vk {P:Program}{f:FuncId}{args:Array Value}{w:World}{x:BW w}{v:Value}
 (h:Calls P f args x.val fun e w'=>e = .returned v∧x.val=w'):Calls P f args x.val fun e w''=>e = .returned v∧∃ y:BW w,w''=y.val:=
 h.mono fun _ _ ⟨he,hb⟩=>⟨he,x,hb.symm⟩
structure El (α:Type) where
 sz:Nat
 pos:0 < sz
 c:α→List Value
 len:∀ x,(c x).length=sz
 one:∀ x u,u∈c x→u.oneCell'=true
section
variable {α : Type} (E : El α)
theorem El.length (xs:List α):(xs.flatMap E.c).length=xs.length * E.sz:=by
 induction xs with
 | nil=>simp
 | cons x xs ih=>simp[E.len,ih,Nat.add_mul,Nat.add_comm]
theorem El.get (xs:List α):∀ (i j:Nat),j < E.sz→(xs.flatMap E.c)[i * E.sz+j]? = (xs[i]?).bind fun x=>(E.c x)[j]?:=by
 induction xs with
 | nil=>simp
 | cons x xs ih =>
  intro i j hj;rw[List.flatMap_cons];cases i with
  | zero=>rw[List.getElem?_append_left (by rw[E.len];omega)];simp
  | succ i =>
   rw[List.getElem?_append_right (by rw[E.len,Nat.add_mul];omega),E.len,show (i+1) * E.sz+j - E.sz=i * E.sz+j by rw[Nat.add_mul];omega,ih i j hj];simp
theorem El.set (xs:List α):∀ (i j:Nat) (x y:α) (u:Value),j < E.sz→xs[i]? = some x→E.c y=(E.c x).set j u→(xs.flatMap E.c).set (i * E.sz+j) u=(xs.set i y).flatMap E.c:=by
 induction xs with
 | nil=>intro i j x y u _ h;simp at h
 | cons x0 xs ih =>
  intro i j x y u hj hx hy;rw[List.flatMap_cons];cases i with
  | zero =>
   simp at hx;subst hx;rw[List.set_append_left _ _ (by rw[E.len];omega)];simp[hy]
  | succ i =>
   rw[List.set_append_right _ _ (by rw[E.len,Nat.add_mul];omega),E.len,show (i+1) * E.sz+j - E.sz=i * E.sz+j by rw[Nat.add_mul];omega,ih i j x y u hj (by simpa using hx) hy];simp
def Z7 (w:World) (v:Value) (xs:List α):Prop:=
 ∃ a c,v = .slice a xs.length c∧xs.length≤c∧c≤maxLen∧∀ i x,xs[i]? = some x→∃ b o,a=some ⟨b,o,none⟩∧∀ j u,(E.c x)[j]? = some u→w.cell? ⟨b,o+i * E.sz+j,none⟩=some u
variable {E}
theorem El.first (x:α):∃ u,(E.c x)[0]? = some u:=⟨(E.c x)[0]'(by rw[E.len];exact E.pos),Sm⟩
theorem Z7.below {w w':World}{v:Value}{xs:List α}(h:Z7 E w v xs) (hb:Below w.heap.size w w'):Z7 E w' v xs:=by
 obtain⟨a,c,rfl,h1,h2,h⟩:=h;refine⟨a,c,rfl,h1,h2,fun i x hx => ?_⟩;obtain⟨b,o,rfl,hi⟩:=h i x hx;refine⟨b,o,rfl,fun j u hu => ?_⟩;have:=hi j u hu;rw[← this];exact hb.cell (p:=⟨b,_,none⟩) (Zb this)
theorem Z7.nil (w:World):Z7 E w (.slice none 0 0) []:=⟨none,0,rfl,Nat.le_refl _,Nat.zero_le _,fun i x h=>by simp at h⟩
def Own (E:El α) (T:TypeId) (w:World) (base:Nat) (v:Value) (xs:List α):Prop:=w.ownsRow base T E.sz v xs.length (xs.flatMap E.c)
theorem Own.shape {T:TypeId}{w:World}{base:Nat}{v:Value}{xs:List α}(h:Own E T w base v xs):(v = .slice none 0 0∧xs=[])∨∃ g cap,v = .slice (some ⟨g,0,none⟩) xs.length cap∧base≤g∧g < w.heap.size∧xs.length≤cap∧cap≤maxLen:=by
 rcases h.2 with⟨h1,h2⟩ | ⟨g,cap,cur,h1,h2,h3,h4,h5,_⟩
 ·exact .inl ⟨h1,List.eq_nil_of_length_eq_zero h2⟩
 ·exact .inr ⟨g,cap,h1,h2,(Array.getElem?_eq_some_iff.1 h3).1,h4,h5⟩
theorem Own.cell {T:TypeId}{w:World}{base g n cap:Nat}{xs:List α}(h:Own E T w base (.slice (some ⟨g,0,none⟩) n cap) xs) {i j:Nat}{x:α}{u:Value}(hx:xs[i]? = some x) (hu:(E.c x)[j]? = some u):w.cell? ⟨g,i * E.sz+j,none⟩=some u:=by
 have hj:j < E.sz:=by rw[← E.len x];exact(List.getElem?_eq_some_iff.1 hu).1
 have hi:i < xs.length:=(List.getElem?_eq_some_iff.1 hx).1;have hn:n=xs.length:=by rcases h.2 with⟨h1,_⟩ | ⟨g,cap,cur,h1,_⟩ <;> simp at h1;exact h1.2.1
 subst hn;rw[World.ownsRow.cellAt h (i * E.sz+j) (by
  have:(i+1) * E.sz≤xs.length * E.sz:=Nat.mul_le_mul_right _ hi;rw[Nat.add_mul]at this;omega),E.get xs i j hj,hx]
 exact hu
theorem Own.len {T:TypeId}{w:World}{base n cap:Nat}{a:Option Addr}{xs:List α}(h:Own E T w base (.slice a n cap) xs):n=xs.length:=by
 rcases h.2 with⟨h1,h2⟩ | ⟨g,cap,cur,h1,_⟩
 ·simp at h1;omega
 ·simp at h1;exact h1.2.1
theorem Own.frozen {T:TypeId}{w:World}{base g n cap:Nat}{xs:List α}(h:Own E T w base (.slice (some ⟨g,0,none⟩) n cap) xs) (j:Nat):w.frozen? ⟨g,j,none⟩=false:=by
 have hn:=h.len;subst hn;exact World.ownsRow.frozenAt h j
theorem Own.set {T:TypeId}{w:World}{base g n cap:Nat}{xs:List α}(h:Own E T w base (.slice (some ⟨g,0,none⟩) n cap) xs) {i j:Nat}{x:α}(y:α) {u:Value}(hj:j < E.sz) (hx:xs[i]? = some x) (hy:E.c y=(E.c x).set j u) :
 Own E T (w.setCell ⟨g,i * E.sz+j,none⟩ u) base (.slice (some ⟨g,0,none⟩) n cap) (xs.set i y):=by
 have hn:=h.len;subst hn;have hs:=(World.ownsRow.stored h (i * E.sz+j) u).1;unfold Own;rw[List.length_set,← E.set xs i j x y u hj hx hy];exact hs
theorem Own.rep {T:TypeId}{w:World}{base:Nat}{v:Value}{xs:List α}(h:Own E T w base v xs):Z7 E w v xs:=by
 rcases h.shape with⟨rfl,rfl⟩ | ⟨g,cap,rfl,h1,h2,h3,h4⟩
 ·exact Z7.nil w
 ·refine⟨_,_,rfl,h3,h4,fun i x hx=>⟨g,0,rfl,fun j u hu => ?_⟩⟩
  rw[Nat.zero_add];exact h.cell hx hu
theorem Own.kept {T:TypeId}{w w':World}{base B:Nat}{v:Value}{xs:List α}(h:Own E T w base v xs) (hb:Below B w w') (hB:∀ k,v.ownBlock=some k→k < B):Own E T w' base v xs:=by
 refine⟨h.1,?_⟩;rcases h.2 with hn | ⟨g,cap,cur,rfl,hb1,hgg,rest⟩
 ·exact .inl hn
 ·exact .inr ⟨g,cap,cur,rfl,hb1,(hb.block g (hB g rfl)).trans hgg,rest⟩
theorem Own.below {T:TypeId}{w w':World}{base:Nat}{v:Value}{xs:List α}(h:Own E T w base v xs) (hb:Below w.heap.size w w'):Own E T w' base v xs:=
 h.kept hb fun k hk=>(World.ownsRow.lt h k hk).2
theorem Own.grown {T:TypeId}{w w':World}{base:Nat}{row:Option Nat}{v:Value}{xs:List α}(h:Own E T w base v xs) (hg:w.grownBy w' row) (hne:v.ownBlock=none∨v.ownBlock≠row):Own E T w' base v xs:=World.ownsRow.kept h hg hne
theorem Own.alloc {T:TypeId}{w:World}{base:Nat}{v:Value}{xs:List α}(h:Own E T w base v xs) (o:Obj):Own E T (w.alloc o) base v xs:=World.ownsRow.alloc h o
theorem Own.nil (T:TypeId) (w:World) (base:Nat):Own E T w base (.slice none 0 0) []:=World.ownsRow_nil _ _ _ _
theorem Own.empty (T:TypeId) (w:World) {base:Nat}(hb:base≤w.heap.size):Own E T (w.alloc (.cells #[] T)) base (.slice (some ⟨w.heap.size,0,none⟩) 0 0) []:=World.ownsRow_made w #[] 0 hb (by unfold maxLen;omega) Sm
theorem Own.mono {T:TypeId}{w:World}{base base':Nat}{v:Value}{xs:List α}(h:Own E T w base v xs) (hb:base'≤base):Own E T w base' v xs:=by
 refine⟨h.1,?_⟩;rcases h.2 with hn | ⟨g,cap,cur,rfl,hb1,rest⟩
 ·exact .inl hn
 ·exact .inr ⟨g,cap,cur,rfl,Nat.le_trans hb hb1,rest⟩
theorem GU (z:α) (zv:Value) (hz:zv.cells.toList=E.c z) (n:Nat):(madeCells zv.cells (n * E.sz)).toList=(List.replicate n z).flatMap E.c:=by
 have hsz:zv.cells.size=E.sz:=by rw[← Array.length_toList,hz,E.len]
 apply List.ext_getElem?;intro k;have hk:=Nat.div_add_mod k E.sz;have hm:k % E.sz < E.sz:=Nat.mod_lt _ E.pos;have hk':k=k / E.sz * E.sz+k % E.sz:=by rw[Nat.mul_comm];exact hk.symm
 by_cases h:k < n * E.sz
 ·have hd:k / E.sz < n:=Nat.div_lt_of_lt_mul (by rw[Nat.mul_comm];exact h)
  have hr:((List.replicate n z).flatMap E.c)[k]? = (E.c z)[k % E.sz]?:=by
   conv=>lhs;rw[hk']
   rw[E.get _ _ _ hm,List.getElem?_replicate,if_pos hd];rfl
  rw[hr,← hz];simp only[madeCells,Array.toList_map,List.getElem?_map,Array.toList_range,List.getElem?_range h,Option.map_some,hsz];rw[Array.getElem?_toList,Array.getElem?_eq_getElem Om];rw[getElem!_pos zv.cells (k % E.sz) Om]
 ·rw[List.getElem?_eq_none (by rw[Array.length_toList,size_madeCells];omega),List.getElem?_eq_none (by rw[E.length];simp;omega)]
end
def Zo:El Int:=⟨1,Dc,fun x=>[.int .i64 x],fun _=>rfl,fun x u h=>by simp at h;subst h;rfl⟩
structure Zt where
 a:Option Addr
 n:Nat
 cap:Nat
abbrev Zt.v (s:Zt):Value:=.slice s.a s.n s.cap
def Zw:El Zt:=⟨1,Dc,fun x=>[x.v],fun _=>rfl,fun x u h=>by simp at h;subst h;rfl⟩
structure Ins where
 op:Int
 loc:Int
 ZQ:Int
 val:Int
deriving DecidableEq
abbrev Ins.v (x:Ins):Value:=.agg #[.int .i64 x.op,.int .i64 x.loc,.int .i64 x.ZQ,.int .i64 x.val]
def ZH:El Ins:=⟨4,Dc,fun x=>[.int .i64 x.op,.int .i64 x.loc,.int .i64 x.ZQ,.int .i64 x.val],fun _=>rfl,fun x u h=>by simp at h;rcases h with rfl | rfl | rfl | rfl <;> rfl⟩
theorem Zh {n k:Nat}(h:k < n):(k:Int) < n:=Om
theorem Z7.ins {w:World}{a:Option Addr}{n c:Nat}{xs:List Ins}(h:Z7 ZH w (.slice a n c) xs) {k:Nat}{x:Ins}(hx:xs[k]? = some x) :
 ∃ b o,a=some ⟨b,o,none⟩∧b < w.heap.size∧w.cell? ⟨b,o+k * 4,none⟩=some (.int .i64 x.op)∧w.cell? ⟨b,o+k * 4+1,none⟩=some (.int .i64 x.loc) ∧
  w.cell? ⟨b,o+k * 4+2,none⟩=some (.int .i64 x.ZQ)∧w.cell? ⟨b,o+k * 4+3,none⟩=some (.int .i64 x.val):=by
 obtain⟨a',c',hv,_,_,h⟩:=h;simp only[Value.slice.injEq]at hv;obtain⟨rfl,rfl,rfl⟩:=hv;obtain⟨b,o,rfl,h'⟩:=h k x hx;exact⟨b,o,rfl,Zb (h' 0 _ rfl),h' 0 _ rfl,h' 1 _ rfl,h' 2 _ rfl,h' 3 _ rfl⟩
theorem Z7.int {w:World}{a:Option Addr}{n c:Nat}{xs:List Int}(h:Z7 Zo w (.slice a n c) xs) {k:Nat}{x:Int}(hx:xs[k]? = some x) :
 ∃ b o,a=some ⟨b,o,none⟩∧b < w.heap.size∧w.cell? ⟨b,o+k,none⟩=some (.int .i64 x):=by
 obtain⟨a',c',hv,_,_,h⟩:=h;simp only[Value.slice.injEq]at hv;obtain⟨rfl,rfl,rfl⟩:=hv;obtain⟨b,o,rfl,h'⟩:=h k x hx;have:=h' 0 _ rfl;simp only[Zo,Nat.mul_one,Nat.add_zero]at this;exact⟨b,o,rfl,Zb this,this⟩
theorem Z7.Hf {w:World}{a:Option Addr}{n c:Nat}{xs:List Zt}(h:Z7 Zw w (.slice a n c) xs) {k:Nat}{x:Zt}(hx:xs[k]? = some x) :
 ∃ b o,a=some ⟨b,o,none⟩∧b < w.heap.size∧w.cell? ⟨b,o+k,none⟩=some (.slice x.a x.n x.cap):=by
 obtain⟨a',c',hv,_,_,h⟩:=h;simp only[Value.slice.injEq]at hv;obtain⟨rfl,rfl,rfl⟩:=hv;obtain⟨b,o,rfl,h'⟩:=h k x hx;have:=h' 0 _ rfl;simp only[Zw,Nat.mul_one,Nat.add_zero]at this;exact⟨b,o,rfl,Zb this,this⟩
theorem Z7.open {α:Type}{E:El α}{w:World}{v:Value}{xs:List α}(h:Z7 E w v xs):∃ a c,v = .slice a xs.length c∧xs.length≤c∧xs.length≤9223372036854775807∧c≤maxLen∧Z7 E w (.slice a xs.length c) xs:=by
 obtain⟨a,c,rfl,h1,h2,h3⟩:=h;exact⟨a,c,rfl,h1,by unfold maxLen at h2;omega,h2,a,c,rfl,h1,h2,h3⟩
def Yv {α:Type}(E:El α) (w:World) (v:Value) (p:List (List α)):Prop:=
 ∃ us:List Zt,us.length=p.length∧Z7 Zw w v us∧∀ (i:Nat) (u:Zt) (r:List α),us[i]? = some u→p[i]? = some r→Z7 E w u.v r
theorem Yv.below {α:Type}{E:El α}{w w':World}{v:Value}{p:List (List α)}(h:Yv E w v p) (hb:Below w.heap.size w w'):Yv E w' v p:=by
 obtain⟨us,h1,h2,h3⟩:=h;exact⟨us,h1,h2.below hb,fun i u r hu hr=>(h3 i u r hu hr).below hb⟩
theorem Yv.row {α:Type}{E:El α}{w:World}{a:Option Addr}{n c:Nat}{p:List (List α)}(h:Yv E w (.slice a n c) p) {k:Nat}{r:List α}(hr:p[k]? = some r) :
 ∃ b o a' c',a=some ⟨b,o,none⟩∧b < w.heap.size∧w.cell? ⟨b,o+k,none⟩=some (.slice a' r.length c')∧Z7 E w (.slice a' r.length c') r:=by
 obtain⟨us,h1,h2,h3⟩:=h;obtain⟨u,hu⟩:∃ u,us[k]? = some u:=⟨us[k]'(by rw[h1];exact(List.getElem?_eq_some_iff.1 hr).1),Sm⟩
 obtain⟨b,o,rfl,hb,hc⟩:=h2.Hf hu;have hrow:=h3 k u r hu hr;obtain⟨a',c',hv,_⟩:=hrow.open;simp only[Zt.v,Value.slice.injEq]at hv;obtain⟨e1,e2,e3⟩:=hv;refine⟨b,o,a',c',rfl,hb,by rw[hc,e1,e2,e3],?_⟩;rw[← e1,← e3,← e2];exact hrow
theorem Yv.open {α:Type}{E:El α}{w:World}{v:Value}{p:List (List α)}(h:Yv E w v p):∃ a c,v = .slice a p.length c∧p.length≤c∧p.length≤9223372036854775807∧c≤maxLen∧Yv E w (.slice a p.length c) p:=by
 obtain⟨us,h1,h2,h3⟩:=h;obtain⟨a,c,rfl,h4,h5,h6,h7⟩:=h2.open;refine⟨a,c,by rw[h1],by rw[← h1];exact h4,by rw[← h1];exact h5,h6,us,h1,?_,h3⟩;rw[← h1];exact h7
theorem Zp {w:World}{l:List Value}{T:TypeId}:∀ (j:Nat) (u:Value),l[j]? = some u→(w.alloc (.cells l.toArray T)).cell? ⟨w.heap.size,0+j,none⟩=some u:=by
 intro j u h;rw[Nat.zero_add,cell_of_row _ _ j l.toArray T (0,0) (heap_alloc_new w _)];simpa using h
theorem ZM {α:Type}{E:El α}{T:TypeId}{w wr w1:World}{o:Obj}{v:Value}{xs:List α}(hb:Below w.heap.size w wr) (hown:Own E T wr w.heap.size v xs) (hg:(wr.alloc o).grownBy w1 v.ownBlock):Below w.heap.size w w1:=
 (hb.alloc hb.size o).grown hg (by have:=hb.size;simp;omega) (fun k hk=>(World.ownsRow.lt hown k hk).1)
theorem Zd {α:Type}{xs:List α}{k:Nat}(h:k < xs.length):∃ x,xs[k]? = some x:=⟨xs[k],Sm⟩
theorem QJ {α:Type}{xs ys:List α}{k:Nat}{x y:α}(h:xs.take k=ys.take k) (hx:xs[k]? = some x) (hy:ys[k]? = some y) (e:x=y):xs.take (k+1)=ys.take (k+1):=by
 rw[List.take_add_one,List.take_add_one,h,hx,hy,e]
theorem Jn {α:Type}{xs ys:List α}{k:Nat}(h:xs.take k=ys.take k) (hx:xs.length≤k) (hy:ys.length≤k):xs=ys:=by
 rwa[List.take_of_length_le hx,List.take_of_length_le hy]at h
theorem Kx {α:Type}{xs ys:List α}{k:Nat}{x y:α}(hx:xs[k]? = some x) (hy:ys[k]? = some y) (e:x≠y):xs≠ys:=by
 intro h;subst h;rw[hx]at hy;exact e (Option.some.inj hy)
theorem Rp {α:Type}(xs:List α) (z:α) {k:Nat}{x:α}(hx:xs[k]? = some x):(xs.take k++List.replicate (xs.length - k) z).set k x=xs.take (k+1)++List.replicate (xs.length - (k+1)) z:=by
 have hk:k < xs.length:=(List.getElem?_eq_some_iff.1 hx).1;rw[List.set_append_right _ _ (by rw[List.length_take];omega),List.length_take,Nat.min_eq_left Om,Nat.sub_self,
  show xs.length - k=(xs.length - (k+1))+1 by omega,List.replicate_succ,List.set_cons_zero,List.take_add_one,hx]
 simp
theorem QB {α:Type}(xs:List α) (z:α) {k:Nat}(hk:k≤xs.length):(xs.take k++List.replicate (xs.length - k) z).length=xs.length:=by
 simp;omega
theorem C0 {α:Type}(xs:List α) (z:α) {k:Nat}(hk:k < xs.length):(xs.take k++List.replicate (xs.length - k) z)[k]? = some z:=by
 rw[List.getElem?_append_right So,List.length_take,Nat.min_eq_left Om,Nat.sub_self,List.getElem?_replicate,if_pos Om]
theorem Re {α:Type}(xs:List α) (z:α) {k:Nat}(hk:xs.length≤k):xs.take k++List.replicate (xs.length - k) z=xs:=by
 rw[List.take_of_length_le hk,show xs.length - k=0 by omega];simp
def ZG {α:Type}(E:El α) (T1 T2:TypeId) (w:World) (base:Nat) (v:Value) (p:List (List α)):Prop:=
 ∃ us:List Zt,us.length=p.length∧Own Zw T1 w base v us∧(∀ (i:Nat) (u:Zt) (r:List α),us[i]? = some u→p[i]? = some r→Own E T2 w base u.v r) ∧
  (∀ (i j:Nat) (u u':Zt),us[i]? = some u→us[j]? = some u'→i≠j→∀ k,u.v.ownBlock=some k→u'.v.ownBlock≠some k) ∧
  (∀ (i:Nat) (u:Zt),us[i]? = some u→∀ k,u.v.ownBlock=some k→v.ownBlock≠some k)
theorem Own.YL {α:Type}{E:El α}{T:TypeId}{w:World}{base:Nat}{v:Value}{xs:List α}(h:Own E T w base v xs):∃ u:Zt,v=u.v∧u.n=xs.length:=by
 rcases h.shape with⟨rfl,rfl⟩ | ⟨g,cap,rfl,_⟩
 ·exact⟨⟨none,0,0⟩,rfl,rfl⟩
 ·exact⟨⟨_,_,_⟩,rfl,rfl⟩
section
variable {α : Type} {E : El α} {T1 T2 : TypeId}
theorem ZG.below {w w':World}{base:Nat}{v:Value}{p:List (List α)}(h:ZG E T1 T2 w base v p) (hb:Below w.heap.size w w'):ZG E T1 T2 w' base v p:=by
 obtain⟨us,h1,h2,h3,h4,h5⟩:=h;exact⟨us,h1,h2.below hb,fun i u r hu hr=>(h3 i u r hu hr).below hb,h4,h5⟩
theorem ZG.made {w:World}{base g n:Nat}(h:Own Zw T1 w base (.slice (some ⟨g,0,none⟩) n n) (List.replicate n ⟨none,0,0⟩)):ZG E T1 T2 w base (.slice (some ⟨g,0,none⟩) n n) (List.replicate n []):=by
 refine⟨_,Sm,h,?_,?_,?_⟩
 ·intro i u r hu hr
  rw[List.getElem?_replicate]at hu hr;split at hu
  ·rename_i hi;rw[if_pos hi]at hr;simp at hu hr;subst hu;subst hr;exact World.ownsRow_nil _ _ _ _
  ·simp at hu
 ·intro i j u u' hu _ _ k hk
  rw[List.getElem?_replicate]at hu;split at hu <;> simp at hu
  subst hu;simp[Value.ownBlock]at hk
 ·intro i u hu k hk
  rw[List.getElem?_replicate]at hu;split at hu <;> simp at hu
  subst hu;simp[Value.ownBlock]at hk
theorem ZG.put {w w1:World}{base g n cap:Nat}{p:List (List α)}(h:ZG E T1 T2 w base (.slice (some ⟨g,0,none⟩) n cap) p) (hb:Below w.heap.size w w1) (hbase:base≤w.heap.size) {k:Nat}{r:List α}{u:Value}(hk:k < p.length)
 (hu:Own E T2 w1 w.heap.size u r):ZG E T1 T2 (w1.setCell ⟨g,k,none⟩ u) base (.slice (some ⟨g,0,none⟩) n cap) (p.set k r):=by
 obtain⟨us,h1,h2,h3,h4,h5⟩:=h;obtain⟨s,rfl,hs⟩:=hu.YL;obtain⟨x,hx⟩:=Zd (xs:=us) (k:=k) Om;have hg:g < w.heap.size:=(World.ownsRow.lt h2 g rfl).2;have h2':=(h2.below hb).set (i:=k) (j:=0) s (u:=s.v) Dc hx rfl;simp only[Zw,Nat.mul_one,Nat.add_zero]at h2';have hgrown:w1.grownBy (w1.setCell ⟨g,k,none⟩ s.v) (some g):=⟨rfl,rfl,rfl,Sm,fun q _ hq=>heap_setCell_other w1 ⟨g,k,none⟩ q s.v (fun e=>hq (by simp[e]))⟩
 have hnew:∀ q,s.v.ownBlock=some q→w.heap.size≤q:=fun q hq=>(World.ownsRow.lt hu q hq).1;have hold:∀ (i:Nat) (u':Zt),us[i]? = some u'→∀ q,u'.v.ownBlock=some q→q < w.heap.size:=fun i u' hi q hq=>by
  obtain⟨r',hr'⟩:=Zd (xs:=p) (k:=i) (by have:=(List.getElem?_eq_some_iff.1 hi).1;omega);exact(World.ownsRow.lt (h3 i u' r' hi hr') q hq).2
 have split:∀ (i:Nat) (u':Zt),(us.set k s)[i]? = some u'→(i=k∧u'=s)∨(i≠k∧us[i]? = some u'):=fun i u' hi=>by
  rw[List.getElem?_set]at hi;by_cases e:k=i
  ·subst e;rw[if_pos rfl,if_pos Om]at hi;simp at hi;exact .inl ⟨rfl,hi.symm⟩
  ·rw[if_neg e]at hi;exact .inr ⟨fun h=>e h.symm,hi⟩
 refine⟨us.set k s,by simp[h1],h2',?_,?_,?_⟩
 ·intro i u' r' hi hr'
  rcases split i u' hi with⟨rfl,rfl⟩ | ⟨hne,hi⟩
  ·rw[List.getElem?_set,if_pos rfl,if_pos hk]at hr'
   simp at hr';subst hr';refine(hu.mono hbase).grown hgrown ?_;rcases hq:u'.v.ownBlock with _ | q
   ·exact .inl rfl
   ·refine .inr fun e => ?_
    simp at e;subst e;have:=hnew _ hq;omega
  ·rw[List.getElem?_set,if_neg (fun e=>hne e.symm)]at hr'
   refine((h3 i u' r' hi hr').below hb).grown hgrown ?_;rcases hq:u'.v.ownBlock with _ | q
   ·exact .inl rfl
   ·refine .inr fun e => ?_
    simp at e;subst e;exact h5 i u' hi _ hq rfl
 ·intro i j u' u'' hi hj hij q hq hq'
  rcases split i u' hi with⟨e1,e2⟩ | ⟨hne,hi'⟩
  ·rcases split j u'' hj with⟨e3,e4⟩ | ⟨hne',hj'⟩
   ·exact hij (e1.trans e3.symm)
   ·rw[e2]at hq;have h1:=hnew q hq;have h2:=hold j u'' hj' q hq';omega
  ·rcases split j u'' hj with⟨e3,e4⟩ | ⟨hne',hj'⟩
   ·rw[e4]at hq';have h1:=hnew q hq';have h2:=hold i u' hi' q hq;omega
   ·exact h4 i j u' u'' hi' hj' hij q hq hq'
 ·intro i u' hi q hq hv
  rcases split i u' hi with⟨rfl,rfl⟩ | ⟨hne,hi⟩
  ·simp[Value.ownBlock]at hv;subst hv;have:=hnew _ hq;omega
  ·exact h5 i u' hi q hq hv
theorem ZG.cellAt {w:World}{base g n cap:Nat}{p:List (List α)}(h:ZG E T1 T2 w base (.slice (some ⟨g,0,none⟩) n cap) p) {k:Nat}(hk:k < p.length) :
 g < w.heap.size∧(∃ s:Zt,w.cell? ⟨g,k,none⟩=some s.v)∧∀ j,w.frozen? ⟨g,j,none⟩=false:=by
 obtain⟨us,h1,h2,_⟩:=h;obtain⟨x,hx⟩:=Zd (xs:=us) (k:=k) Om;have:=h2.cell hx (j:=0) rfl;simp only[Zw,Nat.mul_one,Nat.add_zero]at this;exact⟨(World.ownsRow.lt h2 g rfl).2,⟨x,this⟩,fun j=>h2.frozen j⟩
theorem ZG.rep {w:World}{base:Nat}{v:Value}{p:List (List α)}(h:ZG E T1 T2 w base v p):Yv E w v p:=by
 obtain⟨us,h1,h2,h3,h4,h5⟩:=h;exact⟨us,h1,h2.rep,fun i u r hu hr'=>(h3 i u r hu hr').rep⟩
end
theorem Y4 {α:Type}(E:El α) {P:Program}{w:World}{ops:Array Oper}{rest:List Oper}{o:Oper}{a:Act}{Q:Exit→Act→World→Prop}
 (T:TypeId) (z:α) {zv:Value}{bytes:Nat}(hinfo:(P.info? T).map (fun i=>(i.zero,i.size,i.bytes))=some (some zv,E.sz,bytes)) (hz:zv.cells.toList=E.c z) {t:TypeId}(h1:P.underlying t=some (.slice T))
 (n:Nat) (hby:bytes≤256) (hn:n≤1099511627776) (hg:o.guard=none) (l c:Operand) (hop:o.op=Op.makeSlice t l c) (hl:a.eval l = .int .i64 n) (hc:a.eval c = .int .i64 n)
 (hK:∀ w',Own E T w' w.heap.size (.slice (some ⟨w.heap.size,0,none⟩) n n) (List.replicate n z)→w.grownBy w' none→wpList P ops Q rest (a.put o.dst (.slice (some ⟨w.heap.size,0,none⟩) n n)) w') :
 wpList P ops Q (o :: rest) a w:=by
 obtain⟨it,hi,hz0,hz1,hz2⟩:=info_parts hinfo;refine wpList_make_full w hg l c t hop w.heap.size T it zv E.sz h1 hi hz0 hz1 .i64 .i64 _ _ n hl hc rfl rfl (by rw[hz2];have:=Nat.mul_le_mul hby hn;omega) (by unfold maxLen;omega) (Nat.le_refl _) ?_;intro w1 hown hgr;refine hK w1 ?_ hgr;unfold Own;rw[List.length_replicate,← GU z zv hz n];exact hown
theorem Z3 {α:Type}(E:El α) {P:Program}{w:World}{ops:Array Oper}{rest:List Oper}{o:Oper}{a:Act}{Q:Exit→Act→World→Prop}
 (T:TypeId) {zv:Value}{bytes:Nat}(hinfo:(P.info? T).map (fun i=>(i.zero,i.size,i.bytes))=some (some zv,E.sz,bytes)) (hz:zv.cells.size=E.sz) {t:TypeId}(h1:P.underlying t=some (.slice T))
 (base:Nat) (v:Value) (xs:List α) (x:α) (hown:Own E T w base v xs) (hby:bytes≤256) (hn:xs.length≤68719476736) (hbase:base≤w.heap.size)
 (hg:o.guard=none) (s y:Operand) (hop:o.op = .call { callee:=.builtin .append,args:=#[s,y],argTypes:=#[t,t] })
 (hs:a.eval s=v) (b off c:Nat) (hy:a.eval y = .slice (some ⟨b,off,none⟩) 1 c) (hnews:∀ j u,(E.c x)[j]? = some u→w.cell? ⟨b,off+j,none⟩=some u)
 (hK:∀ v' w',Own E T w' base v' (xs++[x])→w.grownBy w' v.ownBlock→wpList P ops Q rest (a.put o.dst v') w') :
 wpList P ops Q (o :: rest) a w:=by
 obtain⟨it,hi,hz0,hz1,hz2⟩:=info_parts hinfo;refine wpList_append_own w hg s y t hop base T it zv E.sz bytes h1 hi hz0 hz1 hz2 hz E.pos v xs.length _ hs hown ⟨b,off,none⟩ 1 c (E.c x) hy (by rw[E.len,Nat.one_mul]) ?_ (E.one x) (by unfold maxLen;omega) ?_ hbase ?_
 ·intro j u hu
  have hadd:(⟨b,off,none⟩:Addr).add j=⟨b,off+j,none⟩:=by unfold Addr.add;split <;> simp_all
  rw[hadd];exact hnews j u hu
 ·have:=Nat.mul_le_mul (show xs.length+1≤68719476737 by omega) hby
  omega
 ·intro v' w' h2 h3 _
  refine hK v' w' ?_ h3;unfold Own;simpa[List.flatMap_append] using h2
theorem Own.ins {T:TypeId}{w:World}{base g n cap:Nat}{xs:List Ins}(h:Own ZH T w base (.slice (some ⟨g,0,none⟩) n cap) xs) {k:Nat}{x:Ins}(hx:xs[k]? = some x) :
 g < w.heap.size∧w.cell? ⟨g,k * 4,none⟩=some (.int .i64 x.op)∧w.cell? ⟨g,k * 4+1,none⟩=some (.int .i64 x.loc) ∧
  w.cell? ⟨g,k * 4+2,none⟩=some (.int .i64 x.ZQ)∧w.cell? ⟨g,k * 4+3,none⟩=some (.int .i64 x.val)∧∀ j,w.frozen? ⟨g,j,none⟩=false:=
 ⟨(World.ownsRow.lt h g rfl).2,h.cell hx (j:=0) rfl,h.cell hx (j:=1) rfl,h.cell hx (j:=2) rfl,h.cell hx (j:=3) rfl,fun j=>h.frozen j⟩
theorem YN {α:Type}{xs:List α}{k:Nat}{x:α}(hx:xs[k]? = some x) (y:α):(xs.set k y)[k]? = some y:=by
 have:=(List.getElem?_eq_some_iff.1 hx).1;rw[List.getElem?_set,if_pos rfl,if_pos this]
theorem Own.I3 {T:TypeId}{w:World}{base g n cap:Nat}{xs:List Ins}(h:Own ZH T w base (.slice (some ⟨g,0,none⟩) n cap) xs) {k:Nat}{z:Ins}(hz:xs[k]? = some z) (x:Ins) :
 Own ZH T ((((w.setCell ⟨g,k * 4,none⟩ (.int .i64 x.op)).setCell ⟨g,k * 4+1,none⟩ (.int .i64 x.loc)).setCell ⟨g,k * 4+2,none⟩ (.int .i64 x.ZQ)).setCell ⟨g,k * 4+3,none⟩ (.int .i64 x.val)) base (.slice (some ⟨g,0,none⟩) n cap) (xs.set k x):=by
 have h0:=h.set (i:=k) (j:=0) ⟨x.op,z.loc,z.ZQ,z.val⟩ (u:=.int .i64 x.op) Dc hz rfl;have h1:=h0.set (i:=k) (j:=1) ⟨x.op,x.loc,z.ZQ,z.val⟩ (u:=.int .i64 x.loc) Dc (YN hz _) rfl;have h2:=h1.set (i:=k) (j:=2) ⟨x.op,x.loc,x.ZQ,z.val⟩ (u:=.int .i64 x.ZQ) Dc (YN (YN hz _) _) rfl;have h3:=h2.set (i:=k) (j:=3) x (u:=.int .i64 x.val) Dc (YN (YN (YN hz _) _) _) rfl;simp only[List.set_set]at h3;exact h3
def Yt {α:Type}(E:El α) (T1 T2:TypeId) (us:List Zt) (w:World) (base:Nat) (v:Value) (p:List (List α)):Prop:=
 us.length=p.length∧Own Zw T1 w base v us∧(∀ (i:Nat) (u:Zt) (r:List α),us[i]? = some u→p[i]? = some r→Own E T2 w base u.v r) ∧
  (∀ (i j:Nat) (u u':Zt),us[i]? = some u→us[j]? = some u'→i≠j→∀ k,u.v.ownBlock=some k→u'.v.ownBlock≠some k) ∧
  (∀ (i:Nat) (u:Zt),us[i]? = some u→∀ k,u.v.ownBlock=some k→v.ownBlock≠some k)
theorem ZG.told {α:Type}{E:El α}{T1 T2:TypeId}{w:World}{base:Nat}{v:Value}{p:List (List α)}(h:ZG E T1 T2 w base v p) :
 ∃ us,Yt E T1 T2 us w base v p∧∀ (i:Nat) (u:Zt),us[i]? = some u→∀ q,u.v.ownBlock=some q→base≤q∧q < w.heap.size:=by
 obtain⟨us,h1,h2,h3,h4,h5⟩:=h;refine⟨us,⟨h1,h2,h3,h4,h5⟩,fun i u hi q hq => ?_⟩;obtain⟨r',hr'⟩:=Zd (xs:=p) (k:=i) (by have:=(List.getElem?_eq_some_iff.1 hi).1;omega);exact World.ownsRow.lt (h3 i u r' hi hr') q hq
theorem Yt.own {α:Type}{E:El α}{T1 T2:TypeId}{us:List Zt}{w:World}{base:Nat}{v:Value}{p:List (List α)}(h:Yt E T1 T2 us w base v p):ZG E T1 T2 w base v p:=⟨us,h⟩
theorem Yt.below {α:Type}{E:El α}{T1 T2:TypeId}{us:List Zt}{w w':World}{base:Nat}{v:Value}{p:List (List α)}(h:Yt E T1 T2 us w base v p) (hb:Below w.heap.size w w'):Yt E T1 T2 us w' base v p:=by
 obtain⟨h1,h2,h3,h4,h5⟩:=h;exact⟨h1,h2.below hb,fun i u r hu hr=>(h3 i u r hu hr).below hb,h4,h5⟩
theorem Yt.row {α:Type}{E:El α}{T1 T2:TypeId}{us:List Zt}{w:World}{base g n cap:Nat}{p:List (List α)}(h:Yt E T1 T2 us w base (.slice (some ⟨g,0,none⟩) n cap) p) {k:Nat}{r:List α}(hr:p[k]? = some r) :
 ∃ s:Zt,us[k]? = some s∧g < w.heap.size∧w.cell? ⟨g,k,none⟩=some (.slice s.a s.n s.cap)∧Own E T2 w base s.v r ∧
  ∀ w' r',Own E T2 w' base s.v r'→w.grownBy w' s.v.ownBlock→Yt E T1 T2 us w' base (.slice (some ⟨g,0,none⟩) n cap) (p.set k r'):=by
 obtain⟨h1,h2,h3,h4,h5⟩:=h;have hk:=(List.getElem?_eq_some_iff.1 hr).1;obtain⟨s,hs⟩:=Zd (xs:=us) (k:=k) Om;have hc:=h2.cell hs (j:=0) rfl;simp only[Zw,Nat.mul_one,Nat.add_zero]at hc;refine⟨s,hs,(World.ownsRow.lt h2 g rfl).2,hc,h3 k s r hs hr,fun w' r' ho hg=>⟨by simp[h1],h2.grown hg (.inr ?_),?_,h4,h5⟩⟩
 ·intro e
  exact h5 k s hs g (by rw[← e];rfl) rfl
 ·intro i u r2 hu hr2
  by_cases e:k=i
  ·subst e
   rw[List.getElem?_set,if_pos rfl,if_pos hk]at hr2;simp at hr2;subst hr2;rw[hs]at hu;simp at hu;subst hu;exact ho
  ·rw[List.getElem?_set,if_neg e]at hr2
   refine(h3 i u r2 hu hr2).grown hg ?_;rcases hq:u.v.ownBlock with _ | q
   ·exact .inl rfl
   ·exact .inr fun e2=>h4 i k u s hu hs (fun e3=>e e3.symm) q hq e2.symm
structure Outside (lo hi:Nat) (w w':World):Prop where
 os:w'.os=w.os
 tape:w'.tape=w.tape
 output:w'.output=w.output
 size:w.heap.size≤w'.heap.size
 block:∀ k,k < w.heap.size→(k < lo∨hi≤k)→w'.heap[k]? = w.heap[k]?
theorem Outside.refl (lo hi:Nat) (w:World):Outside lo hi w w:=⟨rfl,rfl,rfl,Nat.le_refl _,fun _ _ _=>rfl⟩
theorem Outside.grown {lo hi:Nat}{w w' w'':World}{row:Option Nat}(h:Outside lo hi w w') (hg:w'.grownBy w'' row) (hr:∀ q,row=some q→lo≤q∧q < hi):Outside lo hi w w'':=
 ⟨hg.os.trans h.os,hg.tape.trans h.tape,hg.output.trans h.output,Nat.le_trans h.size hg.size,fun k hk hlh=>(hg.block k (by have:=h.size;omega) (fun e=>by have:=hr k e.symm;omega)).trans (h.block k hk hlh)⟩
theorem Outside.trans {lo hi:Nat}{a b c:World}(h:Outside lo hi a b) (k:Outside lo hi b c):Outside lo hi a c:=
 ⟨k.os.trans h.os,k.tape.trans h.tape,k.output.trans h.output,Nat.le_trans h.size k.size,fun q hq hlh=>(k.block q (by have:=h.size;omega) hlh).trans (h.block q hq hlh)⟩
theorem Outside.below {lo hi:Nat}{w w':World}(h:Outside lo hi w w') {B:Nat}(hB:B≤lo) (hB':B≤w.heap.size):Below B w w':=
 ⟨h.os,h.tape,h.output,h.size,fun k hk=>h.block k Om (.inl Om)⟩
theorem Outside.own {α:Type}{E:El α}{T:TypeId}{lo hi:Nat}{w w':World}(h:Outside lo hi w w') {base:Nat}{v:Value}{xs:List α}(ho:Own E T w base v xs) (hlt:∀ q,v.ownBlock=some q→q < lo∨hi≤q):Own E T w' base v xs:=by
 refine⟨ho.1,?_⟩;rcases ho.2 with hn | ⟨g,cap,cur,rfl,hb1,hgg,rest⟩
 ·exact .inl hn
 ·exact .inr ⟨g,cap,cur,rfl,hb1,(h.block g (Array.getElem?_eq_some_iff.1 hgg).1 (hlt g rfl)).trans hgg,rest⟩
theorem Qx {w w':World}{g:Nat}(h:w.grownBy w' (some g)) (j:Nat) (u:Value):w.grownBy (w'.setCell ⟨g,j,none⟩ u) (some g):=
 ⟨h.os,h.tape,h.output,by simpa using h.size,fun q hq hne=>(heap_setCell_other w' ⟨g,j,none⟩ q u (fun e=>hne (by simp[e]))).trans (h.block q hq hne)⟩
def Xm {α:Type}(E:El α) (T:TypeId) (w:World) (xs:List α) (e:Ending) (w':World):Prop:=∃ v,e = .returned v∧Own E T w' w.heap.size v xs∧Below w.heap.size w w'
def Gv {α:Type}(E:El α) (T1 T2:TypeId) (w:World) (p:List (List α)) (e:Ending) (w':World):Prop:=∃ v,e = .returned v∧ZG E T1 T2 w' w.heap.size v p∧Below w.heap.size w w'
theorem Tryz.Y2:(Tryz.prog.info? 44).map (fun i=>(i.zero,i.size,i.bytes))=some (some (.agg #[.int .i64 0,.int .i64 0,.int .i64 0,.int .i64 0]),4,32):=Kr
theorem Tryz.YT:(Tryz.prog.info? 42).map (fun i=>(i.zero,i.size,i.bytes))=some (some (.slice none 0 0),1,24):=Kr
abbrev CN (w:World) (base:Nat) (v:Value) (xs:List Ins):Prop:=Own ZH 44 w base v xs
abbrev Kl (w:World) (base:Nat) (v:Value) (p:List (List Ins)):Prop:=ZG ZH 42 44 w base v p
abbrev Z5 (w:World) (v:Value) (p:List (List Ins)):Prop:=Yv ZH w v p
theorem AX (x:Ins) (w:World) :
 Calls Tryz.prog 66 #[x.v] w fun e w'=>e = .returned x.v∧Below w.heap.size w w':=by
 obtain⟨x0,x1,x2,x3⟩:=x;go_enter Tryz.func66,Tryz.ntmps66;go_wp2;refine bodyPost_ret (v:=.agg #[.int .i64 x0,.int .i64 x1,.int .i64 x2,.int .i64 x3]) (by simp[results,Tryz.results66,go_sem]) rfl ⟨rfl,?_⟩;exact(((Below.refl _ _).alloc (Nat.le_refl _) _).alloc Sm _).alloc So _
theorem Ae (x y:Ins) (w:World) :
 Calls Tryz.prog 74 #[x.v,y.v] w fun e w'=>e = .returned (.bool (decide (x=y)))∧Below w.heap.size w w':=by
 obtain⟨x0,x1,x2,x3⟩:=x;obtain⟨y0,y1,y2,y3⟩:=y;rw[show decide ((⟨x0,x1,x2,x3⟩:Ins)=⟨y0,y1,y2,y3⟩)=(x0==y0&&x1==y1&&x2==y2&&x3==y3) by rw[Bool.eq_iff_iff];simp[and_assoc]];go_enter Tryz.func74,Tryz.ntmps74;go_wp2
 all_goals go_ret
 all_goals refine⟨?_,((Below.refl _ _).alloc (Nat.le_refl _) _).alloc Sm _⟩
 all_goals simp_all
theorem GH (v v':Value) (xs ys:List Ins) (w:World) (hx:Z7 ZH w v xs) (hy:Z7 ZH w v' ys) :
 Calls Tryz.prog 39 #[v,v'] w fun e w'=>e = .returned (.bool (decide (xs=ys)))∧Below w.heap.size w w':=by
 obtain⟨a,c,rfl,hc1,hc2,hc3,hx⟩:=hx.open;obtain⟨a',c',rfl,hc1',hc2',hc3',hy⟩:=hy.open;have HX:=Za hx;clear hx;have HY:=Za hy;clear hy;generalize hn:xs.length=n at *;generalize hn':ys.length=n' at *;have H:=Za hn;clear hn;have H':=Za hn';clear hn';by_cases hc:n=n'
 ·subst hc
  have hc':((n:Int) != n)=false:=by simp
  go_enter Tryz.func39,Tryz.ntmps39;go_wp2_with fail
  go_loopw [5] (fun v wr => ∃ k:Nat,k≤n∧v = .int .i64 k∧Hid (xs.take k=ys.take k)∧Below w.heap.size w wr) (fun v _=>n - (intOf v).toNat)
  case atStart=>exact⟨0,Nat.zero_le _,rfl,Za Sm,Below.refl _ _⟩
  case round =>
   obtain⟨k,hk,rfl,T,hb⟩:=hrel;by_cases hlt:k < n
   ·obtain⟨x,hxk⟩:=Zd (xs:=xs) (k:=k) (by rw[H.out];exact hlt)
    obtain⟨y,hyk⟩:=Zd (xs:=ys) (k:=k) (by rw[H'.out];exact hlt);obtain⟨b,o,rfl,hbl,i0,i1,i2,i3⟩:=(HX.out.below hb).ins hxk;obtain⟨b',o',rfl,hbl',j0,j1,j2,j3⟩:=(HY.out.below hb).ins hyk;have hlt':=Zh hlt;have X:=Za hxk;clear hxk;have Y:=Za hyk;clear hyk;go_wp2_with fail;refine Zs Kr Kr ?_
    repeat (go_big_quiet_step ((go_at_call 74;exact Calls.bw (Ae x y _))))
    refine wpQuiet_nil ?_;intro w1 hb1;have hb2:=hb.trans (hb1.mono hb.size);generalize hd:decide (x=y)=d;cases d
    ·have hq:=Kx X.out Y.out (of_decide_eq_false hd)
     clear hd;go_wp2_with fail;go_ret;exact⟨by simp[hq],hb2⟩
    ·have T':=Za (QJ T.out X.out Y.out (of_decide_eq_true hd))
     clear hd;go_wp2_with fail;go_roundw
     case rel=>exact⟨k+1,Om,Gn,T',hb2⟩
     case measure=>simp[intOf];omega
   ·have e2:xs=ys:=Jn T.out (by rw[H.out];omega) (by rw[H'.out];omega)
    subst e2;go_wp2_with fail;go_ret;exact⟨Sm,hb⟩
 ·have hc':((n:Int) != n')=true:=So
  have hq:xs≠ys:=fun h=>hc (by rw[← H.out,← H'.out,h]);go_enter Tryz.func39,Tryz.ntmps39;go_wp2_with fail;go_ret;exact⟨by simp[hq],Below.refl _ _⟩
theorem UB (v v':Value) (xs ys:List (List Ins)) (w:World) (hx:Z5 w v xs) (hy:Z5 w v' ys) :
 Calls Tryz.prog 13 #[v,v'] w fun e w'=>e = .returned (.bool (decide (xs=ys)))∧Below w.heap.size w w':=by
 obtain⟨a,c,rfl,hc1,hc2,hc3,hx⟩:=hx.open;obtain⟨a',c',rfl,hc1',hc2',hc3',hy⟩:=hy.open;have HX:=Za hx;clear hx;have HY:=Za hy;clear hy;generalize hn:xs.length=n at *;generalize hn':ys.length=n' at *;have H:=Za hn;clear hn;have H':=Za hn';clear hn';by_cases hc:n=n'
 ·subst hc
  have hc':((n:Int) != n)=false:=by simp
  go_enter Tryz.func13,Tryz.ntmps13;go_wp2_with fail
  go_loopw [5] (fun v wr => ∃ k:Nat,k≤n∧v = .int .i64 k∧Hid (xs.take k=ys.take k)∧Below w.heap.size w wr) (fun v _=>n - (intOf v).toNat)
  case atStart=>exact⟨0,Nat.zero_le _,rfl,Za Sm,Below.refl _ _⟩
  case round =>
   obtain⟨k,hk,rfl,T,hb⟩:=hrel;by_cases hlt:k < n
   ·obtain⟨x,hxk⟩:=Zd (xs:=xs) (k:=k) (by rw[H.out];exact hlt)
    obtain⟨y,hyk⟩:=Zd (xs:=ys) (k:=k) (by rw[H'.out];exact hlt);obtain⟨b,o,ra,rc,rfl,hbl,i0,i1⟩:=(HX.out.below hb).row hxk;obtain⟨b',o',ra',rc',rfl,hbl',j0,j1⟩:=(HY.out.below hb).row hyk;have hlt':=Zh hlt;have X:=Za hxk;clear hxk;have Y:=Za hyk;clear hyk;have I1:=Za i1;clear i1;have J1:=Za j1;clear j1;go_wp2_with fail;refine Zs Kr Kr ?_
    repeat (go_big_quiet_step ((go_at_call 39;exact Calls.bw (GH _ _ x y _ (I1.out.below (BW.prop _)) (J1.out.below (BW.prop _))))))
    refine wpQuiet_nil ?_;intro w1 hb1;have hb2:=hb.trans (hb1.mono hb.size);generalize hd:decide (x=y)=d;cases d
    ·have hq:=Kx X.out Y.out (of_decide_eq_false hd)
     clear hd;go_wp2_with fail;go_ret;exact⟨by simp[hq],hb2⟩
    ·have T':=Za (QJ T.out X.out Y.out (of_decide_eq_true hd))
     clear hd;go_wp2_with fail;go_roundw
     case rel=>exact⟨k+1,Om,Gn,T',hb2⟩
     case measure=>simp[intOf];omega
   ·have e2:xs=ys:=Jn T.out (by rw[H.out];omega) (by rw[H'.out];omega)
    subst e2;go_wp2_with fail;go_ret;exact⟨Sm,hb⟩
 ·have hc':((n:Int) != n')=true:=So
  have hq:xs≠ys:=fun h=>hc (by rw[← H.out,← H'.out,h]);go_enter Tryz.func13,Tryz.ntmps13;go_wp2_with fail;go_ret;exact⟨by simp[hq],Below.refl _ _⟩
theorem Kf (a:Option Addr) (n c:Nat) (l:Int) (w:World) (hn:n≤9223372036854775807) (h0:0≤l) (h1:l≤1048576) :
 Calls Tryz.prog 27 #[.slice a n c,.int .i64 l] w fun e w'=>e = .returned (.int .i64 (if l - n < 0 then -1 else l - n))∧w=w':=by
 by_cases h:l - n < 0
 ·rw[if_pos h]
  go_enter Tryz.func27,Tryz.ntmps27;go_wp2;go_ret;exact⟨rfl,rfl⟩
 ·rw[if_neg h]
  go_enter Tryz.func27,Tryz.ntmps27;go_wp2;go_ret;exact⟨rfl,rfl⟩
def Gl:List (List Ins)→Int→Int
 | [],l=>l
 | r :: p,l=>if l - r.length < 0 then -1 else Gl p (l - r.length)
theorem I8 (p:List (List Ins)) (l:Int) (h:0≤Gl p l):Gl p l≤l∧∀ r∈p,(r.length:Int)≤l:=by
 induction p generalizing l with
 | nil=>simp[Gl]
 | cons r p ih =>
  simp only[Gl]at h ⊢;split at h
  ·omega
  ·rename_i hl
   rw[if_neg hl];obtain⟨h1,h2⟩:=ih _ h;refine⟨Om,fun q hq => ?_⟩;rcases List.mem_cons.1 hq with rfl | hq
   ·omega
   ·have:=h2 q hq;omega
def Cl (p:List (List Ins)) (l:Int):Int:=if l - p.length < 0 then -1 else Gl p (l - p.length)
theorem UL (v:Value) (p:List (List Ins)) (l:Int) (w:World) (hp:Z5 w v p) (h0:0≤l) (h1:l≤1048576) :
 Calls Tryz.prog 8 #[v,.int .i64 l] w fun e w'=>e = .returned (.int .i64 (Cl p l))∧Below w.heap.size w w':=by
 obtain⟨a,c,rfl,hc1,hc2,hc3,hp⟩:=hp.open;have HP:=Za hp;clear hp;unfold Cl;generalize hn:p.length=n at *;have H:=Za hn;clear hn;by_cases h:l - n < 0
 ·rw[if_pos h]
  go_enter Tryz.func8,Tryz.ntmps8;go_wp2_with fail;go_ret;exact⟨rfl,Below.refl _ _⟩
 ·rw[if_neg h]
  go_enter Tryz.func8,Tryz.ntmps8;go_wp2_with fail
  go_loopw [1,5] (fun s i wr => ∃ (k:Nat) (q:Int),k≤n∧i = .int .i64 k∧s = .int .i64 q∧0≤q∧q≤1048576∧Hid (Gl (p.drop k) q=Gl p (l - n))∧Below w.heap.size w wr) (fun _ i _=>n - (intOf i).toNat)
  case atStart=>exact⟨0,_,Nat.zero_le _,rfl,rfl,Om,Om,Za Sm,Below.refl _ _⟩
  case round =>
   obtain⟨k,q,hk,rfl,rfl,hq0,hq1,T,hb⟩:=hrel;by_cases hlt:k < n
   ·obtain⟨x,hxk⟩:=Zd (xs:=p) (k:=k) (by rw[H.out];exact hlt)
    obtain⟨b,o,ra,rc,rfl,hbl,i0,i1⟩:=(HP.out.below hb).row hxk;obtain⟨_,_,_,_,hr2,_,_⟩:=i1.open;have hlt':=Zh hlt;have hdrop:p.drop k=x :: p.drop (k+1):=by
     rw[List.drop_eq_getElem_cons (by rw[H.out];exact hlt)]
     congr 1
     have:=(List.getElem?_eq_some_iff.1 hxk).2;exact this
    have D:=Za hdrop;clear hdrop hxk i1;generalize hxl:x.length=m at *;have XL:=Za hxl;clear hxl;have T2:Hid ((if q - m < 0 then -1 else Gl (p.drop (k+1)) (q - m))=Gl p (l - n)):=by
     have h:=T.out;rw[D.out,Gl,XL.out]at h;exact h
    by_cases hs:q - m < 0
    ·have T3:Hid (Gl p (l - n) = -1):=Za (by have h:=T2.out;rw[if_pos hs]at h;exact h.symm)
     go_wp2_with (go_at_call 27;refine(Kf _ _ _ _ _ Om Om Om).mono ?_;rw[if_pos hs];rintro e w1 ⟨rfl,rfl⟩);go_ret;rw[T3.out];exact⟨rfl,hb⟩
    ·have T3:Hid (Gl (p.drop (k+1)) (q - m)=Gl p (l - n)):=Za (by have h:=T2.out;rwa[if_neg hs]at h)
     go_wp2_with (go_at_call 27;refine(Kf _ _ _ _ _ Om Om Om).mono ?_;rw[if_neg hs];rintro e w1 ⟨rfl,rfl⟩);go_roundw
     case rel=>exact⟨k+1,q - m,Om,Gn,rfl,Om,Om,T3,hb⟩
     case measure=>simp[intOf];omega
   ·have T3:Hid (Gl p (l - n)=q):=Za (by have h:=T.out;rw[List.drop_of_length_le (by rw[H.out];omega),Gl]at h;exact h.symm)
    go_wp2_with fail;go_ret;rw[T3.out];exact⟨rfl,hb⟩
theorem Rt (v:Value) (xs:List Ins) (w:World) (hx:Z7 ZH w v xs) (hl:xs.length≤1048576) :
 Calls Tryz.prog 33 #[v] w (Xm ZH 44 w xs):=by
 obtain⟨a,c,rfl,hc1,hc2,hc3,hx⟩:=hx.open;have HX:=Za hx;clear hx;generalize hn:xs.length=n at *;have H:=Za hn;clear hn;go_enter Tryz.func33,Tryz.ntmps33;go_wp2_with (at_make;refine Y4 ZH 44 ⟨0,0,0,0⟩ Tryz.Y2 rfl Tryz.underlying42 n Dc Om rfl _ _ rfl rfl rfl ?_;intro w1 hown hgr);have hb1:=XN hgr
 go_loopw [4] (fun i wr => ∃ k:Nat,k≤n∧i = .int .i64 k∧CN wr w.heap.size (.slice (some ⟨w.heap.size,0,none⟩) n n) (xs.take k++List.replicate (n - k) ⟨0,0,0,0⟩)∧Below w.heap.size w wr) (fun i _=>n - (intOf i).toNat)
 case atStart=>exact⟨0,Nat.zero_le _,rfl,by simpa using hown,hb1⟩
 case round =>
  obtain⟨k,hk,rfl,ho,hb⟩:=hrel;by_cases hlt:k < n
  ·obtain⟨x,hxk⟩:=Zd (xs:=xs) (k:=k) (by rw[H.out];exact hlt)
   obtain⟨b,o,rfl,hbl,i0,i1,i2,i3⟩:=(HX.out.below hb).ins hxk;have hlt':=Zh hlt;have X:=Za hxk;clear hxk;go_wp2_with fail;go_wp2_with (go_at_call 66;refine(AX x _).mono ?_;rintro e w2 ⟨rfl,hb2⟩;obtain⟨hgl,f0,f1,f2,f3,hfr⟩:=(ho.below hb2).ins (k:=k) (by rw[← H.out];exact C0 xs _ (by rw[H.out];exact hlt)));have ho2:=(ho.below hb2).I3 (k:=k) (by rw[← H.out];exact C0 xs _ (by rw[H.out];exact hlt)) x;rw[← H.out,Rp xs _ X.out,H.out]at ho2;go_roundw
   case rel=>exact⟨k+1,Om,Gn,ho2,((((hb.trans (hb2.mono hb.size)).setCell (Nat.le_refl _) _).setCell (Nat.le_refl _) _).setCell (Nat.le_refl _) _).setCell (Nat.le_refl _) _⟩
   case measure=>simp[intOf];omega
  ·go_wp2_with fail
   go_ret;rw[← H.out,Re xs _ (by rw[H.out];omega),H.out]at ho;exact⟨_,rfl,ho,hb⟩
def Z8 (o:Int):Bool:=o==1||o==5
def ZF (o:Int):Bool:=o==2||o==3||o==5
def LR (x:Ins):Bool:=Z8 x.op
def IZ (x:Ins):Bool:=ZF x.op
def Kj (a lo hi:Int):Bool:=decide (lo≤a)&&decide (a≤hi)
def Zg (x:Ins):Bool:=
 if x.op=1∨x.op=3 then Kj x.loc 0 2&&Kj x.ZQ 0 2&&x.val==0
 else if x.op=2 then Kj x.loc 0 2&&x.ZQ==0&&Kj x.val 0 3
 else if x.op=4 then x.loc==0&&x.ZQ==0&&x.val==0
 else if x.op=5 then Kj x.loc 0 2&&Kj x.ZQ 0 2&&Kj x.val 0 3
 else false
theorem YX (x lo hi:Int) (w:World):Calls Tryz.prog 67 #[.int .i64 x,.int .i64 lo,.int .i64 hi] w fun e w'=>e = .returned (.bool (Kj x lo hi))∧w=w':=by
 unfold Kj;by_cases h:lo≤x
 ·go_enter Tryz.func67,Tryz.ntmps67
  go_wp2;go_ret;exact⟨by simp[h],rfl⟩
 ·have hd:decide (lo≤x)=false:=So
  go_enter Tryz.func67,Tryz.ntmps67;go_wp2;go_ret;exact⟨Sm,rfl⟩
theorem E3 (x hi:Int) (w:World):Calls Tryz.prog 106 #[.int .i64 x,.int .i64 hi] w fun e w'=>e = .returned (.bool (Kj x 0 hi))∧w=w':=by
 unfold Kj;by_cases h:0≤x
 ·go_enter Tryz.func106,Tryz.ntmps106
  go_wp2;go_ret;exact⟨by simp[h],rfl⟩
 ·have hd:decide (0≤x)=false:=So
  go_enter Tryz.func106,Tryz.ntmps106;go_wp2;go_ret;exact⟨Sm,rfl⟩
theorem D0 (x:Ins) (w:World):Calls Tryz.prog 96 #[x.v] w fun e w'=>e = .returned (.bool (Z8 x.op))∧Below w.heap.size w w':=by
 obtain⟨x0,x1,x2,x3⟩:=x;show Calls _ _ _ _ fun e w'=>e = .returned (.bool (Z8 x0))∧_;go_enter Tryz.func96,Tryz.ntmps96;go_wp2
 all_goals go_ret
 all_goals refine⟨?_,(Below.refl _ _).alloc (Nat.le_refl _) _⟩
 all_goals unfold Z8
 all_goals simp_all
theorem Cq (x:Ins) (w:World):Calls Tryz.prog 97 #[x.v] w fun e w'=>e = .returned (.bool (ZF x.op))∧Below w.heap.size w w':=by
 obtain⟨x0,x1,x2,x3⟩:=x;show Calls _ _ _ _ fun e w'=>e = .returned (.bool (ZF x0))∧_;go_enter Tryz.func97,Tryz.ntmps97;go_wp2
 all_goals go_ret
 all_goals refine⟨?_,(Below.refl _ _).alloc (Nat.le_refl _) _⟩
 all_goals unfold ZF
 all_goals simp_all
theorem A1 (x:Ins) (w:World):Calls Tryz.prog 108 #[x.v] w fun e w'=>e = .returned (.bool (Z8 x.op))∧Below w.heap.size w w':=by
 obtain⟨x0,x1,x2,x3⟩:=x;show Calls _ _ _ _ fun e w'=>e = .returned (.bool (Z8 x0))∧_;go_enter Tryz.func108,Tryz.ntmps108;go_wp2
 all_goals go_ret
 all_goals refine⟨?_,(Below.refl _ _).alloc (Nat.le_refl _) _⟩
 all_goals unfold Z8
 all_goals simp_all
theorem GP (x:Ins) (w:World):Calls Tryz.prog 107 #[x.v] w fun e w'=>e = .returned (.bool (ZF x.op))∧Below w.heap.size w w':=by
 obtain⟨x0,x1,x2,x3⟩:=x;show Calls _ _ _ _ fun e w'=>e = .returned (.bool (ZF x0))∧_;go_enter Tryz.func107,Tryz.ntmps107;go_wp2
 all_goals go_ret
 all_goals refine⟨?_,(Below.refl _ _).alloc (Nat.le_refl _) _⟩
 all_goals unfold ZF
 all_goals simp_all
theorem XJ (a b c d:Int) (w:World):Calls Tryz.prog 96 #[.agg #[.int .i64 a,.int .i64 b,.int .i64 c,.int .i64 d]] w fun e w'=>e = .returned (.bool (Z8 a))∧Below w.heap.size w w':=D0 ⟨a,b,c,d⟩ w
theorem Cr (a b c d:Int) (w:World):Calls Tryz.prog 97 #[.agg #[.int .i64 a,.int .i64 b,.int .i64 c,.int .i64 d]] w fun e w'=>e = .returned (.bool (ZF a))∧Below w.heap.size w w':=Cq ⟨a,b,c,d⟩ w
theorem Xx (a b c d:Int) (w:World):Calls Tryz.prog 108 #[.agg #[.int .i64 a,.int .i64 b,.int .i64 c,.int .i64 d]] w fun e w'=>e = .returned (.bool (Z8 a))∧Below w.heap.size w w':=A1 ⟨a,b,c,d⟩ w
theorem Xh (a b c d:Int) (w:World):Calls Tryz.prog 107 #[.agg #[.int .i64 a,.int .i64 b,.int .i64 c,.int .i64 d]] w fun e w'=>e = .returned (.bool (ZF a))∧Below w.heap.size w w':=GP ⟨a,b,c,d⟩ w
theorem Vi (x:Ins) (w:World):Calls Tryz.prog 89 #[x.v] w fun e w'=>e = .returned (.bool (Zg x))∧Below w.heap.size w w':=by
 obtain⟨x0,x1,x2,x3⟩:=x;go_enter Tryz.func89,Tryz.ntmps89;go_wp2_with (go_at_call 106;refine(E3 _ _ _).mono ?_;rintro e w1 ⟨rfl,rfl⟩)
 all_goals go_ret
 all_goals refine⟨?_,(Below.refl _ _).alloc (Nat.le_refl _) _⟩
 all_goals unfold Zg
 all_goals simp_all
theorem Vv (x:Ins) (w:World):Calls Tryz.prog 68 #[x.v] w fun e w'=>e = .returned (.bool (Zg x))∧Below w.heap.size w w':=by
 obtain⟨x0,x1,x2,x3⟩:=x;by_cases h1:x0=1
 ·subst h1
  go_enter Tryz.func68,Tryz.ntmps68;go_wp2_with fail
  go_region
  all_goals go_wp2_with (go_at_call 67;refine(YX _ _ _ _).mono ?_;rintro e w1 ⟨rfl,rfl⟩)
  all_goals go_ret
  all_goals refine⟨by unfold Zg;first | (simp_all;done) | (simp_all;decide),?_⟩
  all_goals (repeat first | exact Below.refl _ _ | refine Below.drew ?_ | refine Below.setCell ?_ (by first | (simp;done) | (simp;omega)) _ | refine Below.alloc ?_ (by first | (simp;done) | (simp;omega)) _)
 by_cases h3:x0=3
 ·subst h3
  go_enter Tryz.func68,Tryz.ntmps68;go_wp2_with fail
  go_region
  all_goals go_wp2_with (go_at_call 67;refine(YX _ _ _ _).mono ?_;rintro e w1 ⟨rfl,rfl⟩)
  all_goals go_ret
  all_goals refine⟨by unfold Zg;first | (simp_all;done) | (simp_all;decide),?_⟩
  all_goals (repeat first | exact Below.refl _ _ | refine Below.drew ?_ | refine Below.setCell ?_ (by first | (simp;done) | (simp;omega)) _ | refine Below.alloc ?_ (by first | (simp;done) | (simp;omega)) _)
 by_cases h2:x0=2
 ·subst h2
  go_enter Tryz.func68,Tryz.ntmps68;go_wp2_with fail
  go_region
  all_goals go_wp2_with (go_at_call 67;refine(YX _ _ _ _).mono ?_;rintro e w1 ⟨rfl,rfl⟩)
  all_goals go_ret
  all_goals refine⟨by unfold Zg;first | (simp_all;done) | (simp_all;decide),?_⟩
  all_goals (repeat first | exact Below.refl _ _ | refine Below.drew ?_ | refine Below.setCell ?_ (by first | (simp;done) | (simp;omega)) _ | refine Below.alloc ?_ (by first | (simp;done) | (simp;omega)) _)
 by_cases h4:x0=4
 ·subst h4
  go_enter Tryz.func68,Tryz.ntmps68;go_wp2_with (go_at_call 67;refine(YX _ _ _ _).mono ?_;rintro e w1 ⟨rfl,rfl⟩)
  all_goals go_ret
  all_goals refine⟨by unfold Zg;first | (simp_all;done) | (simp_all;decide),?_⟩
  all_goals (repeat first | exact Below.refl _ _ | refine Below.drew ?_ | refine Below.setCell ?_ (by first | (simp;done) | (simp;omega)) _ | refine Below.alloc ?_ (by first | (simp;done) | (simp;omega)) _)
 by_cases h5:x0=5
 ·subst h5
  go_enter Tryz.func68,Tryz.ntmps68;go_wp2_with (go_at_call 67;refine(YX _ _ _ _).mono ?_;rintro e w1 ⟨rfl,rfl⟩)
  all_goals go_ret
  all_goals refine⟨by unfold Zg;first | (simp_all;done) | (simp_all;decide),?_⟩
  all_goals (repeat first | exact Below.refl _ _ | refine Below.drew ?_ | refine Below.setCell ?_ (by first | (simp;done) | (simp;omega)) _ | refine Below.alloc ?_ (by first | (simp;done) | (simp;omega)) _)
 have g1:(x0==1)=false:=by simpa using h1
 have g2:(x0==2)=false:=by simpa using h2
 have g3:(x0==3)=false:=by simpa using h3
 have g4:(x0==4)=false:=by simpa using h4
 have g5:(x0==5)=false:=by simpa using h5
 go_enter Tryz.func68,Tryz.ntmps68;go_wp2_with fail;go_ret;refine⟨by unfold Zg;simp_all,?_⟩
 (repeat first | exact Below.refl _ _ | refine Below.drew ?_ | refine Below.setCell ?_ (by first | (simp;done) | (simp;omega)) _ | refine Below.alloc ?_ (by first | (simp;done) | (simp;omega)) _)
theorem UM (v:Value) (xs:List (List Ins)) (w:World) (hx:Z5 w v xs) (hl:xs.length≤1048576) (hl2:∀ r∈xs,r.length≤1048576) :
 Calls Tryz.prog 10 #[v] w (Gv ZH 42 44 w xs):=by
 obtain⟨a,c,rfl,hc1,hc2,hc3,hx⟩:=hx.open;have HX:=Za hx;clear hx;have HL2:=Za hl2;clear hl2;generalize hn:xs.length=n at *;have H:=Za hn;clear hn;go_enter Tryz.func10,Tryz.ntmps10;go_wp2_with (at_make;refine Y4 Zw 42 ⟨none,0,0⟩ Tryz.YT rfl Tryz.underlying28 n Dc Om rfl _ _ rfl rfl rfl ?_;intro w1 hown hgr);have hb1:=XN hgr
 go_loopw [4] (fun i wr => ∃ k:Nat,k≤n∧i = .int .i64 k∧Kl wr w.heap.size (.slice (some ⟨w.heap.size,0,none⟩) n n) (xs.take k++List.replicate (n - k) [])∧Below w.heap.size w wr) (fun i _=>n - (intOf i).toNat)
 case atStart=>exact⟨0,Nat.zero_le _,rfl,by simpa using ZG.made hown,hb1⟩
 case round =>
  obtain⟨k,hk,rfl,ho,hb⟩:=hrel;by_cases hlt:k < n
  ·obtain⟨x,hxk⟩:=Zd (xs:=xs) (k:=k) (by rw[H.out];exact hlt)
   obtain⟨b,o,ra,rc,rfl,hbl,i0,i1⟩:=(HX.out.below hb).row hxk;have hlt':=Zh hlt;have hxl:x.length≤1048576:=HL2.out x (List.mem_of_getElem? hxk);have X:=Za hxk;clear hxk;have I1:=Za i1;clear i1;go_wp2_with (go_at_call 33;refine(Rt _ x _ I1.out hxl).mono ?_;rintro e w2 ⟨u,rfl,hu,hb2⟩;obtain⟨s,rfl,-⟩:=hu.YL;obtain⟨hgl,⟨_,f0⟩,hfr⟩:=(ho.below hb2).cellAt (k:=k) (by rw[← H.out,QB _ _ (by rw[H.out];omega),H.out];exact hlt));have ho2:=ho.put hb2 hb.size (k:=k) (by rw[← H.out,QB _ _ (by rw[H.out];omega),H.out];exact hlt) hu;rw[← H.out,Rp xs _ X.out,H.out]at ho2;go_roundw
   case rel=>exact⟨k+1,Om,Gn,ho2,(hb.trans (hb2.mono hb.size)).setCell (Nat.le_refl _) _⟩
   case measure=>simp[intOf];omega
  ·go_wp2_with fail
   go_ret;rw[← H.out,Re xs _ (by rw[H.out];omega),H.out]at ho;exact⟨_,rfl,ho,hb⟩
end Go.Proofs.YtngekjpklkjnbaaGreat
namespace Go.Proofs.YtngekjpklkjnbaaGreat
def fR (loc:Int) (x:Ins):Bool:=x.loc==loc&&Z8 x.op
def fW (loc:Int) (x:Ins):Bool:=x.loc==loc&&ZF x.op
theorem Ie {loc:Int}{x:Ins}(h:x.loc=loc):fR loc x=Z8 x.op:=by simp[fR,h]
theorem IX {loc:Int}{x:Ins}(h:x.loc≠loc):fR loc x=false:=by simp[fR,h]
theorem Ig {loc:Int}{x:Ins}(h:x.loc=loc):fW loc x=ZF x.op:=by simp[fW,h]
theorem IY {loc:Int}{x:Ins}(h:x.loc≠loc):fW loc x=false:=by simp[fW,h]
def Y1 (f:Ins→Bool) (p:List (List Ins)):Nat:=p.flatten.countP f
theorem Y9 (f:Ins→Bool) {p:List (List Ins)}{i:Nat}{r:List Ins}(h:p[i]? = some r):Y1 f (p.take (i+1))=Y1 f (p.take i)+r.countP f:=by
 simp[Y1,List.take_add_one,h,List.countP_append]
theorem Y3 (f:Ins→Bool) {r:List Ins}{k:Nat}{x:Ins}(h:r[k]? = some x):(r.take (k+1)).countP f=(r.take k).countP f+if f x=true then 1 else 0:=by
 simp[List.take_add_one,h,List.countP_append,List.countP_cons]
theorem ZU (f:Ins→Bool) (p:List (List Ins)):Y1 f p≤p.flatten.length:=List.countP_le_length
theorem XB (p:List (List Ins)) (i:Nat):(p.take i).flatten.length≤p.flatten.length:=by
 have h:p.flatten=(p.take i).flatten++(p.drop i).flatten:=by rw[← List.flatten_append,List.take_append_drop]
 rw[h,List.length_append];omega
theorem Xw (f:Ins→Bool) (p:List (List Ins)) (i:Nat):Y1 f (p.take i)≤p.flatten.length:=Nat.le_trans (ZU f _) (XB p i)
theorem YJ {p:List (List Ins)}{i:Nat}{r:List Ins}(h:p[i]? = some r):(p.take i).flatten.length+r.length≤p.flatten.length:=by
 have h1:=XB p (i+1);simpa[List.take_add_one,h] using h1
def fact:Nat→Nat
 | 0=>1
 | n+1=>fact n * (n+1)
theorem JR (n:Nat):1≤fact n:=by
 induction n with
 | zero=>exact Nat.le_refl _
 | succ n ih=>exact Nat.le_trans ih (Nat.le_mul_of_pos_right _ (Nat.succ_pos _))
def pl (p:List (List Ins)) (loc:Nat):Nat:=(Y1 (fW loc) p+1) ^ Y1 (fR loc) p * fact (Y1 (fW loc) p)
def YB (p:List (List Ins)):Nat→Nat
 | 0=>1
 | l+1=>YB p l * pl p l
def YP (p:List (List Ins)):Nat:=YB p 3
def cap (n:Nat):Nat:=min n 3001
theorem GC (n:Nat):cap n≤3001:=Nat.min_le_right _ _
theorem Vl (q n:Nat) (h:1≤n):cap (cap q * n)=cap (q * n):=by
 unfold cap;by_cases hq:q≤3001
 ·rw[Nat.min_eq_left hq]
 ·have h1:3001≤3001 * n:=Nat.le_mul_of_pos_right _ h
  have h2:q≤q * n:=Nat.le_mul_of_pos_right _ h;rw[Nat.min_eq_right (show 3001≤q by omega),Nat.min_eq_right h1,Nat.min_eq_right Om]
theorem RZ {a q:Nat}(hc:cap a=cap q) (n:Nat) (h:1≤n):cap (a * n)=cap (q * n):=by
 rw[← Vl a n h,hc,Vl q n h]
theorem VF {a q:Nat}(hc:cap a=cap q) (ha:3000 < a) (n:Nat) (h:1≤n):cap a=cap (q * n):=by
 have h1:cap a=3001:=by unfold cap;omega
 have h2:3001≤q:=by rw[h1]at hc;unfold cap at hc;omega
 have h3:q≤q * n:=Nat.le_mul_of_pos_right _ h;rw[h1];unfold cap;omega
theorem EG (a n:Nat):1≤(a+1) ^ n:=Nat.pos_of_ne_zero Sm
theorem Et {s n:Nat}(h:s≤n):∃ m,1≤m∧fact n=fact s * m:=by
 induction n with
 | zero=>exact⟨1,Nat.le_refl _,by rw[show s=0 by omega,Nat.mul_one]⟩
 | succ n ih =>
  by_cases e:s=n+1
  ·exact⟨1,Nat.le_refl _,by rw[e,Nat.mul_one]⟩
  ·obtain⟨m,h1,h2⟩:=ih Om
   exact⟨m * (n+1),Nat.mul_pos h1 (Nat.succ_pos _),by rw[fact,h2,Nat.mul_assoc]⟩
theorem Rh {a t r:Nat}(h:t≤r):∃ m,1≤m∧(a+1) ^ r=(a+1) ^ t * m:=
 ⟨(a+1) ^ (r - t),EG _ _,by rw[← Nat.pow_add];congr 1;omega⟩
def Zq (x:Ins):Bool:=x.op != 4
def XF (r:List Ins):Bool:=r.all Zg&&decide (r.length≤7)
def ZS (p:List (List Ins)):Bool:=decide (p.length≤3)&&p.all XF&&decide (Y1 Zq p≤12)
def Zi (p:List (List Ins)):Bool:=ZS p&&decide (1≤p.length)&&decide (YP p≤3000)
theorem Ca {r:List Ins}{k:Nat}{x:Ins}(h:r[k]? = some x) (hx:Zg x=false):XF r=false:=by
 have hm:=List.mem_of_getElem? h;unfold XF;rw[Bool.and_eq_false_iff];left;rw[List.all_eq_false];exact⟨x,hm,by simp[hx]⟩
theorem Gx {p:List (List Ins)}{k:Nat}{r:List Ins}(h:p[k]? = some r) (hr:XF r=false):p.all XF=false:=by
 rw[List.all_eq_false];exact⟨r,List.mem_of_getElem? h,by simp[hr]⟩
theorem Xp {α:Type}{f:α→Bool}{r:List α}{k:Nat}{x:α}(h:(r.take k).all f=true) (hx:r[k]? = some x) (hf:f x=true):(r.take (k+1)).all f=true:=by
 rw[List.take_add_one,hx,List.all_append,h];simp[hf]
theorem Z4 {p:List (List Ins)}(h:Zi p=true):p.length≤3∧1≤p.length∧(∀ r∈p,r.length≤7∧∀ x∈r,Zg x=true)∧Y1 Zq p≤12∧YP p≤3000:=by
 unfold Zi ZS at h;simp only[Bool.and_eq_true,decide_eq_true_eq,List.all_eq_true]at h;obtain⟨⟨⟨⟨h1,h2⟩,h3⟩,h4⟩,h5⟩:=h;refine⟨h1,h4,fun r hr => ?_,h3,h5⟩;have:=h2 r hr;unfold XF at this;simp only[Bool.and_eq_true,decide_eq_true_eq,List.all_eq_true]at this;exact⟨this.2,this.1⟩
end Go.Proofs.YtngekjpklkjnbaaGreat
namespace Go.Proofs.YtngekjpklkjnbaaGreat
open Go.RowKit
theorem Gm (q:Nat) (m:Int) (b:Nat) (w:World) (hc:w.cell? ⟨b,0,none⟩=some (.int .i64 (q:Int))) (hf:w.frozen? ⟨b,0,none⟩=false) (hq:q≤3001) (h0:0≤m) (hn:m≤1048577) :
 Calls Tryz.prog 95 #[.int .i64 m,.pointer (some ⟨b,0,none⟩)] w fun e w'=>e = .returned (.tuple #[])∧w.setCell ⟨b,0,none⟩ (.int .i64 (cap (q * m.toNat):Nat))=w':=by
 obtain⟨n,rfl⟩:=Int.eq_ofNat_of_zero_le h0;rw[Int.toNat_natCast];have hn:n≤1048577:=Om;have hm:q * n≤3001 * 1048577:=Nat.mul_le_mul hq hn;have e1:((q * n:Nat):Int)=(q:Int) * n:=by simp
 have hm2:(q:Int) * n≤3146780577:=Om;have hm3:0≤(q:Int) * n:=Om;have e2:((cap (q * n):Nat):Int)=min ((q:Int) * n) 3001:=by unfold cap;omega
 rw[e2];have E1:=Za e1;clear e1;have E2:=Za e2;clear e2;clear hm;go_enter Tryz.func95,Tryz.ntmps95;go_wp2
 ·go_end0
  rw[show min ((q:Int) * n) 3001=3001 by omega];exact⟨rfl,rfl⟩
 ·go_end0
  rw[show min ((q:Int) * n) 3001=(q:Int) * n by omega];exact⟨rfl,rfl⟩
theorem Dk (v:Value) (p:List (List Ins)) (w:World) (hp:Z5 w v p) (hl:p.flatten.length≤1048576) (hpl:p.length≤1048576) :
 Calls Tryz.prog 69 #[v] w fun e w'=>e = .returned (.int .i64 (cap (YP p):Nat))∧Below w.heap.size w w':=by
 obtain⟨a,c,rfl,hc1,hc2,hc3,hp⟩:=hp.open;have HP:=Za hp;clear hp;have HL:=Za hl;clear hl;generalize hn:p.length=n at *;have H:=Za hn;clear hn;go_enter Tryz.func69,Tryz.ntmps69;go_wp2_with fail
 go_loopw [14] (fun i wr => ∃ k:Nat,k≤3∧i = .int .i64 k∧wr.cell? ⟨w.heap.size,0,none⟩=some (.int .i64 (cap (YB p k):Nat))∧wr.frozen? ⟨w.heap.size,0,none⟩=false∧Below w.heap.size w wr∧w.heap.size < wr.heap.size) (fun i _=>3 - (intOf i).toNat)
 case atStart=>exact⟨0,Om,rfl,by simp[go_sem,YB,cap],by simp[go_sem],((Below.refl _ _).alloc (Nat.le_refl _) _),Sm⟩
 case round =>
  obtain⟨k,hk,rfl,hcell,hfr,hb,hsz⟩:=hrel;by_cases hlt:k < 3
  ·obtain⟨wl,rfl⟩:∃ wl:World,wl=wr:=⟨_,rfl⟩
   have hlt':(k:Int) < 3:=Om;go_wp2_with fail
   go_loopw [6,7,19] (fun r wv i wr => ∃ j:Nat,j≤n∧i = .int .i64 j∧r = .int .i64 (Y1 (fR k) (p.take j):Nat)∧wv = .int .i64 (Y1 (fW k) (p.take j):Nat)∧Below wl.heap.size wl wr) (fun _ _ i _=>n - (intOf i).toNat)
   case atStart=>exact⟨0,Om,rfl,by simp[Y1],by simp[Y1],Below.refl _ _⟩
   case round =>
    obtain⟨j,hj,rfl,rfl,rfl,hb2⟩:=hrel;by_cases hlt2:j < n
    ·obtain⟨wm,rfl⟩:∃ wm:World,wm=wr:=⟨_,rfl⟩
     obtain⟨x,hxk⟩:=Zd (xs:=p) (k:=j) (by rw[H.out];exact hlt2);obtain⟨b,o,ra,rc,rfl,hbl,i0,i1⟩:=(HP.out.below (hb.trans (hb2.mono (Nat.le_of_lt hsz)))).row hxk;have hlt2':=Zh hlt2;obtain⟨_,_,_,_,hr2,_,_⟩:=i1.open;have hcR:=Y9 (fR k) hxk;have hcW:=Y9 (fW k) hxk;have hbR:=Nat.le_trans (Xw (fR k) p j) HL.out;have hbW:=Nat.le_trans (Xw (fW k) p j) HL.out;have hxl:=Nat.le_trans (YJ hxk) HL.out;have CR:=Za hcR;have CW:=Za hcW;have I1:=Za i1;have X:=Za hxk
     clear hcR hcW i1 hxk;generalize hR:Y1 (fR k) (p.take j)=R at *;generalize hW:Y1 (fW k) (p.take j)=W at *;clear hR hW;go_wp2_with fail
     go_loopw [6,7,25] (fun r wv i wr => ∃ t:Nat,t≤x.length∧i = .int .i64 t∧r = .int .i64 (R+(x.take t).countP (fR k):Nat)∧wv = .int .i64 (W+(x.take t).countP (fW k):Nat)∧Below wm.heap.size wm wr) (fun _ _ i _=>x.length - (intOf i).toNat)
     case atStart=>exact⟨0,Om,rfl,Sm,Sm,Below.refl _ _⟩
     case round =>
      obtain⟨t,ht,rfl,rfl,rfl,hb3⟩:=hrel;have hwm:w.heap.size≤wm.heap.size:=by have:=hb2.size;omega
      by_cases hlt3:t < x.length
      ·obtain⟨y,hyk⟩:=Zd (xs:=x) (k:=t) hlt3
       obtain⟨b',o',rfl,hbl',j0,j1,j2,j3⟩:=(I1.out.below hb3).ins hyk;have hlt3':=Zh hlt3;have CR2:=Za (Y3 (fR k) hyk);have CW2:=Za (Y3 (fW k) hyk);have hbR2:(x.take t).countP (fR k)≤1048576:=Nat.le_trans List.countP_le_length So;have hbW2:(x.take t).countP (fW k)≤1048576:=Nat.le_trans List.countP_le_length So;have Y:=Za hyk;clear hyk;generalize hR2:(x.take t).countP (fR k)=R2 at *;generalize hW2:(x.take t).countP (fW k)=W2 at *;clear hR2 hW2;by_cases hloc:y.loc=k
       ·have CR3:Hid ((x.take (t+1)).countP (fR k)=R2+if Z8 y.op=true then 1 else 0):=by have h:=CR2.out;rwa[Ie hloc]at h
        have CW3:Hid ((x.take (t+1)).countP (fW k)=W2+if ZF y.op=true then 1 else 0):=by have h:=CW2.out;rwa[Ig hloc]at h
        clear CR2 CW2;rw[hloc]at j1;clear hloc;have hkk:((k:Int)==k)=true:=by simp
        generalize hro:Z8 y.op=ro at *;generalize hwo:ZF y.op=wo at *;have RO:=Za hro;have WO:=Za hwo;clear hro hwo
        cases ro <;> cases wo
        all_goals
         go_wp2_with (first | (go_at_call 96;(with_reducible refine(XJ _ _ _ _ _).mono ?_);rw[RO.out];rintro e w3 ⟨rfl,hb4⟩;obtain⟨hc4,hf4⟩:=KB hb4) | (go_at_call 97;(with_reducible refine(Cr _ _ _ _ _).mono ?_);rw[WO.out];rintro e w4 ⟨rfl,hb5⟩;obtain⟨hc5,hf5⟩:=KB hb5));go_roundw
         case rel=>exact⟨t+1,Om,Gn,by rw[CR3.out];simp;try omega,by rw[CW3.out];simp;try omega,(((hb3.alloc hb3.size _).trans (hb4.mono (by have:=hb3.size;simp;omega))).trans (hb5.mono (by have:=hb3.size;have:=hb4.size;simp at this;omega)))⟩
         case measure=>simp[intOf];omega
       ·have CR3:Hid ((x.take (t+1)).countP (fR k)=R2):=Za (by have h:=CR2.out;rw[IX hloc]at h;simpa using h)
        have CW3:Hid ((x.take (t+1)).countP (fW k)=W2):=Za (by have h:=CW2.out;rw[IY hloc]at h;simpa using h);clear CR2 CW2;have hkk:(y.loc==(k:Int))=false:=by simpa using hloc
        clear hloc;go_wp2_with fail;go_roundw
        case rel=>exact⟨t+1,Om,Gn,by rw[CR3.out],by rw[CW3.out],hb3.alloc hb3.size _⟩
        case measure=>simp[intOf];omega
      ·have e:t=x.length:=Om
       have CR4:Hid (Y1 (fR k) (p.take (j+1))=R+(x.take t).countP (fR k)):=by have h:=CR.out;rwa[e,List.take_length]
       have CW4:Hid (Y1 (fW k) (p.take (j+1))=W+(x.take t).countP (fW k)):=by have h:=CW.out;rwa[e,List.take_length]
       have hbR2:(x.take t).countP (fR k)≤1048576:=Nat.le_trans List.countP_le_length So;have hbW2:(x.take t).countP (fW k)≤1048576:=Nat.le_trans List.countP_le_length So;generalize hR2:(x.take t).countP (fR k)=R2 at *;generalize hW2:(x.take t).countP (fW k)=W2 at *;clear hR2 hW2 e;go_wp2_with fail;go_roundw
       case rel=>exact⟨j+1,Om,Gn,by rw[CR4.out],by rw[CW4.out],hb2.trans (hb3.mono hb2.size)⟩
       case measure=>simp[intOf];omega
    ·have e:j=n:=Om
     have hpt:p.take j=p:=List.take_of_length_le (by rw[H.out];omega);have hbR:=Nat.le_trans (ZU (fR k) p) HL.out;have hbW:=Nat.le_trans (ZU (fW k) p) HL.out;have PS:Hid (YB p (k+1)=YB p k * ((Y1 (fW k) p+1) ^ Y1 (fR k) p * fact (Y1 (fW k) p))):=Za rfl;rw[hpt];clear hpt e;generalize hR:Y1 (fR k) p=R at *;generalize hW:Y1 (fW k) p=W at *;generalize hQ:YB p k=Q at *;clear hR hW hQ;have hb:=hb.trans (hb2.mono (Nat.le_of_lt hsz));have hcell:wr.cell? ⟨w.heap.size,0,none⟩=some (.int .i64 (cap Q:Nat)):=(hb2.cell (p:=⟨w.heap.size,0,none⟩) hsz).trans hcell;have hfr:wr.frozen? ⟨w.heap.size,0,none⟩=false:=(hb2.frozen (p:=⟨w.heap.size,0,none⟩) hsz).trans hfr;have hsz:w.heap.size < wr.heap.size:=by have:=hb2.size;omega
     clear hb2;obtain⟨wn,rfl⟩:∃ wn:World,wn=wr:=⟨_,rfl⟩
     go_wp2_with fail
     go_loopw [52] (fun i wr => ∃ t:Nat,t≤R∧i = .int .i64 t∧wr.cell? ⟨w.heap.size,0,none⟩=some (.int .i64 (cap (Q * (W+1) ^ t):Nat))∧wr.frozen? ⟨w.heap.size,0,none⟩=false∧Below w.heap.size w wr∧w.heap.size < wr.heap.size) (fun i _=>R - (intOf i).toNat)
     case atStart=>exact⟨0,Om,rfl,by simpa using hcell,hfr,hb,hsz⟩
     case round =>
      obtain⟨t,ht,rfl,hcell2,hfr2,hb2,hsz2⟩:=hrel;by_cases hlt3:t < R
      ·have E:Hid (cap (cap (Q * (W+1) ^ t) * (W+1))=cap (Q * (W+1) ^ (t+1))):=by
        apply Za;rw[Vl _ _ Om,Nat.pow_succ,Nat.mul_assoc]
       have hcl:=GC (Q * (W+1) ^ t);generalize cap (Q * (W+1) ^ t)=C at *;go_wp2_with (go_at_call 95;(with_reducible refine(Gm C _ _ _ hcell2 hfr2 hcl Om Om).mono ?_);rintro e w3 ⟨rfl,rfl⟩);go_roundw
       case rel=>exact⟨t+1,Om,Gn,by rw[← E.out];exact World.cell?_setCell_same _ _ _ hcell2,by simpa using hfr2,hb2.setCell (Nat.le_refl _) _,by simpa using hsz2⟩
       case measure=>simp[intOf];omega
      ·have e:t=R:=Om
       subst e;generalize hQ:Q * (W+1) ^ t=Q2 at *;have HQ:=Za hQ;clear hQ;clear hcell hfr hb hsz;obtain⟨wo,rfl⟩:∃ wo:World,wo=wr:=⟨_,rfl⟩
       go_wp2_with fail
       go_loopw [12,60] (fun _ i wr => ∃ s:Nat,s≤W∧i = .int .i64 s∧wr.cell? ⟨w.heap.size,0,none⟩=some (.int .i64 (cap (Q2 * fact s):Nat))∧wr.frozen? ⟨w.heap.size,0,none⟩=false∧Below w.heap.size w wr∧w.heap.size < wr.heap.size) (fun _ i _=>W - (intOf i).toNat)
       case atStart=>exact⟨0,Om,rfl,by simpa[fact] using hcell2,hfr2,hb2,hsz2⟩
       case round =>
        obtain⟨s,hs,rfl,hcell,hfr,hb,hsz⟩:=hrel;by_cases hlt4:s < W
        ·have E:Hid (cap (cap (Q2 * fact s) * (s+1))=cap (Q2 * fact (s+1))):=by
          apply Za;rw[Vl _ _ Om,fact,Nat.mul_assoc]
         have hcl:=GC (Q2 * fact s);generalize cap (Q2 * fact s)=C at *;clear hcell2 hfr2 hb2 hsz2;go_wp2_with (go_at_call 95;(with_reducible refine(Gm C _ _ _ hcell hfr hcl Om Om).mono ?_);rintro e w3 ⟨rfl,rfl⟩);go_roundw
         case rel=>exact⟨s+1,Om,Gn,by rw[← E.out];exact World.cell?_setCell_same _ _ _ hcell,by simpa using hfr,hb.setCell (Nat.le_refl _) _,by simpa using hsz⟩
         case measure=>simp[intOf];omega
        ·have e:s=W:=Om
         subst e;have PS2:Hid (YB p (k+1)=Q2 * fact s):=Za (by rw[PS.out,← HQ.out,Nat.mul_assoc]);clear hcell2 hfr2 hb2 hsz2;go_wp2_with fail;go_roundw
         case rel=>exact⟨k+1,Om,Gn,by rw[PS2.out];exact hcell,hfr,hb,hsz⟩
         case measure=>simp[intOf];omega
  ·have e:k=3:=Om
   subst e;go_wp2_with fail;go_ret;exact⟨rfl,hb⟩
def Fw (writes:Bool) (loc:Int) (x:Ins):Bool:=x.loc==loc&&(if writes=true then ZF x.op else Z8 x.op)
theorem FF {b:Bool}{loc:Int}{x:Ins}(h:x.loc=loc):Fw b loc x=(if b=true then ZF x.op else Z8 x.op):=by simp[Fw,h]
theorem Ic {b:Bool}{loc:Int}{x:Ins}(h:x.loc≠loc):Fw b loc x=false:=by simp[Fw,h]
theorem Qe (v:Value) (p:List (List Ins)) (loc:Int) (wr?:Bool) (w:World) (hp:Z5 w v p) (hl:p.flatten.length≤1048576) (hpl:p.length≤1048576) :
 Calls Tryz.prog 90 #[v,.int .i64 loc,.bool wr?] w fun e w'=>e = .returned (.int .i64 (Y1 (Fw wr? loc) p:Nat))∧Below w.heap.size w w':=by
 obtain⟨a,c,rfl,hc1,hc2,hc3,hp⟩:=hp.open;have HP:=Za hp;clear hp;have HL:=Za hl;clear hl;generalize hn:p.length=n at *;have H:=Za hn;clear hn;generalize hF:Fw wr? loc=F at *;have HF:=Za hF;clear hF;go_enter Tryz.func90,Tryz.ntmps90;go_wp2_with fail
 go_loopw [7,8] (fun r i wr => ∃ j:Nat,j≤n∧i = .int .i64 j∧r = .int .i64 (Y1 F (p.take j):Nat)∧Below w.heap.size w wr) (fun _ i _=>n - (intOf i).toNat)
 case atStart=>exact⟨0,Om,rfl,by simp[Y1],Below.refl _ _⟩
 case round =>
  obtain⟨j,hj,rfl,rfl,hb2⟩:=hrel;by_cases hlt2:j < n
  ·obtain⟨wm,rfl⟩:∃ wm:World,wm=wr:=⟨_,rfl⟩
   obtain⟨x,hxk⟩:=Zd (xs:=p) (k:=j) (by rw[H.out];exact hlt2);obtain⟨b,o,ra,rc,rfl,hbl,i0,i1⟩:=(HP.out.below hb2).row hxk;have hlt2':=Zh hlt2;obtain⟨_,_,_,_,hr2,_,_⟩:=i1.open;have CR:=Za (Y9 F hxk);have hbR:=Nat.le_trans (Xw F p j) HL.out;have hxl:=Nat.le_trans (YJ hxk) HL.out;have I1:=Za i1;have X:=Za hxk
   clear i1 hxk;generalize hR:Y1 F (p.take j)=R at *;clear hR;go_wp2_with fail
   go_loopw [7,9] (fun r i wr => ∃ t:Nat,t≤x.length∧i = .int .i64 t∧r = .int .i64 (R+(x.take t).countP F:Nat)∧Below wm.heap.size wm wr) (fun _ i _=>x.length - (intOf i).toNat)
   case atStart=>exact⟨0,Om,rfl,Sm,Below.refl _ _⟩
   case round =>
    obtain⟨t,ht,rfl,rfl,hb3⟩:=hrel;have hbR2:(x.take t).countP F≤1048576:=Nat.le_trans List.countP_le_length So;have i0':wr.cell? ⟨b,o+j,none⟩=some (.slice ra x.length rc):=(hb3.cell (p:=⟨b,o+j,none⟩) hbl).trans i0;by_cases hlt3:t < x.length
    ·obtain⟨y,hyk⟩:=Zd (xs:=x) (k:=t) hlt3
     obtain⟨b',o',rfl,hbl',j0,j1,j2,j3⟩:=(I1.out.below hb3).ins hyk;have hlt3':=Zh hlt3;have CR2:=Za (Y3 F hyk);have Y:=Za hyk;clear hyk;generalize hR2:(x.take t).countP F=R2 at *;clear hR2;by_cases hloc:y.loc=loc
     ·have CR3:Hid ((x.take (t+1)).countP F=R2+if (if wr? = true then ZF y.op else Z8 y.op)=true then 1 else 0):=by have h:=CR2.out;rwa[← HF.out,FF hloc,HF.out]at h
      clear CR2;rw[hloc]at j1;clear hloc HF;have hkk:(loc==loc)=true:=by simp
      generalize hro:Z8 y.op=ro at *;generalize hwo:ZF y.op=wo at *;have RO:=Za hro;have WO:=Za hwo;clear hro hwo
      cases wr?
      ·cases ro
       all_goals
        go_wp2_with (go_at_call 108;(with_reducible refine(Xx _ _ _ _ _).mono ?_);rw[RO.out];rintro e w3 ⟨rfl,hb4⟩);go_roundw
        case rel=>exact⟨t+1,Om,Gn,by rw[CR3.out];simp;try omega,(hb3.alloc hb3.size _).trans (hb4.mono (by have:=hb3.size;simp;omega))⟩
        case measure=>simp[intOf];omega
      ·cases wo
       all_goals
        go_wp2_with (go_at_call 107;(with_reducible refine(Xh _ _ _ _ _).mono ?_);rw[WO.out];rintro e w3 ⟨rfl,hb4⟩);go_roundw
        case rel=>exact⟨t+1,Om,Gn,by rw[CR3.out];simp;try omega,(hb3.alloc hb3.size _).trans (hb4.mono (by have:=hb3.size;simp;omega))⟩
        case measure=>simp[intOf];omega
     ·have CR3:Hid ((x.take (t+1)).countP F=R2):=Za (by have h:=CR2.out;rw[← HF.out,Ic hloc,HF.out]at h;simpa using h)
      clear CR2;have hkk:(y.loc==loc)=false:=by simpa using hloc
      clear hloc;go_wp2_with fail;go_roundw
      case rel=>exact⟨t+1,Om,Gn,by rw[CR3.out],hb3.alloc hb3.size _⟩
      case measure=>simp[intOf];omega
    ·have e:t=x.length:=Om
     have CR4:Hid (Y1 F (p.take (j+1))=R+(x.take t).countP F):=by have h:=CR.out;rwa[e,List.take_length]
     generalize hR2:(x.take t).countP F=R2 at *;clear hR2 e;go_wp2_with fail;go_roundw
     case rel=>exact⟨j+1,Om,Gn,by rw[CR4.out],hb2.trans (hb3.mono hb2.size)⟩
     case measure=>simp[intOf];omega
  ·have e:j=n:=Om
   have hpt:p.take j=p:=List.take_of_length_le (by rw[H.out];omega);rw[hpt];clear hpt;go_wp2_with fail;go_ret;exact⟨rfl,hb2⟩
theorem Ai (loc:Int):Fw true loc=fW loc:=by funext x;simp[Fw,fW]
theorem UZ (loc:Int):Fw false loc=fR loc:=by funext x;simp[Fw,fR]
theorem Ax (v:Value) (p:List (List Ins)) (w:World) (hp:Z5 w v p) (hl:p.flatten.length≤1048576) (hpl:p.length≤1048576) :
 Calls Tryz.prog 60 #[v,.int .i64 3000] w fun e w'=>e = .returned (.int .i64 (cap (YP p):Nat))∧Below w.heap.size w w':=by
 have HP:=Za hp;clear hp;have HL:=Za hl;clear hl;have hPP:YB p 3=YP p:=rfl;have PP:=Za hPP;clear hPP;go_enter Tryz.func60,Tryz.ntmps60;go_wp2_with fail
 go_loopw [5,6] (fun q i wr => ∃ k N:Nat,k≤3∧i = .int .i64 k∧q = .int .i64 N∧Hid (cap N=cap (YB p k))∧N≤3145731000∧Below w.heap.size w wr) (fun _ i _=>3 - (intOf i).toNat)
 case atStart=>exact⟨0,1,Om,rfl,rfl,Za rfl,Om,Below.refl _ _⟩
 case round =>
  obtain⟨k,N,hk,rfl,rfl,hN,hNb,hb⟩:=hrel;by_cases hlt:k < 3
  ·have hlt':(k:Int)≤2:=Om
   have hbR:=Nat.le_trans (ZU (fR k) p) HL.out;have hbW:=Nat.le_trans (ZU (fW k) p) HL.out;have PS:Hid (YB p (k+1)=YB p k * ((Y1 (fW k) p+1) ^ Y1 (fR k) p * fact (Y1 (fW k) p))):=Za rfl;have C1:∀ w',Z5 w' v p→Calls Tryz.prog 90 #[v,.int .i64 (k:Int),.bool true] w' fun e w2=>e = .returned (.int .i64 (Y1 (fW k) p:Nat))∧Below w'.heap.size w' w2:=fun w' h=>by
    have:=Qe v p k true w' h HL.out hpl;rwa[Ai]at this
   have C2:∀ w',Z5 w' v p→Calls Tryz.prog 90 #[v,.int .i64 (k:Int),.bool false] w' fun e w2=>e = .returned (.int .i64 (Y1 (fR k) p:Nat))∧Below w'.heap.size w' w2:=fun w' h=>by
    have:=Qe v p k false w' h HL.out hpl;rwa[UZ]at this
   generalize hR:Y1 (fR k) p=R at *;generalize hW:Y1 (fW k) p=W at *;generalize hQ:YB p k=Q at *;have D1:=Za C1;have D2:=Za C2
   clear hR hW hQ C1 C2;go_wp2_with (go_at_call 90;(with_reducible refine(D1.out _ (HP.out.below hb)).mono ?_);rintro e w1 ⟨rfl,hb1⟩);have hb:=hb.trans (hb1.mono hb.size);clear hb1
   go_loopw [5,8] (fun q i wr => ∃ t M:Nat,t≤R∧i = .int .i64 t∧q = .int .i64 M∧Hid (cap M=cap (Q * (W+1) ^ t))∧M≤3145731000∧Below w.heap.size w wr) (fun _ i _=>R - (intOf i).toNat)
   case atStart=>exact⟨0,N,Om,rfl,rfl,Za (by simpa using hN.out),hNb,hb⟩
   case round =>
    clear hb hN hNb;obtain⟨t,M,ht,rfl,rfl,hM,hMb,hb⟩:=hrel;by_cases hgo:t < R∧M≤3000
    ·obtain⟨hlt3,hM3⟩:=hgo
     have hlt3':=Zh hlt3;have hM3':(M:Int)≤3000:=Om;have hmul:M * (W+1)≤3000 * 1048577:=Nat.mul_le_mul hM3 Om;have e1:((M * (W+1):Nat):Int)=(M:Int) * (W+1):=by simp
     have hmul2:(M:Int) * (W+1)≤3145731000:=Om;have hmul3:0≤(M:Int) * (W+1):=Om;have E:Hid (cap (M * (W+1))=cap (Q * (W+1) ^ (t+1))):=Za (by rw[RZ hM.out _ Om,Nat.pow_succ,Nat.mul_assoc]);have E1:=Za e1;clear e1;go_wp2_with (go_at_call 90;(with_reducible refine(D2.out _ (HP.out.below hb)).mono ?_);rintro e w1 ⟨rfl,hb1⟩);go_roundw
     case rel=>exact⟨t+1,M * (W+1),Om,Gn,by rw[E1.out],E,Om,hb.trans (hb1.mono hb.size)⟩
     case measure=>simp[intOf];omega
    ·have hM2:Hid (cap M=cap (Q * (W+1) ^ R)):=Za (by
      by_cases h3:3000 < M
      ·obtain⟨m,h1,h2⟩:=Rh (a:=W) ht
       rw[h2,← Nat.mul_assoc];exact VF hM.out h3 m h1
      ·rw[show R=t by omega];exact hM.out)
     have PS2:Hid (YB p (k+1)=(Q * (W+1) ^ R) * fact W):=Za (by rw[PS.out,Nat.mul_assoc]);by_cases hlt3:t < R
     all_goals
      have hM3:t < R→3000 < (M:Int):=fun h=>by omega
      have HM3:=Za hM3;clear hM3
      try (have hM4:3000 < (M:Int):=HM3.out hlt3)
      go_wp2_with (go_at_call 90;(with_reducible refine(D2.out _ (HP.out.below hb)).mono ?_);rintro e w1 ⟨rfl,hb1⟩);have hb:=hb.trans (hb1.mono hb.size);clear hb1;generalize hQ2:Q * (W+1) ^ R=Q2 at *;clear hQ2
      go_loopw [5,9] (fun q i wr => ∃ s L:Nat,1≤s∧s≤W+1∧i = .int .i64 (s+1)∧q = .int .i64 L∧Hid (cap L=cap (Q2 * fact s))∧L≤3145731000∧Hid (s≤W∨s=1)∧Below w.heap.size w wr) (fun _ i _=>W+1 - (intOf i).toNat)
      case atStart=>exact⟨1,M,Om,Om,rfl,rfl,Za (by simpa[fact] using hM2.out),hMb,Za (.inr rfl),hb⟩
      case round =>
       clear hb;obtain⟨s,L,hs1,hs2,rfl,rfl,hL,hLb,hsW,hb⟩:=hrel;by_cases hgo2:s+1≤W∧L≤3000
       ·obtain⟨hlt5,hL3⟩:=hgo2
        have hlt5':(s:Int)+1≤W:=Om;have hL3':(L:Int)≤3000:=Om;have hmul:L * (s+1)≤3000 * 1048577:=Nat.mul_le_mul hL3 Om;have e1:((L * (s+1):Nat):Int)=(L:Int) * (s+1):=by simp
        have hmul2:(L:Int) * (s+1)≤3145731000:=Om;have hmul3:0≤(L:Int) * (s+1):=Om;have E:Hid (cap (L * (s+1))=cap (Q2 * fact (s+1))):=Za (by rw[RZ hL.out _ Om,fact,Nat.mul_assoc]);have E1:=Za e1;clear e1;go_wp2_with fail;go_roundw
        case rel=>exact⟨s+1,L * (s+1),Om,Om,Gn,by rw[E1.out],E,Om,Za (.inl hlt5),hb⟩
        case measure=>simp[intOf];omega
       ·have hL2:Hid (cap L=cap (YB p (k+1))):=Za (by
         rw[PS2.out];by_cases h3:3000 < L
         ·rcases hsW.out with h | h
          ·obtain⟨m,h1,h2⟩:=Et h
           rw[h2,← Nat.mul_assoc];exact VF hL.out h3 m h1
          ·have hl:=hL.out
           rw[h,show fact 1=1 from rfl,Nat.mul_one]at hl;exact VF hl h3 _ (JR W)
         ·by_cases hs:s=W
          ·rw[← hs];exact hL.out
          ·rcases hsW.out with h | h
           ·omega
           ·have h0:W=0:=Om
            have hl:=hL.out;rw[h]at hl;rw[h0];exact hl)
        by_cases hlt5:s+1≤W
        all_goals
         have hlt5':s+1≤W→3000 < (L:Int):=fun h=>by omega
         have HL3:=Za hlt5';clear hlt5'
         try (have hL4:3000 < (L:Int):=HL3.out hlt5)
         go_wp2_with fail;go_roundw
         case rel=>exact⟨k+1,L,Om,Gn,rfl,hL2,hLb,hb⟩
         case measure=>simp[intOf];omega
  ·have e:k=3:=Om
   subst e;have hN2:Hid (cap N=cap (YP p)):=Za (by rw[hN.out,PP.out]);by_cases h3:3000 < N
   ·have E:Hid (((cap (YP p):Nat):Int)=3001):=Za (by rw[← hN2.out];unfold cap;omega)
    have h3':(3000:Int) < N:=Om;go_wp2_with fail;go_ret;rw[E.out];exact⟨rfl,hb⟩
   ·have E:Hid (((cap (YP p):Nat):Int)=N):=Za (by rw[← hN2.out];unfold cap;omega)
    have h3':(N:Int)≤3000:=Om;go_wp2_with fail;go_ret;rw[E.out];exact⟨rfl,hb⟩
def Zr:El Int:=⟨1,Dc,fun x=>[.int .u8 x],fun _=>rfl,fun x u h=>by simp at h;subst h;rfl⟩
theorem Z7.byte {w:World}{a:Option Addr}{n c:Nat}{xs:List Int}(h:Z7 Zr w (.slice a n c) xs) {k:Nat}{x:Int}(hx:xs[k]? = some x) :
 ∃ b o,a=some ⟨b,o,none⟩∧b < w.heap.size∧w.cell? ⟨b,o+k,none⟩=some (.int .u8 x):=by
 obtain⟨a',c',hv,_,_,h⟩:=h;simp only[Value.slice.injEq]at hv;obtain⟨rfl,rfl,rfl⟩:=hv;obtain⟨b,o,rfl,h'⟩:=h k x hx;have:=h' 0 _ rfl;simp only[Zr,Nat.mul_one,Nat.add_zero]at this;exact⟨b,o,rfl,Zb this,this⟩
structure Rd (w:World) (b:Nat) (a:Option Addr) (c:Nat) (xs:List Int) (p:Int):Prop where
 lt:b < w.heap.size
 c0:w.cell? ⟨b,0,none⟩=some (.slice a xs.length c)
 c1:w.cell? ⟨b,1,none⟩=some (.int .i64 p)
 f1:w.frozen? ⟨b,1,none⟩=false
 rep:Z7 Zr w (.slice a xs.length c) xs
 IF:∀ g o,xs≠[]→a=some ⟨g,o,none⟩→g < b
 IM:∀ x∈xs,0≤x∧x≤255
 p0:0≤p
theorem Rd.keep {w w':World}{b:Nat}{a:Option Addr}{c:Nat}{xs:List Int}{p:Int}(h:Rd w b a c xs p) {B:Nat}(hb:Below B w w') (hB:b < B):Rd w' b a c xs p:=by
 have e:∀ g o,g < B→w'.cell? ⟨g,o,none⟩=w.cell? ⟨g,o,none⟩:=fun g o hg=>hb.cell (p:=⟨g,o,none⟩) hg;refine⟨Nat.lt_of_lt_of_le h.lt hb.size,(e b 0 hB).trans h.c0,(e b 1 hB).trans h.c1,(hb.frozen (p:=⟨b,1,none⟩) hB).trans h.f1,?_,h.IF,h.IM,h.p0⟩;obtain⟨a',c',hv,h1,h2,h3⟩:=h.rep;refine⟨a',c',hv,h1,h2,fun i x hx => ?_⟩;obtain⟨g,o,rfl,hi⟩:=h3 i x hx;refine⟨g,o,rfl,fun j u hu => ?_⟩;rw[← hi j u hu];refine e g _ ?_;simp only[Value.slice.injEq]at hv;have:=h.IF g o (by intro e;subst e;simp at hx) hv.1;omega
theorem cell_far {w:World}{b j g o:Nat}{v:Value}(hg:g≠b):(w.setCell ⟨b,j,none⟩ v).cell? ⟨g,o,none⟩=w.cell? ⟨g,o,none⟩:=by
 unfold World.cell?;rw[heap_setCell_other w ⟨b,j,none⟩ g v (fun e=>hg (by simpa using e))]
theorem Rd.step {w:World}{b:Nat}{a:Option Addr}{c:Nat}{xs:List Int}{p:Int}(h:Rd w b a c xs p) (q:Int) (hq:0≤q):Rd (w.setCell ⟨b,1,none⟩ (.int .i64 q)) b a c xs q:=by
 have h0:=h.c0;have h1:=h.c1;have h2:=h.f1
 refine⟨by simpa using h.lt,by simp[go_sem,h0],by simp[go_sem,h1],by simp[go_sem,h2],?_,h.IF,h.IM,hq⟩;obtain⟨a',c',hv,h3,h4,h5⟩:=h.rep;refine⟨a',c',hv,h3,h4,fun i x hx => ?_⟩;obtain⟨g,o,rfl,hi⟩:=h5 i x hx;refine⟨g,o,rfl,fun j u hu => ?_⟩;simp only[Value.slice.injEq]at hv;have:=h.IF g o (by intro e;subst e;simp at hx) hv.1;rw[cell_far Om];exact hi j u hu
def QL (w:World) (b:Nat) (a:Option Addr) (c:Nat) (xs:List Int) (p K:Int) (Q:Value→World→Prop) (e:Ending) (w':World):Prop:=
 ∃ (v:Value) (p':Int),e = .returned v∧Q v w'∧p'≤p+K∧Rd w' b a c xs p'∧Outside b (b+1) w w'
theorem Tryz.Yb:(Tryz.prog.info? 3).map (fun i=>(i.zero,i.size,i.bytes))=some (some (.int .i64 0),1,8):=Kr
theorem ZR {w w':World}{b:Nat}(h:w'.heap[b]? = w.heap[b]?) (o:Nat):w'.cell? ⟨b,o,none⟩=w.cell? ⟨b,o,none⟩:=by
 unfold World.cell?;rw[h]
def LO (lo:Nat) {α:Type}(s:Zt) (us:List α):Prop:=us=[]∨∀ b o,s.a=some ⟨b,o,none⟩→lo≤b
end Go.Proofs.YtngekjpklkjnbaaGreat
namespace Go.Proofs.YtngekjpklkjnbaaGreat
end Go.Proofs.YtngekjpklkjnbaaGreat