/-
  The laws' own functions on conditions: equality, size, copy. No condition but bounds on sizes.
-/
import Derived.Test.YtnkfphndfijcoaaProg
import Derived.WalkKit
import Derived.WalkSpells
import Derived.WalkLawsBesides
import Derived.BigQuiet
set_option maxHeartbeats 6400000
set_option maxRecDepth 100000
namespace Go.Proofs.Ytnkfphndfijcoaa
open Go.RowKit
theorem hide {p:Prop}(h:p):Hid p:=h
theorem lt_of_cell {w:World}{b o:Nat}{v:Value}(h:w.cell? ⟨b,o,none⟩=some v):b < w.heap.size:=World.block_lt_of_cell? w ⟨b,o,none⟩ h
theorem bcell {W w1:World}(hb:Below W.heap.size W w1):(∀ b o,b < W.heap.size→w1.cell? ⟨b,o,none⟩=W.cell? ⟨b,o,none⟩)∧(∀ b o,b < W.heap.size→w1.frozen? ⟨b,o,none⟩=W.frozen? ⟨b,o,none⟩):=
 ⟨fun b o h=>hb.cell (p:=⟨b,o,none⟩) h,fun b o h=>hb.frozen (p:=⟨b,o,none⟩) h⟩
structure BW (w:World) where
 val:World
 prop:Below w.heap.size w val
instance BW.some (w:World):Nonempty (BW w):=⟨⟨w,Below.refl _ _⟩⟩
@[go_sem] theorem BW.cell {w:World}(x:BW w) {b o:Nat}(h:b < w.heap.size):x.val.cell? ⟨b,o,none⟩=w.cell? ⟨b,o,none⟩:=x.prop.cell (p:=⟨b,o,none⟩) h
@[go_sem] theorem BW.frozen {w:World}(x:BW w) {b o:Nat}(h:b < w.heap.size):x.val.frozen? ⟨b,o,none⟩=w.frozen? ⟨b,o,none⟩:=x.prop.frozen (p:=⟨b,o,none⟩) h
theorem wp_region_bw {P:Program}{id:Nat}{Q:Exit→Act→World→Prop}{a:Act}{w:World}{l:List Oper}(hm:P.follows .mixedOrders=true) (hB:Region.lexB .any l.toArray=true)
 (h:wpQuiet P l.toArray (fun w' => ∃ x:BW w,w'=x.val) (fun a' => ∀ w',Below w.heap.size w w'→Q .normal a' w') l a):(Code.region id l.toArray true).wp P Q a w:=
 wp_region_quiet (C:=fun w' => ∃ x:BW w,w'=x.val) hm hB ⟨⟨_,(Below.refl w.heap.size w).drew⟩,rfl⟩ (by
  have e:(fun a':Act => ∀ w',(∃ x:BW w,w'=x.val)→Q .normal a' w')=(fun a' => ∀ w',Below w.heap.size w w'→Q .normal a' w'):=by
   funext a';exact propext ⟨fun h w' hb=>h w' ⟨⟨w',hb⟩,rfl⟩,fun h w' ⟨x,hx⟩=>hx ▸ h _ x.prop⟩
  rw[e];simpa using h)
theorem Calls.bw {P:Program}{f:FuncId}{args:Array Value}{w:World}{x:BW w}{v:Value}
 (h:Calls P f args x.val fun e w'=>e = .returned v∧Below x.val.heap.size x.val w'):Calls P f args x.val fun e w''=>e = .returned v∧∃ y:BW w,w''=y.val:=
 h.mono fun _ w' ⟨he,hb⟩=>⟨he,⟨w',x.prop.trans (hb.mono x.prop.size)⟩,rfl⟩
theorem Calls.bw_same {P:Program}{f:FuncId}{args:Array Value}{w:World}{x:BW w}{v:Value}
 (h:Calls P f args x.val fun e w'=>e = .returned v∧x.val=w'):Calls P f args x.val fun e w''=>e = .returned v∧∃ y:BW w,w''=y.val:=
 h.mono fun _ _ ⟨he,hb⟩=>⟨he,x,hb.symm⟩
structure El (α:Type) where
 sz:Nat
 pos:0 < sz
 c:α→List Value
 len:∀ x,(c x).length=sz
 one:∀ x u,u∈c x→u.oneCell'=true
section
variable {α : Type} (E : El α)
theorem El.length (xs:List α):(xs.flatMap E.c).length=xs.length * E.sz:=by
 induction xs with
 | nil=>simp
 | cons x xs ih=>simp[E.len,ih,Nat.add_mul,Nat.add_comm]
theorem El.get (xs:List α):∀ (i j:Nat),j < E.sz→(xs.flatMap E.c)[i * E.sz+j]? = (xs[i]?).bind fun x=>(E.c x)[j]?:=by
 induction xs with
 | nil=>simp
 | cons x xs ih =>
  intro i j hj;rw[List.flatMap_cons];cases i with
  | zero=>rw[List.getElem?_append_left (by rw[E.len];omega)];simp
  | succ i =>
   rw[List.getElem?_append_right (by rw[E.len,Nat.add_mul];omega),E.len,show (i+1) * E.sz+j - E.sz=i * E.sz+j by rw[Nat.add_mul];omega,ih i j hj];simp
theorem El.set (xs:List α):∀ (i j:Nat) (x y:α) (u:Value),j < E.sz→xs[i]? = some x→E.c y=(E.c x).set j u→(xs.flatMap E.c).set (i * E.sz+j) u=(xs.set i y).flatMap E.c:=by
 induction xs with
 | nil=>intro i j x y u _ h;simp at h
 | cons x0 xs ih =>
  intro i j x y u hj hx hy;rw[List.flatMap_cons];cases i with
  | zero =>
   simp at hx;subst hx;rw[List.set_append_left _ _ (by rw[E.len];omega)];simp[hy]
  | succ i =>
   rw[List.set_append_right _ _ (by rw[E.len,Nat.add_mul];omega),E.len,show (i+1) * E.sz+j - E.sz=i * E.sz+j by rw[Nat.add_mul];omega,ih i j x y u hj (by simpa using hx) hy];simp
def Rep (w:World) (v:Value) (xs:List α):Prop:=
 ∃ a c,v = .slice a xs.length c∧xs.length≤c∧c≤maxLen∧∀ i x,xs[i]? = some x→∃ b o,a=some ⟨b,o,none⟩∧∀ j u,(E.c x)[j]? = some u→w.cell? ⟨b,o+i * E.sz+j,none⟩=some u
variable {E}
theorem El.first (x:α):∃ u,(E.c x)[0]? = some u:=⟨(E.c x)[0]'(by rw[E.len];exact E.pos),by simp⟩
theorem Rep.below {w w':World}{v:Value}{xs:List α}(h:Rep E w v xs) (hb:Below w.heap.size w w'):Rep E w' v xs:=by
 obtain⟨a,c,rfl,h1,h2,h⟩:=h;refine⟨a,c,rfl,h1,h2,fun i x hx => ?_⟩;obtain⟨b,o,rfl,hi⟩:=h i x hx;refine⟨b,o,rfl,fun j u hu => ?_⟩;have:=hi j u hu;rw[← this];exact hb.cell (p:=⟨b,_,none⟩) (lt_of_cell this)
theorem Rep.nil (w:World):Rep E w (.slice none 0 0) []:=⟨none,0,rfl,Nat.le_refl _,Nat.zero_le _,fun i x h=>by simp at h⟩
def Own (E:El α) (T:TypeId) (w:World) (base:Nat) (v:Value) (xs:List α):Prop:=w.ownsRow base T E.sz v xs.length (xs.flatMap E.c)
theorem Own.shape {T:TypeId}{w:World}{base:Nat}{v:Value}{xs:List α}(h:Own E T w base v xs):(v = .slice none 0 0∧xs=[])∨∃ g cap,v = .slice (some ⟨g,0,none⟩) xs.length cap∧base≤g∧g < w.heap.size∧xs.length≤cap∧cap≤maxLen:=by
 rcases h.2 with⟨h1,h2⟩ | ⟨g,cap,cur,h1,h2,h3,h4,h5,_⟩
 ·exact .inl ⟨h1,List.eq_nil_of_length_eq_zero h2⟩
 ·exact .inr ⟨g,cap,h1,h2,(Array.getElem?_eq_some_iff.1 h3).1,h4,h5⟩
theorem Own.cell {T:TypeId}{w:World}{base g n cap:Nat}{xs:List α}(h:Own E T w base (.slice (some ⟨g,0,none⟩) n cap) xs) {i j:Nat}{x:α}{u:Value}(hx:xs[i]? = some x) (hu:(E.c x)[j]? = some u):w.cell? ⟨g,i * E.sz+j,none⟩=some u:=by
 have hj:j < E.sz:=by rw[← E.len x];exact(List.getElem?_eq_some_iff.1 hu).1
 have hi:i < xs.length:=(List.getElem?_eq_some_iff.1 hx).1;have hn:n=xs.length:=by rcases h.2 with⟨h1,_⟩ | ⟨g,cap,cur,h1,_⟩ <;> simp at h1;exact h1.2.1
 subst hn;rw[World.ownsRow.cellAt h (i * E.sz+j) (by
  have:(i+1) * E.sz≤xs.length * E.sz:=Nat.mul_le_mul_right _ hi;rw[Nat.add_mul]at this;omega),E.get xs i j hj,hx]
 exact hu
theorem Own.len {T:TypeId}{w:World}{base n cap:Nat}{a:Option Addr}{xs:List α}(h:Own E T w base (.slice a n cap) xs):n=xs.length:=by
 rcases h.2 with⟨h1,h2⟩ | ⟨g,cap,cur,h1,_⟩
 ·simp at h1;omega
 ·simp at h1;exact h1.2.1
theorem Own.frozen {T:TypeId}{w:World}{base g n cap:Nat}{xs:List α}(h:Own E T w base (.slice (some ⟨g,0,none⟩) n cap) xs) (j:Nat):w.frozen? ⟨g,j,none⟩=false:=by
 have hn:=h.len;subst hn;exact World.ownsRow.frozenAt h j
theorem Own.set {T:TypeId}{w:World}{base g n cap:Nat}{xs:List α}(h:Own E T w base (.slice (some ⟨g,0,none⟩) n cap) xs) {i j:Nat}{x:α}(y:α) {u:Value}(hj:j < E.sz) (hx:xs[i]? = some x) (hy:E.c y=(E.c x).set j u) :
 Own E T (w.setCell ⟨g,i * E.sz+j,none⟩ u) base (.slice (some ⟨g,0,none⟩) n cap) (xs.set i y):=by
 have hn:=h.len;subst hn;have hs:=(World.ownsRow.stored h (i * E.sz+j) u).1;unfold Own;rw[List.length_set,← E.set xs i j x y u hj hx hy];exact hs
theorem Own.rep {T:TypeId}{w:World}{base:Nat}{v:Value}{xs:List α}(h:Own E T w base v xs):Rep E w v xs:=by
 rcases h.shape with⟨rfl,rfl⟩ | ⟨g,cap,rfl,h1,h2,h3,h4⟩
 ·exact Rep.nil w
 ·refine⟨_,_,rfl,h3,h4,fun i x hx=>⟨g,0,rfl,fun j u hu => ?_⟩⟩
  rw[Nat.zero_add];exact h.cell hx hu
theorem Own.kept {T:TypeId}{w w':World}{base B:Nat}{v:Value}{xs:List α}(h:Own E T w base v xs) (hb:Below B w w') (hB:∀ k,v.ownBlock=some k→k < B):Own E T w' base v xs:=by
 refine⟨h.1,?_⟩;rcases h.2 with hn | ⟨g,cap,cur,rfl,hb1,hgg,rest⟩
 ·exact .inl hn
 ·exact .inr ⟨g,cap,cur,rfl,hb1,(hb.block g (hB g rfl)).trans hgg,rest⟩
theorem Own.below {T:TypeId}{w w':World}{base:Nat}{v:Value}{xs:List α}(h:Own E T w base v xs) (hb:Below w.heap.size w w'):Own E T w' base v xs:=
 h.kept hb fun k hk=>(World.ownsRow.lt h k hk).2
theorem Own.grown {T:TypeId}{w w':World}{base:Nat}{row:Option Nat}{v:Value}{xs:List α}(h:Own E T w base v xs) (hg:w.grownBy w' row) (hne:v.ownBlock=none∨v.ownBlock≠row):Own E T w' base v xs:=World.ownsRow.kept h hg hne
theorem Own.alloc {T:TypeId}{w:World}{base:Nat}{v:Value}{xs:List α}(h:Own E T w base v xs) (o:Obj):Own E T (w.alloc o) base v xs:=World.ownsRow.alloc h o
theorem Own.nil (T:TypeId) (w:World) (base:Nat):Own E T w base (.slice none 0 0) []:=World.ownsRow_nil _ _ _ _
theorem Own.empty (T:TypeId) (w:World) {base:Nat}(hb:base≤w.heap.size):Own E T (w.alloc (.cells #[] T)) base (.slice (some ⟨w.heap.size,0,none⟩) 0 0) []:=World.ownsRow_made w #[] 0 hb (by unfold maxLen;omega) (by simp)
theorem Own.mono {T:TypeId}{w:World}{base base':Nat}{v:Value}{xs:List α}(h:Own E T w base v xs) (hb:base'≤base):Own E T w base' v xs:=by
 refine⟨h.1,?_⟩;rcases h.2 with hn | ⟨g,cap,cur,rfl,hb1,rest⟩
 ·exact .inl hn
 ·exact .inr ⟨g,cap,cur,rfl,Nat.le_trans hb hb1,rest⟩
theorem made_eq (z:α) (zv:Value) (hz:zv.cells.toList=E.c z) (n:Nat):(madeCells zv.cells (n * E.sz)).toList=(List.replicate n z).flatMap E.c:=by
 have hsz:zv.cells.size=E.sz:=by rw[← Array.length_toList,hz,E.len]
 apply List.ext_getElem?;intro k;have hk:=Nat.div_add_mod k E.sz;have hm:k % E.sz < E.sz:=Nat.mod_lt _ E.pos;have hk':k=k / E.sz * E.sz+k % E.sz:=by rw[Nat.mul_comm];exact hk.symm
 by_cases h:k < n * E.sz
 ·have hd:k / E.sz < n:=Nat.div_lt_of_lt_mul (by rw[Nat.mul_comm];exact h)
  have hr:((List.replicate n z).flatMap E.c)[k]? = (E.c z)[k % E.sz]?:=by
   conv=>lhs;rw[hk']
   rw[E.get _ _ _ hm,List.getElem?_replicate,if_pos hd];rfl
  rw[hr,← hz];simp only[madeCells,Array.toList_map,List.getElem?_map,Array.toList_range,List.getElem?_range h,Option.map_some,hsz];rw[Array.getElem?_toList,Array.getElem?_eq_getElem (by omega)];rw[getElem!_pos zv.cells (k % E.sz) (by omega)]
 ·rw[List.getElem?_eq_none (by rw[Array.length_toList,size_madeCells];omega),List.getElem?_eq_none (by rw[E.length];simp;omega)]
end
def IntE:El Int:=⟨1,by decide,fun x=>[.int .i64 x],fun _=>rfl,fun x u h=>by simp at h;subst h;rfl⟩
structure Slc where
 a:Option Addr
 n:Nat
 cap:Nat
abbrev Slc.v (s:Slc):Value:=.slice s.a s.n s.cap
def SlcE:El Slc:=⟨1,by decide,fun x=>[x.v],fun _=>rfl,fun x u h=>by simp at h;subst h;rfl⟩
structure Ins where
 op:Int
 loc:Int
 reg:Int
 val:Int
deriving DecidableEq
abbrev Ins.v (x:Ins):Value:=.agg #[.int .i64 x.op,.int .i64 x.loc,.int .i64 x.reg,.int .i64 x.val]
def InsE:El Ins:=⟨4,by decide,fun x=>[.int .i64 x.op,.int .i64 x.loc,.int .i64 x.reg,.int .i64 x.val],fun _=>rfl,fun x u h=>by simp at h;rcases h with rfl | rfl | rfl | rfl <;> rfl⟩
theorem nat_of_lt {n k:Nat}(h:k < n):(k:Int) < n:=by omega
theorem Rep.ins {w:World}{a:Option Addr}{n c:Nat}{xs:List Ins}(h:Rep InsE w (.slice a n c) xs) {k:Nat}{x:Ins}(hx:xs[k]? = some x) :
 ∃ b o,a=some ⟨b,o,none⟩∧b < w.heap.size∧w.cell? ⟨b,o+k * 4,none⟩=some (.int .i64 x.op)∧w.cell? ⟨b,o+k * 4+1,none⟩=some (.int .i64 x.loc) ∧
  w.cell? ⟨b,o+k * 4+2,none⟩=some (.int .i64 x.reg)∧w.cell? ⟨b,o+k * 4+3,none⟩=some (.int .i64 x.val):=by
 obtain⟨a',c',hv,_,_,h⟩:=h;simp only[Value.slice.injEq]at hv;obtain⟨rfl,rfl,rfl⟩:=hv;obtain⟨b,o,rfl,h'⟩:=h k x hx;exact⟨b,o,rfl,lt_of_cell (h' 0 _ rfl),h' 0 _ rfl,h' 1 _ rfl,h' 2 _ rfl,h' 3 _ rfl⟩
theorem Rep.int {w:World}{a:Option Addr}{n c:Nat}{xs:List Int}(h:Rep IntE w (.slice a n c) xs) {k:Nat}{x:Int}(hx:xs[k]? = some x) :
 ∃ b o,a=some ⟨b,o,none⟩∧b < w.heap.size∧w.cell? ⟨b,o+k,none⟩=some (.int .i64 x):=by
 obtain⟨a',c',hv,_,_,h⟩:=h;simp only[Value.slice.injEq]at hv;obtain⟨rfl,rfl,rfl⟩:=hv;obtain⟨b,o,rfl,h'⟩:=h k x hx;have:=h' 0 _ rfl;simp only[IntE,Nat.mul_one,Nat.add_zero]at this;exact⟨b,o,rfl,lt_of_cell this,this⟩
theorem Rep.slc {w:World}{a:Option Addr}{n c:Nat}{xs:List Slc}(h:Rep SlcE w (.slice a n c) xs) {k:Nat}{x:Slc}(hx:xs[k]? = some x) :
 ∃ b o,a=some ⟨b,o,none⟩∧b < w.heap.size∧w.cell? ⟨b,o+k,none⟩=some (.slice x.a x.n x.cap):=by
 obtain⟨a',c',hv,_,_,h⟩:=h;simp only[Value.slice.injEq]at hv;obtain⟨rfl,rfl,rfl⟩:=hv;obtain⟨b,o,rfl,h'⟩:=h k x hx;have:=h' 0 _ rfl;simp only[SlcE,Nat.mul_one,Nat.add_zero]at this;exact⟨b,o,rfl,lt_of_cell this,this⟩
theorem Rep.open {α:Type}{E:El α}{w:World}{v:Value}{xs:List α}(h:Rep E w v xs):∃ a c,v = .slice a xs.length c∧xs.length≤c∧xs.length≤9223372036854775807∧c≤maxLen∧Rep E w (.slice a xs.length c) xs:=by
 obtain⟨a,c,rfl,h1,h2,h3⟩:=h;exact⟨a,c,rfl,h1,by unfold maxLen at h2;omega,h2,a,c,rfl,h1,h2,h3⟩
def Rep2 {α:Type}(E:El α) (w:World) (v:Value) (p:List (List α)):Prop:=
 ∃ us:List Slc,us.length=p.length∧Rep SlcE w v us∧∀ (i:Nat) (u:Slc) (r:List α),us[i]? = some u→p[i]? = some r→Rep E w u.v r
theorem Rep2.below {α:Type}{E:El α}{w w':World}{v:Value}{p:List (List α)}(h:Rep2 E w v p) (hb:Below w.heap.size w w'):Rep2 E w' v p:=by
 obtain⟨us,h1,h2,h3⟩:=h;exact⟨us,h1,h2.below hb,fun i u r hu hr=>(h3 i u r hu hr).below hb⟩
theorem Rep2.row {α:Type}{E:El α}{w:World}{a:Option Addr}{n c:Nat}{p:List (List α)}(h:Rep2 E w (.slice a n c) p) {k:Nat}{r:List α}(hr:p[k]? = some r) :
 ∃ b o a' c',a=some ⟨b,o,none⟩∧b < w.heap.size∧w.cell? ⟨b,o+k,none⟩=some (.slice a' r.length c')∧Rep E w (.slice a' r.length c') r:=by
 obtain⟨us,h1,h2,h3⟩:=h;obtain⟨u,hu⟩:∃ u,us[k]? = some u:=⟨us[k]'(by rw[h1];exact(List.getElem?_eq_some_iff.1 hr).1),by simp⟩
 obtain⟨b,o,rfl,hb,hc⟩:=h2.slc hu;have hrow:=h3 k u r hu hr;obtain⟨a',c',hv,_⟩:=hrow.open;simp only[Slc.v,Value.slice.injEq]at hv;obtain⟨e1,e2,e3⟩:=hv;refine⟨b,o,a',c',rfl,hb,by rw[hc,e1,e2,e3],?_⟩;rw[← e1,← e3,← e2];exact hrow
theorem Rep2.open {α:Type}{E:El α}{w:World}{v:Value}{p:List (List α)}(h:Rep2 E w v p):∃ a c,v = .slice a p.length c∧p.length≤c∧p.length≤9223372036854775807∧c≤maxLen∧Rep2 E w (.slice a p.length c) p:=by
 obtain⟨us,h1,h2,h3⟩:=h;obtain⟨a,c,rfl,h4,h5,h6,h7⟩:=h2.open;refine⟨a,c,by rw[h1],by rw[← h1];exact h4,by rw[← h1];exact h5,h6,us,h1,?_,h3⟩;rw[← h1];exact h7
theorem news_alloc {w:World}{l:List Value}{T:TypeId}:∀ (j:Nat) (u:Value),l[j]? = some u→(w.alloc (.cells l.toArray T)).cell? ⟨w.heap.size,0+j,none⟩=some u:=by
 intro j u h;rw[Nat.zero_add,cell_of_row _ _ j l.toArray T (0,0) (heap_alloc_new w _)];simpa using h
theorem below_app {α:Type}{E:El α}{T:TypeId}{w wr w1:World}{o:Obj}{v:Value}{xs:List α}(hb:Below w.heap.size w wr) (hown:Own E T wr w.heap.size v xs) (hg:(wr.alloc o).grownBy w1 v.ownBlock):Below w.heap.size w w1:=
 (hb.alloc hb.size o).grown hg (by have:=hb.size;simp;omega) (fun k hk=>(World.ownsRow.lt hown k hk).1)
theorem get_of_lt {α:Type}{xs:List α}{k:Nat}(h:k < xs.length):∃ x,xs[k]? = some x:=⟨xs[k],by simp⟩
theorem take_eq_succ {α:Type}{xs ys:List α}{k:Nat}{x y:α}(h:xs.take k=ys.take k) (hx:xs[k]? = some x) (hy:ys[k]? = some y) (e:x=y):xs.take (k+1)=ys.take (k+1):=by
 rw[List.take_add_one,List.take_add_one,h,hx,hy,e]
theorem take_all_eq {α:Type}{xs ys:List α}{k:Nat}(h:xs.take k=ys.take k) (hx:xs.length≤k) (hy:ys.length≤k):xs=ys:=by
 rwa[List.take_of_length_le hx,List.take_of_length_le hy]at h
theorem ne_of_get {α:Type}{xs ys:List α}{k:Nat}{x y:α}(hx:xs[k]? = some x) (hy:ys[k]? = some y) (e:x≠y):xs≠ys:=by
 intro h;subst h;rw[hx]at hy;exact e (Option.some.inj hy)
def Own2 {α:Type}(E:El α) (T1 T2:TypeId) (w:World) (base:Nat) (v:Value) (p:List (List α)):Prop:=
 ∃ us:List Slc,us.length=p.length∧Own SlcE T1 w base v us∧(∀ (i:Nat) (u:Slc) (r:List α),us[i]? = some u→p[i]? = some r→Own E T2 w base u.v r) ∧
  (∀ (i j:Nat) (u u':Slc),us[i]? = some u→us[j]? = some u'→i≠j→∀ k,u.v.ownBlock=some k→u'.v.ownBlock≠some k) ∧
  (∀ (i:Nat) (u:Slc),us[i]? = some u→∀ k,u.v.ownBlock=some k→v.ownBlock≠some k)
theorem Own.toSlc {α:Type}{E:El α}{T:TypeId}{w:World}{base:Nat}{v:Value}{xs:List α}(h:Own E T w base v xs):∃ u:Slc,v=u.v∧u.n=xs.length:=by
 rcases h.shape with⟨rfl,rfl⟩ | ⟨g,cap,rfl,_⟩
 ·exact⟨⟨none,0,0⟩,rfl,rfl⟩
 ·exact⟨⟨_,_,_⟩,rfl,rfl⟩
section
variable {α : Type} {E : El α} {T1 T2 : TypeId}
theorem Own2.below {w w':World}{base:Nat}{v:Value}{p:List (List α)}(h:Own2 E T1 T2 w base v p) (hb:Below w.heap.size w w'):Own2 E T1 T2 w' base v p:=by
 obtain⟨us,h1,h2,h3,h4,h5⟩:=h;exact⟨us,h1,h2.below hb,fun i u r hu hr=>(h3 i u r hu hr).below hb,h4,h5⟩
theorem Own2.made {w:World}{base g n:Nat}(h:Own SlcE T1 w base (.slice (some ⟨g,0,none⟩) n n) (List.replicate n ⟨none,0,0⟩)):Own2 E T1 T2 w base (.slice (some ⟨g,0,none⟩) n n) (List.replicate n []):=by
 refine⟨_,by simp,h,?_,?_,?_⟩
 ·intro i u r hu hr
  rw[List.getElem?_replicate]at hu hr;split at hu
  ·rename_i hi;rw[if_pos hi]at hr;simp at hu hr;subst hu;subst hr;exact World.ownsRow_nil _ _ _ _
  ·simp at hu
 ·intro i j u u' hu _ _ k hk
  rw[List.getElem?_replicate]at hu;split at hu <;> simp at hu
  subst hu;simp[Value.ownBlock]at hk
 ·intro i u hu k hk
  rw[List.getElem?_replicate]at hu;split at hu <;> simp at hu
  subst hu;simp[Value.ownBlock]at hk
theorem Own2.rep {w:World}{base:Nat}{v:Value}{p:List (List α)}(h:Own2 E T1 T2 w base v p):Rep2 E w v p:=by
 obtain⟨us,h1,h2,h3,h4,h5⟩:=h;exact⟨us,h1,h2.rep,fun i u r hu hr'=>(h3 i u r hu hr').rep⟩
end
theorem wpList_make {α:Type}(E:El α) {P:Program}{w:World}{ops:Array Oper}{rest:List Oper}{o:Oper}{a:Act}{Q:Exit→Act→World→Prop}
 (T:TypeId) (z:α) {zv:Value}{bytes:Nat}(hinfo:(P.info? T).map (fun i=>(i.zero,i.size,i.bytes))=some (some zv,E.sz,bytes)) (hz:zv.cells.toList=E.c z) {t:TypeId}(h1:P.underlying t=some (.slice T))
 (n:Nat) (hby:bytes≤256) (hn:n≤1099511627776) (hg:o.guard=none) (l c:Operand) (hop:o.op=Op.makeSlice t l c) (hl:a.eval l = .int .i64 n) (hc:a.eval c = .int .i64 n)
 (hK:∀ w',Own E T w' w.heap.size (.slice (some ⟨w.heap.size,0,none⟩) n n) (List.replicate n z)→w.grownBy w' none→wpList P ops Q rest (a.put o.dst (.slice (some ⟨w.heap.size,0,none⟩) n n)) w') :
 wpList P ops Q (o :: rest) a w:=by
 obtain⟨it,hi,hz0,hz1,hz2⟩:=info_parts hinfo;refine wpList_make_full w hg l c t hop w.heap.size T it zv E.sz h1 hi hz0 hz1 .i64 .i64 _ _ n hl hc rfl rfl (by rw[hz2];have:=Nat.mul_le_mul hby hn;omega) (by unfold maxLen;omega) (Nat.le_refl _) ?_;intro w1 hown hgr;refine hK w1 ?_ hgr;unfold Own;rw[List.length_replicate,← made_eq z zv hz n];exact hown
theorem wpList_app {α:Type}(E:El α) {P:Program}{w:World}{ops:Array Oper}{rest:List Oper}{o:Oper}{a:Act}{Q:Exit→Act→World→Prop}
 (T:TypeId) {zv:Value}{bytes:Nat}(hinfo:(P.info? T).map (fun i=>(i.zero,i.size,i.bytes))=some (some zv,E.sz,bytes)) (hz:zv.cells.size=E.sz) {t:TypeId}(h1:P.underlying t=some (.slice T))
 (base:Nat) (v:Value) (xs:List α) (x:α) (hown:Own E T w base v xs) (hby:bytes≤256) (hn:xs.length≤68719476736) (hbase:base≤w.heap.size)
 (hg:o.guard=none) (s y:Operand) (hop:o.op = .call { callee:=.builtin .append,args:=#[s,y],argTypes:=#[t,t] })
 (hs:a.eval s=v) (b off c:Nat) (hy:a.eval y = .slice (some ⟨b,off,none⟩) 1 c) (hnews:∀ j u,(E.c x)[j]? = some u→w.cell? ⟨b,off+j,none⟩=some u)
 (hK:∀ v' w',Own E T w' base v' (xs++[x])→w.grownBy w' v.ownBlock→wpList P ops Q rest (a.put o.dst v') w') :
 wpList P ops Q (o :: rest) a w:=by
 obtain⟨it,hi,hz0,hz1,hz2⟩:=info_parts hinfo;refine wpList_append_own w hg s y t hop base T it zv E.sz bytes h1 hi hz0 hz1 hz2 hz E.pos v xs.length _ hs hown ⟨b,off,none⟩ 1 c (E.c x) hy (by rw[E.len,Nat.one_mul]) ?_ (E.one x) (by unfold maxLen;omega) ?_ hbase ?_
 ·intro j u hu
  have hadd:(⟨b,off,none⟩:Addr).add j=⟨b,off+j,none⟩:=by unfold Addr.add;split <;> simp_all
  rw[hadd];exact hnews j u hu
 ·have:=Nat.mul_le_mul (show xs.length+1≤68719476737 by omega) hby
  omega
 ·intro v' w' h2 h3 _
  refine hK v' w' ?_ h3;unfold Own;simpa[List.flatMap_append] using h2
def Own2U {α:Type}(E:El α) (T1 T2:TypeId) (us:List Slc) (w:World) (base:Nat) (v:Value) (p:List (List α)):Prop:=
 us.length=p.length∧Own SlcE T1 w base v us∧(∀ (i:Nat) (u:Slc) (r:List α),us[i]? = some u→p[i]? = some r→Own E T2 w base u.v r) ∧
  (∀ (i j:Nat) (u u':Slc),us[i]? = some u→us[j]? = some u'→i≠j→∀ k,u.v.ownBlock=some k→u'.v.ownBlock≠some k) ∧
  (∀ (i:Nat) (u:Slc),us[i]? = some u→∀ k,u.v.ownBlock=some k→v.ownBlock≠some k)
theorem Own2.told {α:Type}{E:El α}{T1 T2:TypeId}{w:World}{base:Nat}{v:Value}{p:List (List α)}(h:Own2 E T1 T2 w base v p) :
 ∃ us,Own2U E T1 T2 us w base v p∧∀ (i:Nat) (u:Slc),us[i]? = some u→∀ q,u.v.ownBlock=some q→base≤q∧q < w.heap.size:=by
 obtain⟨us,h1,h2,h3,h4,h5⟩:=h;refine⟨us,⟨h1,h2,h3,h4,h5⟩,fun i u hi q hq => ?_⟩;obtain⟨r',hr'⟩:=get_of_lt (xs:=p) (k:=i) (by have:=(List.getElem?_eq_some_iff.1 hi).1;omega);exact World.ownsRow.lt (h3 i u r' hi hr') q hq
theorem Own2U.own {α:Type}{E:El α}{T1 T2:TypeId}{us:List Slc}{w:World}{base:Nat}{v:Value}{p:List (List α)}(h:Own2U E T1 T2 us w base v p):Own2 E T1 T2 w base v p:=⟨us,h⟩
theorem Own2U.below {α:Type}{E:El α}{T1 T2:TypeId}{us:List Slc}{w w':World}{base:Nat}{v:Value}{p:List (List α)}(h:Own2U E T1 T2 us w base v p) (hb:Below w.heap.size w w'):Own2U E T1 T2 us w' base v p:=by
 obtain⟨h1,h2,h3,h4,h5⟩:=h;exact⟨h1,h2.below hb,fun i u r hu hr=>(h3 i u r hu hr).below hb,h4,h5⟩
theorem Own2U.row {α:Type}{E:El α}{T1 T2:TypeId}{us:List Slc}{w:World}{base g n cap:Nat}{p:List (List α)}(h:Own2U E T1 T2 us w base (.slice (some ⟨g,0,none⟩) n cap) p) {k:Nat}{r:List α}(hr:p[k]? = some r) :
 ∃ s:Slc,us[k]? = some s∧g < w.heap.size∧w.cell? ⟨g,k,none⟩=some (.slice s.a s.n s.cap)∧Own E T2 w base s.v r ∧
  ∀ w' r',Own E T2 w' base s.v r'→w.grownBy w' s.v.ownBlock→Own2U E T1 T2 us w' base (.slice (some ⟨g,0,none⟩) n cap) (p.set k r'):=by
 obtain⟨h1,h2,h3,h4,h5⟩:=h;have hk:=(List.getElem?_eq_some_iff.1 hr).1;obtain⟨s,hs⟩:=get_of_lt (xs:=us) (k:=k) (by omega);have hc:=h2.cell hs (j:=0) rfl;simp only[SlcE,Nat.mul_one,Nat.add_zero]at hc;refine⟨s,hs,(World.ownsRow.lt h2 g rfl).2,hc,h3 k s r hs hr,fun w' r' ho hg=>⟨by simp[h1],h2.grown hg (.inr ?_),?_,h4,h5⟩⟩
 ·intro e
  exact h5 k s hs g (by rw[← e];rfl) rfl
 ·intro i u r2 hu hr2
  by_cases e:k=i
  ·subst e
   rw[List.getElem?_set,if_pos rfl,if_pos hk]at hr2;simp at hr2;subst hr2;rw[hs]at hu;simp at hu;subst hu;exact ho
  ·rw[List.getElem?_set,if_neg e]at hr2
   refine(h3 i u r2 hu hr2).grown hg ?_;rcases hq:u.v.ownBlock with _ | q
   ·exact .inl rfl
   ·exact .inr fun e2=>h4 i k u s hu hs (fun e3=>e e3.symm) q hq e2.symm
structure Outside (lo hi:Nat) (w w':World):Prop where
 os:w'.os=w.os
 tape:w'.tape=w.tape
 output:w'.output=w.output
 size:w.heap.size≤w'.heap.size
 block:∀ k,k < w.heap.size→(k < lo∨hi≤k)→w'.heap[k]? = w.heap[k]?
theorem Outside.refl (lo hi:Nat) (w:World):Outside lo hi w w:=⟨rfl,rfl,rfl,Nat.le_refl _,fun _ _ _=>rfl⟩
theorem Outside.grown {lo hi:Nat}{w w' w'':World}{row:Option Nat}(h:Outside lo hi w w') (hg:w'.grownBy w'' row) (hr:∀ q,row=some q→lo≤q∧q < hi):Outside lo hi w w'':=
 ⟨hg.os.trans h.os,hg.tape.trans h.tape,hg.output.trans h.output,Nat.le_trans h.size hg.size,fun k hk hlh=>(hg.block k (by have:=h.size;omega) (fun e=>by have:=hr k e.symm;omega)).trans (h.block k hk hlh)⟩
theorem Outside.trans {lo hi:Nat}{a b c:World}(h:Outside lo hi a b) (k:Outside lo hi b c):Outside lo hi a c:=
 ⟨k.os.trans h.os,k.tape.trans h.tape,k.output.trans h.output,Nat.le_trans h.size k.size,fun q hq hlh=>(k.block q (by have:=h.size;omega) hlh).trans (h.block q hq hlh)⟩
theorem Outside.below {lo hi:Nat}{w w':World}(h:Outside lo hi w w') {B:Nat}(hB:B≤lo) (hB':B≤w.heap.size):Below B w w':=
 ⟨h.os,h.tape,h.output,h.size,fun k hk=>h.block k (by omega) (.inl (by omega))⟩
theorem Outside.own {α:Type}{E:El α}{T:TypeId}{lo hi:Nat}{w w':World}(h:Outside lo hi w w') {base:Nat}{v:Value}{xs:List α}(ho:Own E T w base v xs) (hlt:∀ q,v.ownBlock=some q→q < lo∨hi≤q):Own E T w' base v xs:=by
 refine⟨ho.1,?_⟩;rcases ho.2 with hn | ⟨g,cap,cur,rfl,hb1,hgg,rest⟩
 ·exact .inl hn
 ·exact .inr ⟨g,cap,cur,rfl,hb1,(h.block g (Array.getElem?_eq_some_iff.1 hgg).1 (hlt g rfl)).trans hgg,rest⟩
theorem grown_set {w w':World}{g:Nat}(h:w.grownBy w' (some g)) (j:Nat) (u:Value):w.grownBy (w'.setCell ⟨g,j,none⟩ u) (some g):=
 ⟨h.os,h.tape,h.output,by simpa using h.size,fun q hq hne=>(heap_setCell_other w' ⟨g,j,none⟩ q u (fun e=>hne (by simp[e]))).trans (h.block q hq hne)⟩
def RetOwn {α:Type}(E:El α) (T:TypeId) (w:World) (xs:List α) (e:Ending) (w':World):Prop:=∃ v,e = .returned v∧Own E T w' w.heap.size v xs∧Below w.heap.size w w'
end Go.Proofs.Ytnkfphndfijcoaa
namespace Go.Proofs.Ytnkfphndfijcoaa
open Go.RowKit
theorem Try.infoIns:(Try.prog.info? 56).map (fun i=>(i.zero,i.size,i.bytes))=some (some (.agg #[.int .i64 0,.int .i64 0,.int .i64 0,.int .i64 0]),4,32):=by kernel_rfl
theorem Try.infoInsS:(Try.prog.info? 54).map (fun i=>(i.zero,i.size,i.bytes))=some (some (.slice none 0 0),1,24):=by kernel_rfl
abbrev OwnI (w:World) (base:Nat) (v:Value) (xs:List Ins):Prop:=Own InsE 56 w base v xs
abbrev OwnP (w:World) (base:Nat) (v:Value) (p:List (List Ins)):Prop:=Own2 InsE 54 56 w base v p
abbrev RepP (w:World) (v:Value) (p:List (List Ins)):Prop:=Rep2 InsE w v p
end Go.Proofs.Ytnkfphndfijcoaa
namespace Go.Proofs.Ytnkfphndfijcoaa
open Go.RowKit
def isRop (o:Int):Bool:=o==1||o==5
def isWop (o:Int):Bool:=o==2||o==3||o==5
def isR (x:Ins):Bool:=isRop x.op
def isW (x:Ins):Bool:=isWop x.op
def inB (a lo hi:Int):Bool:=decide (lo≤a)&&decide (a≤hi)
def insValid (x:Ins):Bool:=
 if x.op=1∨x.op=3 then inB x.loc 0 2&&inB x.reg 0 2&&x.val==0
 else if x.op=2 then inB x.loc 0 2&&x.reg==0&&inB x.val 0 3
 else if x.op=4 then x.loc==0&&x.reg==0&&x.val==0
 else if x.op=5 then inB x.loc 0 2&&inB x.reg 0 2&&inB x.val 0 3
 else false
theorem l1In_any (x hi:Int) (w:World):Calls Try.prog 77 #[.int .i64 x,.int .i64 hi] w fun e w'=>e = .returned (.bool (inB x 0 hi))∧w=w':=by
 unfold inB;by_cases h:0≤x
 ·go_enter Try.func77,Try.ntmps77
  go_wp2;go_ret;exact⟨by simp[h],rfl⟩
 ·have hd:decide (0≤x)=false:=by simp;omega
  go_enter Try.func77,Try.ntmps77;go_wp2;go_ret;exact⟨by simp,rfl⟩
theorem l1Reads_any (x:Ins) (w:World):Calls Try.prog 58 #[x.v] w fun e w'=>e = .returned (.bool (isRop x.op))∧Below w.heap.size w w':=by
 obtain⟨x0,x1,x2,x3⟩:=x;show Calls _ _ _ _ fun e w'=>e = .returned (.bool (isRop x0))∧_;go_enter Try.func58,Try.ntmps58;go_wp2
 all_goals go_ret
 all_goals refine⟨?_,(Below.refl _ _).alloc (Nat.le_refl _) _⟩
 all_goals unfold isRop
 all_goals simp_all
theorem l1Writes_any (x:Ins) (w:World):Calls Try.prog 57 #[x.v] w fun e w'=>e = .returned (.bool (isWop x.op))∧Below w.heap.size w w':=by
 obtain⟨x0,x1,x2,x3⟩:=x;show Calls _ _ _ _ fun e w'=>e = .returned (.bool (isWop x0))∧_;go_enter Try.func57,Try.ntmps57;go_wp2
 all_goals go_ret
 all_goals refine⟨?_,(Below.refl _ _).alloc (Nat.le_refl _) _⟩
 all_goals unfold isWop
 all_goals simp_all
theorem l1Reads_raw (a b c d:Int) (w:World):Calls Try.prog 58 #[.agg #[.int .i64 a,.int .i64 b,.int .i64 c,.int .i64 d]] w fun e w'=>e = .returned (.bool (isRop a))∧Below w.heap.size w w':=l1Reads_any ⟨a,b,c,d⟩ w
theorem l1Writes_raw (a b c d:Int) (w:World):Calls Try.prog 57 #[.agg #[.int .i64 a,.int .i64 b,.int .i64 c,.int .i64 d]] w fun e w'=>e = .returned (.bool (isWop a))∧Below w.heap.size w w':=l1Writes_any ⟨a,b,c,d⟩ w
theorem sInstrValid_any (x:Ins) (w:World):Calls Try.prog 61 #[x.v] w fun e w'=>e = .returned (.bool (insValid x))∧Below w.heap.size w w':=by
 obtain⟨x0,x1,x2,x3⟩:=x;go_enter Try.func61,Try.ntmps61;go_wp2_with (go_at_call 77;refine(l1In_any _ _ _).mono ?_;rintro e w1 ⟨rfl,rfl⟩)
 all_goals go_ret
 all_goals refine⟨?_,(Below.refl _ _).alloc (Nat.le_refl _) _⟩
 all_goals unfold insValid
 all_goals simp_all
end Go.Proofs.Ytnkfphndfijcoaa
namespace Go.Proofs.Ytnkfphndfijcoaa
open Go.RowKit
end Go.Proofs.Ytnkfphndfijcoaa
namespace Go.Proofs.Ytnkfphndfijcoaa
def fR (loc:Int) (x:Ins):Bool:=x.loc==loc&&isRop x.op
def fW (loc:Int) (x:Ins):Bool:=x.loc==loc&&isWop x.op
def cnt (f:Ins→Bool) (p:List (List Ins)):Nat:=p.flatten.countP f
theorem cnt_take_succ (f:Ins→Bool) {p:List (List Ins)}{i:Nat}{r:List Ins}(h:p[i]? = some r):cnt f (p.take (i+1))=cnt f (p.take i)+r.countP f:=by
 simp[cnt,List.take_add_one,h,List.countP_append]
theorem countP_take_succ (f:Ins→Bool) {r:List Ins}{k:Nat}{x:Ins}(h:r[k]? = some x):(r.take (k+1)).countP f=(r.take k).countP f+if f x=true then 1 else 0:=by
 simp[List.take_add_one,h,List.countP_append,List.countP_cons]
theorem cnt_le_flatten (f:Ins→Bool) (p:List (List Ins)):cnt f p≤p.flatten.length:=List.countP_le_length
theorem flatten_take_le (p:List (List Ins)) (i:Nat):(p.take i).flatten.length≤p.flatten.length:=by
 have h:p.flatten=(p.take i).flatten++(p.drop i).flatten:=by rw[← List.flatten_append,List.take_append_drop]
 rw[h,List.length_append];omega
theorem cnt_take_le (f:Ins→Bool) (p:List (List Ins)) (i:Nat):cnt f (p.take i)≤p.flatten.length:=Nat.le_trans (cnt_le_flatten f _) (flatten_take_le p i)
theorem row_le_flatten {p:List (List Ins)}{i:Nat}{r:List Ins}(h:p[i]? = some r):(p.take i).flatten.length+r.length≤p.flatten.length:=by
 have h1:=flatten_take_le p (i+1);simpa[List.take_add_one,h] using h1
def fact:Nat→Nat
 | 0=>1
 | n+1=>fact n * (n+1)
theorem fact_pos (n:Nat):1≤fact n:=by
 induction n with
 | zero=>exact Nat.le_refl _
 | succ n ih=>exact Nat.le_trans ih (Nat.le_mul_of_pos_right _ (Nat.succ_pos _))
def pl (p:List (List Ins)) (loc:Nat):Nat:=(cnt (fW loc) p+1) ^ cnt (fR loc) p * fact (cnt (fW loc) p)
def prodTo (p:List (List Ins)):Nat→Nat
 | 0=>1
 | l+1=>prodTo p l * pl p l
def prodP (p:List (List Ins)):Nat:=prodTo p 3
def cap (n:Nat):Nat:=min n 3001
theorem cap_le (n:Nat):cap n≤3001:=Nat.min_le_right _ _
theorem cap_mul (q n:Nat) (h:1≤n):cap (cap q * n)=cap (q * n):=by
 unfold cap;by_cases hq:q≤3001
 ·rw[Nat.min_eq_left hq]
 ·have h1:3001≤3001 * n:=Nat.le_mul_of_pos_right _ h
  have h2:q≤q * n:=Nat.le_mul_of_pos_right _ h;rw[Nat.min_eq_right (show 3001≤q by omega),Nat.min_eq_right h1,Nat.min_eq_right (by omega)]
theorem cap_mul' {a q:Nat}(hc:cap a=cap q) (n:Nat) (h:1≤n):cap (a * n)=cap (q * n):=by
 rw[← cap_mul a n h,hc,cap_mul q n h]
theorem cap_past {a q:Nat}(hc:cap a=cap q) (ha:3000 < a) (n:Nat) (h:1≤n):cap a=cap (q * n):=by
 have h1:cap a=3001:=by unfold cap;omega
 have h2:3001≤q:=by rw[h1]at hc;unfold cap at hc;omega
 have h3:q≤q * n:=Nat.le_mul_of_pos_right _ h;rw[h1];unfold cap;omega
theorem pow_pos' (a n:Nat):1≤(a+1) ^ n:=Nat.pos_of_ne_zero (by simp)
theorem fact_mul {s n:Nat}(h:s≤n):∃ m,1≤m∧fact n=fact s * m:=by
 induction n with
 | zero=>exact⟨1,Nat.le_refl _,by rw[show s=0 by omega,Nat.mul_one]⟩
 | succ n ih =>
  by_cases e:s=n+1
  ·exact⟨1,Nat.le_refl _,by rw[e,Nat.mul_one]⟩
  ·obtain⟨m,h1,h2⟩:=ih (by omega)
   exact⟨m * (n+1),Nat.mul_pos h1 (Nat.succ_pos _),by rw[fact,h2,Nat.mul_assoc]⟩
theorem pow_mul_rest {a t r:Nat}(h:t≤r):∃ m,1≤m∧(a+1) ^ r=(a+1) ^ t * m:=
 ⟨(a+1) ^ (r - t),pow_pos' _ _,by rw[← Nat.pow_add];congr 1;omega⟩
def notFence (x:Ins):Bool:=x.op != 4
def rowOk (r:List Ins):Bool:=r.all insValid&&decide (r.length≤7)
def shapeOk (p:List (List Ins)):Bool:=decide (p.length≤3)&&p.all rowOk&&decide (cnt notFence p≤12)
def progValid (p:List (List Ins)):Bool:=shapeOk p&&decide (1≤p.length)&&decide (prodP p≤3000)
theorem row_no {r:List Ins}{k:Nat}{x:Ins}(h:r[k]? = some x) (hx:insValid x=false):rowOk r=false:=by
 have hm:=List.mem_of_getElem? h;unfold rowOk;rw[Bool.and_eq_false_iff];left;rw[List.all_eq_false];exact⟨x,hm,by simp[hx]⟩
theorem all_no {p:List (List Ins)}{k:Nat}{r:List Ins}(h:p[k]? = some r) (hr:rowOk r=false):p.all rowOk=false:=by
 rw[List.all_eq_false];exact⟨r,List.mem_of_getElem? h,by simp[hr]⟩
theorem all_take_succ {α:Type}{f:α→Bool}{r:List α}{k:Nat}{x:α}(h:(r.take k).all f=true) (hx:r[k]? = some x) (hf:f x=true):(r.take (k+1)).all f=true:=by
 rw[List.take_add_one,hx,List.all_append,h];simp[hf]
theorem valid_le {p:List (List Ins)}(h:progValid p=true):p.length≤3∧1≤p.length∧(∀ r∈p,r.length≤7∧∀ x∈r,insValid x=true)∧cnt notFence p≤12∧prodP p≤3000:=by
 unfold progValid shapeOk at h;simp only[Bool.and_eq_true,decide_eq_true_eq,List.all_eq_true]at h;obtain⟨⟨⟨⟨h1,h2⟩,h3⟩,h4⟩,h5⟩:=h;refine⟨h1,h4,fun r hr => ?_,h3,h5⟩;have:=h2 r hr;unfold rowOk at this;simp only[Bool.and_eq_true,decide_eq_true_eq,List.all_eq_true]at this;exact⟨this.2,this.1⟩
end Go.Proofs.Ytnkfphndfijcoaa
namespace Go.Proofs.Ytnkfphndfijcoaa
open Go.RowKit
end Go.Proofs.Ytnkfphndfijcoaa
namespace Go.Proofs.Ytnkfphndfijcoaa
open Go.RowKit
def fRW (writes:Bool) (loc:Int) (x:Ins):Bool:=x.loc==loc&&(if writes=true then isWop x.op else isRop x.op)
theorem fRW_yes {b:Bool}{loc:Int}{x:Ins}(h:x.loc=loc):fRW b loc x=(if b=true then isWop x.op else isRop x.op):=by simp[fRW,h]
theorem fRW_no {b:Bool}{loc:Int}{x:Ins}(h:x.loc≠loc):fRW b loc x=false:=by simp[fRW,h]
theorem l1Count_any (v:Value) (p:List (List Ins)) (loc:Int) (wr?:Bool) (w:World) (hp:RepP w v p) (hl:p.flatten.length≤1048576) (hpl:p.length≤1048576) :
 Calls Try.prog 32 #[v,.int .i64 loc,.bool wr?] w fun e w'=>e = .returned (.int .i64 (cnt (fRW wr? loc) p:Nat))∧Below w.heap.size w w':=by
 obtain⟨a,c,rfl,hc1,hc2,hc3,hp⟩:=hp.open;have HP:=hide hp;clear hp;have HL:=hide hl;clear hl;generalize hn:p.length=n at *;have H:=hide hn;clear hn;generalize hF:fRW wr? loc=F at *;have HF:=hide hF;clear hF;go_enter Try.func32,Try.ntmps32;go_wp2_with fail
 go_loopw [7,8] (fun r i wr => ∃ j:Nat,j≤n∧i = .int .i64 j∧r = .int .i64 (cnt F (p.take j):Nat)∧Below w.heap.size w wr) (fun _ i _=>n - (intOf i).toNat)
 case atStart=>exact⟨0,by omega,rfl,by simp[cnt],Below.refl _ _⟩
 case round =>
  obtain⟨j,hj,rfl,rfl,hb2⟩:=hrel;by_cases hlt2:j < n
  ·obtain⟨wm,rfl⟩:∃ wm:World,wm=wr:=⟨_,rfl⟩
   obtain⟨x,hxk⟩:=get_of_lt (xs:=p) (k:=j) (by rw[H.out];exact hlt2);obtain⟨b,o,ra,rc,rfl,hbl,i0,i1⟩:=(HP.out.below hb2).row hxk;have hlt2':=nat_of_lt hlt2;obtain⟨_,_,_,_,hr2,_,_⟩:=i1.open;have CR:=hide (cnt_take_succ F hxk);have hbR:=Nat.le_trans (cnt_take_le F p j) HL.out;have hxl:=Nat.le_trans (row_le_flatten hxk) HL.out;have I1:=hide i1;have X:=hide hxk
   clear i1 hxk;generalize hR:cnt F (p.take j)=R at *;clear hR;go_wp2_with fail
   go_loopw [7,9] (fun r i wr => ∃ t:Nat,t≤x.length∧i = .int .i64 t∧r = .int .i64 (R+(x.take t).countP F:Nat)∧Below wm.heap.size wm wr) (fun _ i _=>x.length - (intOf i).toNat)
   case atStart=>exact⟨0,by omega,rfl,by simp,Below.refl _ _⟩
   case round =>
    obtain⟨t,ht,rfl,rfl,hb3⟩:=hrel;have hbR2:(x.take t).countP F≤1048576:=Nat.le_trans List.countP_le_length (by simp;omega);have i0':wr.cell? ⟨b,o+j,none⟩=some (.slice ra x.length rc):=(hb3.cell (p:=⟨b,o+j,none⟩) hbl).trans i0;by_cases hlt3:t < x.length
    ·obtain⟨y,hyk⟩:=get_of_lt (xs:=x) (k:=t) hlt3
     obtain⟨b',o',rfl,hbl',j0,j1,j2,j3⟩:=(I1.out.below hb3).ins hyk;have hlt3':=nat_of_lt hlt3;have CR2:=hide (countP_take_succ F hyk);have Y:=hide hyk;clear hyk;generalize hR2:(x.take t).countP F=R2 at *;clear hR2;by_cases hloc:y.loc=loc
     ·have CR3:Hid ((x.take (t+1)).countP F=R2+if (if wr? = true then isWop y.op else isRop y.op)=true then 1 else 0):=by have h:=CR2.out;rwa[← HF.out,fRW_yes hloc,HF.out]at h
      clear CR2;rw[hloc]at j1;clear hloc HF;have hkk:(loc==loc)=true:=by simp
      generalize hro:isRop y.op=ro at *;generalize hwo:isWop y.op=wo at *;have RO:=hide hro;have WO:=hide hwo;clear hro hwo
      cases wr?
      ·cases ro
       all_goals
        go_wp2_with (go_at_call 58;(with_reducible refine(l1Reads_raw _ _ _ _ _).mono ?_);rw[RO.out];rintro e w3 ⟨rfl,hb4⟩);go_roundw
        case rel=>exact⟨t+1,by omega,by go_num,by rw[CR3.out];simp;try omega,(hb3.alloc hb3.size _).trans (hb4.mono (by have:=hb3.size;simp;omega))⟩
        case measure=>simp[intOf];omega
      ·cases wo
       all_goals
        go_wp2_with (go_at_call 57;(with_reducible refine(l1Writes_raw _ _ _ _ _).mono ?_);rw[WO.out];rintro e w3 ⟨rfl,hb4⟩);go_roundw
        case rel=>exact⟨t+1,by omega,by go_num,by rw[CR3.out];simp;try omega,(hb3.alloc hb3.size _).trans (hb4.mono (by have:=hb3.size;simp;omega))⟩
        case measure=>simp[intOf];omega
     ·have CR3:Hid ((x.take (t+1)).countP F=R2):=hide (by have h:=CR2.out;rw[← HF.out,fRW_no hloc,HF.out]at h;simpa using h)
      clear CR2;have hkk:(y.loc==loc)=false:=by simpa using hloc
      clear hloc;go_wp2_with fail;go_roundw
      case rel=>exact⟨t+1,by omega,by go_num,by rw[CR3.out],hb3.alloc hb3.size _⟩
      case measure=>simp[intOf];omega
    ·have e:t=x.length:=by omega
     have CR4:Hid (cnt F (p.take (j+1))=R+(x.take t).countP F):=by have h:=CR.out;rwa[e,List.take_length]
     generalize hR2:(x.take t).countP F=R2 at *;clear hR2 e;go_wp2_with fail;go_roundw
     case rel=>exact⟨j+1,by omega,by go_num,by rw[CR4.out],hb2.trans (hb3.mono hb2.size)⟩
     case measure=>simp[intOf];omega
  ·have e:j=n:=by omega
   have hpt:p.take j=p:=List.take_of_length_le (by rw[H.out];omega);rw[hpt];clear hpt;go_wp2_with fail;go_ret;exact⟨rfl,hb2⟩
theorem fRW_true (loc:Int):fRW true loc=fW loc:=by funext x;simp[fRW,fW]
theorem fRW_false (loc:Int):fRW false loc=fR loc:=by funext x;simp[fRW,fR]
theorem l1Execs_any (v:Value) (p:List (List Ins)) (w:World) (hp:RepP w v p) (hl:p.flatten.length≤1048576) (hpl:p.length≤1048576) :
 Calls Try.prog 19 #[v,.int .i64 3000] w fun e w'=>e = .returned (.int .i64 (cap (prodP p):Nat))∧Below w.heap.size w w':=by
 have HP:=hide hp;clear hp;have HL:=hide hl;clear hl;have hPP:prodTo p 3=prodP p:=rfl;have PP:=hide hPP;clear hPP;go_enter Try.func19,Try.ntmps19;go_wp2_with fail
 go_loopw [5,6] (fun q i wr => ∃ k N:Nat,k≤3∧i = .int .i64 k∧q = .int .i64 N∧Hid (cap N=cap (prodTo p k))∧N≤3145731000∧Below w.heap.size w wr) (fun _ i _=>3 - (intOf i).toNat)
 case atStart=>exact⟨0,1,by omega,rfl,rfl,hide rfl,by omega,Below.refl _ _⟩
 case round =>
  obtain⟨k,N,hk,rfl,rfl,hN,hNb,hb⟩:=hrel;by_cases hlt:k < 3
  ·have hlt':(k:Int)≤2:=by omega
   have hbR:=Nat.le_trans (cnt_le_flatten (fR k) p) HL.out;have hbW:=Nat.le_trans (cnt_le_flatten (fW k) p) HL.out;have PS:Hid (prodTo p (k+1)=prodTo p k * ((cnt (fW k) p+1) ^ cnt (fR k) p * fact (cnt (fW k) p))):=hide rfl;have C1:∀ w',RepP w' v p→Calls Try.prog 32 #[v,.int .i64 (k:Int),.bool true] w' fun e w2=>e = .returned (.int .i64 (cnt (fW k) p:Nat))∧Below w'.heap.size w' w2:=fun w' h=>by
    have:=l1Count_any v p k true w' h HL.out hpl;rwa[fRW_true]at this
   have C2:∀ w',RepP w' v p→Calls Try.prog 32 #[v,.int .i64 (k:Int),.bool false] w' fun e w2=>e = .returned (.int .i64 (cnt (fR k) p:Nat))∧Below w'.heap.size w' w2:=fun w' h=>by
    have:=l1Count_any v p k false w' h HL.out hpl;rwa[fRW_false]at this
   generalize hR:cnt (fR k) p=R at *;generalize hW:cnt (fW k) p=W at *;generalize hQ:prodTo p k=Q at *;have D1:=hide C1;have D2:=hide C2
   clear hR hW hQ C1 C2;go_wp2_with (go_at_call 32;(with_reducible refine(D1.out _ (HP.out.below hb)).mono ?_);rintro e w1 ⟨rfl,hb1⟩);have hb:=hb.trans (hb1.mono hb.size);clear hb1
   go_loopw [5,8] (fun q i wr => ∃ t M:Nat,t≤R∧i = .int .i64 t∧q = .int .i64 M∧Hid (cap M=cap (Q * (W+1) ^ t))∧M≤3145731000∧Below w.heap.size w wr) (fun _ i _=>R - (intOf i).toNat)
   case atStart=>exact⟨0,N,by omega,rfl,rfl,hide (by simpa using hN.out),hNb,hb⟩
   case round =>
    clear hb hN hNb;obtain⟨t,M,ht,rfl,rfl,hM,hMb,hb⟩:=hrel;by_cases hgo:t < R∧M≤3000
    ·obtain⟨hlt3,hM3⟩:=hgo
     have hlt3':=nat_of_lt hlt3;have hM3':(M:Int)≤3000:=by omega
     have hmul:M * (W+1)≤3000 * 1048577:=Nat.mul_le_mul hM3 (by omega);have e1:((M * (W+1):Nat):Int)=(M:Int) * (W+1):=by simp
     have hmul2:(M:Int) * (W+1)≤3145731000:=by omega
     have hmul3:0≤(M:Int) * (W+1):=by omega
     have E:Hid (cap (M * (W+1))=cap (Q * (W+1) ^ (t+1))):=hide (by rw[cap_mul' hM.out _ (by omega),Nat.pow_succ,Nat.mul_assoc]);have E1:=hide e1;clear e1;go_wp2_with (go_at_call 32;(with_reducible refine(D2.out _ (HP.out.below hb)).mono ?_);rintro e w1 ⟨rfl,hb1⟩);go_roundw
     case rel=>exact⟨t+1,M * (W+1),by omega,by go_num,by rw[E1.out],E,by omega,hb.trans (hb1.mono hb.size)⟩
     case measure=>simp[intOf];omega
    ·have hM2:Hid (cap M=cap (Q * (W+1) ^ R)):=hide (by
      by_cases h3:3000 < M
      ·obtain⟨m,h1,h2⟩:=pow_mul_rest (a:=W) ht
       rw[h2,← Nat.mul_assoc];exact cap_past hM.out h3 m h1
      ·rw[show R=t by omega];exact hM.out)
     have PS2:Hid (prodTo p (k+1)=(Q * (W+1) ^ R) * fact W):=hide (by rw[PS.out,Nat.mul_assoc]);by_cases hlt3:t < R
     all_goals
      have hM3:t < R→3000 < (M:Int):=fun h=>by omega
      have HM3:=hide hM3;clear hM3
      try (have hM4:3000 < (M:Int):=HM3.out hlt3)
      go_wp2_with (go_at_call 32;(with_reducible refine(D2.out _ (HP.out.below hb)).mono ?_);rintro e w1 ⟨rfl,hb1⟩);have hb:=hb.trans (hb1.mono hb.size);clear hb1;generalize hQ2:Q * (W+1) ^ R=Q2 at *;clear hQ2
      go_loopw [5,9] (fun q i wr => ∃ s L:Nat,1≤s∧s≤W+1∧i = .int .i64 (s+1)∧q = .int .i64 L∧Hid (cap L=cap (Q2 * fact s))∧L≤3145731000∧Hid (s≤W∨s=1)∧Below w.heap.size w wr) (fun _ i _=>W+1 - (intOf i).toNat)
      case atStart=>exact⟨1,M,by omega,by omega,rfl,rfl,hide (by simpa[fact] using hM2.out),hMb,hide (.inr rfl),hb⟩
      case round =>
       clear hb;obtain⟨s,L,hs1,hs2,rfl,rfl,hL,hLb,hsW,hb⟩:=hrel;by_cases hgo2:s+1≤W∧L≤3000
       ·obtain⟨hlt5,hL3⟩:=hgo2
        have hlt5':(s:Int)+1≤W:=by omega
        have hL3':(L:Int)≤3000:=by omega
        have hmul:L * (s+1)≤3000 * 1048577:=Nat.mul_le_mul hL3 (by omega);have e1:((L * (s+1):Nat):Int)=(L:Int) * (s+1):=by simp
        have hmul2:(L:Int) * (s+1)≤3145731000:=by omega
        have hmul3:0≤(L:Int) * (s+1):=by omega
        have E:Hid (cap (L * (s+1))=cap (Q2 * fact (s+1))):=hide (by rw[cap_mul' hL.out _ (by omega),fact,Nat.mul_assoc]);have E1:=hide e1;clear e1;go_wp2_with fail;go_roundw
        case rel=>exact⟨s+1,L * (s+1),by omega,by omega,by go_num,by rw[E1.out],E,by omega,hide (.inl hlt5),hb⟩
        case measure=>simp[intOf];omega
       ·have hL2:Hid (cap L=cap (prodTo p (k+1))):=hide (by
         rw[PS2.out];by_cases h3:3000 < L
         ·rcases hsW.out with h | h
          ·obtain⟨m,h1,h2⟩:=fact_mul h
           rw[h2,← Nat.mul_assoc];exact cap_past hL.out h3 m h1
          ·have hl:=hL.out
           rw[h,show fact 1=1 from rfl,Nat.mul_one]at hl;exact cap_past hl h3 _ (fact_pos W)
         ·by_cases hs:s=W
          ·rw[← hs];exact hL.out
          ·rcases hsW.out with h | h
           ·omega
           ·have h0:W=0:=by omega
            have hl:=hL.out;rw[h]at hl;rw[h0];exact hl)
        by_cases hlt5:s+1≤W
        all_goals
         have hlt5':s+1≤W→3000 < (L:Int):=fun h=>by omega
         have HL3:=hide hlt5';clear hlt5'
         try (have hL4:3000 < (L:Int):=HL3.out hlt5)
         go_wp2_with fail;go_roundw
         case rel=>exact⟨k+1,L,by omega,by go_num,rfl,hL2,hLb,hb⟩
         case measure=>simp[intOf];omega
  ·have e:k=3:=by omega
   subst e;have hN2:Hid (cap N=cap (prodP p)):=hide (by rw[hN.out,PP.out]);by_cases h3:3000 < N
   ·have E:Hid (((cap (prodP p):Nat):Int)=3001):=hide (by rw[← hN2.out];unfold cap;omega)
    have h3':(3000:Int) < N:=by omega
    go_wp2_with fail;go_ret;rw[E.out];exact⟨rfl,hb⟩
   ·have E:Hid (((cap (prodP p):Nat):Int)=N):=hide (by rw[← hN2.out];unfold cap;omega)
    have h3':(N:Int)≤3000:=by omega
    go_wp2_with fail;go_ret;rw[E.out];exact⟨rfl,hb⟩
end Go.Proofs.Ytnkfphndfijcoaa
namespace Go.Proofs.Ytnkfphndfijcoaa
open Go.RowKit
def ByteE:El Int:=⟨1,by decide,fun x=>[.int .u8 x],fun _=>rfl,fun x u h=>by simp at h;subst h;rfl⟩
theorem Rep.byte {w:World}{a:Option Addr}{n c:Nat}{xs:List Int}(h:Rep ByteE w (.slice a n c) xs) {k:Nat}{x:Int}(hx:xs[k]? = some x) :
 ∃ b o,a=some ⟨b,o,none⟩∧b < w.heap.size∧w.cell? ⟨b,o+k,none⟩=some (.int .u8 x):=by
 obtain⟨a',c',hv,_,_,h⟩:=h;simp only[Value.slice.injEq]at hv;obtain⟨rfl,rfl,rfl⟩:=hv;obtain⟨b,o,rfl,h'⟩:=h k x hx;have:=h' 0 _ rfl;simp only[ByteE,Nat.mul_one,Nat.add_zero]at this;exact⟨b,o,rfl,lt_of_cell this,this⟩
structure Rd (w:World) (b:Nat) (a:Option Addr) (c:Nat) (xs:List Int) (p:Int):Prop where
 lt:b < w.heap.size
 c0:w.cell? ⟨b,0,none⟩=some (.slice a xs.length c)
 c1:w.cell? ⟨b,1,none⟩=some (.int .i64 p)
 f1:w.frozen? ⟨b,1,none⟩=false
 rep:Rep ByteE w (.slice a xs.length c) xs
 far:∀ g o,xs≠[]→a=some ⟨g,o,none⟩→g < b
 by':∀ x∈xs,0≤x∧x≤255
 p0:0≤p
theorem Rd.keep {w w':World}{b:Nat}{a:Option Addr}{c:Nat}{xs:List Int}{p:Int}(h:Rd w b a c xs p) {B:Nat}(hb:Below B w w') (hB:b < B):Rd w' b a c xs p:=by
 have e:∀ g o,g < B→w'.cell? ⟨g,o,none⟩=w.cell? ⟨g,o,none⟩:=fun g o hg=>hb.cell (p:=⟨g,o,none⟩) hg;refine⟨Nat.lt_of_lt_of_le h.lt hb.size,(e b 0 hB).trans h.c0,(e b 1 hB).trans h.c1,(hb.frozen (p:=⟨b,1,none⟩) hB).trans h.f1,?_,h.far,h.by',h.p0⟩;obtain⟨a',c',hv,h1,h2,h3⟩:=h.rep;refine⟨a',c',hv,h1,h2,fun i x hx => ?_⟩;obtain⟨g,o,rfl,hi⟩:=h3 i x hx;refine⟨g,o,rfl,fun j u hu => ?_⟩;rw[← hi j u hu];refine e g _ ?_;simp only[Value.slice.injEq]at hv;have:=h.far g o (by intro e;subst e;simp at hx) hv.1;omega
theorem cell_far {w:World}{b j g o:Nat}{v:Value}(hg:g≠b):(w.setCell ⟨b,j,none⟩ v).cell? ⟨g,o,none⟩=w.cell? ⟨g,o,none⟩:=by
 unfold World.cell?;rw[heap_setCell_other w ⟨b,j,none⟩ g v (fun e=>hg (by simpa using e))]
theorem Rd.step {w:World}{b:Nat}{a:Option Addr}{c:Nat}{xs:List Int}{p:Int}(h:Rd w b a c xs p) (q:Int) (hq:0≤q):Rd (w.setCell ⟨b,1,none⟩ (.int .i64 q)) b a c xs q:=by
 have h0:=h.c0;have h1:=h.c1;have h2:=h.f1
 refine⟨by simpa using h.lt,by simp[go_sem,h0],by simp[go_sem,h1],by simp[go_sem,h2],?_,h.far,h.by',hq⟩;obtain⟨a',c',hv,h3,h4,h5⟩:=h.rep;refine⟨a',c',hv,h3,h4,fun i x hx => ?_⟩;obtain⟨g,o,rfl,hi⟩:=h5 i x hx;refine⟨g,o,rfl,fun j u hu => ?_⟩;simp only[Value.slice.injEq]at hv;have:=h.far g o (by intro e;subst e;simp at hx) hv.1;rw[cell_far (by omega)];exact hi j u hu
def RetRd (w:World) (b:Nat) (a:Option Addr) (c:Nat) (xs:List Int) (p K:Int) (Q:Value→World→Prop) (e:Ending) (w':World):Prop:=
 ∃ (v:Value) (p':Int),e = .returned v∧Q v w'∧p'≤p+K∧Rd w' b a c xs p'∧Outside b (b+1) w w'
end Go.Proofs.Ytnkfphndfijcoaa
namespace Go.Proofs.Ytnkfphndfijcoaa
open Go.RowKit
theorem Try.infoInt:(Try.prog.info? 3).map (fun i=>(i.zero,i.size,i.bytes))=some (some (.int .i64 0),1,8):=by kernel_rfl
theorem Own.setInt {T:TypeId}{w:World}{base g n cap:Nat}{xs:List Int}(h:Own IntE T w base (.slice (some ⟨g,0,none⟩) n cap) xs) {k:Nat}{z:Int}(hz:xs[k]? = some z) (x:Int) :
 Own IntE T (w.setCell ⟨g,k,none⟩ (.int .i64 x)) base (.slice (some ⟨g,0,none⟩) n cap) (xs.set k x):=by
 have h0:=h.set (i:=k) (j:=0) x (u:=.int .i64 x) (by decide) hz rfl;simp only[IntE,Nat.mul_one,Nat.add_zero]at h0;exact h0
end Go.Proofs.Ytnkfphndfijcoaa
namespace Go.Proofs.Ytnkfphndfijcoaa
open Go.RowKit
theorem cell_of_block {w w':World}{b:Nat}(h:w'.heap[b]? = w.heap[b]?) (o:Nat):w'.cell? ⟨b,o,none⟩=w.cell? ⟨b,o,none⟩:=by
 unfold World.cell?;rw[h]
def From (lo:Nat) {α:Type}(s:Slc) (us:List α):Prop:=us=[]∨∀ b o,s.a=some ⟨b,o,none⟩→lo≤b
end Go.Proofs.Ytnkfphndfijcoaa
namespace Go.Proofs.Ytnkfphndfijcoaa
open Go.RowKit
theorem Below.next {a b c:World}(h:Below a.heap.size a b) (k:Below b.heap.size b c):Below a.heap.size a c:=h.trans (k.mono h.size)
end Go.Proofs.Ytnkfphndfijcoaa
namespace Go.Proofs.Ytnkfphndfijcoaa
open Go.RowKit
theorem sInstrValid_raw (a b c d:Int) (w:World):Calls Try.prog 61 #[.agg #[.int .i64 a,.int .i64 b,.int .i64 c,.int .i64 d]] w fun e w'=>e = .returned (.bool (insValid ⟨a,b,c,d⟩))∧Below w.heap.size w w':=sInstrValid_any ⟨a,b,c,d⟩ w
theorem l1Shape_any (v:Value) (p:List (List Ins)) (w:World) (hp:RepP w v p) (hl:p.flatten.length≤1048576) :
 Calls Try.prog 36 #[v] w fun e w'=>e = .returned (.bool (shapeOk p))∧Below w.heap.size w w':=by
 obtain⟨a,c,rfl,hc1,hc2,hc3,hp⟩:=hp.open;have HP:=hide hp;clear hp;have HL:=hide hl;clear hl;generalize hn:p.length=n at *;have H:=hide hn;clear hn;by_cases h3:3 < n
 ·have E:Hid (shapeOk p=false):=hide (by unfold shapeOk;rw[H.out];simp;omega)
  have h3':(3:Int) < n:=by omega
  go_enter Try.func36,Try.ntmps36;go_wp2_with fail;go_ret;rw[E.out];exact⟨rfl,Below.refl _ _⟩
 ·have h3':(n:Int)≤3:=by omega
  go_enter Try.func36,Try.ntmps36;go_wp2_with fail
  go_loopw [3,4] (fun r i wr => ∃ j:Nat,j≤n∧i = .int .i64 j∧r = .int .i64 (cnt notFence (p.take j):Nat)∧Hid ((p.take j).all rowOk=true)∧Below w.heap.size w wr) (fun _ i _=>n - (intOf i).toNat)
  case atStart=>exact⟨0,by omega,rfl,by simp[cnt],hide (by simp),Below.refl _ _⟩
  case round =>
   obtain⟨j,hj,rfl,rfl,hok,hb2⟩:=hrel;by_cases hlt2:j < n
   ·obtain⟨wm,rfl⟩:∃ wm:World,wm=wr:=⟨_,rfl⟩
    obtain⟨x,hxk⟩:=get_of_lt (xs:=p) (k:=j) (by rw[H.out];exact hlt2);obtain⟨b,o,ra,rc,rfl,hbl,i0,i1⟩:=(HP.out.below hb2).row hxk;have hlt2':=nat_of_lt hlt2;obtain⟨_,_,_,_,hr2,_,_⟩:=i1.open;have CR:=hide (cnt_take_succ notFence hxk);have hbR:=Nat.le_trans (cnt_take_le notFence p j) HL.out;have hxl:=Nat.le_trans (row_le_flatten hxk) HL.out;have I1:=hide i1;have X:=hide hxk
    clear i1 hxk;generalize hR:cnt notFence (p.take j)=R at *;clear hR;by_cases h7:7 < x.length
    ·have E:Hid (shapeOk p=false):=hide (by
      have:=all_no X.out (by unfold rowOk;simp;omega);unfold shapeOk;simp[this])
     have h7':(7:Int) < x.length:=by omega
     go_wp2_with fail;go_ret;rw[E.out];exact⟨rfl,hb2⟩
    ·have h7':(x.length:Int)≤7:=by omega
     go_wp2_with fail
     go_loopw [3,5] (fun r i wr => ∃ t:Nat,t≤x.length∧i = .int .i64 t∧r = .int .i64 (R+(x.take t).countP notFence:Nat)∧Hid ((x.take t).all insValid=true)∧Below wm.heap.size wm wr) (fun _ i _=>x.length - (intOf i).toNat)
     case atStart=>exact⟨0,by omega,rfl,by simp,hide (by simp),Below.refl _ _⟩
     case round =>
      obtain⟨t,ht,rfl,rfl,hok2,hb3⟩:=hrel;have hbR2:(x.take t).countP notFence≤1048576:=Nat.le_trans List.countP_le_length (by simp;omega);have i0':wr.cell? ⟨b,o+j,none⟩=some (.slice ra x.length rc):=(hb3.cell (p:=⟨b,o+j,none⟩) hbl).trans i0;by_cases hlt3:t < x.length
      ·obtain⟨y,hyk⟩:=get_of_lt (xs:=x) (k:=t) hlt3
       obtain⟨b',o',rfl,hbl',j0,j1,j2,j3⟩:=(I1.out.below hb3).ins hyk;have hlt3':=nat_of_lt hlt3;have CR2:=hide (countP_take_succ notFence hyk);have Y:=hide hyk;clear hyk;have hbl2:b < wr.heap.size:=by have:=hb3.size;omega
       generalize hR2:(x.take t).countP notFence=R2 at *;clear hR2;generalize hv:insValid y=vv at *;have V:=hide hv;clear hv;cases vv
       ·have E:Hid (shapeOk p=false):=hide (by
         have:=all_no X.out (row_no Y.out V.out);unfold shapeOk;simp[this])
        go_wp2_with (go_at_call 61;(with_reducible refine(sInstrValid_raw _ _ _ _ _).mono ?_);rw[V.out];rintro e w3 ⟨rfl,hb4⟩);go_ret;rw[E.out];exact⟨rfl,hb2.trans ((hb3.trans (hb4.mono hb3.size)).mono hb2.size)⟩
       ·have OK3:=hide (all_take_succ hok2.out Y.out V.out)
        have CR3:Hid ((x.take (t+1)).countP notFence=R2+if (y.op != 4)=true then 1 else 0):=CR2;clear CR2;by_cases h4:y.op=4
        ·have g4:(y.op != 4)=false:=by simp[h4]
         have CR4:Hid ((x.take (t+1)).countP notFence=R2):=hide (by have h:=CR3.out;rw[g4]at h;simpa using h);clear h4;go_wp2_with (go_at_call 61;(with_reducible refine(sInstrValid_raw _ _ _ _ _).mono ?_);rw[V.out];rintro e w3 ⟨rfl,hb4⟩;obtain⟨hc4,hf4⟩:=bcell hb4);go_roundw
         case rel=>exact⟨t+1,by omega,by go_num,by rw[CR4.out];simp,OK3,hb3.trans (hb4.mono hb3.size)⟩
         case measure=>simp[intOf];omega
        ·have g4:(y.op != 4)=true:=by simp[h4]
         have CR4:Hid ((x.take (t+1)).countP notFence=R2+1):=hide (by have h:=CR3.out;rw[g4]at h;simpa using h);clear h4;go_wp2_with (go_at_call 61;(with_reducible refine(sInstrValid_raw _ _ _ _ _).mono ?_);rw[V.out];rintro e w3 ⟨rfl,hb4⟩;obtain⟨hc4,hf4⟩:=bcell hb4);go_roundw
         case rel=>exact⟨t+1,by omega,by go_num,by rw[CR4.out];simp;omega,OK3,hb3.trans (hb4.mono hb3.size)⟩
         case measure=>simp[intOf];omega
      ·have e:t=x.length:=by omega
       have CR4:Hid (cnt notFence (p.take (j+1))=R+(x.take t).countP notFence):=by have h:=CR.out;rwa[e,List.take_length]
       have OK4:Hid ((p.take (j+1)).all rowOk=true):=hide (all_take_succ hok.out X.out (by
        have h:=hok2.out;rw[e,List.take_length]at h;unfold rowOk;rw[h];simp;omega))
       generalize hR2:(x.take t).countP notFence=R2 at *;clear hR2 e;go_wp2_with fail;go_roundw
       case rel=>exact⟨j+1,by omega,by go_num,by rw[CR4.out],OK4,hb2.trans (hb3.mono hb2.size)⟩
       case measure=>simp[intOf];omega
   ·have e:j=n:=by omega
    have hpt:p.take j=p:=List.take_of_length_le (by rw[H.out];omega);rw[hpt]at hok ⊢;clear hpt;have E:Hid (shapeOk p=decide ((cnt notFence p:Int)≤12)):=hide (by
     have hle:decide (n≤3)=true:=decide_eq_true (by omega);unfold shapeOk;rw[hok.out,H.out,hle,Bool.eq_iff_iff];simp;omega)
    go_wp2_with fail;go_ret;rw[E.out];exact⟨rfl,hb2⟩
theorem sProgramValid_any (v:Value) (p:List (List Ins)) (w:World) (hp:RepP w v p) (hl:p.flatten.length≤1048576) (hpl:p.length≤1048576) :
 Calls Try.prog 21 #[v] w fun e w'=>e = .returned (.bool (progValid p))∧Below w.heap.size w w':=by
 have PV:Hid (progValid p=(shapeOk p&&decide (1≤p.length)&&decide (prodP p≤3000))):=hide rfl;have HL:=hide hl;clear hl;obtain⟨a,c,hv,hc1,hc2,hc3,_⟩:=hp.open;have HP:=hide hp;clear hp;have HV:=hide hv;subst hv;generalize hn:p.length=n at *;have H:=hide hn;clear hn;have HS:=hide (fun w' h=>l1Shape_any (.slice a n c) p w' h HL.out);generalize hs:shapeOk p=s at *;have S:=hide hs;clear hs;cases s
 ·go_enter Try.func21,Try.ntmps21
  go_wp2_with (go_at_call 36;(with_reducible refine(HS.out _ HP.out).mono ?_);rintro e w1 ⟨rfl,hb1⟩);go_ret;rw[PV.out];exact⟨rfl,hb1⟩
 ·by_cases h0:0 < n
  ·have h0':(0:Int) < n:=by omega
   have HE:=hide (fun w' h=>l1Execs_any (.slice a n c) p w' h HL.out (by rw[H.out];omega));have hcap:=cap_le (prodP p);have HCP:Hid (decide (((cap (prodP p):Nat):Int)≤3000)=decide (prodP p≤3000)):=hide (by rw[Bool.eq_iff_iff];simp only[decide_eq_true_eq];unfold cap;omega);generalize hC:cap (prodP p)=C at *;clear hC;go_enter Try.func21,Try.ntmps21;go_wp2_with (first | (go_at_call 36;(with_reducible refine(HS.out _ HP.out).mono ?_);rintro e w1 ⟨rfl,hb1⟩) | (go_at_call 19;(with_reducible refine(HE.out _ (HP.out.below hb1)).mono ?_);rintro e w2 ⟨rfl,hb2⟩));go_ret;rw[PV.out,HCP.out];exact⟨by rw[show decide (1≤n)=true from decide_eq_true h0];simp,hb1.trans (hb2.mono hb1.size)⟩
  ·have h0':decide ((0:Int) < n)=false:=by simp;omega
   go_enter Try.func21,Try.ntmps21;go_wp2_with (go_at_call 36;(with_reducible refine(HS.out _ HP.out).mono ?_);rintro e w1 ⟨rfl,hb1⟩);go_ret;rw[PV.out];exact⟨by rw[show decide (1≤n)=false from decide_eq_false (by omega)];simp,hb1⟩
end Go.Proofs.Ytnkfphndfijcoaa
namespace Go.Proofs.Ytnkfphndfijcoaa
open Go.RowKit
end Go.Proofs.Ytnkfphndfijcoaa