/-
  Plain: the gaps of a program.
-/
import Derived.Test.YtlddmagfbcomgaaGreatProg
import Derived.WalkKit
import Derived.WalkSpells
import Derived.WalkLawsBesides
import Derived.BigQuiet
set_option maxHeartbeats 6400000
set_option maxRecDepth 100000
namespace Go.Proofs.YtlddmagfbcomgaaGreat
open Go.RowKit
theorem hide {p:Prop} (h:p):Hid p:=h
theorem lt_of_cell {w:World} {b o:Nat} {v:Value} (h:w.cell? ⟨b,o,none⟩=some v):b < w.heap.size:=World.block_lt_of_cell? w ⟨b,o,none⟩ h
theorem below_of_grown {w w':World} (hg:w.grownBy w' none):Below w.heap.size w w':=(Below.refl _ _).grown hg (Nat.le_refl _) (fun _ h=>by cases h)
theorem bcell {W w1:World} (hb:Below W.heap.size W w1):(∀ b o,b < W.heap.size→w1.cell? ⟨b,o,none⟩=W.cell? ⟨b,o,none⟩)∧(∀ b o,b < W.heap.size→w1.frozen? ⟨b,o,none⟩=W.frozen? ⟨b,o,none⟩):=
 ⟨fun b o h=>hb.cell (p:=⟨b,o,none⟩) h,fun b o h=>hb.frozen (p:=⟨b,o,none⟩) h⟩
structure BW (w:World) where
 val:World
 prop:Below w.heap.size w val
instance BW.some (w:World):Nonempty (BW w):=⟨⟨w,Below.refl _ _⟩⟩
@[go_sem] theorem BW.cell {w:World} (x:BW w) {b o:Nat} (h:b < w.heap.size):x.val.cell? ⟨b,o,none⟩=w.cell? ⟨b,o,none⟩:=x.prop.cell (p:=⟨b,o,none⟩) h
@[go_sem] theorem BW.frozen {w:World} (x:BW w) {b o:Nat} (h:b < w.heap.size):x.val.frozen? ⟨b,o,none⟩=w.frozen? ⟨b,o,none⟩:=x.prop.frozen (p:=⟨b,o,none⟩) h
theorem wp_region_bw {P:Program} {id:Nat} {Q:Exit→Act→World→Prop} {a:Act} {w:World} {l:List Oper} (hm:P.follows .mixedOrders=true) (hB:Region.lexB .any l.toArray=true)
 (h:wpQuiet P l.toArray (fun w' => ∃ x:BW w,w'=x.val) (fun a' => ∀ w',Below w.heap.size w w'→Q .normal a' w') l a):(Code.region id l.toArray true).wp P Q a w:=
 wp_region_quiet (C:=fun w' => ∃ x:BW w,w'=x.val) hm hB ⟨⟨_,(Below.refl w.heap.size w).drew⟩,rfl⟩ (by
  have e:(fun a':Act => ∀ w',(∃ x:BW w,w'=x.val)→Q .normal a' w')=(fun a' => ∀ w',Below w.heap.size w w'→Q .normal a' w'):=by
   funext a'
   exact propext ⟨fun h w' hb=>h w' ⟨⟨w',hb⟩,rfl⟩,fun h w' ⟨x,hx⟩=>hx ▸ h _ x.prop⟩
  rw [e];simpa using h)
theorem Calls.bw {P:Program} {f:FuncId} {args:Array Value} {w:World} {x:BW w} {v:Value}
 (h:Calls P f args x.val fun e w'=>e = .returned v∧Below x.val.heap.size x.val w'):Calls P f args x.val fun e w''=>e = .returned v∧∃ y:BW w,w''=y.val:=
 h.mono fun _ w' ⟨he,hb⟩=>⟨he,⟨w',x.prop.trans (hb.mono x.prop.size)⟩,rfl⟩
theorem Calls.bw_same {P:Program} {f:FuncId} {args:Array Value} {w:World} {x:BW w} {v:Value}
 (h:Calls P f args x.val fun e w'=>e = .returned v∧x.val=w'):Calls P f args x.val fun e w''=>e = .returned v∧∃ y:BW w,w''=y.val:=
 h.mono fun _ _ ⟨he,hb⟩=>⟨he,x,hb.symm⟩
structure El (α:Type) where
 sz:Nat
 pos:0 < sz
 c:α→List Value
 len:∀ x,(c x).length=sz
 one:∀ x u,u∈c x→u.oneCell'=true
section
variable {α : Type} (E : El α)
theorem El.length (xs:List α):(xs.flatMap E.c).length=xs.length * E.sz:=by
 induction xs with
 | nil=>simp
 | cons x xs ih=>simp [E.len,ih,Nat.add_mul,Nat.add_comm]
theorem El.get (xs:List α):∀ (i j:Nat),j < E.sz→(xs.flatMap E.c)[i * E.sz+j]? = (xs[i]?).bind fun x=>(E.c x)[j]?:=by
 induction xs with
 | nil=>simp
 | cons x xs ih =>
  intro i j hj
  rw [List.flatMap_cons]
  cases i with
  | zero=>rw [List.getElem?_append_left (by rw [E.len];omega)];simp
  | succ i =>
   rw [List.getElem?_append_right (by rw [E.len,Nat.add_mul];omega),E.len,show (i+1) * E.sz+j - E.sz=i * E.sz+j by rw [Nat.add_mul];omega,ih i j hj]
   simp
theorem El.set (xs:List α):∀ (i j:Nat) (x y:α) (u:Value),j < E.sz→xs[i]? = some x→E.c y=(E.c x).set j u→(xs.flatMap E.c).set (i * E.sz+j) u=(xs.set i y).flatMap E.c:=by
 induction xs with
 | nil=>intro i j x y u _ h;simp at h
 | cons x0 xs ih =>
  intro i j x y u hj hx hy
  rw [List.flatMap_cons]
  cases i with
  | zero =>
   simp at hx;subst hx
   rw [List.set_append_left _ _ (by rw [E.len];omega)]
   simp [hy]
  | succ i =>
   rw [List.set_append_right _ _ (by rw [E.len,Nat.add_mul];omega),E.len,show (i+1) * E.sz+j - E.sz=i * E.sz+j by rw [Nat.add_mul];omega,ih i j x y u hj (by simpa using hx) hy]
   simp
def Rep (w:World) (v:Value) (xs:List α):Prop:=
 ∃ a c,v = .slice a xs.length c∧xs.length≤c∧c≤maxLen∧∀ i x,xs[i]? = some x→∃ b o,a=some ⟨b,o,none⟩∧∀ j u,(E.c x)[j]? = some u→w.cell? ⟨b,o+i * E.sz+j,none⟩=some u
variable {E}
theorem El.first (x:α):∃ u,(E.c x)[0]? = some u:=⟨(E.c x)[0]'(by rw [E.len];exact E.pos),by simp⟩
theorem Rep.below {w w':World} {v:Value} {xs:List α} (h:Rep E w v xs) (hb:Below w.heap.size w w'):Rep E w' v xs:=by
 obtain ⟨a,c,rfl,h1,h2,h⟩:=h
 refine ⟨a,c,rfl,h1,h2,fun i x hx => ?_⟩
 obtain ⟨b,o,rfl,hi⟩:=h i x hx
 refine ⟨b,o,rfl,fun j u hu => ?_⟩
 have:=hi j u hu
 rw [← this]
 exact hb.cell (p:=⟨b,_,none⟩) (lt_of_cell this)
theorem Rep.nil (w:World):Rep E w (.slice none 0 0) []:=⟨none,0,rfl,Nat.le_refl _,Nat.zero_le _,fun i x h=>by simp at h⟩
def Own (E:El α) (T:TypeId) (w:World) (base:Nat) (v:Value) (xs:List α):Prop:=w.ownsRow base T E.sz v xs.length (xs.flatMap E.c)
theorem Own.shape {T:TypeId} {w:World} {base:Nat} {v:Value} {xs:List α} (h:Own E T w base v xs):(v = .slice none 0 0∧xs=[])∨∃ g cap,v = .slice (some ⟨g,0,none⟩) xs.length cap∧base≤g∧g < w.heap.size∧xs.length≤cap∧cap≤maxLen:=by
 rcases h.2 with ⟨h1,h2⟩ | ⟨g,cap,cur,h1,h2,h3,h4,h5,_⟩
 ·exact .inl ⟨h1,List.eq_nil_of_length_eq_zero h2⟩
 ·exact .inr ⟨g,cap,h1,h2,(Array.getElem?_eq_some_iff.1 h3).1,h4,h5⟩
theorem Own.cell {T:TypeId} {w:World} {base g n cap:Nat} {xs:List α} (h:Own E T w base (.slice (some ⟨g,0,none⟩) n cap) xs) {i j:Nat} {x:α} {u:Value} (hx:xs[i]? = some x) (hu:(E.c x)[j]? = some u):w.cell? ⟨g,i * E.sz+j,none⟩=some u:=by
 have hj:j < E.sz:=by rw [← E.len x];exact (List.getElem?_eq_some_iff.1 hu).1
 have hi:i < xs.length:=(List.getElem?_eq_some_iff.1 hx).1
 have hn:n=xs.length:=by rcases h.2 with ⟨h1,_⟩ | ⟨g,cap,cur,h1,_⟩ <;> simp at h1;exact h1.2.1
 subst hn
 rw [World.ownsRow.cellAt h (i * E.sz+j) (by
  have:(i+1) * E.sz≤xs.length * E.sz:=Nat.mul_le_mul_right _ hi
  rw [Nat.add_mul] at this;omega),E.get xs i j hj,hx]
 exact hu
theorem Own.len {T:TypeId} {w:World} {base n cap:Nat} {a:Option Addr} {xs:List α} (h:Own E T w base (.slice a n cap) xs):n=xs.length:=by
 rcases h.2 with ⟨h1,h2⟩ | ⟨g,cap,cur,h1,_⟩
 ·simp at h1;omega
 ·simp at h1;exact h1.2.1
theorem Own.frozen {T:TypeId} {w:World} {base g n cap:Nat} {xs:List α} (h:Own E T w base (.slice (some ⟨g,0,none⟩) n cap) xs) (j:Nat):w.frozen? ⟨g,j,none⟩=false:=by
 have hn:=h.len
 subst hn
 exact World.ownsRow.frozenAt h j
theorem Own.set {T:TypeId} {w:World} {base g n cap:Nat} {xs:List α} (h:Own E T w base (.slice (some ⟨g,0,none⟩) n cap) xs) {i j:Nat} {x:α} (y:α) {u:Value} (hj:j < E.sz) (hx:xs[i]? = some x) (hy:E.c y=(E.c x).set j u) :
 Own E T (w.setCell ⟨g,i * E.sz+j,none⟩ u) base (.slice (some ⟨g,0,none⟩) n cap) (xs.set i y):=by
 have hn:=h.len
 subst hn
 have hs:=(World.ownsRow.stored h (i * E.sz+j) u).1
 unfold Own
 rw [List.length_set,← E.set xs i j x y u hj hx hy]
 exact hs
theorem Own.rep {T:TypeId} {w:World} {base:Nat} {v:Value} {xs:List α} (h:Own E T w base v xs):Rep E w v xs:=by
 rcases h.shape with ⟨rfl,rfl⟩ | ⟨g,cap,rfl,h1,h2,h3,h4⟩
 ·exact Rep.nil w
 ·refine ⟨_,_,rfl,h3,h4,fun i x hx=>⟨g,0,rfl,fun j u hu => ?_⟩⟩
  rw [Nat.zero_add]
  exact h.cell hx hu
theorem Own.kept {T:TypeId} {w w':World} {base B:Nat} {v:Value} {xs:List α} (h:Own E T w base v xs) (hb:Below B w w') (hB:∀ k,v.ownBlock=some k→k < B):Own E T w' base v xs:=by
 refine ⟨h.1, ?_⟩
 rcases h.2 with hn | ⟨g,cap,cur,rfl,hb1,hgg,rest⟩
 ·exact .inl hn
 ·exact .inr ⟨g,cap,cur,rfl,hb1,(hb.block g (hB g rfl)).trans hgg,rest⟩
theorem Own.below {T:TypeId} {w w':World} {base:Nat} {v:Value} {xs:List α} (h:Own E T w base v xs) (hb:Below w.heap.size w w'):Own E T w' base v xs:=
 h.kept hb fun k hk=>(World.ownsRow.lt h k hk).2
theorem Own.grown {T:TypeId} {w w':World} {base:Nat} {row:Option Nat} {v:Value} {xs:List α} (h:Own E T w base v xs) (hg:w.grownBy w' row) (hne:v.ownBlock=none∨v.ownBlock≠row):Own E T w' base v xs:=World.ownsRow.kept h hg hne
theorem Own.alloc {T:TypeId} {w:World} {base:Nat} {v:Value} {xs:List α} (h:Own E T w base v xs) (o:Obj):Own E T (w.alloc o) base v xs:=World.ownsRow.alloc h o
theorem Own.nil (T:TypeId) (w:World) (base:Nat):Own E T w base (.slice none 0 0) []:=World.ownsRow_nil _ _ _ _
theorem Own.empty (T:TypeId) (w:World) {base:Nat} (hb:base≤w.heap.size):Own E T (w.alloc (.cells #[] T)) base (.slice (some ⟨w.heap.size,0,none⟩) 0 0) []:=World.ownsRow_made w #[] 0 hb (by unfold maxLen;omega) (by simp)
theorem Own.mono {T:TypeId} {w:World} {base base':Nat} {v:Value} {xs:List α} (h:Own E T w base v xs) (hb:base'≤base):Own E T w base' v xs:=by
 refine ⟨h.1, ?_⟩
 rcases h.2 with hn | ⟨g,cap,cur,rfl,hb1,rest⟩
 ·exact .inl hn
 ·exact .inr ⟨g,cap,cur,rfl,Nat.le_trans hb hb1,rest⟩
theorem made_eq (z:α) (zv:Value) (hz:zv.cells.toList=E.c z) (n:Nat):(madeCells zv.cells (n * E.sz)).toList=(List.replicate n z).flatMap E.c:=by
 have hsz:zv.cells.size=E.sz:=by rw [← Array.length_toList,hz,E.len]
 apply List.ext_getElem?
 intro k
 have hk:=Nat.div_add_mod k E.sz
 have hm:k % E.sz < E.sz:=Nat.mod_lt _ E.pos
 have hk':k=k / E.sz * E.sz+k % E.sz:=by rw [Nat.mul_comm];exact hk.symm
 by_cases h:k < n * E.sz
 ·have hd:k / E.sz < n:=Nat.div_lt_of_lt_mul (by rw [Nat.mul_comm];exact h)
  have hr:((List.replicate n z).flatMap E.c)[k]? = (E.c z)[k % E.sz]?:=by
   conv=>lhs;rw [hk']
   rw [E.get _ _ _ hm,List.getElem?_replicate,if_pos hd];rfl
  rw [hr,← hz]
  simp only [madeCells,Array.toList_map,List.getElem?_map,Array.toList_range,List.getElem?_range h,Option.map_some,hsz]
  rw [Array.getElem?_toList,Array.getElem?_eq_getElem (by omega)]
  rw [getElem!_pos zv.cells (k % E.sz) (by omega)]
 ·rw [List.getElem?_eq_none (by rw [Array.length_toList,size_madeCells];omega),List.getElem?_eq_none (by rw [E.length];simp;omega)]
end
def IntE:El Int:=⟨1,by decide,fun x=>[.int .i64 x],fun _=>rfl,fun x u h=>by simp at h;subst h;rfl⟩
structure Slc where
 a:Option Addr
 n:Nat
 cap:Nat
abbrev Slc.v (s:Slc):Value:=.slice s.a s.n s.cap
def SlcE:El Slc:=⟨1,by decide,fun x=>[x.v],fun _=>rfl,fun x u h=>by simp at h;subst h;rfl⟩
structure Ins where
 op:Int
 loc:Int
 reg:Int
 val:Int
deriving DecidableEq
abbrev Ins.v (x:Ins):Value:=.agg #[.int .i64 x.op, .int .i64 x.loc, .int .i64 x.reg, .int .i64 x.val]
def InsE:El Ins:=⟨4,by decide,fun x=>[.int .i64 x.op, .int .i64 x.loc, .int .i64 x.reg, .int .i64 x.val],fun _=>rfl,fun x u h=>by simp at h;rcases h with rfl | rfl | rfl | rfl <;> rfl⟩
theorem nat_of_lt {n k:Nat} (h:k < n):(k:Int) < n:=by omega
theorem Rep.ins {w:World} {a:Option Addr} {n c:Nat} {xs:List Ins} (h:Rep InsE w (.slice a n c) xs) {k:Nat} {x:Ins} (hx:xs[k]? = some x) :
 ∃ b o,a=some ⟨b,o,none⟩∧b < w.heap.size∧w.cell? ⟨b,o+k * 4,none⟩=some (.int .i64 x.op)∧w.cell? ⟨b,o+k * 4+1,none⟩=some (.int .i64 x.loc) ∧
  w.cell? ⟨b,o+k * 4+2,none⟩=some (.int .i64 x.reg)∧w.cell? ⟨b,o+k * 4+3,none⟩=some (.int .i64 x.val):=by
 obtain ⟨a',c',hv,_,_,h⟩:=h
 simp only [Value.slice.injEq] at hv
 obtain ⟨rfl,rfl,rfl⟩:=hv
 obtain ⟨b,o,rfl,h'⟩:=h k x hx
 exact ⟨b,o,rfl,lt_of_cell (h' 0 _ rfl),h' 0 _ rfl,h' 1 _ rfl,h' 2 _ rfl,h' 3 _ rfl⟩
theorem Rep.int {w:World} {a:Option Addr} {n c:Nat} {xs:List Int} (h:Rep IntE w (.slice a n c) xs) {k:Nat} {x:Int} (hx:xs[k]? = some x) :
 ∃ b o,a=some ⟨b,o,none⟩∧b < w.heap.size∧w.cell? ⟨b,o+k,none⟩=some (.int .i64 x):=by
 obtain ⟨a',c',hv,_,_,h⟩:=h
 simp only [Value.slice.injEq] at hv
 obtain ⟨rfl,rfl,rfl⟩:=hv
 obtain ⟨b,o,rfl,h'⟩:=h k x hx
 have:=h' 0 _ rfl
 simp only [IntE,Nat.mul_one,Nat.add_zero] at this
 exact ⟨b,o,rfl,lt_of_cell this,this⟩
theorem Rep.slc {w:World} {a:Option Addr} {n c:Nat} {xs:List Slc} (h:Rep SlcE w (.slice a n c) xs) {k:Nat} {x:Slc} (hx:xs[k]? = some x) :
 ∃ b o,a=some ⟨b,o,none⟩∧b < w.heap.size∧w.cell? ⟨b,o+k,none⟩=some (.slice x.a x.n x.cap):=by
 obtain ⟨a',c',hv,_,_,h⟩:=h
 simp only [Value.slice.injEq] at hv
 obtain ⟨rfl,rfl,rfl⟩:=hv
 obtain ⟨b,o,rfl,h'⟩:=h k x hx
 have:=h' 0 _ rfl
 simp only [SlcE,Nat.mul_one,Nat.add_zero] at this
 exact ⟨b,o,rfl,lt_of_cell this,this⟩
theorem Rep.open {α:Type} {E:El α} {w:World} {v:Value} {xs:List α} (h:Rep E w v xs):∃ a c,v = .slice a xs.length c∧xs.length≤c∧xs.length≤9223372036854775807∧c≤maxLen∧Rep E w (.slice a xs.length c) xs:=by
 obtain ⟨a,c,rfl,h1,h2,h3⟩:=h
 exact ⟨a,c,rfl,h1,by unfold maxLen at h2;omega,h2,a,c,rfl,h1,h2,h3⟩
def Rep2 {α:Type} (E:El α) (w:World) (v:Value) (p:List (List α)):Prop:=
 ∃ us:List Slc,us.length=p.length∧Rep SlcE w v us∧∀ (i:Nat) (u:Slc) (r:List α),us[i]? = some u→p[i]? = some r→Rep E w u.v r
theorem Rep2.below {α:Type} {E:El α} {w w':World} {v:Value} {p:List (List α)} (h:Rep2 E w v p) (hb:Below w.heap.size w w'):Rep2 E w' v p:=by
 obtain ⟨us,h1,h2,h3⟩:=h
 exact ⟨us,h1,h2.below hb,fun i u r hu hr=>(h3 i u r hu hr).below hb⟩
theorem Rep2.row {α:Type} {E:El α} {w:World} {a:Option Addr} {n c:Nat} {p:List (List α)} (h:Rep2 E w (.slice a n c) p) {k:Nat} {r:List α} (hr:p[k]? = some r) :
 ∃ b o a' c',a=some ⟨b,o,none⟩∧b < w.heap.size∧w.cell? ⟨b,o+k,none⟩=some (.slice a' r.length c')∧Rep E w (.slice a' r.length c') r:=by
 obtain ⟨us,h1,h2,h3⟩:=h
 obtain ⟨u,hu⟩:∃ u,us[k]? = some u:=⟨us[k]'(by rw [h1];exact (List.getElem?_eq_some_iff.1 hr).1),by simp⟩
 obtain ⟨b,o,rfl,hb,hc⟩:=h2.slc hu
 have hrow:=h3 k u r hu hr
 obtain ⟨a',c',hv,_⟩:=hrow.open
 simp only [Slc.v,Value.slice.injEq] at hv
 obtain ⟨e1,e2,e3⟩:=hv
 refine ⟨b,o,a',c',rfl,hb,by rw [hc,e1,e2,e3], ?_⟩
 rw [← e1,← e3,← e2];exact hrow
theorem Rep2.open {α:Type} {E:El α} {w:World} {v:Value} {p:List (List α)} (h:Rep2 E w v p):∃ a c,v = .slice a p.length c∧p.length≤c∧p.length≤9223372036854775807∧c≤maxLen∧Rep2 E w (.slice a p.length c) p:=by
 obtain ⟨us,h1,h2,h3⟩:=h
 obtain ⟨a,c,rfl,h4,h5,h6,h7⟩:=h2.open
 refine ⟨a,c,by rw [h1],by rw [← h1];exact h4,by rw [← h1];exact h5,h6,us,h1, ?_,h3⟩
 rw [← h1];exact h7
theorem news_alloc {w:World} {l:List Value} {T:TypeId}:∀ (j:Nat) (u:Value),l[j]? = some u→(w.alloc (.cells l.toArray T)).cell? ⟨w.heap.size,0+j,none⟩=some u:=by
 intro j u h
 rw [Nat.zero_add,cell_of_row _ _ j l.toArray T (0,0) (heap_alloc_new w _)]
 simpa using h
theorem below_app {α:Type} {E:El α} {T:TypeId} {w wr w1:World} {o:Obj} {v:Value} {xs:List α} (hb:Below w.heap.size w wr) (hown:Own E T wr w.heap.size v xs) (hg:(wr.alloc o).grownBy w1 v.ownBlock):Below w.heap.size w w1:=
 (hb.alloc hb.size o).grown hg (by have:=hb.size;simp;omega) (fun k hk=>(World.ownsRow.lt hown k hk).1)
theorem get_of_lt {α:Type} {xs:List α} {k:Nat} (h:k < xs.length):∃ x,xs[k]? = some x:=⟨xs[k],by simp⟩
theorem take_eq_succ {α:Type} {xs ys:List α} {k:Nat} {x y:α} (h:xs.take k=ys.take k) (hx:xs[k]? = some x) (hy:ys[k]? = some y) (e:x=y):xs.take (k+1)=ys.take (k+1):=by
 rw [List.take_add_one,List.take_add_one,h,hx,hy,e]
theorem take_all_eq {α:Type} {xs ys:List α} {k:Nat} (h:xs.take k=ys.take k) (hx:xs.length≤k) (hy:ys.length≤k):xs=ys:=by
 rwa [List.take_of_length_le hx,List.take_of_length_le hy] at h
theorem ne_of_get {α:Type} {xs ys:List α} {k:Nat} {x y:α} (hx:xs[k]? = some x) (hy:ys[k]? = some y) (e:x≠y):xs≠ys:=by
 intro h;subst h;rw [hx] at hy;exact e (Option.some.inj hy)
theorem set_pad {α:Type} (xs:List α) (z:α) {k:Nat} {x:α} (hx:xs[k]? = some x):(xs.take k++List.replicate (xs.length - k) z).set k x=xs.take (k+1)++List.replicate (xs.length - (k+1)) z:=by
 have hk:k < xs.length:=(List.getElem?_eq_some_iff.1 hx).1
 rw [List.set_append_right _ _ (by rw [List.length_take];omega),List.length_take,Nat.min_eq_left (by omega),Nat.sub_self,
  show xs.length - k=(xs.length - (k+1))+1 by omega,List.replicate_succ,List.set_cons_zero,List.take_add_one,hx]
 simp
theorem length_pad {α:Type} (xs:List α) (z:α) {k:Nat} (hk:k≤xs.length):(xs.take k++List.replicate (xs.length - k) z).length=xs.length:=by
 simp;omega
theorem get_pad {α:Type} (xs:List α) (z:α) {k:Nat} (hk:k < xs.length):(xs.take k++List.replicate (xs.length - k) z)[k]? = some z:=by
 rw [List.getElem?_append_right (by simp;omega),List.length_take,Nat.min_eq_left (by omega),Nat.sub_self,List.getElem?_replicate,if_pos (by omega)]
theorem pad_all {α:Type} (xs:List α) (z:α) {k:Nat} (hk:xs.length≤k):xs.take k++List.replicate (xs.length - k) z=xs:=by
 rw [List.take_of_length_le hk,show xs.length - k=0 by omega];simp
def Own2 {α:Type} (E:El α) (T1 T2:TypeId) (w:World) (base:Nat) (v:Value) (p:List (List α)):Prop:=
 ∃ us:List Slc,us.length=p.length∧Own SlcE T1 w base v us∧(∀ (i:Nat) (u:Slc) (r:List α),us[i]? = some u→p[i]? = some r→Own E T2 w base u.v r) ∧
  (∀ (i j:Nat) (u u':Slc),us[i]? = some u→us[j]? = some u'→i≠j→∀ k,u.v.ownBlock=some k→u'.v.ownBlock≠some k) ∧
  (∀ (i:Nat) (u:Slc),us[i]? = some u→∀ k,u.v.ownBlock=some k→v.ownBlock≠some k)
theorem Own.toSlc {α:Type} {E:El α} {T:TypeId} {w:World} {base:Nat} {v:Value} {xs:List α} (h:Own E T w base v xs):∃ u:Slc,v=u.v∧u.n=xs.length:=by
 rcases h.shape with ⟨rfl,rfl⟩ | ⟨g,cap,rfl,_⟩
 ·exact ⟨⟨none,0,0⟩,rfl,rfl⟩
 ·exact ⟨⟨_,_,_⟩,rfl,rfl⟩
section
variable {α : Type} {E : El α} {T1 T2 : TypeId}
theorem Own2.below {w w':World} {base:Nat} {v:Value} {p:List (List α)} (h:Own2 E T1 T2 w base v p) (hb:Below w.heap.size w w'):Own2 E T1 T2 w' base v p:=by
 obtain ⟨us,h1,h2,h3,h4,h5⟩:=h
 exact ⟨us,h1,h2.below hb,fun i u r hu hr=>(h3 i u r hu hr).below hb,h4,h5⟩
theorem Own2.made {w:World} {base g n:Nat} (h:Own SlcE T1 w base (.slice (some ⟨g,0,none⟩) n n) (List.replicate n ⟨none,0,0⟩)):Own2 E T1 T2 w base (.slice (some ⟨g,0,none⟩) n n) (List.replicate n []):=by
 refine ⟨_,by simp,h, ?_, ?_, ?_⟩
 ·intro i u r hu hr
  rw [List.getElem?_replicate] at hu hr
  split at hu
  ·rename_i hi;rw [if_pos hi] at hr;simp at hu hr;subst hu;subst hr;exact World.ownsRow_nil _ _ _ _
  ·simp at hu
 ·intro i j u u' hu _ _ k hk
  rw [List.getElem?_replicate] at hu
  split at hu <;> simp at hu
  subst hu;simp [Value.ownBlock] at hk
 ·intro i u hu k hk
  rw [List.getElem?_replicate] at hu
  split at hu <;> simp at hu
  subst hu;simp [Value.ownBlock] at hk
theorem Own2.put {w w1:World} {base g n cap:Nat} {p:List (List α)} (h:Own2 E T1 T2 w base (.slice (some ⟨g,0,none⟩) n cap) p) (hb:Below w.heap.size w w1) (hbase:base≤w.heap.size) {k:Nat} {r:List α} {u:Value} (hk:k < p.length)
 (hu:Own E T2 w1 w.heap.size u r):Own2 E T1 T2 (w1.setCell ⟨g,k,none⟩ u) base (.slice (some ⟨g,0,none⟩) n cap) (p.set k r):=by
 obtain ⟨us,h1,h2,h3,h4,h5⟩:=h
 obtain ⟨s,rfl,hs⟩:=hu.toSlc
 obtain ⟨x,hx⟩:=get_of_lt (xs:=us) (k:=k) (by omega)
 have hg:g < w.heap.size:=(World.ownsRow.lt h2 g rfl).2
 have h2':=(h2.below hb).set (i:=k) (j:=0) s (u:=s.v) (by decide) hx rfl
 simp only [SlcE,Nat.mul_one,Nat.add_zero] at h2'
 have hgrown:w1.grownBy (w1.setCell ⟨g,k,none⟩ s.v) (some g):=⟨rfl,rfl,rfl,by simp,fun q _ hq=>heap_setCell_other w1 ⟨g,k,none⟩ q s.v (fun e=>hq (by simp [e]))⟩
 have hnew:∀ q,s.v.ownBlock=some q→w.heap.size≤q:=fun q hq=>(World.ownsRow.lt hu q hq).1
 have hold:∀ (i:Nat) (u':Slc),us[i]? = some u'→∀ q,u'.v.ownBlock=some q→q < w.heap.size:=fun i u' hi q hq=>by
  obtain ⟨r',hr'⟩:=get_of_lt (xs:=p) (k:=i) (by have:=(List.getElem?_eq_some_iff.1 hi).1;omega)
  exact (World.ownsRow.lt (h3 i u' r' hi hr') q hq).2
 have split:∀ (i:Nat) (u':Slc),(us.set k s)[i]? = some u'→(i=k∧u'=s)∨(i≠k∧us[i]? = some u'):=fun i u' hi=>by
  rw [List.getElem?_set] at hi
  by_cases e:k=i
  ·subst e;rw [if_pos rfl,if_pos (by omega)] at hi;simp at hi;exact .inl ⟨rfl,hi.symm⟩
  ·rw [if_neg e] at hi;exact .inr ⟨fun h=>e h.symm,hi⟩
 refine ⟨us.set k s,by simp [h1],h2', ?_, ?_, ?_⟩
 ·intro i u' r' hi hr'
  rcases split i u' hi with ⟨rfl,rfl⟩ | ⟨hne,hi⟩
  ·rw [List.getElem?_set,if_pos rfl,if_pos hk] at hr'
   simp at hr';subst hr'
   refine (hu.mono hbase).grown hgrown ?_
   rcases hq:u'.v.ownBlock with _ | q
   ·exact .inl rfl
   ·refine .inr fun e => ?_
    simp at e;subst e
    have:=hnew _ hq;omega
  ·rw [List.getElem?_set,if_neg (fun e=>hne e.symm)] at hr'
   refine ((h3 i u' r' hi hr').below hb).grown hgrown ?_
   rcases hq:u'.v.ownBlock with _ | q
   ·exact .inl rfl
   ·refine .inr fun e => ?_
    simp at e;subst e
    exact h5 i u' hi _ hq rfl
 ·intro i j u' u'' hi hj hij q hq hq'
  rcases split i u' hi with ⟨e1,e2⟩ | ⟨hne,hi'⟩
  ·rcases split j u'' hj with ⟨e3,e4⟩ | ⟨hne',hj'⟩
   ·exact hij (e1.trans e3.symm)
   ·rw [e2] at hq;have h1:=hnew q hq;have h2:=hold j u'' hj' q hq';omega
  ·rcases split j u'' hj with ⟨e3,e4⟩ | ⟨hne',hj'⟩
   ·rw [e4] at hq';have h1:=hnew q hq';have h2:=hold i u' hi' q hq;omega
   ·exact h4 i j u' u'' hi' hj' hij q hq hq'
 ·intro i u' hi q hq hv
  rcases split i u' hi with ⟨rfl,rfl⟩ | ⟨hne,hi⟩
  ·simp [Value.ownBlock] at hv;subst hv;have:=hnew _ hq;omega
  ·exact h5 i u' hi q hq hv
theorem Own2.cellAt {w:World} {base g n cap:Nat} {p:List (List α)} (h:Own2 E T1 T2 w base (.slice (some ⟨g,0,none⟩) n cap) p) {k:Nat} (hk:k < p.length) :
 g < w.heap.size∧(∃ s:Slc,w.cell? ⟨g,k,none⟩=some s.v)∧∀ j,w.frozen? ⟨g,j,none⟩=false:=by
 obtain ⟨us,h1,h2,_⟩:=h
 obtain ⟨x,hx⟩:=get_of_lt (xs:=us) (k:=k) (by omega)
 have:=h2.cell hx (j:=0) rfl
 simp only [SlcE,Nat.mul_one,Nat.add_zero] at this
 exact ⟨(World.ownsRow.lt h2 g rfl).2,⟨x,this⟩,fun j=>h2.frozen j⟩
theorem Own2.rep {w:World} {base:Nat} {v:Value} {p:List (List α)} (h:Own2 E T1 T2 w base v p):Rep2 E w v p:=by
 obtain ⟨us,h1,h2,h3,h4,h5⟩:=h
 exact ⟨us,h1,h2.rep,fun i u r hu hr'=>(h3 i u r hu hr').rep⟩
end
theorem wpList_make {α:Type} (E:El α) {P:Program} {w:World} {ops:Array Oper} {rest:List Oper} {o:Oper} {a:Act} {Q:Exit→Act→World→Prop}
 (T:TypeId) (z:α) {zv:Value} {bytes:Nat} (hinfo:(P.info? T).map (fun i=>(i.zero,i.size,i.bytes))=some (some zv,E.sz,bytes)) (hz:zv.cells.toList=E.c z) {t:TypeId} (h1:P.underlying t=some (.slice T))
 (n:Nat) (hby:bytes≤256) (hn:n≤1099511627776) (hg:o.guard=none) (l c:Operand) (hop:o.op=Op.makeSlice t l c) (hl:a.eval l = .int .i64 n) (hc:a.eval c = .int .i64 n)
 (hK:∀ w',Own E T w' w.heap.size (.slice (some ⟨w.heap.size,0,none⟩) n n) (List.replicate n z)→w.grownBy w' none→wpList P ops Q rest (a.put o.dst (.slice (some ⟨w.heap.size,0,none⟩) n n)) w') :
 wpList P ops Q (o :: rest) a w:=by
 obtain ⟨it,hi,hz0,hz1,hz2⟩:=info_parts hinfo
 refine wpList_make_full w hg l c t hop w.heap.size T it zv E.sz h1 hi hz0 hz1 .i64 .i64 _ _ n hl hc rfl rfl (by rw [hz2];have:=Nat.mul_le_mul hby hn;omega) (by unfold maxLen;omega) (Nat.le_refl _) ?_
 intro w1 hown hgr
 refine hK w1 ?_ hgr
 unfold Own
 rw [List.length_replicate,← made_eq z zv hz n]
 exact hown
theorem wpList_app {α:Type} (E:El α) {P:Program} {w:World} {ops:Array Oper} {rest:List Oper} {o:Oper} {a:Act} {Q:Exit→Act→World→Prop}
 (T:TypeId) {zv:Value} {bytes:Nat} (hinfo:(P.info? T).map (fun i=>(i.zero,i.size,i.bytes))=some (some zv,E.sz,bytes)) (hz:zv.cells.size=E.sz) {t:TypeId} (h1:P.underlying t=some (.slice T))
 (base:Nat) (v:Value) (xs:List α) (x:α) (hown:Own E T w base v xs) (hby:bytes≤256) (hn:xs.length≤68719476736) (hbase:base≤w.heap.size)
 (hg:o.guard=none) (s y:Operand) (hop:o.op = .call { callee:=.builtin .append,args:=#[s,y],argTypes:=#[t,t] })
 (hs:a.eval s=v) (b off c:Nat) (hy:a.eval y = .slice (some ⟨b,off,none⟩) 1 c) (hnews:∀ j u,(E.c x)[j]? = some u→w.cell? ⟨b,off+j,none⟩=some u)
 (hK:∀ v' w',Own E T w' base v' (xs++[x])→w.grownBy w' v.ownBlock→wpList P ops Q rest (a.put o.dst v') w') :
 wpList P ops Q (o :: rest) a w:=by
 obtain ⟨it,hi,hz0,hz1,hz2⟩:=info_parts hinfo
 refine wpList_append_own w hg s y t hop base T it zv E.sz bytes h1 hi hz0 hz1 hz2 hz E.pos v xs.length _ hs hown ⟨b,off,none⟩ 1 c (E.c x) hy (by rw [E.len,Nat.one_mul]) ?_ (E.one x) (by unfold maxLen;omega) ?_ hbase ?_
 ·intro j u hu
  have hadd:(⟨b,off,none⟩:Addr).add j=⟨b,off+j,none⟩:=by unfold Addr.add;split <;> simp_all
  rw [hadd]
  exact hnews j u hu
 ·have:=Nat.mul_le_mul (show xs.length+1≤68719476737 by omega) hby
  omega
 ·intro v' w' h2 h3 _
  refine hK v' w' ?_ h3
  unfold Own
  simpa [List.flatMap_append] using h2
theorem Own.ins {T:TypeId} {w:World} {base g n cap:Nat} {xs:List Ins} (h:Own InsE T w base (.slice (some ⟨g,0,none⟩) n cap) xs) {k:Nat} {x:Ins} (hx:xs[k]? = some x) :
 g < w.heap.size∧w.cell? ⟨g,k * 4,none⟩=some (.int .i64 x.op)∧w.cell? ⟨g,k * 4+1,none⟩=some (.int .i64 x.loc) ∧
  w.cell? ⟨g,k * 4+2,none⟩=some (.int .i64 x.reg)∧w.cell? ⟨g,k * 4+3,none⟩=some (.int .i64 x.val)∧∀ j,w.frozen? ⟨g,j,none⟩=false:=
 ⟨(World.ownsRow.lt h g rfl).2,h.cell hx (j:=0) rfl,h.cell hx (j:=1) rfl,h.cell hx (j:=2) rfl,h.cell hx (j:=3) rfl,fun j=>h.frozen j⟩
theorem get_set_self {α:Type} {xs:List α} {k:Nat} {x:α} (hx:xs[k]? = some x) (y:α):(xs.set k y)[k]? = some y:=by
 have:=(List.getElem?_eq_some_iff.1 hx).1
 rw [List.getElem?_set,if_pos rfl,if_pos this]
theorem Own.setIns {T:TypeId} {w:World} {base g n cap:Nat} {xs:List Ins} (h:Own InsE T w base (.slice (some ⟨g,0,none⟩) n cap) xs) {k:Nat} {z:Ins} (hz:xs[k]? = some z) (x:Ins) :
 Own InsE T ((((w.setCell ⟨g,k * 4,none⟩ (.int .i64 x.op)).setCell ⟨g,k * 4+1,none⟩ (.int .i64 x.loc)).setCell ⟨g,k * 4+2,none⟩ (.int .i64 x.reg)).setCell ⟨g,k * 4+3,none⟩ (.int .i64 x.val)) base (.slice (some ⟨g,0,none⟩) n cap) (xs.set k x):=by
 have h0:=h.set (i:=k) (j:=0) ⟨x.op,z.loc,z.reg,z.val⟩ (u:=.int .i64 x.op) (by decide) hz rfl
 have h1:=h0.set (i:=k) (j:=1) ⟨x.op,x.loc,z.reg,z.val⟩ (u:=.int .i64 x.loc) (by decide) (get_set_self hz _) rfl
 have h2:=h1.set (i:=k) (j:=2) ⟨x.op,x.loc,x.reg,z.val⟩ (u:=.int .i64 x.reg) (by decide) (get_set_self (get_set_self hz _) _) rfl
 have h3:=h2.set (i:=k) (j:=3) x (u:=.int .i64 x.val) (by decide) (get_set_self (get_set_self (get_set_self hz _) _) _) rfl
 simp only [List.set_set] at h3
 exact h3
def Own2U {α:Type} (E:El α) (T1 T2:TypeId) (us:List Slc) (w:World) (base:Nat) (v:Value) (p:List (List α)):Prop:=
 us.length=p.length∧Own SlcE T1 w base v us∧(∀ (i:Nat) (u:Slc) (r:List α),us[i]? = some u→p[i]? = some r→Own E T2 w base u.v r) ∧
  (∀ (i j:Nat) (u u':Slc),us[i]? = some u→us[j]? = some u'→i≠j→∀ k,u.v.ownBlock=some k→u'.v.ownBlock≠some k) ∧
  (∀ (i:Nat) (u:Slc),us[i]? = some u→∀ k,u.v.ownBlock=some k→v.ownBlock≠some k)
theorem Own2.told {α:Type} {E:El α} {T1 T2:TypeId} {w:World} {base:Nat} {v:Value} {p:List (List α)} (h:Own2 E T1 T2 w base v p) :
 ∃ us,Own2U E T1 T2 us w base v p∧∀ (i:Nat) (u:Slc),us[i]? = some u→∀ q,u.v.ownBlock=some q→base≤q∧q < w.heap.size:=by
 obtain ⟨us,h1,h2,h3,h4,h5⟩:=h
 refine ⟨us,⟨h1,h2,h3,h4,h5⟩,fun i u hi q hq => ?_⟩
 obtain ⟨r',hr'⟩:=get_of_lt (xs:=p) (k:=i) (by have:=(List.getElem?_eq_some_iff.1 hi).1;omega)
 exact World.ownsRow.lt (h3 i u r' hi hr') q hq
theorem Own2U.own {α:Type} {E:El α} {T1 T2:TypeId} {us:List Slc} {w:World} {base:Nat} {v:Value} {p:List (List α)} (h:Own2U E T1 T2 us w base v p):Own2 E T1 T2 w base v p:=⟨us,h⟩
theorem Own2U.below {α:Type} {E:El α} {T1 T2:TypeId} {us:List Slc} {w w':World} {base:Nat} {v:Value} {p:List (List α)} (h:Own2U E T1 T2 us w base v p) (hb:Below w.heap.size w w'):Own2U E T1 T2 us w' base v p:=by
 obtain ⟨h1,h2,h3,h4,h5⟩:=h
 exact ⟨h1,h2.below hb,fun i u r hu hr=>(h3 i u r hu hr).below hb,h4,h5⟩
theorem Own2U.row {α:Type} {E:El α} {T1 T2:TypeId} {us:List Slc} {w:World} {base g n cap:Nat} {p:List (List α)} (h:Own2U E T1 T2 us w base (.slice (some ⟨g,0,none⟩) n cap) p) {k:Nat} {r:List α} (hr:p[k]? = some r) :
 ∃ s:Slc,us[k]? = some s∧g < w.heap.size∧w.cell? ⟨g,k,none⟩=some (.slice s.a s.n s.cap)∧Own E T2 w base s.v r ∧
  ∀ w' r',Own E T2 w' base s.v r'→w.grownBy w' s.v.ownBlock→Own2U E T1 T2 us w' base (.slice (some ⟨g,0,none⟩) n cap) (p.set k r'):=by
 obtain ⟨h1,h2,h3,h4,h5⟩:=h
 have hk:=(List.getElem?_eq_some_iff.1 hr).1
 obtain ⟨s,hs⟩:=get_of_lt (xs:=us) (k:=k) (by omega)
 have hc:=h2.cell hs (j:=0) rfl
 simp only [SlcE,Nat.mul_one,Nat.add_zero] at hc
 refine ⟨s,hs,(World.ownsRow.lt h2 g rfl).2,hc,h3 k s r hs hr,fun w' r' ho hg=>⟨by simp [h1],h2.grown hg (.inr ?_), ?_,h4,h5⟩⟩
 ·intro e
  exact h5 k s hs g (by rw [← e];rfl) rfl
 ·intro i u r2 hu hr2
  by_cases e:k=i
  ·subst e
   rw [List.getElem?_set,if_pos rfl,if_pos hk] at hr2
   simp at hr2;subst hr2
   rw [hs] at hu;simp at hu;subst hu
   exact ho
  ·rw [List.getElem?_set,if_neg e] at hr2
   refine (h3 i u r2 hu hr2).grown hg ?_
   rcases hq:u.v.ownBlock with _ | q
   ·exact .inl rfl
   ·exact .inr fun e2=>h4 i k u s hu hs (fun e3=>e e3.symm) q hq e2.symm
structure Outside (lo hi:Nat) (w w':World):Prop where
 os:w'.os=w.os
 tape:w'.tape=w.tape
 output:w'.output=w.output
 size:w.heap.size≤w'.heap.size
 block:∀ k,k < w.heap.size→(k < lo∨hi≤k)→w'.heap[k]? = w.heap[k]?
theorem Outside.refl (lo hi:Nat) (w:World):Outside lo hi w w:=⟨rfl,rfl,rfl,Nat.le_refl _,fun _ _ _=>rfl⟩
theorem Outside.grown {lo hi:Nat} {w w' w'':World} {row:Option Nat} (h:Outside lo hi w w') (hg:w'.grownBy w'' row) (hr:∀ q,row=some q→lo≤q∧q < hi):Outside lo hi w w'':=
 ⟨hg.os.trans h.os,hg.tape.trans h.tape,hg.output.trans h.output,Nat.le_trans h.size hg.size,fun k hk hlh=>(hg.block k (by have:=h.size;omega) (fun e=>by have:=hr k e.symm;omega)).trans (h.block k hk hlh)⟩
theorem Outside.trans {lo hi:Nat} {a b c:World} (h:Outside lo hi a b) (k:Outside lo hi b c):Outside lo hi a c:=
 ⟨k.os.trans h.os,k.tape.trans h.tape,k.output.trans h.output,Nat.le_trans h.size k.size,fun q hq hlh=>(k.block q (by have:=h.size;omega) hlh).trans (h.block q hq hlh)⟩
theorem Outside.below {lo hi:Nat} {w w':World} (h:Outside lo hi w w') {B:Nat} (hB:B≤lo) (hB':B≤w.heap.size):Below B w w':=
 ⟨h.os,h.tape,h.output,h.size,fun k hk=>h.block k (by omega) (.inl (by omega))⟩
theorem Outside.own {α:Type} {E:El α} {T:TypeId} {lo hi:Nat} {w w':World} (h:Outside lo hi w w') {base:Nat} {v:Value} {xs:List α} (ho:Own E T w base v xs) (hlt:∀ q,v.ownBlock=some q→q < lo∨hi≤q):Own E T w' base v xs:=by
 refine ⟨ho.1, ?_⟩
 rcases ho.2 with hn | ⟨g,cap,cur,rfl,hb1,hgg,rest⟩
 ·exact .inl hn
 ·exact .inr ⟨g,cap,cur,rfl,hb1,(h.block g (Array.getElem?_eq_some_iff.1 hgg).1 (hlt g rfl)).trans hgg,rest⟩
theorem grown_set {w w':World} {g:Nat} (h:w.grownBy w' (some g)) (j:Nat) (u:Value):w.grownBy (w'.setCell ⟨g,j,none⟩ u) (some g):=
 ⟨h.os,h.tape,h.output,by simpa using h.size,fun q hq hne=>(heap_setCell_other w' ⟨g,j,none⟩ q u (fun e=>hne (by simp [e]))).trans (h.block q hq hne)⟩
def RetOwn {α:Type} (E:El α) (T:TypeId) (w:World) (xs:List α) (e:Ending) (w':World):Prop:=∃ v,e = .returned v∧Own E T w' w.heap.size v xs∧Below w.heap.size w w'
def RetOwn2 {α:Type} (E:El α) (T1 T2:TypeId) (w:World) (p:List (List α)) (e:Ending) (w':World):Prop:=∃ v,e = .returned v∧Own2 E T1 T2 w' w.heap.size v p∧Below w.heap.size w w'
end Go.Proofs.YtlddmagfbcomgaaGreat
namespace Go.Proofs.YtlddmagfbcomgaaGreat
open Go.RowKit
theorem Tryz.infoIns:(Tryz.prog.info? 74).map (fun i=>(i.zero,i.size,i.bytes))=some (some (.agg #[.int .i64 0, .int .i64 0, .int .i64 0, .int .i64 0]),4,32):=by kernel_rfl
theorem Tryz.infoInsS:(Tryz.prog.info? 71).map (fun i=>(i.zero,i.size,i.bytes))=some (some (.slice none 0 0),1,24):=by kernel_rfl
abbrev OwnI (w:World) (base:Nat) (v:Value) (xs:List Ins):Prop:=Own InsE 74 w base v xs
abbrev OwnP (w:World) (base:Nat) (v:Value) (p:List (List Ins)):Prop:=Own2 InsE 71 74 w base v p
abbrev RepP (w:World) (v:Value) (p:List (List Ins)):Prop:=Rep2 InsE w v p
end Go.Proofs.YtlddmagfbcomgaaGreat
namespace Go.Proofs.YtlddmagfbcomgaaGreat
open Go.RowKit
def isRop (o:Int):Bool:=o==1||o==5
def isWop (o:Int):Bool:=o==2||o==3||o==5
def isR (x:Ins):Bool:=isRop x.op
def isW (x:Ins):Bool:=isWop x.op
def inB (a lo hi:Int):Bool:=decide (lo≤a)&&decide (a≤hi)
def insValid (x:Ins):Bool:=
 if x.op=1∨x.op=3 then inB x.loc 0 2&&inB x.reg 0 2&&x.val==0
 else if x.op=2 then inB x.loc 0 2&&x.reg==0&&inB x.val 0 3
 else if x.op=4 then x.loc==0&&x.reg==0&&x.val==0
 else if x.op=5 then inB x.loc 0 2&&inB x.reg 0 2&&inB x.val 0 3
 else false
theorem within_any (x lo hi:Int) (w:World):Calls Tryz.prog 86 #[.int .i64 x, .int .i64 lo, .int .i64 hi] w fun e w'=>e = .returned (.bool (inB x lo hi))∧w=w':=by
 unfold inB
 by_cases h:lo≤x
 ·go_enter Tryz.func86,Tryz.ntmps86
  go_wp2
  go_ret
  exact ⟨by simp [h],rfl⟩
 ·have hd:decide (lo≤x)=false:=by simp;omega
  go_enter Tryz.func86,Tryz.ntmps86
  go_wp2
  go_ret
  exact ⟨by simp,rfl⟩
theorem l1In_any (x hi:Int) (w:World):Calls Tryz.prog 132 #[.int .i64 x, .int .i64 hi] w fun e w'=>e = .returned (.bool (inB x 0 hi))∧w=w':=by
 unfold inB
 by_cases h:0≤x
 ·go_enter Tryz.func132,Tryz.ntmps132
  go_wp2
  go_ret
  exact ⟨by simp [h],rfl⟩
 ·have hd:decide (0≤x)=false:=by simp;omega
  go_enter Tryz.func132,Tryz.ntmps132
  go_wp2
  go_ret
  exact ⟨by simp,rfl⟩
theorem reads_any (x:Ins) (w:World):Calls Tryz.prog 127 #[x.v] w fun e w'=>e = .returned (.bool (isRop x.op))∧Below w.heap.size w w':=by
 obtain ⟨x0,x1,x2,x3⟩:=x
 show Calls _ _ _ _ fun e w'=>e = .returned (.bool (isRop x0))∧_
 go_enter Tryz.func127,Tryz.ntmps127
 go_wp2
 all_goals go_ret
 all_goals refine ⟨?_,(Below.refl _ _).alloc (Nat.le_refl _) _⟩
 all_goals unfold isRop
 all_goals simp_all
theorem writes_any (x:Ins) (w:World):Calls Tryz.prog 121 #[x.v] w fun e w'=>e = .returned (.bool (isWop x.op))∧Below w.heap.size w w':=by
 obtain ⟨x0,x1,x2,x3⟩:=x
 show Calls _ _ _ _ fun e w'=>e = .returned (.bool (isWop x0))∧_
 go_enter Tryz.func121,Tryz.ntmps121
 go_wp2
 all_goals go_ret
 all_goals refine ⟨?_,(Below.refl _ _).alloc (Nat.le_refl _) _⟩
 all_goals unfold isWop
 all_goals simp_all
theorem l1Reads_any (x:Ins) (w:World):Calls Tryz.prog 133 #[x.v] w fun e w'=>e = .returned (.bool (isRop x.op))∧Below w.heap.size w w':=by
 obtain ⟨x0,x1,x2,x3⟩:=x
 show Calls _ _ _ _ fun e w'=>e = .returned (.bool (isRop x0))∧_
 go_enter Tryz.func133,Tryz.ntmps133
 go_wp2
 all_goals go_ret
 all_goals refine ⟨?_,(Below.refl _ _).alloc (Nat.le_refl _) _⟩
 all_goals unfold isRop
 all_goals simp_all
theorem l1Writes_any (x:Ins) (w:World):Calls Tryz.prog 134 #[x.v] w fun e w'=>e = .returned (.bool (isWop x.op))∧Below w.heap.size w w':=by
 obtain ⟨x0,x1,x2,x3⟩:=x
 show Calls _ _ _ _ fun e w'=>e = .returned (.bool (isWop x0))∧_
 go_enter Tryz.func134,Tryz.ntmps134
 go_wp2
 all_goals go_ret
 all_goals refine ⟨?_,(Below.refl _ _).alloc (Nat.le_refl _) _⟩
 all_goals unfold isWop
 all_goals simp_all
theorem reads_raw (a b c d:Int) (w:World):Calls Tryz.prog 127 #[.agg #[.int .i64 a, .int .i64 b, .int .i64 c, .int .i64 d]] w fun e w'=>e = .returned (.bool (isRop a))∧Below w.heap.size w w':=reads_any ⟨a,b,c,d⟩ w
theorem writes_raw (a b c d:Int) (w:World):Calls Tryz.prog 121 #[.agg #[.int .i64 a, .int .i64 b, .int .i64 c, .int .i64 d]] w fun e w'=>e = .returned (.bool (isWop a))∧Below w.heap.size w w':=writes_any ⟨a,b,c,d⟩ w
theorem l1Reads_raw (a b c d:Int) (w:World):Calls Tryz.prog 133 #[.agg #[.int .i64 a, .int .i64 b, .int .i64 c, .int .i64 d]] w fun e w'=>e = .returned (.bool (isRop a))∧Below w.heap.size w w':=l1Reads_any ⟨a,b,c,d⟩ w
theorem l1Writes_raw (a b c d:Int) (w:World):Calls Tryz.prog 134 #[.agg #[.int .i64 a, .int .i64 b, .int .i64 c, .int .i64 d]] w fun e w'=>e = .returned (.bool (isWop a))∧Below w.heap.size w w':=l1Writes_any ⟨a,b,c,d⟩ w
theorem sInstrValid_any (x:Ins) (w:World):Calls Tryz.prog 166 #[x.v] w fun e w'=>e = .returned (.bool (insValid x))∧Below w.heap.size w w':=by
 obtain ⟨x0,x1,x2,x3⟩:=x
 go_enter Tryz.func166,Tryz.ntmps166
 go_wp2_with (go_at_call 132;refine (l1In_any _ _ _).mono ?_;rintro e w1 ⟨rfl,rfl⟩)
 all_goals go_ret
 all_goals refine ⟨?_,(Below.refl _ _).alloc (Nat.le_refl _) _⟩
 all_goals unfold insValid
 all_goals simp_all
theorem InstrValid_any (x:Ins) (w:World):Calls Tryz.prog 87 #[x.v] w fun e w'=>e = .returned (.bool (insValid x))∧Below w.heap.size w w':=by
 obtain ⟨x0,x1,x2,x3⟩:=x
 by_cases h1:x0=1
 ·subst h1
  go_enter Tryz.func87,Tryz.ntmps87
  go_wp2_with fail
  go_region
  all_goals go_wp2_with (go_at_call 86;refine (within_any _ _ _ _).mono ?_;rintro e w1 ⟨rfl,rfl⟩)
  all_goals go_ret
  all_goals refine ⟨by unfold insValid;first | (simp_all;done) | (simp_all;decide), ?_⟩
  all_goals (repeat first | exact Below.refl _ _ | refine Below.drew ?_ | refine Below.setCell ?_ (by first | (simp;done) | (simp;omega)) _ | refine Below.alloc ?_ (by first | (simp;done) | (simp;omega)) _)
 by_cases h3:x0=3
 ·subst h3
  go_enter Tryz.func87,Tryz.ntmps87
  go_wp2_with fail
  go_region
  all_goals go_wp2_with (go_at_call 86;refine (within_any _ _ _ _).mono ?_;rintro e w1 ⟨rfl,rfl⟩)
  all_goals go_ret
  all_goals refine ⟨by unfold insValid;first | (simp_all;done) | (simp_all;decide), ?_⟩
  all_goals (repeat first | exact Below.refl _ _ | refine Below.drew ?_ | refine Below.setCell ?_ (by first | (simp;done) | (simp;omega)) _ | refine Below.alloc ?_ (by first | (simp;done) | (simp;omega)) _)
 by_cases h2:x0=2
 ·subst h2
  go_enter Tryz.func87,Tryz.ntmps87
  go_wp2_with fail
  go_region
  all_goals go_wp2_with (go_at_call 86;refine (within_any _ _ _ _).mono ?_;rintro e w1 ⟨rfl,rfl⟩)
  all_goals go_ret
  all_goals refine ⟨by unfold insValid;first | (simp_all;done) | (simp_all;decide), ?_⟩
  all_goals (repeat first | exact Below.refl _ _ | refine Below.drew ?_ | refine Below.setCell ?_ (by first | (simp;done) | (simp;omega)) _ | refine Below.alloc ?_ (by first | (simp;done) | (simp;omega)) _)
 by_cases h4:x0=4
 ·subst h4
  go_enter Tryz.func87,Tryz.ntmps87
  go_wp2_with (go_at_call 86;refine (within_any _ _ _ _).mono ?_;rintro e w1 ⟨rfl,rfl⟩)
  all_goals go_ret
  all_goals refine ⟨by unfold insValid;first | (simp_all;done) | (simp_all;decide), ?_⟩
  all_goals (repeat first | exact Below.refl _ _ | refine Below.drew ?_ | refine Below.setCell ?_ (by first | (simp;done) | (simp;omega)) _ | refine Below.alloc ?_ (by first | (simp;done) | (simp;omega)) _)
 by_cases h5:x0=5
 ·subst h5
  go_enter Tryz.func87,Tryz.ntmps87
  go_wp2_with (go_at_call 86;refine (within_any _ _ _ _).mono ?_;rintro e w1 ⟨rfl,rfl⟩)
  all_goals go_ret
  all_goals refine ⟨by unfold insValid;first | (simp_all;done) | (simp_all;decide), ?_⟩
  all_goals (repeat first | exact Below.refl _ _ | refine Below.drew ?_ | refine Below.setCell ?_ (by first | (simp;done) | (simp;omega)) _ | refine Below.alloc ?_ (by first | (simp;done) | (simp;omega)) _)
 have g1:(x0==1)=false:=by simpa using h1
 have g2:(x0==2)=false:=by simpa using h2
 have g3:(x0==3)=false:=by simpa using h3
 have g4:(x0==4)=false:=by simpa using h4
 have g5:(x0==5)=false:=by simpa using h5
 go_enter Tryz.func87,Tryz.ntmps87
 go_wp2_with fail
 go_ret
 refine ⟨by unfold insValid;simp_all, ?_⟩
 (repeat first | exact Below.refl _ _ | refine Below.drew ?_ | refine Below.setCell ?_ (by first | (simp;done) | (simp;omega)) _ | refine Below.alloc ?_ (by first | (simp;done) | (simp;omega)) _)
end Go.Proofs.YtlddmagfbcomgaaGreat
namespace Go.Proofs.YtlddmagfbcomgaaGreat
def fR (loc:Int) (x:Ins):Bool:=x.loc==loc&&isRop x.op
def fW (loc:Int) (x:Ins):Bool:=x.loc==loc&&isWop x.op
theorem fR_yes {loc:Int} {x:Ins} (h:x.loc=loc):fR loc x=isRop x.op:=by simp [fR,h]
theorem fR_no {loc:Int} {x:Ins} (h:x.loc≠loc):fR loc x=false:=by simp [fR,h]
theorem fW_yes {loc:Int} {x:Ins} (h:x.loc=loc):fW loc x=isWop x.op:=by simp [fW,h]
theorem fW_no {loc:Int} {x:Ins} (h:x.loc≠loc):fW loc x=false:=by simp [fW,h]
def cnt (f:Ins→Bool) (p:List (List Ins)):Nat:=p.flatten.countP f
theorem cnt_take_succ (f:Ins→Bool) {p:List (List Ins)} {i:Nat} {r:List Ins} (h:p[i]? = some r):cnt f (p.take (i+1))=cnt f (p.take i)+r.countP f:=by
 simp [cnt,List.take_add_one,h,List.countP_append]
theorem countP_take_succ (f:Ins→Bool) {r:List Ins} {k:Nat} {x:Ins} (h:r[k]? = some x):(r.take (k+1)).countP f=(r.take k).countP f+if f x=true then 1 else 0:=by
 simp [List.take_add_one,h,List.countP_append,List.countP_cons]
theorem cnt_le_flatten (f:Ins→Bool) (p:List (List Ins)):cnt f p≤p.flatten.length:=List.countP_le_length
theorem flatten_take_le (p:List (List Ins)) (i:Nat):(p.take i).flatten.length≤p.flatten.length:=by
 have h:p.flatten=(p.take i).flatten++(p.drop i).flatten:=by rw [← List.flatten_append,List.take_append_drop]
 rw [h,List.length_append];omega
theorem cnt_take_le (f:Ins→Bool) (p:List (List Ins)) (i:Nat):cnt f (p.take i)≤p.flatten.length:=Nat.le_trans (cnt_le_flatten f _) (flatten_take_le p i)
theorem row_le_flatten {p:List (List Ins)} {i:Nat} {r:List Ins} (h:p[i]? = some r):(p.take i).flatten.length+r.length≤p.flatten.length:=by
 have h1:=flatten_take_le p (i+1)
 simpa [List.take_add_one,h] using h1
def fact:Nat→Nat
 | 0=>1
 | n+1=>fact n * (n+1)
theorem fact_pos (n:Nat):1≤fact n:=by
 induction n with
 | zero=>exact Nat.le_refl _
 | succ n ih=>exact Nat.le_trans ih (Nat.le_mul_of_pos_right _ (Nat.succ_pos _))
def pl (p:List (List Ins)) (loc:Nat):Nat:=(cnt (fW loc) p+1) ^ cnt (fR loc) p * fact (cnt (fW loc) p)
def prodTo (p:List (List Ins)):Nat→Nat
 | 0=>1
 | l+1=>prodTo p l * pl p l
def prodP (p:List (List Ins)):Nat:=prodTo p 3
def cap (n:Nat):Nat:=min n 3001
theorem cap_le (n:Nat):cap n≤3001:=Nat.min_le_right _ _
theorem cap_mul (q n:Nat) (h:1≤n):cap (cap q * n)=cap (q * n):=by
 unfold cap
 by_cases hq:q≤3001
 ·rw [Nat.min_eq_left hq]
 ·have h1:3001≤3001 * n:=Nat.le_mul_of_pos_right _ h
  have h2:q≤q * n:=Nat.le_mul_of_pos_right _ h
  rw [Nat.min_eq_right (show 3001≤q by omega),Nat.min_eq_right h1,Nat.min_eq_right (by omega)]
theorem cap_mul' {a q:Nat} (hc:cap a=cap q) (n:Nat) (h:1≤n):cap (a * n)=cap (q * n):=by
 rw [← cap_mul a n h,hc,cap_mul q n h]
theorem cap_past {a q:Nat} (hc:cap a=cap q) (ha:3000 < a) (n:Nat) (h:1≤n):cap a=cap (q * n):=by
 have h1:cap a=3001:=by unfold cap;omega
 have h2:3001≤q:=by rw [h1] at hc;unfold cap at hc;omega
 have h3:q≤q * n:=Nat.le_mul_of_pos_right _ h
 rw [h1];unfold cap;omega
theorem pow_pos' (a n:Nat):1≤(a+1) ^ n:=Nat.pos_of_ne_zero (by simp)
theorem fact_mul {s n:Nat} (h:s≤n):∃ m,1≤m∧fact n=fact s * m:=by
 induction n with
 | zero=>exact ⟨1,Nat.le_refl _,by rw [show s=0 by omega,Nat.mul_one]⟩
 | succ n ih =>
  by_cases e:s=n+1
  ·exact ⟨1,Nat.le_refl _,by rw [e,Nat.mul_one]⟩
  ·obtain ⟨m,h1,h2⟩:=ih (by omega)
   exact ⟨m * (n+1),Nat.mul_pos h1 (Nat.succ_pos _),by rw [fact,h2,Nat.mul_assoc]⟩
theorem pow_mul_rest {a t r:Nat} (h:t≤r):∃ m,1≤m∧(a+1) ^ r=(a+1) ^ t * m:=
 ⟨(a+1) ^ (r - t),pow_pos' _ _,by rw [← Nat.pow_add];congr 1;omega⟩
def notFence (x:Ins):Bool:=x.op != 4
def rowOk (r:List Ins):Bool:=r.all insValid&&decide (r.length≤7)
def shapeOk (p:List (List Ins)):Bool:=decide (p.length≤3)&&p.all rowOk&&decide (cnt notFence p≤12)
def progValid (p:List (List Ins)):Bool:=shapeOk p&&decide (1≤p.length)&&decide (prodP p≤3000)
theorem row_no {r:List Ins} {k:Nat} {x:Ins} (h:r[k]? = some x) (hx:insValid x=false):rowOk r=false:=by
 have hm:=List.mem_of_getElem? h
 unfold rowOk
 rw [Bool.and_eq_false_iff]
 left
 rw [List.all_eq_false]
 exact ⟨x,hm,by simp [hx]⟩
theorem all_no {p:List (List Ins)} {k:Nat} {r:List Ins} (h:p[k]? = some r) (hr:rowOk r=false):p.all rowOk=false:=by
 rw [List.all_eq_false]
 exact ⟨r,List.mem_of_getElem? h,by simp [hr]⟩
theorem all_take_succ {α:Type} {f:α→Bool} {r:List α} {k:Nat} {x:α} (h:(r.take k).all f=true) (hx:r[k]? = some x) (hf:f x=true):(r.take (k+1)).all f=true:=by
 rw [List.take_add_one,hx,List.all_append,h];simp [hf]
theorem valid_le {p:List (List Ins)} (h:progValid p=true):p.length≤3∧1≤p.length∧(∀ r∈p,r.length≤7∧∀ x∈r,insValid x=true)∧cnt notFence p≤12∧prodP p≤3000:=by
 unfold progValid shapeOk at h
 simp only [Bool.and_eq_true,decide_eq_true_eq,List.all_eq_true] at h
 obtain ⟨⟨⟨⟨h1,h2⟩,h3⟩,h4⟩,h5⟩:=h
 refine ⟨h1,h4,fun r hr => ?_,h3,h5⟩
 have:=h2 r hr
 unfold rowOk at this
 simp only [Bool.and_eq_true,decide_eq_true_eq,List.all_eq_true] at this
 exact ⟨this.2,this.1⟩
end Go.Proofs.YtlddmagfbcomgaaGreat
namespace Go.Proofs.YtlddmagfbcomgaaGreat
open Go.RowKit
end Go.Proofs.YtlddmagfbcomgaaGreat
namespace Go.Proofs.YtlddmagfbcomgaaGreat
open Go.RowKit
theorem times_any (q:Nat) (m:Int) (b:Nat) (w:World) (hc:w.cell? ⟨b,0,none⟩=some (.int .i64 (q:Int))) (hf:w.frozen? ⟨b,0,none⟩=false) (hq:q≤3001) (h0:0≤m) (hn:m≤1048577) :
 Calls Tryz.prog 153 #[.int .i64 m, .pointer (some ⟨b,0,none⟩)] w fun e w'=>e = .returned (.tuple #[])∧w.setCell ⟨b,0,none⟩ (.int .i64 (cap (q * m.toNat):Nat))=w':=by
 obtain ⟨n,rfl⟩:=Int.eq_ofNat_of_zero_le h0
 rw [Int.toNat_natCast]
 have hn:n≤1048577:=by omega
 have hm:q * n≤3001 * 1048577:=Nat.mul_le_mul hq hn
 have e1:((q * n:Nat):Int)=(q:Int) * n:=by simp
 have hm2:(q:Int) * n≤3146780577:=by omega
 have hm3:0≤(q:Int) * n:=by omega
 have e2:((cap (q * n):Nat):Int)=min ((q:Int) * n) 3001:=by unfold cap;omega
 rw [e2]
 have E1:=hide e1;clear e1
 have E2:=hide e2;clear e2
 clear hm
 go_enter Tryz.func153,Tryz.ntmps153
 go_wp2
 ·go_end0
  rw [show min ((q:Int) * n) 3001=3001 by omega]
  exact ⟨rfl,rfl⟩
 ·go_end0
  rw [show min ((q:Int) * n) 3001=(q:Int) * n by omega]
  exact ⟨rfl,rfl⟩
theorem execs_any (v:Value) (p:List (List Ins)) (w:World) (hp:RepP w v p) (hl:p.flatten.length≤1048576) (hpl:p.length≤1048576) :
 Calls Tryz.prog 88 #[v] w fun e w'=>e = .returned (.int .i64 (cap (prodP p):Nat))∧Below w.heap.size w w':=by
 obtain ⟨a,c,rfl,hc1,hc2,hc3,hp⟩:=hp.open
 have HP:=hide hp;clear hp
 have HL:=hide hl;clear hl
 generalize hn:p.length=n at *
 have H:=hide hn;clear hn
 go_enter Tryz.func88,Tryz.ntmps88
 go_wp2_with fail
 go_loopw [14] (fun i wr => ∃ k:Nat,k≤3∧i = .int .i64 k∧wr.cell? ⟨w.heap.size,0,none⟩=some (.int .i64 (cap (prodTo p k):Nat))∧wr.frozen? ⟨w.heap.size,0,none⟩=false∧Below w.heap.size w wr∧w.heap.size < wr.heap.size) (fun i _=>3 - (intOf i).toNat)
 case atStart=>exact ⟨0,by omega,rfl,by simp [go_sem,prodTo,cap],by simp [go_sem],((Below.refl _ _).alloc (Nat.le_refl _) _),by simp⟩
 case round =>
  obtain ⟨k,hk,rfl,hcell,hfr,hb,hsz⟩:=hrel
  by_cases hlt:k < 3
  ·obtain ⟨wl,rfl⟩:∃ wl:World,wl=wr:=⟨_,rfl⟩
   have hlt':(k:Int) < 3:=by omega
   go_wp2_with fail
   go_loopw [6,7,19] (fun r wv i wr => ∃ j:Nat,j≤n∧i = .int .i64 j∧r = .int .i64 (cnt (fR k) (p.take j):Nat)∧wv = .int .i64 (cnt (fW k) (p.take j):Nat)∧Below wl.heap.size wl wr) (fun _ _ i _=>n - (intOf i).toNat)
   case atStart=>exact ⟨0,by omega,rfl,by simp [cnt],by simp [cnt],Below.refl _ _⟩
   case round =>
    obtain ⟨j,hj,rfl,rfl,rfl,hb2⟩:=hrel
    by_cases hlt2:j < n
    ·obtain ⟨wm,rfl⟩:∃ wm:World,wm=wr:=⟨_,rfl⟩
     obtain ⟨x,hxk⟩:=get_of_lt (xs:=p) (k:=j) (by rw [H.out];exact hlt2)
     obtain ⟨b,o,ra,rc,rfl,hbl,i0,i1⟩:=(HP.out.below (hb.trans (hb2.mono (Nat.le_of_lt hsz)))).row hxk
     have hlt2':=nat_of_lt hlt2
     obtain ⟨_,_,_,_,hr2,_,_⟩:=i1.open
     have hcR:=cnt_take_succ (fR k) hxk
     have hcW:=cnt_take_succ (fW k) hxk
     have hbR:=Nat.le_trans (cnt_take_le (fR k) p j) HL.out
     have hbW:=Nat.le_trans (cnt_take_le (fW k) p j) HL.out
     have hxl:=Nat.le_trans (row_le_flatten hxk) HL.out
     have CR:=hide hcR;have CW:=hide hcW;have I1:=hide i1;have X:=hide hxk
     clear hcR hcW i1 hxk
     generalize hR:cnt (fR k) (p.take j)=R at *
     generalize hW:cnt (fW k) (p.take j)=W at *
     clear hR hW
     go_wp2_with fail
     go_loopw [6,7,25] (fun r wv i wr => ∃ t:Nat,t≤x.length∧i = .int .i64 t∧r = .int .i64 (R+(x.take t).countP (fR k):Nat)∧wv = .int .i64 (W+(x.take t).countP (fW k):Nat)∧Below wm.heap.size wm wr) (fun _ _ i _=>x.length - (intOf i).toNat)
     case atStart=>exact ⟨0,by omega,rfl,by simp,by simp,Below.refl _ _⟩
     case round =>
      obtain ⟨t,ht,rfl,rfl,rfl,hb3⟩:=hrel
      have hwm:w.heap.size≤wm.heap.size:=by have:=hb2.size;omega
      by_cases hlt3:t < x.length
      ·obtain ⟨y,hyk⟩:=get_of_lt (xs:=x) (k:=t) hlt3
       obtain ⟨b',o',rfl,hbl',j0,j1,j2,j3⟩:=(I1.out.below hb3).ins hyk
       have hlt3':=nat_of_lt hlt3
       have CR2:=hide (countP_take_succ (fR k) hyk)
       have CW2:=hide (countP_take_succ (fW k) hyk)
       have hbR2:(x.take t).countP (fR k)≤1048576:=Nat.le_trans List.countP_le_length (by simp;omega)
       have hbW2:(x.take t).countP (fW k)≤1048576:=Nat.le_trans List.countP_le_length (by simp;omega)
       have Y:=hide hyk;clear hyk
       generalize hR2:(x.take t).countP (fR k)=R2 at *
       generalize hW2:(x.take t).countP (fW k)=W2 at *
       clear hR2 hW2
       by_cases hloc:y.loc=k
       ·have CR3:Hid ((x.take (t+1)).countP (fR k)=R2+if isRop y.op=true then 1 else 0):=by have h:=CR2.out;rwa [fR_yes hloc] at h
        have CW3:Hid ((x.take (t+1)).countP (fW k)=W2+if isWop y.op=true then 1 else 0):=by have h:=CW2.out;rwa [fW_yes hloc] at h
        clear CR2 CW2
        rw [hloc] at j1
        clear hloc
        have hkk:((k:Int)==k)=true:=by simp
        generalize hro:isRop y.op=ro at *
        generalize hwo:isWop y.op=wo at *
        have RO:=hide hro;have WO:=hide hwo;clear hro hwo
        cases ro <;> cases wo
        all_goals
         go_wp2_with (first | (go_at_call 127;(with_reducible refine (reads_raw _ _ _ _ _).mono ?_);rw [RO.out];rintro e w3 ⟨rfl,hb4⟩;obtain ⟨hc4,hf4⟩:=bcell hb4) | (go_at_call 121;(with_reducible refine (writes_raw _ _ _ _ _).mono ?_);rw [WO.out];rintro e w4 ⟨rfl,hb5⟩;obtain ⟨hc5,hf5⟩:=bcell hb5))
         go_roundw
         case rel=>exact ⟨t+1,by omega,by go_num,by rw [CR3.out];simp;try omega,by rw [CW3.out];simp;try omega,(((hb3.alloc hb3.size _).trans (hb4.mono (by have:=hb3.size;simp;omega))).trans (hb5.mono (by have:=hb3.size;have:=hb4.size;simp at this;omega)))⟩
         case measure=>simp [intOf];omega
       ·have CR3:Hid ((x.take (t+1)).countP (fR k)=R2):=hide (by have h:=CR2.out;rw [fR_no hloc] at h;simpa using h)
        have CW3:Hid ((x.take (t+1)).countP (fW k)=W2):=hide (by have h:=CW2.out;rw [fW_no hloc] at h;simpa using h)
        clear CR2 CW2
        have hkk:(y.loc==(k:Int))=false:=by simpa using hloc
        clear hloc
        go_wp2_with fail
        go_roundw
        case rel=>exact ⟨t+1,by omega,by go_num,by rw [CR3.out],by rw [CW3.out],hb3.alloc hb3.size _⟩
        case measure=>simp [intOf];omega
      ·have e:t=x.length:=by omega
       have CR4:Hid (cnt (fR k) (p.take (j+1))=R+(x.take t).countP (fR k)):=by have h:=CR.out;rwa [e,List.take_length]
       have CW4:Hid (cnt (fW k) (p.take (j+1))=W+(x.take t).countP (fW k)):=by have h:=CW.out;rwa [e,List.take_length]
       have hbR2:(x.take t).countP (fR k)≤1048576:=Nat.le_trans List.countP_le_length (by simp;omega)
       have hbW2:(x.take t).countP (fW k)≤1048576:=Nat.le_trans List.countP_le_length (by simp;omega)
       generalize hR2:(x.take t).countP (fR k)=R2 at *
       generalize hW2:(x.take t).countP (fW k)=W2 at *
       clear hR2 hW2 e
       go_wp2_with fail
       go_roundw
       case rel=>exact ⟨j+1,by omega,by go_num,by rw [CR4.out],by rw [CW4.out],hb2.trans (hb3.mono hb2.size)⟩
       case measure=>simp [intOf];omega
    ·have e:j=n:=by omega
     have hpt:p.take j=p:=List.take_of_length_le (by rw [H.out];omega)
     have hbR:=Nat.le_trans (cnt_le_flatten (fR k) p) HL.out
     have hbW:=Nat.le_trans (cnt_le_flatten (fW k) p) HL.out
     have PS:Hid (prodTo p (k+1)=prodTo p k * ((cnt (fW k) p+1) ^ cnt (fR k) p * fact (cnt (fW k) p))):=hide rfl
     rw [hpt]
     clear hpt e
     generalize hR:cnt (fR k) p=R at *
     generalize hW:cnt (fW k) p=W at *
     generalize hQ:prodTo p k=Q at *
     clear hR hW hQ
     have hb:=hb.trans (hb2.mono (Nat.le_of_lt hsz))
     have hcell:wr.cell? ⟨w.heap.size,0,none⟩=some (.int .i64 (cap Q:Nat)):=(hb2.cell (p:=⟨w.heap.size,0,none⟩) hsz).trans hcell
     have hfr:wr.frozen? ⟨w.heap.size,0,none⟩=false:=(hb2.frozen (p:=⟨w.heap.size,0,none⟩) hsz).trans hfr
     have hsz:w.heap.size < wr.heap.size:=by have:=hb2.size;omega
     clear hb2
     obtain ⟨wn,rfl⟩:∃ wn:World,wn=wr:=⟨_,rfl⟩
     go_wp2_with fail
     go_loopw [52] (fun i wr => ∃ t:Nat,t≤R∧i = .int .i64 t∧wr.cell? ⟨w.heap.size,0,none⟩=some (.int .i64 (cap (Q * (W+1) ^ t):Nat))∧wr.frozen? ⟨w.heap.size,0,none⟩=false∧Below w.heap.size w wr∧w.heap.size < wr.heap.size) (fun i _=>R - (intOf i).toNat)
     case atStart=>exact ⟨0,by omega,rfl,by simpa using hcell,hfr,hb,hsz⟩
     case round =>
      obtain ⟨t,ht,rfl,hcell2,hfr2,hb2,hsz2⟩:=hrel
      by_cases hlt3:t < R
      ·have E:Hid (cap (cap (Q * (W+1) ^ t) * (W+1))=cap (Q * (W+1) ^ (t+1))):=by
        apply hide
        rw [cap_mul _ _ (by omega),Nat.pow_succ,Nat.mul_assoc]
       have hcl:=cap_le (Q * (W+1) ^ t)
       generalize cap (Q * (W+1) ^ t)=C at *
       go_wp2_with (go_at_call 153;(with_reducible refine (times_any C _ _ _ hcell2 hfr2 hcl (by omega) (by omega)).mono ?_);rintro e w3 ⟨rfl,rfl⟩)
       go_roundw
       case rel=>exact ⟨t+1,by omega,by go_num,by rw [← E.out];exact World.cell?_setCell_same _ _ _ hcell2,by simpa using hfr2,hb2.setCell (Nat.le_refl _) _,by simpa using hsz2⟩
       case measure=>simp [intOf];omega
      ·have e:t=R:=by omega
       subst e
       generalize hQ:Q * (W+1) ^ t=Q2 at *
       have HQ:=hide hQ;clear hQ
       clear hcell hfr hb hsz
       obtain ⟨wo,rfl⟩:∃ wo:World,wo=wr:=⟨_,rfl⟩
       go_wp2_with fail
       go_loopw [12,60] (fun _ i wr => ∃ s:Nat,s≤W∧i = .int .i64 s∧wr.cell? ⟨w.heap.size,0,none⟩=some (.int .i64 (cap (Q2 * fact s):Nat))∧wr.frozen? ⟨w.heap.size,0,none⟩=false∧Below w.heap.size w wr∧w.heap.size < wr.heap.size) (fun _ i _=>W - (intOf i).toNat)
       case atStart=>exact ⟨0,by omega,rfl,by simpa [fact] using hcell2,hfr2,hb2,hsz2⟩
       case round =>
        obtain ⟨s,hs,rfl,hcell,hfr,hb,hsz⟩:=hrel
        by_cases hlt4:s < W
        ·have E:Hid (cap (cap (Q2 * fact s) * (s+1))=cap (Q2 * fact (s+1))):=by
          apply hide
          rw [cap_mul _ _ (by omega),fact,Nat.mul_assoc]
         have hcl:=cap_le (Q2 * fact s)
         generalize cap (Q2 * fact s)=C at *
         clear hcell2 hfr2 hb2 hsz2
         go_wp2_with (go_at_call 153;(with_reducible refine (times_any C _ _ _ hcell hfr hcl (by omega) (by omega)).mono ?_);rintro e w3 ⟨rfl,rfl⟩)
         go_roundw
         case rel=>exact ⟨s+1,by omega,by go_num,by rw [← E.out];exact World.cell?_setCell_same _ _ _ hcell,by simpa using hfr,hb.setCell (Nat.le_refl _) _,by simpa using hsz⟩
         case measure=>simp [intOf];omega
        ·have e:s=W:=by omega
         subst e
         have PS2:Hid (prodTo p (k+1)=Q2 * fact s):=hide (by rw [PS.out,← HQ.out,Nat.mul_assoc])
         clear hcell2 hfr2 hb2 hsz2
         go_wp2_with fail
         go_roundw
         case rel=>exact ⟨k+1,by omega,by go_num,by rw [PS2.out];exact hcell,hfr,hb,hsz⟩
         case measure=>simp [intOf];omega
  ·have e:k=3:=by omega
   subst e
   go_wp2_with fail
   go_ret
   exact ⟨rfl,hb⟩
end Go.Proofs.YtlddmagfbcomgaaGreat
namespace Go.Proofs.YtlddmagfbcomgaaGreat
open Go.RowKit
theorem Tryz.infoInt:(Tryz.prog.info? 3).map (fun i=>(i.zero,i.size,i.bytes))=some (some (.int .i64 0),1,8):=by kernel_rfl
abbrev OwnN (w:World) (base:Nat) (v:Value) (xs:List Int):Prop:=Own IntE 3 w base v xs
theorem Own.int {T:TypeId} {w:World} {base g n cap:Nat} {xs:List Int} (h:Own IntE T w base (.slice (some ⟨g,0,none⟩) n cap) xs) {k:Nat} {x:Int} (hx:xs[k]? = some x) :
 g < w.heap.size∧w.cell? ⟨g,k,none⟩=some (.int .i64 x)∧∀ j,w.frozen? ⟨g,j,none⟩=false:=by
 have:=h.cell hx (j:=0) rfl
 simp only [IntE,Nat.mul_one,Nat.add_zero] at this
 exact ⟨(World.ownsRow.lt h g rfl).2,this,fun j=>h.frozen j⟩
theorem Own.setInt {T:TypeId} {w:World} {base g n cap:Nat} {xs:List Int} (h:Own IntE T w base (.slice (some ⟨g,0,none⟩) n cap) xs) {k:Nat} {z:Int} (hz:xs[k]? = some z) (x:Int) :
 Own IntE T (w.setCell ⟨g,k,none⟩ (.int .i64 x)) base (.slice (some ⟨g,0,none⟩) n cap) (xs.set k x):=by
 have h0:=h.set (i:=k) (j:=0) x (u:=.int .i64 x) (by decide) hz rfl
 simp only [IntE,Nat.mul_one,Nat.add_zero] at h0
 exact h0
end Go.Proofs.YtlddmagfbcomgaaGreat
namespace Go.Proofs.YtlddmagfbcomgaaGreat
open Go.RowKit
def ByteE:El Int:=⟨1,by decide,fun x=>[.int .u8 x],fun _=>rfl,fun x u h=>by simp at h;subst h;rfl⟩
theorem Rep.byte {w:World} {a:Option Addr} {n c:Nat} {xs:List Int} (h:Rep ByteE w (.slice a n c) xs) {k:Nat} {x:Int} (hx:xs[k]? = some x) :
 ∃ b o,a=some ⟨b,o,none⟩∧b < w.heap.size∧w.cell? ⟨b,o+k,none⟩=some (.int .u8 x):=by
 obtain ⟨a',c',hv,_,_,h⟩:=h
 simp only [Value.slice.injEq] at hv
 obtain ⟨rfl,rfl,rfl⟩:=hv
 obtain ⟨b,o,rfl,h'⟩:=h k x hx
 have:=h' 0 _ rfl
 simp only [ByteE,Nat.mul_one,Nat.add_zero] at this
 exact ⟨b,o,rfl,lt_of_cell this,this⟩
structure Rd (w:World) (b:Nat) (a:Option Addr) (c:Nat) (xs:List Int) (p:Int):Prop where
 lt:b < w.heap.size
 c0:w.cell? ⟨b,0,none⟩=some (.slice a xs.length c)
 c1:w.cell? ⟨b,1,none⟩=some (.int .i64 p)
 f1:w.frozen? ⟨b,1,none⟩=false
 rep:Rep ByteE w (.slice a xs.length c) xs
 far:∀ g o,xs≠[]→a=some ⟨g,o,none⟩→g < b
 by':∀ x∈xs,0≤x∧x≤255
 p0:0≤p
theorem Rd.keep {w w':World} {b:Nat} {a:Option Addr} {c:Nat} {xs:List Int} {p:Int} (h:Rd w b a c xs p) {B:Nat} (hb:Below B w w') (hB:b < B):Rd w' b a c xs p:=by
 have e:∀ g o,g < B→w'.cell? ⟨g,o,none⟩=w.cell? ⟨g,o,none⟩:=fun g o hg=>hb.cell (p:=⟨g,o,none⟩) hg
 refine ⟨Nat.lt_of_lt_of_le h.lt hb.size,(e b 0 hB).trans h.c0,(e b 1 hB).trans h.c1,(hb.frozen (p:=⟨b,1,none⟩) hB).trans h.f1, ?_,h.far,h.by',h.p0⟩
 obtain ⟨a',c',hv,h1,h2,h3⟩:=h.rep
 refine ⟨a',c',hv,h1,h2,fun i x hx => ?_⟩
 obtain ⟨g,o,rfl,hi⟩:=h3 i x hx
 refine ⟨g,o,rfl,fun j u hu => ?_⟩
 rw [← hi j u hu]
 refine e g _ ?_
 simp only [Value.slice.injEq] at hv
 have:=h.far g o (by intro e;subst e;simp at hx) hv.1
 omega
theorem cell_far {w:World} {b j g o:Nat} {v:Value} (hg:g≠b):(w.setCell ⟨b,j,none⟩ v).cell? ⟨g,o,none⟩=w.cell? ⟨g,o,none⟩:=by
 unfold World.cell?
 rw [heap_setCell_other w ⟨b,j,none⟩ g v (fun e=>hg (by simpa using e))]
theorem Rd.step {w:World} {b:Nat} {a:Option Addr} {c:Nat} {xs:List Int} {p:Int} (h:Rd w b a c xs p) (q:Int) (hq:0≤q):Rd (w.setCell ⟨b,1,none⟩ (.int .i64 q)) b a c xs q:=by
 have h0:=h.c0;have h1:=h.c1;have h2:=h.f1
 refine ⟨by simpa using h.lt,by simp [go_sem,h0],by simp [go_sem,h1],by simp [go_sem,h2], ?_,h.far,h.by',hq⟩
 obtain ⟨a',c',hv,h3,h4,h5⟩:=h.rep
 refine ⟨a',c',hv,h3,h4,fun i x hx => ?_⟩
 obtain ⟨g,o,rfl,hi⟩:=h5 i x hx
 refine ⟨g,o,rfl,fun j u hu => ?_⟩
 simp only [Value.slice.injEq] at hv
 have:=h.far g o (by intro e;subst e;simp at hx) hv.1
 rw [cell_far (by omega)]
 exact hi j u hu
def RetRd (w:World) (b:Nat) (a:Option Addr) (c:Nat) (xs:List Int) (p K:Int) (Q:Value→World→Prop) (e:Ending) (w':World):Prop:=
 ∃ (v:Value) (p':Int),e = .returned v∧Q v w'∧p'≤p+K∧Rd w' b a c xs p'∧Outside b (b+1) w w'
end Go.Proofs.YtlddmagfbcomgaaGreat
namespace Go.Proofs.YtlddmagfbcomgaaGreat
open Go.RowKit
theorem Below.next {a b c:World} (h:Below a.heap.size a b) (k:Below b.heap.size b c):Below a.heap.size a c:=h.trans (k.mono h.size)
theorem Own.lo {α:Type} {E:El α} {T:TypeId} {w:World} {base:Nat} {v:Value} {xs:List α} (h:Own E T w base v xs):∀ q,v.ownBlock=some q→base≤q∧q < w.heap.size:=World.ownsRow.lt h
theorem below_row {w w':World} {row:Option Nat} (hg:w.grownBy w' row) {B:Nat} (hB:B≤w.heap.size) (hr:∀ k,row=some k→B≤k):Below B w w':=(Below.refl B w).grown hg hB hr
end Go.Proofs.YtlddmagfbcomgaaGreat
namespace Go.Proofs.YtlddmagfbcomgaaGreat
open Go.RowKit
inductive Cd where
 | mk (op th pl val:Int) (kids:List Cd)
def Cd.op:Cd→Int
 | .mk o _ _ _ _=>o
def Cd.th:Cd→Int
 | .mk _ t _ _ _=>t
def Cd.pl:Cd→Int
 | .mk _ _ p _ _=>p
def Cd.val:Cd→Int
 | .mk _ _ _ x _=>x
def Cd.kids:Cd→List Cd
 | .mk _ _ _ _ k=>k
theorem Cd.eta (c:Cd):Cd.mk c.op c.th c.pl c.val c.kids=c:=by cases c;rfl
theorem Cd.all {P:List Cd→Prop} (h:∀ ks,(∀ c∈ks,P c.kids)→P ks) (ks:List Cd):P ks:=by
 apply h
 induction ks with
 | nil=>intro c hc;simp at hc
 | cons c ks ih =>
  intro d hd
  have hc:P c.kids:=by
   refine Cd.rec (motive_1:=fun c=>P c.kids) (motive_2:=fun l => ∀ c∈l,P c.kids) ?_ ?_ ?_ c
   ·intro o t p x l hl;exact h l hl
   ·intro c hc;simp at hc
   ·intro a l ha hl c hc
    rcases List.mem_cons.1 hc with rfl | hc
    ·exact ha
    ·exact hl c hc
  rcases List.mem_cons.1 hd with rfl | hd
  ·exact hc
  ·exact ih d hd
structure Cs where
 op:Int
 th:Int
 pl:Int
 val:Int
 s:Slc
abbrev Cs.v (u:Cs):Value:=.agg #[.int .i64 u.op, .int .i64 u.th, .int .i64 u.pl, .int .i64 u.val, .slice u.s.a u.s.n u.s.cap]
def CsE:El Cs:=⟨5,by decide,fun x=>[.int .i64 x.op, .int .i64 x.th, .int .i64 x.pl, .int .i64 x.val, .slice x.s.a x.s.n x.s.cap],fun _=>rfl,fun x u h=>by simp at h;rcases h with rfl | rfl | rfl | rfl | rfl <;> rfl⟩
theorem cell_of_block {w w':World} {b:Nat} (h:w'.heap[b]? = w.heap[b]?) (o:Nat):w'.cell? ⟨b,o,none⟩=w.cell? ⟨b,o,none⟩:=by
 unfold World.cell?
 rw [h]
def From (lo:Nat) {α:Type} (s:Slc) (us:List α):Prop:=us=[]∨∀ b o,s.a=some ⟨b,o,none⟩→lo≤b
inductive RepC (lo:Nat) (w:World):Cs→Cd→Prop
 | mk {o t p x:Int} {s:Slc} {us:List Cs} {ks:List Cd} (h1:us.length=ks.length) (h2:Rep CsE w s.v us) (h3:From lo s us)
  (h4:∀ (i:Nat) (u:Cs) (k:Cd),us[i]? = some u→ks[i]? = some k→RepC lo w u k):RepC lo w ⟨o,t,p,x,s⟩ (.mk o t p x ks)
def RepK (lo:Nat) (w:World) (s:Slc) (ks:List Cd):Prop:=
 ∃ us:List Cs,us.length=ks.length∧Rep CsE w s.v us∧From lo s us∧∀ (i:Nat) (u:Cs) (k:Cd),us[i]? = some u→ks[i]? = some k→RepC lo w u k
theorem RepC.kids {lo:Nat} {w:World} {u:Cs} {c:Cd} (h:RepC lo w u c):u.op=c.op∧u.th=c.th∧u.pl=c.pl∧u.val=c.val∧RepK lo w u.s c.kids:=by
 cases h with
 | mk h1 h2 h3 h4=>exact ⟨rfl,rfl,rfl,rfl,_,h1,h2,h3,h4⟩
theorem RepK.cond {lo:Nat} {w:World} {s:Slc} {ks:List Cd} (h:RepK lo w s ks) (o t p x:Int):RepC lo w ⟨o,t,p,x,s⟩ (.mk o t p x ks):=by
 obtain ⟨us,h1,h2,h3,h4⟩:=h
 exact .mk h1 h2 h3 h4
theorem Rep.from {lo:Nat} {w w':World} {s:Slc} {us:List Cs} (h:Rep CsE w s.v us) (hf:From lo s us) (hk:∀ q,lo≤q→q < w.heap.size→w'.heap[q]? = w.heap[q]?):Rep CsE w' s.v us:=by
 obtain ⟨a,c,hv,h1,h2,h⟩:=h
 refine ⟨a,c,hv,h1,h2,fun i x hx => ?_⟩
 obtain ⟨b,o,rfl,hi⟩:=h i x hx
 refine ⟨b,o,rfl,fun j u hu => ?_⟩
 have hc:=hi j u hu
 rw [← hc]
 refine cell_of_block (hk b ?_ (lt_of_cell hc)) _
 rcases hf with rfl | hf
 ·simp at hx
 ·simp only [Slc.v,Value.slice.injEq] at hv
  exact hf b o hv.1
theorem RepC.keep {lo:Nat} {w w':World} {u:Cs} {c:Cd} (h:RepC lo w u c) (hk:∀ q,lo≤q→q < w.heap.size→w'.heap[q]? = w.heap[q]?):RepC lo w' u c:=by
 induction h with
 | mk h1 h2 h3 h4 ih=>exact .mk h1 (h2.from h3 hk) h3 ih
theorem RepC.low {lo lo':Nat} {w:World} {u:Cs} {c:Cd} (h:RepC lo w u c) (hl:lo'≤lo):RepC lo' w u c:=by
 induction h with
 | mk h1 h2 h3 h4 ih =>
  refine .mk h1 h2 ?_ ih
  rcases h3 with h3 | h3
  ·exact .inl h3
  ·exact .inr fun b o e=>Nat.le_trans hl (h3 b o e)
theorem RepK.keep {lo:Nat} {w w':World} {s:Slc} {ks:List Cd} (h:RepK lo w s ks) (hk:∀ q,lo≤q→q < w.heap.size→w'.heap[q]? = w.heap[q]?):RepK lo w' s ks:=by
 obtain ⟨us,h1,h2,h3,h4⟩:=h
 exact ⟨us,h1,h2.from h3 hk,h3,fun i u k hu hk'=>(h4 i u k hu hk').keep hk⟩
theorem RepK.low {lo lo':Nat} {w:World} {s:Slc} {ks:List Cd} (h:RepK lo w s ks) (hl:lo'≤lo):RepK lo' w s ks:=by
 obtain ⟨us,h1,h2,h3,h4⟩:=h
 refine ⟨us,h1,h2, ?_,fun i u k hu hk'=>(h4 i u k hu hk').low hl⟩
 rcases h3 with h3 | h3
 ·exact .inl h3
 ·exact .inr fun b o e=>Nat.le_trans hl (h3 b o e)
theorem RepK.below {lo:Nat} {w w':World} {s:Slc} {ks:List Cd} (h:RepK lo w s ks) (hb:Below w.heap.size w w'):RepK lo w' s ks:=h.keep fun q _ hq=>hb.block q hq
theorem RepK.nil (lo:Nat) (w:World):RepK lo w ⟨none,0,0⟩ []:=⟨[],rfl,Rep.nil w, .inl rfl,fun i u k h=>by simp at h⟩
theorem RepK.open {lo:Nat} {w:World} {s:Slc} {ks:List Cd} (h:RepK lo w s ks):s.n=ks.length∧ks.length≤s.cap∧ks.length≤9223372036854775807∧s.cap≤maxLen:=by
 obtain ⟨us,h1,h2,h3,h4⟩:=h
 obtain ⟨a,c,hv,h5,h6,h7,_⟩:=h2.open
 simp only [Slc.v,Value.slice.injEq] at hv
 obtain ⟨_,e2,e3⟩:=hv
 rw [e2,e3];omega
theorem RepK.kid {lo:Nat} {w:World} {a:Option Addr} {n c:Nat} {ks:List Cd} (h:RepK lo w ⟨a,n,c⟩ ks) {k:Nat} {x:Cd} (hx:ks[k]? = some x) :
 ∃ (b o:Nat) (s:Slc),a=some ⟨b,o,none⟩∧b < w.heap.size∧w.cell? ⟨b,o+k * 5,none⟩=some (.int .i64 x.op)∧w.cell? ⟨b,o+k * 5+1,none⟩=some (.int .i64 x.th) ∧
  w.cell? ⟨b,o+k * 5+2,none⟩=some (.int .i64 x.pl)∧w.cell? ⟨b,o+k * 5+3,none⟩=some (.int .i64 x.val)∧w.cell? ⟨b,o+k * 5+4,none⟩=some (.slice s.a s.n s.cap)∧RepK lo w s x.kids:=by
 obtain ⟨us,h1,h2,h3,h4⟩:=h
 obtain ⟨u,hu⟩:=get_of_lt (xs:=us) (k:=k) (by rw [h1];exact (List.getElem?_eq_some_iff.1 hx).1)
 obtain ⟨e1,e2,e3,e4,hk⟩:=(h4 k u x hu hx).kids
 obtain ⟨a',c',hv,_,_,h⟩:=h2
 simp only [Slc.v,Value.slice.injEq] at hv
 obtain ⟨rfl,_,_⟩:=hv
 obtain ⟨b,o,rfl,h'⟩:=h k u hu
 rw [← e1,← e2,← e3,← e4]
 exact ⟨b,o,u.s,rfl,lt_of_cell (h' 0 _ rfl),h' 0 _ rfl,h' 1 _ rfl,h' 2 _ rfl,h' 3 _ rfl,h' 4 _ rfl,hk⟩
def Cd.desc:Cd→Nat
 | .mk _ _ _ _ ks=>ks.length+(ks.attach.map fun ⟨k,_⟩=>k.desc).sum
termination_by c=>SizeOf.sizeOf c
decreasing_by
 have:=List.sizeOf_lt_of_mem ‹_›
 simp;omega
def descs (ks:List Cd):Nat:=(ks.map fun k=>k.desc+1).sum
theorem sum_attach (ks:List Cd):ks.length+(ks.attach.map fun k=>k.1.desc).sum=descs ks:=by
 have:(ks.attach.map fun k=>k.1.desc)=ks.map fun k=>k.desc:=by
  rw [List.attach_map_val (l:=ks) (f:=fun k=>k.desc)]
 rw [this]
 unfold descs
 clear this
 induction ks with
 | nil=>rfl
 | cons k ks ih=>simp;omega
theorem Cd.desc_eq (c:Cd):c.desc=descs c.kids:=by
 cases c with
 | mk o t p x ks =>
  rw [Cd.desc,Cd.kids]
  exact sum_attach ks
theorem descs_take_succ {ks:List Cd} {k:Nat} {x:Cd} (h:ks[k]? = some x):descs (ks.take (k+1))=descs (ks.take k)+(descs x.kids+1):=by
 unfold descs
 rw [List.take_add_one,h,List.map_append,List.sum_append,← descs]
 simp only [Option.toList_some,List.map_cons,List.map_nil,List.sum_cons,List.sum_nil]
 rw [Cd.desc_eq]
 rfl
theorem descs_take_le (ks:List Cd) (k:Nat):descs (ks.take k)≤descs ks:=by
 have:descs ks=descs (ks.take k)+descs (ks.drop k):=by
  unfold descs
  rw [← List.sum_append,← List.map_append,List.take_append_drop]
 omega
theorem descs_kid {ks:List Cd} {k:Nat} {x:Cd} (h:ks[k]? = some x):descs (ks.take k)+(descs x.kids+1)≤descs ks:=by
 rw [← descs_take_succ h];exact descs_take_le _ _
end Go.Proofs.YtlddmagfbcomgaaGreat
namespace Go.Proofs.YtlddmagfbcomgaaGreat
open Go.RowKit
theorem run_append_none {P:Program} {w:World} {base:Nat} {t ty e:TypeId} {i:TypeInfo} {size:Nat} (ht:P.underlying t=some (.slice e)) (hi:P.info? e=some i)
 {v:Value} {n c:Nat} {xs:List Value} (hown:w.ownsRow base e size v n xs):(Builtin.append_ #[t,t] ty #[v, .slice none 0 c]).run P w = .ok v w:=by
 rcases hown.2 with ⟨rfl,rfl⟩ | ⟨g,cap,cur,rfl,_,_,hnc,_⟩
 ·simp [Builtin.append_,run_underlying ht,sizeOf,typeInfo,hi,Builtin.lenOf,Builtin.firstCells]
 ·simp [Builtin.append_,run_underlying ht,sizeOf,typeInfo,hi,Builtin.lenOf,Builtin.firstCells,hnc,storeCells]
theorem wpList_appS {α:Type} (E:El α) {P:Program} {w:World} {ops:Array Oper} {rest:List Oper} {o:Oper} {a:Act} {Q:Exit→Act→World→Prop}
 (T:TypeId) {zv:Value} {bytes:Nat} (hinfo:(P.info? T).map (fun i=>(i.zero,i.size,i.bytes))=some (some zv,E.sz,bytes)) (hz:zv.cells.size=E.sz) {t:TypeId} (h1:P.underlying t=some (.slice T))
 (base:Nat) (v:Value) (xs ys:List α) (u:Value) (hown:Own E T w base v xs) (hrep:Rep E w u ys) (hby:bytes≤256) (hn:xs.length+ys.length≤68719476736) (hbase:base≤w.heap.size)
 (hg:o.guard=none) (s y:Operand) (hop:o.op = .call { callee:=.builtin .append,args:=#[s,y],argTypes:=#[t,t] })
 (hs:a.eval s=v) (hy:a.eval y=u)
 (hK:∀ v' w',Own E T w' base v' (xs++ys)→w.grownBy w' v.ownBlock→wpList P ops Q rest (a.put o.dst v') w') :
 wpList P ops Q (o :: rest) a w:=by
 obtain ⟨it,hi,hz0,hz1,hz2⟩:=info_parts hinfo
 obtain ⟨ad,c,rfl,hc1,hc2,hcell⟩:=hrep
 cases ad with
 | none =>
  have hys:ys=[]:=by
   cases ys with
   | nil=>rfl
   | cons y ys=>obtain ⟨b,o,hb,_⟩:=hcell 0 y rfl;cases hb
  subst hys
  refine wpList_plain hg fun K hK' => ?_
  have hrun:=run_append_none (P:=P) (w:=w) (ty:=o.type) (c:=c) h1 hi hown
  unfold Oper.wp
  simp [execOp,hop,resolve,invoke,builtin,hs,hy,hrun,Result.andThen]
  exact hK' _ _ (hK _ _ (by simpa using hown) (World.grownBy.refl _ _))
 | some ad =>
  refine wpList_append_own w hg s y t hop base T it zv E.sz bytes h1 hi hz0 hz1 hz2 hz E.pos v xs.length _ hs hown ad ys.length c (ys.flatMap E.c) hy (E.length ys) ?_ ?_ (by unfold maxLen;omega) ?_ hbase ?_
  ·intro j u hu
   have hpos:=E.pos
   have hj:j=j / E.sz * E.sz+j % E.sz:=by rw [Nat.mul_comm];exact (Nat.div_add_mod j E.sz).symm
   have hm:j % E.sz < E.sz:=Nat.mod_lt _ hpos
   have hu2:=hu
   rw [hj,E.get ys _ _ hm] at hu2
   cases hx:ys[j / E.sz]? with
   | none=>rw [hx] at hu2;cases hu2
   | some x =>
    rw [hx] at hu2
    obtain ⟨b,o,hb,h⟩:=hcell _ x hx
    simp only [Option.some.injEq] at hb
    subst hb
    have hc:=h (j % E.sz) u hu2
    rw [Addr.add_lit,hj,← Nat.add_assoc]
    exact hc
  ·intro u hu
   rw [List.mem_flatMap] at hu
   obtain ⟨x,_,hx⟩:=hu
   exact E.one x u hx
  ·have:=Nat.mul_le_mul (show xs.length+ys.length≤68719476736 from hn) hby
   omega
  ·intro v' w' h2 h3 _
   refine hK v' w' ?_ h3
   unfold Own
   simpa [List.flatMap_append] using h2
theorem own_ne {α β:Type} {E:El α} {F:El β} {T U:TypeId} (hT:T≠U) {w:World} {base base':Nat} {v u:Value} {xs:List α} {ys:List β} (h:Own E T w base v xs) (k:Own F U w base' u ys):∀ q,u.ownBlock=some q→v.ownBlock≠some q:=by
 intro q hq hv
 rcases h.2 with ⟨rfl,_⟩ | ⟨g,cap,cur,rfl,_,hg,_⟩
 ·simp [Value.ownBlock] at hv
 ·rcases k.2 with ⟨rfl,_⟩ | ⟨g',cap',cur',rfl,_,hg',_⟩
  ·simp [Value.ownBlock] at hq
  ·simp [Value.ownBlock] at hq hv
   subst hq
   subst hv
   rw [hg] at hg'
   simp at hg'
   exact hT hg'.2
theorem Own2U.app {α:Type} {E:El α} {T1 T2:TypeId} (hT:T1≠T2) {us:List Slc} {w w1 w2:World} {base:Nat} {v v':Value} {p:List (List α)} (h:Own2U E T1 T2 us w base v p) (hb:Below w.heap.size w w1) (hbase:base≤w.heap.size) {r:List α} {s:Slc}
 (hu:Own E T2 w1 w.heap.size s.v r) (h2'':Own SlcE T1 w2 base v' (us++[s])) (hg:w1.grownBy w2 v.ownBlock):Own2 E T1 T2 w2 base v' (p++[r]):=by
 obtain ⟨h1,h2,h3,h4,h5⟩:=h
 have h2':=h2.below hb
 have hnew:∀ q,s.v.ownBlock=some q→w.heap.size≤q:=fun q hq=>(World.ownsRow.lt hu q hq).1
 have hold:∀ (i:Nat) (u':Slc),us[i]? = some u'→∀ q,u'.v.ownBlock=some q→q < w.heap.size:=fun i u' hi q hq=>by
  obtain ⟨r',hr'⟩:=get_of_lt (xs:=p) (k:=i) (by have:=(List.getElem?_eq_some_iff.1 hi).1;omega)
  exact (World.ownsRow.lt (h3 i u' r' hi hr') q hq).2
 have split:∀ (i:Nat) (u':Slc),(us++[s])[i]? = some u'→(i=us.length∧u'=s)∨(i < us.length∧us[i]? = some u'):=fun i u' hi=>by
  by_cases hlt:i < us.length
  ·rw [List.getElem?_append_left hlt] at hi;exact .inr ⟨hlt,hi⟩
  ·rw [List.getElem?_append_right (by omega)] at hi
   have:i - us.length=0:=by
    rcases Nat.eq_zero_or_pos (i - us.length) with h | h
    ·exact h
    ·rw [List.getElem?_eq_none (by simp;omega)] at hi;cases hi
   rw [this] at hi;simp at hi
   exact .inl ⟨by omega,hi.symm⟩
 have hus:Own E T2 w2 base s.v r:=(hu.mono hbase).grown hg (by
  rcases hq:s.v.ownBlock with _ | q
  ·exact .inl rfl
  ·exact .inr (fun e=>own_ne hT h2' hu q hq e.symm))
 have hrows:∀ (i:Nat) (u:Slc) (r':List α),us[i]? = some u→p[i]? = some r'→Own E T2 w2 base u.v r':=fun i u r' hi hr' =>
  ((h3 i u r' hi hr').below hb).grown hg (by
   rcases hq:u.v.ownBlock with _ | q
   ·exact .inl rfl
   ·exact .inr (fun e=>h5 i u hi q hq e.symm))
 refine ⟨us++[s],by simp [h1],h2'', ?_, ?_, ?_⟩
 ·intro i u r' hi hr'
  rcases split i u hi with ⟨e1,e2⟩ | ⟨hlt,hi'⟩
  ·rw [e1,List.getElem?_append_right (by omega),h1,Nat.sub_self] at hr'
   simp at hr'
   rw [e2,← hr'];exact hus
  ·rw [List.getElem?_append_left (by omega)] at hr'
   exact hrows i u r' hi' hr'
 ·intro i j u u' hi hj hij q hq hq'
  rcases split i u hi with ⟨e1,e2⟩ | ⟨hlt,hi'⟩
  ·rcases split j u' hj with ⟨e3,e4⟩ | ⟨hlt',hj'⟩
   ·omega
   ·rw [e2] at hq;have a1:=hnew q hq;have a2:=hold j u' hj' q hq';omega
  ·rcases split j u' hj with ⟨e3,e4⟩ | ⟨hlt',hj'⟩
   ·rw [e4] at hq';have a1:=hnew q hq';have a2:=hold i u hi' q hq;omega
   ·exact h4 i j u u' hi' hj' hij q hq hq'
 ·intro i u hi q hq
  rcases split i u hi with ⟨e1,e2⟩ | ⟨hlt,hi'⟩
  ·rw [e2] at hq;exact own_ne hT h2'' hus q hq
  ·obtain ⟨r',hr'⟩:=get_of_lt (xs:=p) (k:=i) (by omega)
   exact own_ne hT h2'' (hrows i u r' hi' hr') q hq
theorem Own2.nil {α:Type} {E:El α} (T1 T2:TypeId) (w:World) (base:Nat):Own2 E T1 T2 w base (.slice none 0 0) []:=
 ⟨[],rfl,Own.nil _ _ _,fun i u r h=>by simp at h,fun i j u u' h=>by simp at h,fun i u h=>by simp at h⟩
theorem Own2.empty {α:Type} {E:El α} (T1 T2:TypeId) (w:World) {base:Nat} (hb:base≤w.heap.size):Own2 E T1 T2 (w.alloc (.cells #[] T1)) base (.slice (some ⟨w.heap.size,0,none⟩) 0 0) []:=
 ⟨[],rfl,Own.empty _ _ hb,fun i u r h=>by simp at h,fun i j u u' h=>by simp at h,fun i u h=>by simp at h⟩
theorem Own2.mono {α:Type} {E:El α} {T1 T2:TypeId} {w:World} {base base':Nat} {v:Value} {p:List (List α)} (h:Own2 E T1 T2 w base v p) (hb:base'≤base):Own2 E T1 T2 w base' v p:=by
 obtain ⟨us,h1,h2,h3,h4,h5⟩:=h
 exact ⟨us,h1,h2.mono hb,fun i u r hu hr=>(h3 i u r hu hr).mono hb,h4,h5⟩
theorem Own2.outHi {α:Type} {E:El α} {T1 T2:TypeId} {lo hi:Nat} {w w':World} {base:Nat} {v:Value} {p:List (List α)} (h0:Own2 E T1 T2 w base v p)
 (h:Outside lo hi w w') (hhi:hi≤base):Own2 E T1 T2 w' base v p:=by
 obtain ⟨us,hU,hlt⟩:=h0.told
 obtain ⟨h1,h2,h3,h4,h5⟩:=hU
 refine ⟨us,h1,h.own h2 (fun q hq => .inr (by have:=(World.ownsRow.lt h2 q hq).1;omega)),fun i u r hu hr=>h.own (h3 i u r hu hr) (fun q hq => .inr (by have:=(hlt i u hu q hq).1;omega)),h4,h5⟩
end Go.Proofs.YtlddmagfbcomgaaGreat
namespace Go.Proofs.YtlddmagfbcomgaaGreat
open Go.RowKit
theorem Tryz.infoCond:(Tryz.prog.info? 45).map (fun i=>(i.zero,i.size,i.bytes))=some (some (.agg #[.int .i64 0, .int .i64 0, .int .i64 0, .int .i64 0, .slice none 0 0]),5,56):=by kernel_rfl
theorem some_bool (p:Prop):∃ b:Bool,b=true↔p:=by
 by_cases h:p
 ·exact ⟨true,by simp [h]⟩
 ·exact ⟨false,by simp [h]⟩
end Go.Proofs.YtlddmagfbcomgaaGreat
namespace Go.Proofs.YtlddmagfbcomgaaGreat
structure Gp where
 t:Int
 i:Int
deriving DecidableEq
abbrev Gp.v (x:Gp):Value:=.agg #[.int .i64 x.t, .int .i64 x.i]
def GapE:El Gp:=⟨2,by decide,fun x=>[.int .i64 x.t, .int .i64 x.i],fun _=>rfl,fun x u h=>by simp at h;rcases h with rfl | rfl <;> rfl⟩
def gapAt (r:List Ins) (i:Nat):Bool:=
 match r[i - 1]?,r[i]? with
 | some x,some y=>decide (1≤i)&&(x.op != 4&&y.op != 4)
 | _,_=>false
def rowGaps (t:Nat) (r:List Ins) (n:Nat):List Gp:=((List.range n).filter (gapAt r)).map fun (i:Nat)=>⟨t,i⟩
def gapsTo (p:List (List Ins)) (j:Nat):List Gp:=(List.range j).flatMap fun t=>match p[t]? with
 | some r=>rowGaps t r r.length
 | none=>[]
def gapsP (p:List (List Ins)):List Gp:=gapsTo p p.length
theorem rowGaps_succ (t:Nat) (r:List Ins) (n:Nat):rowGaps t r (n+1)=rowGaps t r n++if gapAt r n=true then [⟨t,n⟩] else []:=by
 unfold rowGaps
 rw [List.range_succ,List.filter_append,List.map_append]
 by_cases h:gapAt r n=true <;> simp [h]
theorem rowGaps_one (t:Nat) (r:List Ins):rowGaps t r 1=[]:=by
 have h:gapAt r 0=false:=by unfold gapAt;split <;> simp
 rw [rowGaps_succ,if_neg (by simp [h])];simp [rowGaps]
theorem rowGaps_zero (t:Nat) (r:List Ins):rowGaps t r 0=[]:=by simp [rowGaps]
theorem gapsTo_succ {p:List (List Ins)} {j:Nat} {r:List Ins} (h:p[j]? = some r):gapsTo p (j+1)=gapsTo p j++rowGaps j r r.length:=by
 unfold gapsTo
 rw [List.range_succ,List.flatMap_append]
 simp [h]
theorem rowGaps_length (t:Nat) (r:List Ins) (n:Nat):(rowGaps t r n).length≤n:=by
 unfold rowGaps
 rw [List.length_map]
 exact Nat.le_trans (List.length_filter_le _ _) (by simp)
theorem gapsTo_length (p:List (List Ins)):∀ j,j≤p.length→(gapsTo p j).length≤(p.take j).flatten.length:=by
 intro j
 induction j with
 | zero=>intro _;simp [gapsTo]
 | succ j ih =>
  intro hj
  obtain ⟨r,hr⟩:=get_of_lt (xs:=p) (k:=j) hj
  rw [gapsTo_succ hr,List.take_add_one,hr,List.flatten_append,List.length_append,List.length_append]
  have h1:=ih (by omega)
  have h2:=rowGaps_length j r r.length
  simp only [Option.toList_some,List.flatten_cons,List.flatten_nil,List.append_nil]
  omega
theorem rowGaps_step {t:Nat} {r:List Ins} {s:Nat} {x y:Ins} (hx:r[s]? = some x) (hy:r[s+1]? = some y):rowGaps t r (s+1+1)=rowGaps t r (s+1)++if (x.op != 4&&y.op != 4)=true then [⟨t,(s+1:Nat)⟩] else []:=by
 rw [rowGaps_succ]
 have:gapAt r (s+1)=(x.op != 4&&y.op != 4):=by unfold gapAt;simp [hx,hy]
 rw [this]
end Go.Proofs.YtlddmagfbcomgaaGreat