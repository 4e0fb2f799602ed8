/-
  Plain: a valid program has few events.
-/
import Derived.Test.YtfbgppkdnfljhaaDoorProg
import Derived.WalkKit
import Derived.WalkSpells
import Derived.WalkLawsBesides
import Derived.BigQuiet
import Derived.Deep.RegionHeld3
import Derived.Deep.DeepCutAuto
import Derived.Deep.AppendLies
import Derived.Laws.BytesArg
set_option maxHeartbeats 6400000
set_option maxRecDepth 100000
namespace Go.Proofs.YtfbgppkdnfljhaaDoor
open Go.RowKit
theorem hide {p:Prop} (h:p):Hid p:=h
theorem lt_of_cell {w:World} {b o:Nat} {v:Value} (h:w.cell? ⟨b,o,none⟩=some v):b < w.heap.size:=World.block_lt_of_cell? w ⟨b,o,none⟩ h
theorem below_of_grown {w w':World} (hg:w.grownBy w' none):Below w.heap.size w w':=(Below.refl _ _).grown hg (Nat.le_refl _) (fun _ h=>by cases h)
theorem bcell {W w1:World} (hb:Below W.heap.size W w1):(∀ b o,b < W.heap.size→w1.cell? ⟨b,o,none⟩=W.cell? ⟨b,o,none⟩)∧(∀ b o,b < W.heap.size→w1.frozen? ⟨b,o,none⟩=W.frozen? ⟨b,o,none⟩):=
 ⟨fun b o h=>hb.cell (p:=⟨b,o,none⟩) h,fun b o h=>hb.frozen (p:=⟨b,o,none⟩) h⟩
structure BW (w:World) where
 val:World
 prop:Below w.heap.size w val
instance BW.some (w:World):Nonempty (BW w):=⟨⟨w,Below.refl _ _⟩⟩
@[go_sem] theorem BW.cell {w:World} (x:BW w) {b o:Nat} (h:b < w.heap.size):x.val.cell? ⟨b,o,none⟩=w.cell? ⟨b,o,none⟩:=x.prop.cell (p:=⟨b,o,none⟩) h
@[go_sem] theorem BW.frozen {w:World} (x:BW w) {b o:Nat} (h:b < w.heap.size):x.val.frozen? ⟨b,o,none⟩=w.frozen? ⟨b,o,none⟩:=x.prop.frozen (p:=⟨b,o,none⟩) h
theorem wp_region_bw {P:Program} {id:Nat} {Q:Exit→Act→World→Prop} {a:Act} {w:World} {l:List Oper} (hm:P.follows .mixedOrders=true) (hB:Region.lexB .any l.toArray=true)
 (h:wpQuiet P l.toArray (fun w' => ∃ x:BW w,w'=x.val) (fun a' => ∀ w',Below w.heap.size w w'→Q .normal a' w') l a):(Code.region id l.toArray true).wp P Q a w:=
 wp_region_quiet (C:=fun w' => ∃ x:BW w,w'=x.val) hm hB ⟨⟨_,(Below.refl w.heap.size w).drew⟩,rfl⟩ (by
  have e:(fun a':Act => ∀ w',(∃ x:BW w,w'=x.val)→Q .normal a' w')=(fun a' => ∀ w',Below w.heap.size w w'→Q .normal a' w'):=by
   funext a'
   exact propext ⟨fun h w' hb=>h w' ⟨⟨w',hb⟩,rfl⟩,fun h w' ⟨x,hx⟩=>hx ▸ h _ x.prop⟩
  rw [e];simpa using h)
theorem Calls.bw {P:Program} {f:FuncId} {args:Array Value} {w:World} {x:BW w} {v:Value}
 (h:Calls P f args x.val fun e w'=>e = .returned v∧Below x.val.heap.size x.val w'):Calls P f args x.val fun e w''=>e = .returned v∧∃ y:BW w,w''=y.val:=
 h.mono fun _ w' ⟨he,hb⟩=>⟨he,⟨w',x.prop.trans (hb.mono x.prop.size)⟩,rfl⟩
theorem Calls.bw_same {P:Program} {f:FuncId} {args:Array Value} {w:World} {x:BW w} {v:Value}
 (h:Calls P f args x.val fun e w'=>e = .returned v∧x.val=w'):Calls P f args x.val fun e w''=>e = .returned v∧∃ y:BW w,w''=y.val:=
 h.mono fun _ _ ⟨he,hb⟩=>⟨he,x,hb.symm⟩
structure El (α:Type) where
 sz:Nat
 pos:0 < sz
 c:α→List Value
 len:∀ x,(c x).length=sz
 one:∀ x u,u∈c x→u.oneCell'=true
section
variable {α : Type} (E : El α)
theorem El.length (xs:List α):(xs.flatMap E.c).length=xs.length * E.sz:=by
 induction xs with
 | nil=>simp
 | cons x xs ih=>simp [E.len,ih,Nat.add_mul,Nat.add_comm]
theorem El.get (xs:List α):∀ (i j:Nat),j < E.sz→(xs.flatMap E.c)[i * E.sz+j]? = (xs[i]?).bind fun x=>(E.c x)[j]?:=by
 induction xs with
 | nil=>simp
 | cons x xs ih =>
  intro i j hj
  rw [List.flatMap_cons]
  cases i with
  | zero=>rw [List.getElem?_append_left (by rw [E.len];omega)];simp
  | succ i =>
   rw [List.getElem?_append_right (by rw [E.len,Nat.add_mul];omega),E.len,show (i+1) * E.sz+j - E.sz=i * E.sz+j by rw [Nat.add_mul];omega,ih i j hj]
   simp
theorem El.set (xs:List α):∀ (i j:Nat) (x y:α) (u:Value),j < E.sz→xs[i]? = some x→E.c y=(E.c x).set j u→(xs.flatMap E.c).set (i * E.sz+j) u=(xs.set i y).flatMap E.c:=by
 induction xs with
 | nil=>intro i j x y u _ h;simp at h
 | cons x0 xs ih =>
  intro i j x y u hj hx hy
  rw [List.flatMap_cons]
  cases i with
  | zero =>
   simp at hx;subst hx
   rw [List.set_append_left _ _ (by rw [E.len];omega)]
   simp [hy]
  | succ i =>
   rw [List.set_append_right _ _ (by rw [E.len,Nat.add_mul];omega),E.len,show (i+1) * E.sz+j - E.sz=i * E.sz+j by rw [Nat.add_mul];omega,ih i j x y u hj (by simpa using hx) hy]
   simp
def Rep (w:World) (v:Value) (xs:List α):Prop:=
 ∃ a c,v = .slice a xs.length c∧xs.length≤c∧c≤maxLen∧∀ i x,xs[i]? = some x→∃ b o,a=some ⟨b,o,none⟩∧∀ j u,(E.c x)[j]? = some u→w.cell? ⟨b,o+i * E.sz+j,none⟩=some u
variable {E}
theorem Rep.nil (w:World):Rep E w (.slice none 0 0) []:=⟨none,0,rfl,Nat.le_refl _,Nat.zero_le _,fun i x h=>by simp at h⟩
def Own (E:El α) (T:TypeId) (w:World) (base:Nat) (v:Value) (xs:List α):Prop:=w.ownsRow base T E.sz v xs.length (xs.flatMap E.c)
theorem Own.shape {T:TypeId} {w:World} {base:Nat} {v:Value} {xs:List α} (h:Own E T w base v xs):(v = .slice none 0 0∧xs=[])∨∃ g cap,v = .slice (some ⟨g,0,none⟩) xs.length cap∧base≤g∧g < w.heap.size∧xs.length≤cap∧cap≤maxLen:=by
 rcases h.2 with ⟨h1,h2⟩ | ⟨g,cap,cur,h1,h2,h3,h4,h5,_⟩
 ·exact .inl ⟨h1,List.eq_nil_of_length_eq_zero h2⟩
 ·exact .inr ⟨g,cap,h1,h2,(Array.getElem?_eq_some_iff.1 h3).1,h4,h5⟩
theorem Own.cell {T:TypeId} {w:World} {base g n cap:Nat} {xs:List α} (h:Own E T w base (.slice (some ⟨g,0,none⟩) n cap) xs) {i j:Nat} {x:α} {u:Value} (hx:xs[i]? = some x) (hu:(E.c x)[j]? = some u):w.cell? ⟨g,i * E.sz+j,none⟩=some u:=by
 have hj:j < E.sz:=by rw [← E.len x];exact (List.getElem?_eq_some_iff.1 hu).1
 have hi:i < xs.length:=(List.getElem?_eq_some_iff.1 hx).1
 have hn:n=xs.length:=by rcases h.2 with ⟨h1,_⟩ | ⟨g,cap,cur,h1,_⟩ <;> simp at h1;exact h1.2.1
 subst hn
 rw [World.ownsRow.cellAt h (i * E.sz+j) (by
  have:(i+1) * E.sz≤xs.length * E.sz:=Nat.mul_le_mul_right _ hi
  rw [Nat.add_mul] at this;omega),E.get xs i j hj,hx]
 exact hu
theorem Own.len {T:TypeId} {w:World} {base n cap:Nat} {a:Option Addr} {xs:List α} (h:Own E T w base (.slice a n cap) xs):n=xs.length:=by
 rcases h.2 with ⟨h1,h2⟩ | ⟨g,cap,cur,h1,_⟩
 ·simp at h1;omega
 ·simp at h1;exact h1.2.1
theorem Own.frozen {T:TypeId} {w:World} {base g n cap:Nat} {xs:List α} (h:Own E T w base (.slice (some ⟨g,0,none⟩) n cap) xs) (j:Nat):w.frozen? ⟨g,j,none⟩=false:=by
 have hn:=h.len
 subst hn
 exact World.ownsRow.frozenAt h j
theorem Own.set {T:TypeId} {w:World} {base g n cap:Nat} {xs:List α} (h:Own E T w base (.slice (some ⟨g,0,none⟩) n cap) xs) {i j:Nat} {x:α} (y:α) {u:Value} (hj:j < E.sz) (hx:xs[i]? = some x) (hy:E.c y=(E.c x).set j u) :
 Own E T (w.setCell ⟨g,i * E.sz+j,none⟩ u) base (.slice (some ⟨g,0,none⟩) n cap) (xs.set i y):=by
 have hn:=h.len
 subst hn
 have hs:=(World.ownsRow.stored h (i * E.sz+j) u).1
 unfold Own
 rw [List.length_set,← E.set xs i j x y u hj hx hy]
 exact hs
theorem Own.rep {T:TypeId} {w:World} {base:Nat} {v:Value} {xs:List α} (h:Own E T w base v xs):Rep E w v xs:=by
 rcases h.shape with ⟨rfl,rfl⟩ | ⟨g,cap,rfl,h1,h2,h3,h4⟩
 ·exact Rep.nil w
 ·refine ⟨_,_,rfl,h3,h4,fun i x hx=>⟨g,0,rfl,fun j u hu => ?_⟩⟩
  rw [Nat.zero_add]
  exact h.cell hx hu
theorem Own.kept {T:TypeId} {w w':World} {base B:Nat} {v:Value} {xs:List α} (h:Own E T w base v xs) (hb:Below B w w') (hB:∀ k,v.ownBlock=some k→k < B):Own E T w' base v xs:=by
 refine ⟨h.1, ?_⟩
 rcases h.2 with hn | ⟨g,cap,cur,rfl,hb1,hgg,rest⟩
 ·exact .inl hn
 ·exact .inr ⟨g,cap,cur,rfl,hb1,(hb.block g (hB g rfl)).trans hgg,rest⟩
theorem Own.below {T:TypeId} {w w':World} {base:Nat} {v:Value} {xs:List α} (h:Own E T w base v xs) (hb:Below w.heap.size w w'):Own E T w' base v xs:=
 h.kept hb fun k hk=>(World.ownsRow.lt h k hk).2
theorem Own.alloc {T:TypeId} {w:World} {base:Nat} {v:Value} {xs:List α} (h:Own E T w base v xs) (o:Obj):Own E T (w.alloc o) base v xs:=World.ownsRow.alloc h o
theorem Own.nil (T:TypeId) (w:World) (base:Nat):Own E T w base (.slice none 0 0) []:=World.ownsRow_nil _ _ _ _
theorem Own.empty (T:TypeId) (w:World) {base:Nat} (hb:base≤w.heap.size):Own E T (w.alloc (.cells #[] T)) base (.slice (some ⟨w.heap.size,0,none⟩) 0 0) []:=World.ownsRow_made w #[] 0 hb (by unfold maxLen;omega) (by simp)
theorem Own.mono {T:TypeId} {w:World} {base base':Nat} {v:Value} {xs:List α} (h:Own E T w base v xs) (hb:base'≤base):Own E T w base' v xs:=by
 refine ⟨h.1, ?_⟩
 rcases h.2 with hn | ⟨g,cap,cur,rfl,hb1,rest⟩
 ·exact .inl hn
 ·exact .inr ⟨g,cap,cur,rfl,Nat.le_trans hb hb1,rest⟩
theorem made_eq (z:α) (zv:Value) (hz:zv.cells.toList=E.c z) (n:Nat):(madeCells zv.cells (n * E.sz)).toList=(List.replicate n z).flatMap E.c:=by
 have hsz:zv.cells.size=E.sz:=by rw [← Array.length_toList,hz,E.len]
 apply List.ext_getElem?
 intro k
 have hk:=Nat.div_add_mod k E.sz
 have hm:k % E.sz < E.sz:=Nat.mod_lt _ E.pos
 have hk':k=k / E.sz * E.sz+k % E.sz:=by rw [Nat.mul_comm];exact hk.symm
 by_cases h:k < n * E.sz
 ·have hd:k / E.sz < n:=Nat.div_lt_of_lt_mul (by rw [Nat.mul_comm];exact h)
  have hr:((List.replicate n z).flatMap E.c)[k]? = (E.c z)[k % E.sz]?:=by
   conv=>lhs;rw [hk']
   rw [E.get _ _ _ hm,List.getElem?_replicate,if_pos hd];rfl
  rw [hr,← hz]
  simp only [madeCells,Array.toList_map,List.getElem?_map,Array.toList_range,List.getElem?_range h,Option.map_some,hsz]
  rw [Array.getElem?_toList,Array.getElem?_eq_getElem (by omega)]
  rw [getElem!_pos zv.cells (k % E.sz) (by omega)]
 ·rw [List.getElem?_eq_none (by rw [Array.length_toList,size_madeCells];omega),List.getElem?_eq_none (by rw [E.length];simp;omega)]
end
structure Slc where
 a:Option Addr
 n:Nat
 cap:Nat
abbrev Slc.v (s:Slc):Value:=.slice s.a s.n s.cap
structure Ins where
 op:Int
 loc:Int
 reg:Int
 val:Int
deriving DecidableEq
theorem nat_of_lt {n k:Nat} (h:k < n):(k:Int) < n:=by omega
theorem Rep.open {α:Type} {E:El α} {w:World} {v:Value} {xs:List α} (h:Rep E w v xs):∃ a c,v = .slice a xs.length c∧xs.length≤c∧xs.length≤9223372036854775807∧c≤maxLen∧Rep E w (.slice a xs.length c) xs:=by
 obtain ⟨a,c,rfl,h1,h2,h3⟩:=h
 exact ⟨a,c,rfl,h1,by unfold maxLen at h2;omega,h2,a,c,rfl,h1,h2,h3⟩
theorem news_alloc {w:World} {l:List Value} {T:TypeId}:∀ (j:Nat) (u:Value),l[j]? = some u→(w.alloc (.cells l.toArray T)).cell? ⟨w.heap.size,0+j,none⟩=some u:=by
 intro j u h
 rw [Nat.zero_add,cell_of_row _ _ j l.toArray T (0,0) (heap_alloc_new w _)]
 simpa using h
theorem below_app {α:Type} {E:El α} {T:TypeId} {w wr w1:World} {o:Obj} {v:Value} {xs:List α} (hb:Below w.heap.size w wr) (hown:Own E T wr w.heap.size v xs) (hg:(wr.alloc o).grownBy w1 v.ownBlock):Below w.heap.size w w1:=
 (hb.alloc hb.size o).grown hg (by have:=hb.size;simp;omega) (fun k hk=>(World.ownsRow.lt hown k hk).1)
theorem get_of_lt {α:Type} {xs:List α} {k:Nat} (h:k < xs.length):∃ x,xs[k]? = some x:=⟨xs[k],by simp⟩
theorem take_eq_succ {α:Type} {xs ys:List α} {k:Nat} {x y:α} (h:xs.take k=ys.take k) (hx:xs[k]? = some x) (hy:ys[k]? = some y) (e:x=y):xs.take (k+1)=ys.take (k+1):=by
 rw [List.take_add_one,List.take_add_one,h,hx,hy,e]
theorem take_all_eq {α:Type} {xs ys:List α} {k:Nat} (h:xs.take k=ys.take k) (hx:xs.length≤k) (hy:ys.length≤k):xs=ys:=by
 rwa [List.take_of_length_le hx,List.take_of_length_le hy] at h
theorem ne_of_get {α:Type} {xs ys:List α} {k:Nat} {x y:α} (hx:xs[k]? = some x) (hy:ys[k]? = some y) (e:x≠y):xs≠ys:=by
 intro h;subst h;rw [hx] at hy;exact e (Option.some.inj hy)
section
variable {α : Type} {E : El α} {T1 T2 : TypeId}
end
theorem wpList_make {α:Type} (E:El α) {P:Program} {w:World} {ops:Array Oper} {rest:List Oper} {o:Oper} {a:Act} {Q:Exit→Act→World→Prop}
 (T:TypeId) (z:α) {zv:Value} {bytes:Nat} (hinfo:(P.info? T).map (fun i=>(i.zero,i.size,i.bytes))=some (some zv,E.sz,bytes)) (hz:zv.cells.toList=E.c z) {t:TypeId} (h1:P.underlying t=some (.slice T))
 (n:Nat) (hby:bytes≤256) (hn:n≤1099511627776) (hg:o.guard=none) (l c:Operand) (hop:o.op=Op.makeSlice t l c) (hl:a.eval l = .int .i64 n) (hc:a.eval c = .int .i64 n)
 (hK:∀ w',Own E T w' w.heap.size (.slice (some ⟨w.heap.size,0,none⟩) n n) (List.replicate n z)→w.grownBy w' none→wpList P ops Q rest (a.put o.dst (.slice (some ⟨w.heap.size,0,none⟩) n n)) w') :
 wpList P ops Q (o :: rest) a w:=by
 obtain ⟨it,hi,hz0,hz1,hz2⟩:=info_parts hinfo
 refine wpList_make_full w hg l c t hop w.heap.size T it zv E.sz h1 hi hz0 hz1 .i64 .i64 _ _ n hl hc rfl rfl (by rw [hz2];have:=Nat.mul_le_mul hby hn;omega) (by unfold maxLen;omega) (Nat.le_refl _) ?_
 intro w1 hown hgr
 refine hK w1 ?_ hgr
 unfold Own
 rw [List.length_replicate,← made_eq z zv hz n]
 exact hown
theorem wpList_app {α:Type} (E:El α) {P:Program} {w:World} {ops:Array Oper} {rest:List Oper} {o:Oper} {a:Act} {Q:Exit→Act→World→Prop}
 (T:TypeId) {zv:Value} {bytes:Nat} (hinfo:(P.info? T).map (fun i=>(i.zero,i.size,i.bytes))=some (some zv,E.sz,bytes)) (hz:zv.cells.size=E.sz) {t:TypeId} (h1:P.underlying t=some (.slice T))
 (base:Nat) (v:Value) (xs:List α) (x:α) (hown:Own E T w base v xs) (hby:bytes≤256) (hn:xs.length≤68719476736) (hbase:base≤w.heap.size)
 (hg:o.guard=none) (s y:Operand) (hop:o.op = .call { callee:=.builtin .append,args:=#[s,y],argTypes:=#[t,t] })
 (hs:a.eval s=v) (b off c:Nat) (hy:a.eval y = .slice (some ⟨b,off,none⟩) 1 c) (hnews:∀ j u,(E.c x)[j]? = some u→w.cell? ⟨b,off+j,none⟩=some u)
 (hK:∀ v' w',Own E T w' base v' (xs++[x])→w.grownBy w' v.ownBlock→wpList P ops Q rest (a.put o.dst v') w') :
 wpList P ops Q (o :: rest) a w:=by
 obtain ⟨it,hi,hz0,hz1,hz2⟩:=info_parts hinfo
 refine wpList_append_own w hg s y t hop base T it zv E.sz bytes h1 hi hz0 hz1 hz2 hz E.pos v xs.length _ hs hown ⟨b,off,none⟩ 1 c (E.c x) hy (by rw [E.len,Nat.one_mul]) ?_ (E.one x) (by unfold maxLen;omega) ?_ hbase ?_
 ·intro j u hu
  have hadd:(⟨b,off,none⟩:Addr).add j=⟨b,off+j,none⟩:=by unfold Addr.add;split <;> simp_all
  rw [hadd]
  exact hnews j u hu
 ·have:=Nat.mul_le_mul (show xs.length+1≤68719476737 by omega) hby
  omega
 ·intro v' w' h2 h3 _
  refine hK v' w' ?_ h3
  unfold Own
  simpa [List.flatMap_append] using h2
theorem get_set_self {α:Type} {xs:List α} {k:Nat} {x:α} (hx:xs[k]? = some x) (y:α):(xs.set k y)[k]? = some y:=by
 have:=(List.getElem?_eq_some_iff.1 hx).1
 rw [List.getElem?_set,if_pos rfl,if_pos this]
structure Outside (lo hi:Nat) (w w':World):Prop where
 os:w'.os=w.os
 tape:w'.tape=w.tape
 output:w'.output=w.output
 size:w.heap.size≤w'.heap.size
 block:∀ k,k < w.heap.size→(k < lo∨hi≤k)→w'.heap[k]? = w.heap[k]?
theorem Outside.refl (lo hi:Nat) (w:World):Outside lo hi w w:=⟨rfl,rfl,rfl,Nat.le_refl _,fun _ _ _=>rfl⟩
theorem Outside.grown {lo hi:Nat} {w w' w'':World} {row:Option Nat} (h:Outside lo hi w w') (hg:w'.grownBy w'' row) (hr:∀ q,row=some q→lo≤q∧q < hi):Outside lo hi w w'':=
 ⟨hg.os.trans h.os,hg.tape.trans h.tape,hg.output.trans h.output,Nat.le_trans h.size hg.size,fun k hk hlh=>(hg.block k (by have:=h.size;omega) (fun e=>by have:=hr k e.symm;omega)).trans (h.block k hk hlh)⟩
theorem Outside.trans {lo hi:Nat} {a b c:World} (h:Outside lo hi a b) (k:Outside lo hi b c):Outside lo hi a c:=
 ⟨k.os.trans h.os,k.tape.trans h.tape,k.output.trans h.output,Nat.le_trans h.size k.size,fun q hq hlh=>(k.block q (by have:=h.size;omega) hlh).trans (h.block q hq hlh)⟩
theorem Outside.below {lo hi:Nat} {w w':World} (h:Outside lo hi w w') {B:Nat} (hB:B≤lo) (hB':B≤w.heap.size):Below B w w':=
 ⟨h.os,h.tape,h.output,h.size,fun k hk=>h.block k (by omega) (.inl (by omega))⟩
theorem grown_set {w w':World} {g:Nat} (h:w.grownBy w' (some g)) (j:Nat) (u:Value):w.grownBy (w'.setCell ⟨g,j,none⟩ u) (some g):=
 ⟨h.os,h.tape,h.output,by simpa using h.size,fun q hq hne=>(heap_setCell_other w' ⟨g,j,none⟩ q u (fun e=>hne (by simp [e]))).trans (h.block q hq hne)⟩
def RetOwn {α:Type} (E:El α) (T:TypeId) (w:World) (xs:List α) (e:Ending) (w':World):Prop:=∃ v,e = .returned v∧Own E T w' w.heap.size v xs∧Below w.heap.size w w'
end Go.Proofs.YtfbgppkdnfljhaaDoor
namespace Go.Proofs.YtfbgppkdnfljhaaDoor
open Go.RowKit
end Go.Proofs.YtfbgppkdnfljhaaDoor
namespace Go.Proofs.YtfbgppkdnfljhaaDoor
open Go.RowKit
def isRop (o:Int):Bool:=o==1||o==5
def isWop (o:Int):Bool:=o==2||o==3||o==5
def inB (a lo hi:Int):Bool:=decide (lo≤a)&&decide (a≤hi)
def insValid (x:Ins):Bool:=
 if x.op=1∨x.op=3 then inB x.loc 0 2&&inB x.reg 0 2&&x.val==0
 else if x.op=2 then inB x.loc 0 2&&x.reg==0&&inB x.val 0 3
 else if x.op=4 then x.loc==0&&x.reg==0&&x.val==0
 else if x.op=5 then inB x.loc 0 2&&inB x.reg 0 2&&inB x.val 0 3
 else false
theorem within_any (x lo hi:Int) (w:World):Calls Tryd.prog 38 #[.int .i64 x, .int .i64 lo, .int .i64 hi] w fun e w'=>e = .returned (.bool (inB x lo hi))∧w=w':=by
 unfold inB
 by_cases h:lo≤x
 ·go_enter Tryd.func38,Tryd.ntmps38
  go_wp2
  go_ret
  exact ⟨by simp [h],rfl⟩
 ·have hd:decide (lo≤x)=false:=by simp;omega
  go_enter Tryd.func38,Tryd.ntmps38
  go_wp2
  go_ret
  exact ⟨by simp,rfl⟩
end Go.Proofs.YtfbgppkdnfljhaaDoor
namespace Go.Proofs.YtfbgppkdnfljhaaDoor
def fR (loc:Int) (x:Ins):Bool:=x.loc==loc&&isRop x.op
def fW (loc:Int) (x:Ins):Bool:=x.loc==loc&&isWop x.op
def cnt (f:Ins→Bool) (p:List (List Ins)):Nat:=p.flatten.countP f
theorem cnt_take_succ (f:Ins→Bool) {p:List (List Ins)} {i:Nat} {r:List Ins} (h:p[i]? = some r):cnt f (p.take (i+1))=cnt f (p.take i)+r.countP f:=by
 simp [cnt,List.take_add_one,h,List.countP_append]
def fact:Nat→Nat
 | 0=>1
 | n+1=>fact n * (n+1)
theorem fact_pos (n:Nat):1≤fact n:=by
 induction n with
 | zero=>exact Nat.le_refl _
 | succ n ih=>exact Nat.le_trans ih (Nat.le_mul_of_pos_right _ (Nat.succ_pos _))
def pl (p:List (List Ins)) (loc:Nat):Nat:=(cnt (fW loc) p+1) ^ cnt (fR loc) p * fact (cnt (fW loc) p)
def prodTo (p:List (List Ins)):Nat→Nat
 | 0=>1
 | l+1=>prodTo p l * pl p l
def prodP (p:List (List Ins)):Nat:=prodTo p 3
def cap (n:Nat):Nat:=min n 3001
def notFence (x:Ins):Bool:=x.op != 4
def rowOk (r:List Ins):Bool:=r.all insValid&&decide (r.length≤7)
def shapeOk (p:List (List Ins)):Bool:=decide (p.length≤3)&&p.all rowOk&&decide (cnt notFence p≤12)
def progValid (p:List (List Ins)):Bool:=shapeOk p&&decide (1≤p.length)&&decide (prodP p≤3000)
theorem valid_le {p:List (List Ins)} (h:progValid p=true):p.length≤3∧1≤p.length∧(∀ r∈p,r.length≤7∧∀ x∈r,insValid x=true)∧cnt notFence p≤12∧prodP p≤3000:=by
 unfold progValid shapeOk at h
 simp only [Bool.and_eq_true,decide_eq_true_eq,List.all_eq_true] at h
 obtain ⟨⟨⟨⟨h1,h2⟩,h3⟩,h4⟩,h5⟩:=h
 refine ⟨h1,h4,fun r hr => ?_,h3,h5⟩
 have:=h2 r hr
 unfold rowOk at this
 simp only [Bool.and_eq_true,decide_eq_true_eq,List.all_eq_true] at this
 exact ⟨this.2,this.1⟩
end Go.Proofs.YtfbgppkdnfljhaaDoor
namespace Go.Proofs.YtfbgppkdnfljhaaDoor
open Go.RowKit
end Go.Proofs.YtfbgppkdnfljhaaDoor
namespace Go.Proofs.YtfbgppkdnfljhaaDoor
open Go.RowKit
end Go.Proofs.YtfbgppkdnfljhaaDoor
namespace Go.Proofs.YtfbgppkdnfljhaaDoor
open Go.RowKit
end Go.Proofs.YtfbgppkdnfljhaaDoor
namespace Go.Proofs.YtfbgppkdnfljhaaDoor
end Go.Proofs.YtfbgppkdnfljhaaDoor
namespace Go.Proofs.YtfbgppkdnfljhaaDoor
open Go.RowKit
end Go.Proofs.YtfbgppkdnfljhaaDoor
namespace Go.Proofs.YtfbgppkdnfljhaaDoor
open Go.RowKit
end Go.Proofs.YtfbgppkdnfljhaaDoor
namespace Go.Proofs.YtfbgppkdnfljhaaDoor
open Go.RowKit
structure Ev where
 t:Int
 i:Int
 l:Int
 r:Bool
 w:Bool
deriving DecidableEq
def evOf (t i:Nat) (x:Ins):List Ev:=if x.op=4 then [] else [⟨t,i,x.loc,isRop x.op,isWop x.op⟩]
def evRow (t:Nat) (r:List Ins) (k:Nat):List Ev:=(List.range k).flatMap fun i=>match r[i]? with
 | some x=>evOf t i x
 | none=>[]
def evTo (p:List (List Ins)) (j:Nat):List Ev:=(List.range j).flatMap fun t=>match p[t]? with
 | some r=>evRow t r r.length
 | none=>[]
def evHead (k:Nat):List Ev:=(List.range k).map fun (l:Nat)=>⟨-1,l,l,false,true⟩
def evAll (p:List (List Ins)):List Ev:=evHead 3++evTo p p.length
theorem evRow_succ {t:Nat} {r:List Ins} {k:Nat} {x:Ins} (h:r[k]? = some x):evRow t r (k+1)=evRow t r k++evOf t k x:=by
 unfold evRow
 rw [List.range_succ,List.flatMap_append]
 simp [h]
theorem evTo_succ {p:List (List Ins)} {j:Nat} {r:List Ins} (h:p[j]? = some r):evTo p (j+1)=evTo p j++evRow j r r.length:=by
 unfold evTo
 rw [List.range_succ,List.flatMap_append]
 simp [h]
end Go.Proofs.YtfbgppkdnfljhaaDoor
namespace Go.Proofs.YtfbgppkdnfljhaaDoor
end Go.Proofs.YtfbgppkdnfljhaaDoor
namespace Go.Proofs.YtfbgppkdnfljhaaDoor
open Go.RowKit
end Go.Proofs.YtfbgppkdnfljhaaDoor
namespace Go.Proofs.YtfbgppkdnfljhaaDoor
open Go.RowKit
def bitsTo (f:Nat→Bool):Nat→Int
 | 0=>0
 | k+1=>if f k=true then bits .or .i64 (bitsTo f k) (wrap64 ((2:Int) ^ k)) else bitsTo f k
def relOf (n:Nat) (f:Nat→Nat→Bool):List Int:=(List.range n).map fun i=>bitsTo (f i) n
def confB (L:List Ev) (i k:Nat):Bool:=match L[i]?,L[k]? with
 | some a,some b=>decide (0≤a.t)&&(decide (0≤b.t)&&((a.t != b.t)&&((a.l==b.l)&&(a.w||b.w))))
 | _,_=>false
def conflicts (p:List (List Ins)):List Int:=relOf (evAll p).length (confB (evAll p))
theorem mem_evOf {t i:Nat} {x:Ins} {e:Ev} (h:e∈evOf t i x):e=⟨t,i,x.loc,isRop x.op,isWop x.op⟩∧x.op≠4:=by
 unfold evOf at h
 split at h
 ·simp at h
 ·simp at h;exact ⟨h,by assumption⟩
theorem mem_evAll {p:List (List Ins)} {e:Ev} (h:e∈evAll p):(e.t = -1)∨∃ (t i:Nat) (r:List Ins) (x:Ins),p[t]? = some r∧r[i]? = some x∧e=⟨t,i,x.loc,isRop x.op,isWop x.op⟩∧x.op≠4:=by
 unfold evAll at h
 rcases List.mem_append.1 h with h | h
 ·left
  simp only [evHead,List.mem_map,List.mem_range] at h
  obtain ⟨l,_,rfl⟩:=h
  rfl
 ·right
  unfold evTo at h
  rw [List.mem_flatMap] at h
  obtain ⟨t,ht,h⟩:=h
  cases hr:p[t]? with
  | none=>rw [hr] at h;simp at h
  | some r =>
   rw [hr] at h
   simp only [evRow,List.mem_flatMap,List.mem_range] at h
   obtain ⟨i,hi,h⟩:=h
   obtain ⟨x,hx⟩:=get_of_lt (xs:=r) (k:=i) hi
   rw [hx] at h
   obtain ⟨rfl,hx4⟩:=mem_evOf h
   exact ⟨t,i,r,x,hr,hx,rfl,hx4⟩
end Go.Proofs.YtfbgppkdnfljhaaDoor
namespace Go.Proofs.YtfbgppkdnfljhaaDoor
open Go.RowKit
end Go.Proofs.YtfbgppkdnfljhaaDoor
namespace Go.Proofs.YtfbgppkdnfljhaaDoor
open Go.RowKit
end Go.Proofs.YtfbgppkdnfljhaaDoor
namespace Go.Proofs.YtfbgppkdnfljhaaDoor
open Go.RowKit
end Go.Proofs.YtfbgppkdnfljhaaDoor
namespace Go.Proofs.YtfbgppkdnfljhaaDoor
open Go.RowKit
def maskTo (f:Nat→Bool):Nat→Nat
 | 0=>0
 | k+1=>if f k=true then maskTo f k ||| 2 ^ k else maskTo f k
/-! Relations. -/
def fOr (f g:Nat→Nat→Bool):Nat→Nat→Bool:=fun i k=>f i k||g i k
def fAnd (f g:Nat→Nat→Bool):Nat→Nat→Bool:=fun i k=>f i k&&g i k
def fInv (f:Nat→Nat→Bool):Nat→Nat→Bool:=fun i k=>f k i
def fComp (m:Nat) (f g:Nat→Nat→Bool):Nat→Nat→Bool:=fun i k=>(List.range m).any fun j=>f i j&&g j k
def wStep (f:Nat→Nat→Bool) (m i:Nat):Nat→Nat→Bool:=fun a k=>if a=i∧f i m=true then f i k||f m k else f a k
def wIn (f:Nat→Nat→Bool) (m:Nat):Nat→Nat→Nat→Bool
 | 0=>f
 | i+1=>wStep (wIn f m i) m i
def wOut (n:Nat) (f:Nat→Nat→Bool):Nat→Nat→Nat→Bool
 | 0=>f
 | m+1=>wIn (wOut n f m) m n
def fClo (n:Nat) (f:Nat→Nat→Bool):Nat→Nat→Bool:=wOut n f n
end Go.Proofs.YtfbgppkdnfljhaaDoor
namespace Go.Proofs.YtfbgppkdnfljhaaDoor
open Go.RowKit
theorem Outside.of_below {lo hi:Nat} {w w':World} (h:Below w.heap.size w w'):Outside lo hi w w':=⟨h.os,h.tape,h.output,h.size,fun k hk _=>h.block k hk⟩
end Go.Proofs.YtfbgppkdnfljhaaDoor
namespace Go.Proofs.YtfbgppkdnfljhaaDoor
open Go.RowKit
end Go.Proofs.YtfbgppkdnfljhaaDoor
namespace Go.Proofs.YtfbgppkdnfljhaaDoor
open Go.RowKit
end Go.Proofs.YtfbgppkdnfljhaaDoor
namespace Go.Proofs.YtfbgppkdnfljhaaDoor
open Go.RowKit
end Go.Proofs.YtfbgppkdnfljhaaDoor
namespace Go.Proofs.YtfbgppkdnfljhaaDoor
open Go.RowKit
end Go.Proofs.YtfbgppkdnfljhaaDoor
namespace Go.Proofs.YtfbgppkdnfljhaaDoor
open Go.RowKit
end Go.Proofs.YtfbgppkdnfljhaaDoor
namespace Go.Proofs.YtfbgppkdnfljhaaDoor
open Go.RowKit
theorem cell_of_block {w w':World} {b:Nat} (h:w'.heap[b]? = w.heap[b]?) (o:Nat):w'.cell? ⟨b,o,none⟩=w.cell? ⟨b,o,none⟩:=by
 unfold World.cell?
 rw [h]
def From (lo:Nat) {α:Type} (s:Slc) (us:List α):Prop:=us=[]∨∀ b o,s.a=some ⟨b,o,none⟩→lo≤b
end Go.Proofs.YtfbgppkdnfljhaaDoor
namespace Go.Proofs.YtfbgppkdnfljhaaDoor
open Go.RowKit
theorem some_bool (p:Prop):∃ b:Bool,b=true↔p:=by
 by_cases h:p
 ·exact ⟨true,by simp [h]⟩
 ·exact ⟨false,by simp [h]⟩
end Go.Proofs.YtfbgppkdnfljhaaDoor
namespace Go.Proofs.YtfbgppkdnfljhaaDoor
end Go.Proofs.YtfbgppkdnfljhaaDoor
namespace Go.Proofs.YtfbgppkdnfljhaaDoor
open Go.RowKit
theorem belowAlloc (w:World) (o:Obj):Below w.heap.size w (w.alloc o):=(Below.refl _ _).alloc (Nat.le_refl _) o
theorem ocell {b:Nat} {W w1:World} (h:Outside b (b+1) W w1):(∀ g o,g < W.heap.size→g≠b→w1.cell? ⟨g,o,none⟩=W.cell? ⟨g,o,none⟩)∧(∀ g o,g < W.heap.size→g≠b→w1.frozen? ⟨g,o,none⟩=W.frozen? ⟨g,o,none⟩):=by
 refine ⟨fun g o hg hne=>cell_of_block (h.block g hg (by omega)) o,fun g o hg hne => ?_⟩
 have:=h.block g hg (by omega)
 unfold World.frozen?
 rw [this]
theorem Outside.setNew {lo hi:Nat} {w w':World} (h:Outside lo hi w w') {g:Nat} (hg:w.heap.size≤g) (j:Nat) (v:Value):Outside lo hi w (w'.setCell ⟨g,j,none⟩ v):=
 ⟨h.os,h.tape,h.output,by simpa using h.size,fun k hk hlh=>(heap_setCell_other w' ⟨g,j,none⟩ k v (fun e=>by simp at e;omega)).trans (h.block k hk hlh)⟩
theorem Outside.allocNew {lo hi:Nat} {w w':World} (h:Outside lo hi w w') (o:Obj):Outside lo hi w (w'.alloc o):=h.trans (Outside.of_below (belowAlloc _ _))
end Go.Proofs.YtfbgppkdnfljhaaDoor
namespace Go.Proofs.YtfbgppkdnfljhaaDoor
open Go.RowKit
end Go.Proofs.YtfbgppkdnfljhaaDoor
namespace Go.Proofs.YtfbgppkdnfljhaaDoor
open Go.RowKit
end Go.Proofs.YtfbgppkdnfljhaaDoor
namespace Go.Proofs.YtfbgppkdnfljhaaDoor
open Go.RowKit
end Go.Proofs.YtfbgppkdnfljhaaDoor
namespace Go.Proofs.YtfbgppkdnfljhaaDoor
open Go.RowKit
end Go.Proofs.YtfbgppkdnfljhaaDoor
namespace Go.Proofs.YtfbgppkdnfljhaaDoor
open Go.RowKit
end Go.Proofs.YtfbgppkdnfljhaaDoor
namespace Go.Proofs.YtfbgppkdnfljhaaDoor
end Go.Proofs.YtfbgppkdnfljhaaDoor