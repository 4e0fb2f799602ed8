/-
  Lists of outcomes sorted by slices.SortFunc: the worlds of the sort, and what it leaves. No condition.
-/
import Derived.Test.YtlddmagfbcomgaaZr00
import Derived.Laws.BytesArg
import Derived.Maps.AppendAt
import Derived.Deep.AppendLies
import Derived.Sort.Statements
import Derived.Shelf.SlSortCmp.Whole1
set_option maxHeartbeats 6400000
set_option maxRecDepth 100000
namespace Go.Proofs.Ytlddmagfbcomgaa
open Go.RowKit
end Go.Proofs.Ytlddmagfbcomgaa
namespace Go.Proofs.Ytlddmagfbcomgaa
end Go.Proofs.Ytlddmagfbcomgaa
namespace Go.Proofs.Ytlddmagfbcomgaa
open Go.RowKit
end Go.Proofs.Ytlddmagfbcomgaa
namespace Go.Proofs.Ytlddmagfbcomgaa
open Go.RowKit
end Go.Proofs.Ytlddmagfbcomgaa
namespace Go.Proofs.Ytlddmagfbcomgaa
open Go.RowKit
theorem one_byte (u:World) (B:Int):(convert 22 9 (.slice (some ⟨u.heap.size,0,none⟩) 1 1)).run Try.prog (u.alloc (.cells #[.int .u8 B] 5)) = .ok (.string (strOfNums [B])) (u.alloc (.cells #[.int .u8 B] 5)):=
 run_convert_bytes_arg (u.alloc (.cells #[.int .u8 B] 5)) 22 5 Try.underlying22 Try.underlying5 u.heap.size 0 1 1 [B] rfl (fun i hi=>by
  obtain rfl:i=0:=by omega
  simp [go_sem]) 9 Try.underlying9
theorem strN_app (a b:List Int):strOfNums a++strOfNums b=strOfNums (a++b):=by
 apply ByteArray.ext
 simp [strOfNums]
theorem strN_nil:strOfNums []=⟨#[]⟩:=by
 apply ByteArray.ext
 simp [strOfNums]
theorem strN_empty (a:List Int):strOfNums a++⟨#[]⟩=strOfNums a:=by rw [← strN_nil,strN_app,List.append_nil]
theorem l17Dec_dig (x:Int) (w:World) (h0:0≤x) (h1:x≤9) :
 Calls Try.prog 65 #[.int .i64 x] w fun e w'=>e = .returned (.string (strOfNums [48+x]))∧Below w.heap.size w w':=by
 have kc:=one_byte
 go_enter Try.func65,Try.ntmps65
 go_wp2_with fail
 go_loopw [0,3] (fun q i wr=>q = .int .i64 x∧i = .string ⟨#[]⟩∧wr=w) (fun _ i _=>0)
 case atStart=>exact ⟨rfl,rfl,rfl⟩
 case round =>
  obtain ⟨rfl,rfl,rfl⟩:=hrel
  go_wp2_with fail
  go_ret
  exact ⟨by rw [← strN_empty];rfl,(Below.refl _ _).alloc (Nat.le_refl _) _⟩
theorem l1Letter_any (b x:Int) (w:World) (h0:0≤x) (h1:x≤9) (h2:0≤b) (h3:b≤200) :
 Calls Try.prog 64 #[.int .u8 b, .int .i64 x] w fun e w'=>e = .returned (.string (strOfNums [b+x]))∧Below w.heap.size w w':=by
 have kc:=one_byte
 go_enter Try.func64,Try.ntmps64
 go_wp2_with fail
 go_ret
 exact ⟨rfl,(Below.refl _ _).alloc (Nat.le_refl _) _⟩
theorem size_strN (l:List Int):(strOfNums l).size=l.length:=by simp [strOfNums,ByteArray.size]
end Go.Proofs.Ytlddmagfbcomgaa
namespace Go.Proofs.Ytlddmagfbcomgaa
end Go.Proofs.Ytlddmagfbcomgaa
namespace Go.Proofs.Ytlddmagfbcomgaa
open Go.RowKit
theorem wpList_appAt {α:Type} (E:El α) {P:Program} {w:World} {ops:Array Oper} {rest:List Oper} {o:Oper} {a:Act} {Q:Exit→Act→World→Prop}
 (T:TypeId) {zv:Value} {bytes:Nat} (hinfo:(P.info? T).map (fun i=>(i.zero,i.size,i.bytes))=some (some zv,E.sz,bytes)) (hz:zv.cells.size=E.sz) {t:TypeId} (h1:P.underlying t=some (.slice T))
 (base:Nat) (v:Value) (xs:List α) (x:α) (hown:Own E T w base v xs) (hby:bytes≤256) (hn:xs.length≤68719476736) (hbase:base≤w.heap.size)
 (hg:o.guard=none) (s y:Operand) (hop:o.op = .call { callee:=.builtin .append,args:=#[s,y],argTypes:=#[t,t] })
 (hs:a.eval s=v) (b off c:Nat) (hy:a.eval y = .slice (some ⟨b,off,none⟩) 1 c) (hnews:∀ j u,(E.c x)[j]? = some u→w.cell? ⟨b,off+j,none⟩=some u)
 (hK:∀ v' w',Own E T w' base v' (xs++[x])→w.grownBy w' v.ownBlock→(v'.ownBlock=v.ownBlock∨∃ q,v'.ownBlock=some q∧w.heap.size≤q)→wpList P ops Q rest (a.put o.dst v') w') :
 wpList P ops Q (o :: rest) a w:=by
 obtain ⟨it,hi,hz0,hz1,hz2⟩:=info_parts hinfo
 refine wpList_append_own_at w hg s y t hop base T it zv E.sz bytes h1 hi hz0 hz1 hz2 hz E.pos v xs.length _ hs hown ⟨b,off,none⟩ 1 c (E.c x) hy (by rw [E.len,Nat.one_mul]) ?_ (E.one x) (by unfold maxLen;omega) ?_ hbase ?_
 ·intro j u hu
  have hadd:(⟨b,off,none⟩:Addr).add j=⟨b,off+j,none⟩:=by unfold Addr.add;split <;> simp_all
  rw [hadd]
  exact hnews j u hu
 ·have:=Nat.mul_le_mul (show xs.length+1≤68719476737 by omega) hby
  omega
 ·intro v' w' h2 h3 _ h5
  refine hK v' w' ?_ h3 ?_
  ·unfold Own
   simpa [List.flatMap_append] using h2
  ·rcases h5 with h5 | h5
   ·exact .inl h5
   ·exact .inr ⟨_,h5,Nat.le_refl _⟩
theorem news_allocA {w:World} {l:List Value} {T:TypeId} {G:Nat} (hG:w.heap.size=G):∀ (j:Nat) (u:Value),l[j]? = some u→(w.alloc (.cells l.toArray T)).cell? ⟨G,0+j,none⟩=some u:=by
 subst hG
 exact news_alloc
end Go.Proofs.Ytlddmagfbcomgaa
namespace Go.Proofs.Ytlddmagfbcomgaa
open Go.RowKit
structure KpT (L:List TypeId) (B:Nat) (w w':World):Prop where
 os:w'.os=w.os
 tape:w'.tape=w.tape
 output:w'.output=w.output
 size:w.heap.size≤w'.heap.size
 block:∀ k ob,w.heap[k]? = some ob→(k < B∨∀ a T fz,ob = .cells a T fz→T∉L)→w'.heap[k]? = some ob
theorem KpT.refl (L:List TypeId) (B:Nat) (w:World):KpT L B w w:=⟨rfl,rfl,rfl,Nat.le_refl _,fun _ _ h _=>h⟩
theorem KpT.trans {L:List TypeId} {B:Nat} {a b c:World} (h:KpT L B a b) (k:KpT L B b c):KpT L B a c:=
 ⟨k.os.trans h.os,k.tape.trans h.tape,k.output.trans h.output,Nat.le_trans h.size k.size,fun q ob hq hl=>k.block q ob (h.block q ob hq hl) hl⟩
theorem KpT.of_below {L:List TypeId} {B:Nat} {w w':World} (h:Below w.heap.size w w'):KpT L B w w':=
 ⟨h.os,h.tape,h.output,h.size,fun k _ hk _=>(h.block k (Array.getElem?_eq_some_iff.1 hk).1).trans hk⟩
theorem KpT.below {L:List TypeId} {B:Nat} {w w':World} (h:KpT L B w w') (hB:B≤w.heap.size):Below B w w':=
 ⟨h.os,h.tape,h.output,h.size,fun k hk=>by
  have hk':k < w.heap.size:=by omega
  have e:w.heap[k]? = some (w.heap[k]'hk'):=Array.getElem?_eq_getElem hk'
  rw [e];exact h.block k _ e (.inl hk)⟩
theorem Own.typeT {α:Type} {E:El α} {T:TypeId} {w:World} {base g:Nat} {v:Value} {xs:List α} (h:Own E T w base v xs) (hg:v.ownBlock=some g):∃ a,w.heap[g]? = some (.cells a T (0,0)):=by
 rcases h.2 with ⟨rfl,_⟩ | ⟨g',cap,cur,rfl,_,hg',_⟩
 ·simp [Value.ownBlock] at hg
 ·simp [Value.ownBlock] at hg
  subst hg
  exact ⟨cur,hg'⟩
theorem Own.sameT {α:Type} {E:El α} {T:TypeId} {w w':World} {base:Nat} {v:Value} {xs:List α} (h:Own E T w base v xs) (hs:∀ q,v.ownBlock=some q→w'.heap[q]? = w.heap[q]?):Own E T w' base v xs:=by
 refine ⟨h.1, ?_⟩
 rcases h.2 with hn | ⟨g,cap,cur,rfl,hb1,hgg,rest⟩
 ·exact .inl hn
 ·exact .inr ⟨g,cap,cur,rfl,hb1,(hs g rfl).trans hgg,rest⟩
theorem KpT.grown {α:Type} {E:El α} {T:TypeId} {L:List TypeId} {B base:Nat} {w w':World} {v:Value} {xs:List α} (ho:Own E T w base v xs) (hT:T∈L) (hB:B≤base) (hg:w.grownBy w' v.ownBlock):KpT L B w w':=
 ⟨hg.os,hg.tape,hg.output,hg.size,fun k ob hk hl=>(hg.block k (Array.getElem?_eq_some_iff.1 hk).1 (fun e=>by
  obtain ⟨a,ha⟩:=ho.typeT e.symm
  have hbk:=(World.ownsRow.lt ho k e.symm).1
  rw [hk] at ha
  rcases hl with hl | hl
  ·omega
  ·exact hl a T _ (Option.some.inj ha) hT)).trans hk⟩
theorem KpT.set {T:TypeId} {L:List TypeId} {B g j:Nat} {w:World} {a:Array Value} {fz:Nat × Nat} (hg:w.heap[g]? = some (.cells a T fz)) (hT:T∈L) (hB:B≤g) (u:Value):KpT L B w (w.setCell ⟨g,j,none⟩ u):=
 ⟨rfl,rfl,rfl,by simp,fun k ob hk hl=>(heap_setCell_other w ⟨g,j,none⟩ k u (show k≠g by
  rintro rfl
  rw [hg] at hk
  rcases hl with hl | hl
  ·omega
  ·exact hl a T fz (Option.some.inj hk).symm hT)).trans hk⟩
structure LocT (L:List TypeId) (B:Nat) (w:World) (φ:World→Prop):Prop where
 now:φ w
 keep:∀ w',KpT L B w w'→φ w'
theorem LocT.own {α:Type} {E:El α} {T:TypeId} {L:List TypeId} {B base:Nat} {w:World} {v:Value} {xs:List α} (h:Own E T w base v xs) (hT:T∉L):LocT L B w (fun W=>Own E T W base v xs):=
 ⟨h,fun w' k=>h.sameT fun q hq=>by
  obtain ⟨a,ha⟩:=h.typeT hq
  rw [k.block q _ ha (.inr fun a' T' fz e=>by simp at e;rw [← e.2.1];exact hT),ha]⟩
theorem Own.setOther {α:Type} {E:El α} {U T:TypeId} (hT:U≠T) {w:World} {base g j:Nat} {a:Array Value} {fz:Nat × Nat} {v u:Value} {xs:List α} (h:Own E U w base v xs) (hg:w.heap[g]? = some (.cells a T fz)):Own E U (w.setCell ⟨g,j,none⟩ u) base v xs:=
 h.sameT fun q hq=>heap_setCell_other w ⟨g,j,none⟩ q u (show q≠g by
  rintro rfl
  obtain ⟨a',ha⟩:=h.typeT hq
  rw [hg] at ha
  simp at ha
  exact hT ha.2.1.symm)
def TyB (T:TypeId) (w:World) (g:Nat):Prop:=∃ a,w.heap[g]? = some (.cells a T (0,0))
theorem KpT.setT {T:TypeId} {L:List TypeId} {B g j:Nat} {w:World} (hg:TyB T w g) (hT:T∈L) (hB:B≤g) (u:Value):KpT L B w (w.setCell ⟨g,j,none⟩ u):=by
 obtain ⟨a,ha⟩:=hg
 exact .set ha hT hB u
theorem run_append_zeroM {P:Program} {w:World} {base:Nat} {t ty e:TypeId} {i:TypeInfo} {size:Nat} (ht:P.underlying t=some (.slice e)) (hi:P.info? e=some i)
 {v:Value} {n c:Nat} {xs:List Value} (hown:w.ownsRow base e size v n xs) (ad:Addr):(Builtin.append_ #[t,t] ty #[v, .slice (some ad) 0 c]).run P w = .ok v w:=by
 rcases hown.2 with ⟨rfl,rfl⟩ | ⟨g,cap,cur,rfl,_,_,hnc,_⟩
 ·simp [Builtin.append_,run_underlying ht,sizeOf,typeInfo,hi,Builtin.lenOf,Builtin.firstCells,loadCells,loadCellsFrom]
 ·simp [Builtin.append_,run_underlying ht,sizeOf,typeInfo,hi,Builtin.lenOf,Builtin.firstCells,hnc,loadCells,loadCellsFrom,storeCells]
theorem step_appSAtM {α:Type} (E:El α) {P:Program} {w:World} {ops:Array Oper} {o:Oper} {a:Act} {K:Act→World→Prop} {Q:Exit→Act→World→Prop} {F:Prop}
 (T:TypeId) {zv:Value} {bytes:Nat} (hinfo:(P.info? T).map (fun i=>(i.zero,i.size,i.bytes))=some (some zv,E.sz,bytes)) (hz:zv.cells.size=E.sz) {t:TypeId} (h1:P.underlying t=some (.slice T))
 (base:Nat) (s0:Slc) (xs ys:List α) (u:Value) (hown:Own E T w base s0.v xs) (hrep:Rep E w u ys) (hby:bytes≤256) (hn:xs.length+ys.length≤68719476736) (hbase:base≤w.heap.size)
 (hg:o.guard=none) (s y:Operand) (hop:o.op = .call { callee:=.builtin .append,args:=#[s,y],argTypes:=#[t,t] })
 (hs:a.eval s=s0.v) (hy:a.eval y=u)
 (hK:∀ (s':Slc) w',Own E T w' base s'.v (xs++ys)→w.grownBy w' s0.v.ownBlock→(s'.v.ownBlock=s0.v.ownBlock∨∀ q,s'.v.ownBlock=some q→w.heap.size≤q)→K (a.put o.dst (.slice s'.a s'.n s'.cap)) w') :
 if Region.wanted o (yielded ops a.tmps)=true then Oper.wp P o a w K Q else F:=by
 obtain ⟨it,hi,hz0,hz1,hz2⟩:=info_parts hinfo
 obtain ⟨ad,c,rfl,hc1,hc2,hcell⟩:=hrep
 have hw:Region.wanted o (yielded ops a.tmps)=true:=by simp [Region.wanted,hg]
 have hnone:∀ r:(Builtin.append_ #[t,t] o.type #[s0.v, .slice ad ys.length c]).run P w = .ok s0.v w,ys=[]→(if Region.wanted o (yielded ops a.tmps)=true then Oper.wp P o a w K Q else F):=fun r hys=>by
  rw [if_pos hw]
  unfold Oper.wp
  simp [execOp,hop,resolve,invoke,builtin,hs,hy,r,Result.andThen]
  exact hK s0 _ (by subst hys;simpa using hown) (World.grownBy.refl _ _) (.inl rfl)
 cases ad with
 | none =>
  have hys:ys=[]:=by
   cases ys with
   | nil=>rfl
   | cons y ys=>obtain ⟨b,o,hb,_⟩:=hcell 0 y rfl;cases hb
  exact hnone (by subst hys;exact run_append_none h1 hi hown) hys
 | some ad =>
  by_cases hys:ys=[]
  ·exact hnone (by subst hys;exact run_append_zeroM h1 hi hown ad) hys
  have hpos:0 < ys.length:=List.length_pos_iff.2 hys
  refine step_append_lies w hg s y t hop base T it zv E.sz bytes h1 hi hz0 hz1 hz2 hz E.pos s0.v xs.length _ hs hown ad ys.length c (ys.flatMap E.c) hy (E.length ys) ?_ ?_ hpos (by unfold maxLen;omega) ?_ hbase _ rfl ?_
  ·intro j u hu
   have hpos:=E.pos
   have hj:j=j / E.sz * E.sz+j % E.sz:=by rw [Nat.mul_comm];exact (Nat.div_add_mod j E.sz).symm
   have hm:j % E.sz < E.sz:=Nat.mod_lt _ hpos
   have hu2:=hu
   rw [hj,E.get ys _ _ hm] at hu2
   cases hx:ys[j / E.sz]? with
   | none=>rw [hx] at hu2;cases hu2
   | some x =>
    rw [hx] at hu2
    obtain ⟨b,o,hb,h⟩:=hcell _ x hx
    simp only [Option.some.injEq] at hb
    subst hb
    have hc:=h (j % E.sz) u hu2
    rw [Addr.add_lit,hj,← Nat.add_assoc]
    exact hc
  ·intro u hu
   rw [List.mem_flatMap] at hu
   obtain ⟨x,_,hx⟩:=hu
   exact E.one x u hx
  ·have:=Nat.mul_le_mul (show xs.length+ys.length≤68719476736 from hn) hby
   omega
  ·intro g cap w' h2 h3 h4 _
   refine hK ⟨some ⟨g,0,none⟩,xs.length+ys.length,cap⟩ w' ?_ h3 ?_
   ·unfold Own
    simpa [List.flatMap_append] using h2
   ·rcases h4 with h4 | h4
    ·exact .inl h4.symm
    ·exact .inr fun q hq=>by simp [Value.ownBlock] at hq;omega
theorem Try.infoIntSM:(Try.prog.info? 43).map (fun i=>(i.zero,i.size,i.bytes))=some (some (.slice none 0 0),1,24):=by kernel_rfl
theorem wrapM {a:Int} (h1 : -9223372036854775808≤a) (h2:a≤9223372036854775807):IntKind.i64.wrap a=a:=by rw [IntKind.wrap_i64];omega
theorem cellH {w:World} {b k:Nat} {cur:Array Value} {t:TypeId} {v:Value} {fz:Nat × Nat} (h:w.heap[b]? = some (.cells cur t fz)) (hk:cur[k]? = some v):w.cell? ⟨b,k,none⟩=some v:=by
 simp [World.cell?,h,hk]
theorem frozH {w:World} {b:Nat} {cur:Array Value} {t:TypeId} (h:w.heap[b]? = some (.cells cur t (0,0))) (j:Nat):w.frozen? ⟨b,j,none⟩=false:=by
 simp [World.frozen?,h]
end Go.Proofs.Ytlddmagfbcomgaa
namespace Go.Proofs.Ytlddmagfbcomgaa
end Go.Proofs.Ytlddmagfbcomgaa
namespace Go.Proofs.Ytlddmagfbcomgaa
open Go.RowKit
def cmpI (x y:Int):Int:=if x < y then -1 else if y < x then 1 else 0
def cmpL:List Int→List Int→Int
 | [],[]=>0
 | [],_ :: _ => -1
 | _ :: _,[]=>1
 | x :: xs,y :: ys=>if x < y then -1 else if y < x then 1 else cmpL xs ys
theorem cmpL_same:∀ (l:List Int),cmpL l l=0
 | []=>rfl
 | x :: l=>by unfold cmpL;simp;exact cmpL_same l
theorem cmpL_trans:∀ (a b c:List Int),cmpL a b < 0→cmpL b c < 0→cmpL a c < 0
 | [],[],c=>fun h _=>by simp [cmpL] at h
 | [],b :: l2,[]=>fun _ h=>by simp [cmpL] at h
 | [],b :: l2,c :: l3=>fun _ _=>by simp [cmpL]
 | a :: l1,[],c=>fun h _=>by simp [cmpL] at h
 | a :: l1,b :: l2,[]=>fun _ h=>by simp [cmpL] at h
 | a :: l1,b :: l2,c :: l3=>fun h1 h2=>by
  have ih:=cmpL_trans l1 l2 l3
  simp only [cmpL] at h1 h2 ⊢
  by_cases e1:a < b
  ·by_cases e2:b < c
   ·rw [if_pos (by omega)];omega
   ·rw [if_neg e2] at h2
    by_cases e3:c < b
    ·rw [if_pos e3] at h2;omega
    ·rw [if_pos (by omega)];omega
  ·rw [if_neg e1] at h1
   by_cases e4:b < a
   ·rw [if_pos e4] at h1;omega
   ·rw [if_neg e4] at h1
    by_cases e2:b < c
    ·rw [if_pos (by omega)];omega
    ·rw [if_neg e2] at h2
     by_cases e3:c < b
     ·rw [if_pos e3] at h2;omega
     ·rw [if_neg e3] at h2
      rw [if_neg (by omega),if_neg (by omega)]
      exact ih h1 h2
theorem cmpL_ntrans:∀ (a b c:List Int),¬ cmpL a b < 0→¬ cmpL b c < 0→¬ cmpL a c < 0
 | [],[],c=>fun _ h=>h
 | [],b :: l2,c=>fun h _=>absurd (show cmpL [] (b :: l2) < 0 by simp [cmpL]) h
 | a :: l1,b,[]=>fun _ _=>by simp [cmpL]
 | a :: l1,[],c :: l3=>fun _ h=>absurd (show cmpL [] (c :: l3) < 0 by simp [cmpL]) h
 | a :: l1,b :: l2,c :: l3=>fun h1 h2=>by
  have ih:=cmpL_ntrans l1 l2 l3
  simp only [cmpL] at h1 h2 ⊢
  by_cases e1:a < b
  ·rw [if_pos e1] at h1;omega
  ·rw [if_neg e1] at h1
   by_cases e2:b < c
   ·rw [if_pos e2] at h2;omega
   ·rw [if_neg e2] at h2
    rw [if_neg (show ¬ a < c by omega)]
    by_cases e4:b < a
    ·rw [if_pos (by omega)];omega
    ·rw [if_neg e4] at h1
     by_cases e3:c < b
     ·rw [if_pos (by omega)];omega
     ·rw [if_neg e3] at h2
      rw [if_neg (by omega)]
      exact ih h1 h2
theorem cmpL_step {xs ys:List Int} {k:Nat} {x y:Int} (hx:xs[k]? = some x) (hy:ys[k]? = some y):cmpL (xs.drop k) (ys.drop k)=if cmpI x y=0 then cmpL (xs.drop (k+1)) (ys.drop (k+1)) else cmpI x y:=by
 obtain ⟨h1,e1⟩:=List.getElem?_eq_some_iff.1 hx
 obtain ⟨h2,e2⟩:=List.getElem?_eq_some_iff.1 hy
 rw [List.drop_eq_getElem_cons h1,List.drop_eq_getElem_cons h2,e1,e2]
 simp only [cmpL,cmpI]
 by_cases c1:x < y
 ·simp [c1]
 ·by_cases c2:y < x
  ·simp [c1,c2]
  ·simp [c1,c2]
theorem isNaN_any (x:Int) (w:World):Calls Try.prog 76 #[.int .i64 x] w fun e w'=>e = .returned (.bool false)∧w=w':=by
 go_enter Try.func76,Try.ntmps76
 go_wp2_with fail
 go_ret
 exact ⟨by simp,rfl⟩
theorem cmpInt_any (x y:Int) (w:World):Calls Try.prog 63 #[.int .i64 x, .int .i64 y] w fun e w'=>e = .returned (.int .i64 (cmpI x y))∧w=w':=by
 have h1:x < y→cmpI x y = -1:=fun h=>by unfold cmpI;rw [if_pos h]
 have h2:¬ x < y→y < x→cmpI x y=1:=fun h h'=>by unfold cmpI;rw [if_neg h,if_pos h']
 have h3:¬ x < y→¬ y < x→cmpI x y=0:=fun h h'=>by unfold cmpI;rw [if_neg h,if_neg h']
 have H1:=hide h1;have H2:=hide h2;have H3:=hide h3
 clear h1 h2 h3
 generalize cmpI x y=r at *
 by_cases c1:x < y
 ·obtain rfl:=H1.out c1
  go_enter Try.func63,Try.ntmps63
  go_wp2_with (go_at_call 76;(with_reducible refine (isNaN_any _ w).mono ?_);rintro e w1 ⟨rfl,rfl⟩)
  go_ret
  exact ⟨rfl,rfl⟩
 ·by_cases c2:y < x
  ·obtain rfl:=H2.out c1 c2
   go_enter Try.func63,Try.ntmps63
   go_wp2_with (go_at_call 76;(with_reducible refine (isNaN_any _ w).mono ?_);rintro e w1 ⟨rfl,rfl⟩)
   go_ret
   exact ⟨rfl,rfl⟩
  ·obtain rfl:=H3.out c1 c2
   go_enter Try.func63,Try.ntmps63
   go_wp2_with (go_at_call 76;(with_reducible refine (isNaN_any _ w).mono ?_);rintro e w1 ⟨rfl,rfl⟩)
   go_ret
   exact ⟨rfl,rfl⟩
theorem Compare_any (v u:Value) (xs ys:List Int) (w:World) (hx:Rep IntE w v xs) (hy:Rep IntE w u ys):Calls Try.prog 55 #[v,u] w fun e w'=>e = .returned (.int .i64 (cmpL xs ys))∧w=w':=by
 obtain ⟨va,vc,rfl,hc1,hc2,hc3,hx⟩:=hx.open
 obtain ⟨ua,uc,rfl,hd1,hd2,hd3,hy⟩:=hy.open
 have HX:=hide hx;have HY:=hide hy
 clear hx hy hc1 hd1 hc3 hd3
 obtain ⟨R,hR⟩:∃ R,R=cmpL xs ys:=⟨_,rfl⟩
 rw [← hR]
 have HR:Hid (R=cmpL (xs.drop 0) (ys.drop 0)):=hide (by simpa using hR)
 clear hR
 generalize hn:xs.length=n at *
 generalize hm:ys.length=m at *
 have HN:=hide hn;have HM:=hide hm
 clear hn hm
 go_enter Try.func55,Try.ntmps55
 go_wp2_with fail
 go_loopw [11] (fun i wr => ∃ k:Nat,k≤n∧k≤m∧i = .int .i64 k∧Hid (R=cmpL (xs.drop k) (ys.drop k))∧w=wr) (fun i _=>n - (intOf i).toNat)
 case atStart=>exact ⟨0,Nat.zero_le _,Nat.zero_le _,rfl,HR.out |> hide,rfl⟩
 case round =>
  obtain ⟨k,hk,hkm,rfl,hr,rfl⟩:=hrel
  by_cases hlt:k < n
  ·have hlt':=nat_of_lt hlt
   obtain ⟨x,hxe⟩:=get_of_lt (xs:=xs) (k:=k) (by rw [HN.out];exact hlt)
   obtain ⟨b,o,rfl,hbl,i0⟩:=HX.out.int hxe
   by_cases hlm:k < m
   ·have hlm':=nat_of_lt hlm
    obtain ⟨y,hye⟩:=get_of_lt (xs:=ys) (k:=k) (by rw [HM.out];exact hlm)
    obtain ⟨b2,o2,rfl,hbl2,j0⟩:=HY.out.int hye
    have ST:=hide (cmpL_step hxe hye)
    clear hxe hye
    by_cases hc:cmpI x y=0
    ·have NR:Hid (R=cmpL (xs.drop (k+1)) (ys.drop (k+1))):=hide (by rw [hr.out,ST.out,if_pos hc])
     have HC:=hide hc
     clear hc hr
     go_wp2_with (go_at_call 63;(with_reducible refine (cmpInt_any x y w).mono ?_);rintro e w1 ⟨rfl,rfl⟩;rw [HC.out])
     go_roundw
     case rel=>exact ⟨k+1,by omega,by omega,by go_num,NR,trivial⟩
     case measure=>simp [intOf];omega
    ·have NR:Hid (R=cmpI x y):=hide (by rw [hr.out,ST.out,if_neg hc])
     clear hr
     have HCI:=hide (cmpInt_any x y w)
     generalize cmpI x y=z at *
     clear ST
     obtain rfl:R=z:=NR.out
     have hc':(R==0)=false:=by simpa using hc
     have hc2:¬ R=0:=hc
     go_wp2_with (go_at_call 63;(with_reducible refine HCI.out.mono ?_);rintro e w1 ⟨rfl,rfl⟩)
     go_ret
     exact ⟨rfl,rfl⟩
   ·obtain rfl:k=m:=by omega
    have E:Hid (R=1):=hide (by
     rw [hr.out,List.drop_of_length_le (l:=ys) (by rw [HM.out];exact Nat.le_refl _)]
     obtain ⟨h1,e1⟩:=List.getElem?_eq_some_iff.1 hxe
     rw [List.drop_eq_getElem_cons h1]
     simp [cmpL])
    clear hxe hr
    obtain rfl:=E.out
    go_wp2_with fail
    go_ret
    exact ⟨rfl,rfl⟩
  ·obtain rfl:k=n:=by omega
   by_cases hlm:k < m
   ·have hlm':=nat_of_lt hlm
    have E:Hid (R = -1):=hide (by
     rw [hr.out,List.drop_of_length_le (l:=xs) (by rw [HN.out];exact Nat.le_refl _)]
     have h1:k < ys.length:=by rw [HM.out];exact hlm
     rw [List.drop_eq_getElem_cons h1]
     simp [cmpL])
    clear hr
    obtain rfl:=E.out
    go_wp2_with fail
    go_ret
    exact ⟨rfl,rfl⟩
   ·obtain rfl:k=m:=by omega
    have E:Hid (R=0):=hide (by
     rw [hr.out,List.drop_of_length_le (l:=xs) (by rw [HN.out];exact Nat.le_refl _),List.drop_of_length_le (l:=ys) (by rw [HM.out];exact Nat.le_refl _)]
     rfl)
    clear hr
    obtain rfl:=E.out
    go_wp2_with fail
    go_ret
    exact ⟨rfl,rfl⟩
end Go.Proofs.Ytlddmagfbcomgaa
namespace Go.Proofs.Ytlddmagfbcomgaa
open Go.RowKit
section
variable {α : Type} [Inhabited α] {enc : α → Value} {w : World} {g m : Nat} {d : Array α} {os : Array Obj}
theorem sortW_block (k:Nat) (hk:k < w.heap.size) (hg:k≠g):(sortWorld enc w g 0 m d os).heap[k]? = w.heap[k]?:=by
 show ((w.heap.modify g _)++os)[k]? = _
 rw [Array.getElem?_append_left (by simpa using hk),Array.getElem?_modify,if_neg (Ne.symm hg)]
theorem sortW_at {cur:Array Value} {T:TypeId} {fz:Nat × Nat} (h:w.heap[g]? = some (.cells cur T fz)):(sortWorld enc w g 0 m d os).heap[g]? = some (.cells (Sort.putCells enc 0 d cur) T fz):=by
 have hk:=(Array.getElem?_eq_some_iff.1 h).1
 show ((w.heap.modify g _)++os)[g]? = _
 rw [Array.getElem?_append_left (by simpa using hk),Array.getElem?_modify,if_pos rfl,h]
 rfl
theorem sortW_kp {T:TypeId} {base:Nat} {cur:Array Value} (h:w.heap[g]? = some (.cells cur T (0,0))) (hb:base≤g):KpT [T] base w (sortWorld enc w g 0 m d os):=by
 refine ⟨rfl,rfl,rfl, ?_,fun k ob hk hl => ?_⟩
 ·show w.heap.size≤((w.heap.modify g _)++os).size
  simp
 ·have hlt:=(Array.getElem?_eq_some_iff.1 hk).1
  refine (sortW_block k hlt fun e => ?_).trans hk
  subst e
  rw [h] at hk
  simp only [Option.some.injEq] at hk
  rcases hl with hl | hl
  ·omega
  ·exact hl _ _ _ hk.symm (by simp)
end
structure OE (w:World) (g:Nat) where
 u:Slc
 o:List Int
 h:∀ W:World,(∀ k,k < w.heap.size→k≠g→W.heap[k]? = w.heap[k]?)→Rep IntE W u.v o
instance (w:World) (g:Nat):Inhabited (OE w g):=⟨⟨⟨none,0,0⟩,[],fun W _=>Rep.nil W⟩⟩
theorem mkOE {α:Type} {us:List Slc} {outs:List (List Int)} {F:α→Slc} {G:α→List Int} (hl:us.length=outs.length) (h:∀ (i:Nat) (u:Slc) (o:List Int),us[i]? = some u→outs[i]? = some o→∃ x:α,F x=u∧G x=o):∃ d:List α,d.map F=us∧d.map G=outs:=by
 induction us generalizing outs with
 | nil=>cases outs with
  | nil=>exact ⟨[],rfl,rfl⟩
  | cons o outs=>simp at hl
 | cons u us ih =>
  cases outs with
  | nil=>simp at hl
  | cons o outs =>
   obtain ⟨x,h1,h2⟩:=h 0 u o rfl rfl
   obtain ⟨d,h3,h4⟩:=ih (outs:=outs) (by simpa using hl) fun i u o hu ho=>h (i+1) u o (by simpa using hu) (by simpa using ho)
   exact ⟨x :: d,by simp [h1,h3],by simp [h2,h4]⟩
theorem swoO (w:World) (g:Nat):Sort.SWO (ltOf fun x y:OE w g=>cmpL x.o y.o) where
 irrefl x:=by simp [ltOf,cmpL_same]
 trans x y z h1 h2:=by simp only [ltOf,decide_eq_true_eq] at *;exact cmpL_trans _ _ _ h1 h2
 ntrans x y z h1 h2:=by simp only [ltOf,decide_eq_false_iff_not] at *;exact cmpL_ntrans _ _ _ h1 h2
end Go.Proofs.Ytlddmagfbcomgaa