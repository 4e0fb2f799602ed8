/-
  The program's test whether outcomes are among others. No condition.
-/
import Derived.Test.YtlddmagfbcomgaaGreatZq00
import Derived.Maps.OwnSet
import Derived.Maps.OwnOps
import Derived.Deep.AppendLies
import Derived.Maps.AppendAt
set_option maxHeartbeats 6400000
set_option maxRecDepth 100000
namespace Go.Proofs.YtlddmagfbcomgaaGreat
open Go.RowKit Go.MapKept
def MapS (w:World) (b:Nat) (ks:List ByteArray):Prop:=∃ (es:Array MapEntry) (clock:Nat),w.heap[b]? = some (.map es clock)∧es.toList.map (fun e=>(e.key,e.val))=ks.map fun s=>(Value.string s,Value.bool true)
theorem MapS.made (w:World):MapS (w.alloc (.map #[] 0)) w.heap.size []:=⟨#[],0,heap_alloc_new w _,rfl⟩
theorem MapS.lt {w:World} {b:Nat} {ks:List ByteArray} (h:MapS w b ks):b < w.heap.size:=by
 obtain ⟨es,clock,h1, -⟩:=h
 exact (Array.getElem?_eq_some_iff.1 h1).1
theorem MapS.same {w w':World} {b:Nat} {ks:List ByteArray} (h:MapS w b ks) (hb:w'.heap[b]? = w.heap[b]?):MapS w' b ks:=by
 obtain ⟨es,clock,h1,h2⟩:=h
 exact ⟨es,clock,hb.trans h1,h2⟩
theorem MapS.below {w w':World} {b:Nat} {ks:List ByteArray} (h:MapS w b ks) (hb:Below w.heap.size w w'):MapS w' b ks:=h.same (hb.block b h.lt)
theorem MapS.keys {es:Array MapEntry} {ks:List ByteArray} (h:es.toList.map (fun e=>(e.key,e.val))=ks.map fun s=>(Value.string s,Value.bool true)):(∀ x∈es.toList,IsKey .string x.key)∧(∀ x∈es.toList,x.val = .bool true)∧∀ s,(∃ x∈es.toList,x.key = .string s)↔s∈ks:=by
 refine ⟨fun x hx => ?_,fun x hx => ?_,fun s=>⟨fun ⟨x,hx,e⟩ => ?_,fun hs => ?_⟩⟩
 ·have:(x.key,x.val)∈es.toList.map (fun e=>(e.key,e.val)):=List.mem_map.2 ⟨x,hx,rfl⟩
  rw [h] at this
  obtain ⟨s, -,e⟩:=List.mem_map.1 this
  simp only [Prod.mk.injEq] at e
  rw [← e.1]
  simp [IsKey]
 ·have:(x.key,x.val)∈es.toList.map (fun e=>(e.key,e.val)):=List.mem_map.2 ⟨x,hx,rfl⟩
  rw [h] at this
  obtain ⟨s, -,e⟩:=List.mem_map.1 this
  simp only [Prod.mk.injEq] at e
  exact e.2.symm
 ·have:(x.key,x.val)∈es.toList.map (fun e=>(e.key,e.val)):=List.mem_map.2 ⟨x,hx,rfl⟩
  rw [h] at this
  obtain ⟨s',hs',e'⟩:=List.mem_map.1 this
  simp only [Prod.mk.injEq] at e'
  rw [e] at e'
  simp at e'
  rw [← e'.1];exact hs'
 ·have:(Value.string s,Value.bool true)∈ks.map fun s=>(Value.string s,Value.bool true):=List.mem_map.2 ⟨s,hs,rfl⟩
  rw [← h] at this
  obtain ⟨x,hx,e⟩:=List.mem_map.1 this
  simp only [Prod.mk.injEq] at e
  exact ⟨x,hx,e.1⟩
section
variable {P : Program} {w : World} {b : Nat} {ks : List ByteArray} {t k e : TypeId}
theorem MapS.look (h:MapS w b ks) (ht:P.underlying t=some (.map k e)) (hk:P.underlying k=some .string) (hz:(zeroValue e).run P w = .ok (.bool false) w) (s:ByteArray) :
 ∃ D:Bool,(Instr.lookup t (.map (some b)) (.string s) false).run P w = .ok (.bool D) w∧(D=true↔s∈ks):=by
 obtain ⟨es,clock,h1,h2⟩:=h
 obtain ⟨k1,k2,k3⟩:=MapS.keys h2
 have hik:IsKey .string (.string s):=by simp [IsKey]
 rcases findNow_spec hik es.toList 0 k1 with ⟨f1,f2⟩ | ⟨j,x,f1,f2,f3⟩
 ·refine ⟨false, ?_, ?_⟩
  ·have hf:=run_findKey (w:=w) hk f1
   have hc:=run_checkKey (w:=w) hk hik es.isEmpty 9999
   simp [Instr.lookup,run_underlying ht,MapKept.run_getObj_map h1,hc,hf,hz,Result.andThen]
  ·simp only [Bool.false_eq_true,false_iff]
   intro hs
   obtain ⟨x,hx,e⟩:=(k3 s).2 hs
   exact f2 x hx e
 ·refine ⟨true, ?_, ?_⟩
  ·have hf:=run_findKey (w:=w) hk f1
   have hc:=run_checkKey (w:=w) hk hik es.isEmpty 9999
   have hm:=List.mem_of_getElem? f2
   simp [Instr.lookup,run_underlying ht,MapKept.run_getObj_map h1,hc,hf,k2 x hm,Result.andThen]
  ·simp only [true_iff]
   exact (k3 s).1 ⟨x,List.mem_of_getElem? f2,f3⟩
theorem MapS.put (h:MapS w b ks) (ht:P.underlying t=some (.map k e)) (hk:P.underlying k=some .string) {s:ByteArray} (hs:s∉ks) :
 ∃ w',(Instr.mapUpdate t (.map (some b)) (.string s) (.bool true)).run P w = .ok () w'∧MapS w' b (ks++[s])∧w.grownBy w' (some b):=by
 obtain ⟨es,clock,h1,h2⟩:=h
 obtain ⟨k1,k2,k3⟩:=MapS.keys h2
 have hik:IsKey .string (.string s):=by simp [IsKey]
 rcases findNow_spec hik es.toList 0 k1 with ⟨f1,f2⟩ | ⟨j,x,f1,f2,f3⟩
 ·have hf:=run_findKey (w:=w) hk f1
  have hc:=run_checkKey (w:=w) hk hik false 9999
  have hset:=MapKept.run_setObj_map (P:=P) (.map (es.push { key:=.string s,val:=.bool true,born:=clock }) (clock+1)) h1
  obtain ⟨g1,g2⟩:=heap_set (o':=.map (es.push { key:=.string s,val:=.bool true,born:=clock }) (clock+1)) h1
  refine ⟨{ w with heap:=w.heap.setIfInBounds b (.map (es.push { key:=.string s,val:=.bool true,born:=clock }) (clock+1)) }, ?_,⟨_,_,g1, ?_⟩,⟨rfl,rfl,rfl,by simp,fun q _ hq=>g2 q (fun e=>hq (by rw [e]))⟩⟩
  ·simp [Instr.mapUpdate,run_underlying ht,MapKept.run_getObj_map h1,hc,hf,hset,Result.andThen]
  ·simp [h2]
 ·exact absurd ((k3 s).1 ⟨x,List.mem_of_getElem? f2,f3⟩) hs
end
end Go.Proofs.YtlddmagfbcomgaaGreat
namespace Go.Proofs.YtlddmagfbcomgaaGreat
open Go.RowKit
structure KpT (L:List TypeId) (B:Nat) (w w':World):Prop where
 os:w'.os=w.os
 tape:w'.tape=w.tape
 output:w'.output=w.output
 size:w.heap.size≤w'.heap.size
 block:∀ k ob,w.heap[k]? = some ob→(k < B∨∀ a T fz,ob = .cells a T fz→T∉L)→w'.heap[k]? = some ob
theorem KpT.refl (L:List TypeId) (B:Nat) (w:World):KpT L B w w:=⟨rfl,rfl,rfl,Nat.le_refl _,fun _ _ h _=>h⟩
theorem KpT.trans {L:List TypeId} {B:Nat} {a b c:World} (h:KpT L B a b) (k:KpT L B b c):KpT L B a c:=
 ⟨k.os.trans h.os,k.tape.trans h.tape,k.output.trans h.output,Nat.le_trans h.size k.size,fun q ob hq hl=>k.block q ob (h.block q ob hq hl) hl⟩
theorem KpT.of_below {L:List TypeId} {B:Nat} {w w':World} (h:Below w.heap.size w w'):KpT L B w w':=
 ⟨h.os,h.tape,h.output,h.size,fun k _ hk _=>(h.block k (Array.getElem?_eq_some_iff.1 hk).1).trans hk⟩
theorem KpT.below {L:List TypeId} {B:Nat} {w w':World} (h:KpT L B w w') (hB:B≤w.heap.size):Below B w w':=
 ⟨h.os,h.tape,h.output,h.size,fun k hk=>by
  have hk':k < w.heap.size:=by omega
  have e:w.heap[k]? = some (w.heap[k]'hk'):=Array.getElem?_eq_getElem hk'
  rw [e];exact h.block k _ e (.inl hk)⟩
theorem KpT.more {L L':List TypeId} {B B':Nat} {w w':World} (h:KpT L B w w') (hL:∀ T∈L,T∈L') (hB:B'≤B):KpT L' B' w w':=
 ⟨h.os,h.tape,h.output,h.size,fun k ob hk hl=>h.block k ob hk (hl.imp (fun q=>Nat.lt_of_lt_of_le q hB) fun q a T fz e hT=>q a T fz e (hL T hT))⟩
theorem KpT.alloc {L:List TypeId} {B:Nat} (w:World) (o:Obj):KpT L B w (w.alloc o):=.of_below ((Below.refl _ _).alloc (Nat.le_refl _) o)
theorem Own.typeT {α:Type} {E:El α} {T:TypeId} {w:World} {base g:Nat} {v:Value} {xs:List α} (h:Own E T w base v xs) (hg:v.ownBlock=some g):∃ a,w.heap[g]? = some (.cells a T (0,0)):=by
 rcases h.2 with ⟨rfl,_⟩ | ⟨g',cap,cur,rfl,_,hg',_⟩
 ·simp [Value.ownBlock] at hg
 ·simp [Value.ownBlock] at hg
  subst hg
  exact ⟨cur,hg'⟩
theorem Own.sameT {α:Type} {E:El α} {T:TypeId} {w w':World} {base:Nat} {v:Value} {xs:List α} (h:Own E T w base v xs) (hs:∀ q,v.ownBlock=some q→w'.heap[q]? = w.heap[q]?):Own E T w' base v xs:=by
 refine ⟨h.1, ?_⟩
 rcases h.2 with hn | ⟨g,cap,cur,rfl,hb1,hgg,rest⟩
 ·exact .inl hn
 ·exact .inr ⟨g,cap,cur,rfl,hb1,(hs g rfl).trans hgg,rest⟩
theorem KpT.grown {α:Type} {E:El α} {T:TypeId} {L:List TypeId} {B base:Nat} {w w':World} {v:Value} {xs:List α} (ho:Own E T w base v xs) (hT:T∈L) (hB:B≤base) (hg:w.grownBy w' v.ownBlock):KpT L B w w':=
 ⟨hg.os,hg.tape,hg.output,hg.size,fun k ob hk hl=>(hg.block k (Array.getElem?_eq_some_iff.1 hk).1 (fun e=>by
  obtain ⟨a,ha⟩:=ho.typeT e.symm
  have hbk:=(World.ownsRow.lt ho k e.symm).1
  rw [hk] at ha
  rcases hl with hl | hl
  ·omega
  ·exact hl a T _ (Option.some.inj ha) hT)).trans hk⟩
theorem KpT.set {T:TypeId} {L:List TypeId} {B g j:Nat} {w:World} {a:Array Value} {fz:Nat × Nat} (hg:w.heap[g]? = some (.cells a T fz)) (hT:T∈L) (hB:B≤g) (u:Value):KpT L B w (w.setCell ⟨g,j,none⟩ u):=
 ⟨rfl,rfl,rfl,by simp,fun k ob hk hl=>(heap_setCell_other w ⟨g,j,none⟩ k u (show k≠g by
  rintro rfl
  rw [hg] at hk
  rcases hl with hl | hl
  ·omega
  ·exact hl a T fz (Option.some.inj hk).symm hT)).trans hk⟩
structure LocT (L:List TypeId) (B:Nat) (w:World) (φ:World→Prop):Prop where
 now:φ w
 keep:∀ w',KpT L B w w'→φ w'
theorem LocT.step {L:List TypeId} {B:Nat} {w w':World} {φ:World→Prop} (h:LocT L B w φ) (k:KpT L B w w'):LocT L B w' φ:=⟨h.keep w' k,fun w'' k'=>h.keep w'' (k.trans k')⟩
theorem LocT.map {L:List TypeId} {B:Nat} {w:World} {φ ψ:World→Prop} (h:LocT L B w φ) (f:∀ V,φ V→ψ V):LocT L B w ψ:=⟨f _ h.now,fun w' k=>f _ (h.keep w' k)⟩
theorem LocT.and {L:List TypeId} {B:Nat} {w:World} {φ ψ:World→Prop} (h:LocT L B w φ) (k:LocT L B w ψ):LocT L B w (fun W=>φ W∧ψ W):=⟨⟨h.now,k.now⟩,fun w' s=>⟨h.keep w' s,k.keep w' s⟩⟩
theorem LocT.all {ι:Type} {L:List TypeId} {B:Nat} {w:World} {φ:ι→World→Prop} (h:∀ i,LocT L B w (φ i)):LocT L B w (fun W => ∀ i,φ i W):=⟨fun i=>(h i).now,fun w' s i=>(h i).keep w' s⟩
theorem LocT.imp {L:List TypeId} {B:Nat} {w:World} {p:Prop} {φ:World→Prop} (h:p→LocT L B w φ):LocT L B w (fun W=>p→φ W):=⟨fun i=>(h i).now,fun w' s i=>(h i).keep w' s⟩
theorem LocT.own {α:Type} {E:El α} {T:TypeId} {L:List TypeId} {B base:Nat} {w:World} {v:Value} {xs:List α} (h:Own E T w base v xs) (hT:T∉L):LocT L B w (fun W=>Own E T W base v xs):=
 ⟨h,fun w' k=>h.sameT fun q hq=>by
  obtain ⟨a,ha⟩:=h.typeT hq
  rw [k.block q _ ha (.inr fun a' T' fz e=>by simp at e;rw [← e.2.1];exact hT),ha]⟩
theorem LocT.own2 {α:Type} {E:El α} {T1 T2:TypeId} {L:List TypeId} {B base:Nat} {w:World} {v:Value} {p:List (List α)} (h:Own2 E T1 T2 w base v p) (h1:T1∉L) (h2:T2∉L):LocT L B w (fun W=>Own2 E T1 T2 W base v p):=by
 obtain ⟨us,g1,g2,g3,g4,g5⟩:=h
 have k1:=LocT.own (B:=B) g2 h1
 have k2:LocT L B w (fun W => ∀ (i:Nat) (u:Slc) (r:List α),us[i]? = some u→p[i]? = some r→Own E T2 W base u.v r):=.all fun i => .all fun u => .all fun r => .imp fun hu => .imp fun hr=>LocT.own (g3 i u r hu hr) h2
 exact (k1.and k2).map fun V ⟨a,b⟩=>⟨us,g1,a,b,g4,g5⟩
structure St where
 pc:List Int
 rg:List Int
 mm:List Int
 bf:List (List Int)
structure SV where
 p:Slc
 r:Slc
 m:Slc
 b:Slc
def StE:El SV:=⟨4,by decide,fun x=>[x.p.v,x.r.v,x.m.v,x.b.v],fun _=>rfl,fun x u h=>by simp at h;rcases h with rfl | rfl | rfl | rfl <;> rfl⟩
structure RepSt (w:World) (x:SV) (s:St):Prop where
 pc:Rep IntE w x.p.v s.pc
 rg:Rep IntE w x.r.v s.rg
 mm:Rep IntE w x.m.v s.mm
 bf:Rep2 IntE w x.b.v s.bf
theorem RepSt.below {w w':World} {x:SV} {s:St} (h:RepSt w x s) (hb:Below w.heap.size w w'):RepSt w' x s:=⟨h.pc.below hb,h.rg.below hb,h.mm.below hb,h.bf.below hb⟩
structure Lanes (w:World) (base:Nat) (c1 c2 c3:Slc) (l1 l2 l3:List Int):Prop where
 o1:Own IntE 3 w base c1.v l1
 o2:Own IntE 3 w base c2.v l2
 o3:Own IntE 3 w base c3.v l3
 d12:∀ q,c1.v.ownBlock=some q→c2.v.ownBlock≠some q
 d13:∀ q,c1.v.ownBlock=some q→c3.v.ownBlock≠some q
 d23:∀ q,c2.v.ownBlock=some q→c3.v.ownBlock≠some q
theorem Lanes.below {w w':World} {base:Nat} {c1 c2 c3:Slc} {l1 l2 l3:List Int} (h:Lanes w base c1 c2 c3 l1 l2 l3) (hb:Below w.heap.size w w'):Lanes w' base c1 c2 c3 l1 l2 l3:=
 ⟨h.o1.below hb,h.o2.below hb,h.o3.below hb,h.d12,h.d13,h.d23⟩
theorem Lanes.rot {w:World} {base:Nat} {c1 c2 c3:Slc} {l1 l2 l3:List Int} (h:Lanes w base c1 c2 c3 l1 l2 l3):Lanes w base c2 c3 c1 l2 l3 l1:=
 ⟨h.o2,h.o3,h.o1,h.d23,fun q a b=>h.d12 q b a,fun q a b=>h.d13 q b a⟩
theorem Lanes.mono {w:World} {base base':Nat} {c1 c2 c3:Slc} {l1 l2 l3:List Int} (h:Lanes w base c1 c2 c3 l1 l2 l3) (hb:base'≤base):Lanes w base' c1 c2 c3 l1 l2 l3:=
 ⟨h.o1.mono hb,h.o2.mono hb,h.o3.mono hb,h.d12,h.d13,h.d23⟩
theorem Lanes.nil (w:World) (base:Nat):Lanes w base ⟨none,0,0⟩ ⟨none,0,0⟩ ⟨none,0,0⟩ [] [] []:=
 ⟨Own.nil _ _ _,Own.nil _ _ _,Own.nil _ _ _,fun q h=>by simp [Value.ownBlock] at h,fun q h=>by simp [Value.ownBlock] at h,fun q h=>by simp [Value.ownBlock] at h⟩
theorem Lanes.put1 {w w':World} {base:Nat} {c1 c1' c2 c3:Slc} {l1 l1' l2 l3:List Int} (h:Lanes w base c1 c2 c3 l1 l2 l3) (ho:Own IntE 3 w' base c1'.v l1') (hg:w.grownBy w' c1.v.ownBlock)
 (hb:c1'.v.ownBlock=c1.v.ownBlock∨∀ q,c1'.v.ownBlock=some q→w.heap.size≤q):Lanes w' base c1' c2 c3 l1' l2 l3:=by
 have n2:∀ q,c1'.v.ownBlock=some q→c2.v.ownBlock≠some q:=fun q hq e=>by
  rcases hb with hb | hb
  ·exact h.d12 q (hb ▸ hq) e
  ·have:=hb q hq;have:=(World.ownsRow.lt h.o2 q e).2;omega
 have n3:∀ q,c1'.v.ownBlock=some q→c3.v.ownBlock≠some q:=fun q hq e=>by
  rcases hb with hb | hb
  ·exact h.d13 q (hb ▸ hq) e
  ·have:=hb q hq;have:=(World.ownsRow.lt h.o3 q e).2;omega
 refine ⟨ho,h.o2.grown hg ?_,h.o3.grown hg ?_,n2,n3,h.d23⟩
 ·rcases hq:c2.v.ownBlock with _ | q
  ·exact .inl rfl
  ·exact .inr fun e=>h.d12 q e.symm hq
 ·rcases hq:c3.v.ownBlock with _ | q
  ·exact .inl rfl
  ·exact .inr fun e=>h.d13 q e.symm hq
theorem Lanes.put2 {w w':World} {base:Nat} {c1 c2 c2' c3:Slc} {l1 l2 l2' l3:List Int} (h:Lanes w base c1 c2 c3 l1 l2 l3) (ho:Own IntE 3 w' base c2'.v l2') (hg:w.grownBy w' c2.v.ownBlock)
 (hb:c2'.v.ownBlock=c2.v.ownBlock∨∀ q,c2'.v.ownBlock=some q→w.heap.size≤q):Lanes w' base c1 c2' c3 l1 l2' l3:=(h.rot.put1 ho hg hb).rot.rot
theorem Lanes.put3 {w w':World} {base:Nat} {c1 c2 c3 c3':Slc} {l1 l2 l3 l3':List Int} (h:Lanes w base c1 c2 c3 l1 l2 l3) (ho:Own IntE 3 w' base c3'.v l3') (hg:w.grownBy w' c3.v.ownBlock)
 (hb:c3'.v.ownBlock=c3.v.ownBlock∨∀ q,c3'.v.ownBlock=some q→w.heap.size≤q):Lanes w' base c1 c2 c3' l1 l2 l3':=(h.rot.rot.put1 ho hg hb).rot
theorem Own.setOther {α:Type} {E:El α} {U T:TypeId} (hT:U≠T) {w:World} {base g j:Nat} {a:Array Value} {fz:Nat × Nat} {v u:Value} {xs:List α} (h:Own E U w base v xs) (hg:w.heap[g]? = some (.cells a T fz)):Own E U (w.setCell ⟨g,j,none⟩ u) base v xs:=
 h.sameT fun q hq=>heap_setCell_other w ⟨g,j,none⟩ q u (show q≠g by
  rintro rfl
  obtain ⟨a',ha⟩:=h.typeT hq
  rw [hg] at ha
  simp at ha
  exact hT ha.2.1.symm)
theorem Own2.setOther {α:Type} {E:El α} {U1 U2 T:TypeId} (h1:U1≠T) (h2:U2≠T) {w:World} {base g j:Nat} {a:Array Value} {fz:Nat × Nat} {v u:Value} {p:List (List α)} (h:Own2 E U1 U2 w base v p) (hg:w.heap[g]? = some (.cells a T fz)):Own2 E U1 U2 (w.setCell ⟨g,j,none⟩ u) base v p:=by
 obtain ⟨us,g1,g2,g3,g4,g5⟩:=h
 exact ⟨us,g1,g2.setOther h1 hg,fun i u r hu hr=>(g3 i u r hu hr).setOther h2 hg,g4,g5⟩
theorem Lanes.setOther {T:TypeId} (hT:3≠T) {w:World} {base g j:Nat} {a:Array Value} {fz:Nat × Nat} {u:Value} {c1 c2 c3:Slc} {l1 l2 l3:List Int} (h:Lanes w base c1 c2 c3 l1 l2 l3) (hg:w.heap[g]? = some (.cells a T fz)):Lanes (w.setCell ⟨g,j,none⟩ u) base c1 c2 c3 l1 l2 l3:=
 ⟨h.o1.setOther hT hg,h.o2.setOther hT hg,h.o3.setOther hT hg,h.d12,h.d13,h.d23⟩
def TyB (T:TypeId) (w:World) (g:Nat):Prop:=∃ a,w.heap[g]? = some (.cells a T (0,0))
theorem TyB.set {T:TypeId} {w:World} {g:Nat} (h:TyB T w g) (b j:Nat) (u:Value):TyB T (w.setCell ⟨b,j,none⟩ u) g:=by
 obtain ⟨a,ha⟩:=h
 by_cases e:g=b
 ·subst e
  exact ⟨_,heap_setCell_same w g j _ _ u ha⟩
 ·exact ⟨a,(heap_setCell_other w ⟨b,j,none⟩ g u e).trans ha⟩
theorem KpT.same {L:List TypeId} {B k:Nat} {w w':World} {a:Array Value} {T:TypeId} {fz:Nat × Nat} (h:KpT L B w w') (hk:w.heap[k]? = some (.cells a T fz)) (hT:T∉L):w'.heap[k]? = some (.cells a T fz):=
 h.block k _ hk (.inr fun a' T' fz' e=>by simp at e;rw [← e.2.1];exact hT)
theorem KpT.setT {T:TypeId} {L:List TypeId} {B g j:Nat} {w:World} (hg:TyB T w g) (hT:T∈L) (hB:B≤g) (u:Value):KpT L B w (w.setCell ⟨g,j,none⟩ u):=by
 obtain ⟨a,ha⟩:=hg
 exact .set ha hT hB u
theorem Lanes.kp {L:List TypeId} {B:Nat} {w w':World} {base:Nat} {c1 c2 c3:Slc} {l1 l2 l3:List Int} (h:Lanes w base c1 c2 c3 l1 l2 l3) (k:KpT L B w w') (hT:3∉L):Lanes w' base c1 c2 c3 l1 l2 l3:=
 ⟨(LocT.own h.o1 hT).keep w' k,(LocT.own h.o2 hT).keep w' k,(LocT.own h.o3 hT).keep w' k,h.d12,h.d13,h.d23⟩
structure OwnSt (w:World) (base m:Nat) (x:SV) (s:St):Prop where
 ln:Lanes w base x.p x.r x.m s.pc s.rg s.mm
 bf:Own2 IntE 40 3 w m x.b.v s.bf
 p1:∀ q,x.p.v.ownBlock=some q→q < m
 p2:∀ q,x.r.v.ownBlock=some q→q < m
 p3:∀ q,x.m.v.ownBlock=some q→q < m
 le:base≤m
 lh:m≤w.heap.size
theorem OwnSt.below {w w':World} {base m:Nat} {x:SV} {s:St} (h:OwnSt w base m x s) (hb:Below w.heap.size w w'):OwnSt w' base m x s:=
 ⟨h.ln.below hb,h.bf.below hb,h.p1,h.p2,h.p3,h.le,Nat.le_trans h.lh hb.size⟩
theorem OwnSt.rep {w:World} {base m:Nat} {x:SV} {s:St} (h:OwnSt w base m x s):RepSt w x s:=⟨h.ln.o1.rep,h.ln.o2.rep,h.ln.o3.rep,h.bf.rep⟩
theorem OwnSt.mono {w:World} {base base' m:Nat} {x:SV} {s:St} (h:OwnSt w base m x s) (hb:base'≤base):OwnSt w base' m x s:=⟨h.ln.mono hb,h.bf,h.p1,h.p2,h.p3,Nat.le_trans hb h.le,h.lh⟩
theorem OwnSt.setOther {T:TypeId} (h1:3≠T) (h2:40≠T) {w:World} {base m g j:Nat} {a:Array Value} {fz:Nat × Nat} {u:Value} {x:SV} {s:St} (h:OwnSt w base m x s) (hg:w.heap[g]? = some (.cells a T fz)):OwnSt (w.setCell ⟨g,j,none⟩ u) base m x s:=
 ⟨h.ln.setOther h1 hg,h.bf.setOther h2 h1 hg,h.p1,h.p2,h.p3,h.le,by simpa using h.lh⟩
theorem OwnSt.loc {L:List TypeId} {B:Nat} {w:World} {base m:Nat} {x:SV} {s:St} (h:OwnSt w base m x s) (h1:3∉L) (h2:40∉L):LocT L B w (fun W=>RepSt W x s):=
 ((((LocT.own h.ln.o1 h1).and (LocT.own h.ln.o2 h1)).and (LocT.own h.ln.o3 h1)).and (LocT.own2 h.bf h2 h1)).map fun _ ⟨⟨⟨a,b⟩,c⟩,d⟩=>⟨a.rep,b.rep,c.rep,d.rep⟩
theorem OwnSt.setT {T:TypeId} (h1:3≠T) (h2:40≠T) {w:World} {base m g j:Nat} {u:Value} {x:SV} {s:St} (h:OwnSt w base m x s) (hg:TyB T w g):OwnSt (w.setCell ⟨g,j,none⟩ u) base m x s:=by
 obtain ⟨a,ha⟩:=hg
 exact h.setOther h1 h2 ha
theorem Own.int1 {w:World} {base g n cap:Nat} {xs:List Int} (h:Own IntE 3 w base (.slice (some ⟨g,0,none⟩) n cap) xs) {k:Nat} {x:Int} (hx:xs[k]? = some x) (y:Int) :
 g < w.heap.size∧w.cell? ⟨g,k,none⟩=some (.int .i64 x)∧(∀ j,w.frozen? ⟨g,j,none⟩=false)∧Own IntE 3 (w.setCell ⟨g,k,none⟩ (.int .i64 y)) base (.slice (some ⟨g,0,none⟩) n cap) (xs.set k y)∧w.grownBy (w.setCell ⟨g,k,none⟩ (.int .i64 y)) (some g):=by
 have hc:=h.cell hx (j:=0) rfl
 have hs:=h.set (i:=k) (j:=0) y (u:=.int .i64 y) (by decide) hx rfl
 simp only [IntE,Nat.mul_one,Nat.add_zero] at hc hs
 exact ⟨(World.ownsRow.lt h g rfl).2,hc,fun j=>h.frozen j,hs,grown_set (World.grownBy.refl _ _) _ _⟩
theorem Own.open1 {α:Type} {E:El α} {T:TypeId} {w:World} {base:Nat} {c:Slc} {xs:List α} (h:Own E T w base c.v xs) {k:Nat} {x:α} (hx:xs[k]? = some x):∃ g,c.a=some ⟨g,0,none⟩∧c.n=xs.length:=by
 rcases h.shape with ⟨_,h2⟩ | ⟨g,cap,h2,_⟩
 ·rw [h2] at hx;simp at hx
 ·simp only [Slc.v,Value.slice.injEq] at h2
  exact ⟨g,h2.1,h2.2.1⟩
def RetSt (w:World) (s:St) (e:Ending) (w':World):Prop:=∃ (x:SV) (m:Nat),e = .returned (.agg #[.slice x.p.a x.p.n x.p.cap, .slice x.r.a x.r.n x.r.cap, .slice x.m.a x.m.n x.m.cap, .slice x.b.a x.b.n x.b.cap])∧OwnSt w' w.heap.size m x s∧Below w.heap.size w w'
theorem step_mk {α:Type} (E:El α) {P:Program} {w:World} {ops:Array Oper} {o:Oper} {a:Act} {K:Act→World→Prop} {Q:Exit→Act→World→Prop} {F:Prop}
 (T:TypeId) (z:α) {zv:Value} {bytes:Nat} (hinfo:(P.info? T).map (fun i=>(i.zero,i.size,i.bytes))=some (some zv,E.sz,bytes)) (hz:zv.cells.toList=E.c z) {t:TypeId} (h1:P.underlying t=some (.slice T))
 (n:Nat) (hby:bytes≤256) (hn:n≤1099511627776) (hg:o.guard=none) (l c:Operand) (hop:o.op=Op.makeSlice t l c) (hl:a.eval l = .int .i64 n) (hc:a.eval c = .int .i64 n)
 (hK:∀ w',Own E T w' w.heap.size (.slice (some ⟨w.heap.size,0,none⟩) n n) (List.replicate n z)→w.grownBy w' none→K (a.put o.dst (.slice (some ⟨w.heap.size,0,none⟩) n n)) w') :
 if Region.wanted o (yielded ops a.tmps)=true then Oper.wp P o a w K Q else F:=by
 obtain ⟨it,hi,hz0,hz1,hz2⟩:=info_parts hinfo
 have hw:Region.wanted o (yielded ops a.tmps)=true:=by simp [Region.wanted,hg]
 rw [if_pos hw]
 obtain ⟨w',hrun,r1,r2⟩:=run_make_full (P:=P) w w.heap.size t T it zv E.sz h1 hi hz0 hz1 .i64 .i64 n (by rw [hz2];have:=Nat.mul_le_mul hby hn;omega) (by unfold maxLen;omega) (Nat.le_refl _)
 unfold Oper.wp
 simp [execOp,hop,hl,hc,hrun,Result.andThen]
 refine hK w' ?_ r2
 unfold Own
 rw [List.length_replicate,← made_eq z zv hz n]
 exact r1
theorem run_append_zeroM {P:Program} {w:World} {base:Nat} {t ty e:TypeId} {i:TypeInfo} {size:Nat} (ht:P.underlying t=some (.slice e)) (hi:P.info? e=some i)
 {v:Value} {n c:Nat} {xs:List Value} (hown:w.ownsRow base e size v n xs) (ad:Addr):(Builtin.append_ #[t,t] ty #[v, .slice (some ad) 0 c]).run P w = .ok v w:=by
 rcases hown.2 with ⟨rfl,rfl⟩ | ⟨g,cap,cur,rfl,_,_,hnc,_⟩
 ·simp [Builtin.append_,run_underlying ht,sizeOf,typeInfo,hi,Builtin.lenOf,Builtin.firstCells,loadCells,loadCellsFrom]
 ·simp [Builtin.append_,run_underlying ht,sizeOf,typeInfo,hi,Builtin.lenOf,Builtin.firstCells,hnc,loadCells,loadCellsFrom,storeCells]
theorem step_appSAtM {α:Type} (E:El α) {P:Program} {w:World} {ops:Array Oper} {o:Oper} {a:Act} {K:Act→World→Prop} {Q:Exit→Act→World→Prop} {F:Prop}
 (T:TypeId) {zv:Value} {bytes:Nat} (hinfo:(P.info? T).map (fun i=>(i.zero,i.size,i.bytes))=some (some zv,E.sz,bytes)) (hz:zv.cells.size=E.sz) {t:TypeId} (h1:P.underlying t=some (.slice T))
 (base:Nat) (s0:Slc) (xs ys:List α) (u:Value) (hown:Own E T w base s0.v xs) (hrep:Rep E w u ys) (hby:bytes≤256) (hn:xs.length+ys.length≤68719476736) (hbase:base≤w.heap.size)
 (hg:o.guard=none) (s y:Operand) (hop:o.op = .call { callee:=.builtin .append,args:=#[s,y],argTypes:=#[t,t] })
 (hs:a.eval s=s0.v) (hy:a.eval y=u)
 (hK:∀ (s':Slc) w',Own E T w' base s'.v (xs++ys)→w.grownBy w' s0.v.ownBlock→(s'.v.ownBlock=s0.v.ownBlock∨∀ q,s'.v.ownBlock=some q→w.heap.size≤q)→K (a.put o.dst (.slice s'.a s'.n s'.cap)) w') :
 if Region.wanted o (yielded ops a.tmps)=true then Oper.wp P o a w K Q else F:=by
 obtain ⟨it,hi,hz0,hz1,hz2⟩:=info_parts hinfo
 obtain ⟨ad,c,rfl,hc1,hc2,hcell⟩:=hrep
 have hw:Region.wanted o (yielded ops a.tmps)=true:=by simp [Region.wanted,hg]
 have hnone:∀ r:(Builtin.append_ #[t,t] o.type #[s0.v, .slice ad ys.length c]).run P w = .ok s0.v w,ys=[]→(if Region.wanted o (yielded ops a.tmps)=true then Oper.wp P o a w K Q else F):=fun r hys=>by
  rw [if_pos hw]
  unfold Oper.wp
  simp [execOp,hop,resolve,invoke,builtin,hs,hy,r,Result.andThen]
  exact hK s0 _ (by subst hys;simpa using hown) (World.grownBy.refl _ _) (.inl rfl)
 cases ad with
 | none =>
  have hys:ys=[]:=by
   cases ys with
   | nil=>rfl
   | cons y ys=>obtain ⟨b,o,hb,_⟩:=hcell 0 y rfl;cases hb
  exact hnone (by subst hys;exact run_append_none h1 hi hown) hys
 | some ad =>
  by_cases hys:ys=[]
  ·exact hnone (by subst hys;exact run_append_zeroM h1 hi hown ad) hys
  have hpos:0 < ys.length:=List.length_pos_iff.2 hys
  refine step_append_lies w hg s y t hop base T it zv E.sz bytes h1 hi hz0 hz1 hz2 hz E.pos s0.v xs.length _ hs hown ad ys.length c (ys.flatMap E.c) hy (E.length ys) ?_ ?_ hpos (by unfold maxLen;omega) ?_ hbase _ rfl ?_
  ·intro j u hu
   have hpos:=E.pos
   have hj:j=j / E.sz * E.sz+j % E.sz:=by rw [Nat.mul_comm];exact (Nat.div_add_mod j E.sz).symm
   have hm:j % E.sz < E.sz:=Nat.mod_lt _ hpos
   have hu2:=hu
   rw [hj,E.get ys _ _ hm] at hu2
   cases hx:ys[j / E.sz]? with
   | none=>rw [hx] at hu2;cases hu2
   | some x =>
    rw [hx] at hu2
    obtain ⟨b,o,hb,h⟩:=hcell _ x hx
    simp only [Option.some.injEq] at hb
    subst hb
    have hc:=h (j % E.sz) u hu2
    rw [Addr.add_lit,hj,← Nat.add_assoc]
    exact hc
  ·intro u hu
   rw [List.mem_flatMap] at hu
   obtain ⟨x,_,hx⟩:=hu
   exact E.one x u hx
  ·have:=Nat.mul_le_mul (show xs.length+ys.length≤68719476736 from hn) hby
   omega
  ·intro g cap w' h2 h3 h4 _
   refine hK ⟨some ⟨g,0,none⟩,xs.length+ys.length,cap⟩ w' ?_ h3 ?_
   ·unfold Own
    simpa [List.flatMap_append] using h2
   ·rcases h4 with h4 | h4
    ·exact .inl h4.symm
    ·exact .inr fun q hq=>by simp [Value.ownBlock] at hq;omega
theorem Tryz.infoIntSM:(Tryz.prog.info? 40).map (fun i=>(i.zero,i.size,i.bytes))=some (some (.slice none 0 0),1,24):=by kernel_rfl
theorem wrapM {a:Int} (h1 : -9223372036854775808≤a) (h2:a≤9223372036854775807):IntKind.i64.wrap a=a:=by rw [IntKind.wrap_i64];omega
theorem cellH {w:World} {b k:Nat} {cur:Array Value} {t:TypeId} {v:Value} {fz:Nat × Nat} (h:w.heap[b]? = some (.cells cur t fz)) (hk:cur[k]? = some v):w.cell? ⟨b,k,none⟩=some v:=by
 simp [World.cell?,h,hk]
theorem frozH {w:World} {b:Nat} {cur:Array Value} {t:TypeId} (h:w.heap[b]? = some (.cells cur t (0,0))) (j:Nat):w.frozen? ⟨b,j,none⟩=false:=by
 simp [World.frozen?,h]
end Go.Proofs.YtlddmagfbcomgaaGreat
namespace Go.Proofs.YtlddmagfbcomgaaGreat
open Go.RowKit
theorem wpList_appAt {α:Type} (E:El α) {P:Program} {w:World} {ops:Array Oper} {rest:List Oper} {o:Oper} {a:Act} {Q:Exit→Act→World→Prop}
 (T:TypeId) {zv:Value} {bytes:Nat} (hinfo:(P.info? T).map (fun i=>(i.zero,i.size,i.bytes))=some (some zv,E.sz,bytes)) (hz:zv.cells.size=E.sz) {t:TypeId} (h1:P.underlying t=some (.slice T))
 (base:Nat) (v:Value) (xs:List α) (x:α) (hown:Own E T w base v xs) (hby:bytes≤256) (hn:xs.length≤68719476736) (hbase:base≤w.heap.size)
 (hg:o.guard=none) (s y:Operand) (hop:o.op = .call { callee:=.builtin .append,args:=#[s,y],argTypes:=#[t,t] })
 (hs:a.eval s=v) (b off c:Nat) (hy:a.eval y = .slice (some ⟨b,off,none⟩) 1 c) (hnews:∀ j u,(E.c x)[j]? = some u→w.cell? ⟨b,off+j,none⟩=some u)
 (hK:∀ v' w',Own E T w' base v' (xs++[x])→w.grownBy w' v.ownBlock→(v'.ownBlock=v.ownBlock∨∃ q,v'.ownBlock=some q∧w.heap.size≤q)→wpList P ops Q rest (a.put o.dst v') w') :
 wpList P ops Q (o :: rest) a w:=by
 obtain ⟨it,hi,hz0,hz1,hz2⟩:=info_parts hinfo
 refine wpList_append_own_at w hg s y t hop base T it zv E.sz bytes h1 hi hz0 hz1 hz2 hz E.pos v xs.length _ hs hown ⟨b,off,none⟩ 1 c (E.c x) hy (by rw [E.len,Nat.one_mul]) ?_ (E.one x) (by unfold maxLen;omega) ?_ hbase ?_
 ·intro j u hu
  have hadd:(⟨b,off,none⟩:Addr).add j=⟨b,off+j,none⟩:=by unfold Addr.add;split <;> simp_all
  rw [hadd]
  exact hnews j u hu
 ·have:=Nat.mul_le_mul (show xs.length+1≤68719476737 by omega) hby
  omega
 ·intro v' w' h2 h3 _ h5
  refine hK v' w' ?_ h3 ?_
  ·unfold Own
   simpa [List.flatMap_append] using h2
  ·rcases h5 with h5 | h5
   ·exact .inl h5
   ·exact .inr ⟨_,h5,Nat.le_refl _⟩
theorem news_allocA {w:World} {l:List Value} {T:TypeId} {G:Nat} (hG:w.heap.size=G):∀ (j:Nat) (u:Value),l[j]? = some u→(w.alloc (.cells l.toArray T)).cell? ⟨G,0+j,none⟩=some u:=by
 subst hG
 exact news_alloc
end Go.Proofs.YtlddmagfbcomgaaGreat
namespace Go.Proofs.YtlddmagfbcomgaaGreat
open Go.RowKit
def IdxOf {α:Type} (f:α→Bool) (xs:List α) (q:Int):Prop:=(q = -1∧∀ x∈xs,f x=false)∨∃ (t:Nat) (x:α),q=t∧xs[t]? = some x∧f x=true∧∀ y∈xs.take t,f y=false
theorem none_succ {α:Type} {f:α→Bool} {xs:List α} {t:Nat} {x:α} (h:∀ y∈xs.take t,f y=false) (hx:xs[t]? = some x) (hf:f x=false):∀ y∈xs.take (t+1),f y=false:=by
 intro y hy
 rw [List.take_add_one,hx] at hy
 simp at hy
 rcases hy with hy | rfl
 ·exact h y hy
 ·exact hf
theorem IdxOf.any {α:Type} {f:α→Bool} {xs:List α} {q:Int} (h:IdxOf f xs q):decide (0≤q)=xs.any f:=by
 rcases h with ⟨rfl,h⟩ | ⟨t,x,rfl,hx,hf, -⟩
 ·rw [List.any_eq_false.2 (fun x hx=>by rw [h x hx];simp)];rfl
 ·rw [List.any_eq_true.2 ⟨x,List.mem_of_getElem? hx,hf⟩];simp
end Go.Proofs.YtlddmagfbcomgaaGreat
namespace Go.Proofs.YtlddmagfbcomgaaGreat
open Go.RowKit
abbrev RepNN (w:World) (v:Value) (p:List (List Int)):Prop:=Rep2 IntE w v p
theorem EqualN_any (v v':Value) (xs ys:List Int) (w:World) (hx:Rep IntE w v xs) (hy:Rep IntE w v' ys) :
 Calls Tryz.prog 116 #[v,v'] w fun e w'=>e = .returned (.bool (decide (xs=ys)))∧Below w.heap.size w w':=by
 obtain ⟨a,c,rfl,hc1,hc2,hc3,hx⟩:=hx.open
 obtain ⟨a',c',rfl,hc1',hc2',hc3',hy⟩:=hy.open
 have HX:=hide hx;clear hx
 have HY:=hide hy;clear hy
 generalize hn:xs.length=n at *
 generalize hn':ys.length=n' at *
 have H:=hide hn;clear hn
 have H':=hide hn';clear hn'
 by_cases hc:n=n'
 ·subst hc
  have hc':((n:Int) != n)=false:=by simp
  go_enter Tryz.func116,Tryz.ntmps116
  go_wp2_with fail
  go_loopw [13] (fun v wr => ∃ k:Nat,k≤n∧v = .int .i64 k∧Hid (xs.take k=ys.take k)∧Below w.heap.size w wr) (fun v _=>n - (intOf v).toNat)
  case atStart=>exact ⟨0,Nat.zero_le _,rfl,hide (by simp),Below.refl _ _⟩
  case round =>
   obtain ⟨k,hk,rfl,T,hb⟩:=hrel
   by_cases hlt:k < n
   ·obtain ⟨x,hxk⟩:=get_of_lt (xs:=xs) (k:=k) (by rw [H.out];exact hlt)
    obtain ⟨y,hyk⟩:=get_of_lt (xs:=ys) (k:=k) (by rw [H'.out];exact hlt)
    obtain ⟨b,o,rfl,hbl,i0⟩:=(HX.out.below hb).int hxk
    obtain ⟨b',o',rfl,hbl',j0⟩:=(HY.out.below hb).int hyk
    have hlt':=nat_of_lt hlt
    have X:=hide hxk;clear hxk
    have Y:=hide hyk;clear hyk
    by_cases hxy:x=y
    ·have T':=hide (take_eq_succ T.out X.out Y.out hxy)
     have hd:(x != y)=false:=by simp [hxy]
     clear hxy
     go_wp2_with fail
     refine wp_region_bw (by kernel_rfl) (by kernel_rfl) ?_
     repeat (go_big_quiet_step (fail))
     refine wpQuiet_nil ?_
     intro w1 hb1
     have hb2:=hb.trans (hb1.mono hb.size)
     go_wp2_with fail
     go_roundw
     case rel=>exact ⟨k+1,by omega,by go_num,T',hb2⟩
     case measure=>simp [intOf];omega
    ·have hq:=ne_of_get X.out Y.out hxy
     have hd:(x != y)=true:=by simp [hxy]
     clear hxy
     go_wp2_with fail
     refine wp_region_bw (by kernel_rfl) (by kernel_rfl) ?_
     repeat (go_big_quiet_step (fail))
     refine wpQuiet_nil ?_
     intro w1 hb1
     have hb2:=hb.trans (hb1.mono hb.size)
     go_wp2_with fail
     go_ret
     exact ⟨by simp [hq],hb2⟩
   ·have e2:xs=ys:=take_all_eq T.out (by rw [H.out];omega) (by rw [H'.out];omega)
    subst e2
    go_wp2_with fail
    go_ret
    exact ⟨by simp,hb⟩
 ·have hc':((n:Int) != n')=true:=by simp;omega
  have hq:xs≠ys:=fun h=>hc (by rw [← H.out,← H'.out,h])
  go_enter Tryz.func116,Tryz.ntmps116
  go_wp2_with fail
  go_ret
  exact ⟨by simp [hq],Below.refl _ _⟩
end Go.Proofs.YtlddmagfbcomgaaGreat
namespace Go.Proofs.YtlddmagfbcomgaaGreat
open Go.RowKit
def hasN (list:List (List Int)) (o:List Int):Bool:=list.any fun x=>decide (x=o)
def subN (a b:List (List Int)):Bool:=a.all fun o=>hasN b o
theorem any_take_succ {α:Type} {f:α→Bool} {xs:List α} {k:Nat} {x:α} (h:(xs.take k).any f=false) (hx:xs[k]? = some x) (hf:f x=false):(xs.take (k+1)).any f=false:=by
 rw [List.take_add_one,hx,List.any_append,h];simp [hf]
theorem any_of_get {α:Type} {f:α→Bool} {xs:List α} {k:Nat} {x:α} (hx:xs[k]? = some x) (hf:f x=true):xs.any f=true:=List.any_eq_true.2 ⟨x,List.mem_of_getElem? hx,hf⟩
theorem all_take_succ' {α:Type} {f:α→Bool} {xs:List α} {k:Nat} {x:α} (h:(xs.take k).all f=true) (hx:xs[k]? = some x) (hf:f x=true):(xs.take (k+1)).all f=true:=by
 rw [List.take_add_one,hx,List.all_append,h];simp [hf]
theorem all_of_get {α:Type} {f:α→Bool} {xs:List α} {k:Nat} {x:α} (hx:xs[k]? = some x) (hf:f x=false):xs.all f=false:=List.all_eq_false.2 ⟨x,List.mem_of_getElem? hx,by simp [hf]⟩
theorem containsLit_any (u:Value) (x q:List Int) (b:Nat) (qa:Option Addr) (qn qc:Nat) (w:World) (hx:Rep IntE w u x) (hc:w.cell? ⟨b,0,none⟩=some (.slice qa qn qc)) (hq:Rep IntE w (.slice qa qn qc) q) :
 Calls Tryz.prog 115 #[u, .pointer (some ⟨b,0,none⟩)] w fun e w'=>e = .returned (.bool (decide (x=q)))∧Below w.heap.size w w':=by
 have HX:=hide hx;have HQ:=hide hq
 clear hx hq
 go_enter Tryz.func115,Tryz.ntmps115
 go_wp2_with (go_at_call 116;(with_reducible refine (EqualN_any _ _ x q w HX.out HQ.out).mono ?_);rintro e w1 ⟨rfl,hb1⟩)
 go_ret
 exact ⟨rfl,hb1⟩
def IdxPost (R:Bool) (w:World) (e:Ending) (w':World):Prop:=(∃ k:Int,e = .returned (.int .i64 k)∧decide (0≤k)=R)∧Below w.heap.size w w'
theorem IndexFuncNN_any (v:Value) (p:List (List Int)) (q:List Int) (b:Nat) (qa:Option Addr) (qn qc:Nat) (w:World) (hp:RepNN w v p) (hcl:w.cell? ⟨b,0,none⟩=some (.slice qa qn qc)) (hq:Rep IntE w (.slice qa qn qc) q) :
 Calls Tryz.prog 171 #[v, .func (.func 115) #[] #[.pointer (some ⟨b,0,none⟩)]] w (IdxPost (hasN p q) w):=by
 obtain ⟨a,c,rfl,hc1,hc2,hc3,hp⟩:=hp.open
 have HP:=hide hp;clear hp
 have HQ:=hide hq;clear hq
 have HN:Hid (hasN p q=p.any fun x=>decide (x=q)):=hide rfl
 have hbl0:=lt_of_cell hcl
 have HCL:=hide hcl;clear hcl
 generalize hR:hasN p q=R at *
 clear hR
 generalize hn:p.length=n at *
 have H:=hide hn;clear hn
 have HPE:Hid (∀ (k:Int) (w':World),decide (0≤k)=R→Below w.heap.size w w'→IdxPost R w (.returned (.int .i64 k)) w'):=hide (fun k w' h1 h2=>⟨⟨k,rfl,h1⟩,h2⟩)
 go_enter Tryz.func171,Tryz.ntmps171
 go_wp2_with fail
 go_loopw [8] (fun i wr => ∃ t:Nat,t≤n∧i = .int .i64 t∧Hid ((p.take t).any (fun x=>decide (x=q))=false)∧Below w.heap.size w wr) (fun i _=>n - (intOf i).toNat)
 case atStart=>exact ⟨0,Nat.zero_le _,rfl,hide (by simp),Below.refl _ _⟩
 case round =>
  obtain ⟨t,ht,rfl,T,hb⟩:=hrel
  by_cases hlt:t < n
  ·obtain ⟨x,hxk⟩:=get_of_lt (xs:=p) (k:=t) (by rw [H.out];exact hlt)
   obtain ⟨b',o,ra,rc,rfl,hbl,i0,i1⟩:=(HP.out.below hb).row hxk
   have hlt':=nat_of_lt hlt
   have hcl:=(hb.cell (p:=⟨b,0,none⟩) hbl0).trans HCL.out
   have HC:=hide (containsLit_any _ x q b qa qn qc wr i1 hcl (HQ.out.below hb))
   have X:=hide hxk
   clear hxk i1 hcl
   generalize hfx:decide (x=q)=fx at *
   have FX:=hide hfx;clear hfx
   cases fx
   ·have T2:=hide (any_take_succ (f:=fun x=>decide (x=q)) T.out X.out FX.out)
    go_wp2_with (go_at_call 115;(with_reducible refine HC.out.mono ?_);rintro e w2 ⟨rfl,hb2⟩)
    go_roundw
    case rel=>exact ⟨t+1,by omega,by go_num,T2,hb.trans (hb2.mono hb.size)⟩
    case measure=>simp [intOf];omega
   ·have E:Hid (R=true):=hide (by rw [HN.out];exact any_of_get X.out FX.out)
    go_wp2_with (go_at_call 115;(with_reducible refine HC.out.mono ?_);rintro e w2 ⟨rfl,hb2⟩)
    go_ret
    exact HPE.out _ _ (by rw [E.out];simp) (hb.trans (hb2.mono hb.size))
  ·have E:Hid (R=false):=hide (by have h:=T.out;rwa [List.take_of_length_le (by rw [H.out];omega),← HN.out] at h)
   go_wp2_with fail
   go_ret
   exact HPE.out _ _ (by rw [E.out];rfl) hb
theorem ContainsFuncNN_any (v:Value) (p:List (List Int)) (q:List Int) (b:Nat) (qa:Option Addr) (qn qc:Nat) (w:World) (hp:RepNN w v p) (hcl:w.cell? ⟨b,0,none⟩=some (.slice qa qn qc)) (hq:Rep IntE w (.slice qa qn qc) q) :
 Calls Tryz.prog 114 #[v, .func (.func 115) #[] #[.pointer (some ⟨b,0,none⟩)]] w fun e w'=>e = .returned (.bool (hasN p q))∧Below w.heap.size w w':=by
 have HC:=hide (IndexFuncNN_any v p q b qa qn qc w hp hcl hq)
 clear hp hcl hq
 go_enter Tryz.func114,Tryz.ntmps114
 go_wp2_with fail
 (with_reducible refine HC.out.mono ?_)
 rintro e w1 ⟨⟨k,rfl,hk⟩,hb⟩
 have HK:=hide hk;clear hk
 go_wp2_with fail
 go_ret
 refine ⟨?_,hb⟩
 rw [← HK.out]
 rfl
theorem contains_any (v u:Value) (p q:List (List Int)) (w:World) (hp:RepNN w v p) (hq:RepNN w u q) :
 Calls Tryz.prog 64 #[v,u] w fun e w'=>e = .returned (.bool (subN p q))∧Below w.heap.size w w':=by
 obtain ⟨a,c,rfl,hc1,hc2,hc3,hp⟩:=hp.open
 have HP:=hide hp;clear hp
 have HQ:=hide hq;clear hq
 have HN:Hid (subN p q=p.all fun x=>hasN q x):=hide rfl
 generalize hR:subN p q=R at *
 clear hR
 generalize hn:p.length=n at *
 have H:=hide hn;clear hn
 go_enter Tryz.func64,Tryz.ntmps64
 go_wp2_with fail
 go_loopw [9] (fun i wr => ∃ k:Nat,k≤n∧i = .int .i64 k∧Hid ((p.take k).all (fun x=>hasN q x)=true)∧Below w.heap.size w wr) (fun i _=>n - (intOf i).toNat)
 case atStart=>exact ⟨0,Nat.zero_le _,rfl,hide (by simp),Below.refl _ _⟩
 case round =>
  obtain ⟨k,hk,rfl,T,hb⟩:=hrel
  by_cases hlt:k < n
  ·have hlt1:=nat_of_lt hlt
   obtain ⟨x,hxk⟩:=get_of_lt (xs:=p) (k:=k) (by rw [H.out];exact hlt)
   obtain ⟨b,o,ra,rc,rfl,hbl,i0,i1⟩:=(HP.out.below hb).row hxk
   have X:=hide hxk;have I1:=hide i1
   clear hxk i1
   have ha:=hb.alloc hb.size (.cells #[.slice ra x.length rc] 40)
   have ha2:=(Below.refl wr.heap.size wr).alloc (Nat.le_refl _) (.cells #[.slice ra x.length rc] 40)
   have HC:=hide (ContainsFuncNN_any u q x wr.heap.size ra x.length rc (wr.alloc (.cells #[.slice ra x.length rc] 40)) (HQ.out.below ha) (by simp [go_sem]) (I1.out.below ha2))
   generalize hz:hasN q x=z at *
   have Z:=hide hz;clear hz
   cases z
   ·have E:Hid (R=false):=hide (by rw [HN.out];exact all_of_get X.out Z.out)
    go_wp2_with (go_at_call 114;(with_reducible refine HC.out.mono ?_);rintro e w1 ⟨rfl,hb1⟩)
    go_ret
    rw [E.out]
    exact ⟨rfl,ha.trans (hb1.mono ha.size)⟩
   ·have T2:=hide (all_take_succ' T.out X.out Z.out)
    go_wp2_with (go_at_call 114;(with_reducible refine HC.out.mono ?_);rintro e w1 ⟨rfl,hb1⟩)
    go_roundw
    case rel=>exact ⟨k+1,by omega,by go_num,T2,ha.trans (hb1.mono ha.size)⟩
    case measure=>simp [intOf];omega
  ·have E:Hid (R=true):=hide (by have h:=T.out;rwa [List.take_of_length_le (by rw [H.out];omega),← HN.out] at h)
   go_wp2_with fail
   go_ret
   rw [E.out]
   exact ⟨rfl,hb⟩
end Go.Proofs.YtlddmagfbcomgaaGreat