/-
  One memory as a kind of machines, put together. Condition: a valid program.
-/
import Derived.Test.YtngekjpklkjnbaaGreatZu04
import Derived.Test.YtngekjpklkjnbaaGreatZu05
import Derived.Test.YtngekjpklkjnbaaGreatZu03
set_option maxHeartbeats 6400000
set_option maxRecDepth 100000
namespace Go.Proofs.YtngekjpklkjnbaaGreat
open Go.RowKit
structure Xl (L:List TypeId) (B:Nat) (w w':World):Prop where
 os:w'.os=w.os
 tape:w'.tape=w.tape
 output:w'.output=w.output
 size:w.heap.size≤w'.heap.size
 low:∀ k ob,w.heap[k]? = some ob→k < B→w'.heap[k]? = some ob
 block:∀ (k:Nat) (a:Array Value) (T:TypeId) (fz:Nat × Nat),w.heap[k]? = some (Obj.cells a T fz)→T∉L→w'.heap[k]? = some (Obj.cells a T fz)
theorem Xl.trans {L:List TypeId}{B:Nat}{a b c:World}(h:Xl L B a b) (k:Xl L B b c):Xl L B a c:=
 ⟨k.os.trans h.os,k.tape.trans h.tape,k.output.trans h.output,Nat.le_trans h.size k.size,fun q ob hq hl=>k.low q ob (h.low q ob hq hl) hl,fun q x T fz hq hl=>k.block q x T fz (h.block q x T fz hq hl) hl⟩
theorem Xl.Zf {L:List TypeId}{B:Nat}{w w':World}(h:Below w.heap.size w w'):Xl L B w w':=
 ⟨h.os,h.tape,h.output,h.size,fun k _ hk _=>(h.block k (Array.getElem?_eq_some_iff.1 hk).1).trans hk,fun k _ _ _ hk _=>(h.block k (Array.getElem?_eq_some_iff.1 hk).1).trans hk⟩
theorem Xl.below {L:List TypeId}{B:Nat}{w w':World}(h:Xl L B w w') (hB:B≤w.heap.size):Below B w w':=
 ⟨h.os,h.tape,h.output,h.size,fun k hk=>by
  have hk':k < w.heap.size:=Om;have e:w.heap[k]? = some (w.heap[k]'hk'):=Array.getElem?_eq_getElem hk';rw[e];exact h.low k _ e hk⟩
theorem Xl.grown {α:Type}{E:El α}{T:TypeId}{L:List TypeId}{B base:Nat}{w w':World}{v:Value}{xs:List α}(ho:Own E T w base v xs) (hT:T∈L) (hB:B≤base) (hg:w.grownBy w' v.ownBlock):Xl L B w w':=
 ⟨hg.os,hg.tape,hg.output,hg.size,fun k ob hk hl=>(hg.block k (Array.getElem?_eq_some_iff.1 hk).1 (fun e=>by
  have hbk:=(World.ownsRow.lt ho k e.symm).1;omega)).trans hk,fun k x T' fz hk hl=>(hg.block k (Array.getElem?_eq_some_iff.1 hk).1 (fun e=>by
  obtain⟨a,ha⟩:=ho.Xa e.symm;rw[hk]at ha;simp only[Option.some.injEq,Obj.cells.injEq]at ha;exact hl (ha.2.1 ▸ hT))).trans hk⟩
theorem Xl.map {L:List TypeId}{B b:Nat}{w w':World}{ks:List ByteArray}(h:YW w b ks) (hB:B≤b) (hg:w.grownBy w' (some b)):Xl L B w w':=
 ⟨hg.os,hg.tape,hg.output,hg.size,fun k ob hk hl=>(hg.block k (Array.getElem?_eq_some_iff.1 hk).1 (fun e=>by
  simp only[Option.some.injEq]at e;omega)).trans hk,fun k x T' fz hk _=>(hg.block k (Array.getElem?_eq_some_iff.1 hk).1 (fun e=>by
  simp only[Option.some.injEq]at e;obtain⟨es,clock,h1,-⟩:=h;rw[e,h1]at hk;cases hk)).trans hk⟩
structure Xd (L:List TypeId) (B:Nat) (w:World) (φ:World→Prop):Prop where
 now:φ w
 keep:∀ w',Xl L B w w'→φ w'
theorem Xd.step {L:List TypeId}{B:Nat}{w w':World}{φ:World→Prop}(h:Xd L B w φ) (k:Xl L B w w'):Xd L B w' φ:=⟨h.keep w' k,fun w'' k'=>h.keep w'' (k.trans k')⟩
theorem Xd.map {L:List TypeId}{B:Nat}{w:World}{φ ψ:World→Prop}(h:Xd L B w φ) (f:∀ V,φ V→ψ V):Xd L B w ψ:=⟨f _ h.now,fun w' k=>f _ (h.keep w' k)⟩
theorem Xd.own {α:Type}{E:El α}{T:TypeId}{L:List TypeId}{B base:Nat}{w:World}{v:Value}{xs:List α}(h:Own E T w base v xs) (hT:T∉L):Xd L B w (fun W=>Own E T W base v xs):=
 ⟨h,fun w' k=>h.J6 fun q hq=>by
  obtain⟨a,ha⟩:=h.Xa hq;rw[k.block q a T _ ha hT,ha]⟩
abbrev AE (T b:Nat):Value:=.iface T (.pointer (some ⟨b,0,none⟩))
def IJ (T:Nat):El Nat:=⟨1,Dc,fun b=>[AE T b],fun _=>rfl,fun b u h=>by simp at h;subst h;rfl⟩
theorem Tryz.Ex:(Tryz.prog.info? 94).map (fun i=>(i.zero,i.size,i.bytes))=some (some .nilIface,1,16):=Kr
structure MK (L:List TypeId) (B:Nat) (S:Type) where
 T:Nat
 raw:World→Nat→S→Prop
 done:S→Bool
 out:S→List Int
 mv:S→List Nat
 af:S→Nat→S
 key:S→ByteArray
 fD:FuncId
 fO:FuncId
 fM:FuncId
 fA:FuncId
 fK:FuncId
 mD : ∀ b w, (method (Tryz.prog.types.size + Made.depth) T (.pointer (some ⟨b, 0, none⟩)) "loop.example/weakmemory/impl.done").run Tryz.prog w = .ok (fD, .pointer (some ⟨b, 0, none⟩)) w
 mO : ∀ b w, (method (Tryz.prog.types.size + Made.depth) T (.pointer (some ⟨b, 0, none⟩)) "loop.example/weakmemory/impl.outcome").run Tryz.prog w = .ok (fO, .pointer (some ⟨b, 0, none⟩)) w
 mM : ∀ b w, (method (Tryz.prog.types.size + Made.depth) T (.pointer (some ⟨b, 0, none⟩)) "loop.example/weakmemory/impl.moves").run Tryz.prog w = .ok (fM, .pointer (some ⟨b, 0, none⟩)) w
 mA : ∀ b w, (method (Tryz.prog.types.size + Made.depth) T (.pointer (some ⟨b, 0, none⟩)) "loop.example/weakmemory/impl.after").run Tryz.prog w = .ok (fA, .pointer (some ⟨b, 0, none⟩)) w
 mK : ∀ b w, (method (Tryz.prog.types.size + Made.depth) T (.pointer (some ⟨b, 0, none⟩)) "loop.example/weakmemory/impl.key").run Tryz.prog w = .ok (fK, .pointer (some ⟨b, 0, none⟩)) w
 cD:∀ args w,(callFunc fD args).run Tryz.prog w = .ok (.enter fD args) w
 cO:∀ args w,(callFunc fO args).run Tryz.prog w = .ok (.enter fO args) w
 cM:∀ args w,(callFunc fM args).run Tryz.prog w = .ok (.enter fM args) w
 cA:∀ args w,(callFunc fA args).run Tryz.prog w = .ok (.enter fA args) w
 cK:∀ args w,(callFunc fK args).run Tryz.prog w = .ok (.enter fK args) w
 hD:∀ w b s,raw w b s→Calls Tryz.prog fD #[.pointer (some ⟨b,0,none⟩)] w fun e w'=>e = .returned (.bool (done s))∧Below w.heap.size w w'
 hO:∀ w b s,raw w b s→Calls Tryz.prog fO #[.pointer (some ⟨b,0,none⟩)] w (Xm Zo 3 w (out s))
 hM:∀ w b s,raw w b s→Calls Tryz.prog fM #[.pointer (some ⟨b,0,none⟩)] w (Xm Zo 3 w ((mv s).map fun (m:Nat)=>(m:Int)))
 hK:∀ w b s,raw w b s→Calls Tryz.prog fK #[.pointer (some ⟨b,0,none⟩)] w fun e w'=>e = .returned (.string (key s))∧Below w.heap.size w w'
 hA:∀ w b s m,B≤w.heap.size→Xd L B w (fun W=>raw W b s)→m∈mv s→Calls Tryz.prog fA #[.pointer (some ⟨b,0,none⟩),.int .i64 (m:Int)] w fun e w' => ∃ b',e = .returned (AE T b')∧Xd L B w' (fun W=>raw W b' (af s m))∧Below w.heap.size w w'
def QQ {L:List TypeId}{B:Nat}{S:Type}(K:MK L B S) (w:World) (base:Nat) (v:Value) (work:List S):Prop:=
 ∃ bs:List Nat,bs.length=work.length∧Own (IJ K.T) 94 w base v bs∧∀ (i:Nat) (b:Nat) (s:S),bs[i]? = some b→work[i]? = some s→Xd L B w (fun W=>K.raw W b s)
section
variable {L : List TypeId} {B : Nat} {S : Type} {K : MK L B S}
theorem QQ.step {w w':World}{base:Nat}{v:Value}{work:List S}(h:QQ K w base v work) (k:Xl L B w w') (ho:∀ q,v.ownBlock=some q→w'.heap[q]? = w.heap[q]?):QQ K w' base v work:=by
 obtain⟨bs,h1,h2,h3⟩:=h;exact⟨bs,h1,h2.J6 ho,fun i b s hb hs=>(h3 i b s hb hs).step k⟩
theorem QQ.below {w w':World}{base:Nat}{v:Value}{work:List S}(h:QQ K w base v work) (hb:Below w.heap.size w w'):QQ K w' base v work:=by
 refine h.step (.Zf hb) fun q hq => ?_;obtain⟨bs,h1,h2,h3⟩:=h;exact hb.block q (World.ownsRow.lt h2 q hq).2
theorem QQ.pop {w:World}{base g n cap:Nat}{work:List S}{s:S}(h:QQ K w base (.slice (some ⟨g,0,none⟩) n cap) (work++[s])):n=work.length+1∧g < w.heap.size∧base≤g∧n≤cap∧QQ K w base (.slice (some ⟨g,0,none⟩) work.length cap) work ∧
 ∃ b:Nat,Xd L B w (fun W=>K.raw W b s)∧w.cell? ⟨g,work.length,none⟩=some (AE K.T b):=by
 obtain⟨bs,h1,h2,h3⟩:=h;have hn:=h2.len;simp only[List.length_append,List.length_singleton]at h1;obtain⟨b,hb⟩:=Zd (xs:=bs) (k:=work.length) Om;have hl:=World.ownsRow.lt h2 g rfl;have hcap:n≤cap:=by
  rcases h2.shape with⟨e,_⟩ | ⟨g',cap',e,_,_,h5,_⟩
  ·simp at e
  ·simp only[Value.slice.injEq]at e;omega
 have hcell:w.cell? ⟨g,work.length * 1+0,none⟩=some (AE K.T b):=h2.cell hb (j:=0) rfl;refine⟨Om,hl.2,hl.1,hcap,⟨bs.take work.length,by rw[List.length_take];omega,h2.cut Om,fun i x s hx hs=>h3 i x s ?_ ?_⟩,b,h3 _ b s hb Sm,by simpa using hcell⟩
 ·rw[List.getElem?_take]at hx
  split at hx
  ·exact hx
  ·cases hx
 ·rw[List.getElem?_append_left (List.getElem?_eq_some_iff.1 hs).1];exact hs
theorem QQ.push {w w':World}{base:Nat}{v v':Value}{work:List S}{s:S}{b:Nat}{bs:List Nat}(hT:94∈L) (hB:B≤base) (h1:bs.length=work.length) (h2:Own (IJ K.T) 94 w base v bs) (h3:∀ (i:Nat) (b:Nat) (s:S),bs[i]? = some b→work[i]? = some s→Xd L B w (fun W=>K.raw W b s))
 (hx:Xd L B w (fun W=>K.raw W b s)) (ho:Own (IJ K.T) 94 w' base v' (bs++[b])) (hg:w.grownBy w' v.ownBlock):QQ K w' base v' (work++[s]):=by
 have k:Xl L B w w':=.grown h2 hT hB hg;refine⟨bs++[b],by simp[h1],ho,fun i y u hy hu => ?_⟩;rcases Nat.lt_or_ge i bs.length with hi | hi
 ·rw[List.getElem?_append_left hi]at hy
  rw[List.getElem?_append_left Om]at hu;exact(h3 i y u hy hu).step k
 ·rw[List.getElem?_append_right hi]at hy
  rw[List.getElem?_append_right Om,← h1]at hu;generalize i - bs.length=j at *;cases j with
  | zero =>
   simp at hy hu;subst hy;subst hu;exact hx.step k
  | succ j=>simp at hy
end
def Yz (w:World) (base:Nat) (v:Value) (outs:List (List Int)):Prop:=
 ∃ us:List Zt,us.length=outs.length∧Own Zw 66 w base v us∧∀ (i:Nat) (u:Zt) (o:List Int),us[i]? = some u→outs[i]? = some o→Own Zo 3 w base u.v o
theorem Yz.nil (w:World) (base:Nat):Yz w base (.slice none 0 0) []:=⟨[],rfl,Own.nil _ _ _,fun i u o h=>by simp at h⟩
theorem Xl.row {α:Type}{E:El α}{T:TypeId}{L:List TypeId}{B base:Nat}{w w':World}{v:Value}{xs:List α}(k:Xl L B w w') (h:Own E T w base v xs) (hT:T∉L):Own E T w' base v xs:=(Xd.own (B:=B) h hT).keep w' k
theorem Yz.step {L:List TypeId}{B base:Nat}{w w':World}{v:Value}{outs:List (List Int)}(h:Yz w base v outs) (k:Xl L B w w') (h1:66∉L) (h2:3∉L):Yz w' base v outs:=by
 obtain⟨us,g1,g2,g3⟩:=h;exact⟨us,g1,k.row g2 h1,fun i u o hu ho=>k.row (g3 i u o hu ho) h2⟩
theorem Yz.below {base:Nat}{w w':World}{v:Value}{outs:List (List Int)}(h:Yz w base v outs) (hb:Below w.heap.size w w'):Yz w' base v outs:=h.step (L:=[]) (B:=0) (.Zf hb) Sm Sm
theorem Yz.push {w w':World}{base:Nat}{v v':Value}{outs:List (List Int)}{o:List Int}{us:List Zt}{u:Zt}(h1:us.length=outs.length) (h2:Own Zw 66 w base v us)
 (h3:∀ (i:Nat) (u:Zt) (o:List Int),us[i]? = some u→outs[i]? = some o→Own Zo 3 w base u.v o) (hu:Own Zo 3 w base u.v o) (ho:Own Zw 66 w' base v' (us++[u])) (hg:w.grownBy w' v.ownBlock):Yz w' base v' (outs++[o]):=by
 have k:Xl [66] base w w':=.grown h2 Sm (Nat.le_refl _) hg;refine⟨us++[u],by simp[h1],ho,fun i y z hy hz => ?_⟩;rcases Nat.lt_or_ge i us.length with hi | hi
 ·rw[List.getElem?_append_left hi]at hy
  rw[List.getElem?_append_left Om]at hz;exact k.row (h3 i y z hy hz) Dc
 ·rw[List.getElem?_append_right hi]at hy
  rw[List.getElem?_append_right Om,← h1]at hz;generalize i - us.length=j at *;cases j with
  | zero =>
   simp at hy hz;subst hy;subst hz;exact k.row hu Dc
  | succ j=>simp at hy
theorem YW.grown {α:Type}{E:El α}{T:TypeId}{w w':World}{b base:Nat}{ks:List ByteArray}{v:Value}{xs:List α}(h:YW w b ks) (ho:Own E T w base v xs) (hg:w.grownBy w' v.ownBlock):YW w' b ks:=
 h.same (hg.block b h.lt fun e=>by
  obtain⟨a,ha⟩:=ho.Xa e.symm;obtain⟨es,clock,h1,-⟩:=h;rw[h1]at ha;cases ha)
theorem YW.len {P:Program}{w:World}{b:Nat}{ks:List ByteArray}{t k e:TypeId}(h:YW w b ks) (ht:P.underlying t=some (.map k e)) (ty:TypeId):(Builtin.len_ #[t] ty #[.map (some b)]).run P w = .ok (.int .i64 (ks.length:Int)) w:=by
 obtain⟨es,clock,hb,h2⟩:=h;have e1:es.size=ks.length:=by have:=congrArg List.length h2;simpa using this
 simp[Builtin.len_,run_underlying ht,MapKept.run_getObj_map hb,goInt,Result.andThen,e1]
theorem YW.kp {L:List TypeId}{B:Nat}{w w':World}{b:Nat}{ks:List ByteArray}(h:YW w b ks) (k:YS L B w w'):YW w' b ks:=by
 obtain⟨es,clock,h1,h2⟩:=h;exact⟨es,clock,k.block b _ h1 (.inr fun a T fz e=>by cases e),h2⟩
abbrev LM:List TypeId:=[94,66]
abbrev Jo (n N:Nat):Prop:=∀ (w:World) (base:Nat) (v:Value) (l:List (List Int)),Yz w base v l→base≤w.heap.size→(∀ o∈l,o.length=n)→l.length≤N →
 Calls Tryz.prog 103 #[v] w fun e w' => ∃ v' l',e = .returned v'∧Yz w' base v' l'∧YD n l'∧(∀ o,o∈l'↔o∈l)∧YS [66] base w w'
def Km {S:Type}(n:Nat) (start:S) (mv:S→List Nat) (af:S→Nat→S) (done:S→Bool) (out:S→List Int) (w:World) (e:Ending) (w':World):Prop:=
 ∃ (cn:Int) (v:Value) (l:List (List Int)),e = .returned (.tuple #[v,.int .i64 cn])∧Yz w' w.heap.size v l∧YD n l∧(∀ o,o∈l↔∃ s,Zx start (QU mv af) s∧done s=true∧out s=o)∧Below w.heap.size w w'
section
variable {B : Nat} {S : Type} (K : MK LM B S) (C R : Nat) (rank : S → Nat) (start : S) (w : World)
structure Lr (gk:Nat) (vo v:Value) (work taken:List S) (outs:List (List Int)) (ks:List ByteArray) (g cap:Nat) (wr:World):Prop where
 hv:v = .slice (some ⟨g,0,none⟩) work.length cap
 ms:Jw (C+1) rank work=gk
 pi:PI K.mv K.af K.done K.out C R rank start work taken outs
 sk:QQ K wr w.heap.size v work
 ou:Yz wr w.heap.size vo outs
 mp:YW wr w.heap.size ks
 ke:∀ k,k∈ks↔k∈(taken++work).map K.key
 bl:Below w.heap.size w wr
def Gt (gk:Nat) (vo v:Value) (wr:World):Prop:=∃ work taken outs ks g cap,Lr K C R rank start w gk vo v work taken outs ks g cap wr
structure Lq (s:S) (b:Nat) (init taken:List S) (outs:List (List Int)) (vo:Value) (j:Nat) (v:Value) (new:List S) (ks:List ByteArray) (g cap:Nat) (wr:World):Prop where
 hv:v = .slice (some ⟨g,0,none⟩) (init++new).length cap
 pm:U0 K.mv K.af K.done K.out C R rank start s j init new taken outs
 sk:QQ K wr w.heap.size v (init++new)
 ou:Yz wr w.heap.size vo outs
 mp:YW wr w.heap.size ks
 ke:∀ k,k∈ks↔k∈((s :: taken)++(init++new)).map K.key
 Me:Xd LM B wr (fun W=>K.raw W b s)
 bl:Below w.heap.size w wr
def RD (s:S) (b:Nat) (init taken:List S) (outs:List (List Int)) (vo:Value) (j:Nat) (mvs:Zt) (v:Value) (wr:World):Prop:=
 ∃ (new:List S) (ks:List ByteArray) (g cap:Nat),Lq K C R rank start w s b init taken outs vo j v new ks g cap wr∧Own Zo 3 wr w.heap.size (.slice mvs.a mvs.n mvs.cap) ((K.mv s).map fun (m:Nat)=>(m:Int))
theorem Je {S Q:Type}(f:S→Q) {s:S}{k:Q}{init taken:List S}:k∈(taken++(init++[s])).map f↔k∈((s :: taken)++(init++[])).map f:=by
 rw[List.mem_map,List.mem_map];exact⟨fun ⟨u,h1,h2⟩=>⟨u,JX.1 h1,h2⟩,fun ⟨u,h1,h2⟩=>⟨u,JX.2 h1,h2⟩⟩
end
theorem QQ.kp {L L':List TypeId}{B B':Nat}{S:Type}{K:MK L B S}{w w':World}{base:Nat}{v:Value}{work:List S}(h:QQ K w base v work) (k:Xl L' B' w w') (hT:94∉L') (kk:Xl L B w w'):QQ K w' base v work:=by
 refine h.step kk fun q hq => ?_;obtain⟨bs,h1,h2,h3⟩:=h;obtain⟨a,ha⟩:=h2.Xa hq;rw[k.block q a _ _ ha hT,ha]
theorem Tryz.Bc (w:World):(zeroValue 4).run Tryz.prog w = .ok (.bool false) w:=Kr
theorem Dz {B:Nat}{S:Type}(K:MK LM B S) (C n N:Nat) (rank:S→Nat) (start:S) (b0:Nat) (w:World) (hB:B≤w.heap.size) (hraw:Xd LM B w (fun W=>K.raw W b0 start))
 (hC:∀ s,Zx start (QU K.mv K.af) s→(K.mv s).length≤C) (hC1:1≤C) (hR:C * (rank start+1)≤68719476736) (hrk:∀ s,Zx start (QU K.mv K.af) s→∀ m∈K.mv s,rank (K.af s m) < rank s)
 (hinj:∀ a b,Zx start (QU K.mv K.af) a→Zx start (QU K.mv K.af) b→K.key a=K.key b→a=b)
 (hN:∀ l:List S,l.Nodup→(∀ s∈l,Zx start (QU K.mv K.af) s∧K.done s=true)→l.length≤N) (hN1:N≤68719476736) (hout:∀ s,Zx start (QU K.mv K.af) s→(K.out s).length=n) (hsort : @Jo n N) :
 Calls Tryz.prog 80 #[AE K.T b0] w (Km n start K.mv K.af K.done K.out w):=by
 have HRAW:=Za hraw;have HC:=Za hC;have HRK:=Za hrk;have HINJ:=Za hinj;have HN:=Za hN;have HOUT:=Za hout;have HSORT:=Za hsort;have HR:=Za hR
 clear hraw hC hrk hinj hN hout hsort hR;have mD:=K.mD;have mO:=K.mO;have mM:=K.mM;have mA:=K.mA;have mK:=K.mK
 simp[go_sem]at mD mO mM mA mK;have cD:=K.cD;have cO:=K.cO;have cM:=K.cM;have cA:=K.cA;have cK:=K.cK
 obtain⟨A0,hA0⟩:∃ A0,A0=w.alloc (.map #[] 0):=⟨_,rfl⟩
 have HA0:=Za hA0;have M0:Hid (YW A0 w.heap.size []):=Za (by rw[hA0];exact YW.made w);have KB0:Hid (Below w.heap.size w A0):=Za (by rw[hA0];exact(Below.refl _ _).alloc (Nat.le_refl _) _);clear hA0;have hmm:=@run_makeMap Tryz.prog;go_enter Tryz.func80,Tryz.ntmps80;go_wp2_with fail;rw[← HA0.out]
 (with_reducible refine(K.hK _ _ _ (HRAW.out.step (.Zf KB0.out)).now).mono ?_);rintro e w1 ⟨rfl,hb1⟩
 obtain⟨w2,hrun2,hm2,hg2⟩:=(M0.out.below hb1).put (t:=116) (P:=Tryz.prog) Tryz.underlying116 Tryz.underlying9 (s:=K.key start) Sm;have B2:Hid (Below w.heap.size w w2):=Za ((KB0.out.trans (hb1.mono KB0.out.size)).grown hg2 (by have:=KB0.out.size;have:=hb1.size;omega) (fun q hq=>by simp at hq;omega));have M2:=Za hm2;have U2:Hid (Xl LM B w w2):=Za ((Xl.Zf (KB0.out.trans (hb1.mono KB0.out.size))).trans (Xl.map (M0.out.below hb1) hB hg2));clear hb1 hm2 hg2;go_wp2_with fail;obtain⟨V0,hV0⟩:∃ V0,V0=w2.alloc (.cells #[AE K.T b0] 94):=⟨_,rfl⟩
 have bV:=(Below.refl w2.heap.size w2).alloc (Nat.le_refl _) (.cells #[AE K.T b0] 94);rw[← hV0]at bV;have HR0:Gt K C (rank start) rank start w (Jw (C+1) rank [start]) (.slice none 0 0) (.slice (some ⟨w2.heap.size,0,none⟩) 1 1) V0:=by
  refine⟨[start],[],[],[]++[K.key start],w2.heap.size,1,rfl,rfl,.init hC1 (Nat.le_refl _),⟨[b0],rfl,?_,fun i b s hb hs => ?_⟩,.nil _ _,M2.out.below bV,fun k=>by simp,B2.out.trans (bV.mono B2.out.size)⟩
  ·rw[hV0]
   exact⟨rfl,.inr ⟨w2.heap.size,1,#[AE K.T b0],rfl,B2.out.size,heap_alloc_new w2 _,Nat.le_refl _,by unfold maxLen;omega,rfl,rfl⟩⟩
  ·cases i with
   | zero =>
    simp at hb hs;subst hb;subst hs;exact(HRAW.out.step U2.out).step (.Zf bV)
   | succ i=>simp at hb
 have HRR:=Za HR0;have HV0:=Za hV0;simp only[← hV0];clear hV0 bV HR0 M2 B2 U2 M0 KB0 HA0 hrun2
 go_loopg [5,6] (Jw (C+1) rank [start]) (fun gk vo v wr=>Gt K C (rank start) rank start w gk vo v wr)
 case atStart=>exact HRR.out
 case round =>
  obtain⟨work,taken,outs,ks,g,cap,hr⟩:=hrel;obtain⟨rfl,hms,hpi,hsk,hou,hmp,hke,hbl⟩:=hr;have PI0:=Za hpi;have SK:=Za hsk;have OU:=Za hou;have MP:=Za hmp;have KE:=Za hke;have BL:=Za hbl;have MS:=Za hms
  clear hms hpi hou hmp hke hbl;rcases List.eq_nil_or_concat work with rfl | ⟨init,s,rfl⟩
  ·clear hsk
   go_wp2_with fail;have hmemo:∀ o∈outs,o.length=n:=fun o ho=>by obtain⟨s,h1,h2,h3⟩:=(PI0.out.fin o).1 ho;rw[← h3];exact HOUT.out s h1
   (with_reducible refine(HSORT.out wr w.heap.size _ outs OU.out BL.out.size hmemo (PI0.out.Lk HN.out)).mono ?_);rintro e w3 ⟨v',l',rfl,ho3,hok3,hm3,hk3⟩
   have hlen:=fun ty=>(MP.out.kp hk3).len (P:=Tryz.prog) (t:=116) Tryz.underlying116 ty;have F:Hid (Km n start K.mv K.af K.done K.out w (.returned (.tuple #[v',.int .i64 (ks.length:Int)])) w3):=Za ⟨ks.length,v',l',rfl,ho3,hok3,fun o=>(hm3 o).trans (PI0.out.fin o),BL.out.trans (hk3.below BL.out.size)⟩;clear ho3 hok3 hm3 hk3 hmemo;go_wp2_with fail;refine bodyPost_ret (v:=.tuple #[v',.int .i64 (ks.length:Int)]) (by simp[results,Tryz.results80,go_sem, *]) rfl F.out
  ·rw[List.concat_eq_append] at *
   obtain⟨hn1,hgl,hgB,hcap,hsk',b,hlb,hcell⟩:=hsk.pop;have hreach:=PI0.out.rc s Sm;have RS:=Za hreach;have SK1:=Za hsk';have LB:=Za hlb
   have hlen:(init++[s]).length=init.length+1:=by simp
   have hshort:init.length≤68719476736:=by have h1:=PI0.out.short;have h2:=HR.out;simp at h1;omega
   rw[hlen]at hcap ⊢;have GL:=Za hgl;have GB:=Za hgB
   clear hsk hsk' hlb hlen hn1 hreach SK hgB;generalize hm:init.length=m at *;have HM:=Za hm;clear hm;go_wp2_with fail
   (with_reducible refine(K.hD wr b s LB.out.now).mono ?_);rintro e w3 ⟨rfl,hb3⟩
   have LB3:=Za (LB.out.step (.Zf hb3));have SK3:=Za (SK1.out.below hb3);have OU3:=Za (OU.out.below hb3);have MP3:=Za (MP.out.below hb3);have BL3:=Za (BL.out.trans (hb3.mono BL.out.size));have GL3:=Za (Nat.lt_of_lt_of_le GL.out hb3.size)
   clear hb3 hcell SK1 LB OU MP BL GL hgl;cases hd:K.done s
   ·have PM0:=Za (PI0.out.EF hd)
    clear hd;go_wp2_with fail
    (with_reducible refine(K.hM w3 b s LB3.out.now).mono ?_);rintro e w7 ⟨vm,rfl,hvm,hb7⟩
    obtain⟨⟨ma,mn,mc⟩,hve,-⟩:=hvm.YL;have hve:vm = .slice ma mn mc:=hve;subst hve;have hmn:mn=(K.mv s).length:=by have h:=hvm.len;rw[List.length_map]at h;exact h
    have V7:=Za (hvm.mono (Nat.le_trans BL3.out.size (Nat.le_refl _)));have LB7:=Za (LB3.out.step (.Zf hb7));have SK7:=Za (SK3.out.below hb7);have OU7:=Za (OU3.out.below hb7);have MP7:=Za (MP3.out.below hb7);have BL7:=Za (BL3.out.trans (hb7.mono BL3.out.size));have GL7:=Za (Nat.lt_of_lt_of_le GL3.out hb7.size)
    have HI:Hid (RD K C (rank start) rank start w s b init taken (outs) u5 0 ⟨ma,mn,mc⟩ (.slice (some ⟨g,0,none⟩) m cap) w7):=Za ⟨[],ks,g,cap,⟨by rw[List.append_nil,HM.out],PM0.out,by rw[List.append_nil];exact SK7.out,OU7.out,MP7.out,fun k=>(KE.out k).trans (Je K.key),LB7.out,BL7.out⟩,V7.out⟩;have HMN:=Za hmn;have hmnb:mn≤68719476736:=by have h1:=HC.out s RS.out;have h2:=Nat.mul_le_mul_left C (show 1≤rank start+1 by omega);have h3:=HR.out;omega
    clear hvm hb7 V7 LB7 SK7 OU7 MP7 BL7 GL7 hmn LB3 SK3 OU3 MP3 BL3 GL3 PM0;go_wp2_with fail
    go_loopw [6,42] (fun v i wr => ∃ j:Nat,j≤mn∧i = .int .i64 j∧RD K C (rank start) rank start w s b init taken (outs) u5 j ⟨ma,mn,mc⟩ v wr) (fun _ i _=>mn - (intOf i).toNat)
    case atStart=>exact⟨0,Nat.zero_le _,rfl,HI.out⟩
    case round =>
     obtain⟨j,hj,rfl,new2,ks2,g2,cap2,hr2,hv2⟩:=hrel;obtain⟨rfl,hpm,hsk,hou,hmp,hke,hlb,hbl⟩:=hr2;obtain⟨l2,hl2⟩:∃ l2,l2=(init++new2).length:=⟨_,rfl⟩
     rw[← hl2]at hsk ⊢;have HL2:=Za hl2;clear hl2;have PM2:=Za hpm;have SK2:=Za hsk;have OU2:=Za hou;have MP2:=Za hmp;have KE2:=Za hke;have LB2:=Za hlb;have BL2:=Za hbl;have V2:=Za hv2
     clear hpm hsk hou hmp hke hlb hbl;by_cases hlt:j < mn
     ·have hlt':=Zh hlt
      obtain⟨mv,hmv⟩:=Zd (xs:=K.mv s) (k:=j) (by rw[← HMN.out];exact hlt);have hmv2:((K.mv s).map fun (m:Nat)=>(m:Int))[j]? = some (mv:Int):=by rw[List.getElem?_map,hmv];rfl
      obtain⟨b1,o1,hma,hbl1,i0⟩:=hv2.rep.int hmv2;simp only at hma;have NX:=Za ((Xy K.mv K.af).2 ⟨mv,hmv,rfl⟩);have MEM:=Za (List.mem_of_getElem? hmv);clear hv2 hmv2 hmv;subst hma;go_wp2_with fail
      (with_reducible refine(K.hA wr b s mv (Nat.le_trans hB BL2.out.size) LB2.out MEM.out).mono ?_);rintro e w8 ⟨b8,rfl,hlb8,hb8⟩
      have LN8:=Za hlb8;go_wp2_with fail
      (with_reducible refine(K.hK w8 b8 _ LN8.out.now).mono ?_);rintro e w9 ⟨rfl,hb9⟩
      have B9:=Za (hb8.trans (hb9.mono hb8.size));have LN9:=Za (LN8.out.step (.Zf hb9));have MP9:=Za (MP2.out.below B9.out);clear hb8 hb9 hlb8 LN8 MP2;obtain⟨D,hrunL,hD⟩:=MP9.out.look (t:=116) (P:=Tryz.prog) Tryz.underlying116 Tryz.underlying9 (Tryz.Bc _) (K.key (K.af s mv));cases D
      ·have hno:K.key (K.af s mv)∉ks2:=fun h=>by have:=hD.2 h;simp at this
       obtain⟨w10,hrunP,hm10,hg10⟩:=MP9.out.put (t:=116) (P:=Tryz.prog) Tryz.underlying116 Tryz.underlying9 hno;have K10:=Za ((Xl.Zf (L:=[]) (B:=w.heap.size) B9.out).trans (Xl.map MP9.out (Nat.le_refl _) hg10));have KM:=Za ((Xl.Zf (L:=LM) (B:=B) B9.out).trans (Xl.map MP9.out hB hg10));have LN10:=Za (LN9.out.step (Xl.map MP9.out hB hg10));have M10:=Za hm10;have hno2:=Za (fun h:K.af s mv∈(s :: taken)++(init++new2)=>hno ((KE2.out _).2 (List.mem_map.2 ⟨_,h,rfl⟩)));obtain⟨bs10,hbl10,hown10,hst10⟩:=SK2.out.kp K10.out Dc KM.out;have O10:=Za hown10;have ST10:=Za hst10;have HBS:=Za hbl10
       have hbs:bs10.length≤68719476736:=by rw[hbl10];exact Nat.le_trans PM2.out.short HR.out
       have hsz10:w.heap.size≤w10.heap.size:=Nat.le_trans BL2.out.size K10.out.size;clear hD hno hm10 hg10 hbl10 hown10 hst10 LN9 MP9;go_wp2_with (first
        | (at_builtin;refine ZA (IJ K.T) 94 Tryz.Ex rfl Tryz.underlying117 w.heap.size _ bs10 b8 (O10.out.alloc _) Dc hbs So rfl _ _ rfl rfl _ 0 1 rfl Zp ?_;intro v11 w11 hown11 hgr11 hat11))
       rcases hown11.shape with⟨_,e⟩ | ⟨g11,c11,rfl,-,-,-,-⟩
       ·simp at e
       have bA:=(Below.refl w10.heap.size w10).alloc (Nat.le_refl _) (.cells #[AE K.T b8] 94);have kA:Xl LM B w10 (w10.alloc (.cells #[AE K.T b8] 94)):=.Zf bA;have hw11:=QQ.push (s:=K.af s mv) Dc hB HBS.out (O10.out.alloc _) (fun i b s h1 h2=>(ST10.out i b s h1 h2).step kA) (LN10.out.step kA) hown11 hgr11;have k11:Xl [94] w.heap.size w10 w11:=(Xl.Zf bA).trans (Xl.grown (O10.out.alloc _) Sm (Nat.le_refl _) hgr11);have kM:Xl LM B w10 w11:=kA.trans (Xl.grown (O10.out.alloc _) Dc hB hgr11);have hl11:(bs10++[b8]).length=(init++(new2++[K.af s mv])).length:=by have:=HBS.out;simp only[List.length_append,List.length_singleton]at this ⊢;omega
       rw[List.append_assoc]at hw11;have pm11:=PM2.out.new NX.out hno2.out (Nat.lt_of_lt_of_le (HMN.out ▸ hlt) (HC.out s RS.out)) (HRK.out s RS.out mv MEM.out);have HF:Hid (RD K C (rank start) rank start w s b init taken (outs) u5 (j+1) ⟨some ⟨b1,o1,none⟩,mn,mc⟩ (.slice (some ⟨g11,0,none⟩) (bs10++[b8]).length c11) w11):=
        Za ⟨new2++[K.af s mv],ks2++[K.key (K.af s mv)],g11,c11,⟨by rw[hl11],pm11,hw11,(OU2.out.step K10.out Dc Dc).step k11 Dc Dc,(M10.out.below bA).grown (O10.out.alloc _) hgr11,fun k=>by
         rw[List.mem_append,KE2.out k];simp only[List.map_append,List.mem_append,List.map_cons,List.map_nil,List.mem_cons,List.not_mem_nil,or_false,or_assoc],(LB2.out.step KM.out).step kM,(BL2.out.trans (K10.out.below BL2.out.size)).trans (k11.below hsz10)⟩,k11.row (K10.out.row V2.out Dc) Dc⟩
       clear hw11 k11 kM kA bA pm11 hown11 hgr11 hat11;go_roundw
       case rel=>exact⟨j+1,Om,Gn,HF.out⟩
       case measure=>simp[intOf];omega
      ·have HIN:=Za (hD.1 rfl)
       clear hD;have pm9:U0 K.mv K.af K.done K.out C (rank start) rank start s (j+1) init new2 taken (outs):=by
        obtain⟨u,hu,he⟩:=List.mem_map.1 ((KE2.out _).1 HIN.out);exact PM2.out.IH (key:=K.key) NX.out hu he HINJ.out
       have HF:Hid (RD K C (rank start) rank start w s b init taken (outs) u5 (j+1) ⟨some ⟨b1,o1,none⟩,mn,mc⟩ (.slice (some ⟨g2,0,none⟩) l2 cap2) w9):=
        Za ⟨new2,ks2,g2,cap2,⟨by rw[HL2.out],pm9,SK2.out.below B9.out,OU2.out.below B9.out,MP9.out,KE2.out,LB2.out.step (.Zf B9.out),BL2.out.trans (B9.out.mono BL2.out.size)⟩,V2.out.below B9.out⟩
       clear pm9;go_wp2_with fail;go_roundw
       case rel=>exact⟨j+1,Om,Gn,HF.out⟩
       case measure=>simp[intOf];omega
     ·obtain rfl:j=mn:=Om
      have HG:=Za (MS.out ▸ PM2.out.Cz (HMN.out ▸ HC.out s RS.out):Jw (C+1) rank (init++new2) < _);have HF:Hid (Gt K C (rank start) rank start w (Jw (C+1) rank (init++new2)) u5 (.slice (some ⟨g2,0,none⟩) l2 cap2) wr):=Za ⟨init++new2,s :: taken,_,ks2,g2,cap2,by rw[HL2.out],rfl,PM2.out.leave (Nat.le_of_eq HMN.out.symm),SK2.out,OU2.out,MP2.out,KE2.out,BL2.out⟩;go_wp2_with fail
      go_roundg (Jw (C+1) rank (init++new2))
      case measure=>exact HG.out
      case rel=>exact HF.out
   ·have PM0:=Za (PI0.out.CG hd)
    clear hd;go_wp2_with fail
    (with_reducible refine(K.hO w3 b s LB3.out.now).mono ?_);rintro e w4 ⟨vo4,rfl,ho4,hb4⟩
    obtain⟨⟨ua,un,uc⟩,rfl,-⟩:=ho4.YL;obtain⟨us,gu1,gu2,gu3⟩:=OU3.out.below hb4;have O4:=Za ho4;have B4:=Za hb4;have G1:=Za gu1;have G2:=Za gu2;have G3:=Za gu3
    have hub:us.length≤68719476736:=by rw[gu1];have:=PI0.out.Lk HN.out;omega
    have hB4:w.heap.size≤w4.heap.size:=Nat.le_trans BL3.out.size hb4.size;clear ho4 hb4 gu1 gu2 gu3;go_wp2_with (first
     | (at_builtin;refine ZA Zw 66 Tryz.Yl rfl Tryz.underlying46 w.heap.size _ us ⟨ua,un,uc⟩ (G2.out.below ((Below.refl _ _).alloc (Nat.le_refl _) _)) Dc hub So rfl _ _ rfl rfl _ 0 1 rfl Zp ?_;intro v5 w5 hown5 hgr5 hat5))
    have bA:=(Below.refl w4.heap.size w4).alloc (Nat.le_refl _) (.cells #[.slice ua un uc] 66);have bB:=B4.out.trans (bA.mono B4.out.size);have G2A:=G2.out.below bA;have kA:Xl [66] w.heap.size w3 w5:=(Xl.Zf bB).trans (Xl.grown G2A Sm (Nat.le_refl _) hgr5);have kM:Xl LM B w3 w5:=(Xl.Zf bB).trans (Xl.grown G2A Dc hB hgr5);have LB5:=Za (LB3.out.step kM);have SK5:=Za (SK3.out.kp kA Dc kM);have MP5:=Za ((MP3.out.below bB).grown G2A hgr5);have BL5:=Za (BL3.out.trans (kA.below BL3.out.size));have GL5:=Za (Nat.lt_of_lt_of_le GL3.out kA.size)
    have OU5:=Za (Yz.push G1.out G2A (fun i u o h1 h2=>(G3.out i u o h1 h2).below bA) ((O4.out.below bA).mono (Nat.le_trans BL3.out.size (Nat.le_refl _))) hown5 hgr5);clear bA bB G2A kA kM LB3 SK3 OU3 MP3 BL3 GL3 O4 B4 G1 G2 G3 hown5 hgr5 hat5 hub hB4;go_wp2_with fail
    (with_reducible refine(K.hM w5 b s LB5.out.now).mono ?_);rintro e w7 ⟨vm,rfl,hvm,hb7⟩
    obtain⟨⟨ma,mn,mc⟩,hve,-⟩:=hvm.YL;have hve:vm = .slice ma mn mc:=hve;subst hve;have hmn:mn=(K.mv s).length:=by have h:=hvm.len;rw[List.length_map]at h;exact h
    have V7:=Za (hvm.mono (Nat.le_trans BL5.out.size (Nat.le_refl _)));have LB7:=Za (LB5.out.step (.Zf hb7));have SK7:=Za (SK5.out.below hb7);have OU7:=Za (OU5.out.below hb7);have MP7:=Za (MP5.out.below hb7);have BL7:=Za (BL5.out.trans (hb7.mono BL5.out.size));have GL7:=Za (Nat.lt_of_lt_of_le GL5.out hb7.size)
    have HI:Hid (RD K C (rank start) rank start w s b init taken (outs++[K.out s]) v5 0 ⟨ma,mn,mc⟩ (.slice (some ⟨g,0,none⟩) m cap) w7):=Za ⟨[],ks,g,cap,⟨by rw[List.append_nil,HM.out],PM0.out,by rw[List.append_nil];exact SK7.out,OU7.out,MP7.out,fun k=>(KE.out k).trans (Je K.key),LB7.out,BL7.out⟩,V7.out⟩;have HMN:=Za hmn;have hmnb:mn≤68719476736:=by have h1:=HC.out s RS.out;have h2:=Nat.mul_le_mul_left C (show 1≤rank start+1 by omega);have h3:=HR.out;omega
    clear hvm hb7 V7 LB7 SK7 OU7 MP7 BL7 GL7 hmn LB5 SK5 OU5 MP5 BL5 GL5 PM0;go_wp2_with fail
    go_loopw [6,42] (fun v i wr => ∃ j:Nat,j≤mn∧i = .int .i64 j∧RD K C (rank start) rank start w s b init taken (outs++[K.out s]) v5 j ⟨ma,mn,mc⟩ v wr) (fun _ i _=>mn - (intOf i).toNat)
    case atStart=>exact⟨0,Nat.zero_le _,rfl,HI.out⟩
    case round =>
     obtain⟨j,hj,rfl,new2,ks2,g2,cap2,hr2,hv2⟩:=hrel;obtain⟨rfl,hpm,hsk,hou,hmp,hke,hlb,hbl⟩:=hr2;obtain⟨l2,hl2⟩:∃ l2,l2=(init++new2).length:=⟨_,rfl⟩
     rw[← hl2]at hsk ⊢;have HL2:=Za hl2;clear hl2;have PM2:=Za hpm;have SK2:=Za hsk;have OU2:=Za hou;have MP2:=Za hmp;have KE2:=Za hke;have LB2:=Za hlb;have BL2:=Za hbl;have V2:=Za hv2
     clear hpm hsk hou hmp hke hlb hbl;by_cases hlt:j < mn
     ·have hlt':=Zh hlt
      obtain⟨mv,hmv⟩:=Zd (xs:=K.mv s) (k:=j) (by rw[← HMN.out];exact hlt);have hmv2:((K.mv s).map fun (m:Nat)=>(m:Int))[j]? = some (mv:Int):=by rw[List.getElem?_map,hmv];rfl
      obtain⟨b1,o1,hma,hbl1,i0⟩:=hv2.rep.int hmv2;simp only at hma;have NX:=Za ((Xy K.mv K.af).2 ⟨mv,hmv,rfl⟩);have MEM:=Za (List.mem_of_getElem? hmv);clear hv2 hmv2 hmv;subst hma;go_wp2_with fail
      (with_reducible refine(K.hA wr b s mv (Nat.le_trans hB BL2.out.size) LB2.out MEM.out).mono ?_);rintro e w8 ⟨b8,rfl,hlb8,hb8⟩
      have LN8:=Za hlb8;go_wp2_with fail
      (with_reducible refine(K.hK w8 b8 _ LN8.out.now).mono ?_);rintro e w9 ⟨rfl,hb9⟩
      have B9:=Za (hb8.trans (hb9.mono hb8.size));have LN9:=Za (LN8.out.step (.Zf hb9));have MP9:=Za (MP2.out.below B9.out);clear hb8 hb9 hlb8 LN8 MP2;obtain⟨D,hrunL,hD⟩:=MP9.out.look (t:=116) (P:=Tryz.prog) Tryz.underlying116 Tryz.underlying9 (Tryz.Bc _) (K.key (K.af s mv));cases D
      ·have hno:K.key (K.af s mv)∉ks2:=fun h=>by have:=hD.2 h;simp at this
       obtain⟨w10,hrunP,hm10,hg10⟩:=MP9.out.put (t:=116) (P:=Tryz.prog) Tryz.underlying116 Tryz.underlying9 hno;have K10:=Za ((Xl.Zf (L:=[]) (B:=w.heap.size) B9.out).trans (Xl.map MP9.out (Nat.le_refl _) hg10));have KM:=Za ((Xl.Zf (L:=LM) (B:=B) B9.out).trans (Xl.map MP9.out hB hg10));have LN10:=Za (LN9.out.step (Xl.map MP9.out hB hg10));have M10:=Za hm10;have hno2:=Za (fun h:K.af s mv∈(s :: taken)++(init++new2)=>hno ((KE2.out _).2 (List.mem_map.2 ⟨_,h,rfl⟩)));obtain⟨bs10,hbl10,hown10,hst10⟩:=SK2.out.kp K10.out Dc KM.out;have O10:=Za hown10;have ST10:=Za hst10;have HBS:=Za hbl10
       have hbs:bs10.length≤68719476736:=by rw[hbl10];exact Nat.le_trans PM2.out.short HR.out
       have hsz10:w.heap.size≤w10.heap.size:=Nat.le_trans BL2.out.size K10.out.size;clear hD hno hm10 hg10 hbl10 hown10 hst10 LN9 MP9;go_wp2_with (first
        | (at_builtin;refine ZA (IJ K.T) 94 Tryz.Ex rfl Tryz.underlying117 w.heap.size _ bs10 b8 (O10.out.alloc _) Dc hbs So rfl _ _ rfl rfl _ 0 1 rfl Zp ?_;intro v11 w11 hown11 hgr11 hat11))
       rcases hown11.shape with⟨_,e⟩ | ⟨g11,c11,rfl,-,-,-,-⟩
       ·simp at e
       have bA:=(Below.refl w10.heap.size w10).alloc (Nat.le_refl _) (.cells #[AE K.T b8] 94);have kA:Xl LM B w10 (w10.alloc (.cells #[AE K.T b8] 94)):=.Zf bA;have hw11:=QQ.push (s:=K.af s mv) Dc hB HBS.out (O10.out.alloc _) (fun i b s h1 h2=>(ST10.out i b s h1 h2).step kA) (LN10.out.step kA) hown11 hgr11;have k11:Xl [94] w.heap.size w10 w11:=(Xl.Zf bA).trans (Xl.grown (O10.out.alloc _) Sm (Nat.le_refl _) hgr11);have kM:Xl LM B w10 w11:=kA.trans (Xl.grown (O10.out.alloc _) Dc hB hgr11);have hl11:(bs10++[b8]).length=(init++(new2++[K.af s mv])).length:=by have:=HBS.out;simp only[List.length_append,List.length_singleton]at this ⊢;omega
       rw[List.append_assoc]at hw11;have pm11:=PM2.out.new NX.out hno2.out (Nat.lt_of_lt_of_le (HMN.out ▸ hlt) (HC.out s RS.out)) (HRK.out s RS.out mv MEM.out);have HF:Hid (RD K C (rank start) rank start w s b init taken (outs++[K.out s]) v5 (j+1) ⟨some ⟨b1,o1,none⟩,mn,mc⟩ (.slice (some ⟨g11,0,none⟩) (bs10++[b8]).length c11) w11):=
        Za ⟨new2++[K.af s mv],ks2++[K.key (K.af s mv)],g11,c11,⟨by rw[hl11],pm11,hw11,(OU2.out.step K10.out Dc Dc).step k11 Dc Dc,(M10.out.below bA).grown (O10.out.alloc _) hgr11,fun k=>by
         rw[List.mem_append,KE2.out k];simp only[List.map_append,List.mem_append,List.map_cons,List.map_nil,List.mem_cons,List.not_mem_nil,or_false,or_assoc],(LB2.out.step KM.out).step kM,(BL2.out.trans (K10.out.below BL2.out.size)).trans (k11.below hsz10)⟩,k11.row (K10.out.row V2.out Dc) Dc⟩
       clear hw11 k11 kM kA bA pm11 hown11 hgr11 hat11;go_roundw
       case rel=>exact⟨j+1,Om,Gn,HF.out⟩
       case measure=>simp[intOf];omega
      ·have HIN:=Za (hD.1 rfl)
       clear hD;have pm9:U0 K.mv K.af K.done K.out C (rank start) rank start s (j+1) init new2 taken (outs++[K.out s]):=by
        obtain⟨u,hu,he⟩:=List.mem_map.1 ((KE2.out _).1 HIN.out);exact PM2.out.IH (key:=K.key) NX.out hu he HINJ.out
       have HF:Hid (RD K C (rank start) rank start w s b init taken (outs++[K.out s]) v5 (j+1) ⟨some ⟨b1,o1,none⟩,mn,mc⟩ (.slice (some ⟨g2,0,none⟩) l2 cap2) w9):=
        Za ⟨new2,ks2,g2,cap2,⟨by rw[HL2.out],pm9,SK2.out.below B9.out,OU2.out.below B9.out,MP9.out,KE2.out,LB2.out.step (.Zf B9.out),BL2.out.trans (B9.out.mono BL2.out.size)⟩,V2.out.below B9.out⟩
       clear pm9;go_wp2_with fail;go_roundw
       case rel=>exact⟨j+1,Om,Gn,HF.out⟩
       case measure=>simp[intOf];omega
     ·obtain rfl:j=mn:=Om
      have HG:=Za (MS.out ▸ PM2.out.Cz (HMN.out ▸ HC.out s RS.out):Jw (C+1) rank (init++new2) < _);have HF:Hid (Gt K C (rank start) rank start w (Jw (C+1) rank (init++new2)) v5 (.slice (some ⟨g2,0,none⟩) l2 cap2) wr):=Za ⟨init++new2,s :: taken,_,ks2,g2,cap2,by rw[HL2.out],rfl,PM2.out.leave (Nat.le_of_eq HMN.out.symm),SK2.out,OU2.out,MP2.out,KE2.out,BL2.out⟩;go_wp2_with fail
      go_roundg (Jw (C+1) rank (init++new2))
      case measure=>exact HG.out
      case rel=>exact HF.out
abbrev Z2 (x:Int):Value:=.int .u8 x
theorem EA (b t k:Nat) (pa:Option Addr) (pn pc:Nat) (p:List (List Ins)) (r:List Ins) (i:Ins) (w:World) (hp:Z5 w (.slice pa pn pc) p) (hr:p[t]? = some r) (hi:r[k]? = some i) (ht:t≤2) (hk:k≤100)
 (c0:w.cell? ⟨b,0,none⟩=some (.slice pa pn pc)) (c1:w.cell? ⟨b,1+t,none⟩=some (.int .u8 (k:Int))) :
 Calls Tryz.prog 197 #[.pointer (some ⟨b,0,none⟩),.int .i64 (t:Int)] w fun e w'=>e = .returned (.tuple #[i.v,.bool true])∧Below w.heap.size w w':=by
 obtain⟨va,vc,hv,hc1,hc2,hc3,hp⟩:=hp.open;simp only[Value.slice.injEq]at hv;obtain⟨rfl,rfl,rfl⟩:=hv;obtain⟨b2,o2,ra,rc,rfl,hbl2,q0,q1⟩:=hp.row hr;have htl:=(List.getElem?_eq_some_iff.1 hr).1;have hkl:=(List.getElem?_eq_some_iff.1 hi).1;obtain⟨b3,o3,rfl,hbl3,i0,i1,i2,i3⟩:=q1.ins hi;have hkr:(k:Int) < (r.length:Int):=Om;have htp:(t:Int) < (p.length:Int):=Om;obtain⟨A0,hA0⟩:∃ A0,A0=w.alloc (.cells #[.int .i64 0,.int .i64 0,.int .i64 0,.int .i64 0] 44):=⟨_,rfl⟩
 have HB:Hid (Below w.heap.size w A0):=Za (by rw[hA0];exact(Below.refl _ _).alloc (Nat.le_refl _) _);have hR:A0.heap[w.heap.size]? = some (.cells #[.int .i64 0,.int .i64 0,.int .i64 0,.int .i64 0] 44 (0,0)):=by rw[hA0];exact heap_alloc_new w _
 have hz:A0.heap.size=w.heap.size+1:=by rw[hA0];simp
 have hbl:=Zb c0;have d0:=(HB.out.cell (p:=⟨b,0,none⟩) hbl).trans c0;have d1:=(HB.out.cell (p:=⟨b,1+t,none⟩) hbl).trans c1;have d2:=(HB.out.cell (p:=⟨b2,o2+t,none⟩) hbl2).trans q0;have d3:=(HB.out.cell (p:=⟨b3,o3+k * 4,none⟩) hbl3).trans i0;have d4:=(HB.out.cell (p:=⟨b3,o3+k * 4+1,none⟩) hbl3).trans i1;have d5:=(HB.out.cell (p:=⟨b3,o3+k * 4+2,none⟩) hbl3).trans i2;have d6:=(HB.out.cell (p:=⟨b3,o3+k * 4+3,none⟩) hbl3).trans i3;have e0:b < A0.heap.size:=Om;have e2:b2 < A0.heap.size:=Om;have e3:b3 < A0.heap.size:=Om;have HA0:=Za hA0;have HR:=Za hR;clear hA0 hR hp hr hi q0 q1 i0 i1 i2 i3 c0 c1;go_enter Tryz.func197,Tryz.ntmps197;go_wp2_with fail;rw[← HA0.out];refine Zs Kr Kr ?_
 repeat (go_big_quiet_step (fail))
 refine wpQuiet_nil ?_;intro w1 hw1;have f0:=(hw1.cell (p:=⟨b,0,none⟩) e0).trans d0;have f1:=(hw1.cell (p:=⟨b,1+t,none⟩) e0).trans d1;have f2:=(hw1.cell (p:=⟨b2,o2+t,none⟩) e2).trans d2;have f3:=(hw1.cell (p:=⟨b3,o3+k * 4,none⟩) e3).trans d3;have f4:=(hw1.cell (p:=⟨b3,o3+k * 4+1,none⟩) e3).trans d4;have f5:=(hw1.cell (p:=⟨b3,o3+k * 4+2,none⟩) e3).trans d5;have f6:=(hw1.cell (p:=⟨b3,o3+k * 4+3,none⟩) e3).trans d6;have hR1:=(hw1.block w.heap.size Om).trans HR.out;have g0:w1.cell? ⟨w.heap.size,0,none⟩=some (.int .i64 0):=Zc hR1 (k:=0) rfl;have g1:w1.cell? ⟨w.heap.size,1,none⟩=some (.int .i64 0):=Zc hR1 (k:=1) rfl;have g2:w1.cell? ⟨w.heap.size,2,none⟩=some (.int .i64 0):=Zc hR1 (k:=2) rfl;have g3:w1.cell? ⟨w.heap.size,3,none⟩=some (.int .i64 0):=Zc hR1 (k:=3) rfl;have gz:=Z6 hR1;have gl:=Zb g0;have hdk:decide (r.length≤k)=false:=So;have HW:=Za hw1;have HR1:=Za hR1;clear d0 d1 d2 d3 d4 d5 d6 hR1 hw1 e0 e2 e3;go_wp2_with fail
 go_region
 have h0:=heap_setCell_same w1 w.heap.size 0 _ _ (.int .i64 i.op) HR1.out;have h1:=heap_setCell_same (w1.setCell ⟨w.heap.size,0,none⟩ (.int .i64 i.op)) w.heap.size 1 _ _ (.int .i64 i.loc) h0;have h2:=heap_setCell_same ((w1.setCell ⟨w.heap.size,0,none⟩ (.int .i64 i.op)).setCell ⟨w.heap.size,1,none⟩ (.int .i64 i.loc)) w.heap.size 2 _ _ (.int .i64 i.ZQ) h1;have h3:=heap_setCell_same (((w1.setCell ⟨w.heap.size,0,none⟩ (.int .i64 i.op)).setCell ⟨w.heap.size,1,none⟩ (.int .i64 i.loc)).setCell ⟨w.heap.size,2,none⟩ (.int .i64 i.ZQ)) w.heap.size 3 _ _ (.int .i64 i.val) h2;have hO:=Za (((((HB.out.trans (HW.out.mono HB.out.size)).setCell (p:=⟨w.heap.size,0,none⟩) (Nat.le_refl _) (.int .i64 i.op)).setCell (p:=⟨w.heap.size,1,none⟩) (Nat.le_refl _) (.int .i64 i.loc)).setCell (p:=⟨w.heap.size,2,none⟩) (Nat.le_refl _) (.int .i64 i.ZQ)).setCell (p:=⟨w.heap.size,3,none⟩) (Nat.le_refl _) (.int .i64 i.val)).drew;obtain⟨W,hW⟩:∃ W,W=((((w1.setCell ⟨w.heap.size,0,none⟩ (.int .i64 i.op)).setCell ⟨w.heap.size,1,none⟩ (.int .i64 i.loc)).setCell ⟨w.heap.size,2,none⟩ (.int .i64 i.ZQ)).setCell ⟨w.heap.size,3,none⟩ (.int .i64 i.val)).drew:=⟨_,rfl⟩
 have h4:=(congrArg (fun V:World=>V.heap[w.heap.size]?) hW).trans h3;rw[← hW]at hO ⊢;have r0:W.cell? ⟨w.heap.size,0,none⟩=some (.int .i64 i.op):=Zc h4 (k:=0) rfl;have r1:W.cell? ⟨w.heap.size,1,none⟩=some (.int .i64 i.loc):=Zc h4 (k:=1) rfl;have r2:W.cell? ⟨w.heap.size,2,none⟩=some (.int .i64 i.ZQ):=Zc h4 (k:=2) rfl;have r3:W.cell? ⟨w.heap.size,3,none⟩=some (.int .i64 i.val):=Zc h4 (k:=3) rfl;clear f0 f1 f2 f3 f4 f5 f6 g0 g1 g2 g3 gz h0 h1 h2 h3 h4 hW HA0 HR HR1 HB HW;go_wp2_with fail;refine bodyPost_ret (v:=.tuple #[i.v,.bool true]) (by simp[results,Tryz.results197,go_sem, *]) rfl ⟨rfl,hO.out⟩
theorem ZJ (w:World) (a:Array Value) (T:TypeId) (j:Nat) (u:Value):(w.alloc (.cells a T)).setCell ⟨w.heap.size,j,none⟩ u=w.alloc (.cells (a.setIfInBounds j u) T):=by
 simp only[World.setCell,World.alloc]
 congr 1
 apply Array.ext
 ·simp
 ·intro i h1 h2
  simp only[Array.getElem_modify,Array.getElem_push];by_cases e:i=w.heap.size
  ·subst e;simp
  ·have:i < w.heap.size:=by simp at h2;omega
   simp[this,Ne.symm e]
abbrev ZY (pv:Value) (s:Sq):Array Value:=#[pv,Z2 (s.pc.getD 0 0),Z2 (s.pc.getD 1 0),Z2 (s.pc.getD 2 0),Z2 (s.rg.getD 0 0),Z2 (s.rg.getD 1 0),Z2 (s.rg.getD 2 0),Z2 (s.rg.getD 3 0),Z2 (s.rg.getD 4 0),Z2 (s.rg.getD 5 0),Z2 (s.rg.getD 6 0),Z2 (s.rg.getD 7 0),Z2 (s.rg.getD 8 0),Z2 (s.mm.getD 0 0),Z2 (s.mm.getD 1 0),Z2 (s.mm.getD 2 0)]
theorem VS {l:List Int}{t:Nat}(ht:t < l.length) (v:Int) (i:Nat):(l.set t v).getD i 0=if t=i then v else l.getD i 0:=by
 rw[List.getD_eq_getElem?_getD,List.getElem?_set,List.getD_eq_getElem?_getD];by_cases h:t=i
 ·subst h;rw[if_pos rfl,if_pos ht,if_pos rfl];rfl
 ·rw[if_neg h,if_neg h]
theorem Fp (pv:Value) (s:Sq) {t:Nat}(ht:t < 3):(ZY pv s)[1+t]? = some (Z2 (s.pc.getD t 0)):=by
 have:t=0∨t=1∨t=2:=Om;rcases this with rfl | rfl | rfl <;> rfl
theorem Fq (pv:Value) (s:Sq) {t r:Nat}(ht:t < 3) (hr:r < 3):(ZY pv s)[4+t * 3+r]? = some (Z2 (s.rg.getD (t * 3+r) 0)):=by
 have h1:t=0∨t=1∨t=2:=Om;have h2:r=0∨r=1∨r=2:=Om;rcases h1 with rfl | rfl | rfl <;> rcases h2 with rfl | rfl | rfl <;> rfl
theorem Fo (pv:Value) (s:Sq) {t:Nat}(ht:t < 3):(ZY pv s)[13+t]? = some (Z2 (s.mm.getD t 0)):=by
 have:t=0∨t=1∨t=2:=Om;rcases this with rfl | rfl | rfl <;> rfl
theorem XA (pv:Value) (s:Sq) {t:Nat}(ht:t < 3) (hl:t < s.pc.length) (v:Int):(ZY pv s).setIfInBounds (1+t) (Z2 v)=ZY pv ⟨s.pc.set t v,s.rg,s.mm⟩:=by
 have:t=0∨t=1∨t=2:=Om;simp only[ZY,VS hl];rcases this with rfl | rfl | rfl <;> rfl
theorem KX (pv:Value) (s:Sq) {t r:Nat}(ht:t < 3) (hr:r < 3) (hl:t * 3+r < s.rg.length) (v:Int):(ZY pv s).setIfInBounds (4+t * 3+r) (Z2 v)=ZY pv ⟨s.pc,s.rg.set (t * 3+r) v,s.mm⟩:=by
 have h1:t=0∨t=1∨t=2:=Om;have h2:r=0∨r=1∨r=2:=Om;simp only[ZY,VS hl];rcases h1 with rfl | rfl | rfl <;> rcases h2 with rfl | rfl | rfl <;> rfl
theorem KW (pv:Value) (s:Sq) {t:Nat}(ht:t < 3) (hl:t < s.mm.length) (v:Int):(ZY pv s).setIfInBounds (13+t) (Z2 v)=ZY pv ⟨s.pc,s.rg,s.mm.set t v⟩:=by
 have:t=0∨t=1∨t=2:=Om;simp only[ZY,VS hl];rcases this with rfl | rfl | rfl <;> rfl
structure ZN (w:World) (b:Nat) (pv:Value) (s:Sq):Prop where
 lt:b < w.heap.size
 c0:w.cell? ⟨b,0,none⟩=some pv
 c1:∀ t < 3,w.cell? ⟨b,1+t,none⟩=some (Z2 (s.pc.getD t 0))
 c2:∀ t < 3,∀ r < 3,w.cell? ⟨b,4+t * 3+r,none⟩=some (Z2 (s.rg.getD (t * 3+r) 0))
 c3:∀ t < 3,w.cell? ⟨b,13+t,none⟩=some (Z2 (s.mm.getD t 0))
set_option linter.unusedVariables false in
theorem ZN.below {w w':World}{b:Nat}{pv:Value}{s:Sq}(h:ZN w b pv s) (hb:Below w.heap.size w w'):ZN w' b pv s:=
 ⟨Nat.lt_of_lt_of_le h.lt hb.size,(hb.cell (p:=⟨b,0,none⟩) h.lt).trans h.c0,fun t ht=>(hb.cell (p:=⟨b,1+t,none⟩) h.lt).trans (h.c1 t ht),fun t ht r hr=>(hb.cell (p:=⟨b,4+t * 3+r,none⟩) h.lt).trans (h.c2 t ht r hr),fun t ht=>(hb.cell (p:=⟨b,13+t,none⟩) h.lt).trans (h.c3 t ht)⟩
set_option linter.unusedVariables false in
theorem ZN.ZX {w:World}{b:Nat}{pv:Value}{s:Sq}{T:TypeId}{more:Array Value}(h:w.heap[b]? = some (.cells (ZY pv s++more) T (0,0))):ZN w b pv s:=by
 have key:∀ (k:Nat) (v:Value),(ZY pv s)[k]? = some v→w.cell? ⟨b,k,none⟩=some v:=fun k v hk=>Zc h (by rw[Array.getElem?_append_left (Array.getElem?_eq_some_iff.1 hk).1];exact hk);exact⟨(Array.getElem?_eq_some_iff.1 h).1,key 0 _ rfl,fun t ht=>key _ _ (Fp pv s ht),fun t ht r hr=>key _ _ (Fq pv s ht hr),fun t ht=>key _ _ (Fo pv s ht)⟩
theorem FM (b t k:Nat) (pa:Option Addr) (pn pc:Nat) (p:List (List Ins)) (r:List Ins) (w:World) (hp:Z5 w (.slice pa pn pc) p) (hr:p[t]? = some r) (hi:r.length≤k) (ht:t≤2) (hk:k≤100)
 (c0:w.cell? ⟨b,0,none⟩=some (.slice pa pn pc)) (c1:w.cell? ⟨b,1+t,none⟩=some (.int .u8 (k:Int))) :
 Calls Tryz.prog 197 #[.pointer (some ⟨b,0,none⟩),.int .i64 (t:Int)] w fun e w'=>e = .returned (.tuple #[.agg #[.int .i64 0,.int .i64 0,.int .i64 0,.int .i64 0],.bool false])∧Below w.heap.size w w':=by
 obtain⟨va,vc,hv,hc1,hc2,hc3,hp⟩:=hp.open;simp only[Value.slice.injEq]at hv;obtain⟨rfl,rfl,rfl⟩:=hv;obtain⟨b2,o2,ra,rc,rfl,hbl2,q0,q1⟩:=hp.row hr;have htl:=(List.getElem?_eq_some_iff.1 hr).1;obtain⟨-,-,-,-,hrl,-,-⟩:=q1.open;have htp:(t:Int) < (p.length:Int):=Om;obtain⟨A0,hA0⟩:∃ A0,A0=w.alloc (.cells #[.int .i64 0,.int .i64 0,.int .i64 0,.int .i64 0] 44):=⟨_,rfl⟩
 have HB:Hid (Below w.heap.size w A0):=Za (by rw[hA0];exact(Below.refl _ _).alloc (Nat.le_refl _) _);have hR:A0.heap[w.heap.size]? = some (.cells #[.int .i64 0,.int .i64 0,.int .i64 0,.int .i64 0] 44 (0,0)):=by rw[hA0];exact heap_alloc_new w _
 have hz:A0.heap.size=w.heap.size+1:=by rw[hA0];simp
 have hbl:=Zb c0;have d0:=(HB.out.cell (p:=⟨b,0,none⟩) hbl).trans c0;have d1:=(HB.out.cell (p:=⟨b,1+t,none⟩) hbl).trans c1;have d2:=(HB.out.cell (p:=⟨b2,o2+t,none⟩) hbl2).trans q0;have e0:b < A0.heap.size:=Om;have e2:b2 < A0.heap.size:=Om;have hdk:decide (r.length≤k)=true:=So;have HA0:=Za hA0;have HR:=Za hR;clear hA0 hR hp hr q0 q1 c0 c1;go_enter Tryz.func197,Tryz.ntmps197;go_wp2_with fail;rw[← HA0.out];refine Zs Kr Kr ?_
 repeat (go_big_quiet_step (fail))
 refine wpQuiet_nil ?_;intro w1 hw1;have hR1:=(hw1.block w.heap.size Om).trans HR.out;have g0:w1.cell? ⟨w.heap.size,0,none⟩=some (.int .i64 0):=Zc hR1 (k:=0) rfl;have g1:w1.cell? ⟨w.heap.size,1,none⟩=some (.int .i64 0):=Zc hR1 (k:=1) rfl;have g2:w1.cell? ⟨w.heap.size,2,none⟩=some (.int .i64 0):=Zc hR1 (k:=2) rfl;have g3:w1.cell? ⟨w.heap.size,3,none⟩=some (.int .i64 0):=Zc hR1 (k:=3) rfl;have gz:=Z6 hR1;have gl:=Zb g0;have HW:=Za hw1;have HR1:=Za hR1;clear d0 d1 d2 hR1 hw1 e0 e2;go_wp2_with fail;have h0:=heap_setCell_same w1 w.heap.size 0 _ _ (.int .i64 0) HR1.out;have h1:=heap_setCell_same (w1.setCell ⟨w.heap.size,0,none⟩ (.int .i64 0)) w.heap.size 1 _ _ (.int .i64 0) h0;have h2:=heap_setCell_same ((w1.setCell ⟨w.heap.size,0,none⟩ (.int .i64 0)).setCell ⟨w.heap.size,1,none⟩ (.int .i64 0)) w.heap.size 2 _ _ (.int .i64 0) h1;have h3:=heap_setCell_same (((w1.setCell ⟨w.heap.size,0,none⟩ (.int .i64 0)).setCell ⟨w.heap.size,1,none⟩ (.int .i64 0)).setCell ⟨w.heap.size,2,none⟩ (.int .i64 0)) w.heap.size 3 _ _ (.int .i64 0) h2
 have hO:=Za (((((HB.out.trans (HW.out.mono HB.out.size)).setCell (p:=⟨w.heap.size,0,none⟩) (Nat.le_refl _) (.int .i64 0)).setCell (p:=⟨w.heap.size,1,none⟩) (Nat.le_refl _) (.int .i64 0)).setCell (p:=⟨w.heap.size,2,none⟩) (Nat.le_refl _) (.int .i64 0)).setCell (p:=⟨w.heap.size,3,none⟩) (Nat.le_refl _) (.int .i64 0));refine bodyPost_ret (v:=.tuple #[.agg #[.int .i64 0,.int .i64 0,.int .i64 0,.int .i64 0],.bool false]) (by simp[results,Tryz.results197,go_sem, *]) rfl ⟨rfl,hO.out⟩
theorem Us (b t r:Nat) (op loc val:Int) (pv:Value) (s:Sq) (w:World) (hx:ZN w b pv s) (ht:t≤2) (h1:r≤2) (hv0:0≤val) (hv1:val≤3) :
 Calls Tryz.prog 198 #[.pointer (some ⟨b,0,none⟩),.int .i64 (t:Int),.agg #[.int .i64 op,.int .i64 loc,.int .i64 (r:Int),.int .i64 val]] w
  fun e w'=>e = .returned (Z2 (ZL s t ⟨op,loc,r,val⟩))∧Below w.heap.size w w':=by
 obtain⟨A0,hA0⟩:∃ A0,A0=w.alloc (.cells #[.int .i64 op,.int .i64 loc,.int .i64 (r:Int),.int .i64 val] 44):=⟨_,rfl⟩
 have HB:Hid (Below w.heap.size w A0):=Za (by rw[hA0];exact(Below.refl _ _).alloc (Nat.le_refl _) _);have hX2:A0.heap[w.heap.size]? = some (.cells #[.int .i64 op,.int .i64 loc,.int .i64 (r:Int),.int .i64 val] 44 (0,0)):=by rw[hA0];exact heap_alloc_new w _
 have a1:A0.cell? ⟨w.heap.size,2,none⟩=some (.int .i64 (r:Int)):=Zc hX2 (k:=2) rfl;have a2:A0.cell? ⟨w.heap.size,0,none⟩=some (.int .i64 op):=Zc hX2 (k:=0) rfl;have a3:A0.cell? ⟨w.heap.size,3,none⟩=some (.int .i64 val):=Zc hX2 (k:=3) rfl;have al:=Zb a1;have c2:=(hx.below HB.out).c2 t Om r Om;have bl:=(hx.below HB.out).lt;have hrl:(r:Int) < 3:=Om;have htl:(t:Int) < 3:=Om;have HA0:=Za hA0;have E1:Hid (op=3→ZL s t ⟨op,loc,r,val⟩=s.rg.getD (t * 3+r) 0):=Za fun h=>by unfold ZL;rw[if_pos h];simp
 have E2:Hid (op≠3→ZL s t ⟨op,loc,r,val⟩=val):=Za fun h=>by unfold ZL;rw[if_neg h]
 generalize ZL s t ⟨op,loc,r,val⟩=R at *;generalize s.rg.getD (t * 3+r) 0=y at *;clear hx hX2 hA0;have hwv:IntKind.u8.wrap val=val:=by rw[IntKind.wrap_u8];omega
 by_cases h3:op=3
 ·obtain rfl:=E1.out h3
  subst h3;clear E1 E2;go_enter Tryz.func198,Tryz.ntmps198;go_wp2_with fail;rw[← HA0.out];go_wp2_with fail;refine Zs Kr Kr ?_
  repeat (go_big_quiet_step (fail))
  refine wpQuiet_nil ?_;intro w1 hw1;go_wp2_with fail;go_ret;exact⟨rfl,HB.out.trans (hw1.mono HB.out.size)⟩
 ·obtain rfl:=E2.out h3
  have h3':(op==3)=false:=by simpa using h3
  clear E1 E2 h3;go_enter Tryz.func198,Tryz.ntmps198;go_wp2_with fail;go_ret;exact⟨by simp[*],by rw[← HA0.out];exact HB.out⟩
def YV (p:List (List Ins)) (s:Sq) (t:Nat):Option Ins:=(p[t]?).bind fun r=>(s.pc[t]?).bind fun k=>r[k.toNat]?
def Fx:Option Ins→Value
 | some i => .tuple #[i.v,.bool true]
 | none => .tuple #[.agg #[.int .i64 0,.int .i64 0,.int .i64 0,.int .i64 0],.bool false]
theorem Ch {p:List (List Ins)}{s:Sq}(hok:Xu p s):Yi p s=(List.range p.length).all fun t=>(YV p s t).isNone:=by
 unfold Yi;refine Bool.eq_iff_iff.2 ?_;rw[List.all_eq_true,List.all_eq_true];refine⟨fun h t ht => ?_,fun h t ht => ?_⟩ <;>
 ·have h1:=h t ht
  have hl:=List.mem_range.1 ht;obtain⟨r,hr⟩:=Zd (xs:=p) (k:=t) hl;obtain⟨k,hk⟩:=Zd (xs:=s.pc) (k:=t) (by rw[hok.lp];exact hl);have h2:=hok.pc t k r hk hr;simp[YV,hr,hk,List.getD_eq_getElem?_getD]at h1 ⊢;omega
theorem XT (b t:Nat) (pa:Option Addr) (pn pc:Nat) (p:List (List Ins)) (s:Sq) (w:World) (hp:Z5 w (.slice pa pn pc) p) (hx:ZN w b (.slice pa pn pc) s) (hok:Xu p s) (hpl:p.length≤3) (hpr:∀ r∈p,r.length≤7) (ht:t < p.length) :
 Calls Tryz.prog 197 #[.pointer (some ⟨b,0,none⟩),.int .i64 (t:Int)] w fun e w'=>e = .returned (Fx (YV p s t))∧Below w.heap.size w w':=by
 obtain⟨r,hr⟩:=Zd (xs:=p) (k:=t) ht;obtain⟨k,hk⟩:=Zd (xs:=s.pc) (k:=t) (by rw[hok.lp];exact ht);have h2:=hok.pc t k r hk hr;have h3:=hpr r (List.mem_of_getElem? hr);obtain⟨kn,rfl⟩:∃ kn:Nat,k=kn:=⟨k.toNat,Om⟩
 have c1:=hx.c1 t Om;rw[List.getD_eq_getElem?_getD,hk,Option.getD_some]at c1;have e:YV p s t=r[kn]?:=by simp[YV,hr,hk]
 rw[e];by_cases hlt:kn < r.length
 ·obtain⟨i,hi⟩:=Zd (xs:=r) (k:=kn) hlt
  rw[hi];exact EA b t kn pa pn pc p r i w hp hr hi Om Om hx.c0 c1
 ·rw[List.getElem?_eq_none Om]
  exact FM b t kn pa pn pc p r w hp hr Om Om Om hx.c0 c1
theorem RF (b:Nat) (vp:Value) (p:List (List Ins)) (s:Sq) (w:World) (hp:Z5 w vp p) (hx:ZN w b vp s) (hok:Xu p s) (hpl:p.length≤3) (hpr:∀ r∈p,r.length≤7) :
 Calls Tryz.prog 192 #[.pointer (some ⟨b,0,none⟩)] w fun e w'=>e = .returned (.bool (Yi p s))∧Below w.heap.size w w':=by
 obtain⟨va,vc,rfl,hc1,hc2,hc3,hp⟩:=hp.open;have HP:=Za hp;have HX:=Za hx;have HOK:=Za hok;have HPR:=Za hpr
 have HD:=Za (Ch hok);have c0:=hx.c0;have bl:=hx.lt;clear hp hx hok hpr;generalize hn:p.length=n at *;have HN:=Za hn;clear hn;have hsa:=@ZJ;go_enter Tryz.func192,Tryz.ntmps192;go_wp2_with fail
 go_loopw [11] (fun i wr => ∃ k:Nat,k≤n∧i = .int .i64 k∧Hid (∀ t < k,YV p s t=none)∧Below w.heap.size w wr) (fun i _=>n - (intOf i).toNat)
 case atStart=>exact⟨0,Nat.zero_le _,rfl,Za (fun t h=>absurd h (Nat.not_lt_zero t)),Below.refl _ _⟩
 case round =>
  obtain⟨k,hk,rfl,hno,hb⟩:=hrel;have HB:=Za hb;by_cases hlt:k < n
  ·have hlt':=Zh hlt
   have HNX:=Za (XT b k va n vc p s wr (HP.out.below hb) (HX.out.below hb) HOK.out (by rw[HN.out];exact hpl) HPR.out (by rw[HN.out];exact hlt));clear hb;go_wp2_with fail
   (with_reducible refine HNX.out.mono ?_);rintro e w1 ⟨rfl,hb1⟩
   have HB1:=Za (HB.out.trans (hb1.mono HB.out.size));clear hb1 HNX;cases hi:YV p s k with
   | some i =>
    have E:Hid (Yi p s=false):=Za (by
     rw[HD.out,List.all_eq_false];exact⟨k,List.mem_range.2 hlt,by rw[hi];simp⟩)
    clear hi;simp only[Fx];go_wp2_with fail;go_ret;rw[E.out];exact⟨rfl,HB1.out.alloc HB1.out.size _⟩
   | none =>
    have NO:Hid (∀ t < k+1,YV p s t=none):=Za fun t ht=>by
     by_cases e:t=k
     ·subst e;exact hi
     ·exact hno.out t Om
    clear hi;simp only[Fx];go_wp2_with fail;go_roundw
    case rel=>exact⟨k+1,Om,Gn,NO,HB1.out.alloc HB1.out.size _⟩
    case measure=>simp[intOf];omega
  ·obtain rfl:k=n:=Om
   have E:Hid (Yi p s=true):=Za (by
    rw[HD.out,List.all_eq_true];intro t ht;rw[hno.out t (List.mem_range.1 ht)];rfl)
   go_wp2_with fail;go_ret;rw[E.out];exact⟨rfl,HB.out⟩
abbrev EX (s:Sq):List Int:=[s.pc.getD 0 0,s.pc.getD 1 0,s.pc.getD 2 0]++[s.rg.getD 0 0,s.rg.getD 1 0,s.rg.getD 2 0]++[s.rg.getD 3 0,s.rg.getD 4 0,s.rg.getD 5 0]++[s.rg.getD 6 0,s.rg.getD 7 0,s.rg.getD 8 0]++[s.mm.getD 0 0,s.mm.getD 1 0,s.mm.getD 2 0]
theorem VN {l l':List Int}{n:Nat}(h:l.length=l'.length) (hn:l.length≤n) (e:∀ i < n,l.getD i 0=l'.getD i 0):l=l':=by
 apply List.ext_getElem h;intro i h1 h2;have:=e i Om;simpa[List.getD_eq_getElem?_getD,h1,h2] using this
theorem Hg {p:List (List Ins)}{s s':Sq}(h:Xu p s) (h':Xu p s') (hp:p.length≤3) (e:EX s=EX s'):s=s':=by
 simp only[EX,List.cons_append,List.nil_append,List.cons.injEq]at e;obtain⟨p0,p1,p2,r0,r1,r2,r3,r4,r5,r6,r7,r8,m0,m1,m2,-⟩:=e;have e1:s.pc=s'.pc:=VN (n:=3) (by rw[h.lp,h'.lp]) (by rw[h.lp];exact hp) fun i hi=>by
  have:i=0∨i=1∨i=2:=Om;rcases this with rfl | rfl | rfl <;> assumption
 have e2:s.rg=s'.rg:=VN (n:=9) (by rw[h.lr,h'.lr]) (by rw[h.lr];omega) fun i hi=>by
  have:i=0∨i=1∨i=2∨i=3∨i=4∨i=5∨i=6∨i=7∨i=8:=Om;rcases this with rfl | rfl | rfl | rfl | rfl | rfl | rfl | rfl | rfl <;> assumption
 have e3:s.mm=s'.mm:=VN (n:=3) (by rw[h.lm,h'.lm]) (by rw[h.lm];exact Nat.le_refl _) fun i hi=>by
  have:i=0∨i=1∨i=2:=Om;rcases this with rfl | rfl | rfl <;> assumption
 cases s;cases s';simp only[Sq.mk.injEq];exact⟨e1,e2,e3⟩
theorem EL {w:World}{b o:Nat}{x y z:Int}(h0:w.cell? ⟨b,o,none⟩=some (Z2 x)) (h1:w.cell? ⟨b,o+1,none⟩=some (Z2 y)) (h2:w.cell? ⟨b,o+2,none⟩=some (Z2 z)):Z7 Zr w (.slice (some ⟨b,o,none⟩) 3 3) [x,y,z]:=by
 refine⟨some ⟨b,o,none⟩,3,rfl,Sm,by unfold maxLen;omega,fun i v hv=>⟨b,o,rfl,fun j u hu => ?_⟩⟩;have hj:j=0:=by
  have:=(List.getElem?_eq_some_iff.1 hu).1;simp[Zr]at this;exact this
 subst hj;simp[Zr]at hu;subst hu
 match i,hv with
 | 0,hv=>simp at hv;subst hv;simpa[Zr] using h0
 | 1,hv=>simp at hv;subst hv;simpa[Zr] using h1
 | 2,hv=>simp at hv;subst hv;simpa[Zr] using h2
theorem Tryz.XG:(Tryz.prog.info? 5).map (fun i=>(i.zero,i.size,i.bytes))=some (some (.int .u8 0),1,1):=Kr
theorem XU {α:Type}{E:El α}{T:TypeId}{w:World}{base:Nat}{v:Value}{xs:List α}(h:Own E T w base v xs) (hx:xs≠[]):∃ g cap,v = .slice (some ⟨g,0,none⟩) xs.length cap:=by
 rcases h.shape with⟨-,e⟩ | ⟨g,cap,rfl,-⟩
 ·exact absurd e hx
 ·exact⟨g,cap,rfl⟩
theorem Ej {w:World}{base g cap:Nat}{xs:List Int}(h:Own Zr 5 w base (.slice (some ⟨g,0,none⟩) xs.length cap) xs):(convert 39 9 (.slice (some ⟨g,0,none⟩) xs.length cap)).run Tryz.prog w = .ok (.string (strOfNums xs)) w:=
 run_convert_bytes_arg (P:=Tryz.prog) w 39 5 Tryz.underlying39 Tryz.underlying5 g 0 xs.length cap xs rfl (fun i hi=>by
  obtain⟨y,hy⟩:=Zd (xs:=xs) (k:=i) hi;have h:=h.cell hy (j:=0) rfl;simp only[Zr,Nat.mul_one,Nat.add_zero]at h;rw[Nat.zero_add,h,List.getD_eq_getElem?_getD,hy];rfl) 9 Tryz.underlying9
structure Lt (w:World) (b:Nat) (s:Sq):Prop where
 d1:w.cell? ⟨b,1,none⟩=some (Z2 (s.pc.getD 0 0))
 d2:w.cell? ⟨b,2,none⟩=some (Z2 (s.pc.getD 1 0))
 d3:w.cell? ⟨b,3,none⟩=some (Z2 (s.pc.getD 2 0))
 d4:w.cell? ⟨b,4,none⟩=some (Z2 (s.rg.getD 0 0))
 d5:w.cell? ⟨b,5,none⟩=some (Z2 (s.rg.getD 1 0))
 d6:w.cell? ⟨b,6,none⟩=some (Z2 (s.rg.getD 2 0))
 d7:w.cell? ⟨b,7,none⟩=some (Z2 (s.rg.getD 3 0))
 d8:w.cell? ⟨b,8,none⟩=some (Z2 (s.rg.getD 4 0))
 d9:w.cell? ⟨b,9,none⟩=some (Z2 (s.rg.getD 5 0))
 d10:w.cell? ⟨b,10,none⟩=some (Z2 (s.rg.getD 6 0))
 d11:w.cell? ⟨b,11,none⟩=some (Z2 (s.rg.getD 7 0))
 d12:w.cell? ⟨b,12,none⟩=some (Z2 (s.rg.getD 8 0))
 d13:w.cell? ⟨b,13,none⟩=some (Z2 (s.mm.getD 0 0))
 d14:w.cell? ⟨b,14,none⟩=some (Z2 (s.mm.getD 1 0))
 d15:w.cell? ⟨b,15,none⟩=some (Z2 (s.mm.getD 2 0))
theorem ZN.BZ {w:World}{b:Nat}{pv:Value}{s:Sq}(h:ZN w b pv s):Lt w b s:=
 ⟨h.c1 0 Om,h.c1 1 Om,h.c1 2 Om,h.c2 0 Om 0 Om,h.c2 0 Om 1 Om,h.c2 0 Om 2 Om,h.c2 1 Om 0 Om,h.c2 1 Om 1 Om,h.c2 1 Om 2 Om,h.c2 2 Om 0 Om,h.c2 2 Om 1 Om,h.c2 2 Om 2 Om,h.c3 0 Om,h.c3 1 Om,h.c3 2 Om⟩
theorem Fl (b:Nat) (x1 x2 x3 x4 x5 x6 x7 x8 x9 x10 x11 x12 x13 x14 x15:Int) (w:World) (bl:b < w.heap.size) (d1:w.cell? ⟨b,1,none⟩=some (Z2 x1)) (d2:w.cell? ⟨b,2,none⟩=some (Z2 x2)) (d3:w.cell? ⟨b,3,none⟩=some (Z2 x3)) (d4:w.cell? ⟨b,4,none⟩=some (Z2 x4)) (d5:w.cell? ⟨b,5,none⟩=some (Z2 x5)) (d6:w.cell? ⟨b,6,none⟩=some (Z2 x6)) (d7:w.cell? ⟨b,7,none⟩=some (Z2 x7)) (d8:w.cell? ⟨b,8,none⟩=some (Z2 x8)) (d9:w.cell? ⟨b,9,none⟩=some (Z2 x9)) (d10:w.cell? ⟨b,10,none⟩=some (Z2 x10)) (d11:w.cell? ⟨b,11,none⟩=some (Z2 x11)) (d12:w.cell? ⟨b,12,none⟩=some (Z2 x12)) (d13:w.cell? ⟨b,13,none⟩=some (Z2 x13)) (d14:w.cell? ⟨b,14,none⟩=some (Z2 x14)) (d15:w.cell? ⟨b,15,none⟩=some (Z2 x15)) :
 Calls Tryz.prog 199 #[.pointer (some ⟨b,0,none⟩)] w fun e w'=>e = .returned (.string (strOfNums ([x1,x2,x3]++[x4,x5,x6]++[x7,x8,x9]++[x10,x11,x12]++[x13,x14,x15])))∧Below w.heap.size w w':=by
 have hsa:=@ZJ;have D1:=Za d1;have D2:=Za d2;have D3:=Za d3;have D4:=Za d4;have D5:=Za d5;have D6:=Za d6;have D7:=Za d7;have D8:=Za d8;have D9:=Za d9;have D10:=Za d10;have D11:=Za d11;have D12:=Za d12;have D13:=Za d13;have D14:=Za d14;have D15:=Za d15
 have R0:=Za (EL d1 d2 d3);have HE:=Za (Own.empty (E:=Zr) 5 w (Nat.le_refl _));have HBE:=Za ((Below.refl w.heap.size w).alloc (Nat.le_refl _) (.cells #[] 5));go_enter Tryz.func199,Tryz.ntmps199
 go_wp2_with (at_builtin;refine ZC Zr 5 Tryz.XG rfl Tryz.underlying39 w.heap.size _ [] [x1,x2,x3] _ HE.out (R0.out.below HBE.out) Dc Sm Sm rfl _ _ rfl rfl rfl ?_;intro v1 w1 hown1 hgr1;have O1:=Za hown1;have B1:=Za (HBE.out.grown hgr1 Sm (fun q hq=>by simp[Value.ownBlock]at hq;omega));have e1:=(B1.out.cell (p:=⟨b,1,none⟩) bl).trans D1.out;have e2:=(B1.out.cell (p:=⟨b,2,none⟩) bl).trans D2.out;have e3:=(B1.out.cell (p:=⟨b,3,none⟩) bl).trans D3.out;have e4:=(B1.out.cell (p:=⟨b,4,none⟩) bl).trans D4.out;have e5:=(B1.out.cell (p:=⟨b,5,none⟩) bl).trans D5.out;have e6:=(B1.out.cell (p:=⟨b,6,none⟩) bl).trans D6.out;have e7:=(B1.out.cell (p:=⟨b,7,none⟩) bl).trans D7.out;have e8:=(B1.out.cell (p:=⟨b,8,none⟩) bl).trans D8.out;have e9:=(B1.out.cell (p:=⟨b,9,none⟩) bl).trans D9.out;have e10:=(B1.out.cell (p:=⟨b,10,none⟩) bl).trans D10.out;have e11:=(B1.out.cell (p:=⟨b,11,none⟩) bl).trans D11.out;have e12:=(B1.out.cell (p:=⟨b,12,none⟩) bl).trans D12.out;have e13:=(B1.out.cell (p:=⟨b,13,none⟩) bl).trans D13.out;have e14:=(B1.out.cell (p:=⟨b,14,none⟩) bl).trans D14.out;have e15:=(B1.out.cell (p:=⟨b,15,none⟩) bl).trans D15.out;have el:=Nat.lt_of_lt_of_le bl B1.out.size;clear hown1 hgr1)
 have O2:Hid (Own Zr 5 w1 w.heap.size v1 ([x1,x2,x3])):=Za (by simpa using O1.out);clear d1 d2 d3 d4 d5 d6 d7 d8 d9 d10 d11 d12 d13 d14 d15 R0 HE HBE O1 e1 e2 e3 e4 e5 e6 e7 e8 e9 e10 e11 e12 e13 e14 e15 el
 go_loopw [3,16] (fun v i wr=>((i = .int .i64 0∧Own Zr 5 wr w.heap.size v ([x1,x2,x3]))∨(i = .int .i64 1∧Own Zr 5 wr w.heap.size v ([x1,x2,x3]++[x4,x5,x6]))∨(i = .int .i64 2∧Own Zr 5 wr w.heap.size v ([x1,x2,x3]++[x4,x5,x6]++[x7,x8,x9]))∨(i = .int .i64 3∧Own Zr 5 wr w.heap.size v ([x1,x2,x3]++[x4,x5,x6]++[x7,x8,x9]++[x10,x11,x12])))∧Below w.heap.size w wr) (fun _ i _=>3 - (intOf i).toNat)
 case atStart=>exact⟨.inl ⟨rfl,O2.out⟩,B1.out⟩
 case round =>
  obtain⟨hc,hb⟩:=hrel;have HB:=Za hb;have hbs:=hb.size;clear hb;rcases hc with⟨rfl,ho⟩ | ⟨rfl,ho⟩ | ⟨rfl,ho⟩ | ⟨rfl,ho⟩
  ·have HO:=Za ho
   have hix:∀ w',(Instr.index 123 (.agg #[Z2 x4,Z2 x5,Z2 x6,Z2 x7,Z2 x8,Z2 x9,Z2 x10,Z2 x11,Z2 x12]) (.int .i64 0)).run Tryz.prog w' = .ok (.agg #[Z2 x4,Z2 x5,Z2 x6]) w':=fun _=>by kernel_rfl
   have R4:=Za (EL (w:=wr.alloc (.cells #[Z2 x4,Z2 x5,Z2 x6] 122)) (b:=wr.heap.size) (o:=0) (x:=x4) (y:=x5) (z:=x6) (Zc (heap_alloc_new wr _) (k:=0) rfl) (Zc (heap_alloc_new wr _) (k:=1) rfl) (Zc (heap_alloc_new wr _) (k:=2) rfl));clear ho;go_wp2_with (at_builtin;refine ZC Zr 5 Tryz.XG rfl Tryz.underlying39 w.heap.size _ ([x1,x2,x3]) [x4,x5,x6] _ (HO.out.alloc _) R4.out Dc Sm So rfl _ _ rfl rfl rfl ?_;intro v5 w5 hown5 hgr5);have HF:=Za hown5;have HW5:=Za ((HB.out.alloc HB.out.size _).grown hgr5 So (fun q hq=>(World.ownsRow.lt HO.out q hq).1));clear hown5 hgr5 R4;go_wp2_with fail;go_roundw
   case rel=>exact⟨.inr (.inl ⟨Gn,HF.out⟩),HW5.out⟩
   case measure=>simp[intOf]
  ·have HO:=Za ho
   have hix:∀ w',(Instr.index 123 (.agg #[Z2 x4,Z2 x5,Z2 x6,Z2 x7,Z2 x8,Z2 x9,Z2 x10,Z2 x11,Z2 x12]) (.int .i64 1)).run Tryz.prog w' = .ok (.agg #[Z2 x7,Z2 x8,Z2 x9]) w':=fun _=>by kernel_rfl
   have R4:=Za (EL (w:=wr.alloc (.cells #[Z2 x7,Z2 x8,Z2 x9] 122)) (b:=wr.heap.size) (o:=0) (x:=x7) (y:=x8) (z:=x9) (Zc (heap_alloc_new wr _) (k:=0) rfl) (Zc (heap_alloc_new wr _) (k:=1) rfl) (Zc (heap_alloc_new wr _) (k:=2) rfl));clear ho;go_wp2_with (at_builtin;refine ZC Zr 5 Tryz.XG rfl Tryz.underlying39 w.heap.size _ ([x1,x2,x3]++[x4,x5,x6]) [x7,x8,x9] _ (HO.out.alloc _) R4.out Dc Sm So rfl _ _ rfl rfl rfl ?_;intro v5 w5 hown5 hgr5);have HF:=Za hown5;have HW5:=Za ((HB.out.alloc HB.out.size _).grown hgr5 So (fun q hq=>(World.ownsRow.lt HO.out q hq).1));clear hown5 hgr5 R4;go_wp2_with fail;go_roundw
   case rel=>exact⟨.inr (.inr (.inl ⟨Gn,HF.out⟩)),HW5.out⟩
   case measure=>simp[intOf]
  ·have HO:=Za ho
   have hix:∀ w',(Instr.index 123 (.agg #[Z2 x4,Z2 x5,Z2 x6,Z2 x7,Z2 x8,Z2 x9,Z2 x10,Z2 x11,Z2 x12]) (.int .i64 2)).run Tryz.prog w' = .ok (.agg #[Z2 x10,Z2 x11,Z2 x12]) w':=fun _=>by kernel_rfl
   have R4:=Za (EL (w:=wr.alloc (.cells #[Z2 x10,Z2 x11,Z2 x12] 122)) (b:=wr.heap.size) (o:=0) (x:=x10) (y:=x11) (z:=x12) (Zc (heap_alloc_new wr _) (k:=0) rfl) (Zc (heap_alloc_new wr _) (k:=1) rfl) (Zc (heap_alloc_new wr _) (k:=2) rfl));clear ho;go_wp2_with (at_builtin;refine ZC Zr 5 Tryz.XG rfl Tryz.underlying39 w.heap.size _ ([x1,x2,x3]++[x4,x5,x6]++[x7,x8,x9]) [x10,x11,x12] _ (HO.out.alloc _) R4.out Dc Sm So rfl _ _ rfl rfl rfl ?_;intro v5 w5 hown5 hgr5);have HF:=Za hown5;have HW5:=Za ((HB.out.alloc HB.out.size _).grown hgr5 So (fun q hq=>(World.ownsRow.lt HO.out q hq).1));clear hown5 hgr5 R4;go_wp2_with fail;go_roundw
   case rel=>exact⟨.inr (.inr (.inr ⟨Gn,HF.out⟩)),HW5.out⟩
   case measure=>simp[intOf]
  ·have HO:=Za ho
   have f1:=(HB.out.cell (p:=⟨b,1,none⟩) bl).trans D1.out;have f2:=(HB.out.cell (p:=⟨b,2,none⟩) bl).trans D2.out;have f3:=(HB.out.cell (p:=⟨b,3,none⟩) bl).trans D3.out;have f4:=(HB.out.cell (p:=⟨b,4,none⟩) bl).trans D4.out;have f5:=(HB.out.cell (p:=⟨b,5,none⟩) bl).trans D5.out;have f6:=(HB.out.cell (p:=⟨b,6,none⟩) bl).trans D6.out;have f7:=(HB.out.cell (p:=⟨b,7,none⟩) bl).trans D7.out;have f8:=(HB.out.cell (p:=⟨b,8,none⟩) bl).trans D8.out;have f9:=(HB.out.cell (p:=⟨b,9,none⟩) bl).trans D9.out;have f10:=(HB.out.cell (p:=⟨b,10,none⟩) bl).trans D10.out;have f11:=(HB.out.cell (p:=⟨b,11,none⟩) bl).trans D11.out;have f12:=(HB.out.cell (p:=⟨b,12,none⟩) bl).trans D12.out;have f13:=(HB.out.cell (p:=⟨b,13,none⟩) bl).trans D13.out;have f14:=(HB.out.cell (p:=⟨b,14,none⟩) bl).trans D14.out;have f15:=(HB.out.cell (p:=⟨b,15,none⟩) bl).trans D15.out
   have fl:=Nat.lt_of_lt_of_le bl hbs;have R5:=Za (EL f13 f14 f15);clear ho;go_wp2_with (at_builtin;refine ZC Zr 5 Tryz.XG rfl Tryz.underlying39 w.heap.size _ ([x1,x2,x3]++[x4,x5,x6]++[x7,x8,x9]++[x10,x11,x12]) [x13,x14,x15] _ HO.out R5.out Dc Sm hbs rfl _ _ rfl rfl rfl ?_;intro v5 w5 hown5 hgr5;obtain⟨g,cap,rfl⟩:=XU hown5 Sm;have HW5:=Za (HB.out.grown hgr5 hbs (fun q hq=>(World.ownsRow.lt HO.out q hq).1));have kc:=Ej hown5;clear hgr5 hown5;generalize ([x1,x2,x3]++[x4,x5,x6]++[x7,x8,x9]++[x10,x11,x12]++[x13,x14,x15]).length=n at *);go_ret;exact⟨rfl,HW5.out⟩
theorem Fk (b:Nat) (pv:Value) (s:Sq) (w:World) (hx:ZN w b pv s) :
 Calls Tryz.prog 199 #[.pointer (some ⟨b,0,none⟩)] w fun e w'=>e = .returned (.string (strOfNums (EX s)))∧Below w.heap.size w w':=by
 obtain⟨d1,d2,d3,d4,d5,d6,d7,d8,d9,d10,d11,d12,d13,d14,d15⟩:=hx.BZ;exact Fl b _ _ _ _ _ _ _ _ _ _ _ _ _ _ _ w hx.lt d1 d2 d3 d4 d5 d6 d7 d8 d9 d10 d11 d12 d13 d14 d15
theorem Cm {l:List Int}{k:Nat}(h:k * 3+2 < l.length):l.take ((k+1) * 3)=l.take (k * 3)++[l.getD (k * 3) 0]++[l.getD (k * 3+1) 0]++[l.getD (k * 3+2) 0]:=by
 rw[Nat.add_mul,Nat.one_mul,show k * 3+3=k * 3+1+1+1 by omega,List.take_add_one,List.take_add_one,List.take_add_one];rw[List.getD_eq_getElem?_getD,List.getD_eq_getElem?_getD,List.getD_eq_getElem?_getD];have h0:k * 3 < l.length:=Om;have h1:k * 3+1 < l.length:=Om;simp[h0,h1,h]
theorem BQ {l:List Int}(h:l.length=3):l=[l.getD 0 0,l.getD 1 0,l.getD 2 0]:=by
 match l,h with
 | [a,b,c],_=>rfl
theorem AM (b:Nat) (vp:Value) (p:List (List Ins)) (s:Sq) (w:World) (hp:Z5 w vp p) (hx:ZN w b vp s) (hok:Xu p s) (hpl:p.length≤3) :
 Calls Tryz.prog 196 #[.pointer (some ⟨b,0,none⟩)] w (Xm Zo 3 w (Kd s)):=by
 obtain⟨va,vc,rfl,hc1,hc2,hc3,hp⟩:=hp.open;have HX:=Za hx;have HOK:=Za hok
 have hsa:=@ZJ;have bl:=hx.lt;have c0:=hx.c0;have HRG:=Za (fun k=>ZP hok.rg k);have HMM:=Za (fun k=>ZP hok.mm k);have HL3:=Za (BQ hok.lm);have HLR:=Za hok.lr;clear hp hx hok;generalize hn:p.length=n at *;have HN:=Za hn;clear hn;go_enter Tryz.func196,Tryz.ntmps196;go_wp2_with fail
 go_loopw [3,14] (fun v i wr => ∃ k:Nat,k≤n∧i = .int .i64 k∧Own Zo 3 wr w.heap.size v (s.rg.take (k * 3))∧Below w.heap.size w wr) (fun _ i _=>n - (intOf i).toNat)
 case atStart=>exact⟨0,Nat.zero_le _,rfl,by rw[Nat.zero_mul,List.take_zero];exact Own.nil _ _ _,Below.refl _ _⟩
 case round =>
  obtain⟨k,hk,rfl,ho,hb⟩:=hrel;have HB:=Za hb;by_cases hlt:k < n
  ·have hlt':=Zh hlt
   have hk3:(k:Int) < 3:=Om;have x0:=(HX.out.below hb).c2 k Om 0 Om;have x1:=(HX.out.below hb).c2 k Om 1 Om;have x2:=(HX.out.below hb).c2 k Om 2 Om;have xl:=(HX.out.below hb).lt;have TK:=Za (Cm (l:=s.rg) (k:=k) (by rw[HLR.out];omega));have hlp:(s.rg.take (k * 3)).length≤1000:=by rw[List.length_take];omega
   have w0:IntKind.i64.wrap (s.rg.getD (k * 3) 0)=s.rg.getD (k * 3) 0:=by have:=HRG.out (k * 3);exact XY Om Om
   have w1:IntKind.i64.wrap (s.rg.getD (k * 3+1) 0)=s.rg.getD (k * 3+1) 0:=by have:=HRG.out (k * 3+1);exact XY Om Om
   have w2:IntKind.i64.wrap (s.rg.getD (k * 3+2) 0)=s.rg.getD (k * 3+2) 0:=by have:=HRG.out (k * 3+2);exact XY Om Om
   rw[Nat.add_zero]at x0;rw[Nat.add_zero]at x0;clear hb;generalize s.rg.getD (k * 3) 0=y0 at *;generalize s.rg.getD (k * 3+1) 0=y1 at *;generalize s.rg.getD (k * 3+2) 0=y2 at *;generalize s.rg.take (k * 3)=PP at *;have HO:=Za ho;clear ho;go_wp2_with fail
   go_loopw [3,23] (fun v i wr=>((i = .int .i64 0∧Own Zo 3 wr w.heap.size v (PP))∨(i = .int .i64 1∧Own Zo 3 wr w.heap.size v (PP++[y0]))∨(i = .int .i64 2∧Own Zo 3 wr w.heap.size v (PP++[y0]++[y1]))∨(i = .int .i64 3∧Own Zo 3 wr w.heap.size v (PP++[y0]++[y1]++[y2])))∧Below w.heap.size w wr) (fun _ i _=>3 - (intOf i).toNat)
   case atStart=>exact⟨.inl ⟨rfl,HO.out⟩,HB.out⟩
   case round =>
    obtain⟨hc,hb⟩:=hrel;have HB2:=Za hb;have hbs:=hb.size
    clear hb x0 x1 x2 xl;rcases hc with⟨rfl,ho⟩ | ⟨rfl,ho⟩ | ⟨rfl,ho⟩ | ⟨rfl,ho⟩
    ·have HO2:=Za ho
     have hix:∀ w',(Instr.index 122 (.agg #[Z2 y0,Z2 y1,Z2 y2]) (.int .i64 0)).run Tryz.prog w' = .ok (Z2 y0) w':=fun _=>by kernel_rfl
     clear ho;go_wp2_with (at_builtin;refine ZA Zo 3 Tryz.Yb rfl Tryz.underlying66 w.heap.size _ (PP) y0 (HO2.out.alloc _) Dc (by (try simp only[List.length_append,List.length_singleton]);omega) So rfl _ _ rfl rfl _ 0 1 rfl Zp ?_;intro v5 w5 hown5 hgr5 hat5);have HF:=Za hown5;have HW5:=Za ((HB2.out.alloc HB2.out.size _).grown hgr5 So (fun q hq=>(World.ownsRow.lt HO2.out q hq).1));clear hown5 hgr5 hat5;go_wp2_with fail;go_roundw
     case rel=>exact⟨.inr (.inl ⟨Gn,HF.out⟩),HW5.out⟩
     case measure=>simp[intOf]
    ·have HO2:=Za ho
     have hix:∀ w',(Instr.index 122 (.agg #[Z2 y0,Z2 y1,Z2 y2]) (.int .i64 1)).run Tryz.prog w' = .ok (Z2 y1) w':=fun _=>by kernel_rfl
     clear ho;go_wp2_with (at_builtin;refine ZA Zo 3 Tryz.Yb rfl Tryz.underlying66 w.heap.size _ (PP++[y0]) y1 (HO2.out.alloc _) Dc (by (try simp only[List.length_append,List.length_singleton]);omega) So rfl _ _ rfl rfl _ 0 1 rfl Zp ?_;intro v5 w5 hown5 hgr5 hat5);have HF:=Za hown5;have HW5:=Za ((HB2.out.alloc HB2.out.size _).grown hgr5 So (fun q hq=>(World.ownsRow.lt HO2.out q hq).1));clear hown5 hgr5 hat5;go_wp2_with fail;go_roundw
     case rel=>exact⟨.inr (.inr (.inl ⟨Gn,HF.out⟩)),HW5.out⟩
     case measure=>simp[intOf]
    ·have HO2:=Za ho
     have hix:∀ w',(Instr.index 122 (.agg #[Z2 y0,Z2 y1,Z2 y2]) (.int .i64 2)).run Tryz.prog w' = .ok (Z2 y2) w':=fun _=>by kernel_rfl
     clear ho;go_wp2_with (at_builtin;refine ZA Zo 3 Tryz.Yb rfl Tryz.underlying66 w.heap.size _ (PP++[y0]++[y1]) y2 (HO2.out.alloc _) Dc (by (try simp only[List.length_append,List.length_singleton]);omega) So rfl _ _ rfl rfl _ 0 1 rfl Zp ?_;intro v5 w5 hown5 hgr5 hat5);have HF:=Za hown5;have HW5:=Za ((HB2.out.alloc HB2.out.size _).grown hgr5 So (fun q hq=>(World.ownsRow.lt HO2.out q hq).1));clear hown5 hgr5 hat5;go_wp2_with fail;go_roundw
     case rel=>exact⟨.inr (.inr (.inr ⟨Gn,HF.out⟩)),HW5.out⟩
     case measure=>simp[intOf]
    ·have HO2:=Za ho
     clear ho;go_wp2_with fail;go_roundw
     case rel=>exact⟨k+1,Om,Gn,by rw[TK.out];exact HO2.out,HB2.out⟩
     case measure=>simp[intOf];omega
  ·obtain rfl:k=n:=Om
   rw[List.take_of_length_le (by rw[HLR.out];exact Nat.le_refl _)]at ho;have x0:=(HX.out.below hb).c3 0 Om;have x1:=(HX.out.below hb).c3 1 Om;have x2:=(HX.out.below hb).c3 2 Om;have xl:=(HX.out.below hb).lt;have hlp:s.rg.length≤1000:=by rw[HLR.out];omega
   have w0:IntKind.i64.wrap (s.mm.getD 0 0)=s.mm.getD 0 0:=by have:=HMM.out 0;exact XY Om Om
   have w1:IntKind.i64.wrap (s.mm.getD 1 0)=s.mm.getD 1 0:=by have:=HMM.out 1;exact XY Om Om
   have w2:IntKind.i64.wrap (s.mm.getD 2 0)=s.mm.getD 2 0:=by have:=HMM.out 2;exact XY Om Om
   have E:Hid (Kd s=s.rg++[s.mm.getD 0 0]++[s.mm.getD 1 0]++[s.mm.getD 2 0]):=Za (by
    show s.rg++s.mm=_
    conv=>lhs;rw[HL3.out]
    simp)
   clear hb;generalize s.mm.getD 0 0=y0 at *;generalize s.mm.getD 1 0=y1 at *;generalize s.mm.getD 2 0=y2 at *;generalize s.rg=PP at *;have HO:=Za ho;clear ho;go_wp2_with fail
   go_loopw [3,37] (fun v i wr=>((i = .int .i64 0∧Own Zo 3 wr w.heap.size v (PP))∨(i = .int .i64 1∧Own Zo 3 wr w.heap.size v (PP++[y0]))∨(i = .int .i64 2∧Own Zo 3 wr w.heap.size v (PP++[y0]++[y1]))∨(i = .int .i64 3∧Own Zo 3 wr w.heap.size v (PP++[y0]++[y1]++[y2])))∧Below w.heap.size w wr) (fun _ i _=>3 - (intOf i).toNat)
   case atStart=>exact⟨.inl ⟨rfl,HO.out⟩,HB.out⟩
   case round =>
    obtain⟨hc,hb⟩:=hrel;have HB2:=Za hb;have hbs:=hb.size
    clear hb x0 x1 x2 xl;rcases hc with⟨rfl,ho⟩ | ⟨rfl,ho⟩ | ⟨rfl,ho⟩ | ⟨rfl,ho⟩
    ·have HO2:=Za ho
     have hix:∀ w',(Instr.index 122 (.agg #[Z2 y0,Z2 y1,Z2 y2]) (.int .i64 0)).run Tryz.prog w' = .ok (Z2 y0) w':=fun _=>by kernel_rfl
     clear ho;go_wp2_with (at_builtin;refine ZA Zo 3 Tryz.Yb rfl Tryz.underlying66 w.heap.size _ (PP) y0 (HO2.out.alloc _) Dc (by (try simp only[List.length_append,List.length_singleton]);omega) So rfl _ _ rfl rfl _ 0 1 rfl Zp ?_;intro v5 w5 hown5 hgr5 hat5);have HF:=Za hown5;have HW5:=Za ((HB2.out.alloc HB2.out.size _).grown hgr5 So (fun q hq=>(World.ownsRow.lt HO2.out q hq).1));clear hown5 hgr5 hat5;go_wp2_with fail;go_roundw
     case rel=>exact⟨.inr (.inl ⟨Gn,HF.out⟩),HW5.out⟩
     case measure=>simp[intOf]
    ·have HO2:=Za ho
     have hix:∀ w',(Instr.index 122 (.agg #[Z2 y0,Z2 y1,Z2 y2]) (.int .i64 1)).run Tryz.prog w' = .ok (Z2 y1) w':=fun _=>by kernel_rfl
     clear ho;go_wp2_with (at_builtin;refine ZA Zo 3 Tryz.Yb rfl Tryz.underlying66 w.heap.size _ (PP++[y0]) y1 (HO2.out.alloc _) Dc (by (try simp only[List.length_append,List.length_singleton]);omega) So rfl _ _ rfl rfl _ 0 1 rfl Zp ?_;intro v5 w5 hown5 hgr5 hat5);have HF:=Za hown5;have HW5:=Za ((HB2.out.alloc HB2.out.size _).grown hgr5 So (fun q hq=>(World.ownsRow.lt HO2.out q hq).1));clear hown5 hgr5 hat5;go_wp2_with fail;go_roundw
     case rel=>exact⟨.inr (.inr (.inl ⟨Gn,HF.out⟩)),HW5.out⟩
     case measure=>simp[intOf]
    ·have HO2:=Za ho
     have hix:∀ w',(Instr.index 122 (.agg #[Z2 y0,Z2 y1,Z2 y2]) (.int .i64 2)).run Tryz.prog w' = .ok (Z2 y2) w':=fun _=>by kernel_rfl
     clear ho;go_wp2_with (at_builtin;refine ZA Zo 3 Tryz.Yb rfl Tryz.underlying66 w.heap.size _ (PP++[y0]++[y1]) y2 (HO2.out.alloc _) Dc (by (try simp only[List.length_append,List.length_singleton]);omega) So rfl _ _ rfl rfl _ 0 1 rfl Zp ?_;intro v5 w5 hown5 hgr5 hat5);have HF:=Za hown5;have HW5:=Za ((HB2.out.alloc HB2.out.size _).grown hgr5 So (fun q hq=>(World.ownsRow.lt HO2.out q hq).1));clear hown5 hgr5 hat5;go_wp2_with fail;go_roundw
     case rel=>exact⟨.inr (.inr (.inr ⟨Gn,HF.out⟩)),HW5.out⟩
     case measure=>simp[intOf]
    ·have HO2:=Za ho
     clear ho;go_wp2_with fail;go_ret;exact⟨_,rfl,by rw[E.out];exact HO2.out,HB2.out⟩
theorem XS {x:Ins}(h:Zg x=true):(0≤x.loc∧x.loc≤2)∧(0≤x.ZQ∧x.ZQ≤2)∧0≤x.val∧x.val≤3:=by
 unfold Zg Kj at h
 repeat' split at h
 all_goals (simp at h;try omega)
theorem Gd:∀ (N:Nat) (l:List Nat),l.Nodup→(∀ x∈l,x < N)→l.length≤N:=by
 intro N
 induction N with
 | zero =>
  intro l _ h;cases l with
  | nil=>simp
  | cons x l=>exact absurd (h x Sm) (Nat.not_lt_zero _)
 | succ N ih =>
  intro l hn h;by_cases hm:N∈l
  ·have h1:=ih (l.erase N) (hn.erase N) fun x hx=>by
    have h2:=(hn.mem_erase_iff).1 hx;have:=h x h2.2;have:=h2.1;omega
   rw[List.length_erase_of_mem hm]at h1;have:=List.length_pos_of_mem hm;omega
  ·have h1:=ih l hn fun x hx=>by
    have:=h x hx;have:x≠N:=fun e=>hm (e ▸ hx);omega
   omega
theorem Ep {a b:List Int}(hl:a.length=b.length) (ha:∀ x∈a,0≤x∧x≤3) (hb:∀ x∈b,0≤x∧x≤3) (e:U9 a=U9 b):a=b:=by
 rcases QD a b with h | h | h
 ·have:=Ad hl ha hb h;omega
 ·exact(Vo hl).1 h
 ·have h2:=Jp a b
  have:=Ad hl.symm hb ha Om;omega
theorem Ac {S:Type}{out:S→List Int}{n:Nat}{l:List S}(hn:l.Nodup) (ho:∀ s∈l,(out s).length=n∧∀ x∈out s,0≤x∧x≤3) (hi:∀ a∈l,∀ b∈l,out a=out b→a=b):l.length≤4 ^ n:=by
 have h1:(l.map fun s=>U9 (out s)).Nodup:=by
  unfold List.Nodup;rw[List.pairwise_map];refine List.Pairwise.imp_of_mem ?_ hn;intro a b ha hb hab e;exact hab (hi a ha b hb (Ep ((ho a ha).1.trans (ho b hb).1.symm) (ho a ha).2 (ho b hb).2 e))
 have h2:=Gd (4 ^ n) _ h1 fun x hx=>by
  obtain⟨s,hs,rfl⟩:=List.mem_map.1 hx;have:=Cy (ho s hs).2;rw[(ho s hs).1]at this;exact this
 simpa using h2
section
variable (vp : Value) (p : List (List Ins)) (B : Nat)
end
theorem UK (vp:Value) {p:List (List Ins)}:ZY vp (Yo p) = #[vp,Z2 0,Z2 0,Z2 0,Z2 0,Z2 0,Z2 0,Z2 0,Z2 0,Z2 0,Z2 0,Z2 0,Z2 0,Z2 0,Z2 0,Z2 0]:=by
 have e:∀ n k,(List.replicate n (0:Int)).getD k 0=0:=fun n k=>by
  rw[List.getD_eq_getElem?_getD,List.getElem?_replicate];split <;> rfl
 unfold Yo;simp only[ZY,e]
end Go.Proofs.YtngekjpklkjnbaaGreat