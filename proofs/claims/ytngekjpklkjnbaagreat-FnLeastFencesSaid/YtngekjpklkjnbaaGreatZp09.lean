/-
  The bytes of all values; the outcome. Condition: bounds on numbers.
-/
import Derived.Test.YtngekjpklkjnbaaGreatZp05
import Derived.Test.YtngekjpklkjnbaaGreatZp04
import Derived.Deep.LoopGhost
set_option maxHeartbeats 6400000
set_option maxRecDepth 100000
namespace Go.Proofs.YtngekjpklkjnbaaGreat
open Go.RowKit
structure Qc (L:List TypeId) (B:Nat) (w w':World):Prop where
 os:w'.os=w.os
 tape:w'.tape=w.tape
 output:w'.output=w.output
 size:w.heap.size≤w'.heap.size
 low:∀ k ob,w.heap[k]? = some ob→k < B→w'.heap[k]? = some ob
 block:∀ (k:Nat) (a:Array Value) (T:TypeId) (fz:Nat × Nat),w.heap[k]? = some (Obj.cells a T fz)→T∉L→w'.heap[k]? = some (Obj.cells a T fz)
theorem Qc.trans {L:List TypeId}{B:Nat}{a b c:World}(h:Qc L B a b) (k:Qc L B b c):Qc L B a c:=
 ⟨k.os.trans h.os,k.tape.trans h.tape,k.output.trans h.output,Nat.le_trans h.size k.size,fun q ob hq hl=>k.low q ob (h.low q ob hq hl) hl,fun q x T fz hq hl=>k.block q x T fz (h.block q x T fz hq hl) hl⟩
theorem Qc.Zf {L:List TypeId}{B:Nat}{w w':World}(h:Below w.heap.size w w'):Qc L B w w':=
 ⟨h.os,h.tape,h.output,h.size,fun k _ hk _=>(h.block k (Array.getElem?_eq_some_iff.1 hk).1).trans hk,fun k _ _ _ hk _=>(h.block k (Array.getElem?_eq_some_iff.1 hk).1).trans hk⟩
theorem Qc.below {L:List TypeId}{B:Nat}{w w':World}(h:Qc L B w w') (hB:B≤w.heap.size):Below B w w':=
 ⟨h.os,h.tape,h.output,h.size,fun k hk=>by
  have hk':k < w.heap.size:=Om;have e:w.heap[k]? = some (w.heap[k]'hk'):=Array.getElem?_eq_getElem hk';rw[e];exact h.low k _ e hk⟩
theorem Qc.grown {α:Type}{E:El α}{T:TypeId}{L:List TypeId}{B base:Nat}{w w':World}{v:Value}{xs:List α}(ho:Own E T w base v xs) (hT:T∈L) (hB:B≤base) (hg:w.grownBy w' v.ownBlock):Qc L B w w':=
 ⟨hg.os,hg.tape,hg.output,hg.size,fun k ob hk hl=>(hg.block k (Array.getElem?_eq_some_iff.1 hk).1 (fun e=>by
  have hbk:=(World.ownsRow.lt ho k e.symm).1;omega)).trans hk,fun k x T' fz hk hl=>(hg.block k (Array.getElem?_eq_some_iff.1 hk).1 (fun e=>by
  obtain⟨a,ha⟩:=ho.XZ e.symm;rw[hk]at ha;simp only[Option.some.injEq,Obj.cells.injEq]at ha;exact hl (ha.2.1 ▸ hT))).trans hk⟩
theorem Qc.map {L:List TypeId}{B b:Nat}{w w':World}{ks:List ByteArray}(h:XC w b ks) (hB:B≤b) (hg:w.grownBy w' (some b)):Qc L B w w':=
 ⟨hg.os,hg.tape,hg.output,hg.size,fun k ob hk hl=>(hg.block k (Array.getElem?_eq_some_iff.1 hk).1 (fun e=>by
  simp only[Option.some.injEq]at e;omega)).trans hk,fun k x T' fz hk _=>(hg.block k (Array.getElem?_eq_some_iff.1 hk).1 (fun e=>by
  simp only[Option.some.injEq]at e;obtain⟨es,clock,h1,-⟩:=h;rw[e,h1]at hk;cases hk)).trans hk⟩
structure XM (L:List TypeId) (B:Nat) (w:World) (φ:World→Prop):Prop where
 now:φ w
 Yf:∀ w',Qc L B w w'→φ w'
theorem XM.step {L:List TypeId}{B:Nat}{w w':World}{φ:World→Prop}(h:XM L B w φ) (k:Qc L B w w'):XM L B w' φ:=⟨h.Yf w' k,fun w'' k'=>h.Yf w'' (k.trans k')⟩
theorem XM.map {L:List TypeId}{B:Nat}{w:World}{φ ψ:World→Prop}(h:XM L B w φ) (f:∀ V,φ V→ψ V):XM L B w ψ:=⟨f _ h.now,fun w' k=>f _ (h.Yf w' k)⟩
theorem XM.own {α:Type}{E:El α}{T:TypeId}{L:List TypeId}{B base:Nat}{w:World}{v:Value}{xs:List α}(h:Own E T w base v xs) (hT:T∉L):XM L B w (fun W=>Own E T W base v xs):=
 ⟨h,fun w' k=>h.Vt fun q hq=>by
  obtain⟨a,ha⟩:=h.XZ hq;rw[k.block q a T _ ha hT,ha]⟩
abbrev AZ (T b:Nat):Value:=.iface T (.pointer (some ⟨b,0,none⟩))
def Pz (T:Nat):El Nat:=⟨1,Dc,fun b=>[AZ T b],fun _=>rfl,fun b u h=>by simp at h;subst h;rfl⟩
theorem Tryz.Mc:(Tryz.prog.info? 94).map (fun i=>(i.zero,i.size,i.bytes))=some (some .nilIface,1,16):=Kr
structure MK (L:List TypeId) (B:Nat) (S:Type) where
 T:Nat
 raw:World→Nat→S→Prop
 done:S→Bool
 out:S→List Int
 mv:S→List Nat
 af:S→Nat→S
 key:S→ByteArray
 fD:FuncId
 fO:FuncId
 fM:FuncId
 fA:FuncId
 fK:FuncId
 mD : ∀ b w, (method (Tryz.prog.types.size + Made.depth) T (.pointer (some ⟨b, 0, none⟩)) "loop.example/weakmemory/impl.done").run Tryz.prog w = .ok (fD, .pointer (some ⟨b, 0, none⟩)) w
 mO : ∀ b w, (method (Tryz.prog.types.size + Made.depth) T (.pointer (some ⟨b, 0, none⟩)) "loop.example/weakmemory/impl.outcome").run Tryz.prog w = .ok (fO, .pointer (some ⟨b, 0, none⟩)) w
 mM : ∀ b w, (method (Tryz.prog.types.size + Made.depth) T (.pointer (some ⟨b, 0, none⟩)) "loop.example/weakmemory/impl.moves").run Tryz.prog w = .ok (fM, .pointer (some ⟨b, 0, none⟩)) w
 mA : ∀ b w, (method (Tryz.prog.types.size + Made.depth) T (.pointer (some ⟨b, 0, none⟩)) "loop.example/weakmemory/impl.after").run Tryz.prog w = .ok (fA, .pointer (some ⟨b, 0, none⟩)) w
 mK : ∀ b w, (method (Tryz.prog.types.size + Made.depth) T (.pointer (some ⟨b, 0, none⟩)) "loop.example/weakmemory/impl.key").run Tryz.prog w = .ok (fK, .pointer (some ⟨b, 0, none⟩)) w
 cD:∀ args w,(callFunc fD args).run Tryz.prog w = .ok (.enter fD args) w
 cO:∀ args w,(callFunc fO args).run Tryz.prog w = .ok (.enter fO args) w
 cM:∀ args w,(callFunc fM args).run Tryz.prog w = .ok (.enter fM args) w
 cA:∀ args w,(callFunc fA args).run Tryz.prog w = .ok (.enter fA args) w
 cK:∀ args w,(callFunc fK args).run Tryz.prog w = .ok (.enter fK args) w
 hD:∀ w b s,raw w b s→Calls Tryz.prog fD #[.pointer (some ⟨b,0,none⟩)] w fun e w'=>e = .returned (.bool (done s))∧Below w.heap.size w w'
 hO:∀ w b s,raw w b s→Calls Tryz.prog fO #[.pointer (some ⟨b,0,none⟩)] w (Xs Zq 3 w (out s))
 hM:∀ w b s,raw w b s→Calls Tryz.prog fM #[.pointer (some ⟨b,0,none⟩)] w (Xs Zq 3 w ((mv s).map fun (m:Nat)=>(m:Int)))
 hK:∀ w b s,raw w b s→Calls Tryz.prog fK #[.pointer (some ⟨b,0,none⟩)] w fun e w'=>e = .returned (.string (key s))∧Below w.heap.size w w'
 hA:∀ w b s m,B≤w.heap.size→XM L B w (fun W=>raw W b s)→m∈mv s→Calls Tryz.prog fA #[.pointer (some ⟨b,0,none⟩),.int .i64 (m:Int)] w fun e w' => ∃ b',e = .returned (AZ T b')∧XM L B w' (fun W=>raw W b' (af s m))∧Below w.heap.size w w'
def Kh {L:List TypeId}{B:Nat}{S:Type}(K:MK L B S) (w:World) (base:Nat) (v:Value) (work:List S):Prop:=
 ∃ bs:List Nat,bs.length=work.length∧Own (Pz K.T) 94 w base v bs∧∀ (i:Nat) (b:Nat) (s:S),bs[i]? = some b→work[i]? = some s→XM L B w (fun W=>K.raw W b s)
section
variable {L : List TypeId} {B : Nat} {S : Type} {K : MK L B S}
theorem Kh.step {w w':World}{base:Nat}{v:Value}{work:List S}(h:Kh K w base v work) (k:Qc L B w w') (ho:∀ q,v.ownBlock=some q→w'.heap[q]? = w.heap[q]?):Kh K w' base v work:=by
 obtain⟨bs,h1,h2,h3⟩:=h;exact⟨bs,h1,h2.Vt ho,fun i b s hb hs=>(h3 i b s hb hs).step k⟩
theorem Kh.below {w w':World}{base:Nat}{v:Value}{work:List S}(h:Kh K w base v work) (hb:Below w.heap.size w w'):Kh K w' base v work:=by
 refine h.step (.Zf hb) fun q hq => ?_;obtain⟨bs,h1,h2,h3⟩:=h;exact hb.block q (World.ownsRow.lt h2 q hq).2
theorem Kh.pop {w:World}{base g n cap:Nat}{work:List S}{s:S}(h:Kh K w base (.slice (some ⟨g,0,none⟩) n cap) (work++[s])):n=work.length+1∧g < w.heap.size∧base≤g∧n≤cap∧Kh K w base (.slice (some ⟨g,0,none⟩) work.length cap) work ∧
 ∃ b:Nat,XM L B w (fun W=>K.raw W b s)∧w.cell? ⟨g,work.length,none⟩=some (AZ K.T b):=by
 obtain⟨bs,h1,h2,h3⟩:=h;have hn:=h2.len;simp only[List.length_append,List.length_singleton]at h1;obtain⟨b,hb⟩:=Zd (xs:=bs) (k:=work.length) Om;have hl:=World.ownsRow.lt h2 g rfl;have hcap:n≤cap:=by
  rcases h2.shape with⟨e,_⟩ | ⟨g',cap',e,_,_,h5,_⟩
  ·simp at e
  ·simp only[Value.slice.injEq]at e;omega
 have hcell:w.cell? ⟨g,work.length * 1+0,none⟩=some (AZ K.T b):=h2.cell hb (j:=0) rfl;refine⟨Om,hl.2,hl.1,hcap,⟨bs.take work.length,by rw[List.length_take];omega,h2.cut Om,fun i x s hx hs=>h3 i x s ?_ ?_⟩,b,h3 _ b s hb Sm,by simpa using hcell⟩
 ·rw[List.getElem?_take]at hx
  split at hx
  ·exact hx
  ·cases hx
 ·rw[List.getElem?_append_left (List.getElem?_eq_some_iff.1 hs).1];exact hs
theorem Kh.push {w w':World}{base:Nat}{v v':Value}{work:List S}{s:S}{b:Nat}{bs:List Nat}(hT:94∈L) (hB:B≤base) (h1:bs.length=work.length) (h2:Own (Pz K.T) 94 w base v bs) (h3:∀ (i:Nat) (b:Nat) (s:S),bs[i]? = some b→work[i]? = some s→XM L B w (fun W=>K.raw W b s))
 (hx:XM L B w (fun W=>K.raw W b s)) (ho:Own (Pz K.T) 94 w' base v' (bs++[b])) (hg:w.grownBy w' v.ownBlock):Kh K w' base v' (work++[s]):=by
 have k:Qc L B w w':=.grown h2 hT hB hg;refine⟨bs++[b],by simp[h1],ho,fun i y u hy hu => ?_⟩;rcases Nat.lt_or_ge i bs.length with hi | hi
 ·rw[List.getElem?_append_left hi]at hy
  rw[List.getElem?_append_left Om]at hu;exact(h3 i y u hy hu).step k
 ·rw[List.getElem?_append_right hi]at hy
  rw[List.getElem?_append_right Om,← h1]at hu;generalize i - bs.length=j at *;cases j with
  | zero =>
   simp at hy hu;subst hy;subst hu;exact hx.step k
  | succ j=>simp at hy
end
def YH (w:World) (base:Nat) (v:Value) (outs:List (List Int)):Prop:=
 ∃ us:List Zs,us.length=outs.length∧Own Z2 66 w base v us∧∀ (i:Nat) (u:Zs) (o:List Int),us[i]? = some u→outs[i]? = some o→Own Zq 3 w base u.v o
theorem YH.nil (w:World) (base:Nat):YH w base (.slice none 0 0) []:=⟨[],rfl,Own.nil _ _ _,fun i u o h=>by simp at h⟩
theorem Qc.row {α:Type}{E:El α}{T:TypeId}{L:List TypeId}{B base:Nat}{w w':World}{v:Value}{xs:List α}(k:Qc L B w w') (h:Own E T w base v xs) (hT:T∉L):Own E T w' base v xs:=(XM.own (B:=B) h hT).Yf w' k
theorem YH.step {L:List TypeId}{B base:Nat}{w w':World}{v:Value}{outs:List (List Int)}(h:YH w base v outs) (k:Qc L B w w') (h1:66∉L) (h2:3∉L):YH w' base v outs:=by
 obtain⟨us,g1,g2,g3⟩:=h;exact⟨us,g1,k.row g2 h1,fun i u o hu ho=>k.row (g3 i u o hu ho) h2⟩
theorem YH.below {base:Nat}{w w':World}{v:Value}{outs:List (List Int)}(h:YH w base v outs) (hb:Below w.heap.size w w'):YH w' base v outs:=h.step (L:=[]) (B:=0) (.Zf hb) Sm Sm
theorem YH.push {w w':World}{base:Nat}{v v':Value}{outs:List (List Int)}{o:List Int}{us:List Zs}{u:Zs}(h1:us.length=outs.length) (h2:Own Z2 66 w base v us)
 (h3:∀ (i:Nat) (u:Zs) (o:List Int),us[i]? = some u→outs[i]? = some o→Own Zq 3 w base u.v o) (hu:Own Zq 3 w base u.v o) (ho:Own Z2 66 w' base v' (us++[u])) (hg:w.grownBy w' v.ownBlock):YH w' base v' (outs++[o]):=by
 have k:Qc [66] base w w':=.grown h2 Sm (Nat.le_refl _) hg;refine⟨us++[u],by simp[h1],ho,fun i y z hy hz => ?_⟩;rcases Nat.lt_or_ge i us.length with hi | hi
 ·rw[List.getElem?_append_left hi]at hy
  rw[List.getElem?_append_left Om]at hz;exact k.row (h3 i y z hy hz) Dc
 ·rw[List.getElem?_append_right hi]at hy
  rw[List.getElem?_append_right Om,← h1]at hz;generalize i - us.length=j at *;cases j with
  | zero =>
   simp at hy hz;subst hy;subst hz;exact k.row hu Dc
  | succ j=>simp at hy
theorem XC.grown {α:Type}{E:El α}{T:TypeId}{w w':World}{b base:Nat}{ks:List ByteArray}{v:Value}{xs:List α}(h:XC w b ks) (ho:Own E T w base v xs) (hg:w.grownBy w' v.ownBlock):XC w' b ks:=
 h.same (hg.block b h.lt fun e=>by
  obtain⟨a,ha⟩:=ho.XZ e.symm;obtain⟨es,clock,h1,-⟩:=h;rw[h1]at ha;cases ha)
theorem XC.len {P:Program}{w:World}{b:Nat}{ks:List ByteArray}{t k e:TypeId}(h:XC w b ks) (ht:P.underlying t=some (.map k e)) (ty:TypeId):(Builtin.len_ #[t] ty #[.map (some b)]).run P w = .ok (.int .i64 (ks.length:Int)) w:=by
 obtain⟨es,clock,hb,h2⟩:=h;have e1:es.size=ks.length:=by have:=congrArg List.length h2;simpa using this
 simp[Builtin.len_,run_underlying ht,MapKept.run_getObj_map hb,goInt,Result.andThen,e1]
theorem XC.kp {L:List TypeId}{B:Nat}{w w':World}{b:Nat}{ks:List ByteArray}(h:XC w b ks) (k:YX L B w w'):XC w' b ks:=by
 obtain⟨es,clock,h1,h2⟩:=h;exact⟨es,clock,k.block b _ h1 (.inr fun a T fz e=>by cases e),h2⟩
abbrev LM:List TypeId:=[94,66]
abbrev Ji (n N:Nat):Prop:=∀ (w:World) (base:Nat) (v:Value) (l:List (List Int)),YH w base v l→base≤w.heap.size→(∀ o∈l,o.length=n)→l.length≤N →
 Calls Tryz.prog 103 #[v] w fun e w' => ∃ v' l',e = .returned v'∧YH w' base v' l'∧Xr n l'∧(∀ o,o∈l'↔o∈l)∧YX [66] base w w'
def KF {S:Type}(n:Nat) (start:S) (mv:S→List Nat) (af:S→Nat→S) (done:S→Bool) (out:S→List Int) (w:World) (e:Ending) (w':World):Prop:=
 ∃ (cn:Int) (v:Value) (l:List (List Int)),e = .returned (.tuple #[v,.int .i64 cn])∧YH w' w.heap.size v l∧Xr n l∧(∀ o,o∈l↔∃ s,Zt start (Kf mv af) s∧done s=true∧out s=o)∧Below w.heap.size w w'
section
variable {B : Nat} {S : Type} (K : MK LM B S) (C R : Nat) (rank : S → Nat) (start : S) (w : World)
structure Sh (gk:Nat) (vo v:Value) (work taken:List S) (outs:List (List Int)) (ks:List ByteArray) (g cap:Nat) (wr:World):Prop where
 hv:v = .slice (some ⟨g,0,none⟩) work.length cap
 ms:Vb (C+1) rank work=gk
 pi:PI K.mv K.af K.done K.out C R rank start work taken outs
 sk:Kh K wr w.heap.size v work
 ou:YH wr w.heap.size vo outs
 mp:XC wr w.heap.size ks
 ke:∀ k,k∈ks↔k∈(taken++work).map K.key
 bl:Below w.heap.size w wr
def BC (gk:Nat) (vo v:Value) (wr:World):Prop:=∃ work taken outs ks g cap,Sh K C R rank start w gk vo v work taken outs ks g cap wr
structure Sg (s:S) (b:Nat) (init taken:List S) (outs:List (List Int)) (vo:Value) (j:Nat) (v:Value) (new:List S) (ks:List ByteArray) (g cap:Nat) (wr:World):Prop where
 hv:v = .slice (some ⟨g,0,none⟩) (init++new).length cap
 pm:As K.mv K.af K.done K.out C R rank start s j init new taken outs
 sk:Kh K wr w.heap.size v (init++new)
 ou:YH wr w.heap.size vo outs
 mp:XC wr w.heap.size ks
 ke:∀ k,k∈ks↔k∈((s :: taken)++(init++new)).map K.key
 SY:XM LM B wr (fun W=>K.raw W b s)
 bl:Below w.heap.size w wr
def Dl (s:S) (b:Nat) (init taken:List S) (outs:List (List Int)) (vo:Value) (j:Nat) (mvs:Zs) (v:Value) (wr:World):Prop:=
 ∃ (new:List S) (ks:List ByteArray) (g cap:Nat),Sg K C R rank start w s b init taken outs vo j v new ks g cap wr∧Own Zq 3 wr w.heap.size (.slice mvs.a mvs.n mvs.cap) ((K.mv s).map fun (m:Nat)=>(m:Int))
theorem Kx {S Q:Type}(f:S→Q) {s:S}{k:Q}{init taken:List S}:k∈(taken++(init++[s])).map f↔k∈((s :: taken)++(init++[])).map f:=by
 rw[List.mem_map,List.mem_map];exact⟨fun ⟨u,h1,h2⟩=>⟨u,Ub.1 h1,h2⟩,fun ⟨u,h1,h2⟩=>⟨u,Ub.2 h1,h2⟩⟩
end
theorem Kh.kp {L L':List TypeId}{B B':Nat}{S:Type}{K:MK L B S}{w w':World}{base:Nat}{v:Value}{work:List S}(h:Kh K w base v work) (k:Qc L' B' w w') (hT:94∉L') (kk:Qc L B w w'):Kh K w' base v work:=by
 refine h.step kk fun q hq => ?_;obtain⟨bs,h1,h2,h3⟩:=h;obtain⟨a,ha⟩:=h2.XZ hq;rw[k.block q a _ _ ha hT,ha]
theorem Tryz.EY (w:World):(zeroValue 4).run Tryz.prog w = .ok (.bool false) w:=Kr
theorem Bi {B:Nat}{S:Type}(K:MK LM B S) (C n N:Nat) (rank:S→Nat) (start:S) (b0:Nat) (w:World) (hB:B≤w.heap.size) (hraw:XM LM B w (fun W=>K.raw W b0 start))
 (hC:∀ s,Zt start (Kf K.mv K.af) s→(K.mv s).length≤C) (hC1:1≤C) (hR:C * (rank start+1)≤68719476736) (hrk:∀ s,Zt start (Kf K.mv K.af) s→∀ m∈K.mv s,rank (K.af s m) < rank s)
 (hinj:∀ a b,Zt start (Kf K.mv K.af) a→Zt start (Kf K.mv K.af) b→K.key a=K.key b→a=b)
 (hN:∀ l:List S,l.Nodup→(∀ s∈l,Zt start (Kf K.mv K.af) s∧K.done s=true)→l.length≤N) (hN1:N≤68719476736) (hout:∀ s,Zt start (Kf K.mv K.af) s→(K.out s).length=n) (hsort : @Ji n N) :
 Calls Tryz.prog 80 #[AZ K.T b0] w (KF n start K.mv K.af K.done K.out w):=by
 have HRAW:=Za hraw;have HC:=Za hC;have HRK:=Za hrk;have HINJ:=Za hinj;have HN:=Za hN;have HOUT:=Za hout;have HSORT:=Za hsort;have HR:=Za hR
 clear hraw hC hrk hinj hN hout hsort hR;have mD:=K.mD;have mO:=K.mO;have mM:=K.mM;have mA:=K.mA;have mK:=K.mK
 simp[go_sem]at mD mO mM mA mK;have cD:=K.cD;have cO:=K.cO;have cM:=K.cM;have cA:=K.cA;have cK:=K.cK
 obtain⟨A0,hA0⟩:∃ A0,A0=w.alloc (.map #[] 0):=⟨_,rfl⟩
 have HA0:=Za hA0;have M0:Hid (XC A0 w.heap.size []):=Za (by rw[hA0];exact XC.made w);have KB0:Hid (Below w.heap.size w A0):=Za (by rw[hA0];exact(Below.refl _ _).alloc (Nat.le_refl _) _);clear hA0;have hmm:=@run_makeMap Tryz.prog;go_enter Tryz.func80,Tryz.ntmps80;go_wp2_with fail;rw[← HA0.out]
 (with_reducible refine(K.hK _ _ _ (HRAW.out.step (.Zf KB0.out)).now).mono ?_);rintro e w1 ⟨rfl,hb1⟩
 obtain⟨w2,hrun2,hm2,hg2⟩:=(M0.out.below hb1).put (t:=116) (P:=Tryz.prog) Tryz.underlying116 Tryz.underlying9 (s:=K.key start) Sm;have B2:Hid (Below w.heap.size w w2):=Za ((KB0.out.trans (hb1.mono KB0.out.size)).grown hg2 (by have:=KB0.out.size;have:=hb1.size;omega) (fun q hq=>by simp at hq;omega));have M2:=Za hm2;have U2:Hid (Qc LM B w w2):=Za ((Qc.Zf (KB0.out.trans (hb1.mono KB0.out.size))).trans (Qc.map (M0.out.below hb1) hB hg2));clear hb1 hm2 hg2;go_wp2_with fail;obtain⟨V0,hV0⟩:∃ V0,V0=w2.alloc (.cells #[AZ K.T b0] 94):=⟨_,rfl⟩
 have bV:=(Below.refl w2.heap.size w2).alloc (Nat.le_refl _) (.cells #[AZ K.T b0] 94);rw[← hV0]at bV;have HR0:BC K C (rank start) rank start w (Vb (C+1) rank [start]) (.slice none 0 0) (.slice (some ⟨w2.heap.size,0,none⟩) 1 1) V0:=by
  refine⟨[start],[],[],[]++[K.key start],w2.heap.size,1,rfl,rfl,.init hC1 (Nat.le_refl _),⟨[b0],rfl,?_,fun i b s hb hs => ?_⟩,.nil _ _,M2.out.below bV,fun k=>by simp,B2.out.trans (bV.mono B2.out.size)⟩
  ·rw[hV0]
   exact⟨rfl,.inr ⟨w2.heap.size,1,#[AZ K.T b0],rfl,B2.out.size,heap_alloc_new w2 _,Nat.le_refl _,by unfold maxLen;omega,rfl,rfl⟩⟩
  ·cases i with
   | zero =>
    simp at hb hs;subst hb;subst hs;exact(HRAW.out.step U2.out).step (.Zf bV)
   | succ i=>simp at hb
 have HRR:=Za HR0;have HV0:=Za hV0;simp only[← hV0];clear hV0 bV HR0 M2 B2 U2 M0 KB0 HA0 hrun2
 go_loopg [5,6] (Vb (C+1) rank [start]) (fun gk vo v wr=>BC K C (rank start) rank start w gk vo v wr)
 case atStart=>exact HRR.out
 case round =>
  obtain⟨work,taken,outs,ks,g,cap,hr⟩:=hrel;obtain⟨rfl,hms,hpi,hsk,hou,hmp,hke,hbl⟩:=hr;have PI0:=Za hpi;have SK:=Za hsk;have OU:=Za hou;have MP:=Za hmp;have KE:=Za hke;have BL:=Za hbl;have MS:=Za hms
  clear hms hpi hou hmp hke hbl;rcases List.eq_nil_or_concat work with rfl | ⟨init,s,rfl⟩
  ·clear hsk
   go_wp2_with fail;have hmemo:∀ o∈outs,o.length=n:=fun o ho=>by obtain⟨s,h1,h2,h3⟩:=(PI0.out.fin o).1 ho;rw[← h3];exact HOUT.out s h1
   (with_reducible refine(HSORT.out wr w.heap.size _ outs OU.out BL.out.size hmemo (PI0.out.Sa HN.out)).mono ?_);rintro e w3 ⟨v',l',rfl,ho3,hok3,hm3,hk3⟩
   have hlen:=fun ty=>(MP.out.kp hk3).len (P:=Tryz.prog) (t:=116) Tryz.underlying116 ty;have F:Hid (KF n start K.mv K.af K.done K.out w (.returned (.tuple #[v',.int .i64 (ks.length:Int)])) w3):=Za ⟨ks.length,v',l',rfl,ho3,hok3,fun o=>(hm3 o).trans (PI0.out.fin o),BL.out.trans (hk3.below BL.out.size)⟩;clear ho3 hok3 hm3 hk3 hmemo;go_wp2_with fail;refine bodyPost_ret (v:=.tuple #[v',.int .i64 (ks.length:Int)]) (by simp[results,Tryz.results80,go_sem, *]) rfl F.out
  ·rw[List.concat_eq_append] at *
   obtain⟨hn1,hgl,hgB,hcap,hsk',b,hlb,hcell⟩:=hsk.pop;have hreach:=PI0.out.rc s Sm;have RS:=Za hreach;have SK1:=Za hsk';have LB:=Za hlb
   have hlen:(init++[s]).length=init.length+1:=by simp
   have hshort:init.length≤68719476736:=by have h1:=PI0.out.short;have h2:=HR.out;simp at h1;omega
   rw[hlen]at hcap ⊢;have GL:=Za hgl;have GB:=Za hgB
   clear hsk hsk' hlb hlen hn1 hreach SK hgB;generalize hm:init.length=m at *;have HM:=Za hm;clear hm;go_wp2_with fail
   (with_reducible refine(K.hD wr b s LB.out.now).mono ?_);rintro e w3 ⟨rfl,hb3⟩
   have LB3:=Za (LB.out.step (.Zf hb3));have SK3:=Za (SK1.out.below hb3);have OU3:=Za (OU.out.below hb3);have MP3:=Za (MP.out.below hb3);have BL3:=Za (BL.out.trans (hb3.mono BL.out.size));have GL3:=Za (Nat.lt_of_lt_of_le GL.out hb3.size)
   clear hb3 hcell SK1 LB OU MP BL GL hgl;cases hd:K.done s
   ·have PM0:=Za (PI0.out.Mt hd)
    clear hd;go_wp2_with fail
    (with_reducible refine(K.hM w3 b s LB3.out.now).mono ?_);rintro e w7 ⟨vm,rfl,hvm,hb7⟩
    obtain⟨⟨ma,mn,mc⟩,hve,-⟩:=hvm.Yy;have hve:vm = .slice ma mn mc:=hve;subst hve;have hmn:mn=(K.mv s).length:=by have h:=hvm.len;rw[List.length_map]at h;exact h
    have V7:=Za (hvm.mono (Nat.le_trans BL3.out.size (Nat.le_refl _)));have LB7:=Za (LB3.out.step (.Zf hb7));have SK7:=Za (SK3.out.below hb7);have OU7:=Za (OU3.out.below hb7);have MP7:=Za (MP3.out.below hb7);have BL7:=Za (BL3.out.trans (hb7.mono BL3.out.size));have GL7:=Za (Nat.lt_of_lt_of_le GL3.out hb7.size)
    have HI:Hid (Dl K C (rank start) rank start w s b init taken (outs) u5 0 ⟨ma,mn,mc⟩ (.slice (some ⟨g,0,none⟩) m cap) w7):=Za ⟨[],ks,g,cap,⟨by rw[List.append_nil,HM.out],PM0.out,by rw[List.append_nil];exact SK7.out,OU7.out,MP7.out,fun k=>(KE.out k).trans (Kx K.key),LB7.out,BL7.out⟩,V7.out⟩;have HMN:=Za hmn;have hmnb:mn≤68719476736:=by have h1:=HC.out s RS.out;have h2:=Nat.mul_le_mul_left C (show 1≤rank start+1 by omega);have h3:=HR.out;omega
    clear hvm hb7 V7 LB7 SK7 OU7 MP7 BL7 GL7 hmn LB3 SK3 OU3 MP3 BL3 GL3 PM0;go_wp2_with fail
    go_loopw [6,42] (fun v i wr => ∃ j:Nat,j≤mn∧i = .int .i64 j∧Dl K C (rank start) rank start w s b init taken (outs) u5 j ⟨ma,mn,mc⟩ v wr) (fun _ i _=>mn - (intOf i).toNat)
    case atStart=>exact⟨0,Nat.zero_le _,rfl,HI.out⟩
    case round =>
     obtain⟨j,hj,rfl,new2,ks2,g2,cap2,hr2,hv2⟩:=hrel;obtain⟨rfl,hpm,hsk,hou,hmp,hke,hlb,hbl⟩:=hr2;obtain⟨l2,hl2⟩:∃ l2,l2=(init++new2).length:=⟨_,rfl⟩
     rw[← hl2]at hsk ⊢;have HL2:=Za hl2;clear hl2;have PM2:=Za hpm;have SK2:=Za hsk;have OU2:=Za hou;have MP2:=Za hmp;have KE2:=Za hke;have LB2:=Za hlb;have BL2:=Za hbl;have V2:=Za hv2
     clear hpm hsk hou hmp hke hlb hbl;by_cases hlt:j < mn
     ·have hlt':=Zh hlt
      obtain⟨mv,hmv⟩:=Zd (xs:=K.mv s) (k:=j) (by rw[← HMN.out];exact hlt);have hmv2:((K.mv s).map fun (m:Nat)=>(m:Int))[j]? = some (mv:Int):=by rw[List.getElem?_map,hmv];rfl
      obtain⟨b1,o1,hma,hbl1,i0⟩:=hv2.rep.int hmv2;simp only at hma;have NX:=Za ((Qv K.mv K.af).2 ⟨mv,hmv,rfl⟩);have MEM:=Za (List.mem_of_getElem? hmv);clear hv2 hmv2 hmv;subst hma;go_wp2_with fail
      (with_reducible refine(K.hA wr b s mv (Nat.le_trans hB BL2.out.size) LB2.out MEM.out).mono ?_);rintro e w8 ⟨b8,rfl,hlb8,hb8⟩
      have LN8:=Za hlb8;go_wp2_with fail
      (with_reducible refine(K.hK w8 b8 _ LN8.out.now).mono ?_);rintro e w9 ⟨rfl,hb9⟩
      have B9:=Za (hb8.trans (hb9.mono hb8.size));have LN9:=Za (LN8.out.step (.Zf hb9));have MP9:=Za (MP2.out.below B9.out);clear hb8 hb9 hlb8 LN8 MP2;obtain⟨D,hrunL,hD⟩:=MP9.out.look (t:=116) (P:=Tryz.prog) Tryz.underlying116 Tryz.underlying9 (Tryz.EY _) (K.key (K.af s mv));cases D
      ·have hno:K.key (K.af s mv)∉ks2:=fun h=>by have:=hD.2 h;simp at this
       obtain⟨w10,hrunP,hm10,hg10⟩:=MP9.out.put (t:=116) (P:=Tryz.prog) Tryz.underlying116 Tryz.underlying9 hno;have K10:=Za ((Qc.Zf (L:=[]) (B:=w.heap.size) B9.out).trans (Qc.map MP9.out (Nat.le_refl _) hg10));have KM:=Za ((Qc.Zf (L:=LM) (B:=B) B9.out).trans (Qc.map MP9.out hB hg10));have LN10:=Za (LN9.out.step (Qc.map MP9.out hB hg10));have M10:=Za hm10;have hno2:=Za (fun h:K.af s mv∈(s :: taken)++(init++new2)=>hno ((KE2.out _).2 (List.mem_map.2 ⟨_,h,rfl⟩)));obtain⟨bs10,hbl10,hown10,hst10⟩:=SK2.out.kp K10.out Dc KM.out;have O10:=Za hown10;have ST10:=Za hst10;have HBS:=Za hbl10
       have hbs:bs10.length≤68719476736:=by rw[hbl10];exact Nat.le_trans PM2.out.short HR.out
       have hsz10:w.heap.size≤w10.heap.size:=Nat.le_trans BL2.out.size K10.out.size;clear hD hno hm10 hg10 hbl10 hown10 hst10 LN9 MP9;go_wp2_with (first
        | (at_builtin;refine Z8 (Pz K.T) 94 Tryz.Mc rfl Tryz.underlying117 w.heap.size _ bs10 b8 (O10.out.alloc _) Dc hbs So rfl _ _ rfl rfl _ 0 1 rfl Zk ?_;intro v11 w11 hown11 hgr11 hat11))
       rcases hown11.shape with⟨_,e⟩ | ⟨g11,c11,rfl,-,-,-,-⟩
       ·simp at e
       have bA:=(Below.refl w10.heap.size w10).alloc (Nat.le_refl _) (.cells #[AZ K.T b8] 94);have kA:Qc LM B w10 (w10.alloc (.cells #[AZ K.T b8] 94)):=.Zf bA;have hw11:=Kh.push (s:=K.af s mv) Dc hB HBS.out (O10.out.alloc _) (fun i b s h1 h2=>(ST10.out i b s h1 h2).step kA) (LN10.out.step kA) hown11 hgr11;have k11:Qc [94] w.heap.size w10 w11:=(Qc.Zf bA).trans (Qc.grown (O10.out.alloc _) Sm (Nat.le_refl _) hgr11);have kM:Qc LM B w10 w11:=kA.trans (Qc.grown (O10.out.alloc _) Dc hB hgr11);have hl11:(bs10++[b8]).length=(init++(new2++[K.af s mv])).length:=by have:=HBS.out;simp only[List.length_append,List.length_singleton]at this ⊢;omega
       rw[List.append_assoc]at hw11;have pm11:=PM2.out.new NX.out hno2.out (Nat.lt_of_lt_of_le (HMN.out ▸ hlt) (HC.out s RS.out)) (HRK.out s RS.out mv MEM.out);have HF:Hid (Dl K C (rank start) rank start w s b init taken (outs) u5 (j+1) ⟨some ⟨b1,o1,none⟩,mn,mc⟩ (.slice (some ⟨g11,0,none⟩) (bs10++[b8]).length c11) w11):=
        Za ⟨new2++[K.af s mv],ks2++[K.key (K.af s mv)],g11,c11,⟨by rw[hl11],pm11,hw11,(OU2.out.step K10.out Dc Dc).step k11 Dc Dc,(M10.out.below bA).grown (O10.out.alloc _) hgr11,fun k=>by
         rw[List.mem_append,KE2.out k];simp only[List.map_append,List.mem_append,List.map_cons,List.map_nil,List.mem_cons,List.not_mem_nil,or_false,or_assoc],(LB2.out.step KM.out).step kM,(BL2.out.trans (K10.out.below BL2.out.size)).trans (k11.below hsz10)⟩,k11.row (K10.out.row V2.out Dc) Dc⟩
       clear hw11 k11 kM kA bA pm11 hown11 hgr11 hat11;go_roundw
       case rel=>exact⟨j+1,Om,Gn,HF.out⟩
       case measure=>simp[intOf];omega
      ·have HIN:=Za (hD.1 rfl)
       clear hD;have pm9:As K.mv K.af K.done K.out C (rank start) rank start s (j+1) init new2 taken (outs):=by
        obtain⟨u,hu,he⟩:=List.mem_map.1 ((KE2.out _).1 HIN.out);exact PM2.out.Mq (key:=K.key) NX.out hu he HINJ.out
       have HF:Hid (Dl K C (rank start) rank start w s b init taken (outs) u5 (j+1) ⟨some ⟨b1,o1,none⟩,mn,mc⟩ (.slice (some ⟨g2,0,none⟩) l2 cap2) w9):=
        Za ⟨new2,ks2,g2,cap2,⟨by rw[HL2.out],pm9,SK2.out.below B9.out,OU2.out.below B9.out,MP9.out,KE2.out,LB2.out.step (.Zf B9.out),BL2.out.trans (B9.out.mono BL2.out.size)⟩,V2.out.below B9.out⟩
       clear pm9;go_wp2_with fail;go_roundw
       case rel=>exact⟨j+1,Om,Gn,HF.out⟩
       case measure=>simp[intOf];omega
     ·obtain rfl:j=mn:=Om
      have HG:=Za (MS.out ▸ PM2.out.Hs (HMN.out ▸ HC.out s RS.out):Vb (C+1) rank (init++new2) < _);have HF:Hid (BC K C (rank start) rank start w (Vb (C+1) rank (init++new2)) u5 (.slice (some ⟨g2,0,none⟩) l2 cap2) wr):=Za ⟨init++new2,s :: taken,_,ks2,g2,cap2,by rw[HL2.out],rfl,PM2.out.leave (Nat.le_of_eq HMN.out.symm),SK2.out,OU2.out,MP2.out,KE2.out,BL2.out⟩;go_wp2_with fail
      go_roundg (Vb (C+1) rank (init++new2))
      case measure=>exact HG.out
      case rel=>exact HF.out
   ·have PM0:=Za (PI0.out.Hz hd)
    clear hd;go_wp2_with fail
    (with_reducible refine(K.hO w3 b s LB3.out.now).mono ?_);rintro e w4 ⟨vo4,rfl,ho4,hb4⟩
    obtain⟨⟨ua,un,uc⟩,rfl,-⟩:=ho4.Yy;obtain⟨us,gu1,gu2,gu3⟩:=OU3.out.below hb4;have O4:=Za ho4;have B4:=Za hb4;have G1:=Za gu1;have G2:=Za gu2;have G3:=Za gu3
    have hub:us.length≤68719476736:=by rw[gu1];have:=PI0.out.Sa HN.out;omega
    have hB4:w.heap.size≤w4.heap.size:=Nat.le_trans BL3.out.size hb4.size;clear ho4 hb4 gu1 gu2 gu3;go_wp2_with (first
     | (at_builtin;refine Z8 Z2 66 Tryz.Y0 rfl Tryz.underlying46 w.heap.size _ us ⟨ua,un,uc⟩ (G2.out.below ((Below.refl _ _).alloc (Nat.le_refl _) _)) Dc hub So rfl _ _ rfl rfl _ 0 1 rfl Zk ?_;intro v5 w5 hown5 hgr5 hat5))
    have bA:=(Below.refl w4.heap.size w4).alloc (Nat.le_refl _) (.cells #[.slice ua un uc] 66);have bB:=B4.out.trans (bA.mono B4.out.size);have G2A:=G2.out.below bA;have kA:Qc [66] w.heap.size w3 w5:=(Qc.Zf bB).trans (Qc.grown G2A Sm (Nat.le_refl _) hgr5);have kM:Qc LM B w3 w5:=(Qc.Zf bB).trans (Qc.grown G2A Dc hB hgr5);have LB5:=Za (LB3.out.step kM);have SK5:=Za (SK3.out.kp kA Dc kM);have MP5:=Za ((MP3.out.below bB).grown G2A hgr5);have BL5:=Za (BL3.out.trans (kA.below BL3.out.size));have GL5:=Za (Nat.lt_of_lt_of_le GL3.out kA.size)
    have OU5:=Za (YH.push G1.out G2A (fun i u o h1 h2=>(G3.out i u o h1 h2).below bA) ((O4.out.below bA).mono (Nat.le_trans BL3.out.size (Nat.le_refl _))) hown5 hgr5);clear bA bB G2A kA kM LB3 SK3 OU3 MP3 BL3 GL3 O4 B4 G1 G2 G3 hown5 hgr5 hat5 hub hB4;go_wp2_with fail
    (with_reducible refine(K.hM w5 b s LB5.out.now).mono ?_);rintro e w7 ⟨vm,rfl,hvm,hb7⟩
    obtain⟨⟨ma,mn,mc⟩,hve,-⟩:=hvm.Yy;have hve:vm = .slice ma mn mc:=hve;subst hve;have hmn:mn=(K.mv s).length:=by have h:=hvm.len;rw[List.length_map]at h;exact h
    have V7:=Za (hvm.mono (Nat.le_trans BL5.out.size (Nat.le_refl _)));have LB7:=Za (LB5.out.step (.Zf hb7));have SK7:=Za (SK5.out.below hb7);have OU7:=Za (OU5.out.below hb7);have MP7:=Za (MP5.out.below hb7);have BL7:=Za (BL5.out.trans (hb7.mono BL5.out.size));have GL7:=Za (Nat.lt_of_lt_of_le GL5.out hb7.size)
    have HI:Hid (Dl K C (rank start) rank start w s b init taken (outs++[K.out s]) v5 0 ⟨ma,mn,mc⟩ (.slice (some ⟨g,0,none⟩) m cap) w7):=Za ⟨[],ks,g,cap,⟨by rw[List.append_nil,HM.out],PM0.out,by rw[List.append_nil];exact SK7.out,OU7.out,MP7.out,fun k=>(KE.out k).trans (Kx K.key),LB7.out,BL7.out⟩,V7.out⟩;have HMN:=Za hmn;have hmnb:mn≤68719476736:=by have h1:=HC.out s RS.out;have h2:=Nat.mul_le_mul_left C (show 1≤rank start+1 by omega);have h3:=HR.out;omega
    clear hvm hb7 V7 LB7 SK7 OU7 MP7 BL7 GL7 hmn LB5 SK5 OU5 MP5 BL5 GL5 PM0;go_wp2_with fail
    go_loopw [6,42] (fun v i wr => ∃ j:Nat,j≤mn∧i = .int .i64 j∧Dl K C (rank start) rank start w s b init taken (outs++[K.out s]) v5 j ⟨ma,mn,mc⟩ v wr) (fun _ i _=>mn - (intOf i).toNat)
    case atStart=>exact⟨0,Nat.zero_le _,rfl,HI.out⟩
    case round =>
     obtain⟨j,hj,rfl,new2,ks2,g2,cap2,hr2,hv2⟩:=hrel;obtain⟨rfl,hpm,hsk,hou,hmp,hke,hlb,hbl⟩:=hr2;obtain⟨l2,hl2⟩:∃ l2,l2=(init++new2).length:=⟨_,rfl⟩
     rw[← hl2]at hsk ⊢;have HL2:=Za hl2;clear hl2;have PM2:=Za hpm;have SK2:=Za hsk;have OU2:=Za hou;have MP2:=Za hmp;have KE2:=Za hke;have LB2:=Za hlb;have BL2:=Za hbl;have V2:=Za hv2
     clear hpm hsk hou hmp hke hlb hbl;by_cases hlt:j < mn
     ·have hlt':=Zh hlt
      obtain⟨mv,hmv⟩:=Zd (xs:=K.mv s) (k:=j) (by rw[← HMN.out];exact hlt);have hmv2:((K.mv s).map fun (m:Nat)=>(m:Int))[j]? = some (mv:Int):=by rw[List.getElem?_map,hmv];rfl
      obtain⟨b1,o1,hma,hbl1,i0⟩:=hv2.rep.int hmv2;simp only at hma;have NX:=Za ((Qv K.mv K.af).2 ⟨mv,hmv,rfl⟩);have MEM:=Za (List.mem_of_getElem? hmv);clear hv2 hmv2 hmv;subst hma;go_wp2_with fail
      (with_reducible refine(K.hA wr b s mv (Nat.le_trans hB BL2.out.size) LB2.out MEM.out).mono ?_);rintro e w8 ⟨b8,rfl,hlb8,hb8⟩
      have LN8:=Za hlb8;go_wp2_with fail
      (with_reducible refine(K.hK w8 b8 _ LN8.out.now).mono ?_);rintro e w9 ⟨rfl,hb9⟩
      have B9:=Za (hb8.trans (hb9.mono hb8.size));have LN9:=Za (LN8.out.step (.Zf hb9));have MP9:=Za (MP2.out.below B9.out);clear hb8 hb9 hlb8 LN8 MP2;obtain⟨D,hrunL,hD⟩:=MP9.out.look (t:=116) (P:=Tryz.prog) Tryz.underlying116 Tryz.underlying9 (Tryz.EY _) (K.key (K.af s mv));cases D
      ·have hno:K.key (K.af s mv)∉ks2:=fun h=>by have:=hD.2 h;simp at this
       obtain⟨w10,hrunP,hm10,hg10⟩:=MP9.out.put (t:=116) (P:=Tryz.prog) Tryz.underlying116 Tryz.underlying9 hno;have K10:=Za ((Qc.Zf (L:=[]) (B:=w.heap.size) B9.out).trans (Qc.map MP9.out (Nat.le_refl _) hg10));have KM:=Za ((Qc.Zf (L:=LM) (B:=B) B9.out).trans (Qc.map MP9.out hB hg10));have LN10:=Za (LN9.out.step (Qc.map MP9.out hB hg10));have M10:=Za hm10;have hno2:=Za (fun h:K.af s mv∈(s :: taken)++(init++new2)=>hno ((KE2.out _).2 (List.mem_map.2 ⟨_,h,rfl⟩)));obtain⟨bs10,hbl10,hown10,hst10⟩:=SK2.out.kp K10.out Dc KM.out;have O10:=Za hown10;have ST10:=Za hst10;have HBS:=Za hbl10
       have hbs:bs10.length≤68719476736:=by rw[hbl10];exact Nat.le_trans PM2.out.short HR.out
       have hsz10:w.heap.size≤w10.heap.size:=Nat.le_trans BL2.out.size K10.out.size;clear hD hno hm10 hg10 hbl10 hown10 hst10 LN9 MP9;go_wp2_with (first
        | (at_builtin;refine Z8 (Pz K.T) 94 Tryz.Mc rfl Tryz.underlying117 w.heap.size _ bs10 b8 (O10.out.alloc _) Dc hbs So rfl _ _ rfl rfl _ 0 1 rfl Zk ?_;intro v11 w11 hown11 hgr11 hat11))
       rcases hown11.shape with⟨_,e⟩ | ⟨g11,c11,rfl,-,-,-,-⟩
       ·simp at e
       have bA:=(Below.refl w10.heap.size w10).alloc (Nat.le_refl _) (.cells #[AZ K.T b8] 94);have kA:Qc LM B w10 (w10.alloc (.cells #[AZ K.T b8] 94)):=.Zf bA;have hw11:=Kh.push (s:=K.af s mv) Dc hB HBS.out (O10.out.alloc _) (fun i b s h1 h2=>(ST10.out i b s h1 h2).step kA) (LN10.out.step kA) hown11 hgr11;have k11:Qc [94] w.heap.size w10 w11:=(Qc.Zf bA).trans (Qc.grown (O10.out.alloc _) Sm (Nat.le_refl _) hgr11);have kM:Qc LM B w10 w11:=kA.trans (Qc.grown (O10.out.alloc _) Dc hB hgr11);have hl11:(bs10++[b8]).length=(init++(new2++[K.af s mv])).length:=by have:=HBS.out;simp only[List.length_append,List.length_singleton]at this ⊢;omega
       rw[List.append_assoc]at hw11;have pm11:=PM2.out.new NX.out hno2.out (Nat.lt_of_lt_of_le (HMN.out ▸ hlt) (HC.out s RS.out)) (HRK.out s RS.out mv MEM.out);have HF:Hid (Dl K C (rank start) rank start w s b init taken (outs++[K.out s]) v5 (j+1) ⟨some ⟨b1,o1,none⟩,mn,mc⟩ (.slice (some ⟨g11,0,none⟩) (bs10++[b8]).length c11) w11):=
        Za ⟨new2++[K.af s mv],ks2++[K.key (K.af s mv)],g11,c11,⟨by rw[hl11],pm11,hw11,(OU2.out.step K10.out Dc Dc).step k11 Dc Dc,(M10.out.below bA).grown (O10.out.alloc _) hgr11,fun k=>by
         rw[List.mem_append,KE2.out k];simp only[List.map_append,List.mem_append,List.map_cons,List.map_nil,List.mem_cons,List.not_mem_nil,or_false,or_assoc],(LB2.out.step KM.out).step kM,(BL2.out.trans (K10.out.below BL2.out.size)).trans (k11.below hsz10)⟩,k11.row (K10.out.row V2.out Dc) Dc⟩
       clear hw11 k11 kM kA bA pm11 hown11 hgr11 hat11;go_roundw
       case rel=>exact⟨j+1,Om,Gn,HF.out⟩
       case measure=>simp[intOf];omega
      ·have HIN:=Za (hD.1 rfl)
       clear hD;have pm9:As K.mv K.af K.done K.out C (rank start) rank start s (j+1) init new2 taken (outs++[K.out s]):=by
        obtain⟨u,hu,he⟩:=List.mem_map.1 ((KE2.out _).1 HIN.out);exact PM2.out.Mq (key:=K.key) NX.out hu he HINJ.out
       have HF:Hid (Dl K C (rank start) rank start w s b init taken (outs++[K.out s]) v5 (j+1) ⟨some ⟨b1,o1,none⟩,mn,mc⟩ (.slice (some ⟨g2,0,none⟩) l2 cap2) w9):=
        Za ⟨new2,ks2,g2,cap2,⟨by rw[HL2.out],pm9,SK2.out.below B9.out,OU2.out.below B9.out,MP9.out,KE2.out,LB2.out.step (.Zf B9.out),BL2.out.trans (B9.out.mono BL2.out.size)⟩,V2.out.below B9.out⟩
       clear pm9;go_wp2_with fail;go_roundw
       case rel=>exact⟨j+1,Om,Gn,HF.out⟩
       case measure=>simp[intOf];omega
     ·obtain rfl:j=mn:=Om
      have HG:=Za (MS.out ▸ PM2.out.Hs (HMN.out ▸ HC.out s RS.out):Vb (C+1) rank (init++new2) < _);have HF:Hid (BC K C (rank start) rank start w (Vb (C+1) rank (init++new2)) v5 (.slice (some ⟨g2,0,none⟩) l2 cap2) wr):=Za ⟨init++new2,s :: taken,_,ks2,g2,cap2,by rw[HL2.out],rfl,PM2.out.leave (Nat.le_of_eq HMN.out.symm),SK2.out,OU2.out,MP2.out,KE2.out,BL2.out⟩;go_wp2_with fail
      go_roundg (Vb (C+1) rank (init++new2))
      case measure=>exact HG.out
      case rel=>exact HF.out
abbrev Z1 (x:Int):Value:=.int .u8 x
theorem Mn (b t k:Nat) (pa:Option Addr) (pn pc:Nat) (p:List (List Ins)) (r:List Ins) (i:Ins) (w:World) (hp:Z9 w (.slice pa pn pc) p) (hr:p[t]? = some r) (hi:r[k]? = some i) (ht:t≤2) (hk:k≤100)
 (c0:w.cell? ⟨b,0,none⟩=some (.slice pa pn pc)) (c1:w.cell? ⟨b,1+t,none⟩=some (.int .u8 (k:Int))) :
 Calls Tryz.prog 197 #[.pointer (some ⟨b,0,none⟩),.int .i64 (t:Int)] w fun e w'=>e = .returned (.tuple #[i.v,.bool true])∧Below w.heap.size w w':=by
 obtain⟨va,vc,hv,hc1,hc2,hc3,hp⟩:=hp.open;simp only[Value.slice.injEq]at hv;obtain⟨rfl,rfl,rfl⟩:=hv;obtain⟨b2,o2,ra,rc,rfl,hbl2,q0,q1⟩:=hp.row hr;have htl:=(List.getElem?_eq_some_iff.1 hr).1;have hkl:=(List.getElem?_eq_some_iff.1 hi).1;obtain⟨b3,o3,rfl,hbl3,i0,i1,i2,i3⟩:=q1.ins hi;have hkr:(k:Int) < (r.length:Int):=Om;have htp:(t:Int) < (p.length:Int):=Om;obtain⟨A0,hA0⟩:∃ A0,A0=w.alloc (.cells #[.int .i64 0,.int .i64 0,.int .i64 0,.int .i64 0] 44):=⟨_,rfl⟩
 have HB:Hid (Below w.heap.size w A0):=Za (by rw[hA0];exact(Below.refl _ _).alloc (Nat.le_refl _) _);have hR:A0.heap[w.heap.size]? = some (.cells #[.int .i64 0,.int .i64 0,.int .i64 0,.int .i64 0] 44 (0,0)):=by rw[hA0];exact heap_alloc_new w _
 have hz:A0.heap.size=w.heap.size+1:=by rw[hA0];simp
 have hbl:=Zb c0;have d0:=(HB.out.cell (p:=⟨b,0,none⟩) hbl).trans c0;have d1:=(HB.out.cell (p:=⟨b,1+t,none⟩) hbl).trans c1;have d2:=(HB.out.cell (p:=⟨b2,o2+t,none⟩) hbl2).trans q0;have d3:=(HB.out.cell (p:=⟨b3,o3+k * 4,none⟩) hbl3).trans i0;have d4:=(HB.out.cell (p:=⟨b3,o3+k * 4+1,none⟩) hbl3).trans i1;have d5:=(HB.out.cell (p:=⟨b3,o3+k * 4+2,none⟩) hbl3).trans i2;have d6:=(HB.out.cell (p:=⟨b3,o3+k * 4+3,none⟩) hbl3).trans i3;have e0:b < A0.heap.size:=Om;have e2:b2 < A0.heap.size:=Om;have e3:b3 < A0.heap.size:=Om;have HA0:=Za hA0;have HR:=Za hR;clear hA0 hR hp hr hi q0 q1 i0 i1 i2 i3 c0 c1;go_enter Tryz.func197,Tryz.ntmps197;go_wp2_with fail;rw[← HA0.out];refine Zo Kr Kr ?_
 repeat (go_big_quiet_step (fail))
 refine wpQuiet_nil ?_;intro w1 hw1;have f0:=(hw1.cell (p:=⟨b,0,none⟩) e0).trans d0;have f1:=(hw1.cell (p:=⟨b,1+t,none⟩) e0).trans d1;have f2:=(hw1.cell (p:=⟨b2,o2+t,none⟩) e2).trans d2;have f3:=(hw1.cell (p:=⟨b3,o3+k * 4,none⟩) e3).trans d3;have f4:=(hw1.cell (p:=⟨b3,o3+k * 4+1,none⟩) e3).trans d4;have f5:=(hw1.cell (p:=⟨b3,o3+k * 4+2,none⟩) e3).trans d5;have f6:=(hw1.cell (p:=⟨b3,o3+k * 4+3,none⟩) e3).trans d6;have hR1:=(hw1.block w.heap.size Om).trans HR.out;have g0:w1.cell? ⟨w.heap.size,0,none⟩=some (.int .i64 0):=Zc hR1 (k:=0) rfl;have g1:w1.cell? ⟨w.heap.size,1,none⟩=some (.int .i64 0):=Zc hR1 (k:=1) rfl;have g2:w1.cell? ⟨w.heap.size,2,none⟩=some (.int .i64 0):=Zc hR1 (k:=2) rfl;have g3:w1.cell? ⟨w.heap.size,3,none⟩=some (.int .i64 0):=Zc hR1 (k:=3) rfl;have gz:=Z7 hR1;have gl:=Zb g0;have hdk:decide (r.length≤k)=false:=So;have HW:=Za hw1;have HR1:=Za hR1;clear d0 d1 d2 d3 d4 d5 d6 hR1 hw1 e0 e2 e3;go_wp2_with fail
 go_region
 have h0:=heap_setCell_same w1 w.heap.size 0 _ _ (.int .i64 i.op) HR1.out;have h1:=heap_setCell_same (w1.setCell ⟨w.heap.size,0,none⟩ (.int .i64 i.op)) w.heap.size 1 _ _ (.int .i64 i.loc) h0;have h2:=heap_setCell_same ((w1.setCell ⟨w.heap.size,0,none⟩ (.int .i64 i.op)).setCell ⟨w.heap.size,1,none⟩ (.int .i64 i.loc)) w.heap.size 2 _ _ (.int .i64 i.Ya) h1;have h3:=heap_setCell_same (((w1.setCell ⟨w.heap.size,0,none⟩ (.int .i64 i.op)).setCell ⟨w.heap.size,1,none⟩ (.int .i64 i.loc)).setCell ⟨w.heap.size,2,none⟩ (.int .i64 i.Ya)) w.heap.size 3 _ _ (.int .i64 i.val) h2;have hO:=Za (((((HB.out.trans (HW.out.mono HB.out.size)).setCell (p:=⟨w.heap.size,0,none⟩) (Nat.le_refl _) (.int .i64 i.op)).setCell (p:=⟨w.heap.size,1,none⟩) (Nat.le_refl _) (.int .i64 i.loc)).setCell (p:=⟨w.heap.size,2,none⟩) (Nat.le_refl _) (.int .i64 i.Ya)).setCell (p:=⟨w.heap.size,3,none⟩) (Nat.le_refl _) (.int .i64 i.val)).drew;obtain⟨W,hW⟩:∃ W,W=((((w1.setCell ⟨w.heap.size,0,none⟩ (.int .i64 i.op)).setCell ⟨w.heap.size,1,none⟩ (.int .i64 i.loc)).setCell ⟨w.heap.size,2,none⟩ (.int .i64 i.Ya)).setCell ⟨w.heap.size,3,none⟩ (.int .i64 i.val)).drew:=⟨_,rfl⟩
 have h4:=(congrArg (fun V:World=>V.heap[w.heap.size]?) hW).trans h3;rw[← hW]at hO ⊢;have r0:W.cell? ⟨w.heap.size,0,none⟩=some (.int .i64 i.op):=Zc h4 (k:=0) rfl;have r1:W.cell? ⟨w.heap.size,1,none⟩=some (.int .i64 i.loc):=Zc h4 (k:=1) rfl;have r2:W.cell? ⟨w.heap.size,2,none⟩=some (.int .i64 i.Ya):=Zc h4 (k:=2) rfl;have r3:W.cell? ⟨w.heap.size,3,none⟩=some (.int .i64 i.val):=Zc h4 (k:=3) rfl;clear f0 f1 f2 f3 f4 f5 f6 g0 g1 g2 g3 gz h0 h1 h2 h3 h4 hW HA0 HR HR1 HB HW;go_wp2_with fail;refine bodyPost_ret (v:=.tuple #[i.v,.bool true]) (by simp[results,Tryz.results197,go_sem, *]) rfl ⟨rfl,hO.out⟩
theorem ZP (w:World) (a:Array Value) (T:TypeId) (j:Nat) (u:Value):(w.alloc (.cells a T)).setCell ⟨w.heap.size,j,none⟩ u=w.alloc (.cells (a.setIfInBounds j u) T):=by
 simp only[World.setCell,World.alloc]
 congr 1
 apply Array.ext
 ·simp
 ·intro i h1 h2
  simp only[Array.getElem_modify,Array.getElem_push];by_cases e:i=w.heap.size
  ·subst e;simp
  ·have:i < w.heap.size:=by simp at h2;omega
   simp[this,Ne.symm e]
abbrev ZV (pv:Value) (s:Sq):Array Value:=#[pv,Z1 (s.pc.getD 0 0),Z1 (s.pc.getD 1 0),Z1 (s.pc.getD 2 0),Z1 (s.rg.getD 0 0),Z1 (s.rg.getD 1 0),Z1 (s.rg.getD 2 0),Z1 (s.rg.getD 3 0),Z1 (s.rg.getD 4 0),Z1 (s.rg.getD 5 0),Z1 (s.rg.getD 6 0),Z1 (s.rg.getD 7 0),Z1 (s.rg.getD 8 0),Z1 (s.mm.getD 0 0),Z1 (s.mm.getD 1 0),Z1 (s.mm.getD 2 0)]
theorem Ro {l:List Int}{t:Nat}(ht:t < l.length) (v:Int) (i:Nat):(l.set t v).getD i 0=if t=i then v else l.getD i 0:=by
 rw[List.getD_eq_getElem?_getD,List.getElem?_set,List.getD_eq_getElem?_getD];by_cases h:t=i
 ·subst h;rw[if_pos rfl,if_pos ht,if_pos rfl];rfl
 ·rw[if_neg h,if_neg h]
theorem ET (pv:Value) (s:Sq) {t:Nat}(ht:t < 3):(ZV pv s)[1+t]? = some (Z1 (s.pc.getD t 0)):=by
 have:t=0∨t=1∨t=2:=Om;rcases this with rfl | rfl | rfl <;> rfl
theorem EU (pv:Value) (s:Sq) {t r:Nat}(ht:t < 3) (hr:r < 3):(ZV pv s)[4+t * 3+r]? = some (Z1 (s.rg.getD (t * 3+r) 0)):=by
 have h1:t=0∨t=1∨t=2:=Om;have h2:r=0∨r=1∨r=2:=Om;rcases h1 with rfl | rfl | rfl <;> rcases h2 with rfl | rfl | rfl <;> rfl
theorem ES (pv:Value) (s:Sq) {t:Nat}(ht:t < 3):(ZV pv s)[13+t]? = some (Z1 (s.mm.getD t 0)):=by
 have:t=0∨t=1∨t=2:=Om;rcases this with rfl | rfl | rfl <;> rfl
theorem XK (pv:Value) (s:Sq) {t:Nat}(ht:t < 3) (hl:t < s.pc.length) (v:Int):(ZV pv s).setIfInBounds (1+t) (Z1 v)=ZV pv ⟨s.pc.set t v,s.rg,s.mm⟩:=by
 have:t=0∨t=1∨t=2:=Om;simp only[ZV,Ro hl];rcases this with rfl | rfl | rfl <;> rfl
theorem Jz (pv:Value) (s:Sq) {t r:Nat}(ht:t < 3) (hr:r < 3) (hl:t * 3+r < s.rg.length) (v:Int):(ZV pv s).setIfInBounds (4+t * 3+r) (Z1 v)=ZV pv ⟨s.pc,s.rg.set (t * 3+r) v,s.mm⟩:=by
 have h1:t=0∨t=1∨t=2:=Om;have h2:r=0∨r=1∨r=2:=Om;simp only[ZV,Ro hl];rcases h1 with rfl | rfl | rfl <;> rcases h2 with rfl | rfl | rfl <;> rfl
theorem Jy (pv:Value) (s:Sq) {t:Nat}(ht:t < 3) (hl:t < s.mm.length) (v:Int):(ZV pv s).setIfInBounds (13+t) (Z1 v)=ZV pv ⟨s.pc,s.rg,s.mm.set t v⟩:=by
 have:t=0∨t=1∨t=2:=Om;simp only[ZV,Ro hl];rcases this with rfl | rfl | rfl <;> rfl
structure ZD (w:World) (b:Nat) (pv:Value) (s:Sq):Prop where
 lt:b < w.heap.size
 c0:w.cell? ⟨b,0,none⟩=some pv
 c1:∀ t < 3,w.cell? ⟨b,1+t,none⟩=some (Z1 (s.pc.getD t 0))
 c2:∀ t < 3,∀ r < 3,w.cell? ⟨b,4+t * 3+r,none⟩=some (Z1 (s.rg.getD (t * 3+r) 0))
 c3:∀ t < 3,w.cell? ⟨b,13+t,none⟩=some (Z1 (s.mm.getD t 0))
set_option linter.unusedVariables false in
theorem ZD.below {w w':World}{b:Nat}{pv:Value}{s:Sq}(h:ZD w b pv s) (hb:Below w.heap.size w w'):ZD w' b pv s:=
 ⟨Nat.lt_of_lt_of_le h.lt hb.size,(hb.cell (p:=⟨b,0,none⟩) h.lt).trans h.c0,fun t ht=>(hb.cell (p:=⟨b,1+t,none⟩) h.lt).trans (h.c1 t ht),fun t ht r hr=>(hb.cell (p:=⟨b,4+t * 3+r,none⟩) h.lt).trans (h.c2 t ht r hr),fun t ht=>(hb.cell (p:=⟨b,13+t,none⟩) h.lt).trans (h.c3 t ht)⟩
set_option linter.unusedVariables false in
theorem ZD.of {w:World}{b:Nat}{pv:Value}{s:Sq}{T:TypeId}(h:w.heap[b]? = some (.cells (ZV pv s) T (0,0))):ZD w b pv s:=
 ⟨(Array.getElem?_eq_some_iff.1 h).1,Zc h (k:=0) rfl,fun t ht=>Zc h (ET pv s ht),fun t ht r hr=>Zc h (EU pv s ht hr),fun t ht=>Zc h (ES pv s ht)⟩
set_option linter.unusedVariables false in
theorem ZD.Yp {w:World}{b:Nat}{pv:Value}{s:Sq}{T:TypeId}{more:Array Value}(h:w.heap[b]? = some (.cells (ZV pv s++more) T (0,0))):ZD w b pv s:=by
 have key:∀ (k:Nat) (v:Value),(ZV pv s)[k]? = some v→w.cell? ⟨b,k,none⟩=some v:=fun k v hk=>Zc h (by rw[Array.getElem?_append_left (Array.getElem?_eq_some_iff.1 hk).1];exact hk);exact⟨(Array.getElem?_eq_some_iff.1 h).1,key 0 _ rfl,fun t ht=>key _ _ (ET pv s ht),fun t ht r hr=>key _ _ (EU pv s ht hr),fun t ht=>key _ _ (ES pv s ht)⟩
theorem N9 (b t k:Nat) (pa:Option Addr) (pn pc:Nat) (p:List (List Ins)) (r:List Ins) (w:World) (hp:Z9 w (.slice pa pn pc) p) (hr:p[t]? = some r) (hi:r.length≤k) (ht:t≤2) (hk:k≤100)
 (c0:w.cell? ⟨b,0,none⟩=some (.slice pa pn pc)) (c1:w.cell? ⟨b,1+t,none⟩=some (.int .u8 (k:Int))) :
 Calls Tryz.prog 197 #[.pointer (some ⟨b,0,none⟩),.int .i64 (t:Int)] w fun e w'=>e = .returned (.tuple #[.agg #[.int .i64 0,.int .i64 0,.int .i64 0,.int .i64 0],.bool false])∧Below w.heap.size w w':=by
 obtain⟨va,vc,hv,hc1,hc2,hc3,hp⟩:=hp.open;simp only[Value.slice.injEq]at hv;obtain⟨rfl,rfl,rfl⟩:=hv;obtain⟨b2,o2,ra,rc,rfl,hbl2,q0,q1⟩:=hp.row hr;have htl:=(List.getElem?_eq_some_iff.1 hr).1;obtain⟨-,-,-,-,hrl,-,-⟩:=q1.open;have htp:(t:Int) < (p.length:Int):=Om;obtain⟨A0,hA0⟩:∃ A0,A0=w.alloc (.cells #[.int .i64 0,.int .i64 0,.int .i64 0,.int .i64 0] 44):=⟨_,rfl⟩
 have HB:Hid (Below w.heap.size w A0):=Za (by rw[hA0];exact(Below.refl _ _).alloc (Nat.le_refl _) _);have hR:A0.heap[w.heap.size]? = some (.cells #[.int .i64 0,.int .i64 0,.int .i64 0,.int .i64 0] 44 (0,0)):=by rw[hA0];exact heap_alloc_new w _
 have hz:A0.heap.size=w.heap.size+1:=by rw[hA0];simp
 have hbl:=Zb c0;have d0:=(HB.out.cell (p:=⟨b,0,none⟩) hbl).trans c0;have d1:=(HB.out.cell (p:=⟨b,1+t,none⟩) hbl).trans c1;have d2:=(HB.out.cell (p:=⟨b2,o2+t,none⟩) hbl2).trans q0;have e0:b < A0.heap.size:=Om;have e2:b2 < A0.heap.size:=Om;have hdk:decide (r.length≤k)=true:=So;have HA0:=Za hA0;have HR:=Za hR;clear hA0 hR hp hr q0 q1 c0 c1;go_enter Tryz.func197,Tryz.ntmps197;go_wp2_with fail;rw[← HA0.out];refine Zo Kr Kr ?_
 repeat (go_big_quiet_step (fail))
 refine wpQuiet_nil ?_;intro w1 hw1;have hR1:=(hw1.block w.heap.size Om).trans HR.out;have g0:w1.cell? ⟨w.heap.size,0,none⟩=some (.int .i64 0):=Zc hR1 (k:=0) rfl;have g1:w1.cell? ⟨w.heap.size,1,none⟩=some (.int .i64 0):=Zc hR1 (k:=1) rfl;have g2:w1.cell? ⟨w.heap.size,2,none⟩=some (.int .i64 0):=Zc hR1 (k:=2) rfl;have g3:w1.cell? ⟨w.heap.size,3,none⟩=some (.int .i64 0):=Zc hR1 (k:=3) rfl;have gz:=Z7 hR1;have gl:=Zb g0;have HW:=Za hw1;have HR1:=Za hR1;clear d0 d1 d2 hR1 hw1 e0 e2;go_wp2_with fail;have h0:=heap_setCell_same w1 w.heap.size 0 _ _ (.int .i64 0) HR1.out;have h1:=heap_setCell_same (w1.setCell ⟨w.heap.size,0,none⟩ (.int .i64 0)) w.heap.size 1 _ _ (.int .i64 0) h0;have h2:=heap_setCell_same ((w1.setCell ⟨w.heap.size,0,none⟩ (.int .i64 0)).setCell ⟨w.heap.size,1,none⟩ (.int .i64 0)) w.heap.size 2 _ _ (.int .i64 0) h1;have h3:=heap_setCell_same (((w1.setCell ⟨w.heap.size,0,none⟩ (.int .i64 0)).setCell ⟨w.heap.size,1,none⟩ (.int .i64 0)).setCell ⟨w.heap.size,2,none⟩ (.int .i64 0)) w.heap.size 3 _ _ (.int .i64 0) h2
 have hO:=Za (((((HB.out.trans (HW.out.mono HB.out.size)).setCell (p:=⟨w.heap.size,0,none⟩) (Nat.le_refl _) (.int .i64 0)).setCell (p:=⟨w.heap.size,1,none⟩) (Nat.le_refl _) (.int .i64 0)).setCell (p:=⟨w.heap.size,2,none⟩) (Nat.le_refl _) (.int .i64 0)).setCell (p:=⟨w.heap.size,3,none⟩) (Nat.le_refl _) (.int .i64 0));refine bodyPost_ret (v:=.tuple #[.agg #[.int .i64 0,.int .i64 0,.int .i64 0,.int .i64 0],.bool false]) (by simp[results,Tryz.results197,go_sem, *]) rfl ⟨rfl,hO.out⟩
theorem VK (b t r:Nat) (op loc val:Int) (pv:Value) (s:Sq) (w:World) (hx:ZD w b pv s) (ht:t≤2) (h1:r≤2) (hv0:0≤val) (hv1:val≤3) :
 Calls Tryz.prog 198 #[.pointer (some ⟨b,0,none⟩),.int .i64 (t:Int),.agg #[.int .i64 op,.int .i64 loc,.int .i64 (r:Int),.int .i64 val]] w
  fun e w'=>e = .returned (Z1 (Yb s t ⟨op,loc,r,val⟩))∧Below w.heap.size w w':=by
 obtain⟨A0,hA0⟩:∃ A0,A0=w.alloc (.cells #[.int .i64 op,.int .i64 loc,.int .i64 (r:Int),.int .i64 val] 44):=⟨_,rfl⟩
 have HB:Hid (Below w.heap.size w A0):=Za (by rw[hA0];exact(Below.refl _ _).alloc (Nat.le_refl _) _);have hX2:A0.heap[w.heap.size]? = some (.cells #[.int .i64 op,.int .i64 loc,.int .i64 (r:Int),.int .i64 val] 44 (0,0)):=by rw[hA0];exact heap_alloc_new w _
 have a1:A0.cell? ⟨w.heap.size,2,none⟩=some (.int .i64 (r:Int)):=Zc hX2 (k:=2) rfl;have a2:A0.cell? ⟨w.heap.size,0,none⟩=some (.int .i64 op):=Zc hX2 (k:=0) rfl;have a3:A0.cell? ⟨w.heap.size,3,none⟩=some (.int .i64 val):=Zc hX2 (k:=3) rfl;have al:=Zb a1;have c2:=(hx.below HB.out).c2 t Om r Om;have bl:=(hx.below HB.out).lt;have hrl:(r:Int) < 3:=Om;have htl:(t:Int) < 3:=Om;have HA0:=Za hA0;have E1:Hid (op=3→Yb s t ⟨op,loc,r,val⟩=s.rg.getD (t * 3+r) 0):=Za fun h=>by unfold Yb;rw[if_pos h];simp
 have E2:Hid (op≠3→Yb s t ⟨op,loc,r,val⟩=val):=Za fun h=>by unfold Yb;rw[if_neg h]
 generalize Yb s t ⟨op,loc,r,val⟩=R at *;generalize s.rg.getD (t * 3+r) 0=y at *;clear hx hX2 hA0;have hwv:IntKind.u8.wrap val=val:=by rw[IntKind.wrap_u8];omega
 by_cases h3:op=3
 ·obtain rfl:=E1.out h3
  subst h3;clear E1 E2;go_enter Tryz.func198,Tryz.ntmps198;go_wp2_with fail;rw[← HA0.out];go_wp2_with fail;refine Zo Kr Kr ?_
  repeat (go_big_quiet_step (fail))
  refine wpQuiet_nil ?_;intro w1 hw1;go_wp2_with fail;go_ret;exact⟨rfl,HB.out.trans (hw1.mono HB.out.size)⟩
 ·obtain rfl:=E2.out h3
  have h3':(op==3)=false:=by simpa using h3
  clear E1 E2 h3;go_enter Tryz.func198,Tryz.ntmps198;go_wp2_with fail;go_ret;exact⟨by simp[*],by rw[← HA0.out];exact HB.out⟩
def ZW (p:List (List Ins)) (s:Sq) (t:Nat):Option Ins:=(p[t]?).bind fun r=>(s.pc[t]?).bind fun k=>r[k.toNat]?
def IH:Option Ins→Value
 | some i => .tuple #[i.v,.bool true]
 | none => .tuple #[.agg #[.int .i64 0,.int .i64 0,.int .i64 0,.int .i64 0],.bool false]
theorem Aj {p:List (List Ins)}{s:Sq}{t:Nat}:(ZO p s t).isSome=(ZW p s t).isSome:=by
 unfold ZO ZW;cases p[t]? with
 | none=>simp
 | some r =>
  cases s.pc[t]? with
  | none=>simp
  | some k=>cases h:r[k.toNat]? <;> simp[h]
theorem Ai {p:List (List Ins)}{s:Sq}{t:Nat}{i:Ins}(h:ZW p s t=some i):ZO p s t=some (ZN s t (s.pc.getD t 0) i):=by
 unfold ZW at h;unfold ZO;cases hr:p[t]? with
 | none=>rw[hr]at h;simp at h
 | some r =>
  rw[hr]at h;cases hk:s.pc[t]? with
  | none=>rw[hk]at h;simp at h
  | some k =>
   rw[hk]at h;simp at h;simp[h,List.getD_eq_getElem?_getD,hk]
theorem Hd {p:List (List Ins)}{s:Sq}(hok:Y2 p s):ZU p s=(List.range p.length).all fun t=>(ZW p s t).isNone:=by
 unfold ZU;refine Bool.eq_iff_iff.2 ?_;rw[List.all_eq_true,List.all_eq_true];refine⟨fun h t ht => ?_,fun h t ht => ?_⟩ <;>
 ·have h1:=h t ht
  have hl:=List.mem_range.1 ht;obtain⟨r,hr⟩:=Zd (xs:=p) (k:=t) hl;obtain⟨k,hk⟩:=Zd (xs:=s.pc) (k:=t) (by rw[hok.lp];exact hl);have h2:=hok.pc t k r hk hr;simp[ZW,hr,hk,List.getD_eq_getElem?_getD]at h1 ⊢;omega
theorem XT (b t:Nat) (pa:Option Addr) (pn pc:Nat) (p:List (List Ins)) (s:Sq) (w:World) (hp:Z9 w (.slice pa pn pc) p) (hx:ZD w b (.slice pa pn pc) s) (hok:Y2 p s) (hpl:p.length≤3) (hpr:∀ r∈p,r.length≤7) (ht:t < p.length) :
 Calls Tryz.prog 197 #[.pointer (some ⟨b,0,none⟩),.int .i64 (t:Int)] w fun e w'=>e = .returned (IH (ZW p s t))∧Below w.heap.size w w':=by
 obtain⟨r,hr⟩:=Zd (xs:=p) (k:=t) ht;obtain⟨k,hk⟩:=Zd (xs:=s.pc) (k:=t) (by rw[hok.lp];exact ht);have h2:=hok.pc t k r hk hr;have h3:=hpr r (List.mem_of_getElem? hr);obtain⟨kn,rfl⟩:∃ kn:Nat,k=kn:=⟨k.toNat,Om⟩
 have c1:=hx.c1 t Om;rw[List.getD_eq_getElem?_getD,hk,Option.getD_some]at c1;have e:ZW p s t=r[kn]?:=by simp[ZW,hr,hk]
 rw[e];by_cases hlt:kn < r.length
 ·obtain⟨i,hi⟩:=Zd (xs:=r) (k:=kn) hlt
  rw[hi];exact Mn b t kn pa pn pc p r i w hp hr hi Om Om hx.c0 c1
 ·rw[List.getElem?_eq_none Om]
  exact N9 b t kn pa pn pc p r w hp hr Om Om Om hx.c0 c1
theorem UF (b:Nat) (vp:Value) (p:List (List Ins)) (s:Sq) (w:World) (hp:Z9 w vp p) (hx:ZD w b vp s) (hok:Y2 p s) (hpl:p.length≤3) (hpr:∀ r∈p,r.length≤7) :
 Calls Tryz.prog 192 #[.pointer (some ⟨b,0,none⟩)] w fun e w'=>e = .returned (.bool (ZU p s))∧Below w.heap.size w w':=by
 obtain⟨va,vc,rfl,hc1,hc2,hc3,hp⟩:=hp.open;have HP:=Za hp;have HX:=Za hx;have HOK:=Za hok;have HPR:=Za hpr
 have HD:=Za (Hd hok);have c0:=hx.c0;have bl:=hx.lt;clear hp hx hok hpr;generalize hn:p.length=n at *;have HN:=Za hn;clear hn;have hsa:=@ZP;go_enter Tryz.func192,Tryz.ntmps192;go_wp2_with fail
 go_loopw [11] (fun i wr => ∃ k:Nat,k≤n∧i = .int .i64 k∧Hid (∀ t < k,ZW p s t=none)∧Below w.heap.size w wr) (fun i _=>n - (intOf i).toNat)
 case atStart=>exact⟨0,Nat.zero_le _,rfl,Za (fun t h=>absurd h (Nat.not_lt_zero t)),Below.refl _ _⟩
 case round =>
  obtain⟨k,hk,rfl,hno,hb⟩:=hrel;have HB:=Za hb;by_cases hlt:k < n
  ·have hlt':=Zh hlt
   have HNX:=Za (XT b k va n vc p s wr (HP.out.below hb) (HX.out.below hb) HOK.out (by rw[HN.out];exact hpl) HPR.out (by rw[HN.out];exact hlt));clear hb;go_wp2_with fail
   (with_reducible refine HNX.out.mono ?_);rintro e w1 ⟨rfl,hb1⟩
   have HB1:=Za (HB.out.trans (hb1.mono HB.out.size));clear hb1 HNX;cases hi:ZW p s k with
   | some i =>
    have E:Hid (ZU p s=false):=Za (by
     rw[HD.out,List.all_eq_false];exact⟨k,List.mem_range.2 hlt,by rw[hi];simp⟩)
    clear hi;simp only[IH];go_wp2_with fail;go_ret;rw[E.out];exact⟨rfl,HB1.out.alloc HB1.out.size _⟩
   | none =>
    have NO:Hid (∀ t < k+1,ZW p s t=none):=Za fun t ht=>by
     by_cases e:t=k
     ·subst e;exact hi
     ·exact hno.out t Om
    clear hi;simp only[IH];go_wp2_with fail;go_roundw
    case rel=>exact⟨k+1,Om,Gn,NO,HB1.out.alloc HB1.out.size _⟩
    case measure=>simp[intOf];omega
  ·obtain rfl:k=n:=Om
   have E:Hid (ZU p s=true):=Za (by
    rw[HD.out,List.all_eq_true];intro t ht;rw[hno.out t (List.mem_range.1 ht)];rfl)
   go_wp2_with fail;go_ret;rw[E.out];exact⟨rfl,HB.out⟩
def AB (p:List (List Ins)) (s:Sq):List Nat:=(List.range p.length).filter fun t=>(ZW p s t).isSome
theorem Bo {p:List (List Ins)}{s:Sq}{k:Nat}:((List.range (k+1)).filter fun t=>(ZW p s t).isSome)=((List.range k).filter fun t=>(ZW p s t).isSome)++(if (ZW p s k).isSome then [k] else []):=by
 rw[List.range_succ,List.filter_append]
 congr 1
 cases h:(ZW p s k).isSome <;> simp[h]
theorem CQ (b:Nat) (vp:Value) (p:List (List Ins)) (s:Sq) (w:World) (hp:Z9 w vp p) (hx:ZD w b vp s) (hok:Y2 p s) (hpl:p.length≤3) (hpr:∀ r∈p,r.length≤7) :
 Calls Tryz.prog 195 #[.pointer (some ⟨b,0,none⟩)] w (Xs Zq 3 w ((AB p s).map fun (m:Nat)=>(m:Int))):=by
 obtain⟨va,vc,rfl,hc1,hc2,hc3,hp⟩:=hp.open;have HP:=Za hp;have HX:=Za hx;have HOK:=Za hok;have HPR:=Za hpr
 have c0:=hx.c0;have bl:=hx.lt;clear hp hx hok hpr;have HE:Hid (AB p s=(List.range p.length).filter fun t=>(ZW p s t).isSome):=Za rfl;generalize hn:p.length=n at *;have HN:=Za hn;clear hn;have hsa:=@ZP;go_enter Tryz.func195,Tryz.ntmps195;go_wp2_with fail
 go_loopw [3,13] (fun v i wr => ∃ k:Nat,k≤n∧i = .int .i64 k∧Own Zq 3 wr w.heap.size v (((List.range k).filter fun t=>(ZW p s t).isSome).map fun (m:Nat)=>(m:Int))∧Below w.heap.size w wr) (fun _ i _=>n - (intOf i).toNat)
 case atStart=>exact⟨0,Nat.zero_le _,rfl,Own.nil _ _ _,Below.refl _ _⟩
 case round =>
  obtain⟨k,hk,rfl,hown,hb⟩:=hrel;have HB:=Za hb;have HO:=Za hown
  have hbs:=hb.size;have hlen:((((List.range k).filter fun t=>(ZW p s t).isSome).map fun (m:Nat)=>(m:Int))).length≤68719476736:=by
   rw[List.length_map];exact Nat.le_trans (List.length_filter_le _ _) So
  by_cases hlt:k < n
  ·have hlt':=Zh hlt
   have HNX:=Za (XT b k va n vc p s wr (HP.out.below hb) (HX.out.below hb) HOK.out (by rw[HN.out];exact hpl) HPR.out (by rw[HN.out];exact hlt));clear hb hown;go_wp2_with fail
   (with_reducible refine HNX.out.mono ?_);rintro e w1 ⟨rfl,hb1⟩
   have HB1:=Za (HB.out.trans (hb1.mono HB.out.size));have HO1:=Za (HO.out.below hb1);have hs1:w.heap.size≤w1.heap.size:=Nat.le_trans hbs hb1.size;clear hb1 HNX;cases hi:ZW p s k with
   | some i =>
    have E:=Za (Bo (p:=p) (s:=s) (k:=k));rw[hi,Option.isSome_some,if_pos rfl]at E;clear hi;simp only[IH];go_wp2_with (first
     | (at_builtin;refine Z8 Zq 3 Tryz.Yi rfl Tryz.underlying66 w.heap.size _ _ (k:Int) ((HO1.out.alloc _).alloc _) Dc hlen So rfl _ _ rfl rfl _ 0 1 rfl (UY Sm) ?_;intro v5 w5 hown5 hgr5 hat5))
    have HF:=Za (show Own Zq 3 w5 w.heap.size v5 (((List.range (k+1)).filter fun t=>(ZW p s t).isSome).map fun (m:Nat)=>(m:Int)) by rw[E.out,List.map_append];exact hown5);have HW5:=Za (((HB1.out.alloc HB1.out.size (.cells #[.int .i64 i.op,.int .i64 i.loc,.int .i64 i.Ya,.int .i64 i.val] 44)).alloc So (.cells #[.int .i64 (k:Int)] 3)).grown hgr5 So (fun q hq=>(World.ownsRow.lt HO.out q hq).1));clear hown5 hgr5 hat5;go_wp2_with fail;go_roundw
    case rel=>exact⟨k+1,Om,Gn,HF.out,HW5.out⟩
    case measure=>simp[intOf];omega
   | none =>
    have E:=Za (Bo (p:=p) (s:=s) (k:=k));rw[hi,Option.isSome_none,if_neg Sm,List.append_nil]at E;clear hi;simp only[IH];go_wp2_with fail;go_roundw
    case rel=>exact⟨k+1,Om,Gn,by rw[E.out];exact HO1.out.alloc _,HB1.out.alloc HB1.out.size _⟩
    case measure=>simp[intOf];omega
  ·obtain rfl:k=n:=Om
   go_wp2_with fail;go_ret;exact⟨_,rfl,by rw[HE.out];exact HO.out,HB.out⟩
abbrev IY (s:Sq):List Int:=[s.pc.getD 0 0,s.pc.getD 1 0,s.pc.getD 2 0]++[s.rg.getD 0 0,s.rg.getD 1 0,s.rg.getD 2 0]++[s.rg.getD 3 0,s.rg.getD 4 0,s.rg.getD 5 0]++[s.rg.getD 6 0,s.rg.getD 7 0,s.rg.getD 8 0]++[s.mm.getD 0 0,s.mm.getD 1 0,s.mm.getD 2 0]
theorem Rk {l l':List Int}{n:Nat}(h:l.length=l'.length) (hn:l.length≤n) (e:∀ i < n,l.getD i 0=l'.getD i 0):l=l':=by
 apply List.ext_getElem h;intro i h1 h2;have:=e i Om;simpa[List.getD_eq_getElem?_getD,h1,h2] using this
theorem HJ {p:List (List Ins)}{s s':Sq}(h:Y2 p s) (h':Y2 p s') (hp:p.length≤3) (e:IY s=IY s'):s=s':=by
 simp only[IY,List.cons_append,List.nil_append,List.cons.injEq]at e;obtain⟨p0,p1,p2,r0,r1,r2,r3,r4,r5,r6,r7,r8,m0,m1,m2,-⟩:=e;have e1:s.pc=s'.pc:=Rk (n:=3) (by rw[h.lp,h'.lp]) (by rw[h.lp];exact hp) fun i hi=>by
  have:i=0∨i=1∨i=2:=Om;rcases this with rfl | rfl | rfl <;> assumption
 have e2:s.rg=s'.rg:=Rk (n:=9) (by rw[h.lr,h'.lr]) (by rw[h.lr];omega) fun i hi=>by
  have:i=0∨i=1∨i=2∨i=3∨i=4∨i=5∨i=6∨i=7∨i=8:=Om;rcases this with rfl | rfl | rfl | rfl | rfl | rfl | rfl | rfl | rfl <;> assumption
 have e3:s.mm=s'.mm:=Rk (n:=3) (by rw[h.lm,h'.lm]) (by rw[h.lm];exact Nat.le_refl _) fun i hi=>by
  have:i=0∨i=1∨i=2:=Om;rcases this with rfl | rfl | rfl <;> assumption
 cases s;cases s';simp only[Sq.mk.injEq];exact⟨e1,e2,e3⟩
theorem M5 {w:World}{b o:Nat}{x y z:Int}(h0:w.cell? ⟨b,o,none⟩=some (Z1 x)) (h1:w.cell? ⟨b,o+1,none⟩=some (Z1 y)) (h2:w.cell? ⟨b,o+2,none⟩=some (Z1 z)):ZC Zu w (.slice (some ⟨b,o,none⟩) 3 3) [x,y,z]:=by
 refine⟨some ⟨b,o,none⟩,3,rfl,Sm,by unfold maxLen;omega,fun i v hv=>⟨b,o,rfl,fun j u hu => ?_⟩⟩;have hj:j=0:=by
  have:=(List.getElem?_eq_some_iff.1 hu).1;simp[Zu]at this;exact this
 subst hj;simp[Zu]at hu;subst hu
 match i,hv with
 | 0,hv=>simp at hv;subst hv;simpa[Zu] using h0
 | 1,hv=>simp at hv;subst hv;simpa[Zu] using h1
 | 2,hv=>simp at hv;subst hv;simpa[Zu] using h2
theorem Tryz.QA:(Tryz.prog.info? 5).map (fun i=>(i.zero,i.size,i.bytes))=some (some (.int .u8 0),1,1):=Kr
theorem QU {α:Type}{E:El α}{T:TypeId}{w:World}{base:Nat}{v:Value}{xs:List α}(h:Own E T w base v xs) (hx:xs≠[]):∃ g cap,v = .slice (some ⟨g,0,none⟩) xs.length cap:=by
 rcases h.shape with⟨-,e⟩ | ⟨g,cap,rfl,-⟩
 ·exact absurd e hx
 ·exact⟨g,cap,rfl⟩
theorem LK {w:World}{base g cap:Nat}{xs:List Int}(h:Own Zu 5 w base (.slice (some ⟨g,0,none⟩) xs.length cap) xs):(convert 39 9 (.slice (some ⟨g,0,none⟩) xs.length cap)).run Tryz.prog w = .ok (.string (strOfNums xs)) w:=
 run_convert_bytes_arg (P:=Tryz.prog) w 39 5 Tryz.underlying39 Tryz.underlying5 g 0 xs.length cap xs rfl (fun i hi=>by
  obtain⟨y,hy⟩:=Zd (xs:=xs) (k:=i) hi;have h:=h.cell hy (j:=0) rfl;simp only[Zu,Nat.mul_one,Nat.add_zero]at h;rw[Nat.zero_add,h,List.getD_eq_getElem?_getD,hy];rfl) 9 Tryz.underlying9
structure Si (w:World) (b:Nat) (s:Sq):Prop where
 d1:w.cell? ⟨b,1,none⟩=some (Z1 (s.pc.getD 0 0))
 d2:w.cell? ⟨b,2,none⟩=some (Z1 (s.pc.getD 1 0))
 d3:w.cell? ⟨b,3,none⟩=some (Z1 (s.pc.getD 2 0))
 d4:w.cell? ⟨b,4,none⟩=some (Z1 (s.rg.getD 0 0))
 d5:w.cell? ⟨b,5,none⟩=some (Z1 (s.rg.getD 1 0))
 d6:w.cell? ⟨b,6,none⟩=some (Z1 (s.rg.getD 2 0))
 d7:w.cell? ⟨b,7,none⟩=some (Z1 (s.rg.getD 3 0))
 d8:w.cell? ⟨b,8,none⟩=some (Z1 (s.rg.getD 4 0))
 d9:w.cell? ⟨b,9,none⟩=some (Z1 (s.rg.getD 5 0))
 d10:w.cell? ⟨b,10,none⟩=some (Z1 (s.rg.getD 6 0))
 d11:w.cell? ⟨b,11,none⟩=some (Z1 (s.rg.getD 7 0))
 d12:w.cell? ⟨b,12,none⟩=some (Z1 (s.rg.getD 8 0))
 d13:w.cell? ⟨b,13,none⟩=some (Z1 (s.mm.getD 0 0))
 d14:w.cell? ⟨b,14,none⟩=some (Z1 (s.mm.getD 1 0))
 d15:w.cell? ⟨b,15,none⟩=some (Z1 (s.mm.getD 2 0))
theorem ZD.EF {w:World}{b:Nat}{pv:Value}{s:Sq}(h:ZD w b pv s):Si w b s:=
 ⟨h.c1 0 Om,h.c1 1 Om,h.c1 2 Om,h.c2 0 Om 0 Om,h.c2 0 Om 1 Om,h.c2 0 Om 2 Om,h.c2 1 Om 0 Om,h.c2 1 Om 1 Om,h.c2 1 Om 2 Om,h.c2 2 Om 0 Om,h.c2 2 Om 1 Om,h.c2 2 Om 2 Om,h.c3 0 Om,h.c3 1 Om,h.c3 2 Om⟩
theorem MW (b:Nat) (x1 x2 x3 x4 x5 x6 x7 x8 x9 x10 x11 x12 x13 x14 x15:Int) (w:World) (bl:b < w.heap.size) (d1:w.cell? ⟨b,1,none⟩=some (Z1 x1)) (d2:w.cell? ⟨b,2,none⟩=some (Z1 x2)) (d3:w.cell? ⟨b,3,none⟩=some (Z1 x3)) (d4:w.cell? ⟨b,4,none⟩=some (Z1 x4)) (d5:w.cell? ⟨b,5,none⟩=some (Z1 x5)) (d6:w.cell? ⟨b,6,none⟩=some (Z1 x6)) (d7:w.cell? ⟨b,7,none⟩=some (Z1 x7)) (d8:w.cell? ⟨b,8,none⟩=some (Z1 x8)) (d9:w.cell? ⟨b,9,none⟩=some (Z1 x9)) (d10:w.cell? ⟨b,10,none⟩=some (Z1 x10)) (d11:w.cell? ⟨b,11,none⟩=some (Z1 x11)) (d12:w.cell? ⟨b,12,none⟩=some (Z1 x12)) (d13:w.cell? ⟨b,13,none⟩=some (Z1 x13)) (d14:w.cell? ⟨b,14,none⟩=some (Z1 x14)) (d15:w.cell? ⟨b,15,none⟩=some (Z1 x15)) :
 Calls Tryz.prog 199 #[.pointer (some ⟨b,0,none⟩)] w fun e w'=>e = .returned (.string (strOfNums ([x1,x2,x3]++[x4,x5,x6]++[x7,x8,x9]++[x10,x11,x12]++[x13,x14,x15])))∧Below w.heap.size w w':=by
 have hsa:=@ZP;have D1:=Za d1;have D2:=Za d2;have D3:=Za d3;have D4:=Za d4;have D5:=Za d5;have D6:=Za d6;have D7:=Za d7;have D8:=Za d8;have D9:=Za d9;have D10:=Za d10;have D11:=Za d11;have D12:=Za d12;have D13:=Za d13;have D14:=Za d14;have D15:=Za d15
 have R0:=Za (M5 d1 d2 d3);have HE:=Za (Own.empty (E:=Zu) 5 w (Nat.le_refl _));have HBE:=Za ((Below.refl w.heap.size w).alloc (Nat.le_refl _) (.cells #[] 5));go_enter Tryz.func199,Tryz.ntmps199
 go_wp2_with (at_builtin;refine ZJ Zu 5 Tryz.QA rfl Tryz.underlying39 w.heap.size _ [] [x1,x2,x3] _ HE.out (R0.out.below HBE.out) Dc Sm Sm rfl _ _ rfl rfl rfl ?_;intro v1 w1 hown1 hgr1;have O1:=Za hown1;have B1:=Za (HBE.out.grown hgr1 Sm (fun q hq=>by simp[Value.ownBlock]at hq;omega));have e1:=(B1.out.cell (p:=⟨b,1,none⟩) bl).trans D1.out;have e2:=(B1.out.cell (p:=⟨b,2,none⟩) bl).trans D2.out;have e3:=(B1.out.cell (p:=⟨b,3,none⟩) bl).trans D3.out;have e4:=(B1.out.cell (p:=⟨b,4,none⟩) bl).trans D4.out;have e5:=(B1.out.cell (p:=⟨b,5,none⟩) bl).trans D5.out;have e6:=(B1.out.cell (p:=⟨b,6,none⟩) bl).trans D6.out;have e7:=(B1.out.cell (p:=⟨b,7,none⟩) bl).trans D7.out;have e8:=(B1.out.cell (p:=⟨b,8,none⟩) bl).trans D8.out;have e9:=(B1.out.cell (p:=⟨b,9,none⟩) bl).trans D9.out;have e10:=(B1.out.cell (p:=⟨b,10,none⟩) bl).trans D10.out;have e11:=(B1.out.cell (p:=⟨b,11,none⟩) bl).trans D11.out;have e12:=(B1.out.cell (p:=⟨b,12,none⟩) bl).trans D12.out;have e13:=(B1.out.cell (p:=⟨b,13,none⟩) bl).trans D13.out;have e14:=(B1.out.cell (p:=⟨b,14,none⟩) bl).trans D14.out;have e15:=(B1.out.cell (p:=⟨b,15,none⟩) bl).trans D15.out;have el:=Nat.lt_of_lt_of_le bl B1.out.size;clear hown1 hgr1)
 have O2:Hid (Own Zu 5 w1 w.heap.size v1 ([x1,x2,x3])):=Za (by simpa using O1.out);clear d1 d2 d3 d4 d5 d6 d7 d8 d9 d10 d11 d12 d13 d14 d15 R0 HE HBE O1 e1 e2 e3 e4 e5 e6 e7 e8 e9 e10 e11 e12 e13 e14 e15 el
 go_loopw [3,16] (fun v i wr=>((i = .int .i64 0∧Own Zu 5 wr w.heap.size v ([x1,x2,x3]))∨(i = .int .i64 1∧Own Zu 5 wr w.heap.size v ([x1,x2,x3]++[x4,x5,x6]))∨(i = .int .i64 2∧Own Zu 5 wr w.heap.size v ([x1,x2,x3]++[x4,x5,x6]++[x7,x8,x9]))∨(i = .int .i64 3∧Own Zu 5 wr w.heap.size v ([x1,x2,x3]++[x4,x5,x6]++[x7,x8,x9]++[x10,x11,x12])))∧Below w.heap.size w wr) (fun _ i _=>3 - (intOf i).toNat)
 case atStart=>exact⟨.inl ⟨rfl,O2.out⟩,B1.out⟩
 case round =>
  obtain⟨hc,hb⟩:=hrel;have HB:=Za hb;have hbs:=hb.size;clear hb;rcases hc with⟨rfl,ho⟩ | ⟨rfl,ho⟩ | ⟨rfl,ho⟩ | ⟨rfl,ho⟩
  ·have HO:=Za ho
   have hix:∀ w',(Instr.index 123 (.agg #[Z1 x4,Z1 x5,Z1 x6,Z1 x7,Z1 x8,Z1 x9,Z1 x10,Z1 x11,Z1 x12]) (.int .i64 0)).run Tryz.prog w' = .ok (.agg #[Z1 x4,Z1 x5,Z1 x6]) w':=fun _=>by kernel_rfl
   have R4:=Za (M5 (w:=wr.alloc (.cells #[Z1 x4,Z1 x5,Z1 x6] 122)) (b:=wr.heap.size) (o:=0) (x:=x4) (y:=x5) (z:=x6) (Zc (heap_alloc_new wr _) (k:=0) rfl) (Zc (heap_alloc_new wr _) (k:=1) rfl) (Zc (heap_alloc_new wr _) (k:=2) rfl));clear ho;go_wp2_with (at_builtin;refine ZJ Zu 5 Tryz.QA rfl Tryz.underlying39 w.heap.size _ ([x1,x2,x3]) [x4,x5,x6] _ (HO.out.alloc _) R4.out Dc Sm So rfl _ _ rfl rfl rfl ?_;intro v5 w5 hown5 hgr5);have HF:=Za hown5;have HW5:=Za ((HB.out.alloc HB.out.size _).grown hgr5 So (fun q hq=>(World.ownsRow.lt HO.out q hq).1));clear hown5 hgr5 R4;go_wp2_with fail;go_roundw
   case rel=>exact⟨.inr (.inl ⟨Gn,HF.out⟩),HW5.out⟩
   case measure=>simp[intOf]
  ·have HO:=Za ho
   have hix:∀ w',(Instr.index 123 (.agg #[Z1 x4,Z1 x5,Z1 x6,Z1 x7,Z1 x8,Z1 x9,Z1 x10,Z1 x11,Z1 x12]) (.int .i64 1)).run Tryz.prog w' = .ok (.agg #[Z1 x7,Z1 x8,Z1 x9]) w':=fun _=>by kernel_rfl
   have R4:=Za (M5 (w:=wr.alloc (.cells #[Z1 x7,Z1 x8,Z1 x9] 122)) (b:=wr.heap.size) (o:=0) (x:=x7) (y:=x8) (z:=x9) (Zc (heap_alloc_new wr _) (k:=0) rfl) (Zc (heap_alloc_new wr _) (k:=1) rfl) (Zc (heap_alloc_new wr _) (k:=2) rfl));clear ho;go_wp2_with (at_builtin;refine ZJ Zu 5 Tryz.QA rfl Tryz.underlying39 w.heap.size _ ([x1,x2,x3]++[x4,x5,x6]) [x7,x8,x9] _ (HO.out.alloc _) R4.out Dc Sm So rfl _ _ rfl rfl rfl ?_;intro v5 w5 hown5 hgr5);have HF:=Za hown5;have HW5:=Za ((HB.out.alloc HB.out.size _).grown hgr5 So (fun q hq=>(World.ownsRow.lt HO.out q hq).1));clear hown5 hgr5 R4;go_wp2_with fail;go_roundw
   case rel=>exact⟨.inr (.inr (.inl ⟨Gn,HF.out⟩)),HW5.out⟩
   case measure=>simp[intOf]
  ·have HO:=Za ho
   have hix:∀ w',(Instr.index 123 (.agg #[Z1 x4,Z1 x5,Z1 x6,Z1 x7,Z1 x8,Z1 x9,Z1 x10,Z1 x11,Z1 x12]) (.int .i64 2)).run Tryz.prog w' = .ok (.agg #[Z1 x10,Z1 x11,Z1 x12]) w':=fun _=>by kernel_rfl
   have R4:=Za (M5 (w:=wr.alloc (.cells #[Z1 x10,Z1 x11,Z1 x12] 122)) (b:=wr.heap.size) (o:=0) (x:=x10) (y:=x11) (z:=x12) (Zc (heap_alloc_new wr _) (k:=0) rfl) (Zc (heap_alloc_new wr _) (k:=1) rfl) (Zc (heap_alloc_new wr _) (k:=2) rfl));clear ho;go_wp2_with (at_builtin;refine ZJ Zu 5 Tryz.QA rfl Tryz.underlying39 w.heap.size _ ([x1,x2,x3]++[x4,x5,x6]++[x7,x8,x9]) [x10,x11,x12] _ (HO.out.alloc _) R4.out Dc Sm So rfl _ _ rfl rfl rfl ?_;intro v5 w5 hown5 hgr5);have HF:=Za hown5;have HW5:=Za ((HB.out.alloc HB.out.size _).grown hgr5 So (fun q hq=>(World.ownsRow.lt HO.out q hq).1));clear hown5 hgr5 R4;go_wp2_with fail;go_roundw
   case rel=>exact⟨.inr (.inr (.inr ⟨Gn,HF.out⟩)),HW5.out⟩
   case measure=>simp[intOf]
  ·have HO:=Za ho
   have f1:=(HB.out.cell (p:=⟨b,1,none⟩) bl).trans D1.out;have f2:=(HB.out.cell (p:=⟨b,2,none⟩) bl).trans D2.out;have f3:=(HB.out.cell (p:=⟨b,3,none⟩) bl).trans D3.out;have f4:=(HB.out.cell (p:=⟨b,4,none⟩) bl).trans D4.out;have f5:=(HB.out.cell (p:=⟨b,5,none⟩) bl).trans D5.out;have f6:=(HB.out.cell (p:=⟨b,6,none⟩) bl).trans D6.out;have f7:=(HB.out.cell (p:=⟨b,7,none⟩) bl).trans D7.out;have f8:=(HB.out.cell (p:=⟨b,8,none⟩) bl).trans D8.out;have f9:=(HB.out.cell (p:=⟨b,9,none⟩) bl).trans D9.out;have f10:=(HB.out.cell (p:=⟨b,10,none⟩) bl).trans D10.out;have f11:=(HB.out.cell (p:=⟨b,11,none⟩) bl).trans D11.out;have f12:=(HB.out.cell (p:=⟨b,12,none⟩) bl).trans D12.out;have f13:=(HB.out.cell (p:=⟨b,13,none⟩) bl).trans D13.out;have f14:=(HB.out.cell (p:=⟨b,14,none⟩) bl).trans D14.out;have f15:=(HB.out.cell (p:=⟨b,15,none⟩) bl).trans D15.out
   have fl:=Nat.lt_of_lt_of_le bl hbs;have R5:=Za (M5 f13 f14 f15);clear ho;go_wp2_with (at_builtin;refine ZJ Zu 5 Tryz.QA rfl Tryz.underlying39 w.heap.size _ ([x1,x2,x3]++[x4,x5,x6]++[x7,x8,x9]++[x10,x11,x12]) [x13,x14,x15] _ HO.out R5.out Dc Sm hbs rfl _ _ rfl rfl rfl ?_;intro v5 w5 hown5 hgr5;obtain⟨g,cap,rfl⟩:=QU hown5 Sm;have HW5:=Za (HB.out.grown hgr5 hbs (fun q hq=>(World.ownsRow.lt HO.out q hq).1));have kc:=LK hown5;clear hgr5 hown5;generalize ([x1,x2,x3]++[x4,x5,x6]++[x7,x8,x9]++[x10,x11,x12]++[x13,x14,x15]).length=n at *);go_ret;exact⟨rfl,HW5.out⟩
theorem EP (b:Nat) (pv:Value) (s:Sq) (w:World) (hx:ZD w b pv s) :
 Calls Tryz.prog 199 #[.pointer (some ⟨b,0,none⟩)] w fun e w'=>e = .returned (.string (strOfNums (IY s)))∧Below w.heap.size w w':=by
 obtain⟨d1,d2,d3,d4,d5,d6,d7,d8,d9,d10,d11,d12,d13,d14,d15⟩:=hx.EF;exact MW b _ _ _ _ _ _ _ _ _ _ _ _ _ _ _ w hx.lt d1 d2 d3 d4 d5 d6 d7 d8 d9 d10 d11 d12 d13 d14 d15
end Go.Proofs.YtngekjpklkjnbaaGreat