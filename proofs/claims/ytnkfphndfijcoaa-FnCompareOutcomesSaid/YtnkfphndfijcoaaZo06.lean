/-
  One memory as a kind of machines, put together. Condition: a valid program.
-/
import Derived.Test.YtnkfphndfijcoaaZo02
import Derived.Test.YtnkfphndfijcoaaZo03
import Derived.Deep.LoopGhost
import Derived.Test.YtnkfphndfijcoaaZo00
import Derived.Laws.BytesArg
set_option maxHeartbeats 6400000
set_option maxRecDepth 100000
namespace Go.Proofs.Ytnkfphndfijcoaa
open Go.RowKit
structure KpU (L:List TypeId) (B:Nat) (w w':World):Prop where
 os:w'.os=w.os
 tape:w'.tape=w.tape
 output:w'.output=w.output
 size:w.heap.size≤w'.heap.size
 low:∀ k ob,w.heap[k]? = some ob→k < B→w'.heap[k]? = some ob
 block:∀ (k:Nat) (a:Array Value) (T:TypeId) (fz:Nat × Nat),w.heap[k]? = some (Obj.cells a T fz)→T∉L→w'.heap[k]? = some (Obj.cells a T fz)
structure LocU (L:List TypeId) (B:Nat) (w:World) (φ:World→Prop):Prop where
 now:φ w
 keep:∀ w',KpU L B w w'→φ w'
abbrev mcV (T b:Nat):Value:=.iface T (.pointer (some ⟨b,0,none⟩))
structure MK (L:List TypeId) (B:Nat) (S:Type) where
 T:Nat
 raw:World→Nat→S→Prop
 done:S→Bool
 out:S→List Int
 mv:S→List Nat
 af:S→Nat→S
 key:S→ByteArray
 fD:FuncId
 fO:FuncId
 fM:FuncId
 fA:FuncId
 fK:FuncId
 mD : ∀ b w, (method (Try.prog.types.size + Made.depth) T (.pointer (some ⟨b, 0, none⟩)) "loop.example/weakmemory/impl.done").run Try.prog w = .ok (fD, .pointer (some ⟨b, 0, none⟩)) w
 mO : ∀ b w, (method (Try.prog.types.size + Made.depth) T (.pointer (some ⟨b, 0, none⟩)) "loop.example/weakmemory/impl.outcome").run Try.prog w = .ok (fO, .pointer (some ⟨b, 0, none⟩)) w
 mM : ∀ b w, (method (Try.prog.types.size + Made.depth) T (.pointer (some ⟨b, 0, none⟩)) "loop.example/weakmemory/impl.moves").run Try.prog w = .ok (fM, .pointer (some ⟨b, 0, none⟩)) w
 mA : ∀ b w, (method (Try.prog.types.size + Made.depth) T (.pointer (some ⟨b, 0, none⟩)) "loop.example/weakmemory/impl.after").run Try.prog w = .ok (fA, .pointer (some ⟨b, 0, none⟩)) w
 mK : ∀ b w, (method (Try.prog.types.size + Made.depth) T (.pointer (some ⟨b, 0, none⟩)) "loop.example/weakmemory/impl.key").run Try.prog w = .ok (fK, .pointer (some ⟨b, 0, none⟩)) w
 cD:∀ args w,(callFunc fD args).run Try.prog w = .ok (.enter fD args) w
 cO:∀ args w,(callFunc fO args).run Try.prog w = .ok (.enter fO args) w
 cM:∀ args w,(callFunc fM args).run Try.prog w = .ok (.enter fM args) w
 cA:∀ args w,(callFunc fA args).run Try.prog w = .ok (.enter fA args) w
 cK:∀ args w,(callFunc fK args).run Try.prog w = .ok (.enter fK args) w
 hD:∀ w b s,raw w b s→Calls Try.prog fD #[.pointer (some ⟨b,0,none⟩)] w fun e w'=>e = .returned (.bool (done s))∧Below w.heap.size w w'
 hO:∀ w b s,raw w b s→Calls Try.prog fO #[.pointer (some ⟨b,0,none⟩)] w (RetOwn IntE 3 w (out s))
 hM:∀ w b s,raw w b s→Calls Try.prog fM #[.pointer (some ⟨b,0,none⟩)] w (RetOwn IntE 3 w ((mv s).map fun (m:Nat)=>(m:Int)))
 hK:∀ w b s,raw w b s→Calls Try.prog fK #[.pointer (some ⟨b,0,none⟩)] w fun e w'=>e = .returned (.string (key s))∧Below w.heap.size w w'
 hA:∀ w b s m,B≤w.heap.size→LocU L B w (fun W=>raw W b s)→m∈mv s→Calls Try.prog fA #[.pointer (some ⟨b,0,none⟩),.int .i64 (m:Int)] w fun e w' => ∃ b',e = .returned (mcV T b')∧LocU L B w' (fun W=>raw W b' (af s m))∧Below w.heap.size w w'
section
variable {L : List TypeId} {B : Nat} {S : Type} {K : MK L B S}
end
end Go.Proofs.Ytnkfphndfijcoaa
namespace Go.Proofs.Ytnkfphndfijcoaa
open Go.RowKit
section
theorem mem_map_pop {S Q:Type}(f:S→Q) {s:S}{k:Q}{init taken:List S}:k∈(taken++(init++[s])).map f↔k∈((s :: taken)++(init++[])).map f:=by
 rw[List.mem_map,List.mem_map];exact⟨fun ⟨u,h1,h2⟩=>⟨u,mem_pop.1 h1,h2⟩,fun ⟨u,h1,h2⟩=>⟨u,mem_pop.2 h1,h2⟩⟩
end
end Go.Proofs.Ytnkfphndfijcoaa
namespace Go.Proofs.Ytnkfphndfijcoaa
open Go.RowKit
end Go.Proofs.Ytnkfphndfijcoaa
namespace Go.Proofs.Ytnkfphndfijcoaa
open Go.RowKit
end Go.Proofs.Ytnkfphndfijcoaa
namespace Go.Proofs.Ytnkfphndfijcoaa
open Go.RowKit
end Go.Proofs.Ytnkfphndfijcoaa
namespace Go.Proofs.Ytnkfphndfijcoaa
open Go.RowKit
end Go.Proofs.Ytnkfphndfijcoaa
namespace Go.Proofs.Ytnkfphndfijcoaa
open Go.RowKit
def sqIns (p:List (List Ins)) (s:Sq) (t:Nat):Option Ins:=(p[t]?).bind fun r=>(s.pc[t]?).bind fun k=>r[k.toNat]?
end Go.Proofs.Ytnkfphndfijcoaa
namespace Go.Proofs.Ytnkfphndfijcoaa
open Go.RowKit
end Go.Proofs.Ytnkfphndfijcoaa
namespace Go.Proofs.Ytnkfphndfijcoaa
open Go.RowKit
abbrev sqB (s:Sq):List Int:=[s.pc.getD 0 0,s.pc.getD 1 0,s.pc.getD 2 0]++[s.rg.getD 0 0,s.rg.getD 1 0,s.rg.getD 2 0]++[s.rg.getD 3 0,s.rg.getD 4 0,s.rg.getD 5 0]++[s.rg.getD 6 0,s.rg.getD 7 0,s.rg.getD 8 0]++[s.mm.getD 0 0,s.mm.getD 1 0,s.mm.getD 2 0]
theorem ext_getD {l l':List Int}{n:Nat}(h:l.length=l'.length) (hn:l.length≤n) (e:∀ i < n,l.getD i 0=l'.getD i 0):l=l':=by
 apply List.ext_getElem h;intro i h1 h2;have:=e i (by omega);simpa[List.getD_eq_getElem?_getD,h1,h2] using this
theorem sqB_inj {p:List (List Ins)}{s s':Sq}(h:SqOk p s) (h':SqOk p s') (hp:p.length≤3) (e:sqB s=sqB s'):s=s':=by
 simp only[sqB,List.cons_append,List.nil_append,List.cons.injEq]at e;obtain⟨p0,p1,p2,r0,r1,r2,r3,r4,r5,r6,r7,r8,m0,m1,m2,-⟩:=e;have e1:s.pc=s'.pc:=ext_getD (n:=3) (by rw[h.lp,h'.lp]) (by rw[h.lp];exact hp) fun i hi=>by
  have:i=0∨i=1∨i=2:=by omega
  rcases this with rfl | rfl | rfl <;> assumption
 have e2:s.rg=s'.rg:=ext_getD (n:=9) (by rw[h.lr,h'.lr]) (by rw[h.lr];omega) fun i hi=>by
  have:i=0∨i=1∨i=2∨i=3∨i=4∨i=5∨i=6∨i=7∨i=8:=by omega
  rcases this with rfl | rfl | rfl | rfl | rfl | rfl | rfl | rfl | rfl <;> assumption
 have e3:s.mm=s'.mm:=ext_getD (n:=3) (by rw[h.lm,h'.lm]) (by rw[h.lm];exact Nat.le_refl _) fun i hi=>by
  have:i=0∨i=1∨i=2:=by omega
  rcases this with rfl | rfl | rfl <;> assumption
 cases s;cases s';simp only[Sq.mk.injEq];exact⟨e1,e2,e3⟩
end Go.Proofs.Ytnkfphndfijcoaa
namespace Go.Proofs.Ytnkfphndfijcoaa
open Go.RowKit
end Go.Proofs.Ytnkfphndfijcoaa
namespace Go.Proofs.Ytnkfphndfijcoaa
open Go.RowKit
end Go.Proofs.Ytnkfphndfijcoaa
namespace Go.Proofs.Ytnkfphndfijcoaa
open Go.RowKit
theorem nodup_ltI:∀ (N:Nat) (l:List Nat),l.Nodup→(∀ x∈l,x < N)→l.length≤N:=by
 intro N
 induction N with
 | zero =>
  intro l _ h;cases l with
  | nil=>simp
  | cons x l=>exact absurd (h x (by simp)) (Nat.not_lt_zero _)
 | succ N ih =>
  intro l hn h;by_cases hm:N∈l
  ·have h1:=ih (l.erase N) (hn.erase N) fun x hx=>by
    have h2:=(hn.mem_erase_iff).1 hx;have:=h x h2.2;have:=h2.1;omega
   rw[List.length_erase_of_mem hm]at h1;have:=List.length_pos_of_mem hm;omega
  ·have h1:=ih l hn fun x hx=>by
    have:=h x hx;have:x≠N:=fun e=>hm (e ▸ hx);omega
   omega
theorem encR_inj {a b:List Int}(hl:a.length=b.length) (ha:∀ x∈a,0≤x∧x≤3) (hb:∀ x∈b,0≤x∧x≤3) (e:encR a=encR b):a=b:=by
 rcases lexO_three a b with h | h | h
 ·have:=encR_lex hl ha hb h;omega
 ·exact(lexO_eq hl).1 h
 ·have h2:=lexO_swap a b
  have:=encR_lex hl.symm hb ha (by omega);omega
theorem done_few {S:Type}{out:S→List Int}{n:Nat}{l:List S}(hn:l.Nodup) (ho:∀ s∈l,(out s).length=n∧∀ x∈out s,0≤x∧x≤3) (hi:∀ a∈l,∀ b∈l,out a=out b→a=b):l.length≤4 ^ n:=by
 have h1:(l.map fun s=>encR (out s)).Nodup:=by
  unfold List.Nodup;rw[List.pairwise_map];refine List.Pairwise.imp_of_mem ?_ hn;intro a b ha hb hab e;exact hab (hi a ha b hb (encR_inj ((ho a ha).1.trans (ho b hb).1.symm) (ho a ha).2 (ho b hb).2 e))
 have h2:=nodup_ltI (4 ^ n) _ h1 fun x hx=>by
  obtain⟨s,hs,rfl⟩:=List.mem_map.1 hx;have:=encR_lt (ho s hs).2;rw[(ho s hs).1]at this;exact this
 simpa using h2
section
variable (vp : Value) (p : List (List Ins)) (B : Nat)
end
end Go.Proofs.Ytnkfphndfijcoaa
namespace Go.Proofs.Ytnkfphndfijcoaa
open Go.RowKit
end Go.Proofs.Ytnkfphndfijcoaa