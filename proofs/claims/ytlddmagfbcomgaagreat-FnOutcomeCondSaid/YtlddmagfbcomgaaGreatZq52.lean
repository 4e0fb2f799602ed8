/-
  The reference's l11Read: whether a register of a thread is read into. Condition: a bound on the length.
-/
import Derived.Test.YtlddmagfbcomgaaGreatZq00
import Derived.Test.YtlddmagfbcomgaaGreatZq05
import Derived.Test.YtlddmagfbcomgaaGreatZq02
import Derived.Test.YtlddmagfbcomgaaGreatZq06
set_option maxHeartbeats 6400000
set_option maxRecDepth 100000
namespace Go.Proofs.YtlddmagfbcomgaaGreat
def readsR (r:List Ins) (g:Int):Bool:=r.any fun x=>isRop x.op&&x.reg==g
def writesP (p:List (List Ins)) (l:Int):Bool:=p.any fun row=>row.any fun x=>isWop x.op&&x.loc==l
def leafR (t g:Nat) (x:Int):Cs:=⟨1,t,g,x,⟨none,0,0⟩⟩
def leafM (l:Nat) (x:Int):Cs:=⟨2,0,l,x,⟨none,0,0⟩⟩
def sayR (t:Nat) (r:List Ins) (o:List Int) (k:Nat):List Cs:=(List.range k).flatMap fun (g:Nat)=>if readsR r (g:Int)=true then [leafR t g ((o[3 * t+g]?).getD 0)] else []
def sayTo (p:List (List Ins)) (o:List Int) (j:Nat):List Cs:=(List.range j).flatMap fun t=>match p[t]? with
 | some r=>sayR t r o 3
 | none=>[]
def sayM (p:List (List Ins)) (o:List Int) (k:Nat):List Cs:=(List.range k).flatMap fun (l:Nat)=>if writesP p (l:Int)=true then [leafM l ((o[3 * p.length+l]?).getD 0)] else []
def saidL (p:List (List Ins)) (o:List Int):List Cs:=sayTo p o p.length++sayM p o 3
theorem sayR_succ (t:Nat) (r:List Ins) {o:List Int} (k:Nat) {x:Int} (h:o[3 * t+k]? = some x):sayR t r o (k+1)=sayR t r o k++if readsR r k=true then [leafR t k x] else []:=by
 unfold sayR
 rw [List.range_succ,List.flatMap_append]
 simp [h]
theorem sayM_succ (p:List (List Ins)) {o:List Int} (k:Nat) {x:Int} (h:o[3 * p.length+k]? = some x):sayM p o (k+1)=sayM p o k++if writesP p k=true then [leafM k x] else []:=by
 unfold sayM
 rw [List.range_succ,List.flatMap_append]
 simp [h]
theorem sayTo_succ {p:List (List Ins)} (o:List Int) {j:Nat} {r:List Ins} (h:p[j]? = some r):sayTo p o (j+1)=sayTo p o j++sayR j r o 3:=by
 unfold sayTo
 rw [List.range_succ,List.flatMap_append]
 simp [h]
theorem say_if {α:Type} (b:Bool) (x:α):(if b=true then [x] else []).length≤1:=by split <;> simp
theorem sayR_length (t:Nat) (r:List Ins) (o:List Int) (k:Nat):(sayR t r o k).length≤k:=by
 induction k with
 | zero=>simp [sayR]
 | succ k ih =>
  unfold sayR at ih ⊢
  rw [List.range_succ,List.flatMap_append,List.length_append]
  simp only [List.flatMap_cons,List.flatMap_nil,List.append_nil]
  have:=say_if (readsR r k) (leafR t k ((o[3 * t+k]?).getD 0))
  omega
theorem sayM_length (p:List (List Ins)) (o:List Int) (k:Nat):(sayM p o k).length≤k:=by
 induction k with
 | zero=>simp [sayM]
 | succ k ih =>
  unfold sayM at ih ⊢
  rw [List.range_succ,List.flatMap_append,List.length_append]
  simp only [List.flatMap_cons,List.flatMap_nil,List.append_nil]
  have:=say_if (writesP p k) (leafM k ((o[3 * p.length+k]?).getD 0))
  omega
theorem sayTo_length (p:List (List Ins)) (o:List Int) (j:Nat):(sayTo p o j).length≤3 * j:=by
 induction j with
 | zero=>simp [sayTo]
 | succ j ih =>
  unfold sayTo at ih ⊢
  rw [List.range_succ,List.flatMap_append,List.length_append]
  simp only [List.flatMap_cons,List.flatMap_nil,List.append_nil]
  cases h:p[j]? with
  | none=>simp only [List.length_nil];omega
  | some r=>have:=sayR_length j r o 3;simp only;omega
theorem mem_sayR {t:Nat} {r:List Ins} {o:List Int} {k:Nat} {u:Cs} (h:u∈sayR t r o k):u.s=⟨none,0,0⟩:=by
 unfold sayR at h
 rw [List.mem_flatMap] at h
 obtain ⟨g, -,h⟩:=h
 split at h
 ·simp at h;rw [h];rfl
 ·simp at h
theorem mem_said {p:List (List Ins)} {o:List Int} {u:Cs} (h:u∈saidL p o):u.s=⟨none,0,0⟩:=by
 unfold saidL at h
 rcases List.mem_append.1 h with h | h
 ·unfold sayTo at h
  rw [List.mem_flatMap] at h
  obtain ⟨t, -,h⟩:=h
  cases hr:p[t]? with
  | none=>rw [hr] at h;simp at h
  | some r=>rw [hr] at h;exact mem_sayR h
 ·unfold sayM at h
  rw [List.mem_flatMap] at h
  obtain ⟨l, -,h⟩:=h
  split at h
  ·simp at h;rw [h];rfl
  ·simp at h
theorem saidL_length (p:List (List Ins)) (o:List Int):(saidL p o).length≤3 * p.length+3:=by
 unfold saidL
 rw [List.length_append]
 have:=sayTo_length p o p.length
 have:=sayM_length p o 3
 omega
end Go.Proofs.YtlddmagfbcomgaaGreat
namespace Go.Proofs.YtlddmagfbcomgaaGreat
def dW (b:Nat):Nat→Nat
 | 0=>1
 | r+1=>1+b * dW b r
def cW (b:Nat):Nat→Nat
 | 0=>0
 | r+1=>dW b r
theorem dW_eq (b r:Nat):dW b r=1+b * cW b r:=by cases r <;> simp [dW,cW]
theorem dW_pos (b r:Nat):1≤dW b r:=by rw [dW_eq];omega
theorem dW_step (b:Nat) (hb:0 < b) (r:Nat):dW b r≤dW b (r+1):=by
 have h:dW b r * 1≤dW b r * b:=Nat.mul_le_mul_left _ hb
 rw [show dW b (r+1)=1+b * dW b r from rfl,Nat.mul_comm b]
 omega
theorem dW_mono {b:Nat} (hb:0 < b) {r r':Nat} (h:r≤r'):dW b r≤dW b r':=by
 induction h with
 | refl=>exact Nat.le_refl _
 | step _ ih=>exact Nat.le_trans ih (dW_step b hb _)
theorem dW_less {b:Nat} (hb:0 < b) {r r':Nat} (h:r < r'):dW b r≤cW b r':=by
 cases r' with
 | zero=>omega
 | succ r'=>exact dW_mono hb (Nat.le_of_lt_succ h)
section
variable {S : Type} (b : Nat) (rank : S → Nat)
def phi (l:List S):Nat:=(l.map fun s=>dW b (rank s)).sum
theorem phi_append (l l':List S):phi b rank (l++l')=phi b rank l+phi b rank l':=by simp [phi,List.sum_append]
theorem phi_one (s:S):phi b rank [s]=dW b (rank s):=by simp [phi]
theorem phi_len (l:List S):l.length≤phi b rank l:=by
 induction l with
 | nil=>simp
 | cons s l ih =>
  have:=dW_pos b (rank s)
  simp only [phi,List.map_cons,List.sum_cons,List.length_cons] at ih ⊢
  omega
end
section
variable {S K : Type} {start : S} {next : S → Nat → Option S} {key : S → K} (done : S → Bool) (out : S → List Int) (n b : Nat) (rank : S → Nat) (tot : Nat)
structure Srch (start:S) (next:S→Nat→Option S) (work seen taken:List S) (outs:List (List Int)):Prop where
 all:SAll done out n start next work seen taken outs
 num:seen.length=taken.length+work.length
 le:taken.length+phi b rank work≤tot
structure SrchM (start:S) (next:S→Nat→Option S) (m:Nat) (s:S) (k:Nat) (work seen taken:List S) (outs:List (List Int)):Prop where
 mid:SMid start next s k work seen
 o:OInv done out n taken outs
 t1:∀ u∈seen,u∈work∨u∈taken
 t2:∀ u∈taken,u∈seen
 num:seen.length=taken.length+work.length
 le:taken.length+phi b rank work+(b - k) * cW b (rank s)≤tot
 fall:phi b rank work+(b - k) * cW b (rank s)+1≤m
variable {done out n b rank tot}
theorem Srch.init (hb:dW b (rank start)≤tot):Srch done out n b rank tot start next [start] [start] [] []:=
 ⟨⟨.init, .nil,fun s h => .inl h,fun s h=>by simp at h⟩,by simp,by rw [phi_one];simpa using hb⟩
theorem Srch.len {work seen taken:List S} {outs:List (List Int)} (h:Srch done out n b rank tot start next work seen taken outs):seen.length≤tot:=by
 have h1:=phi_len b rank work
 have h2:=h.le
 rw [h.num];omega
theorem SrchM.len {m:Nat} {s:S} {k:Nat} {work seen taken:List S} {outs:List (List Int)} (h:SrchM done out n b rank tot start next m s k work seen taken outs):seen.length≤tot:=by
 have h1:=phi_len b rank work
 have h2:=h.le
 rw [h.num];omega
theorem Srch.rc {work seen taken:List S} {outs:List (List Int)} (h:Srch done out n b rank tot start next work seen taken outs) {s:S} (hs:s∈work):ReachM start next s:=h.all.inv.rc s (h.all.inv.sub s hs)
theorem Srch.enter {work seen taken:List S} {s:S} {outs outs':List (List Int)} (h:Srch done out n b rank tot start next (work++[s]) seen taken outs) (ho:OInv done out n (s :: taken) outs'):SrchM done out n b rank tot start next (phi b rank (work++[s])) s 0 work seen (s :: taken) outs':=by
 have h1:=h.le
 rw [phi_append,phi_one,dW_eq] at h1
 have h2:=h.num
 simp only [List.length_append,List.length_singleton] at h2
 have hw:∀ u,u∈work++[s]↔u=s∨u∈work:=fun u=>by simp [or_comm]
 refine ⟨h.all.inv.enter hw,ho,fun u hu => ?_,fun u hu => ?_,by simp only [List.length_cons];omega,by simp only [List.length_cons,Nat.sub_zero];omega,by rw [phi_append,phi_one,dW_eq,Nat.sub_zero];omega⟩
 ·rcases h.all.t1 u hu with e | e
  ·rcases (hw u).1 e with e | e
   ·exact .inr (by simp [e])
   ·exact .inl e
  ·exact .inr (by simp [e])
 ·rcases List.mem_cons.1 hu with e | e
  ·rw [e];exact h.all.inv.sub s (by simp)
  ·exact h.all.t2 u e
theorem Srch.yes {work seen taken:List S} {s:S} {outs:List (List Int)} (h:Srch done out n b rank tot start next (work++[s]) seen taken outs) (hd:done s=true) (hl:(out s).length=n):SrchM done out n b rank tot start next (phi b rank (work++[s])) s 0 work seen (s :: taken) (putO (out s) outs):=h.enter (h.all.o.yes hd hl)
theorem Srch.no {work seen taken:List S} {s:S} {outs:List (List Int)} (h:Srch done out n b rank tot start next (work++[s]) seen taken outs) (hd:done s=false):SrchM done out n b rank tot start next (phi b rank (work++[s])) s 0 work seen (s :: taken) outs:=h.enter (h.all.o.no hd)
theorem SrchM.skip {m:Nat} {s:S} {k:Nat} {work seen taken:List S} {outs:List (List Int)} (h:SrchM done out n b rank tot start next m s k work seen taken outs) (hn:next s k=none):SrchM done out n b rank tot start next m s (k+1) work seen taken outs:=
 ⟨h.mid.skip hn,h.o,h.t1,h.t2,h.num,by
  have h1:=h.le
  have h2:(b - (k+1)) * cW b (rank s)≤(b - k) * cW b (rank s):=Nat.mul_le_mul_right _ (by omega)
  omega,by
  have h1:=h.fall
  have h2:(b - (k+1)) * cW b (rank s)≤(b - k) * cW b (rank s):=Nat.mul_le_mul_right _ (by omega)
  omega⟩
theorem SrchM.old {m:Nat} {s t:S} {k:Nat} {work seen taken:List S} {outs:List (List Int)} (h:SrchM done out n b rank tot start next m s k work seen taken outs) (hn:next s k=some t) (hk:key t∈seen.map key)
 (hi:∀ a b,ReachM start next a→ReachM start next b→key a=key b→a=b):SrchM done out n b rank tot start next m s (k+1) work seen taken outs:=by
 obtain ⟨u,hu,he⟩:=List.mem_map.1 hk
 exact ⟨h.mid.old (key:=key) hn hu he hi,h.o,h.t1,h.t2,h.num,by
  have h1:=h.le
  have h2:(b - (k+1)) * cW b (rank s)≤(b - k) * cW b (rank s):=Nat.mul_le_mul_right _ (by omega)
  omega,by
  have h1:=h.fall
  have h2:(b - (k+1)) * cW b (rank s)≤(b - k) * cW b (rank s):=Nat.mul_le_mul_right _ (by omega)
  omega⟩
theorem SrchM.new {m:Nat} {s t:S} {k:Nat} {work seen taken:List S} {outs:List (List Int)} (h:SrchM done out n b rank tot start next m s k work seen taken outs) (hn:next s k=some t) (hkb:k < b) (hr:rank t < rank s):SrchM done out n b rank tot start next m s (k+1) (work++[t]) (seen++[t]) taken outs:=by
 have h1:=h.le
 have h5:=h.fall
 have h2:dW b (rank t)≤cW b (rank s):=dW_less (by omega) hr
 have h3:(b - k) * cW b (rank s)=(b - (k+1)) * cW b (rank s)+cW b (rank s):=by
  rw [show b - k=(b - (k+1))+1 by omega,Nat.add_mul,Nat.one_mul]
 have h4:=h.num
 refine ⟨h.mid.new hn (fun u=>by simp [or_comm]) (fun u=>by simp [or_comm]),h.o,fun u hu => ?_,fun u hu=>by simp [h.t2 u hu],by simp only [List.length_append,List.length_singleton];omega,by rw [phi_append,phi_one];omega,by rw [phi_append,phi_one];omega⟩
 rcases List.mem_append.1 hu with e | e
 ·rcases h.t1 u e with e | e
  ·exact .inl (by simp [e])
  ·exact .inr e
 ·exact .inl (by simp at e;simp [e])
theorem SrchM.leave {m:Nat} {s:S} {k:Nat} {work seen taken:List S} {outs:List (List Int)} (h:SrchM done out n b rank tot start next m s k work seen taken outs) (hk:∀ i t,next s i=some t→i < k):Srch done out n b rank tot start next work seen taken outs:=
 ⟨⟨h.mid.leave hk,h.o,h.t1,h.t2⟩,h.num,by have:=h.le;omega⟩
theorem SrchM.phi_lt {m:Nat} {s:S} {k:Nat} {work seen taken:List S} {outs:List (List Int)} (h:SrchM done out n b rank tot start next m s k work seen taken outs):phi b rank work < m:=by
 have:=h.fall
 omega
end
end Go.Proofs.YtlddmagfbcomgaaGreat
namespace Go.Proofs.YtlddmagfbcomgaaGreat
open Go.RowKit
theorem l11Read_any (v:Value) (xs:List Ins) (r:Int) (w:World) (hx:Rep InsE w v xs) :
 Calls Tryz.prog 75 #[v, .int .i64 r] w fun e w'=>e = .returned (.bool (readsR xs r))∧Below w.heap.size w w':=by
 obtain ⟨a,c,rfl,hc1,hc2,hc3,hx⟩:=hx.open
 have HX:=hide hx;clear hx
 have HR:Hid (readsR xs r=xs.any fun x=>isRop x.op&&x.reg==r):=hide rfl
 generalize readsR xs r=R at *
 generalize hn:xs.length=n at *
 have H:=hide hn;clear hn
 go_enter Tryz.func75,Tryz.ntmps75
 go_wp2_with fail
 go_loopw [5] (fun i wr => ∃ t:Nat,t≤n∧i = .int .i64 t∧Hid (∀ x∈xs.take t,(isRop x.op&&x.reg==r)=false)∧Below w.heap.size w wr) (fun i _=>n - (intOf i).toNat)
 case atStart=>exact ⟨0,Nat.zero_le _,rfl,hide (by simp),Below.refl _ _⟩
 case round =>
  obtain ⟨t,ht,rfl,hno,hb⟩:=hrel
  by_cases hlt:t < n
  ·obtain ⟨x,hxk⟩:=get_of_lt (xs:=xs) (k:=t) (by rw [H.out];exact hlt)
   obtain ⟨b,o,rfl,hbl,i0,i1,i2,i3⟩:=(HX.out.below hb).ins hxk
   have hlt':=nat_of_lt hlt
   have HC:=hide (fun w'=>l1Reads_raw x.op x.loc x.reg x.val w')
   have X:=hide hxk;clear hxk
   have EX:Hid ((isRop x.op&&x.reg==r)=(isRop x.op&&x.reg==r)):=hide rfl
   cases hrop:isRop x.op
   ·have NO:Hid (∀ y∈xs.take (t+1),(isRop y.op&&y.reg==r)=false):=hide (none_succ (f:=fun y=>isRop y.op&&y.reg==r) hno.out X.out (by simp [hrop]))
    rw [hrop] at HC
    clear hrop
    go_wp2_with fail
    (with_reducible refine (HC.out _).mono ?_);rintro e w2 ⟨rfl,hb2⟩
    go_wp2_with fail
    go_roundw
    case rel=>exact ⟨t+1,by omega,by go_num,NO,hb.trans (hb2.mono hb.size)⟩
    case measure=>simp [intOf];omega
   ·rw [hrop] at HC
    by_cases hreg:x.reg=r
    ·have ER:Hid (R=true):=hide (by rw [HR.out];exact List.any_eq_true.2 ⟨x,List.mem_of_getElem? X.out,by simp [hrop,hreg]⟩)
     have k1:(x.reg==r)=true:=by simp [hreg]
     clear hrop hreg
     go_wp2_with fail
     (with_reducible refine (HC.out _).mono ?_);rintro e w2 ⟨rfl,hb2⟩
     have j2:=(hb2.cell (p:=⟨b,o+t * 4+2,none⟩) hbl).trans i2
     have hb3:b < w2.heap.size:=Nat.lt_of_lt_of_le hbl hb2.size
     go_wp2_with fail
     go_ret
     rw [ER.out]
     exact ⟨rfl,hb.trans (hb2.mono hb.size)⟩
    ·have NO:Hid (∀ y∈xs.take (t+1),(isRop y.op&&y.reg==r)=false):=hide (none_succ (f:=fun y=>isRop y.op&&y.reg==r) hno.out X.out (by simp [hreg]))
     have k1:(x.reg==r)=false:=by simp [hreg]
     clear hrop hreg
     go_wp2_with fail
     (with_reducible refine (HC.out _).mono ?_);rintro e w2 ⟨rfl,hb2⟩
     have j2:=(hb2.cell (p:=⟨b,o+t * 4+2,none⟩) hbl).trans i2
     have hb3:b < w2.heap.size:=Nat.lt_of_lt_of_le hbl hb2.size
     go_wp2_with fail
     go_roundw
     case rel=>exact ⟨t+1,by omega,by go_num,NO,hb.trans (hb2.mono hb.size)⟩
     case measure=>simp [intOf];omega
  ·have ER:Hid (R=false):=hide (by
    rw [HR.out,List.any_eq_false]
    intro x hx
    have h:=hno.out x (by rw [List.take_of_length_le (by rw [H.out];omega)];exact hx)
    rw [h];simp)
   go_wp2_with fail
   go_ret
   rw [ER.out]
   exact ⟨rfl,hb⟩
end Go.Proofs.YtlddmagfbcomgaaGreat