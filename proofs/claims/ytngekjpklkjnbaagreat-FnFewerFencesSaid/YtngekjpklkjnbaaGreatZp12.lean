/-
  PutFences of the reference; gaps as the laws take them. Condition: bounds on lengths.
-/
import Derived.Test.YtngekjpklkjnbaaGreatZp08
import Derived.Test.YtngekjpklkjnbaaGreatZp07
import Derived.RangeFuncNested
import Derived.RangeFuncBound
import Derived.Shelf.RegionOpen
import Derived.OwnWalkIn
import Derived.LoopNIn
import Derived.LoopIn
set_option maxHeartbeats 6400000
set_option maxRecDepth 100000
namespace Go.Proofs.YtngekjpklkjnbaaGreat
open Go.RowKit
def Qd:Ins:=⟨4,0,0,0⟩
def Xq (f:Int→Bool) (r:List Ins):Nat→List Ins
 | 0=>[]
 | n+1=>Xq f r n++((if f n=true then [Qd] else [])++r[n]?.toList)
def RZ (f:Int→Bool) (r:List Ins):List Ins:=Xq f r r.length
def Kz (f:Gp→Bool) (p:List (List Ins)):Nat→List (List Ins)
 | 0=>[]
 | j+1=>Kz f p j++(p[j]?.toList.map (RZ fun i=>f ⟨j,i⟩))
def Y1 (f:Gp→Bool) (p:List (List Ins)):List (List Ins):=Kz f p p.length
theorem XD {f:Int→Bool}{r:List Ins}{n:Nat}{x:Ins}(h:r[n]? = some x):Xq f r (n+1)=Xq f r n++(if f n=true then [Qd,x] else [x]):=by
 show Xq f r n++((if f n=true then [Qd] else [])++r[n]?.toList)=_;rw[h];by_cases e:f n=true <;> simp[e]
theorem Ab (f:Int→Bool) (r:List Ins):∀ n,n≤r.length→n≤(Xq f r n).length∧(Xq f r n).length≤2 * n:=by
 intro n
 induction n with
 | zero=>intro _;exact⟨Nat.le_refl _,Nat.le_refl _⟩
 | succ n ih =>
  intro h;obtain⟨x,hx⟩:=Zd (xs:=r) (k:=n) h;have:=ih Om;rw[XD hx];by_cases e:f n=true <;> simp[e] <;> omega
theorem VI {f:Int→Bool}{r:List Ins}:∀ n,n≤r.length→(∀ i:Nat,i < n→f i=false)→Xq f r n=r.take n:=by
 intro n
 induction n with
 | zero=>intro _ _;simp[Xq]
 | succ n ih =>
  intro h hf;obtain⟨x,hx⟩:=Zd (xs:=r) (k:=n) h;rw[XD hx,ih Om (fun i hi=>hf i Om),hf n Om,List.take_add_one,hx];rfl
theorem Ga {f g:Int→Bool}{r:List Ins}:∀ n,(∀ i:Nat,i < n→f i=g i)→Xq f r n=Xq g r n:=by
 intro n
 induction n with
 | zero=>intro _;rfl
 | succ n ih =>
  intro hf;unfold Xq;rw[ih (fun i hi=>hf i Om),hf n Om]
theorem CG {f:Int→Bool}{r:List Ins}{k:Nat}(h0:∀ i:Nat,i≤k→f i=false):∀ n,k < n→n≤r.length→Xq (fun i=>f i||i==(k:Int)) r n=(Xq f r n).take k++Qd :: (Xq f r n).drop k:=by
 intro n
 induction n with
 | zero=>intro h;omega
 | succ n ih =>
  intro hk hn;obtain⟨x,hx⟩:=Zd (xs:=r) (k:=n) hn;by_cases e:k=n
  ·subst e
   have e1:Xq (fun i=>f i||i==(k:Int)) r k=r.take k:=VI k Om (fun i hi=>by
    have h1:=h0 i Om;have h2:((i:Int)==(k:Int))=false:=by rw[beq_eq_false_iff_ne];omega
    rw[h1,h2];rfl)
   have e2:Xq f r k=r.take k:=VI k Om (fun i hi=>h0 i Om);have hl:(r.take k).length=k:=So;rw[XD hx,XD hx,e1,e2,h0 k (Nat.le_refl _)];simp only[beq_self_eq_true,Bool.or_true,if_true,Bool.false_eq_true,if_false];rw[List.take_left' hl,List.drop_left' hl]
  ·have hl:=(Ab f r n Om).1
   have hkn:((n:Int)==(k:Int))=false:=by rw[beq_eq_false_iff_ne];omega
   rw[XD hx,XD hx,ih Om Om,List.take_append_of_le_length Om,List.drop_append_of_le_length Om,hkn,Bool.or_false];simp
theorem VH {f:Gp→Bool}{p:List (List Ins)}{j:Nat}{r:List Ins}(h:p[j]? = some r):Kz f p (j+1)=Kz f p j++[RZ (fun i=>f ⟨j,i⟩) r]:=by
 show Kz f p j++(p[j]?.toList.map (RZ fun i=>f ⟨j,i⟩))=_;rw[h];rfl
theorem JY (f:Gp→Bool) (p:List (List Ins)):∀ j,j≤p.length→(Kz f p j).length=j:=by
 intro j
 induction j with
 | zero=>intro _;rfl
 | succ j ih =>
  intro h;obtain⟨r,hr⟩:=Zd (xs:=p) (k:=j) h;rw[VH hr,List.length_append,ih Om];rfl
theorem IK (f:Gp→Bool) (p:List (List Ins)):∀ j,j≤p.length→∀ k,k < j→∀ r,p[k]? = some r→(Kz f p j)[k]? = some (RZ (fun i=>f ⟨k,i⟩) r):=by
 intro j
 induction j with
 | zero=>intro _ k hk;omega
 | succ j ih =>
  intro h k hk r hr;obtain⟨r',hr'⟩:=Zd (xs:=p) (k:=j) h;have hl:=JY f p j Om;rw[VH hr'];by_cases e:k=j
  ·subst e
   rw[hr]at hr';simp at hr';subst hr';rw[List.getElem?_append_right Om,hl,Nat.sub_self];rfl
  ·rw[List.getElem?_append_left Om]
   exact ih Om k Om r hr
theorem YQ (f:Gp→Bool) (p:List (List Ins)):(Y1 f p).length=p.length:=JY f p _ (Nat.le_refl _)
theorem JK {f:Gp→Bool}{p:List (List Ins)}{k:Nat}{r:List Ins}(h:p[k]? = some r):(Y1 f p)[k]? = some (RZ (fun i=>f ⟨k,i⟩) r):=
 IK f p _ (Nat.le_refl _) k (List.getElem?_eq_some_iff.1 h).1 r h
theorem IL {f:Gp→Bool}{p:List (List Ins)}(hf:∀ g,f g=false):Y1 f p=p:=by
 apply List.ext_getElem?;intro i;by_cases h:i < p.length
 ·obtain⟨r,hr⟩:=Zd (xs:=p) (k:=i) h
  rw[JK hr,hr];unfold RZ;rw[VI _ (Nat.le_refl _) (fun _ _=>hf _),List.take_length]
 ·rw[List.getElem?_eq_none (by rw[YQ];omega),List.getElem?_eq_none Om]
theorem Aa {f g:Gp→Bool}{p:List (List Ins)}(h:∀ x,f x=g x):Y1 f p=Y1 g p:=by rw[funext h]
def Nu (a b:Gp):Prop:=a.t < b.t∨(a.t=b.t∧a.i < b.i)
theorem K5 {t:Nat}{r:List Ins}:∀ n,∀ g∈ZH t r n,g.t=(t:Int)∧∃ i:Nat,g.i=(i:Int)∧1≤i∧i < n∧JH r i=true:=by
 intro n g hg;unfold ZH at hg;simp only[List.mem_map,List.mem_filter,List.mem_range]at hg;obtain⟨i,⟨h1,h2⟩,rfl⟩:=hg;refine⟨rfl,i,rfl,?_,h1,h2⟩;unfold JH at h2;split at h2
 ·simp at h2;exact h2.1
 ·cases h2
theorem Af (t:Nat) (r:List Ins):∀ n,(ZH t r n).Pairwise Nu:=by
 intro n
 induction n with
 | zero=>rw[Kb];exact List.Pairwise.nil
 | succ n ih =>
  rw[Ka,List.pairwise_append];refine⟨ih,?_,?_⟩
  ·by_cases e:JH r n=true <;> simp[e]
  ·intro a ha b hb
   obtain⟨h1,i,h2,-,h3,-⟩:=K5 n a ha;by_cases e:JH r n=true
   ·rw[if_pos e]at hb
    simp at hb;subst hb;exact .inr ⟨h1,by rw[h2];show (i:Int) < (n:Int);omega⟩
   ·rw[if_neg e]at hb;simp at hb
theorem Rn {p:List (List Ins)}:∀ j,j≤p.length→∀ g∈Xt p j,∃ (t i:Nat) (r:List Ins),g=⟨t,i⟩∧t < j∧p[t]? = some r∧1≤i∧i < r.length∧JH r i=true:=by
 intro j
 induction j with
 | zero=>intro _ g hg;simp[Xt]at hg
 | succ j ih =>
  intro h g hg;obtain⟨r,hr⟩:=Zd (xs:=p) (k:=j) h;rw[Qt hr,List.mem_append]at hg;rcases hg with hg | hg
  ·obtain⟨t,i,r',h1,h2,h3⟩:=ih Om g hg
   exact⟨t,i,r',h1,Om,h3⟩
  ·obtain⟨h1,i,h2,h3,h4,h5⟩:=K5 _ g hg
   obtain⟨gt,gi⟩:=g;simp only at h1 h2;subst h1;subst h2;exact⟨j,i,r,rfl,Om,hr,h3,h4,h5⟩
theorem A2 (p:List (List Ins)):∀ j,j≤p.length→(Xt p j).Pairwise Nu:=by
 intro j
 induction j with
 | zero=>intro _;simp[Xt]
 | succ j ih =>
  intro h;obtain⟨r,hr⟩:=Zd (xs:=p) (k:=j) h;rw[Qt hr,List.pairwise_append];refine⟨ih Om,Af _ _ _,?_⟩;intro a ha b hb;obtain⟨t,i,r',rfl,h2,-⟩:=Rn j Om a ha;obtain⟨h3,-⟩:=K5 _ b hb;refine .inl ?_;rw[h3];show (t:Int) < (j:Int);omega
theorem AR {p:List (List Ins)}{g:Gp}(h:g∈ZF p):∃ (t i:Nat) (r:List Ins),g=⟨t,i⟩∧p[t]? = some r∧1≤i∧i < r.length∧JH r i=true:=by
 obtain⟨t,i,r,h1,-,h3⟩:=Rn _ (Nat.le_refl _) g h;exact⟨t,i,r,h1,h3⟩
def Kk (L all:List Gp) (j:Nat) (x:Gp):Bool:=decide (x∈L)&&decide (x∈all.drop j)
theorem Mz {L all:List Gp}(x:Gp):Kk L all all.length x=false:=by simp[Kk]
theorem IQ {L all:List Gp}(h:∀ g∈L,g∈all) (x:Gp):Kk L all 0 x=decide (x∈L):=by
 unfold Kk;by_cases e:x∈L
 ·simp[e,h x e]
 ·simp[e]
theorem Rg {all:List Gp}{j:Nat}{g:Gp}(hg:all[j]? = some g) (x:Gp):x∈all.drop j↔x=g∨x∈all.drop (j+1):=by
 have hj:=(List.getElem?_eq_some_iff.1 hg)
 obtain⟨h1,h2⟩:=hj;rw[List.drop_eq_getElem_cons h1,h2,List.mem_cons]
theorem IP {L all:List Gp}{j:Nat}{g:Gp}(hg:all[j]? = some g) (hL:g∉L) (x:Gp):Kk L all j x=Kk L all (j+1) x:=by
 unfold Kk;by_cases e:x=g
 ·subst e;simp[hL]
 ·simp[Rg hg,e]
theorem ED {L all:List Gp}{j:Nat}{g:Gp}(hg:all[j]? = some g) (hL:g∈L) (x:Gp):Kk L all j x=(Kk L all (j+1) x||decide (x=g)):=by
 unfold Kk;by_cases e:x=g
 ·subst e;simp[hL,Rg hg]
 ·simp[Rg hg,e]
theorem EL {all:List Gp}(hs:all.Pairwise Nu) {j:Nat}{g x:Gp}(hg:all[j]? = some g) (hx:x∈all.drop (j+1)):Nu g x:=by
 obtain⟨h1,h2⟩:=List.getElem?_eq_some_iff.1 hg;have h3:=hs.sublist (List.drop_sublist j all);rw[List.drop_eq_getElem_cons h1,h2,List.pairwise_cons]at h3;exact h3.1 x hx
theorem IN {p:List (List Ins)}{L:List Gp}{j t i:Nat}{r:List Ins}(hg:(ZF p)[j]? = some ⟨t,i⟩) (hL:(⟨t,i⟩:Gp)∈L) (hr:p[t]? = some r) (hi:i < r.length) :
 (Y1 (Kk L (ZF p) (j+1)) p).set t ((RZ (fun k=>Kk L (ZF p) (j+1) ⟨t,k⟩) r).take i++Qd :: (RZ (fun k=>Kk L (ZF p) (j+1) ⟨t,k⟩) r).drop i)=Y1 (Kk L (ZF p) j) p:=by
 have hsort:=A2 p _ (Nat.le_refl _);apply List.ext_getElem?;intro k;rw[List.getElem?_set];by_cases e:t=k
 ·subst e
  rw[if_pos rfl,if_pos (by rw[YQ];exact(List.getElem?_eq_some_iff.1 hr).1),JK hr]
  congr 1
  unfold RZ;rw[← CG (k:=i) (fun q hq => ?_) _ hi (Nat.le_refl _)]
  ·refine Ga _ (fun q _ => ?_)
   rw[ED hg hL]
   congr 1
   rw[Bool.eq_iff_iff];simp
  ·unfold Kk
   by_cases hm:(⟨t,q⟩:Gp)∈(ZF p).drop (j+1)
   ·rcases EL hsort hg hm with h | ⟨-,h⟩
    ·exact absurd h (by show ¬ (t:Int) < t;omega)
    ·have:(i:Int) < (q:Int):=h
     omega
   ·simp[hm]
 ·rw[if_neg e]
  by_cases hk:k < p.length
  ·obtain⟨r',hr'⟩:=Zd (xs:=p) (k:=k) hk
   rw[JK hr',JK hr']
   congr 1
   refine Ga _ (fun q _ => ?_);rw[ED hg hL];have:decide ((⟨(k:Int),(q:Int)⟩:Gp)=⟨t,i⟩)=false:=So;rw[this,Bool.or_false]
  ·rw[List.getElem?_eq_none (by rw[YQ];omega),List.getElem?_eq_none (by rw[YQ];omega)]
theorem IM {p:List (List Ins)}{L:List Gp}{j:Nat}{g:Gp}(hg:(ZF p)[j]? = some g) (hL:g∉L):Y1 (Kk L (ZF p) (j+1)) p=Y1 (Kk L (ZF p) j) p:=
 Aa fun x=>(IP hg hL x).symm
def Xo (L:List Gp) (x:Gp):Bool:=decide (x∈L)
def Lc (L all:List Gp):Bool:=L.all fun g=>decide (g∈all)
def XV (p:List (List Ins)) (L:List Gp):Bool:=Zg p&&Lc L (ZF p)&&Zg (Y1 (Xo L) p)
def Ac (p:List (List Ins)) (L:List Gp):List (List Ins):=if XV p L=true then Y1 (Xo L) p else []
theorem NJ (f:Int→Bool) (r:List Ins):(RZ f r).length≤2 * r.length:=(Ab f r _ (Nat.le_refl _)).2
theorem Bh {f:Gp→Bool}{p:List (List Ins)}{n:Nat}(h:∀ r∈p,r.length≤n):∀ r∈Y1 f p,r.length≤2 * n:=by
 intro r hr;obtain⟨k,hk⟩:=List.mem_iff_getElem?.1 hr;have hkl:k < p.length:=by have:=(List.getElem?_eq_some_iff.1 hk).1;rwa[YQ]at this
 obtain⟨r',hr'⟩:=Zd (xs:=p) (k:=k) hkl;rw[JK hr']at hk;simp at hk;subst hk;have:=NJ (fun i=>f ⟨k,i⟩) r';have:=h r' (List.mem_of_getElem? hr');omega
end Go.Proofs.YtngekjpklkjnbaaGreat
namespace Go.Proofs.YtngekjpklkjnbaaGreat
open Go.RowKit Go.Shelf
attribute [local go_sem] Oper.semAt_some
structure Kd (x y:Nat) (W W':World):Prop where
 one:W'.heap[x]? = W.heap[x]?
 two:W'.heap[y]? = W.heap[y]?
 size:W.heap.size≤W'.heap.size
theorem Kd.refl (x y:Nat) (W:World):Kd x y W W:=⟨rfl,rfl,Nat.le_refl _⟩
theorem Kd.trans {x y:Nat}{A B C:World}(h:Kd x y A B) (k:Kd x y B C):Kd x y A C:=⟨k.one.trans h.one,k.two.trans h.two,Nat.le_trans h.size k.size⟩
theorem Nz {x y:Nat}{w:World}(hx:x < w.heap.size) (hy:y < w.heap.size) (W:World) (l:Nat) (o o':Obj) (hl:w.heap.size≤l) (h:W.heap[l]? = some o) (_:o.isCells=false) (_:o.isWalk=false):Kd x y W (W.putObj l o'):=by
 have hg:=grownBy_putObj' W l o';have hlt:=(Array.getElem?_eq_some_iff.1 h).1;exact⟨hg.block x Om So,hg.block y Om So,hg.size⟩
theorem Xh {w w':World}{b:Nat}(h:w'.heap[b]? = w.heap[b]?) {o:Nat}{v:Value}(hc:w.cell? ⟨b,o,none⟩=some v):w'.cell? ⟨b,o,none⟩=some v:=by
 rw[← hc];unfold World.cell?;rw[h]
theorem Ii {α:Type}(zs:List α) {k m:Nat}{z:α}(hz:zs[m]? = some z) (hk:k+(m+1)=zs.length):zs.zipIdx.reverse.take (k+1)=zs.zipIdx.reverse.take k++[(z,m)]:=by
 rw[List.take_add_one]
 congr 1
 have hml:=(List.getElem?_eq_some_iff.1 hz).1;rw[List.getElem?_reverse (by rw[List.length_zipIdx];omega),List.length_zipIdx,show zs.length - 1 - k=m by omega,List.getElem?_zipIdx,hz];simp
theorem Lw {Pr : Gp → Prop} (n : Nat) (hn : 1 ≤ n) (l Bs b off cap : Nat) (zs : List {g : Gp // Pr g}) (J Jx : List ({g : Gp // Pr g} × Nat) → World → Prop)
    (hY : ∀ pre x W, J pre W → pre.length < zs.length → YieldAt Fence.wide (n - 1) Tryz.prog l #[.int .i64 (x.2 : Int), x.1.1.v] W fun e W' =>
      (e = .returned (.bool true) ∧ J (pre ++ [x]) W' ∧ Kd Bs b W W') ∨ (e = .returned (.bool false) ∧ Jx (pre ++ [x]) W'))
    (W : World) (hBs : W.cell? ⟨Bs, 0, none⟩ = some (.slice (some ⟨b, off, none⟩) zs.length cap))
    (hc : ∀ (j : Nat) z, zs[j]? = some z → W.cell? ⟨b, off + j * 2, none⟩ = some (.int .i64 z.1.t) ∧ W.cell? ⟨b, off + j * 2 + 1, none⟩ = some (.int .i64 z.1.i)) (h0 : J [] W) (hl : zs.length ≤ 1048576) :
    CallsIn Fence.wide n Tryz.prog 86 #[.func (.yield l) #[] #[], .pointer (some ⟨Bs, 0, none⟩)] W fun e W' => (∃ v, e = .returned v) ∧
      ((∃ ys, ys = zs.zipIdx.reverse ∧ J ys W') ∨ (∃ pre, Jx pre W')) := by
  refine callsIn_of_wp Tryz.func86 rfl trivial ?_ rfl
  simp only [Tryz.ntmps86, List.size_toArray, List.length_cons, List.length_nil, Nat.reduceAdd, Nat.reduceSub, Array.replicate_succ, Array.replicate_zero, List.push_toArray, List.append_toArray, List.nil_append, List.cons_append]
  have BT := Za (fun (k m : Nat) z h1 h2 => Ii zs (k := k) (m := m) (z := z) h1 h2)
  have BA : Hid (zs.zipIdx.reverse.take zs.length = zs.zipIdx.reverse) := Za (List.take_of_length_le (by simp))
  have BL : Hid (∀ k, k ≤ zs.length → (zs.zipIdx.reverse.take k).length = k) := Za (fun k hk => by simp; omega)
  generalize hlen : zs.length = len at *
  have HLEN := Za hlen
  clear hlen
  have hBlt := Zb hBs
  gi_wp2
  gi_loopw [3] (fun i wr => ∃ k m : Nat, k + m = len ∧ i = .int .i64 ((m : Int) - 1) ∧ J (zs.zipIdx.reverse.take k) wr ∧ Kd Bs b W wr) (fun i _ => (intOf i + 1).toNat)
  case atStart => exact ⟨0, len, by omega, rfl, by simpa using h0, Kd.refl _ _ _⟩
  case round =>
    obtain ⟨k, m, hkm, rfl, hJs, hkp⟩ := hrel
    have hB2 := Xh hkp.one hBs
    have hBlt2 := Zb hB2
    cases m with
    | zero =>
      have e0 : decide ((((0 : Nat) : Int) - 1) ≥ 0) = false := by decide
      gi_wp2
      go_end0
      exact ⟨⟨_, rfl⟩, .inl ⟨_, rfl, by rw [← BA.out]; have : k = len := by omega
                                        rw [← this]; exact hJs⟩⟩
    | succ m =>
      have em : (((m + 1 : Nat) : Int) - 1) = (m : Int) := by omega
      rw [em]
      obtain ⟨z, hz⟩ := Zd (xs := zs) (k := m) (by have := HLEN.out; omega)
      obtain ⟨c0, c1⟩ := hc m z hz
      have d0 := Xh hkp.two c0
      have d1 := Xh hkp.two c1
      have hblt2 := Zb d0
      have hml : (m : Int) < len := by omega
      obtain ⟨fn, tmps, assign, body, hy, hR⟩ := hY _ (z, m) wr hJs (by rw [BL.out k (by omega)]; omega)
      have BT2 := Za (BT.out k m z hz (by have := HLEN.out; omega))
      have HR := Za hR
      clear hR c0 c1 hz
      dsimp only at hy
      gi_wp2
      refine HR.out.mono ?_
      rintro e W3 (⟨rfl, hJ3, hk3⟩ | ⟨rfl, hJx3⟩)
      · gi_wp2
        go_roundw
        case rel => exact ⟨k + 1, m, by omega, by go_num, by rw [BT2.out]; exact hJ3, hkp.trans hk3⟩
        case measure => simp [intOf]
      · gi_wp2
        refine bodyPost_ret (results_none rfl _ _ _) rfl ?_
        exact ⟨⟨_, rfl⟩, .inr ⟨_, hJx3⟩⟩
theorem BP {Pr:Gp→Prop}(n:Nat) (l Bs:Nat) (a:Option Addr) (c:Nat) (J:List ({g:Gp // Pr g} × Nat)→World→Prop)
 (W:World) (hBs:W.cell? ⟨Bs,0,none⟩=some (.slice a 0 c)) (h0:J [] W) :
 CallsIn Fence.wide n Tryz.prog 86 #[.func (.yield l) #[] #[],.pointer (some ⟨Bs,0,none⟩)] W fun e W'=>(∃ v,e = .returned v)∧J [] W':=by
 refine callsIn_of_wp Tryz.func86 rfl trivial ?_ rfl;simp only[Tryz.ntmps86,List.size_toArray,List.length_cons,List.length_nil,Nat.reduceAdd,Nat.reduceSub,Array.replicate_succ,Array.replicate_zero,List.push_toArray,List.append_toArray,List.nil_append,List.cons_append];have hBlt:=Zb hBs;gi_wp2
 gi_loopw [3] (fun i wr=>i = .int .i64 (-1)∧J [] wr) (fun _ _=>0)
 case atStart=>exact⟨rfl,h0⟩
 case round =>
  obtain⟨rfl,hJs⟩:=hrel;gi_wp2;go_end0;exact⟨⟨_,rfl⟩,hJs⟩
theorem Bu (a:Option Addr) (len cap:Nat) (w:World) :
 Calls Tryz.prog 56 #[.slice a len cap] w fun e w'=>e = .returned (.func (.func 86) #[] #[.pointer (some ⟨w.heap.size,0,none⟩)])∧w'=w.alloc (.cells #[.slice a len cap] 33):=by
 go_enter Tryz.func56,Tryz.ntmps56;go_wp2;go_ret;exact⟨rfl,rfl⟩
theorem Dr {Pr:Gp→Prop}(n:Nat) (hn:1≤n) (Bs b:Nat) (v:Value) (zs:List {g:Gp // Pr g}) (hl:zs.length≤1048576) (w:World) (hBs:Bs < w.heap.size) (hc:w.cell? ⟨Bs,0,none⟩=some v)
 (hr:ZC ZZ w v (zs.map (·.1))) (hb:∀ g o,v = .slice (some ⟨g,o,none⟩) zs.length (match v with | .slice _ _ c=>c | _=>0)→zs≠[]→g=b) :
 SeqStopsK Fence.wide n Tryz.prog 86 #[.pointer (some ⟨Bs,0,none⟩)] (fun x:{g:Gp // Pr g} × Nat => #[Value.int .i64 (x.2:Int),x.1.1.v]) (Kd Bs b) (fun ys=>ys=zs.zipIdx.reverse)
  (fun _=>True) zs.length w:=fun l J Jx W hW _ _ hY h0=>by
 have hc':=(hW.cell (p:=⟨Bs,0,none⟩) hBs).trans hc;have hr':=hr.below hW;obtain⟨a,c,rfl,h1,h2,hx⟩:=hr';rw[List.length_map]at hc' h1;by_cases hz:zs=[]
 ·subst hz
  exact(BP n l Bs _ _ J W hc' h0).mono fun e W' ⟨he,hj⟩=>⟨he,.inl ⟨_,rfl,hj⟩⟩
 ·obtain⟨z0,hz0⟩:=Zd (xs:=zs) (k:=0) (List.length_pos_iff.2 hz)
  obtain⟨b',o,rfl,-⟩:=hx 0 z0.1 (by rw[List.getElem?_map,hz0];rfl);obtain rfl:b'=b:=hb b' o (by rw[List.length_map]) hz;refine(Lw n hn l Bs b' o c zs J Jx hY W hc' (fun j z hj => ?_) h0 hl).mono fun e W' ⟨he,h⟩=>⟨he,h.imp (fun ⟨ys,e,hj⟩=>⟨ys,e,hj⟩) (fun ⟨pre,hj⟩=>⟨pre,trivial,hj⟩)⟩
  obtain⟨b2,o2,e2,h2⟩:=hx j z.1 (by rw[List.getElem?_map,hj];rfl);simp only[Option.some.injEq,Addr.mk.injEq,and_true]at e2;obtain⟨rfl,rfl⟩:=e2;exact⟨h2 0 _ rfl,h2 1 _ rfl⟩
attribute [local go_sem] Oper.semAt_some
attribute [local go_sem] Oper.semAt_some
end Go.Proofs.YtngekjpklkjnbaaGreat
namespace Go.Proofs.YtngekjpklkjnbaaGreat
structure Fj (p:List (List Ins)) (s:Bf):Prop where
 rg:∀ (t g:Nat) (r:List Ins),p[t]? = some r→g < 3→Yx r g=false→s.q.rg.getD (t * 3+g) 0=0
 mm:∀ l:Nat,Ul p l=false→s.q.mm.getD l 0=0
 bf:∀ b∈s.bf,∀ e∈b,Ul p e.1=true
theorem M1 {r:List Ins}{k:Nat}{x:Ins}(hx:r[k]? = some x) (h:ZG x.op=true):Yx r x.Ya=true:=by
 unfold Yx;rw[List.any_eq_true];exact⟨x,List.mem_of_getElem? hx,by simp[h]⟩
theorem Bt {p:List (List Ins)}{t k:Nat}{r:List Ins}{x:Ins}(hr:p[t]? = some r) (hx:r[k]? = some x) (h:ZR x.op=true):Ul p x.loc=true:=by
 unfold Ul;rw[List.any_eq_true];refine⟨r,List.mem_of_getElem? hr,?_⟩;rw[List.any_eq_true];exact⟨x,List.mem_of_getElem? hx,by simp[h]⟩
theorem Fj.reach {p:List (List Ins)}{split:Bool}{s:Bf}(hp:∀ r∈p,∀ x∈r,Zi x=true) (h:Zt (Zr p split) (Zy p split) s):Fj p s:=by
 have z:∀ n k,(List.replicate n (0:Int)).getD k 0=0:=fun n k=>by
  rw[List.getD_eq_getElem?_getD,List.getElem?_replicate];split <;> rfl
 induction h with
 | start =>
  refine⟨fun t g r _ _ _=>z _ _,fun l _=>z _ _,fun b hb e he => ?_⟩;simp only[Zr]at hb;rw[List.eq_of_mem_replicate hb]at he;simp at he
 | step hs ht ih =>
  rename_i s s' m;have ho:=ZT.reach hp hs;by_cases hm:m < p.length
  ·obtain⟨r,k,x,hr,hk,hx,hd⟩:=YD ht hm
   have hv:=Us (hp r (List.mem_of_getElem? hr) x (List.mem_of_getElem? hx));have rgS:∀ v,ZG x.op=true→∀ (t g:Nat) (r':List Ins),p[t]? = some r'→g < 3→Yx r' g=false→(s.q.rg.set (m * 3+x.Ya.toNat) v).getD (t * 3+g) 0=0:=fun v hop t g r' hr' hg hn=>by
    rw[QR (fun e => ?_)]
    ·exact ih.rg t g r' hr' hg hn
    ·have e1:m=t:=Om
     subst e1;rw[hr,Option.some.injEq]at hr';subst hr';have h1:=M1 hx hop;rw[show x.Ya=(g:Int) by omega,hn]at h1;cases h1
   have mmS:∀ v,ZR x.op=true→∀ l:Nat,Ul p l=false→(s.q.mm.set x.loc.toNat v).getD l 0=0:=fun v hop l hn=>by
    rw[QR (fun e => ?_)]
    ·exact ih.mm l hn
    ·have h1:=Bt hr hx hop
     have h4:x.op≠4:=fun q=>by rw[q]at hop;cases hop
     have:=hv.2.1 h4;rw[show x.loc=(l:Int) by omega,hn]at h1;cases h1
   unfold Qa at hd;split at hd
   ·split at hd
    ·simp only[Option.some.injEq]at hd
     subst hd;refine⟨fun t g r' hr' hg hn => ?_,fun l hn => ?_,ih.bf⟩
     ·simp only[ZN]
      split
      ·rename_i hop;exact rgS _ hop t g r' hr' hg hn
      ·exact ih.rg t g r' hr' hg hn
     ·simp only[ZN]
      split
      ·rename_i hop;exact mmS _ hop l hn
      ·exact ih.mm l hn
    ·cases hd
   ·rename_i h45
    split at hd
    ·rename_i h1
     simp only[Option.some.injEq]at hd;subst hd;exact⟨rgS _ (by rw[h1];rfl),ih.mm,ih.bf⟩
    ·rename_i h1
     simp only[Option.some.injEq]at hd;subst hd;refine⟨ih.rg,ih.mm,fun b hb e he => ?_⟩;have hop:ZR x.op=true:=by
      have h23:x.op=2∨x.op=3:=Om;rcases h23 with q | q <;> (rw[q];rfl)
     rcases List.mem_or_eq_of_mem_set hb with q | q
     ·exact ih.bf b q e he
     ·rw[q]at he
      rcases List.mem_append.1 he with g | g
      ·rw[List.getD_eq_getElem?_getD]at g
       cases hb2:s.bf[Zj m x.loc split]? with
       | none=>rw[hb2]at g;simp at g
       | some b2=>rw[hb2]at g;exact ih.bf b2 (List.mem_of_getElem? hb2) e g
      ·simp only[List.mem_singleton]at g
       subst g;exact Bt hr hx hop
  ·obtain⟨l,v,rest,hb,rfl⟩:=Y9 ht hm
   have hw:=ih.bf _ (List.mem_of_getElem? hb) (l,v) Sm;have hl:=ho.en _ (List.mem_of_getElem? hb) (l,v) Sm;unfold YP at hl;simp only at hw hl;refine⟨ih.rg,fun l' hn => ?_,fun b hb' e he => ?_⟩
   ·simp only
    rw[QR (fun q => ?_)]
    ·exact ih.mm l' hn
    ·rw[show l=(l':Int) by omega,hn]at hw
     cases hw
   ·rcases List.mem_or_eq_of_mem_set hb' with q | q
    ·exact ih.bf b q e he
    ·rw[q]at he
     exact ih.bf _ (List.mem_of_getElem? hb) e (by simp[he])
end Go.Proofs.YtngekjpklkjnbaaGreat
namespace Go.Proofs.YtngekjpklkjnbaaGreat
open Go.RowKit
def Bw (f:Gp→Bool) (xs:List Gp) (q:Int):Prop:=(q = -1∧∀ x∈xs,f x=false)∨∃ (t:Nat) (x:Gp),q=t∧xs[t]? = some x∧f x=true
theorem VF {f:Gp→Bool}{xs:List Gp}{t:Nat}{x:Gp}(h:∀ y∈xs.take t,f y=false) (hx:xs[t]? = some x) (hf:f x=false):∀ y∈xs.take (t+1),f y=false:=by
 intro y hy;rw[List.take_add_one,hx]at hy;simp at hy;rcases hy with hy | rfl
 ·exact h y hy
 ·exact hf
theorem Bw.any {f:Gp→Bool}{xs:List Gp}{q:Int}(h:Bw f xs q):decide (0≤q)=xs.any f:=by
 rcases h with⟨rfl,h⟩ | ⟨t,x,rfl,hx,hf⟩
 ·have:xs.any f=false:=by rw[List.any_eq_false];intro x hx;rw[h x hx];simp
  rw[this];rfl
 ·have:xs.any f=true:=List.any_eq_true.2 ⟨x,List.mem_of_getElem? hx,hf⟩
  rw[this];simp
theorem AH (L:List Gp) (x:Gp):L.any (fun y=>decide (x=y))=Xo L x:=by
 unfold Xo;rw[Bool.eq_iff_iff];simp
theorem Fc (v:Value) (xs:List Gp) (x:Gp) (w:World) (hx:ZC ZZ w v xs) :
 Calls Tryz.prog 85 #[v,x.v] w fun e w'=>(∃ q:Int,e = .returned (.int .i64 q)∧Bw (fun y=>decide (x=y)) xs q)∧Below w.heap.size w w':=by
 obtain⟨a,c,rfl,hc1,hc2,hc3,hx⟩:=hx.open;have HB0:=Za ((Below.refl w.heap.size w).alloc (Nat.le_refl _) (.cells #[.int .i64 x.t,.int .i64 x.i] 25));have HX:=Za (hx.below HB0.out);clear hx;generalize hn:xs.length=n at *;have H:=Za hn;clear hn;obtain⟨x0,x1⟩:=x;have hb0:w.heap.size < (w.alloc (.cells #[.int .i64 x0,.int .i64 x1] 25)).heap.size:=by simp
 have k0:(w.alloc (.cells #[.int .i64 x0,.int .i64 x1] 25)).cell? ⟨w.heap.size,0,none⟩=some (.int .i64 x0):=by simp[go_sem]
 have k1:(w.alloc (.cells #[.int .i64 x0,.int .i64 x1] 25)).cell? ⟨w.heap.size,1,none⟩=some (.int .i64 x1):=by simp[go_sem]
 go_enter Tryz.func85,Tryz.ntmps85;go_wp2_with fail;generalize hW:w.alloc (.cells #[.int .i64 x0,.int .i64 x1] 25)=W at *;generalize hG:w.heap.size=g at *;have BG:Hid (∀ w',Below g w w'→Below w.heap.size w w'):=Za (fun w' h=>by rw[hG];exact h);clear hG
 go_loopw [8] (fun i wr => ∃ t:Nat,t≤n∧i = .int .i64 t∧Hid (∀ y∈xs.take t,decide ((⟨x0,x1⟩:Gp)=y)=false)∧Below W.heap.size W wr) (fun i _=>n - (intOf i).toNat)
 case atStart=>exact⟨0,Nat.zero_le _,rfl,Za Sm,Below.refl _ _⟩
 case round =>
  obtain⟨t,ht,rfl,hno,hb⟩:=hrel;have kk0:=(hb.cell (p:=⟨g,0,none⟩) hb0).trans k0;have kk1:=(hb.cell (p:=⟨g,1,none⟩) hb0).trans k1;have hgr:g < wr.heap.size:=Nat.lt_of_lt_of_le hb0 hb.size;by_cases hlt:t < n
  ·obtain⟨y,hyk⟩:=Zd (xs:=xs) (k:=t) (by rw[H.out];exact hlt)
   obtain⟨b,o,rfl,hbl,i0,i1⟩:=(HX.out.below hb).I4 hyk;have hlt':=Zh hlt;have Y:=Za hyk;clear hyk;obtain⟨y0,y1⟩:=y;simp only at i0 i1;by_cases hxy:x0=y0∧x1=y1
   ·obtain⟨rfl,rfl⟩:=hxy
    go_wp2_with fail;refine Zo Kr Kr ?_
    repeat (go_big_quiet_step (fail))
    refine wpQuiet_nil ?_;intro w1 hb1;go_wp2_with fail;go_ret;exact⟨⟨_,rfl,.inr ⟨t,_,rfl,Y.out,Sm⟩⟩,BG.out _ (HB0.out.trans ((hb.trans (hb1.mono hb.size)).mono (Nat.le_of_lt hb0)))⟩
   ·have NO:Hid (∀ y∈xs.take (t+1),decide ((⟨x0,x1⟩:Gp)=y)=false):=Za (VF hno.out Y.out (by simpa using hxy))
    by_cases h0:x0=y0
    ·subst h0
     have g1:(x1==y1)=false:=by simp;exact fun e=>hxy ⟨rfl,e⟩
     clear hxy;go_wp2_with fail;refine Zo Kr Kr ?_
     repeat (go_big_quiet_step (fail))
     refine wpQuiet_nil ?_;intro w1 hb1;go_wp2_with fail;go_roundw
     case rel=>exact⟨t+1,Om,Gn,NO,hb.trans (hb1.mono hb.size)⟩
     case measure=>simp[intOf];omega
    ·have g0:(x0==y0)=false:=by simp[h0]
     clear hxy h0;go_wp2_with fail;refine Zo Kr Kr ?_
     repeat (go_big_quiet_step (fail))
     refine wpQuiet_nil ?_;intro w1 hb1;go_wp2_with fail;go_roundw
     case rel=>exact⟨t+1,Om,Gn,NO,hb.trans (hb1.mono hb.size)⟩
     case measure=>simp[intOf];omega
  ·go_wp2_with fail
   go_ret;refine⟨⟨_,rfl,.inl ⟨rfl,?_⟩⟩,BG.out _ (HB0.out.trans (hb.mono (Nat.le_of_lt hb0)))⟩;have h:=hno.out;rwa[List.take_of_length_le (by rw[H.out];omega)]at h
theorem Vc (v:Value) (xs:List Gp) (x:Gp) (w:World) (hx:ZC ZZ w v xs) :
 Calls Tryz.prog 55 #[v,x.v] w fun e w'=>e = .returned (.bool (Xo xs x))∧Below w.heap.size w w':=by
 have HB0:=Za ((Below.refl w.heap.size w).alloc (Nat.le_refl _) (.cells #[.int .i64 x.t,.int .i64 x.i] 25));have HI:=Za (Fc v xs x _ (hx.below HB0.out));have E0:=Za (AH xs x);obtain⟨a,c,rfl,-⟩:=hx.open;clear hx;obtain⟨x0,x1⟩:=x;simp only at HI HB0;go_enter Tryz.func55,Tryz.ntmps55;go_wp2_with fail
 (with_reducible refine HI.out.mono ?_);rintro e w1 ⟨⟨q,rfl,hq⟩,hb1⟩
 have E:Hid (decide (0≤q)=Xo xs ⟨x0,x1⟩):=Za (hq.any.trans E0.out);clear hq;go_wp2_with fail
 all_goals go_ret
 all_goals refine⟨?_,HB0.out.trans (hb1.mono HB0.out.size)⟩
 all_goals rw[← E.out]
 all_goals simp_all
def BF (a1:Addr) (f:Gp→Bool) (w0:World):Prop:=∀ (x:Gp) (w:World),Below w0.heap.size w0 w→Calls Tryz.prog 54 #[.agg #[.int .i64 x.t,.int .i64 x.i],.pointer (some a1)] w fun e w'=>e = .returned (.bool (f x))∧Below w.heap.size w w'
theorem Bx (a1:Addr) (v:Value) (xs:List Gp) (f:Gp→Bool) (w:World) (hx:ZC ZZ w v xs) (hf:BF a1 f w) :
 Calls Tryz.prog 84 #[v,.func (.func 54) #[] #[.pointer (some a1)]] w fun e w'=>(∃ q:Int,e = .returned (.int .i64 q)∧Bw f xs q)∧Below w.heap.size w w':=by
 obtain⟨a,c,rfl,hc1,hc2,hc3,hx⟩:=hx.open;have HX:=Za hx;clear hx;have HF:=Za hf;clear hf;generalize hn:xs.length=n at *;have H:=Za hn;clear hn;go_enter Tryz.func84,Tryz.ntmps84;go_wp2_with fail
 go_loopw [8] (fun i wr => ∃ t:Nat,t≤n∧i = .int .i64 t∧Hid (∀ x∈xs.take t,f x=false)∧Below w.heap.size w wr) (fun i _=>n - (intOf i).toNat)
 case atStart=>exact⟨0,Nat.zero_le _,rfl,Za Sm,Below.refl _ _⟩
 case round =>
  obtain⟨t,ht,rfl,hno,hb⟩:=hrel;by_cases hlt:t < n
  ·obtain⟨x,hxk⟩:=Zd (xs:=xs) (k:=t) (by rw[H.out];exact hlt)
   obtain⟨b,o,rfl,hbl,i0,i1⟩:=(HX.out.below hb).I4 hxk;have hlt':=Zh hlt;have X:=Za hxk;clear hxk;generalize hfx:f x=fx;have FX:=Za hfx;clear hfx;have hcall:=HF.out x _ hb;rw[FX.out]at hcall;have HC:=Za hcall;clear hcall;cases fx
   ·have NO:Hid (∀ x∈xs.take (t+1),f x=false):=Za (VF hno.out X.out FX.out)
    go_wp2_with fail
    (with_reducible refine HC.out.mono ?_);rintro e w2 ⟨rfl,hb2⟩
    go_wp2_with fail;go_roundw
    case rel=>exact⟨t+1,Om,Gn,NO,hb.trans (hb2.mono hb.size)⟩
    case measure=>simp[intOf];omega
   ·go_wp2_with fail
    (with_reducible refine HC.out.mono ?_);rintro e w2 ⟨rfl,hb2⟩
    go_wp2_with fail;go_ret;exact⟨⟨_,rfl,.inr ⟨t,x,rfl,X.out,FX.out⟩⟩,hb.trans (hb2.mono hb.size)⟩
  ·go_wp2_with fail
   go_ret;refine⟨⟨_,rfl,.inl ⟨rfl,?_⟩⟩,hb⟩;have h:=hno.out;rwa[List.take_of_length_le (by rw[H.out];omega)]at h
theorem Gf (a1:Addr) (v:Value) (xs:List Gp) (f:Gp→Bool) (w:World) (hx:ZC ZZ w v xs) (hf:BF a1 f w) :
 Calls Tryz.prog 53 #[v,.func (.func 54) #[] #[.pointer (some a1)]] w fun e w'=>e = .returned (.bool (xs.any f))∧Below w.heap.size w w':=by
 have HI:=Za (Bx a1 v xs f w hx hf);obtain⟨a,c,rfl,-⟩:=hx.open;clear hx hf;go_enter Tryz.func53,Tryz.ntmps53;go_wp2_with fail
 (with_reducible refine HI.out.mono ?_);rintro e w1 ⟨⟨q,rfl,hq⟩,hb1⟩
 have E:Hid (decide (0≤q)=xs.any f):=Za hq.any;clear hq;go_wp2_with fail
 all_goals go_ret
 all_goals refine⟨?_,hb1⟩
 all_goals rw[← E.out]
 all_goals simp_all
theorem Pp (g:Nat) (v:Value) (all:List Gp) (w:World) (hg:g < w.heap.size) (hc:w.cell? ⟨g,0,none⟩=some v) (hx:ZC ZZ w v all):BF ⟨g,0,none⟩ (fun x => !Xo all x) w:=by
 intro x w2 hb;have hc2:=(hb.cell (p:=⟨g,0,none⟩) hg).trans hc;have hg2:=Nat.lt_of_lt_of_le hg hb.size;have HB0:=Za ((Below.refl w2.heap.size w2).alloc (Nat.le_refl _) (.cells #[.int .i64 x.t,.int .i64 x.i] 25));have HI:=Za (Vc v all x _ ((hx.below hb).below HB0.out));obtain⟨a,c,rfl,-⟩:=hx.open;clear hx hc hb;obtain⟨x0,x1⟩:=x;obtain⟨r,hr⟩:∃ r,Xo all ⟨x0,x1⟩=r:=⟨_,rfl⟩
 simp only at HI HB0;rw[hr]at HI;have R:=Za hr;clear hr;go_enter Tryz.func54,Tryz.ntmps54;go_wp2_with fail
 (with_reducible refine HI.out.mono ?_);rintro e w1 ⟨rfl,hb1⟩
 go_wp2_with fail;go_ret;exact⟨by show _=Ending.returned (.bool (!Xo all ⟨x0,x1⟩));rw[R.out];rfl,HB0.out.trans (hb1.mono HB0.out.size)⟩
theorem I9 (v:Value) (xs:List Gp) (x:Gp) (w:World) (hx:ZC ZZ w v xs) :
 Calls Tryz.prog 75 #[v,x.v] w fun e w'=>e = .returned (.bool (Xo xs x))∧Below w.heap.size w w':=by
 have HB0:=Za ((Below.refl w.heap.size w).alloc (Nat.le_refl _) (.cells #[.int .i64 x.t,.int .i64 x.i] 25));have E0:=Za (AH xs x);obtain⟨a,c,rfl,hc1,hc2,hc3,hx⟩:=hx.open;have HX:=Za (hx.below HB0.out);clear hx;generalize hn:xs.length=n at *;have H:=Za hn;clear hn;obtain⟨x0,x1⟩:=x;have hb0:w.heap.size < (w.alloc (.cells #[.int .i64 x0,.int .i64 x1] 25)).heap.size:=by simp
 have k0:(w.alloc (.cells #[.int .i64 x0,.int .i64 x1] 25)).cell? ⟨w.heap.size,0,none⟩=some (.int .i64 x0):=by simp[go_sem]
 have k1:(w.alloc (.cells #[.int .i64 x0,.int .i64 x1] 25)).cell? ⟨w.heap.size,1,none⟩=some (.int .i64 x1):=by simp[go_sem]
 go_enter Tryz.func75,Tryz.ntmps75;go_wp2_with fail;generalize hW:w.alloc (.cells #[.int .i64 x0,.int .i64 x1] 25)=W at *;generalize hG:w.heap.size=g at *;have BG:Hid (∀ w',Below g w w'→Below w.heap.size w w'):=Za (fun w' h=>by rw[hG];exact h);clear hG
 go_loopw [5] (fun i wr => ∃ t:Nat,t≤n∧i = .int .i64 t∧Hid (∀ y∈xs.take t,decide ((⟨x0,x1⟩:Gp)=y)=false)∧Below W.heap.size W wr) (fun i _=>n - (intOf i).toNat)
 case atStart=>exact⟨0,Nat.zero_le _,rfl,Za Sm,Below.refl _ _⟩
 case round =>
  obtain⟨t,ht,rfl,hno,hb⟩:=hrel;have kk0:=(hb.cell (p:=⟨g,0,none⟩) hb0).trans k0;have kk1:=(hb.cell (p:=⟨g,1,none⟩) hb0).trans k1;have hgr:g < wr.heap.size:=Nat.lt_of_lt_of_le hb0 hb.size;by_cases hlt:t < n
  ·obtain⟨y,hyk⟩:=Zd (xs:=xs) (k:=t) (by rw[H.out];exact hlt)
   obtain⟨b,o,rfl,hbl,i0,i1⟩:=(HX.out.below hb).I4 hyk;have hlt':=Zh hlt;have Y:=Za hyk;clear hyk;obtain⟨y0,y1⟩:=y;simp only at i0 i1;by_cases hxy:x0=y0∧x1=y1
   ·obtain⟨rfl,rfl⟩:=hxy
    have E:Hid (Xo xs ⟨x0,x1⟩=true):=Za (by unfold Xo;exact decide_eq_true (List.mem_of_getElem? Y.out));go_wp2_with fail;refine Zo Kr Kr ?_
    repeat (go_big_quiet_step (fail))
    refine wpQuiet_nil ?_;intro w1 hb1;go_wp2_with fail;go_ret;exact⟨by rw[E.out];rfl,BG.out _ (HB0.out.trans ((hb.trans (hb1.mono hb.size)).mono (Nat.le_of_lt hb0)))⟩
   ·have NO:Hid (∀ y∈xs.take (t+1),decide ((⟨x0,x1⟩:Gp)=y)=false):=Za (VF hno.out Y.out (by simpa using hxy))
    by_cases h0:y0=x0
    ·subst h0
     have g1:(y1==x1)=false:=by simp;exact fun e=>hxy ⟨rfl,e.symm⟩
     clear hxy;go_wp2_with fail;refine Zo Kr Kr ?_
     repeat (go_big_quiet_step (fail))
     refine wpQuiet_nil ?_;intro w1 hb1;go_wp2_with fail;go_roundw
     case rel=>exact⟨t+1,Om,Gn,NO,hb.trans (hb1.mono hb.size)⟩
     case measure=>simp[intOf];omega
    ·have g0:(y0==x0)=false:=by simp[h0]
     clear hxy h0;go_wp2_with fail;refine Zo Kr Kr ?_
     repeat (go_big_quiet_step (fail))
     refine wpQuiet_nil ?_;intro w1 hb1;go_wp2_with fail;go_roundw
     case rel=>exact⟨t+1,Om,Gn,NO,hb.trans (hb1.mono hb.size)⟩
     case measure=>simp[intOf];omega
  ·have h:=hno.out
   rw[List.take_of_length_le (by rw[H.out];omega)]at h;have E:Hid (Xo xs ⟨x0,x1⟩=false):=Za (by rw[← E0.out,List.any_eq_false];intro y hy;rw[h y hy];simp);clear h;go_wp2_with fail;go_ret;exact⟨by rw[E.out];rfl,BG.out _ (HB0.out.trans (hb.mono (Nat.le_of_lt hb0)))⟩
theorem IA (v v2:Value) (p:List (List Ins)) (L:List Gp) (w:World) (hp:Z9 w v p) (hL:ZC ZZ w v2 L) (hl:p.length≤1048576) (hl2:∀ r∈p,r.length≤1048576) :
 Calls Tryz.prog 42 #[v,v2] w (Gv Zx 42 44 w (Y1 (Xo L) p)):=by
 obtain⟨a,c,rfl,hc1,hc2,hc3,hp⟩:=hp.open;obtain⟨a2,c2,rfl,hd1,hd2,hd3,hL⟩:=hL.open;have HP:=Za hp;clear hp;have HL:=Za (fun w' (hb:Below w.heap.size w w') x=>I9 (.slice a2 L.length c2) L x w' (hL.below hb));have HL2:=Za hl2;clear hl2 hL;have PP:Hid (Y1 (Xo L) p=Kz (Xo L) p p.length):=Za rfl;generalize L.length=m at *;have HPL:=Za (JY (Xo L) p);generalize hn:p.length=n at *;have H:=Za hn;clear hn;go_enter Tryz.func42,Tryz.ntmps42;go_wp2_with fail
 go_loopw [5,6] (fun s i wr => ∃ j:Nat,j≤n∧i = .int .i64 j∧KU wr w.heap.size s (Kz (Xo L) p j)∧Below w.heap.size w wr) (fun _ i _=>n - (intOf i).toNat)
 case atStart=>exact⟨0,Om,rfl,ZL.empty _ _ w (Nat.le_refl _),(Below.refl _ _).alloc (Nat.le_refl _) _⟩
 case round =>
  obtain⟨j,hj,rfl,ho,hb⟩:=hrel;by_cases hlt:j < n
  ·obtain⟨wm,rfl⟩:∃ wm:World,wm=wr:=⟨_,rfl⟩
   obtain⟨x,hxk⟩:=Zd (xs:=p) (k:=j) (by rw[H.out];exact hlt);obtain⟨b,o,ra,rc,rfl,hbl,i0,i1⟩:=HP.out.row hxk;have hlt':=Zh hlt;have hxl:=HL2.out x (List.mem_of_getElem? hxk);have DS:=Za (VH (f:=Xo L) hxk);have hdl:(Kz (Xo L) p j).length≤1048576:=by rw[HPL.out j hj];omega
   have IW:=Za i0;have I1:=Za i1;have X:=Za hxk
   have i0:=(hb.cell (p:=⟨b,o+j,none⟩) hbl).trans i0;clear hxk i1;generalize hD:Kz (Xo L) p j=D at *;clear hD;obtain⟨us,hU,-⟩:=ho.told;have HU:=Za hU;have HO:=Za ho
   clear hU ho;go_wp2_with fail
   go_loopw [7,8] (fun s i wr => ∃ t:Nat,t≤x.length∧i = .int .i64 t∧GJ wr wm.heap.size s (Xq (fun i=>Xo L ⟨j,i⟩) x t)∧Below wm.heap.size wm wr) (fun _ i _=>x.length - (intOf i).toNat)
   case atStart=>exact⟨0,Om,rfl,Own.empty _ wm (Nat.le_refl _),(Below.refl _ _).alloc (Nat.le_refl _) _⟩
   case round =>
    obtain⟨t,ht,rfl,hr,hb3⟩:=hrel;have hbw:=hb.trans (hb3.mono hb.size);have i0w:=(hbw.cell (p:=⟨b,o+j,none⟩) hbl).trans IW.out;by_cases hlt3:t < x.length
    ·obtain⟨y,hyk⟩:=Zd (xs:=x) (k:=t) hlt3
     have hlt3':=Zh hlt3;have ST:=Za (XD (f:=fun i=>Xo L ⟨j,i⟩) hyk);have hil:(Xq (fun i=>Xo L ⟨j,i⟩) x t).length≤2 * 1048576:=by have:=(Ab (fun i=>Xo L ⟨j,i⟩) x t ht).2;omega
     have Y:=Za hyk;clear hyk;obtain⟨r,hr0⟩:∃ r,Xo L ⟨(j:Int),(t:Int)⟩=r:=⟨_,rfl⟩
     have HC:=HL.out wr hbw ⟨j,t⟩;rw[hr0]at HC;have HC:=Za HC;have R:=Za hr0;clear hr0;generalize hI:Xq (fun i=>Xo L ⟨j,i⟩) x t=LL at *;clear hI;cases r
     ·have ST2:Hid (Xq (fun i=>Xo L ⟨j,i⟩) x (t+1)=LL++[y]):=Za (by have h:=ST.out;rw[if_neg (by rw[R.out];simp)]at h;exact h)
      clear ST;go_wp2_with fail
      (with_reducible refine HC.out.mono ?_);rintro e w2 ⟨rfl,hb2⟩
      have hb4:=hb3.trans (hb2.mono hb3.size);have hbw2:=hb.trans (hb4.mono hb.size);have i0w2:=(hbw2.cell (p:=⟨b,o+j,none⟩) hbl).trans IW.out;have hbl2:=Nat.lt_of_lt_of_le hbl hbw2.size;obtain⟨b',o',rfl,hbl',j0,j1,j2,j3⟩:=(I1.out.below hbw2).ins Y.out;have hr2:=hr.below hb2;go_wp2_with (at_builtin;refine Z4 Zx 44 Tryz.Xe rfl Tryz.underlying42 wm.heap.size _ LL y (hr2.alloc _) Dc Om (by have:=hb4.size;simp;omega) rfl _ _ rfl rfl w2.heap.size 0 1 rfl Zk ?_;intro v' w3 hown1 hgr1);have hb5:=ZI hb4 hr2 hgr1;go_roundw
      case rel=>exact⟨t+1,Om,Gn,by rw[ST2.out];exact hown1,hb5⟩
      case measure=>simp[intOf];omega
     ·have ST2:Hid (Xq (fun i=>Xo L ⟨j,i⟩) x (t+1)=(LL++[Qd])++[y]):=Za (by have h:=ST.out;rw[if_pos (by rw[R.out])]at h;rw[h];simp)
      clear ST;go_wp2_with fail
      (with_reducible refine HC.out.mono ?_);rintro e w2 ⟨rfl,hb2⟩
      have hb4:=hb3.trans (hb2.mono hb3.size);have hr2:=hr.below hb2;go_wp2_with (first
       | (at_builtin;refine Z4 Zx 44 Tryz.Xe rfl Tryz.underlying42 wm.heap.size _ LL Qd (hr2.alloc _) Dc Om (by have:=hb4.size;simp;omega) rfl (.tmp 31) (.tmp 33) rfl rfl w2.heap.size 0 1 rfl Zk ?_;intro v' w3 hown1 hgr1;have hb5:=ZI hb4 hr2 hgr1;have hbw2:=hb.trans (hb5.mono hb.size);have i0w2:=(hbw2.cell (p:=⟨b,o+j,none⟩) hbl).trans IW.out;have hbl2:=Nat.lt_of_lt_of_le hbl hbw2.size;obtain⟨b',o',rfl,hbl',j0,j1,j2,j3⟩:=(I1.out.below hbw2).ins Y.out;clear hbw2)
       | (at_builtin;refine Z4 Zx 44 Tryz.Xe rfl Tryz.underlying42 wm.heap.size _ (LL++[Qd]) y (hown1.alloc _) Dc (by rw[List.length_append];simp;omega) (by have:=hb5.size;simp;omega) rfl (.tmp 35) (.tmp 43) rfl rfl w3.heap.size 0 1 rfl Zk ?_;intro v'' w4 hown2 hgr2))
      have hb6:=ZI hb5 hown1 hgr2;go_roundw
      case rel=>exact⟨t+1,Om,Gn,by rw[ST2.out];exact hown2,hb6⟩
      case measure=>simp[intOf];omega
    ·have e:t=x.length:=Om
     rw[e]at hr;replace hr:GJ wr wm.heap.size _ (RZ (fun i=>Xo L ⟨j,i⟩) x):=hr;obtain⟨s,rfl,-⟩:=hr.Yy;have hub:us.length≤68719476736:=by have:=HU.out.1;omega
     go_wp2_with (at_builtin;refine Z4 Z2 42 Tryz.Xy rfl Tryz.underlying28 w.heap.size _ us s ((HU.out.2.1.below hb3).alloc _) Dc hub (by simp;have:=hb.size;have:=hb3.size;omega) rfl _ _ rfl rfl wr.heap.size 0 1 rfl Zk ?_;intro v' w3 hown3 hgr3);have ho2:=(HU.out).app Dc (hb3.trans ((Below.refl _ _).alloc hb3.size _)) hb.size (hr.alloc _) hown3 hgr3;rw[← DS.out]at ho2;have hb5:=ZI hbw (HU.out.2.1.below hb3) hgr3;go_roundw
     case rel=>exact⟨j+1,Om,Gn,ho2,hb5⟩
     case measure=>simp[intOf];omega
  ·go_wp2_with fail
   go_ret;rw[PP.out,show n=j by omega];exact⟨_,rfl,ho,hb⟩
end Go.Proofs.YtngekjpklkjnbaaGreat
namespace Go.Proofs.YtngekjpklkjnbaaGreat
def Zn:List Gp→Nat→List (List Gp)
 | _,0=>[[]]
 | [],_+1=>[]
 | g :: gs,n+1=>(Zn gs n).map (g :: ·)++Zn gs (n+1)
theorem YB (gs:List Gp):Zn gs 0=[[]]:=by cases gs <;> rfl
def ZQ (gs:List Gp) (n k:Nat):List (List Gp):=(List.range k).flatMap fun i=>(Zn (gs.drop (i+1)) n).map (gs.getD i ⟨0,0⟩ :: ·)
theorem Vj {gs:List Gp}{n k:Nat}{g:Gp}(h:gs[k]? = some g):ZQ gs n (k+1)=ZQ gs n k++(Zn (gs.drop (k+1)) n).map (g :: ·):=by
 unfold ZQ;rw[List.range_succ,List.flatMap_append];simp[List.getD,h]
theorem Av (g:Gp) (gs:List Gp) (n:Nat):∀ k,ZQ (g :: gs) n (k+1)=(Zn gs n).map (g :: ·)++ZQ gs n k:=by
 intro k
 induction k with
 | zero=>simp[ZQ]
 | succ k ih =>
  have e:∀ (xs:List Gp) (m:Nat),ZQ xs n (m+1)=ZQ xs n m++(Zn (xs.drop (m+1)) n).map (xs.getD m ⟨0,0⟩ :: ·):=fun xs m=>by
   unfold ZQ;rw[List.range_succ,List.flatMap_append];simp
  rw[e,ih,e gs k,List.append_assoc];simp
theorem JS (n:Nat):∀ gs:List Gp,Zn gs (n+1)=ZQ gs n gs.length:=by
 intro gs
 induction gs with
 | nil=>rfl
 | cons g gs ih =>
  rw[List.length_cons,Av,← ih];rfl
theorem Qr:∀ (gs:List Gp) (n:Nat),(Zn gs n).length≤2 ^ gs.length:=by
 intro gs
 induction gs with
 | nil=>intro n;cases n <;> simp[Zn]
 | cons g gs ih =>
  intro n;cases n with
  | zero=>rw[YB];exact Nat.one_le_two_pow
  | succ n =>
   have h1:=ih n;have h2:=ih (n+1);simp only[Zn,List.length_append,List.length_map,List.length_cons,Nat.pow_succ];omega
theorem VS {gs:List Gp}{n k:Nat}(hk:k≤gs.length):(ZQ gs n k).length≤2 ^ gs.length:=by
 have h:∀ m,(ZQ gs n k).length≤(ZQ gs n (k+m)).length:=by
  intro m
  induction m with
  | zero=>exact Nat.le_refl _
  | succ m ih =>
   refine Nat.le_trans ih ?_;unfold ZQ;rw[show k+(m+1)=(k+m)+1 by omega,List.range_succ,List.flatMap_append,List.length_append];exact Nat.le_add_right _ _
 have h1:=h (gs.length - k);rw[show k+(gs.length - k)=gs.length by omega,← JS]at h1;exact Nat.le_trans h1 (Qr _ _)
theorem Jl:∀ (gs:List Gp) (n:Nat),∀ r∈Zn gs n,r.length=n:=by
 intro gs
 induction gs with
 | nil=>intro n r hr;cases n with
  | zero=>simp[Zn]at hr;simp[hr]
  | succ n=>simp[Zn]at hr
 | cons g gs ih =>
  intro n r hr;cases n with
  | zero=>rw[YB]at hr;simp at hr;simp[hr]
  | succ n =>
   simp only[Zn,List.mem_append,List.mem_map]at hr;rcases hr with⟨q,h1,rfl⟩ | h
   ·rw[List.length_cons,ih n q h1]
   ·exact ih (n+1) r h
theorem DF:∀ (gs:List Gp) (n:Nat),∀ r∈Zn gs n,∀ g∈r,g∈gs:=by
 intro gs
 induction gs with
 | nil=>intro n r hr;cases n with
  | zero=>simp[Zn]at hr;simp[hr]
  | succ n=>simp[Zn]at hr
 | cons g gs ih =>
  intro n r hr x hx;cases n with
  | zero=>rw[YB]at hr;simp at hr;subst hr;simp at hx
  | succ n =>
   simp only[Zn,List.mem_append,List.mem_map]at hr;rcases hr with⟨q,h1,rfl⟩ | h
   ·rcases List.mem_cons.1 hx with e | e
    ·simp[e]
    ·exact List.mem_cons_of_mem _ (ih n q h1 x e)
   ·exact List.mem_cons_of_mem _ (ih (n+1) r h x hx)
theorem Cb {gs:List Gp}{n:Nat}(h:gs.length < n):Zn gs n=[]:=by
 refine List.eq_nil_iff_forall_not_mem.2 fun r hr => ?_;have h1:∀ (gs:List Gp) (n:Nat),∀ r∈Zn gs n,r.length≤gs.length:=by
  intro gs
  induction gs with
  | nil=>intro n r hr;cases n with
   | zero=>simp[Zn]at hr;simp[hr]
   | succ n=>simp[Zn]at hr
  | cons g gs ih =>
   intro n r hr;cases n with
   | zero=>rw[YB]at hr;simp at hr;simp[hr]
   | succ n =>
    simp only[Zn,List.mem_append,List.mem_map]at hr;rcases hr with⟨q,h1,rfl⟩ | h
    ·rw[List.length_cons,List.length_cons];have:=ih n q h1;omega
    ·rw[List.length_cons];have:=ih (n+1) r h;omega
 have h2:=h1 gs n r hr;have h3:=Jl gs n r hr;omega
theorem UL {gs:List Gp}:∀ {L:List Gp},L.Sublist gs→L∈Zn gs L.length:=by
 intro L h
 induction h with
 | slnil=>simp[Zn]
 | @cons l₁ l₂ a h ih =>
  cases l₁ with
  | nil=>rw[List.length_nil,YB];simp
  | cons b l=>rw[List.length_cons]at ih ⊢;simp only[Zn,List.mem_append];exact .inr ih
 | @cons_cons l₁ l₂ a h ih =>
  rw[List.length_cons];simp only[Zn,List.mem_append,List.mem_map];exact .inl ⟨l₁,ih,rfl⟩
theorem Cc:∀ (gs:List Gp) (n:Nat),∀ r∈Zn gs n,r.Sublist gs:=by
 intro gs
 induction gs with
 | nil=>intro n r hr;cases n with
  | zero=>simp[Zn]at hr;simp[hr]
  | succ n=>simp[Zn]at hr
 | cons g gs ih =>
  intro n r hr;cases n with
  | zero=>rw[YB]at hr;simp at hr;subst hr;exact List.nil_sublist _
  | succ n =>
   simp only[Zn,List.mem_append,List.mem_map]at hr;rcases hr with⟨q,h1,rfl⟩ | h
   ·exact(ih n q h1).cons_cons g
   ·exact(ih (n+1) r h).cons g
def Ox (gs:List Gp):List (List Gp):=(List.range 4).flatMap (Zn gs)
def Qh (ok:List Gp→Bool) (gs:List Gp):Option (List Gp):=(Ox gs).find? ok
def YL (gs:List Gp) (n:Nat):List (List Gp):=(List.range n).flatMap (Zn gs)
theorem Qf (gs:List Gp) (n:Nat):YL gs (n+1)=YL gs n++Zn gs n:=by
 unfold YL;rw[List.range_succ,List.flatMap_append];simp
theorem F3 {gs:List Gp}{n:Nat}(h:gs.length < n):∀ m,YL gs (n+m)=YL gs n:=by
 intro m
 induction m with
 | zero=>rfl
 | succ m ih=>rw[show n+(m+1)=(n+m)+1 by omega,Qf,ih,Cb Om,List.append_nil]
theorem Vm {α:Type}{f:α→Bool}{a b:List α}(h:∀ x∈a,f x=false):(a++b).find? f=b.find? f:=by
 rw[List.find?_append,List.find?_eq_none.2 (fun x hx=>by simp[h x hx])];rfl
theorem RE {ok:List Gp→Bool}{gs:List Gp}{n k:Nat}{L:List Gp}(hn:n < 4) (h1:∀ x∈YL gs n,ok x=false) (h2:∀ x∈(Zn gs n).take k,ok x=false) (h3:(Zn gs n)[k]? = some L) (h4:ok L=true):Qh ok gs=some L:=by
 have e:Ox gs=YL gs n++((Zn gs n).take k++(L :: ((Zn gs n).drop (k+1)++(List.range (3 - n)).flatMap fun i=>Zn gs (n+1+i)))):=by
  have hk:=(List.getElem?_eq_some_iff.1 h3)
  have e1:L :: (Zn gs n).drop (k+1)=(Zn gs n).drop k:=by rw[List.drop_eq_getElem_cons hk.1,hk.2]
  have e2:(Zn gs n).take k++(L :: ((Zn gs n).drop (k+1)++(List.range (3 - n)).flatMap fun i=>Zn gs (n+1+i)))=Zn gs n++(List.range (3 - n)).flatMap fun i=>Zn gs (n+1+i):=by
   rw[← List.cons_append,e1,← List.append_assoc,List.take_append_drop]
  rw[e2,← List.append_assoc,← Qf];unfold Ox YL;have e3:List.range 4=List.range (n+1)++(List.range (3 - n)).map (n+1 + ·):=by
   have:4=(n+1)+(3 - n):=Om;rw[← List.range_add,← this]
  rw[e3,List.flatMap_append,List.flatMap_map]
 unfold Qh;rw[e,Vm h1,Vm h2];simp[h4]
theorem Kv {ok:List Gp→Bool}{gs:List Gp}(h:∀ x∈YL gs 4,ok x=false):Qh ok gs=none:=List.find?_eq_none.2 fun x hx=>by simp[h x hx]
end Go.Proofs.YtngekjpklkjnbaaGreat
namespace Go.Proofs.YtngekjpklkjnbaaGreat
open Go.RowKit
theorem U7 {f:Gp→Bool}{p:List (List Ins)}(h1:p.length≤3) (h2:∀ r∈p,r.length≤7):(Y1 f p).flatten.length≤42:=by
 have hr:=Bh (f:=f) (p:=p) (n:=7) h2;have hl:=YQ f p;generalize Y1 f p=q at *;have:∀ (q:List (List Ins)),(∀ r∈q,r.length≤2 * 7)→q.flatten.length≤q.length * (2 * 7):=by
  intro q
  induction q with
  | nil=>simp
  | cons r q ih =>
   intro h;have a:=h r Sm;have b:=ih (fun r hr=>h r (by simp[hr]));rw[List.flatten_cons,List.length_append,List.length_cons,Nat.add_mul];omega
 have:=this q hr;omega
end Go.Proofs.YtngekjpklkjnbaaGreat