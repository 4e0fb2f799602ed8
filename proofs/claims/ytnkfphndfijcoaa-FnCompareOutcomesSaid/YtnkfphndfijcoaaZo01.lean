/-
  Arguments that are bytes, as the laws take them.
-/
import Derived.Test.YtnkfphndfijcoaaZo00
import Derived.Test.YtnkfphndfijcoaaRows
import Derived.ProofKit
import Derived.Deep.Slices
set_option maxHeartbeats 6400000
set_option maxRecDepth 100000
namespace Go.Proofs.Ytnkfphndfijcoaa
open Go.RowKit
def Pick (n:Int) (v:Value) (_:World):Prop:=∃ q:Int,v = .int .i64 q∧0≤q∧(1≤n→q < n)
theorem Outside.of_below {lo hi:Nat}{w w':World}(h:Below w.heap.size w w'):Outside lo hi w w':=⟨h.os,h.tape,h.output,h.size,fun k hk _=>h.block k hk⟩
theorem xor64_nat (a b:Nat) (ha:a < 9223372036854775808) (hb:b < 9223372036854775808):bits .xor .i64 (a:Int) (b:Int)=((a ^^^ b:Nat):Int):=by
 have hx:a ^^^ b < 2 ^ 63:=Nat.xor_lt_two_pow (by omega) (by omega);have h1:(BitVec.ofInt 64 (a:Int)).toNat=a:=by
  rw[BitVec.ofInt_natCast,BitVec.toNat_ofNat];exact Nat.mod_eq_of_lt (by omega)
 have h2:(BitVec.ofInt 64 (b:Int)).toNat=b:=by
  rw[BitVec.ofInt_natCast,BitVec.toNat_ofNat];exact Nat.mod_eq_of_lt (by omega)
 show IntKind.i64.wrap ((BitVec.ofInt 64 (a:Int) ^^^ BitVec.ofInt 64 (b:Int)).toNat:Int)=_;rw[BitVec.toNat_xor,h1,h2,IntKind.wrap_i64];omega
theorem xor64_nonneg (x:Int) (h0:0≤x) (h1:x < 9223372036854775808):0≤bits .xor .i64 x (x / 64):=by
 obtain⟨X,rfl⟩:=Int.eq_ofNat_of_zero_le h0;have d:((X:Int) / 64)=((X / 64:Nat):Int):=by simp
 rw[d,xor64_nat X (X / 64) (by omega) (by omega)];omega
theorem pick_any (b:Nat) (a:Option Addr) (c:Nat) (xs:List Int) (p n:Int) (w:World) (hr:Rd w b a c xs p) (hp:p≤1000000000) (hn:n≤1000000000) (hn0 : -1000000000≤n) :
 Calls Try.prog 14 #[.pointer (some ⟨b,0,none⟩),.int .i64 n] w (RetRd w b a c xs p 1 (Pick n)):=by
 have h0:=hr.c0;have h1:=hr.c1;have hf:=hr.f1;have hlt:=hr.lt;have hp0:=hr.p0
 have HS:=hide (hr.step (p+1) (by omega));have HO:Hid (Outside b (b+1) w (w.setCell ⟨b,1,none⟩ (.int .i64 (p+1)))):=hide ((Outside.refl b (b+1) w).grown (row:=some b) ⟨rfl,rfl,rfl,by simp,fun q _ hq=>heap_setCell_other w ⟨b,1,none⟩ q _ (fun e=>hq (by simp[e]))⟩ (fun q hq=>by simp at hq;omega));by_cases hn1:n < 1
 ·go_enter Try.func14,Try.ntmps14
  go_wp2_with fail;go_ret;exact⟨_,_,rfl,⟨0,rfl,by omega,fun h=>by omega⟩,Int.le_refl _,HS.out,HO.out⟩
 ·have hn1':decide (n < 1)=false:=decide_eq_false hn1
  obtain⟨aa,cc,hv,hc1,hc2,hc3,-⟩:=hr.rep.open;simp only[Value.slice.injEq,true_and]at hv;obtain⟨rfl,rfl⟩:=hv;by_cases hx:xs.length=0
  ·have hx':((xs.length:Int)==0)=true:=by rw[hx];rfl
   generalize hl:xs.length=l at *;clear hl;go_enter Try.func14,Try.ntmps14;go_wp2_with fail;go_ret;exact⟨_,_,rfl,⟨0,rfl,by omega,fun h=>by omega⟩,Int.le_refl _,HS.out,HO.out⟩
  ·have hx':((xs.length:Int)==0)=false:=by simp;intro h;exact hx (by rw[h];rfl)
   obtain⟨P,rfl⟩:=Int.eq_ofNat_of_zero_le hp0;by_cases hk:P < xs.length
   ·obtain⟨y,hy⟩:=get_of_lt hk
    obtain⟨g,o,rfl,hg,i0⟩:=hr.rep.byte hy;have hgb:=hr.far g o (by intro e;simp[e]at hk) rfl;have hyb:=hr.by' y (List.mem_of_getElem? hy);have hk':=nat_of_lt hk;have hgne:g≠b:=by omega
    clear hy hr;generalize xs.length=l at *;go_enter Try.func14,Try.ntmps14;go_wp2_with fail;go_ret;exact⟨_,_,rfl,⟨y % n,rfl,Int.emod_nonneg _ (by omega),fun h=>Int.emod_lt_of_pos _ (by omega)⟩,Int.le_refl _,HS.out,HO.out⟩
   ·have hxl:0 < xs.length:=by omega
    obtain⟨K1,hK1⟩:∃ K:Nat,(P:Int) % (xs.length:Int)=(K:Int):=⟨P % xs.length,by simp⟩
    obtain⟨K2,hK2⟩:∃ K:Nat,((P:Int) * 7+3) % (xs.length:Int)=(K:Int):=⟨(P * 7+3) % xs.length,by simp⟩
    have hl1:(K1:Int) < xs.length:=by rw[← hK1];exact Int.emod_lt_of_pos _ (by omega)
    have hl2:(K2:Int) < xs.length:=by rw[← hK2];exact Int.emod_lt_of_pos _ (by omega)
    have hl1':K1 < xs.length:=by omega
    have hl2':K2 < xs.length:=by omega
    obtain⟨y1,hy1⟩:=get_of_lt hl1';obtain⟨y2,hy2⟩:=get_of_lt hl2';obtain⟨g,o,rfl,hg,i0⟩:=hr.rep.byte hy1;obtain⟨g',o',hge,hg',j0⟩:=hr.rep.byte hy2;simp only[Option.some.injEq,Addr.mk.injEq,and_true]at hge;obtain⟨rfl,rfl⟩:=hge;have hgb:=hr.far g o (by intro e;simp[e]at hxl) rfl;have hyb1:=hr.by' y1 (List.mem_of_getElem? hy1);have hyb2:=hr.by' y2 (List.mem_of_getElem? hy2);have hgne:g≠b:=by omega
    have hkge:decide ((P:Int) < xs.length)=false:=decide_eq_false (by omega);have hq1:0≤(P:Int) / (xs.length:Int):=Int.ediv_nonneg (by omega) (by omega);have hq2:(P:Int) / (xs.length:Int)≤(P:Int):=Int.ediv_le_self _ (by omega);clear hy1 hy2 hr hx;generalize xs.length=l at *;generalize hQ:(P:Int) / (l:Int)=Q at *;have hQ2:(P:Int) / (l:Int)=Q:=hQ;go_enter Try.func14,Try.ntmps14;go_wp2_with fail;refine wp_region_bw (by kernel_rfl) (by kernel_rfl) ?_
    repeat (go_big_quiet_step (fail))
    refine wpQuiet_nil ?_;intro w1 hb1;go_wp2_with fail;go_ret;have hX0:0≤y1 * 131+y2 * 1117+(P:Int) * 29+Q * 53:=by omega
    have hX1:y1 * 131+y2 * 1117+(P:Int) * 29+Q * 53 < 9223372036854775808:=by omega
    have hz:=xor64_nonneg _ hX0 hX1;refine⟨_,_,rfl,⟨_,rfl,Int.tmod_nonneg _ hz,fun h=>Int.tmod_lt_of_pos _ (by omega)⟩,Int.le_refl _,HS.out.keep hb1 (by simpa using hlt),HO.out.trans (Outside.of_below hb1)⟩
theorem cell_of_block3 {w w':World}{b:Nat}(h:w'.heap[b]? = w.heap[b]?) (o:Nat):w'.cell? ⟨b,o,none⟩=w.cell? ⟨b,o,none⟩:=by
 unfold World.cell?;rw[h]
def OneOf (ys:List Int) (v:Value) (_:World):Prop:=∃ y∈ys,v = .int .i64 y
theorem num_any (b:Nat) (a:Option Addr) (c:Nat) (xs:List Int) (p:Int) (v:Value) (ys:List Int) (w:World) (hr:Rd w b a c xs p) (hp:p≤1000000000) (hy:Rep IntE w v ys) (hl:ys.length≤100) (h0:1≤ys.length) (hfar:∀ g o,v = .slice (some ⟨g,o,none⟩) ys.length (match v with | .slice _ _ c=>c | _=>0)→g≠b) :
 Calls Try.prog 30 #[.pointer (some ⟨b,0,none⟩),v] w (RetRd w b a c xs p 1 (OneOf ys)):=by
 obtain⟨a2,c2,rfl,-,-,-,hy⟩:=hy.open;have HY:=hide hy;clear hy;have HF:=hide hfar;clear hfar;have HP:=hide (fun w' h=>pick_any b a c xs p ys.length w' h hp (by omega) (by omega));generalize hn:ys.length=n at *;have H:=hide hn;clear hn;go_enter Try.func30,Try.ntmps30;go_wp2_with fail
 (with_reducible refine(HP.out _ hr).mono ?_);rintro e w1 ⟨v1,p1,rfl,⟨q,rfl,hq0,hq1⟩,hp1,hr1,ho1⟩
 obtain⟨Q,rfl⟩:=Int.eq_ofNat_of_zero_le hq0;have hQ:Q < n:=by have:=hq1 (by omega);omega
 obtain⟨y,hyq⟩:=get_of_lt (xs:=ys) (k:=Q) (by rw[H.out];exact hQ);obtain⟨g,o,rfl,hg,i0⟩:=HY.out.int hyq;have hgb:=HF.out g o rfl;have i1:w1.cell? ⟨g,o+Q,none⟩=some (.int .i64 y):=by
  rw[← i0];refine cell_of_block3 (ho1.block g hg (by omega)) _
 have hQ':=nat_of_lt hQ;have hm:=List.mem_of_getElem? hyq;clear hyq i0;go_wp2_with fail;go_ret;exact⟨_,p1,rfl,⟨y,hm,rfl⟩,hp1,hr1,ho1⟩
end Go.Proofs.Ytnkfphndfijcoaa
namespace Go.Proofs.Ytnkfphndfijcoaa
open Go.RowKit
theorem belowAlloc (w:World) (o:Obj):Below w.heap.size w (w.alloc o):=(Below.refl _ _).alloc (Nat.le_refl _) o
theorem Outside.setNew {lo hi:Nat}{w w':World}(h:Outside lo hi w w') {g:Nat}(hg:w.heap.size≤g) (j:Nat) (v:Value):Outside lo hi w (w'.setCell ⟨g,j,none⟩ v):=
 ⟨h.os,h.tape,h.output,by simpa using h.size,fun k hk hlh=>(heap_setCell_other w' ⟨g,j,none⟩ k v (fun e=>by simp at e;omega)).trans (h.block k hk hlh)⟩
theorem Outside.allocNew {lo hi:Nat}{w w':World}(h:Outside lo hi w w') (o:Obj):Outside lo hi w (w'.alloc o):=h.trans (Outside.of_below (belowAlloc _ _))
theorem Rd.setNew {w:World}{b:Nat}{a:Option Addr}{c:Nat}{xs:List Int}{p:Int}(h:Rd w b a c xs p) {g:Nat}(hg:b < g) (j:Nat) (v:Value):Rd (w.setCell ⟨g,j,none⟩ v) b a c xs p:=
 h.keep (B:=b+1) ((Below.refl _ _).setCell (show b+1≤g from hg) v) (Nat.lt_succ_self _)
theorem Rd.allocNew {w:World}{b:Nat}{a:Option Addr}{c:Nat}{xs:List Int}{p:Int}(h:Rd w b a c xs p) (o:Obj):Rd (w.alloc o) b a c xs p:=
 h.keep (belowAlloc w o) h.lt
theorem rep_lit (w:World) (ys:List Int) (T:TypeId) (h:ys.length≤100):Rep IntE (w.alloc (.cells (ys.map (Value.int .i64)).toArray T)) (.slice (some ⟨w.heap.size,0,none⟩) ys.length ys.length) ys:=by
 refine⟨_,_,rfl,Nat.le_refl _,by unfold maxLen;omega,fun i x hx=>⟨w.heap.size,0,rfl,fun j u hu => ?_⟩⟩;rw[cell_of_row _ _ _ _ T (0,0) (heap_alloc_new w _)];have hj:j=0:=by have:=(List.getElem?_eq_some_iff.1 hu).1;simp[IntE]at this;omega
 subst hj;simp[IntE]at hu;simp[IntE,hx,hu]
end Go.Proofs.Ytnkfphndfijcoaa
namespace Go.Proofs.Ytnkfphndfijcoaa
open Go.RowKit
end Go.Proofs.Ytnkfphndfijcoaa
namespace Go.Proofs.Ytnkfphndfijcoaa
open Go.RowKit
end Go.Proofs.Ytnkfphndfijcoaa
namespace Go.Proofs.Ytnkfphndfijcoaa
open Go.RowKit Go.Deep Go.ChangeShapes Go.WideShapes Go.ChangeAt
theorem addr_of_cell {w:World}{a:Addr}{v:Value}(h:w.cell? a=some v):a.spot=none:=by
 unfold World.cell? at h;split at h
 ·cases hs:a.spot with
  | none=>rfl
  | some x=>simp[hs]at h
 ·cases h
theorem cells_get {w:World}{base:Nat}{a:Addr}{n:Nat}{cs:List Value}(h:w.cells? base a n=some cs) {j:Nat}{u:Value}(hu:cs[j]? = some u):w.cell? (a.add j)=some u:=by
 unfold World.cells? at h;split at h
 ·have hl:=mapM_some_length h
  have hj:j < n:=by
   have:=(List.getElem?_eq_some_iff.1 hu).1;rw[hl]at this;simpa using this
  have:=mapM_some_get h j j (by simp[hj]);rw[this];exact hu
 ·cases h
theorem add_none (b o j:Nat):(⟨b,o,none⟩:Addr).add j=⟨b,o+j,none⟩:=by unfold Addr.add;split <;> simp_all
section
variable {H : Type} {enc : TypeId × Value → H} {P : Program} {w : World} {base : Nat} {spare : Nat → Bool} {held : Bool} {fuel : Nat} {cs : List Value} {x : DataW H × List MemPlace}
theorem rep_of_trod {α:Type} [Inhabited α] (E:El α) {t e:TypeId}(ht:P.underlying t=some (.slice e)) (hc:P.cellsOf e=E.sz) (Q:α→Prop)
 (hel:∀ n cs x,DataW.trod enc P w base spare held n e cs=some x→∃ y,cs=E.c y∧Q y) (h:DataW.trod enc P w base spare held fuel t cs=some x):∃ v xs,cs=[v]∧Rep E w v xs∧∀ y∈xs,Q y:=by
 rcases open_slice ht h with⟨rfl,_⟩ | ⟨a,len,cap,m,n,D,Pl,rfl,hb,hl,hm,hmm,_,hx⟩
 ·exact⟨_,[],rfl,Rep.nil w,fun y h=>by simp at h⟩
 ·have hlm:len≤m:=by rw[hmm];split <;> omega
  have each:∀ i,i < len→∃ y,w.cells? base (a.add (i * E.sz)) E.sz=some (E.c y)∧Q y:=fun i hi=>by
   obtain⟨cs',h1,h2⟩:=hx i (by omega);obtain⟨y,rfl,hq⟩:=hel n cs' _ h2;rw[hc]at h1;exact⟨y,h1,hq⟩
  obtain⟨f,hf⟩:=choose_lt each;refine⟨_,(List.range len).map f,rfl,⟨some a,cap,by simp,by simpa using hl,hm,fun i y hy => ?_⟩,?_⟩
  ·simp only[List.getElem?_map]at hy
   have hi:i < len:=by
    rcases Nat.lt_or_ge i len with h | h
    ·exact h
    ·rw[List.getElem?_eq_none (by simpa using h)]at hy;simp at hy
   rw[List.getElem?_range hi]at hy;simp at hy;subst hy;have h0:=cells_get (hf 0 (by omega)).1 (El.first (E:=E) (f 0)).choose_spec;rw[Nat.zero_mul]at h0;have hsp:a.spot=none:=addr_of_cell (a:=a) (by simpa[Addr.add] using h0);obtain⟨ab,ao,asp⟩:=a;simp at hsp;subst hsp;refine⟨ab,ao,rfl,fun j u hu => ?_⟩;have:=cells_get (hf i hi).1 hu;rwa[add_none,add_none]at this
  ·intro y hy
   simp only[List.mem_map,List.mem_range]at hy;obtain⟨i,hi,rfl⟩:=hy;exact(hf i hi).2
instance:Inhabited Slc:=⟨⟨none,0,0⟩⟩
instance:Inhabited Ins:=⟨⟨0,0,0,0⟩⟩
end
section
variable {H : Type} {enc : TypeId × Value → H} {P : Program}
theorem trodAll_below (hl:laidOutB P=true) {W W':World}(hb:Below W.heap.size W W'):∀ {ts:List TypeId}{vs:List Value}{ds:List (DataW H)}{ps:List MemPlace},(∀ t∈ts,P.readableRec t=true∧t < P.types.size) →
 DataW.TrodAll enc P W 0 (fun _=>true) true ts vs ds ps→DataW.TrodAll enc P W' 0 (fun b=>decide (b < W.heap.size)) true ts vs ds ps
 | [],[],[],ps,_,h=>h
 | t :: ts,v :: vs,d :: ds,ps,ht,h=>by
  have hlt:=DataW.TrodAll.lt h;obtain⟨p,q,h1,h2,rfl⟩:=h;exact⟨p,q,Below.trod hl (ht t (List.mem_cons_self ..)).1 (ht t (List.mem_cons_self ..)).2 h1 hb (fun x hx=>hlt x (List.mem_append_left _ hx)),trodAll_below hl hb (fun t ht'=>ht t (List.mem_cons_of_mem _ ht')) h2,rfl⟩
 | [],[],_ :: _,_,_,h=>h.elim
 | [],_ :: _,_,_,_,h=>h.elim
 | _ :: _,[],_,_,_,h=>h.elim
 | _ :: _,_ :: _,[],_,_,h=>h.elim
theorem post_law {f:Func}{s:ChangeSpec}{apart:Bool}{W W':World}{args:Array Value}{ds:List (DataW H)}{before:List MemPlace}{tb:TypeId}(hl:laidOutB P=true) (hts:∀ t∈f.params.toList,P.readableRec t=true∧t < P.types.size)
 (hv:s.vars=[]) (hs:s.fn H (ds++[]) = { results:=[.lit (.bool true)],args:=ds,vars:=[] }) (hr:f.resultTypes = #[tb]) (htb:P.underlying tb=some .bool)
 (hW:DataW.Whole enc P f.params.toList s.vars apart W args.toList ds [] before) (hb:Below W.heap.size W W'):s.post enc P f apart true false false W args (.bool true) W':=by
 have hW2:=hW;obtain⟨p,q,hA,hV,rfl,hfz,hnd⟩:=hW2;rw[hv]at hV;obtain⟨_,rfl⟩:=trodVars_none hV;refine⟨ds,[],_,[],p,[],hW,?_,?_,?_,hb.frame _,fun h=>by cases h⟩
 ·rw[hs,hr]
  exact trodAll_mk1 (shut_bool htb _)
 ·rw[hs]
  exact trodAll_below hl hb hts hA
 ·rw[hs,hv]
  rfl
end
end Go.Proofs.Ytnkfphndfijcoaa
namespace Go.Proofs.Ytnkfphndfijcoaa
open Go.RowKit Go.Deep Go.ChangeShapes Go.WideShapes Go.ChangeAt
theorem Try.own:ownKnob Try.prog.godebug=none:=by kernel_rfl
theorem Try.laidOut:laidOutB Try.prog=true:=by kernel_rfl
theorem Try.cellsByte:Try.prog.cellsOf 5=1:=by kernel_rfl
section
variable {H : Type} {enc : TypeId × Value → H} {w : World} {base : Nat} {spare : Nat → Bool} {held : Bool}
theorem bytes_of_trod {v:Value}{d:DataW H}{ps:List MemPlace}(hok:∃ a len cap,v = .slice a len cap) (h:DataW.Trod enc Try.prog w base spare held 22 v d ps):∃ p,Rep ByteE w v p∧∀ x∈p,0≤x∧x≤255:=by
 obtain⟨fuel,hf⟩:=h;obtain⟨v',p,hv,hp,hq⟩:=rep_of_trod ByteE Try.underlying22 Try.cellsByte (fun x=>0≤x∧x≤255) (fun n cs x hx=>by
  obtain⟨i,rfl,hi⟩:=DataW.trod_int Try.underlying5 hx;exact⟨i,rfl,by
   have:=hi.2;simp only[Lit.wf,Bool.and_eq_true,decide_eq_true_eq,show IntKind.u8.min=0 from by decide,show IntKind.u8.max=255 from by decide]at this;omega⟩) hf
 obtain⟨a,len,cap,rfl⟩:=hok;simp[Value.cells]at hv;subst hv;exact⟨p,hp,hq⟩
end
end Go.Proofs.Ytnkfphndfijcoaa