/-
  slices.Insert of one instruction into a slice that a call made. Condition: bounds on lengths.
-/
import Derived.Test.YtlddmagfbcomgaaGreatZq05
import Derived.Shelf.RegionOpenPlain
import Derived.Lib.AppendZerosOnto
import Derived.Lib.Overlaps
import Derived.Deep.RegionLaw
set_option maxHeartbeats 6400000
set_option maxRecDepth 100000
namespace Go.Proofs.YtlddmagfbcomgaaGreat
open Go.RowKit
theorem run_copy_rowE {P:Program} {sz:Nat} (w:World) (dT sT ty elem:TypeId) (g o dLen dCap:Nat) (a:Addr) (sLen sCap:Nat) (cur:Array Value) (t:TypeId) (cs:List Value)
 (hu:P.underlying dT=some (.slice elem)) (hs:(P.info? elem).map (·.size)=some sz)
 (hg:w.heap[g]? = some (.cells cur t (0,0))) (hn:cs.length=Nat.min sLen dLen * sz)
 (hsrc:∀ j v,cs[j]? = some v→w.cell? (a.add j)=some v) (hfit:o+cs.length≤cur.size) (h1:∀ v∈cs,v.oneCell'=true) :
 (Builtin.copy_ #[dT,sT] ty #[.slice (some ⟨g,o,none⟩) dLen dCap, .slice (some a) sLen sCap]).run P w =
  .ok (goInt (Nat.min sLen dLen)) (w.setRow g (cur.toList.take o++cs++cur.toList.drop (o+cs.length)).toArray):=by
 have hl:=run_loadCells_list (P:=P) w a cs hsrc
 have hst:=run_storeCells_at P g o t cs 0 cur w hg (by simpa using hfit) h1
 cases hq:P.info? elem with
 | none=>simp [hq] at hs
 | some i =>
  have hi:i.size=sz:=by simpa [hq] using hs
  simp [Builtin.copy_,run_underlying hu,Builtin.lenOf,Builtin.firstCells,sizeOf,typeInfo,hq,hi,← hn,hl,hst]
theorem wpList_cp {P:Program} (w:World) {ops:Array Oper} {rest:List Oper} {o:Oper} {a:Act} {Q:Exit→Act→World→Prop} (hgd:o.guard=none) (d s:Operand) (t t':TypeId)
 (ho:o.op = .call { callee:=.builtin .copy,args:=#[d,s],argTypes:=#[t,t'] }) (v u:Value) (hd:a.eval d=v) (hs:a.eval s=u) {v':Value} {w':World}
 (hr:(Builtin.copy_ #[t,t'] o.type #[v,u]).run P w = .ok v' w') (h:wpList P ops Q rest (a.put o.dst v') w'):wpList P ops Q (o :: rest) a w:=by
 refine wpList_plain hgd fun K hK => ?_
 unfold Oper.wp execOp
 simp only [ho,resolve,invoke,builtin,Sem.run_bind,Sem.run_pure,Result.andThen_ok,List.map_toArray,List.map_cons,List.map_nil,hd,hs,hr]
 exact hK _ _ h
theorem step_cp {P:Program} {ops:Array Oper} {o:Oper} {a:Act} {w:World} {K:Act→World→Prop} {Q:Exit→Act→World→Prop} {E:Prop}
 (hg:o.guard=none) (d x:Operand) (dT sT:TypeId) (hop:o.op=Op.call { callee:=Callee.builtin Builtin.copy,args:=#[d,x],argTypes:=#[dT,sT] })
 (v u:Value) (hd:a.eval d=v) (hx:a.eval x=u) {v':Value} {w':World} (hr:(Builtin.copy_ #[dT,sT] o.type #[v,u]).run P w = .ok v' w') (hK:K (a.put o.dst v') w') :
 if Region.wanted o (yielded ops a.tmps)=true then Oper.wp P o a w K Q else E:=by
 have hw:Region.wanted o (yielded ops a.tmps)=true:=by simp [Region.wanted,hg]
 rw [if_pos hw]
 unfold Oper.wp
 simp [execOp,hop,resolve,invoke,builtin,hd,hx,hr,Result.andThen]
 exact hK
theorem cell_of_heap {w:World} {b k:Nat} {cur:Array Value} {t:TypeId} {v:Value} (h:w.heap[b]? = some (.cells cur t (0,0))) (hk:cur[k]? = some v):w.cell? ⟨b,k,none⟩=some v:=by
 simp [World.cell?,h,hk]
theorem addr_add (b o j:Nat):(⟨b,o,none⟩:Addr).add j=⟨b,o+j,none⟩:=by unfold Addr.add;split <;> simp_all
def InsPost (w:World) (base:Nat) (v:Value) (ys:List Ins) (e:Ending) (w':World):Prop:=
 ∃ v',e = .returned v'∧Own InsE 74 w' base v' ys∧w.grownBy w' v.ownBlock∧(v'.ownBlock=v.ownBlock∨∀ q,v'.ownBlock=some q→w.heap.size≤q)
theorem ins_cells (x:Ins):InsE.c x=[.int .i64 x.op, .int .i64 x.loc, .int .i64 x.reg, .int .i64 x.val]:=rfl
theorem insSize (w:World):(Go.sizeOf 74).run Tryz.prog w = .ok 4 w:=by
 obtain ⟨it,hi,hz0,hz1,hz2⟩:=info_parts Tryz.infoIns
 simp [sizeOf,typeInfo,hi,hz1]
theorem setRow_grown (w:World) (g:Nat) (vs:Array Value):w.grownBy (w.setRow g vs) (some g):=⟨rfl,rfl,rfl,by simp,fun k _ hk=>setRow_other w g k _ (fun e=>hk (by simp [e]))⟩
theorem take_app {α:Type} (a b:List α) (n:Nat) (h:a.length=n):(a++b).take n=a:=by subst h;simp
theorem drop_app {α:Type} (a b:List α) (n:Nat) (h:a.length=n):(a++b).drop n=b:=by subst h;simp
theorem InsertI_room (g n cap i vb base:Nat) (xs:List Ins) (x:Ins) (w:World) (h:Own InsE 74 w base (.slice (some ⟨g,0,none⟩) n cap) xs) (hi:i < n) (hl:n≤1048576) (hroom:n+1≤cap) (hvb:vb≠g)
 (hv:w.heap[vb]? = some (.cells #[.int .i64 x.op, .int .i64 x.loc, .int .i64 x.reg, .int .i64 x.val] 74 (0,0))) :
 Calls Tryz.prog 52 #[.slice (some ⟨g,0,none⟩) n cap, .int .i64 i, .slice (some ⟨vb,0,none⟩) 1 1] w (InsPost w base (.slice (some ⟨g,0,none⟩) n cap) (xs.take i++x :: xs.drop i)):=by
 have hln:=h.len
 rcases h.2 with ⟨h2,_⟩ | ⟨g',cap',cur,h2,hb,hg,hnc,hcm,hcs,htake⟩
 ·simp at h2
 simp only [Value.slice.injEq,Option.some.injEq,Addr.mk.injEq,and_true] at h2
 obtain ⟨-,rfl,rfl⟩:_∧g=g'∧cap=cap':=by
  refine ⟨trivial, ?_, ?_⟩ <;> simp_all
 rw [← hln] at htake hnc
 have hcs:cur.size=cap * 4:=hcs
 have htake:cur.toList.take (n * 4)=xs.flatMap InsE.c:=htake
 have hXl:(xs.flatMap InsE.c).length=n * 4:=by rw [InsE.length,← hln];rfl
 have hDl:((xs.drop i).flatMap InsE.c).length=(n - i) * 4:=by rw [InsE.length,List.length_drop,← hln];rfl
 have hTl:((xs.take i).flatMap InsE.c).length=i * 4:=by rw [InsE.length,List.length_take,← hln,Nat.min_eq_left (by omega)];rfl
 have hsplit:xs.flatMap InsE.c=(xs.take i).flatMap InsE.c++(xs.drop i).flatMap InsE.c:=by rw [← List.flatMap_append,List.take_append_drop]
 have hcurl:cur.toList.length=cap * 4:=by rw [Array.length_toList,hcs]
 have hgw:g < w.heap.size:=(Array.getElem?_eq_some_iff.1 hg).1
 have hcelli:∀ k v,(xs.flatMap InsE.c)[k]? = some v→cur[k]? = some v:=fun k v hk=>by
  rw [← htake,List.getElem?_take] at hk
  split at hk
  ·rw [Array.getElem?_toList] at hk;exact hk
  ·cases hk
 obtain ⟨C1,hC1⟩:∃ C1:Array Value,C1=(cur.toList.take ((i+1) * 4)++(xs.drop i).flatMap InsE.c++cur.toList.drop ((i+1) * 4+((xs.drop i).flatMap InsE.c).length)).toArray:=⟨_,rfl⟩
 have hsz:(Tryz.prog.info? 74).map (·.size)=some 4:=by kernel_rfl
 have hC1s:C1.size=cap * 4:=by
  rw [hC1];simp only [List.size_toArray,List.length_append,List.length_take,List.length_drop,hDl,hcurl];omega
 have hcp1:∀ ty dc sc,(Builtin.copy_ #[71,71] ty #[.slice (some ⟨g,(i+1) * 4,none⟩) (n+1 - (i+1)) dc, .slice (some ⟨g,i * 4,none⟩) (n+1 - i) sc]).run Tryz.prog w.drew = .ok (goInt (n - i:Nat)) (w.drew.setRow g C1):=fun ty dc sc=>by
  have hm:Nat.min (n+1 - i) (n+1 - (i+1))=n - i:=by simp only [Nat.min_def];split <;> omega
  have:=run_copy_rowE (P:=Tryz.prog) (sz:=4) w.drew 71 71 ty 74 g ((i+1) * 4) (n+1 - (i+1)) dc ⟨g,i * 4,none⟩ (n+1 - i) sc cur 74 ((xs.drop i).flatMap InsE.c) Tryz.underlying71 hsz hg (by rw [hDl,hm])
   (fun j v hj=>by
    rw [addr_add]
    refine cell_of_heap (w:=w.drew) hg (hcelli _ v ?_)
    rw [hsplit,List.getElem?_append_right (by omega),hTl,Nat.add_sub_cancel_left]
    exact hj) (by rw [hDl,hcs];omega) (fun v hv=>by
    rw [List.mem_flatMap] at hv
    obtain ⟨y,_,hy⟩:=hv
    exact InsE.one y v hy)
  rw [this,hm,hC1]
 obtain ⟨C2,hC2⟩:∃ C2:Array Value,C2=(C1.toList.take (i * 4)++InsE.c x++C1.toList.drop (i * 4+(InsE.c x).length)).toArray:=⟨_,rfl⟩
 have hg1:(w.drew.setRow g C1).heap[g]? = some (.cells C1 74 (0,0)):=setRow_heap w.drew g cur _ _ _ hg
 have hv1:(w.drew.setRow g C1).heap[vb]? = some (.cells #[.int .i64 x.op, .int .i64 x.loc, .int .i64 x.reg, .int .i64 x.val] 74 (0,0)):=(setRow_other w.drew g vb _ hvb).trans hv
 have hcp2:∀ (W:World),W.heap=(w.drew.setRow g C1).heap→∀ ty dc,(Builtin.copy_ #[71,71] ty #[.slice (some ⟨g,i * 4,none⟩) (n+1 - i) dc, .slice (some ⟨vb,0,none⟩) 1 1]).run Tryz.prog W = .ok (goInt 1) (W.setRow g C2):=fun W hW ty dc=>by
  have hm:Nat.min 1 (n+1 - i)=1:=by simp only [Nat.min_def];split <;> omega
  have:=run_copy_rowE (P:=Tryz.prog) (sz:=4) W 71 71 ty 74 g (i * 4) (n+1 - i) dc ⟨vb,0,none⟩ 1 1 C1 74 (InsE.c x) Tryz.underlying71 hsz (by rw [hW];exact hg1) (by rw [hm];rfl)
   (fun j v hj=>by
    rw [addr_add]
    refine cell_of_heap (w:=W) (by rw [hW];exact hv1) ?_
    rw [Nat.zero_add]
    simpa [ins_cells] using hj) (by rw [hC1s];show i * 4+4≤_;omega) (InsE.one x)
  rw [this,hm,hC2];rfl
 have hfin:C2.toList.take ((n+1) * 4)=(xs.take i++x :: xs.drop i).flatMap InsE.c:=by
  have e1:C1.toList.take (i * 4)=(xs.take i).flatMap InsE.c:=by
   rw [hC1,List.append_assoc,List.take_append_of_le_length (by rw [List.length_take,hcurl];omega),List.take_take,Nat.min_eq_left (by omega)]
   have:(xs.flatMap InsE.c).take (i * 4)=(xs.take i).flatMap InsE.c:=by rw [hsplit];exact take_app _ _ _ hTl
   rw [← this,← htake,List.take_take,Nat.min_eq_left (by omega)]
  have e2:C1.toList.drop (i * 4+(InsE.c x).length)=(xs.drop i).flatMap InsE.c++cur.toList.drop ((i+1) * 4+((xs.drop i).flatMap InsE.c).length):=by
   have:i * 4+(InsE.c x).length=(i+1) * 4:=by show i * 4+4=_;omega
   rw [this,hC1,List.append_assoc]
   exact drop_app _ _ _ (by rw [List.length_take,hcurl];omega)
  rw [hC2,e1,e2,List.flatMap_append,List.flatMap_cons]
  show (((xs.take i).flatMap InsE.c++InsE.c x++_)).take _=_
  rw [← List.append_assoc,take_app _ _ _ (by
   rw [List.length_append,List.length_append,hTl,hDl];show i * 4+4+_=_;omega)]
  simp
 have hC2s:C2.size=cap * 4:=by
  rw [hC2];simp only [List.size_toArray,List.length_append,List.length_take,List.length_drop,Array.length_toList,hC1s]
  show min (i * 4) (cap * 4)+4+(cap * 4 - (i * 4+4))=_
  omega
 have hov:∀ lb cb,(callFunc 108 #[.slice (some ⟨vb,0,none⟩) 1 1, .slice (some ⟨g,(i+1) * 4,none⟩) lb cb]).run Tryz.prog w = .ok (.value (.bool false)) w:=fun lb cb=>by
  rw [run_callFunc_extern Tryz.func108 (by kernel_rfl) (by kernel_rfl) (by kernel_rfl) (e:=Extern.SlicesOverlaps.overlaps #[71,71] #[4]) (by kernel_rfl),
   Lib.run_overlaps_apart w 71 4 74 Tryz.underlying71 4 insSize ⟨vb,0,none⟩ ⟨g,(i+1) * 4,none⟩ 1 1 lb cb hvb 74 74 4 (cap * 4) (by simp [World.shape?,hv]) (by simp [World.shape?,hg,hcs]) (by omega) (by simp [World.frozen?,hv]) (by simp [World.frozen?,hv])]
  rfl
 have hw1:¬ ((i:Int)=(n:Int)):=by omega
 have hw0:IntKind.i64.wrap ((i:Int)+1)=(i:Int)+1:=by rw [IntKind.wrap_i64];omega
 have hb1:(0:Int)≤(i:Int)+1:=by omega
 have hin:i≤n:=by omega
 have htn:((i:Int)+1).toNat=i+1:=by omega
 have hb2:¬ (cap=i+1):=by omega
 have hb3:(i:Int)≤(n:Int)+1:=by omega
 have hb4:¬ (cap=i):=by omega
 have hm63:cap≤9223372036854775807:=by unfold maxLen at hcm;omega
 have HLN:=hide hln
 clear htake hC1 hC2 hsplit hcelli hXl hDl hTl hln h2
 go_enter Tryz.func52,Tryz.ntmps52
 go_wp2_with (simp only [hov])
 go_region_law (refine step_cp rfl _ _ 71 71 rfl (.slice (some ⟨g,(i+1) * 4,none⟩) (n+1 - (i+1)) (cap - (i+1))) (.slice (some ⟨g,i * 4,none⟩) (n+1 - i) (cap - i)) (by simp [Act.eval,Act.put]) (by simp [Act.eval,Act.put]) (hcp1 _ _ _) ?_)
 all_goals
  go_wp2_with (at_builtin;refine wpList_cp _ rfl _ _ 71 71 rfl _ _ rfl rfl (hcp2 _ rfl _ _) ?_)
  go_ret
  have hL:(xs.take i++x :: xs.drop i).length=n+1:=by
   have:=HLN.out;simp;omega
  have hown:Own InsE 74 ((w.drew.setRow g C1).setRow g C2) base (.slice (some ⟨g,0,none⟩) (n+1) cap) (xs.take i++x :: xs.drop i):=
   ⟨by rw [InsE.length], .inr ⟨g,cap,C2,by rw [hL],hb,setRow_heap _ g C1 _ _ _ hg1,by rw [hL];omega,hcm,hC2s,by rw [hL];exact hfin⟩⟩
  have hgd:w.grownBy w.drew (some g):=⟨rfl,rfl,rfl,Nat.le_refl _,fun _ _ _=>rfl⟩
  exact ⟨_,rfl,hown,grown_trans (grown_trans hgd (setRow_grown w.drew g C1)) (setRow_grown _ g C2), .inl rfl⟩
theorem InsertI_grow (g n cap i vb base:Nat) (xs:List Ins) (x:Ins) (w:World) (h:Own InsE 74 w base (.slice (some ⟨g,0,none⟩) n cap) xs) (hi:i < n) (hl:n≤1048576) (hroom:¬ n+1≤cap)
 (hv:w.heap[vb]? = some (.cells #[.int .i64 x.op, .int .i64 x.loc, .int .i64 x.reg, .int .i64 x.val] 74 (0,0))) (hbase:base≤w.heap.size) :
 Calls Tryz.prog 52 #[.slice (some ⟨g,0,none⟩) n cap, .int .i64 i, .slice (some ⟨vb,0,none⟩) 1 1] w (InsPost w base (.slice (some ⟨g,0,none⟩) n cap) (xs.take i++x :: xs.drop i)):=by
 have hln:=h.len
 have hgl:=World.ownsRow.lt h g rfl
 have hlen2:n≤cap:=by
  rcases h.shape with ⟨h1,_⟩ | ⟨g2,cap2,h1,_,_,h2,_⟩
  ·simp at h1
  ·simp only [Value.slice.injEq] at h1
   rw [h1.2.2];omega
 have hcell:∀ k v,(xs.flatMap InsE.c)[k]? = some v→w.cell? ⟨g,k,none⟩=some v:=fun k v hk=>by
  have hkl:k < n * 4:=by
   have:=(List.getElem?_eq_some_iff.1 hk).1
   rw [InsE.length] at this
   rw [hln];exact this
  have hke:k=k / 4 * 4+k % 4:=by omega
  obtain ⟨y,hy⟩:=get_of_lt (xs:=xs) (k:=k / 4) (by omega)
  have hk2:(xs.flatMap InsE.c)[k / 4 * InsE.sz+k % 4]? = some v:=by
   rw [show k / 4 * InsE.sz+k % 4=k from hke.symm];exact hk
  rw [InsE.get xs (k / 4) (k % 4) (by show k % 4 < 4;omega),hy] at hk2
  have:=h.cell hy (j:=k % 4) hk2
  rw [show k / 4 * InsE.sz+k % 4=k from hke.symm] at this
  exact this
 have hXl:(xs.flatMap InsE.c).length=n * 4:=by rw [InsE.length,← hln];rfl
 have hDl:((xs.drop i).flatMap InsE.c).length=(n - i) * 4:=by rw [InsE.length,List.length_drop,← hln];rfl
 have hTl:((xs.take i).flatMap InsE.c).length=i * 4:=by rw [InsE.length,List.length_take,← hln,Nat.min_eq_left (by omega)];rfl
 have hsplit:xs.flatMap InsE.c=(xs.take i).flatMap InsE.c++(xs.drop i).flatMap InsE.c:=by rw [← List.flatMap_append,List.take_append_drop]
 have hsz:(Tryz.prog.info? 74).map (·.size)=some 4:=by kernel_rfl
 obtain ⟨it,hit,hz0,hz1,hz2⟩:=info_parts Tryz.infoIns
 have hit4:it.size=4:=hz1
 obtain ⟨G,hG⟩:∃ G,G=grownCap w (n+1) cap 74:=⟨_,rfl⟩
 obtain ⟨ROW,hROW⟩:∃ ROW:Array Value,ROW=((xs.take i).flatMap InsE.c).toArray++Builtin.zeroCells (Value.agg #[.int .i64 0, .int .i64 0, .int .i64 0, .int .i64 0]).cells (n+1 - i)++Builtin.zeroCells (Value.agg #[.int .i64 0, .int .i64 0, .int .i64 0, .int .i64 0]).cells (G - (n+1)):=⟨_,rfl⟩
 have hGn:n+1≤G:=by rw [hG];exact grownCap_ge w _ _ _
 have hGm:G≤maxLen:=by rw [hG];exact grownCap_le_maxLen w (n+1) cap _ (by unfold maxLen;omega)
 have hG63:G≤9223372036854775807:=by unfold maxLen at hGm;omega
 have hz4:((Value.agg #[.int .i64 0, .int .i64 0, .int .i64 0, .int .i64 0]).cells).size=4:=by rfl
 have hRs:ROW.size=G * 4:=by
  rw [hROW]
  simp only [Array.size_append,List.size_toArray,hTl,Builtin.zeroCells,Array.size_map,Array.size_range,hz4]
  omega
 have hkk:(n:Int)+1 - (i:Int)=((n+1 - i:Nat):Int):=by omega
 have hik:i+(n+1 - i)=n+1:=by omega
 have hold:(Builtin.firstCells it.size i (.slice (some ⟨g,0,none⟩) i cap)).run Tryz.prog w.drew = .ok ((xs.take i).flatMap InsE.c).toArray w.drew:=by
  refine run_firstCells_some w.drew it.size i ⟨g,0,none⟩ i cap _ (by rw [hTl,hit4]) (fun j v hj => ?_)
  rw [addr_add,Nat.zero_add]
  refine hcell j v ?_
  have hjl:=(List.getElem?_eq_some_iff.1 hj).1
  rw [hsplit,List.getElem?_append_left hjl];exact hj
 have hrz:∀ ty,(Builtin.append_ #[71,3] ty #[.slice (some ⟨g,0,none⟩) i cap, .int .i64 ((n:Int)+1 - (i:Int))]).run Tryz.prog w =
  .ok (.slice (some ⟨w.heap.size,0,none⟩) (n+1) G) (w.drew.alloc (.cells ROW 74)):=fun ty=>by
  have h:=Lib.run_append_grow_zeros w 71 3 ty 74 it _ .i64 .i64 Tryz.underlying71 Tryz.underlying3 hit hz0 (some ⟨g,0,none⟩) i cap _ hold (n+1 - i) (by omega) (by omega) (by omega) (by omega) (by rw [hz2];omega) (by rw [hz2,hik];exact growslice_fits (by omega) (by omega))
  rw [hik,← hG,← hROW] at h
  rw [hkk]
  exact h
 have hgw:g < w.heap.size:=hgl.2
 have hvw:vb < w.heap.size:=(Array.getElem?_eq_some_iff.1 hv).1
 have hRt:ROW.toList.take (i * 4)=(xs.take i).flatMap InsE.c:=by
  rw [hROW]
  simp only [Array.toList_append,List.append_assoc]
  exact take_app _ _ _ hTl
 have hRl:ROW.toList.length=G * 4:=by rw [Array.length_toList,hRs]
 obtain ⟨C1,hC1⟩:∃ C1:Array Value,C1=(ROW.toList.take (i * 4)++InsE.c x++ROW.toList.drop (i * 4+(InsE.c x).length)).toArray:=⟨_,rfl⟩
 have hXc:(InsE.c x).length=4:=rfl
 have hC1s:C1.size=G * 4:=by
  rw [hC1];simp only [List.size_toArray,List.length_append,List.length_take,List.length_drop,hRl,hXc];omega
 obtain ⟨C2,hC2⟩:∃ C2:Array Value,C2=(C1.toList.take ((i+1) * 4)++(xs.drop i).flatMap InsE.c++C1.toList.drop ((i+1) * 4+((xs.drop i).flatMap InsE.c).length)).toArray:=⟨_,rfl⟩
 have hC1l:C1.toList.length=G * 4:=by rw [Array.length_toList,hC1s]
 have hC2s:C2.size=G * 4:=by
  rw [hC2];simp only [List.size_toArray,List.length_append,List.length_take,List.length_drop,hC1l,hDl];omega
 have hC1t:C1.toList.take ((i+1) * 4)=(xs.take i).flatMap InsE.c++InsE.c x:=by
  rw [hC1,hRt]
  exact take_app _ _ _ (by rw [List.length_append,hTl,hXc];omega)
 have hfin:C2.toList.take ((n+1) * 4)=(xs.take i++x :: xs.drop i).flatMap InsE.c:=by
  rw [hC2,hC1t,List.flatMap_append,List.flatMap_cons]
  show (((xs.take i).flatMap InsE.c++InsE.c x++(xs.drop i).flatMap InsE.c++_)).take _=_
  rw [take_app _ _ _ (by rw [List.length_append,List.length_append,hTl,hDl,hXc];omega)]
  simp
 obtain ⟨N,hN⟩:∃ N,N=w.heap.size:=⟨_,rfl⟩
 have hA:(w.drew.alloc (.cells ROW 74)).heap[N]? = some (.cells ROW 74 (0,0)):=by rw [hN];exact heap_alloc_new w.drew _
 have hAo:∀ k,k < w.heap.size→(w.drew.alloc (.cells ROW 74)).heap[k]? = w.heap[k]?:=fun k hk=>heap_alloc_old w.drew _ hk
 have hcpA:∀ (W:World),W.heap=(w.drew.alloc (.cells ROW 74)).heap→∀ ty dc,(Builtin.copy_ #[71,71] ty #[.slice (some ⟨N,i * 4,none⟩) (n+1 - i) dc, .slice (some ⟨vb,0,none⟩) 1 1]).run Tryz.prog W = .ok (goInt 1) (W.setRow N C1):=fun W hW ty dc=>by
  have hm:Nat.min 1 (n+1 - i)=1:=by simp only [Nat.min_def];split <;> omega
  have:=run_copy_rowE (P:=Tryz.prog) (sz:=4) W 71 71 ty 74 N (i * 4) (n+1 - i) dc ⟨vb,0,none⟩ 1 1 ROW 74 (InsE.c x) Tryz.underlying71 hsz (by rw [hW];exact hA) (by rw [hm];rfl)
   (fun j v hj=>by
    rw [addr_add]
    refine cell_of_heap (w:=W) (by rw [hW,hAo vb hvw];exact hv) ?_
    rw [Nat.zero_add]
    simpa [ins_cells] using hj) (by rw [hRs,hXc];omega) (InsE.one x)
  rw [this,hm,hC1];rfl
 have hcpB:∀ (W:World),W.heap=((w.drew.alloc (.cells ROW 74)).setRow N C1).heap→∀ ty dc sc,(Builtin.copy_ #[71,71] ty #[.slice (some ⟨N,(i+1) * 4,none⟩) (n+1 - (i+1)) dc, .slice (some ⟨g,i * 4,none⟩) (n - i) sc]).run Tryz.prog W = .ok (goInt (n - i:Nat)) (W.setRow N C2):=fun W hW ty dc sc=>by
  have hm:Nat.min (n - i) (n+1 - (i+1))=n - i:=by simp only [Nat.min_def];split <;> omega
  have:=run_copy_rowE (P:=Tryz.prog) (sz:=4) W 71 71 ty 74 N ((i+1) * 4) (n+1 - (i+1)) dc ⟨g,i * 4,none⟩ (n - i) sc C1 74 ((xs.drop i).flatMap InsE.c) Tryz.underlying71 hsz
   (by rw [hW];exact setRow_heap _ N ROW _ _ _ hA) (by rw [hm,hDl])
   (fun j v hj=>by
    rw [addr_add]
    have h1:w.cell? ⟨g,i * 4+j,none⟩=some v:=hcell _ v (by rw [hsplit,List.getElem?_append_right (by omega),hTl,Nat.add_sub_cancel_left];exact hj)
    rw [← h1]
    have h2:W.heap[g]? = w.heap[g]?:=by rw [hW,← hAo g hgw];exact setRow_other _ N g _ (by omega)
    unfold World.cell?
    rw [h2]) (by rw [hDl,hC1s];omega) (fun v hv=>by
    rw [List.mem_flatMap] at hv
    obtain ⟨y,_,hy⟩:=hv
    exact InsE.one y v hy)
  rw [this,hm,hC2]
 have hw1:¬ ((i:Int)=(n:Int)):=by omega
 have hw0:IntKind.i64.wrap ((i:Int)+1)=(i:Int)+1:=by rw [IntKind.wrap_i64];omega
 have hw3:(cap:Int) < (n:Int)+1:=by omega
 have hb1:(0:Int)≤(i:Int)+1:=by omega
 have hin:i≤n:=by omega
 have htn:((i:Int)+1).toNat=i+1:=by omega
 have hb2:¬ (cap=i+1)∨True:=.inr trivial
 have hb3:(i:Int)≤(n:Int)+1:=by omega
 have hb4:¬ (cap=i):=by omega
 have hb5:¬ (G=i):=by omega
 have hb6:¬ (G=i+1):=by omega
 have hgd:w.grownBy w.drew (some g):=⟨rfl,rfl,rfl,Nat.le_refl _,fun _ _ _=>rfl⟩
 have hga:w.grownBy (w.drew.alloc (.cells ROW 74)) (some g):=⟨rfl,rfl,rfl,by simp,fun k hk _=>hAo k hk⟩
 have hgr:w.grownBy ((((w.alloc (.cells ROW 74)).drew.setRow N C1).drew).setRow N C2) (some g):=⟨rfl,rfl,rfl,by simp,fun k hk _=>by
  rw [setRow_other _ N k _ (by omega)]
  exact (setRow_other (w.drew.alloc (.cells ROW 74)) N k _ (by omega)).trans (hAo k hk)⟩
 have hL:(xs.take i++x :: xs.drop i).length=n+1:=by simp;omega
 have hown:Own InsE 74 ((((w.alloc (.cells ROW 74)).drew.setRow N C1).drew).setRow N C2) base (.slice (some ⟨N,0,none⟩) (n+1) G) (xs.take i++x :: xs.drop i):=
  ⟨by rw [InsE.length], .inr ⟨N,G,C2,by rw [hL],by omega,setRow_heap _ N C1 _ _ _ (setRow_heap _ N ROW _ _ _ hA),by rw [hL];omega,hGm,hC2s,by rw [hL];exact hfin⟩⟩
 have FIN:Hid (InsPost w base (.slice (some ⟨g,0,none⟩) n cap) (xs.take i++x :: xs.drop i) (.returned (.slice (some ⟨N,0,none⟩) (n+1) G)) ((((w.alloc (.cells ROW 74)).drew.setRow N C1).drew).setRow N C2)):=
  hide ⟨_,rfl,hown,hgr, .inr fun q hq=>by simp [Value.ownBlock] at hq;omega⟩
 have hE1:((w.alloc (.cells ROW 74)).drew).heap=(w.drew.alloc (.cells ROW 74)).heap:=rfl
 have hF1:(((w.alloc (.cells ROW 74)).drew.setRow N C1).drew).heap=((w.drew.alloc (.cells ROW 74)).setRow N C1).heap:=rfl
 rw [← hN] at hrz
 clear hgr hga hgd hown hL hfin hC1t hC2s hC1l hC1s hXc hRl hRt hkk hik hold hROW hG hC1 hC2 hsplit hcell hXl hDl hTl hRs hz4 hA hAo hln h hN
 go_enter Tryz.func52,Tryz.ntmps52
 go_wp2_with (first
  | (at_builtin;refine Lib.wpList_append_run _ rfl _ _ _ _ rfl _ _ rfl rfl _ _ (hrz _) ?_)
  | (at_builtin;refine wpList_cp _ rfl _ _ 71 71 rfl _ _ rfl rfl (hcpA _ hE1 _ _) ?_))
 go_region_law (refine step_cp rfl _ _ 71 71 rfl (.slice (some ⟨N,(i+1) * 4,none⟩) (n+1 - (i+1)) (G - (i+1))) (.slice (some ⟨g,i * 4,none⟩) (n - i) (cap - i)) (by simp [Act.eval,Act.put]) (by simp [Act.eval,Act.put]) (hcpB _ hF1 _ _ _) ?_)
 all_goals
  go_wp2_with fail
  go_ret
  exact FIN.out
theorem Insert_any (g n cap i vb base:Nat) (xs:List Ins) (x:Ins) (w:World) (h:Own InsE 74 w base (.slice (some ⟨g,0,none⟩) n cap) xs) (hi:i < n) (hl:n≤1048576) (hvb:vb≠g)
 (hv:w.heap[vb]? = some (.cells #[.int .i64 x.op, .int .i64 x.loc, .int .i64 x.reg, .int .i64 x.val] 74 (0,0))) (hbase:base≤w.heap.size) :
 Calls Tryz.prog 52 #[.slice (some ⟨g,0,none⟩) n cap, .int .i64 i, .slice (some ⟨vb,0,none⟩) 1 1] w (InsPost w base (.slice (some ⟨g,0,none⟩) n cap) (xs.take i++x :: xs.drop i)):=by
 by_cases hroom:n+1≤cap
 ·exact InsertI_room g n cap i vb base xs x w h hi hl hroom hvb hv
 ·exact InsertI_grow g n cap i vb base xs x w h hi hl hroom hv hbase
end Go.Proofs.YtlddmagfbcomgaaGreat