/-
  The reference's search with views: what it holds in memory, plain facts. Condition: a valid program.
-/
import Derived.Test.YtnkfphndfijcoaaZo25
import Derived.Test.YtnkfphndfijcoaaZo26
import Derived.Test.YtnkfphndfijcoaaZo19
import Derived.Test.YtnkfphndfijcoaaZo20
import Derived.Test.YtnkfphndfijcoaaZo17
import Derived.Test.YtnkfphndfijcoaaZo08
import Derived.Test.YtnkfphndfijcoaaZo23
set_option maxHeartbeats 6400000
set_option maxRecDepth 100000
namespace Go.Proofs.Ytnkfphndfijcoaa
open Go.RowKit
def LS5:List TypeId:=[51,9,79,45]
abbrev kyV (s:Vw):ByteArray:=keyB (vwKey s)
abbrev RcV (p:List (List Ins)) (s:Vw):Prop:=ReachM (vwStart p) (vwNext p) s
def mvV (p:List (List Ins)) (s:Vw):List Nat:=(List.range (3 * mostL s.ls)).filter fun c=>(vwNext p s c).isSome
def afV (p:List (List Ins)) (s:Vw) (c:Nat):Vw:=(vwNext p s c).getD s
theorem afV_next {p:List (List Ins)}{s s':Vw}{c:Nat}(h:vwNext p s c=some s'):afV p s c=s':=by unfold afV;rw[h];rfl
theorem mostF_ge:∀ (ls:List (List Mg)) (n:Nat),n≤ls.foldl (fun n l=>if n≤l.length then l.length+1 else n) n
 | [],n=>Nat.le_refl _
 | l :: ls,n=>by
  rw[List.foldl_cons];refine Nat.le_trans ?_ (mostF_ge ls _);split <;> omega
theorem mostF_gt:∀ (ls:List (List Mg)) (n:Nat) (l:List Mg),l∈ls→l.length < ls.foldl (fun n l=>if n≤l.length then l.length+1 else n) n
 | [],_,_,h=>by simp at h
 | x :: ls,n,l,h=>by
  rw[List.foldl_cons];rcases List.mem_cons.1 h with rfl | h
  ·refine Nat.lt_of_lt_of_le ?_ (mostF_ge ls _)
   split <;> omega
  ·exact mostF_gt ls _ l h
theorem mem_mvV {p:List (List Ins)}{s:Vw}(hok:VwOk p s) (hp:∀ r∈p,∀ x∈r,insValid x=true) (c:Nat):c∈mvV p s↔(vwNext p s c).isSome:=by
 unfold mvV;rw[List.mem_filter,List.mem_range];refine⟨fun h=>h.2,fun h=>⟨?_,h⟩⟩;obtain⟨s',hs'⟩:=Option.isSome_iff_exists.1 h;obtain⟨r,i,x,hr,hi,hx,hd⟩:=vwNext_parts hs';have hv:=hp r (List.mem_of_getElem? hr) x (List.mem_of_getElem? hx);have hk:=kst_mem hok (List.getElem?_eq_some_iff.1 hr).1 hv hd;have h1:1≤mostL s.ls:=mostF_ge s.ls 1;have h2:c / 3 < mostL s.ls:=by
  unfold kst at hk;split at hk
  ·simp at hk;omega
  ·rename_i h4
   have hloc:=op_loc hv h4;obtain⟨l,hl,hl2,hl3⟩:=ls_getD hok hloc.1 hloc.2;have h3:=mostF_gt s.ls 1 l hl3;have h5:lnV s x.loc.toNat=l.length:=by unfold lnV;rw[hl2]
   rw[h5]at hk;split at hk
   ·have:=List.mem_range.1 hk;unfold mostL;omega
   ·obtain⟨q,hq,e⟩:=List.mem_map.1 hk
    have:=List.mem_range.1 hq;unfold mostL;omega
 omega
theorem mvV_reach {p:List (List Ins)}(hv:progValid p=true) (s:Vw):ReachM (vwStart p) (nxM (mvV p) (afV p)) s↔RcV p s:=
 reach_mv (ok:=VwOk p) (VwOk.start p) (fun _ _ _ h hn=>h.next (valid_ins hv) hn) (fun _ h i=>mem_mvV h (valid_ins hv) i) (fun _ _ _ _ h=>afV_next h) s
theorem mvV_get {p:List (List Ins)}{s:Vw}{j:Nat}(hj:j < (mvV p s).length):∃ c s',(mvV p s)[j]? = some c∧vwNext p s c=some s'∧nxM (mvV p) (afV p) s j=some s':=by
 obtain⟨c,hc⟩:=get_of_lt hj;have hm:=List.mem_of_getElem? hc;unfold mvV at hm;obtain⟨s',hs'⟩:=Option.isSome_iff_exists.1 (List.mem_filter.1 hm).2;exact⟨c,s',hc,hs',(nxM_some _ _).2 ⟨c,hc,afV_next hs'⟩⟩
theorem vw_rows {p:List (List Ins)}(hv:progValid p=true) {s:Vw}(h:RcV p s):vwLen s≤24:=by
 have h1:=vw_lens (valid_ins hv) h;have h2:=vwLeft_le hv (vwStart p);omega
theorem mvV_few {p:List (List Ins)}(hv:progValid p=true) {s:Vw}(h:RcV p s):(mvV p s).length≤75:=by
 have h1:=vw_rows hv h;have h2:mostL s.ls≤24+1:=mostL_le (B:=24) s.ls 1 (by omega) fun l hl=>by have:=len_le hl;omega
 have h3:(mvV p s).length≤3 * mostL s.ls:=Nat.le_trans (List.length_filter_le _ _) (by simp);omega
theorem mvV_lt {p:List (List Ins)}(hv:progValid p=true) {s:Vw}(h:RcV p s) {c:Nat}(hc:c∈mvV p s):c < 75:=by
 have h1:=vw_rows hv h;have h2:mostL s.ls≤24+1:=mostL_le (B:=24) s.ls 1 (by omega) fun l hl=>by have:=len_le hl;omega
 unfold mvV at hc;have h3:=List.mem_range.1 (List.mem_filter.1 hc).1;omega
theorem view_byte {ls:List (List Mg)}{v:List Int}(h:viewOk ls v) (hl:ls.length=3) (hll:∀ l∈ls,l.length≤200):byteR v:=fun a ha=>by
 obtain⟨i,hi,e⟩:=List.getElem_of_mem ha;obtain⟨l,hl'⟩:=get_of_lt (xs:=ls) (k:=i) (by rw[hl,← h.1];exact hi);have h1:=h.2 i a l (by rw[List.getElem?_eq_getElem hi,e]) hl';have h2:=hll l (List.mem_of_getElem? hl');omega
theorem msText_byte:∀ {l:List Mg},(∀ m∈l,(0≤m.val∧m.val≤3)∧byteR m.view)→byteR (msText l)
 | [],_=>fun x hx=>by simp[msText]at hx
 | m :: l,h=>fun x hx=>by
  obtain⟨h1,h2⟩:=h m (by simp);simp only[msText,mText,List.cons_append,List.mem_cons,List.mem_append]at hx;rcases hx with rfl | (hx | hx) | hx
  ·omega
  ·split at hx
   ·simp at hx;omega
   ·simp at hx
  ·exact h2 x hx
  ·exact msText_byte (fun m hm=>h m (by simp[hm])) x hx
theorem lsText_byte:∀ {ls:List (List Mg)},(∀ l∈ls,∀ m∈l,(0≤m.val∧m.val≤3)∧byteR m.view)→byteR (lsText ls)
 | [],_=>fun x hx=>by simp[lsText]at hx
 | l :: ls,h=>fun x hx=>by
  simp only[lsText,List.mem_cons,List.mem_append]at hx;rcases hx with rfl | hx | hx
  ·omega
  ·exact msText_byte (h l (by simp)) x hx
  ·exact lsText_byte (fun l' hl=>h l' (by simp[hl])) x hx
theorem msText_len5:∀ {l:List Mg},(∀ m∈l,m.view.length=3)→(msText l).length≤5 * l.length
 | [],_=>by simp[msText]
 | m :: l,h=>by
  have h1:=msText_len5 (l:=l) fun m hm=>h m (by simp[hm]);have h2:=h m (by simp);simp only[msText,mText,List.cons_append,List.length_cons,List.length_append];split <;> simp <;> omega
theorem lsText_len5:∀ {ls:List (List Mg)},(∀ l∈ls,∀ m∈l,m.view.length=3)→(lsText ls).length≤ls.length+5 * (ls.map List.length).sum
 | [],_=>by simp[lsText]
 | l :: ls,h=>by
  have h1:=lsText_len5 (ls:=ls) fun l' hl=>h l' (by simp[hl]);have h2:=msText_len5 (h l (by simp));simp only[lsText,List.length_cons,List.length_append,List.map_cons,List.sum_cons];omega
theorem vw_bytes {p:List (List Ins)}(hv:progValid p=true) {s:Vw}(h:RcV p s):byteR s.pc∧byteR s.rg∧(∀ o∈s.vw,byteR o)∧∀ l∈s.ls,∀ m∈l,(0≤m.val∧m.val≤3)∧byteR m.view:=by
 have hok:=VwOk.reach (valid_ins hv) h;have h1:=vw_rows hv h;have hll:∀ l∈s.ls,l.length≤200:=fun l hl=>by have:=len_le hl;omega
 refine⟨fun x hx => ?_,fun x hx=>by have:=hok.rg x hx;omega,fun o ho=>view_byte (hok.vw o ho) hok.ll hll,fun l hl m hm=>⟨(hok.ms l hl m hm).1,view_byte (hok.ms l hl m hm).2 hok.ll hll⟩⟩;obtain⟨i,hi,e⟩:=List.getElem_of_mem hx;obtain⟨r,hr⟩:=get_of_lt (xs:=p) (k:=i) (by rw[← hok.lp];exact hi);have h2:=hok.pc i x r (by rw[List.getElem?_eq_getElem hi,e]) hr;have h3:=((valid_le hv).2.2.1 r (List.mem_of_getElem? hr)).1;omega
theorem vwKey_byte {p:List (List Ins)}(hv:progValid p=true) {s:Vw}(h:RcV p s):byteR (vwKey s):=by
 obtain⟨h1,h2,h3,h4⟩:=vw_bytes hv h;intro x hx;unfold vwKey at hx;rcases List.mem_append.1 hx with hx | hx
 ·rcases List.mem_append.1 hx with hx | hx
  ·rcases List.mem_append.1 hx with hx | hx
   ·exact h1 x hx
   ·exact h2 x hx
  ·obtain⟨o,ho,hx⟩:=List.mem_flatten.1 hx
   exact h3 o ho x hx
 ·exact lsText_byte h4 x hx
theorem kyV_inj {p:List (List Ins)}(hv:progValid p=true) (a b:Vw) (ha:RcV p a) (hb:RcV p b) (e:kyV a=kyV b):a=b:=
 vwKey_reach (valid_ins hv) (by have:=vwLeft_le hv (vwStart p);omega) a b ha hb (keyB_inj (vwKey_byte hv ha) (vwKey_byte hv hb) e)
theorem kyV_size {p:List (List Ins)}(hv:progValid p=true) {s:Vw}(h:RcV p s):(kyV s).size≤1000000:=by
 have hok:=VwOk.reach (valid_ins hv) h;have h1:=vw_rows hv h;have hpl:=(valid_le hv).1;rw[strOfNums_size];unfold vwKey;have h2:=lsText_len5 (ls:=s.ls) fun l hl m hm=>(hok.ms l hl m hm).2.1;have h3:=flat3_length (a:=s.vw) fun v hv=>(hok.vw v hv).1;have h4:=hok.lp;have h5:=hok.lr;have h6:=hok.lv;have h7:=hok.ll
 unfold vwLen at h1;simp only[List.length_append];omega
theorem OutsOk.few {n:Nat}{L:List (List Int)}(h:OutsOk n L) (hr:∀ o∈L,∀ x∈o,0≤x∧x≤3) (hn:n≤12):L.length≤16777216:=by
 have hnd:L.Nodup:=by
  unfold List.Nodup;refine h.pw.imp fun {a b} hab e => ?_;subst e;have:=(lexO_eq (a:=a) rfl).2 rfl;omega
 have h1:=done_few (out:=fun o:List Int=>o) (n:=n) hnd (fun o ho=>⟨h.len o ho,hr o ho⟩) fun a _ b _ e=>e;refine Nat.le_trans h1 ?_;exact Nat.le_trans (Nat.pow_le_pow_right (by decide) hn) (by decide)
theorem OwnVw.loc {w:World}{base B:Nat}{x:SV}{s:Vw}{us lu:List Slc}{ms:List (List MV)}(h:OwnVw w base x s us lu ms):LocT LS5 B w (fun W=>RepVw W x s):=by
 refine⟨h.rep,fun w' k => ?_⟩;have h':OwnVw w' base x s us lu ms:=⟨⟨fun i u r hi=>k.own (h.fam.own i u r hi) (by decide),h.fam.far⟩,k.own h.hv (by decide),k.own h.hl (by decide),h.lv,h.ll,h.lm,fun i u mr h1 h2=>k.own (h.hm i u mr h1 h2) (by decide),h.mv,h.mf⟩
 exact h'.rep
theorem Own.litV (w:World) {base:Nat}(hb:base≤w.heap.size) (x:SV):Own StE 79 (w.alloc (.cells #[.slice x.p.a x.p.n x.p.cap,.slice x.r.a x.r.n x.r.cap,.slice x.m.a x.m.n x.m.cap,.slice x.b.a x.b.n x.b.cap] 79)) base (.slice (some ⟨w.heap.size,0,none⟩) 1 1) [x]:=Own.lit1 (E:=StE) w hb x
theorem Try.infoSt5:(Try.prog.info? 79).map (fun i=>(i.zero,i.size,i.bytes))=some (some (.agg #[.slice none 0 0,.slice none 0 0,.slice none 0 0,.slice none 0 0]),4,96):=by kernel_rfl
structure JSV (V:World) (B:Nat) (o:List Int) (L:List (List Int)) (c1 c2:Bool) (u pv:Slc) (W:World):Prop where
 out:Below V.heap.size V W
 o1:c1=true→Own IntE 3 W B u.v o
 o2:c2=true→OutL LS5 B W B pv.v L
 i2:c2=true→c1=true
theorem JSV.call1 {V W W':World}{B:Nat}{o:List Int}{L:List (List Int)}{c2:Bool}{u u' pv:Slc}(h:JSV V B o L false c2 u pv W) (ho:Own IntE 3 W' W.heap.size u'.v o) (hb:Below W.heap.size W W') (hB:B≤W.heap.size):JSV V B o L true c2 u' pv W':=by
 cases hc:c2 with
 | true=>exact(nomatch h.i2 hc)
 | false=>exact⟨h.out.trans (hb.mono h.out.size),fun _=>ho.mono hB,fun e=>(nomatch e),fun e=>(nomatch e)⟩
theorem JSV.call2 {V W W':World}{B:Nat}{o:List Int}{L:List (List Int)}{u pv pv':Slc}(h:JSV V B o L true false u pv W) (ho:OutL LS5 B W' B pv'.v L) (hb:Below W.heap.size W W'):JSV V B o L true true u pv' W':=
 ⟨h.out.trans (hb.mono h.out.size),fun _=>(h.o1 rfl).below hb,fun _=>ho,fun _=>rfl⟩
structure JNx (V:World) (s':Vw) (c1 c2:Bool) (y:SV) (O:Nat) (W:World):Prop where
 out:Below V.heap.size V W
 st:c1=true→∃ us lu ms,OwnVw W V.heap.size y s' us lu ms
 ob:c2=true→W.heap[O]? = some (.cells #[.slice none 0 0,.slice none 0 0,.slice none 0 0,.slice none 0 0] 79 (0,0))∧V.heap.size≤O
theorem JNx.call {V W W':World}{s':Vw}{c2:Bool}{y y':SV}{O:Nat}{us lu:List Slc}{ms:List (List MV)}(h:JNx V s' false c2 y O W) (hs:OwnVw W' W.heap.size y' s' us lu ms) (hb:Below W.heap.size W W'):JNx V s' true c2 y' O W':=
 ⟨h.out.trans (hb.mono h.out.size),fun _=>⟨us,lu,ms,(hs.part.mono h.out.size).full⟩,fun e=>⟨(hb.block O (Array.getElem?_eq_some_iff.1 (h.ob e).1).1).trans (h.ob e).1,(h.ob e).2⟩⟩
theorem JNx.obj {V W:World}{s':Vw}{c1:Bool}{y:SV}{O:Nat}(h:JNx V s' c1 false y O W):JNx V s' c1 true y W.heap.size (W.alloc (.cells #[.slice none 0 0,.slice none 0 0,.slice none 0 0,.slice none 0 0] 79)):=
 ⟨h.out.alloc h.out.size _,fun e=>by obtain⟨us,lu,ms,hs⟩:=h.st e;exact⟨us,lu,ms,hs.below (belowAlloc _ _)⟩,fun _=>⟨heap_alloc_new W _,h.out.size⟩⟩
def WorkV (w:World) (B:Nat) (v:Value) (work:List Vw):Prop:=
 ∃ xs:List SV,xs.length=work.length∧Own StE 79 w B v xs∧∀ (i:Nat) (x:SV) (s:Vw),xs[i]? = some x→work[i]? = some s→LocT LS5 B w (fun W=>RepVw W x s)
theorem WorkV.kp {L:List TypeId}{w w':World}{B:Nat}{v:Value}{work:List Vw}(h:WorkV w B v work) (k:KpT L B w w') (hL:∀ T∈L,T∈LS5) (hT:79∉L):WorkV w' B v work:=by
 obtain⟨xs,h1,h2,h3⟩:=h;exact⟨xs,h1,(LocT.own h2 hT).keep w' k,fun i x s hx hs=>(h3 i x s hx hs).step (k.more hL (Nat.le_refl _))⟩
structure SeaV (B N O:Nat) (vt v:Value) (work:List Vw) (ks:List ByteArray) (cn:Nat) (vo:Slc) (outs:List (List Int)) (wr:World):Prop where
 wk:WorkV wr B v work
 tb:Tab wr B vt ks
 bn:wr.heap[N]? = some (.cells #[.int .i64 0,.slice none 0 0] 45 (0,0))
 bo:wr.heap[O]? = some (.cells #[.int .i64 (cn:Int),.slice vo.a vo.n vo.cap] 45 (0,0))
 ol:OutL LS5 B wr B vo.v outs
 lN:B≤N
 lO:N < O
 sz:B≤wr.heap.size
section
variable {B N O cn cn' : Nat} {vt v v' : Value} {work work' : List Vw} {ks ks' : List ByteArray} {vo vo' : Slc} {outs outs' : List (List Int)} {w w' : World} {L : List TypeId}
theorem SeaV.below (h:SeaV B N O vt v work ks cn vo outs w) (hb:Below w.heap.size w w'):SeaV B N O vt v work ks cn vo outs w':=
 have k:KpT [] B w w':=.of_below hb
 ⟨h.wk.kp k (by simp) (by simp),h.tb.kp k (by simp) (by simp),k.same h.bn (by simp),k.same h.bo (by simp),h.ol.step (k.more (by simp) (Nat.le_refl _)) (by decide),h.lN,h.lO,Nat.le_trans h.sz hb.size⟩
theorem SeaV.mark (h:SeaV B N O vt v work ks cn vo outs w) (ht:Tab w' B vt ks') (k:KpT [51,9] B w w'):SeaV B N O vt v work ks' cn vo outs w':=
 have hL:∀ T∈[51,9],T∈LS5:=by decide
 ⟨h.wk.kp k hL (by decide),ht,k.same h.bn (by decide),k.same h.bo (by decide),h.ol.step (k.more hL (Nat.le_refl _)) (by decide),h.lN,h.lO,Nat.le_trans h.sz k.size⟩
theorem SeaV.wkS (h:SeaV B N O vt v work ks cn vo outs w) (hw:WorkV w' B v' work') (k:KpT [79] B w w'):SeaV B N O vt v' work' ks cn vo outs w':=
 have hL:∀ T∈[79],T∈LS5:=by decide
 ⟨hw,h.tb.kp k (by decide) (by decide),k.same h.bn (by decide),k.same h.bo (by decide),h.ol.step (k.more hL (Nat.le_refl _)) (by decide),h.lN,h.lO,Nat.le_trans h.sz k.size⟩
theorem SeaV.cnt (h:SeaV B N O vt v work ks cn vo outs w) (cn':Nat):SeaV B N O vt v work ks cn' vo outs (w.setCell ⟨O,0,none⟩ (.int .i64 (cn':Int))):=by
 have k:KpT [45] B w (w.setCell ⟨O,0,none⟩ (.int .i64 (cn':Int))):=.set h.bo (by simp) (by have:=h.lN;have:=h.lO;omega) _;have hL:∀ T∈[45],T∈LS5:=by decide
 exact⟨h.wk.kp k hL (by decide),h.tb.kp k (by decide) (by decide),(heap_setCell_other w ⟨O,0,none⟩ N _ (show N≠O by have:=h.lO;omega)).trans h.bn,heap_setCell_same w O 0 _ _ _ h.bo,h.ol.step (k.more hL (Nat.le_refl _)) (by decide),h.lN,h.lO,by simpa using h.sz⟩
theorem SeaV.out (h:SeaV B N O vt v work ks cn vo outs w) (ho:OutL LS5 B w B vo'.v outs'):SeaV B N O vt v work ks cn vo' outs' (w.setCell ⟨O,1,none⟩ (.slice vo'.a vo'.n vo'.cap)):=by
 have k:KpT [45] B w (w.setCell ⟨O,1,none⟩ (.slice vo'.a vo'.n vo'.cap)):=.set h.bo (by simp) (by have:=h.lN;have:=h.lO;omega) _;have hL:∀ T∈[45],T∈LS5:=by decide
 exact⟨h.wk.kp k hL (by decide),h.tb.kp k (by decide) (by decide),(heap_setCell_other w ⟨O,1,none⟩ N _ (show N≠O by have:=h.lO;omega)).trans h.bn,heap_setCell_same w O 1 _ _ _ h.bo,ho.step (k.more hL (Nat.le_refl _)) (by decide),h.lN,h.lO,by simpa using h.sz⟩
end
theorem WorkV.pop {w:World}{B g n cap:Nat}{work:List Vw}{s:Vw}(h:WorkV w B (.slice (some ⟨g,0,none⟩) n cap) (work++[s])):n=work.length+1∧g < w.heap.size∧B≤g∧n≤cap∧WorkV w B (.slice (some ⟨g,0,none⟩) work.length cap) work∧∃ x:SV,LocT LS5 B w (fun W=>RepVw W x s) ∧
 (w.cell? ⟨g,work.length * 4,none⟩=some (.slice x.p.a x.p.n x.p.cap)∧w.cell? ⟨g,work.length * 4+1,none⟩=some (.slice x.r.a x.r.n x.r.cap)∧w.cell? ⟨g,work.length * 4+2,none⟩=some (.slice x.m.a x.m.n x.m.cap)∧w.cell? ⟨g,work.length * 4+3,none⟩=some (.slice x.b.a x.b.n x.b.cap)):=by
 obtain⟨xs,h1,h2,h3⟩:=h;have hn:=h2.len;simp only[List.length_append,List.length_singleton]at h1;obtain⟨x,hx⟩:=get_of_lt (xs:=xs) (k:=work.length) (by omega);have hl:=World.ownsRow.lt h2 g rfl;have hcap:n≤cap:=by
  rcases h2.shape with⟨e,_⟩ | ⟨g',cap',e,_,_,h5,_⟩
  ·simp at e
  ·simp only[Value.slice.injEq]at e;omega
 refine⟨by omega,hl.2,hl.1,hcap,⟨xs.take work.length,by rw[List.length_take];omega,h2.cut (by omega),fun i x s hx hs=>h3 i x s ?_ ?_⟩,x,h3 _ x s hx (by simp),h2.cell hx (j:=0) rfl,h2.cell hx (j:=1) rfl,h2.cell hx (j:=2) rfl,h2.cell hx (j:=3) rfl⟩
 ·rw[List.getElem?_take]at hx
  split at hx
  ·exact hx
  ·cases hx
 ·rw[List.getElem?_append_left (List.getElem?_eq_some_iff.1 hs).1];exact hs
theorem WorkV.push {w w':World}{B:Nat}{v v':Value}{work:List Vw}{s:Vw}{x:SV}{xs:List SV}(h1:xs.length=work.length) (h2:Own StE 79 w B v xs) (h3:∀ (i:Nat) (x:SV) (s:Vw),xs[i]? = some x→work[i]? = some s→LocT LS5 B w (fun W=>RepVw W x s))
 (hx:LocT LS5 B w (fun W=>RepVw W x s)) (ho:Own StE 79 w' B v' (xs++[x])) (hg:w.grownBy w' v.ownBlock):WorkV w' B v' (work++[s]):=by
 have k:KpT LS5 B w w':=.grown h2 (by decide) (Nat.le_refl _) hg;refine⟨xs++[x],by simp[h1],ho,fun i y u hy hu => ?_⟩;rcases Nat.lt_or_ge i xs.length with hi | hi
 ·rw[List.getElem?_append_left hi]at hy
  rw[List.getElem?_append_left (by omega)]at hu;exact(h3 i y u hy hu).step k
 ·rw[List.getElem?_append_right hi]at hy
  rw[List.getElem?_append_right (by omega),← h1]at hu;generalize i - xs.length=j at *;cases j with
  | zero =>
   simp at hy hu;subst hy;subst hu;exact hx.step k
  | succ j=>simp at hy
end Go.Proofs.Ytnkfphndfijcoaa