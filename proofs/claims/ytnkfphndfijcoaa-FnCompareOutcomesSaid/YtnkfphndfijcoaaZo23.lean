/-
  The reference's outcomes of machines with one memory and with buffers. Condition: bounds on lengths.
-/
import Derived.Test.YtnkfphndfijcoaaZo19
import Derived.Test.YtnkfphndfijcoaaZo20
import Derived.Test.YtnkfphndfijcoaaZo18
import Derived.Test.YtnkfphndfijcoaaZo21
import Derived.Test.YtnkfphndfijcoaaZo17
import Derived.Test.YtnkfphndfijcoaaZo07
import Derived.Test.YtnkfphndfijcoaaZo02
set_option maxHeartbeats 6400000
set_option maxRecDepth 100000
namespace Go.Proofs.Ytnkfphndfijcoaa
open Go.RowKit
theorem bfDoR_still {s s':Bf}{split:Bool}{t:Nat}{k:Int}{x:Ins}(ho:x.op=5∨x.op=4) (h:bfDo s split t k x=some s'):s'=⟨sqDo s.q t k x,s.bf⟩:=by
 unfold bfDo at h;rw[if_pos (by omega)]at h;split at h
 ·simp only[Option.some.injEq]at h;exact h.symm
 ·cases h
theorem bfDoR_read {s s':Bf}{split:Bool}{t:Nat}{k:Int}{x:Ins}(ho:x.op=1) (h:bfDo s split t k x=some s'):s'=⟨⟨s.q.pc.set t (k+1),s.q.rg.set (t * 3+x.reg.toNat) (bfSeen s t x.loc split),s.q.mm⟩,s.bf⟩:=by
 unfold bfDo at h;rw[if_neg (by omega),if_pos ho]at h;simp only[Option.some.injEq]at h;exact h.symm
theorem bfDoR_put {s s':Bf}{split:Bool}{t:Nat}{k:Int}{x:Ins}(ho:x.op=2∨x.op=3) (h:bfDo s split t k x=some s'):s'=⟨⟨s.q.pc.set t (k+1),s.q.rg,s.q.mm⟩,s.bf.set (bfPlace t x.loc split) (s.bf.getD (bfPlace t x.loc split) []++[(x.loc,sqVal s.q t x)])⟩:=by
 unfold bfDo at h;rw[if_neg (by omega),if_neg (by omega)]at h;simp only[Option.some.injEq]at h;exact h.symm
theorem map_flat_set (l:List (List (Int × Int))) (q:Nat) (row:List (Int × Int)):(l.set q row).map flatE=(l.map flatE).set q (flatE row):=by rw[List.map_set]
theorem l4Do_any (vp:Value) (p:List (List Ins)) (x:SV) (s s':Bf) (split:Bool) (m:Nat) (w:World) (hp:RepP w vp p) (hx:RepSt w x (stF s)) (hok:BfOk p split s) (hpl:p.length≤3) (hpr:∀ r∈p,r.length≤7) (hlen:∀ r∈s.bf,r.length≤42) (hiv:∀ r∈p,∀ i∈r,insValid i=true) (hn:bfNext p split s m=some s') :
 Calls Try.prog 48 #[vp,.agg #[.slice x.p.a x.p.n x.p.cap,.slice x.r.a x.r.n x.r.cap,.slice x.m.a x.m.n x.m.cap,.slice x.b.a x.b.n x.b.cap],.bool split,.int .i64 (m:Int)] w (RetSt w (stF s')):=by
 have hlb9:s.bf.length≤9:=by
  rw[hok.lb];have:bfN split≤3:=by cases split <;> simp[bfN]
  have:=Nat.mul_le_mul hpl this;omega
 have b1:(stF s).pc.length≤1000:=by show s.q.pc.length≤1000;have:=hok.q.lp;omega
 have b2:(stF s).rg.length=(stF s).pc.length * 3:=by show s.q.rg.length=s.q.pc.length * 3;rw[hok.q.lr,hok.q.lp]
 have b3:(stF s).mm.length=3:=hok.q.lm;have b4:(stF s).bf.length≤100:=by simp;omega
 have b5:∀ o∈(stF s).bf,o.length≤1000:=fun o ho=>by
  obtain⟨r,hr,rfl⟩:=List.mem_map.1 ho;rw[flatE_len];have:=hlen r hr;omega
 by_cases hm:m < p.length
 ·obtain⟨r,k,i,hr,hk,hi,hd⟩:=bfNext_thread hn hm
  have hk0:=(hok.q.pc m k r hk hr).1;obtain⟨kn,rfl⟩:∃ kn:Nat,k=kn:=⟨k.toNat,by omega⟩
  rw[Int.toNat_natCast]at hi;have hv:=hiv r (List.mem_of_getElem? hr) i (List.mem_of_getElem? hi);have hrl:r.length≤1000:=by have:=hpr r (List.mem_of_getElem? hr);omega
  obtain⟨⟨l0,l2⟩,⟨g0,g2⟩,-,-⟩:=ins_rangesR hv;have hop:i.op=1∨(i.op=2∨i.op=3)∨(i.op=5∨i.op=4):=by
   have:=(ins_facts hv).1;omega
  obtain⟨op,lz,rz,val⟩:=i;simp only at l0 l2 g0 g2 hop;obtain⟨lc,rfl⟩:∃ lc:Nat,lz=lc:=⟨lz.toNat,by omega⟩
  obtain⟨rc,rfl⟩:∃ rc:Nat,rz=rc:=⟨rz.toNat,by omega⟩
  rcases hop with ho | ho | ho
  ·have e:=bfDoR_read ho hd
   have:=l4Do_l vp p x (stF s) m kn lc rc op val r w hp hx hk hr hi split ho (bfSeen s m (lc:Int) split) (fun W hW=>l4Seen_any x p split s m lc W hW hok hm hpl (by omega) (fun r hr=>by have:=hlen r hr;omega)) (by omega) (by omega) (by omega) b1 b2 b3 b4 b5 hrl;rw[e];simp only[Int.toNat_natCast];exact this
  ·have e:=bfDoR_put ho hd
   have hqs:bfPlace m (lc:Int) split < s.bf.length:=by rw[hok.lb];exact place_in hm (by omega)
   obtain⟨row,hrow⟩:=get_of_lt (xs:=s.bf) (k:=bfPlace m (lc:Int) split) hqs;have:=l4Do_w vp p x (stF s) m kn lc rc op val r w hp hx hk hr hi split ho (bfPlace m (lc:Int) split) (flatE row) _ (flat_row hrow) (fun W=>l4Place_any m lc split W (by omega) (by omega)) rfl (by omega) (by omega) (by omega) b1 b2 b3 b4 b5 hrl;rw[e];have e2:stF ⟨⟨s.q.pc.set m ((kn:Int)+1),s.q.rg,s.q.mm⟩,s.bf.set (bfPlace m (lc:Int) split) (s.bf.getD (bfPlace m (lc:Int) split) []++[((lc:Int),sqVal s.q m ⟨op,(lc:Int),(rc:Int),val⟩)])⟩=⟨(stF s).pc.set m ((kn:Int)+1),(stF s).rg,(stF s).mm,(stF s).bf.set (bfPlace m (lc:Int) split) (flatE row++[(lc:Int),sqVal (stF s).q m ⟨op,(lc:Int),(rc:Int),val⟩])⟩:=by
    unfold stF;rw[map_flat_set,List.getD_eq_getElem?_getD,hrow,Option.getD_some,flatE_app];rfl
   rw[e2];exact this
  ·have e:=bfDoR_still ho hd
   have:=l4Do_s vp p x (stF s) m kn lc rc op val r w hp hx hk hr hi split ho (stF s') (fun W hW hX=>by
    have h9:=l3Do_any vp p x (stF s) m kn ⟨op,(lc:Int),(rc:Int),val⟩ r W hW hX hk hr hi hv (by omega) b1 b2 b3 b4 b5 hrl;rw[e];exact h9) (by omega) (by omega) (by omega) b1 b2 b3 b4 b5 hrl
   exact this
 ·obtain⟨l,v,rest,hb,rfl⟩:=bfNext_flush hn hm
  have hen:=hok.en _ (List.mem_of_getElem? hb) (l,v) (by simp);unfold entOk at hen;simp only at hen;obtain⟨ln,rfl⟩:∃ ln:Nat,l=ln:=⟨l.toNat,by omega⟩
  have h9:=l4Do_f vp p x (stF s) m (m - p.length) ln v (flatE rest) split w hp hx (by omega) (by have:=flat_row hb;simpa[flatE] using this) (by omega) b1 (by rw[b2];have:=hok.q.lp;show s.q.pc.length * 3≤1000;omega) b3 b4 b5;have e2:stF ⟨⟨s.q.pc,s.q.rg,s.q.mm.set ((ln:Int).toNat) v⟩,s.bf.set (m - p.length) rest⟩=⟨(stF s).pc,(stF s).rg,(stF s).mm.set ln v,(stF s).bf.set (m - p.length) (flatE rest)⟩:=by
   unfold stF;rw[map_flat_set,Int.toNat_natCast]
  rw[e2];exact h9
end Go.Proofs.Ytnkfphndfijcoaa
namespace Go.Proofs.Ytnkfphndfijcoaa
open Go.RowKit
structure RfO (n:Nat) (og L:List (List Int)):Prop where
 ok:OutsOk n L
 mem:∀ o,o∈L↔o∈og
 le:L.length≤og.length
theorem RfO.nil (n:Nat):RfO n [] []:=⟨⟨fun o h=>by simp at h,.nil⟩,fun o=>Iff.rfl,Nat.le_refl _⟩
theorem RfO.put {n:Nat}{og L:List (List Int)}{o:List Int}(h:RfO n og L) (ho:o.length=n):RfO n (og++[o]) (putO o L):=
 ⟨putO_ok ho h.ok,fun y=>by rw[putO_mem ho h.ok.len,h.mem,List.mem_append,List.mem_singleton];exact Or.comm,by have h1:=putO_le (o:=o) L;have h2:=h.le;simp only[List.length_append,List.length_singleton];omega⟩
structure RfK {S:Type}(key:S→ByteArray) (ks:List ByteArray) (l:List S):Prop where
 len:ks.length=l.length
 mem:∀ k,k∈ks↔k∈l.map key
theorem RfK.pop {S:Type}{key:S→ByteArray}{ks:List ByteArray}{init taken:List S}{s:S}(h:RfK key ks (taken++(init++[s]))):RfK key ks ((s :: taken)++(init++[])):=
 ⟨by rw[h.len];simp only[List.length_append,List.length_cons,List.length_nil];omega,fun k=>(h.mem k).trans (mem_map_pop key)⟩
theorem RfK.push {S:Type}{key:S→ByteArray}{ks:List ByteArray}{l init new:List S}(t:S) (h:RfK key ks (l++(init++new))):RfK key (ks++[key t]) (l++(init++(new++[t]))):=
 ⟨by simp only[List.length_append,List.length_singleton,h.len];omega,fun k=>by
  rw[List.mem_append,h.mem k];simp only[List.map_append,List.mem_append,List.map_cons,List.map_nil,List.mem_cons,List.not_mem_nil,or_false,or_assoc]⟩
theorem bfOut_okR {p:List (List Ins)}{split:Bool}{s:Bf}(h:BfOk p split s):(bfOut s).length=p.length * 3+3∧∀ x∈bfOut s,0≤x∧x≤3:=by
 refine⟨sqOut_length h.q,fun x hx => ?_⟩;rcases List.mem_append.1 hx with g | g
 ·exact h.q.rg x g
 ·exact h.q.mm x g
abbrev RcF (p:List (List Ins)) (split:Bool) (s:Bf):Prop:=ReachM (bfStart p split) (bfNext p split) s
abbrev PIF (p:List (List Ins)) (split:Bool):=PI (mvF p split) (bfAf p split) (bfDone p) bfOut 12 42 (bfLeft p) (bfStart p split)
abbrev PMF (p:List (List Ins)) (split:Bool):=PMw (mvF p split) (bfAf p split) (bfDone p) bfOut 12 42 (bfLeft p) (bfStart p split)
theorem PIF.rcF {p:List (List Ins)}{split:Bool}{work taken:List Bf}{og:List (List Int)}(hv:progValid p=true) (h:PIF p split work taken og):∀ s∈taken++work,RcF p split s:=fun s hs=>(mvF_reach hv s).1 (h.rc s hs)
theorem bf_doneR {p:List (List Ins)}{split:Bool}(hv:progValid p=true):∀ l:List Bf,l.Nodup→(∀ s∈l,ReachM (bfStart p split) (nxM (mvF p split) (bfAf p split)) s∧bfDone p s=true)→l.length≤16777216:=by
 intro l hn hl;have hok:∀ s∈l,BfOk p split s:=fun s hs=>BfOk.reach (valid_ins hv) ((mvF_reach hv s).1 (hl s hs).1);have hpl:=(valid_le hv).1;have h1:=done_few (out:=bfOut) (n:=p.length * 3+3) hn (fun s hs=>bfOut_okR (hok s hs)) fun a ha b hb e=>bf_done_pc (hok a ha) (hok b hb) (hl a ha).2 (hl b hb).2 e;refine Nat.le_trans h1 ?_;have:4 ^ (p.length * 3+3)≤4 ^ 12:=Nat.pow_le_pow_right (by decide) (by omega);exact Nat.le_trans this (by decide)
def RfPost (n:Nat) (φ:List Int→Prop) (w:World) (e:Ending) (w':World):Prop:=∃ (cn:Nat) (vo:Slc) (L:List (List Int)),cn≤8796093022000∧e = .returned (.agg #[.int .i64 (cn:Int),.slice vo.a vo.n vo.cap])∧OutL LS w.heap.size w' w.heap.size vo.v L∧OutsOk n L∧(∀ o,o∈L↔φ o)∧Below w.heap.size w w'
structure BfR (p:List (List Ins)) (split:Bool) (w:World) (O:Nat) (vt:Value) (gk:Nat) (v:Value) (work taken:List Bf) (og L:List (List Int)) (ks:List ByteArray) (vo:Slc) (g cap:Nat) (wr:World):Prop where
 hv:v = .slice (some ⟨g,0,none⟩) work.length cap
 ms:wMs 13 (bfLeft p) work=gk
 pi:PIF p split work taken og
 se:SeaL w.heap.size w.heap.size O vt v (work.map stF) ks taken.length vo L wr
 ke:RfK kyF ks (taken++work)
 ro:RfO (p.length * 3+3) og L
 bl:Below w.heap.size w wr
def BfRel (p:List (List Ins)) (split:Bool) (w:World) (O:Nat) (vt:Value) (gk:Nat) (v:Value) (wr:World):Prop:=∃ work taken og L ks vo g cap,BfR p split w O vt gk v work taken og L ks vo g cap wr
structure BfI (p:List (List Ins)) (split:Bool) (w:World) (O S:Nat) (vt:Value) (x:SV) (s:Bf) (init taken:List Bf) (og L:List (List Int)) (vo:Slc) (k:Nat) (v:Value) (new:List Bf) (ks:List ByteArray) (g cap:Nat) (wr:World):Prop where
 hv:v = .slice (some ⟨g,0,none⟩) (init++new).length cap
 pm:PMF p split s (mvTo p split s k) init new taken og
 se:SeaL w.heap.size w.heap.size O vt v ((init++new).map stF) ks (taken.length+1) vo L wr
 ke:RfK kyF ks ((s :: taken)++(init++new))
 sx:wr.heap[S]? = some (.cells #[.slice x.p.a x.p.n x.p.cap,.slice x.r.a x.r.n x.r.cap,.slice x.m.a x.m.n x.m.cap,.slice x.b.a x.b.n x.b.cap] 64 (0,0))
 gS:g≠S
 lx:LocT LS w.heap.size wr (fun W=>RepSt W x (stF s))
 bl:Below w.heap.size w wr
def BfIRel (p:List (List Ins)) (split:Bool) (w:World) (O S:Nat) (vt:Value) (x:SV) (s:Bf) (init taken:List Bf) (og L:List (List Int)) (vo:Slc) (k:Nat) (v:Value) (wr:World):Prop:=∃ new ks g cap,BfI p split w O S vt x s init taken og L vo k v new ks g cap wr
theorem l4Run_any (vp:Value) (p:List (List Ins)) (split:Bool) (w:World) (hp:RepP w vp p) (hv:progValid p=true) :
 Calls Try.prog 23 #[vp,.bool split] w (RfPost (p.length * 3+3) (fun o => ∃ s,RcF p split s∧bfDone p s=true∧bfOut s=o) w):=by
 obtain⟨va,vc,rfl,hc1,hc2,hc3,hp⟩:=hp.open;have HP:=hide hp;have HV:=hide hv
 have hpl:p.length≤3:=(valid_le hv).1;have hpr:∀ r∈p,r.length≤7:=fun r hr=>((valid_le hv).2.2.1 r hr).1;have HPR:=hide hpr;have HIV:=hide (valid_ins hv);have HFEW:=hide (bf_doneR (split:=split) hv);have hs00:Hid (∀ w',Calls Try.prog 45 #[.slice va p.length vc,.bool split] w' (RetSt w' (stF (bfStart p split)))):=hide (fun w'=>l4Start_any va vc p split w' hpl);clear hp hv hpr;generalize hn:p.length=n at *;have HN:=hide hn;clear hn;obtain⟨A0,hA0⟩:∃ A0,A0=w.alloc (.cells #[.int .i64 0,.slice none 0 0] 45):=⟨_,rfl⟩
 have HB:Hid (Below w.heap.size w A0):=hide (by rw[hA0];exact belowAlloc _ _);have hz:A0.heap.size=w.heap.size+1:=by rw[hA0];simp
 have HN2:Hid (A0.heap[w.heap.size]? = some (.cells #[.int .i64 0,.slice none 0 0] 45 (0,0))):=hide (by rw[hA0];exact heap_alloc_new w _);have HA0:=hide hA0;clear hA0;have HSTART:=hs00;clear hs00;have HST:Hid (PIF p split [bfStart p split] [] []):=hide (PI.init (by decide) (bfLeft_start HV.out));have HOKR:=hide (fun (s:Bf) (hr:RcF p split s)=>(BfOk.reach HIV.out hr:BfOk p split s));have HROW:=hide (fun (s:Bf) (hr:RcF p split s)=>bf_rows HV.out hr);have HLB:=hide (fun (s:Bf) (hr:RcF p split s)=>(by
  have h1:=(HOKR.out s hr).lb;have h2:bfN split≤3:=by cases split <;> simp[bfN]
  have h3:=HN.out;have h4:=Nat.mul_le_mul (show p.length≤3 by omega) h2;omega:s.bf.length≤9))
 have HKEY:=hide (fun (x:SV) (s:Bf) (w':World) (hre:RcF p split s) (hr:RepSt w' x (stF s))=>(by
  have hok:=HOKR.out s hre;obtain⟨k1,k2,k3⟩:=sqDo_bytes hok.q HPR.out;have h1:=hok.q.lp;have h2:=hok.q.lr;have h3:=hok.q.lm;have h4:=HN.out;have h5:=HLB.out s hre;have h6:=HROW.out s hre;have:=l3Key_any x (stF s) w' hr (by show s.q.pc.length≤1000;omega) (by show s.q.rg.length≤1000;omega) (by show s.q.mm.length≤1000;omega) (by show (s.bf.map flatE).length≤100;rw[List.length_map];omega) (fun o ho=>by
   obtain⟨r,h7,rfl⟩:=List.mem_map.1 ho;rw[flatE_len];have:=h6 r h7;omega) k1 k2 k3 (fun o ho=>by
   obtain⟨r,h7,rfl⟩:=List.mem_map.1 ho;exact flatE_byte (hok.en r h7))
  rwa[stKey_f]at this:Calls Try.prog 39 #[.agg #[.slice x.p.a x.p.n x.p.cap,.slice x.r.a x.r.n x.r.cap,.slice x.m.a x.m.n x.m.cap,.slice x.b.a x.b.n x.b.cap]] w' fun e w''=>e = .returned (.string (kyF s))∧Below w'.heap.size w' w''))
 have HKSZ:=hide (fun (s:Bf) (hre:RcF p split s)=>(by
  have hok:=HOKR.out s hre;have h1:=hok.q.lp;have h2:=hok.q.lr;have h3:=hok.q.lm;have h4:=HN.out;have h5:=HLB.out s hre;have h6:=HROW.out s hre;rw[strOfNums_size,← stKey_f];unfold stKey;have h7:=bfT_le (ls:=s.bf.map flatE) (m:=84) (n:=9) (fun o ho=>by
   obtain⟨r,h7,rfl⟩:=List.mem_map.1 ho;rw[flatE_len];have:=h6 r h7;omega) (by rw[List.length_map];exact h5)
  simp only[List.length_append];show s.q.pc.length+s.q.rg.length+s.q.mm.length+(bfT (s.bf.map flatE)).length≤1000000;omega:(kyF s).size≤1000000))
 have HMARK:=hide (fun (vt:Value) (ks:List ByteArray) (s:Bf) (base:Nat) (w':World) (hre:RcF p split s) (hr:Tab w' base vt ks) (hk:ks.length≤8796093022000) (hB:base≤w'.heap.size)=>l3MarkL_any vt ks (kyF s) base w' hr (HKSZ.out s hre) hk hB);have HRE0:Hid (RcF p split (bfStart p split)):=hide .start;have HINJ:=hide (fun (a b:Bf) (ha:ReachM (bfStart p split) (nxM (mvF p split) (bfAf p split)) a) (hb:ReachM (bfStart p split) (nxM (mvF p split) (bfAf p split)) b) (e:kyF a=kyF b)=>(by
  have ha:=(mvF_reach HV.out a).1 ha;have hb:=(mvF_reach HV.out b).1 hb;have key:∀ s,RcF p split s→byteR (bfKey s):=fun s hs=>by
   have hok:=HOKR.out s hs;have ks:=sqDo_bytes hok.q HPR.out;rw[← stKey_f];intro z hz;rcases List.mem_append.1 hz with h | h
   ·rcases List.mem_append.1 h with h | h
    ·rcases List.mem_append.1 h with h | h
     ·exact ks.1 z h
     ·exact ks.2.1 z h
    ·exact ks.2.2 z h
   ·obtain⟨l,hl,hz⟩:=List.mem_flatMap.1 h
    obtain⟨r,hr,rfl⟩:=List.mem_map.1 hl;rcases List.mem_cons.1 hz with h | h
    ·omega
    ·exact flatE_byte (hok.en r hr) z h
  exact bfKey_reach HIV.out a b ha hb (keyB_inj (key a ha) (key b hb) e):a=b))
 go_enter Try.func23,Try.ntmps23;go_wp2_with (first
  | (at_make;refine wpList_make SlcE 51 ⟨none,0,0⟩ Try.infoStrSM rfl Try.underlying62 4096 (by decide) (by omega) rfl _ _ rfl rfl rfl ?_;intro w1 hown1 hgr1;rw[← HA0.out]at hown1 hgr1;rw[hz]at hown1;have T1:=hide (Own2.made (E:=StrE) (T2:=9) hown1);have B1:=hide ((Below.refl A0.heap.size A0).grown hgr1 (Nat.le_refl _) (fun q hq=>nomatch hq));have hsz1:=B1.out.size;clear hown1 hgr1)
  | (go_at_call 45;(with_reducible refine(HSTART.out _).mono ?_);rintro e w2 ⟨x,m,rfl,hs2,hb2⟩;have S2:=hide hs2;have B2:=hide hb2;have hsz2:=hb2.size;have T2:=hide (((T1.out.mono (show w.heap.size≤w.heap.size+1 by omega)).below hb2).below (belowAlloc w2 (.cells #[.slice x.p.a x.p.n x.p.cap,.slice x.r.a x.r.n x.r.cap,.slice x.m.a x.m.n x.m.cap,.slice x.b.a x.b.n x.b.cap] 64)));clear hs2 hb2)
  | (go_at_call 39;(with_reducible refine(HKEY.out x (bfStart p split) _ HRE0.out (S2.out.rep.below (belowAlloc _ _))).mono ?_);rintro e w3 ⟨rfl,hb3⟩;have B3:=hide hb3;have hsz3:=hb3.size;have T3:Hid (Tab w3 w.heap.size (.slice (some ⟨w.heap.size+1,0,none⟩) 4096 4096) []):=hide (by show Own2 _ _ _ _ _ _ (rowsT []);rw[rowsT_nil];exact T2.out.below hb3);clear hb3)
  | (go_at_call 38;(with_reducible refine(HMARK.out _ [] (bfStart p split) w.heap.size w3 HRE0.out T3.out (by simp) (by simp at hsz3;omega)).mono ?_);rintro e w4 ⟨rfl,ht4,hk4⟩;have T4:=hide ht4;have K4:=hide hk4;have hsz4:=hk4.size;clear ht4 hk4))
 obtain⟨V0,hV0⟩:∃ V0,V0=(w4.alloc (.cells #[] 34)).alloc (.cells #[.int .i64 0,.slice (some ⟨w4.heap.size,0,none⟩) 0 0] 45):=⟨_,rfl⟩
 simp only[World.size_alloc]at hsz3;have BV4:Below w4.heap.size w4 V0:=by rw[hV0];exact(belowAlloc w4 _).alloc (by simp) _
 have BW2:Below w.heap.size w w2:=(HB.out.trans (B1.out.mono HB.out.size)).trans (B2.out.mono (Nat.le_trans HB.out.size hsz1));have BW3:Below w.heap.size w w3:=(BW2.alloc BW2.size _).trans (B3.out.mono (by simp;have:=BW2.size;omega));have BW4:Below w.heap.size w w4:=BW3.trans (K4.out.below BW3.size);have BL0:Below w.heap.size w V0:=BW4.trans (BV4.mono BW4.size);have WK:WorkL V0 w.heap.size (.slice (some ⟨w2.heap.size,0,none⟩) 1 1) [stF (bfStart p split)]:=by
  refine⟨[x],rfl,(((LocT.own (Own.litSt w2 BW2.size x) (L:=[51,9]) (B:=w.heap.size) (by decide)).step (.of_below B3.out)).keep w4 K4.out).below BV4,fun i y s hy hs => ?_⟩;cases i with
  | zero =>
   simp at hy hs;subst hy;subst hs;exact((((S2.out.loc (L:=LS) (B:=w.heap.size) (by decide) (by decide)).step (.of_below (belowAlloc _ _))).step (.of_below B3.out)).step (K4.out.more (by decide) (Nat.le_refl _))).step (.of_below BV4)
  | succ i=>simp at hy
 have SE0:SeaL w.heap.size w.heap.size (w4.heap.size+1) (.slice (some ⟨w.heap.size+1,0,none⟩) 4096 4096) (.slice (some ⟨w2.heap.size,0,none⟩) 1 1) [stF (bfStart p split)] [kyF (bfStart p split)] 0 ⟨some ⟨w4.heap.size,0,none⟩,0,0⟩ [] V0:=by
  refine⟨WK,T4.out.below BV4,?_,by rw[hV0];have h:=heap_alloc_new (w4.alloc (.cells #[] 34)) (.cells #[.int .i64 0,.slice (some ⟨w4.heap.size,0,none⟩) 0 0] 45);simpa using h,?_,Nat.le_refl _,by have:=BW4.size;omega,BL0.size⟩
  ·have h1:=(B1.out.block w.heap.size (by omega)).trans HN2.out
   have h2:=(B2.out.block w.heap.size (by omega)).trans h1;have h3:=((belowAlloc w2 (.cells #[.slice x.p.a x.p.n x.p.cap,.slice x.r.a x.r.n x.r.cap,.slice x.m.a x.m.n x.m.cap,.slice x.b.a x.b.n x.b.cap] 64)).block w.heap.size (by omega)).trans h2;have h4:=(B3.out.block w.heap.size (by simp;omega)).trans h3;have h5:=K4.out.same h4 (by decide);exact(BV4.block w.heap.size (Array.getElem?_eq_some_iff.1 h5).1).trans h5
  ·rw[hV0]
   exact(OutL.empty (Ls:=LS) (B:=w.heap.size) BW4.size).step (.alloc _ _) (by decide)
 have HR0:BfRel p split w (w4.heap.size+1) (.slice (some ⟨w.heap.size+1,0,none⟩) 4096 4096) (wMs 13 (bfLeft p) [bfStart p split]) (.slice (some ⟨w2.heap.size,0,none⟩) 1 1) V0:=
  ⟨[bfStart p split],[],[],[],[kyF (bfStart p split)],⟨some ⟨w4.heap.size,0,none⟩,0,0⟩,w2.heap.size,1,rfl,rfl,HST.out,SE0,⟨rfl,fun k=>Iff.rfl⟩,.nil _,BL0⟩
 have HRR:=hide HR0;have HV0:=hide hV0;obtain⟨O,hO⟩:∃ O,O=w4.heap.size+1:=⟨_,rfl⟩
 obtain⟨vt,hvt⟩:∃ vt:Value,vt = .slice (some ⟨w.heap.size+1,0,none⟩) 4096 4096:=⟨_,rfl⟩
 simp only[← hV0];clear WK SE0 HR0 BL0 BW4 BW3 BW2 BV4 hV0 T4 K4 T1 B1 B2 S2 T2 B3 T3 HST hsz1 hsz2 hsz3 hsz4;rw[← hO]at HRR ⊢;rw[← hvt]at HRR ⊢;clear hO hvt HV0
 go_loopg [6] (wMs 13 (bfLeft p) [bfStart p split]) (fun gk v wr=>BfRel p split w O vt gk v wr)
 case atStart=>exact HRR.out
 case round =>
  obtain⟨work,taken,og,outs,ks,vo,g,cap,rfl,hph,hpi,hse,hke,hro,hbl⟩:=hrel;have HPH:=hide hph;have HPI:=hide hpi;have HSE:=hide hse;have HKE:=hide hke;have HRO:=hide hro;have HBL:=hide hbl
  have hct:taken.length+work.length≤7321811000000:=by have h:=bf_few HV.out hpi.nd (hpi.rcF HV.out);rwa[List.length_append]at h
  rcases List.eq_nil_or_concat work with rfl | ⟨init,s,rfl⟩
  ·have c0:wr.cell? ⟨O,0,none⟩=some (.int .i64 (taken.length:Int)):=cellH hse.bo (k:=0) rfl
   have c1:wr.cell? ⟨O,1,none⟩=some (.slice vo.a vo.n vo.cap):=cellH hse.bo (k:=1) rfl;have r0:wr.cell? ⟨w.heap.size,0,none⟩=some (.int .i64 0):=cellH hse.bn (k:=0) rfl;have r1:wr.cell? ⟨w.heap.size,1,none⟩=some (.slice none 0 0):=cellH hse.bn (k:=1) rfl;have rfz:=frozH hse.bn;have rl:=lt_of_cell r0;have cl:=lt_of_cell c0;have t0:TyB 45 wr w.heap.size:=⟨_,hse.bn⟩
   have T0:=hide t0;have hct2:taken.length≤8796093022000:=by omega
   clear hph hpi hse hke hro hbl t0 hct;generalize taken.length=cn at *;go_wp2_with fail;have k1:KpT LS w.heap.size wr ((wr.setCell ⟨w.heap.size,0,none⟩ (.int .i64 (cn:Int))).setCell ⟨w.heap.size,1,none⟩ (.slice vo.a vo.n vo.cap)):=(KpT.setT T0.out (by decide) (Nat.le_refl _) _).trans (KpT.setT (T0.out.set _ _ _) (by decide) (Nat.le_refl _) _);refine bodyPost_ret (v:=.agg #[.int .i64 (cn:Int),.slice vo.a vo.n vo.cap]) (by simp[results,Try.results23,go_sem, *]) rfl ⟨cn,vo,outs,hct2,rfl,?_,HN.out ▸ HRO.out.ok,fun o=>(HRO.out.mem o).trans ((HPI.out.fin o).trans ⟨fun ⟨s,h1,h2⟩=>⟨s,(mvF_reach HV.out s).1 h1,h2⟩,fun ⟨s,h1,h2⟩=>⟨s,(mvF_reach HV.out s).2 h1,h2⟩⟩),?_⟩
   ·exact HSE.out.ol.step k1 (by decide)
   ·exact(HBL.out.setCell (p:=⟨w.heap.size,0,none⟩) (Nat.le_refl _) _).setCell (p:=⟨w.heap.size,1,none⟩) (Nat.le_refl _) _
  ·rw[List.concat_eq_append] at *
   have hwk:=hse.wk;rw[List.map_append,List.map_singleton]at hwk;obtain⟨hn1,hgl,hgB,hcap,hwk',x,hlx,p0,p1,p2,p3⟩:=hwk.pop;rw[List.length_map]at hwk' p0 p1 p2 p3 hn1;have hreach:=hpi.rcF HV.out s (by simp);have HRC:=hide hreach;have HOK:=hide (HOKR.out s hreach);have HWK:=hide hwk';have HLX:=hide hlx
   have hlen:(init++[s]).length=init.length+1:=by simp
   rw[hlen]at hcap ⊢;have c0:wr.cell? ⟨O,0,none⟩=some (.int .i64 (taken.length:Int)):=cellH hse.bo (k:=0) rfl;have c1:wr.cell? ⟨O,1,none⟩=some (.slice vo.a vo.n vo.cap):=cellH hse.bo (k:=1) rfl;have cfz:=frozH hse.bo;have cl:=lt_of_cell c0;have hm1:init.length≤68719476000:=by have h1:=hpi.short;simp at h1;omega
   have hct2:taken.length≤8796093022000:=by omega
   have hnb:x.b.n=s.bf.length:=by
    obtain⟨_,_,hv2,-,-,-,-⟩:=hlx.now.bf.open;simp only[Slc.v,Value.slice.injEq,List.length_map]at hv2;exact hv2.2.1
   have hnb9:s.bf.length≤9:=HLB.out s hreach;have HNB0:=hide hnb;have HBR0:Hid (s.bf.length=s.bf.length):=hide rfl;clear hph hpi hse hke hro hbl hwk hwk' hlx hlen hn1 hct hreach hnb;generalize hm:init.length=m at *;have HM:=hide hm;generalize htn:taken.length=cn at *;have HTN:=hide htn;obtain⟨nb,hnbq⟩:∃ nb,nb=s.bf.length:=⟨_,rfl⟩
   rw[← hnbq]at hnb9 HNB0;have HNB:=HNB0;have HBL9:=hide hnbq;clear hm htn hnbq HNB0 HBR0;go_wp2_with fail;obtain⟨S,hS⟩:∃ S,S=wr.heap.size:=⟨_,rfl⟩
   have ec:((cn+1:Nat):Int)=(cn:Int)+1:=by omega
   have SE0:=((HSE.out.wkS HWK.out (.refl _ _ _)).cnt (cn+1)).below (belowAlloc _ (.cells #[.slice x.p.a x.p.n x.p.cap,.slice x.r.a x.r.n x.r.cap,.slice x.m.a x.m.n x.m.cap,.slice x.b.a x.b.n x.b.cap] 64));have LX0:=(HLX.out.step (KpT.set (j:=0) HSE.out.bo (by decide) (by have:=HSE.out.lN;have:=HSE.out.lO;omega) (.int .i64 ((cn+1:Nat):Int)))).step (.alloc _ (.cells #[.slice x.p.a x.p.n x.p.cap,.slice x.r.a x.r.n x.r.cap,.slice x.m.a x.m.n x.m.cap,.slice x.b.a x.b.n x.b.cap] 64));have BL0:=(HBL.out.setCell (p:=⟨O,0,none⟩) (by have:=HSE.out.lN;have:=HSE.out.lO;show _≤O;omega) (.int .i64 ((cn+1:Nat):Int))).alloc (by simpa using HBL.out.size) (.cells #[.slice x.p.a x.p.n x.p.cap,.slice x.r.a x.r.n x.r.cap,.slice x.m.a x.m.n x.m.cap,.slice x.b.a x.b.n x.b.cap] 64);rw[ec]at SE0 LX0 BL0;obtain⟨V1,hV1⟩:∃ V1,V1=(wr.setCell ⟨O,0,none⟩ (.int .i64 ((cn:Int)+1))).alloc (.cells #[.slice x.p.a x.p.n x.p.cap,.slice x.r.a x.r.n x.r.cap,.slice x.m.a x.m.n x.m.cap,.slice x.b.a x.b.n x.b.cap] 64):=⟨_,rfl⟩
   have SX0:V1.heap[S]? = some (.cells #[.slice x.p.a x.p.n x.p.cap,.slice x.r.a x.r.n x.r.cap,.slice x.m.a x.m.n x.m.cap,.slice x.b.a x.b.n x.b.cap] 64 (0,0)):=by rw[hV1,hS];have h:=heap_alloc_new (wr.setCell ⟨O,0,none⟩ (.int .i64 ((cn:Int)+1))) (.cells #[.slice x.p.a x.p.n x.p.cap,.slice x.r.a x.r.n x.r.cap,.slice x.m.a x.m.n x.m.cap,.slice x.b.a x.b.n x.b.cap] 64);simpa using h
   rw[← hV1]at SE0 LX0 BL0;have HSE0:=hide SE0;have HLX0:=hide LX0;have HBL0:=hide BL0;have HSX0:=hide SX0
   have hgS0:g < S:=by rw[hS];exact hgl
   have hgS:g≠S:=by omega
   have hOS:O < S:=by rw[hS];exact cl
   have HDONE:Hid (Calls Try.prog 46 #[.slice va n vc,.agg #[.slice x.p.a x.p.n x.p.cap,.slice x.r.a x.r.n x.r.cap,.slice x.m.a x.m.n x.m.cap,.slice x.b.a x.b.n x.b.cap]] V1 fun e w'=>e = .returned (.bool (bfDone p s))∧Below V1.heap.size V1 w'):=hide (by
    have:=l4Done_any _ p x s V1 (HP.out.below (HBL0.out)) HLX0.out.now HOK.out.q.lp (by have:=HN.out;omega);exact this)
   have HOUT:Hid (∀ W,RepSt W x (stF s)→Calls Try.prog 42 #[.agg #[.slice x.p.a x.p.n x.p.cap,.slice x.r.a x.r.n x.r.cap,.slice x.m.a x.m.n x.m.cap,.slice x.b.a x.b.n x.b.cap]] W (RetOwn IntE 3 W (bfOut s))):=hide (fun W h=>l3Outcome_any x (stF s) W h (by show s.q.rg.length≤_;have:=HOK.out.q.lr;have:=HN.out;omega) (by show s.q.mm.length≤_;have:=HOK.out.q.lm;omega));have HPUT:=hide (fun W u (hL:OutL LS w.heap.size W w.heap.size vo.v outs) ho hb=>l3Put_any LS w.heap.size w.heap.size (.slice vo.a vo.n vo.cap) u outs (bfOut s) W hL ho (by decide) hb (by have h1:=HRO.out.le;have h2:=HPI.out.few HFEW.out;omega));have HSX1:=hide hS;have HOL:Hid ((bfOut s).length=p.length * 3+3):=hide (bfOut_okR HOK.out).1;simp only[← hV1];rw[← hS];clear c0 c1 cfz cl p0 p1 p2 p3 SE0 LX0 BL0 SX0 hV1 hS ec hgl hcap HWK HSE HBL HLX;have k0:V1.cell? ⟨S,0,none⟩=some (.slice x.p.a x.p.n x.p.cap):=cellH HSX0.out (k:=0) rfl;cases hd:bfDone p s
   ·have PM0:=hide (HPI.out.pop_no hd)
    have HD:=hide hd;rw[hd]at HDONE;clear hd
    (with_reducible refine HDONE.out.mono ?_);rintro e w1 ⟨rfl,hb1⟩
    have SE2:=hide (HSE0.out.below hb1);have LX2:=hide (HLX0.out.step (.of_below hb1));have BL2:=hide (HBL0.out.trans (hb1.mono HBL0.out.size));have SX2:Hid (w1.heap[S]? = some (.cells #[.slice x.p.a x.p.n x.p.cap,.slice x.r.a x.r.n x.r.cap,.slice x.m.a x.m.n x.m.cap,.slice x.b.a x.b.n x.b.cap] 64 (0,0))):=hide ((hb1.block S (Array.getElem?_eq_some_iff.1 HSX0.out).1).trans HSX0.out)
    clear hb1 k0;go_wp2_with fail;have RO2:=HRO
    go_loopw [6,9] (fun v i wr => ∃ k:Nat,k≤n+nb∧i = .int .i64 k∧BfIRel p split w O S vt x s init taken (og) (outs) vo k v wr) (fun _ i _=>n+nb - (intOf i).toNat)
    case atStart=>exact⟨0,Nat.zero_le _,rfl,[],ks,g,cap,by rw[List.append_nil,HM.out],PM0.out,by have h:=SE2.out;rw[← HTN.out]at h;rw[List.append_nil];exact h,HKE.out.pop,SX2.out,hgS,LX2.out,BL2.out⟩
    case round =>
     obtain⟨k,hk,rfl,new2,ks2,g2,cap2,rfl,hpm,hse,hke,hsx,hgS2,hlx,hbl⟩:=hrel;have PM3:=hide hpm;have SE3:=hide hse;have KE3:=hide hke;have SX3:=hide hsx;have LX3:=hide hlx;have BL3:=hide hbl
     have d3:wr.cell? ⟨S,3,none⟩=some (.slice x.b.a x.b.n x.b.cap):=cellH hsx (k:=3) rfl;rw[HNB.out]at d3;have dl:=lt_of_cell d3;obtain⟨l2,hl2⟩:∃ l2,l2=(init++new2).length:=⟨_,rfl⟩
     have hse3:=SE3.out;rw[← hl2]at hse3 ⊢;have SE4:=hide hse3;have HL2:=hide hl2;clear hpm hse hke hlx hbl hse3 hl2 SE3;by_cases hlt:k < n+nb
     ·have hlt':(k:Int) < (n:Int)+(nb:Int):=by omega
      have d0:wr.cell? ⟨S,0,none⟩=some (.slice x.p.a x.p.n x.p.cap):=cellH hsx (k:=0) rfl;have d1:wr.cell? ⟨S,1,none⟩=some (.slice x.r.a x.r.n x.r.cap):=cellH hsx (k:=1) rfl;have d2:wr.cell? ⟨S,2,none⟩=some (.slice x.m.a x.m.n x.m.cap):=cellH hsx (k:=2) rfl;have hbs:=BL3.out.size;have HCAN:Hid (Calls Try.prog 47 #[.slice va n vc,.agg #[.slice x.p.a x.p.n x.p.cap,.slice x.r.a x.r.n x.r.cap,.slice x.m.a x.m.n x.m.cap,.slice x.b.a nb x.b.cap],.bool split,.int .i64 (k:Int)] wr fun e w'=>e = .returned (.bool (bfNext p split s k).isSome)∧Below wr.heap.size wr w'):=hide (by
       have:=l4Can_any _ p x s split k wr (HP.out.below BL3.out) LX3.out.now HOK.out (by have:=HN.out;omega) HIV.out (by have:=HN.out;have:=HBL9.out;omega);rwa[HNB.out]at this)
      cases hc:bfNext p split s k with
      | none =>
       have SK:=hide (mvTo_skip hc);rw[hc]at HCAN;simp only[Option.isSome_none]at HCAN;clear hc;go_wp2_with (go_at_call 47;(with_reducible refine HCAN.out.mono ?_);rintro e w5 ⟨rfl,hb5⟩;have B5:=hide hb5;clear hb5);go_roundw
       case rel=>exact⟨k+1,by omega,by go_num,new2,ks2,g2,cap2,by rw[HL2.out],by rw[SK.out];exact PM3.out,SE4.out.below B5.out,KE3.out,(B5.out.block S dl).trans SX3.out,hgS2,LX3.out.step (.of_below B5.out),BL3.out.trans (B5.out.mono hbs)⟩
       case measure=>simp[intOf];omega
      | some s' =>
       have SK:=hide (mvTo_can hc);have NX:Hid (nxM (mvF p split) (bfAf p split) s (mvTo p split s k)=some s'):=hide (mvTo_get hc (by have:=HN.out;have:=HBL9.out;omega));have HRC2:Hid (RcF p split s'):=hide (.step HRC.out hc);have HRK2:=hide (bfLeft_next HOK.out hc);have HDO:Hid (∀ W,Below w.heap.size w W→RepSt W x (stF s)→Calls Try.prog 48 #[.slice va n vc,.agg #[.slice x.p.a x.p.n x.p.cap,.slice x.r.a x.r.n x.r.cap,.slice x.m.a x.m.n x.m.cap,.slice x.b.a nb x.b.cap],.bool split,.int .i64 (k:Int)] W (RetSt W (stF s'))):=hide (fun W hW hx=>by
        have:=l4Do_any _ p x s s' split k W (HP.out.below hW) hx HOK.out (by have:=HN.out;omega) HPR.out (HROW.out s HRC.out) HIV.out hc;rwa[HNB.out]at this)
       rw[hc]at HCAN;simp only[Option.isSome_some]at HCAN;clear hc;go_wp2_with (go_at_call 47;(with_reducible refine HCAN.out.mono ?_);rintro e w5 ⟨rfl,hb5⟩;have B5:=hide hb5;have hsx5:=(hb5.block S dl).trans SX3.out;have e0:w5.cell? ⟨S,0,none⟩=some (.slice x.p.a x.p.n x.p.cap):=cellH hsx5 (k:=0) rfl;have e1:w5.cell? ⟨S,1,none⟩=some (.slice x.r.a x.r.n x.r.cap):=cellH hsx5 (k:=1) rfl;have e2:w5.cell? ⟨S,2,none⟩=some (.slice x.m.a x.m.n x.m.cap):=cellH hsx5 (k:=2) rfl;have e3:w5.cell? ⟨S,3,none⟩=some (.slice x.b.a x.b.n x.b.cap):=cellH hsx5 (k:=3) rfl;rw[HNB.out]at e3;have el:=lt_of_cell e0;have SE5:=hide (SE4.out.below hb5);have LX5:=hide (LX3.out.step (.of_below hb5));have BL5:=hide (BL3.out.trans (hb5.mono hbs));have SX5:=hide hsx5;have hbs5:=BL5.out.size;clear d0 d1 d2 d3 dl hsx5 hb5)
       (with_reducible refine(HDO.out _ BL5.out LX5.out.now).mono ?_);rintro e w6 ⟨y,my,rfl,hs6,hb6⟩;have S6:=hide hs6;have B6:=hide (hb6.alloc hb6.size (.cells #[.slice y.p.a y.p.n y.p.cap,.slice y.r.a y.r.n y.r.cap,.slice y.m.a y.m.n y.m.cap,.slice y.b.a y.b.n y.b.cap] 64));have hsz6:=hb6.size;clear hs6 hb6
       go_wp2_with (go_at_call 39;(with_reducible refine(HKEY.out y s' _ HRC2.out (S6.out.rep.below (belowAlloc _ _))).mono ?_);rintro e w7 ⟨rfl,hb7⟩;have B7:=hide (B6.out.trans (hb7.mono (by simp;omega)));have HX7:Hid (w7.heap[w6.heap.size]? = some (.cells #[.slice y.p.a y.p.n y.p.cap,.slice y.r.a y.r.n y.r.cap,.slice y.m.a y.m.n y.m.cap,.slice y.b.a y.b.n y.b.cap] 64 (0,0))):=hide ((hb7.block w6.heap.size (by simp)).trans (heap_alloc_new w6 _));have hsz7:=B7.out.size;have LY7:=hide (((S6.out.loc (L:=LS) (B:=w.heap.size) (by decide) (by decide)).step (.alloc _ _)).step (.of_below hb7));clear hb7)
       (with_reducible refine(l3Found_any vt ks2 (kyF s') w7 (SE5.out.below B7.out).tb.rep (HKSZ.out _ HRC2.out)).mono ?_);rintro e w8 ⟨D,rfl,hD,rfl⟩
       have hkl:ks2.length≤8796093022000:=by rw[KE3.out.len];have h:=bf_few HV.out PM3.out.nd (fun u hu=>(mvF_reach HV.out u).1 (PM3.out.rc u hu));omega
       cases D
       ·have HNO:Hid (s'∉(s :: taken)++(init++new2)):=hide (fun h=>by have h2:=hD.2 ((KE3.out.mem _).2 (List.mem_map.2 ⟨_,h,rfl⟩));simp at h2)
        clear hD;go_wp2_with (first
         | (go_at_call 38;(with_reducible refine(HMARK.out vt ks2 s' w.heap.size w7 HRC2.out (SE5.out.below B7.out).tb hkl (by omega)).mono ?_);rintro e w9 ⟨rfl,ht9,hk9⟩;have SE9:=hide ((SE5.out.below B7.out).mark ht9 hk9);have K9:=hide hk9;have hx9:=hk9.same HX7.out (by decide);have f0:w9.cell? ⟨w6.heap.size,0,none⟩=some (.slice y.p.a y.p.n y.p.cap):=cellH hx9 (k:=0) rfl;have f1:w9.cell? ⟨w6.heap.size,1,none⟩=some (.slice y.r.a y.r.n y.r.cap):=cellH hx9 (k:=1) rfl;have f2:w9.cell? ⟨w6.heap.size,2,none⟩=some (.slice y.m.a y.m.n y.m.cap):=cellH hx9 (k:=2) rfl;have f3:w9.cell? ⟨w6.heap.size,3,none⟩=some (.slice y.b.a y.b.n y.b.cap):=cellH hx9 (k:=3) rfl;have fl9:=lt_of_cell f0;obtain⟨xs9,hxl9,hown9,hst9⟩:=SE9.out.wk;have O9:=hide hown9;have XL9:=hide hxl9;have ST9:=hide hst9;have hxb9:xs9.length≤68719476736:=(by rw[hxl9,List.length_map];have h1:=PM3.out.short;omega);have hsz9:=hk9.size;clear hown9 hxl9 hst9 ht9 hk9 hx9)
         | (at_builtin;refine wpList_appAt StE 64 Try.infoStM rfl Try.underlying66 w.heap.size _ xs9 y (O9.out.alloc _) (by decide) hxb9 (by simp;omega) rfl _ _ rfl rfl _ 0 1 rfl news_alloc ?_;intro v10 w10 hown10 hgr10 hat10;have O10:=hide hown10;have G10:=hide hgr10;have A10:=hide hat10;clear hown10 hgr10 hat10))
        rcases O10.out.shape with⟨_,e⟩ | ⟨g10,c10,rfl,hg10,hg10',hc10,_⟩
        ·simp at e
        have hl10:(xs9++[y]).length=(init++(new2++[s'])).length:=by have:=XL9.out;simp only[List.length_append,List.length_singleton,List.length_map]at this ⊢;omega
        have hgS10:g10≠S:=by
         rcases A10.out with h | ⟨q,h,hq⟩
         ·simp[Value.ownBlock]at h;omega
         ·simp[Value.ownBlock]at h;simp at hq;omega
        have bA:=belowAlloc w9 (.cells #[.slice y.p.a y.p.n y.p.cap,.slice y.r.a y.r.n y.r.cap,.slice y.m.a y.m.n y.m.cap,.slice y.b.a y.b.n y.b.cap] 64);have kA:=KpT.of_below (L:=LS) (B:=w.heap.size) bA;have k9:=K9.out.more (L':=LS) (by decide) (Nat.le_refl _);have hw10:=WorkL.push (s:=stF s') XL9.out (O9.out.below bA) (fun i x s h1 h2=>(ST9.out i x s h1 h2).step kA) ((LY7.out.step k9).step kA) O10.out G10.out;have k10:KpT [64] w.heap.size _ w10:=KpT.grown (O9.out.below bA) (by decide) (Nat.le_refl _) G10.out;have se10:=(SE9.out.below bA).wkS hw10 k10;rw[← List.map_singleton (f:=stF),← List.map_append,List.append_assoc]at se10;rw[hl10]at se10 ⊢;have hS9:w9.heap[S]? = _:=K9.out.same ((B7.out.block S el).trans SX5.out) (by decide);have hSl:=(Array.getElem?_eq_some_iff.1 hS9).1;have hS10:=(G10.out.block S (by simp;omega) (fun e=>by simp[Value.ownBlock]at e;omega)).trans ((heap_alloc_old w9 _ hSl).trans hS9);have lx10:=((((LX5.out.step (.of_below B7.out)).step k9).step kA).step (k10.more (by decide) (Nat.le_refl _)))
        have bl7:=BL5.out.trans (B7.out.mono hbs5);have bl9:=bl7.trans (K9.out.below bl7.size);have bl10:=(bl9.alloc bl9.size (.cells #[.slice y.p.a y.p.n y.p.cap,.slice y.r.a y.r.n y.r.cap,.slice y.m.a y.m.n y.m.cap,.slice y.b.a y.b.n y.b.cap] 64)).grown G10.out (by simp;have:=bl9.size;omega) (fun q hq=>(World.ownsRow.lt O9.out q hq).1);have pm10:=PM3.out.new NX.out HNO.out (by have h1:=mvF_few HOK.out (by have:=HN.out;omega);have h2:mvTo p split s k < (mvF p split s).length:=(List.getElem?_eq_some_iff.1 ((nxM_some _ _).1 NX.out).choose_spec.1).1;omega) HRK2.out;rw[← SK.out]at pm10;have HF:=hide (⟨new2++[s'],ks2++[kyF s'],g10,c10,rfl,pm10,se10,KE3.out.push s',hS10,hgS10,lx10,bl10⟩:BfIRel p split w O S vt x s init taken (og) (outs) vo (k+1) _ w10);clear hw10 k10 se10 hS9 hSl hS10 lx10 bl7 bl9 bl10 pm10 bA kA k9;go_roundw
        case rel=>exact⟨k+1,by omega,by go_num,HF.out⟩
        case measure=>simp[intOf];omega
       ·have SK2:Hid (kyF s'∈ks2):=hide (hD.1 rfl)
        clear hD;have pm9:PMF p split s (mvTo p split s k+1) init new2 taken (og):=by
         obtain⟨u,hu,he⟩:=List.mem_map.1 ((KE3.out.mem _).1 SK2.out);exact PM3.out.old (key:=kyF) NX.out hu he HINJ.out
        rw[← SK.out]at pm9;have PM9:=hide pm9;clear pm9;go_wp2_with fail;go_roundw
        case rel=>exact⟨k+1,by omega,by go_num,new2,ks2,g2,cap2,by rw[HL2.out],PM9.out,SE5.out.below B7.out,KE3.out,(B7.out.block S el).trans SX5.out,hgS2,LX5.out.step (.of_below B7.out),BL5.out.trans (B7.out.mono hbs5)⟩
        case measure=>simp[intOf];omega
     ·obtain rfl:k=n+nb:=by omega
      have hlt':¬ ((n:Int)+(nb:Int) < (n:Int)+(nb:Int)):=by omega
      have hall:(mvF p split s).length≤mvTo p split s (n+nb):=by have h:=mvTo_all p split s;rw[HN.out,← HBL9.out]at h;omega
      have HG:=hide (HPH.out ▸ PM3.out.falls (by have h1:=mvF_few HOK.out (by have:=HN.out;omega);have h:=mvTo_all p split s;rw[HN.out,← HBL9.out]at h;omega):wMs 13 (bfLeft p) (init++new2) < _);have HF:=hide (⟨init++new2,s :: taken,_,outs,ks2,vo,g2,cap2,by rw[HL2.out],rfl,PM3.out.leave hall,SE4.out,KE3.out,RO2.out,BL3.out⟩:BfRel p split w O vt (wMs 13 (bfLeft p) (init++new2)) (.slice (some ⟨g2,0,none⟩) l2 cap2) wr);clear hall;go_wp2_with fail
      go_roundg (wMs 13 (bfLeft p) (init++new2))
      case measure=>exact HG.out
      case rel=>exact HF.out
   ·have PM0:=hide (HPI.out.pop_yes hd)
    rw[hd]at HDONE;clear hd
    (with_reducible refine HDONE.out.mono ?_);rintro e w1 ⟨rfl,hb1⟩
    have SE1:=hide (HSE0.out.below hb1);have LX1:=hide (HLX0.out.step (.of_below hb1));have BL1:=hide (HBL0.out.trans (hb1.mono HBL0.out.size));have SX1:Hid (w1.heap[S]? = some (.cells #[.slice x.p.a x.p.n x.p.cap,.slice x.r.a x.r.n x.r.cap,.slice x.m.a x.m.n x.m.cap,.slice x.b.a x.b.n x.b.cap] 64 (0,0))):=hide ((hb1.block S (Array.getElem?_eq_some_iff.1 HSX0.out).1).trans HSX0.out)
    clear hb1 k0;go_wp2_with fail
    -- reg outs
    refine wp_region_inv3 (n:=6) (by kernel_rfl) rfl (by kernel_rfl) (by kernel_rfl) (fun A ls a' W => ∃ (u:Slc) (pv:Slc) (x46 x47 x48 x49 x50 x51:Value),a'=putAll A [(46,x46),(47,x47),(48,x48),(49,x49),(50,x50),(51,x51)]∧Vd ls 0 [] x46 (.pointer (some ⟨O,1,none⟩))∧Vd ls 1 [] x47 (.slice vo.a vo.n vo.cap)∧Vd ls 2 [] x48 (.agg #[.slice x.p.a x.p.n x.p.cap,.slice x.r.a x.r.n x.r.cap,.slice x.m.a x.m.n x.m.cap,.slice x.b.a x.b.n x.b.cap])∧Vd ls 3 [] x49 (.slice u.a u.n u.cap)∧Vd ls 4 [3] x50 (.slice pv.a pv.n pv.cap)∧Vd ls 5 [] x51 (.pointer (some ⟨O,1,none⟩))∧JSq w1 w.heap.size (bfOut s) (putO (bfOut s) outs) (fl ls 3) (fl ls 4) u pv W) ?r0 ?rs ?re
    case r0 =>
     exact⟨⟨none,0,0⟩,⟨none,0,0⟩,u46,u47,u48,u49,u50,u51,by simp only[putAll,Act.put,List.setIfInBounds_toArray,List.set_cons_succ,List.set_cons_zero],Vd.start,Vd.start,Vd.start,Vd.start,Vd.start,Vd.start,by simp only[fl_start];exact⟨(Below.refl _ _).drew,fun h=>(nomatch h),fun h=>(nomatch h),fun h=>(nomatch h)⟩⟩
    case rs =>
     rintro ls a' W hs hnl ⟨u,pv,x46,x47,x48,x49,x50,x51,ha,cv0,cv1,cv2,cv3,cv4,cv5,hJ⟩ k o hkn mc K hK;simp only[putAll,Act.put,List.setIfInBounds_toArray,List.set_cons_succ,List.set_cons_zero]at ha;subst ha;have hkc:k=0∨k=1∨k=2∨k=3∨k=4∨k=5:=by omega
     have hop:=mc.op;have haf:=mc.after;rcases hkc with rfl | rfl | rfl | rfl | rfl | rfl
     ·simp at hop;subst hop;simp[Region.binds]at haf
      go_simp;exact hK _ _ ⟨u,pv,_,_,_,_,_,_,by simp only[putAll,Act.put,List.setIfInBounds_toArray,List.set_cons_succ,List.set_cons_zero],Vd.same (by simp),cv1.set (by decide),cv2.set (by decide),cv3.set (by decide),cv4.set (by decide),cv5.set (by decide),by rw[fl_set (show 0≠3 by decide),fl_set (show 0≠4 by decide)];exact hJ⟩
     ·simp at hop;subst hop;simp[Region.binds]at haf
      obtain rfl:=(cv0.get (by simp[haf])).symm;have d1:W.cell? ⟨O,1,none⟩=some (.slice vo.a vo.n vo.cap):=cellH ((hJ.out.block O (Array.getElem?_eq_some_iff.1 SE1.out.bo).1).trans SE1.out.bo) (k:=1) rfl;have dl:=lt_of_cell d1;go_simp;exact hK _ _ ⟨u,pv,_,_,_,_,_,_,by simp only[putAll,Act.put,List.setIfInBounds_toArray,List.set_cons_succ,List.set_cons_zero],cv0.set (by decide),Vd.same (by simp),cv2.set (by decide),cv3.set (by decide),cv4.set (by decide),cv5.set (by decide),by rw[fl_set (show 1≠3 by decide),fl_set (show 1≠4 by decide)];exact hJ⟩
     ·simp at hop;subst hop;simp[Region.binds]at haf
      have hbx:=(hJ.out.block S (Array.getElem?_eq_some_iff.1 SX1.out).1).trans SX1.out;have d0:W.cell? ⟨S,0,none⟩=some (.slice x.p.a x.p.n x.p.cap):=cellH hbx (k:=0) rfl;have d1:W.cell? ⟨S,1,none⟩=some (.slice x.r.a x.r.n x.r.cap):=cellH hbx (k:=1) rfl;have d2:W.cell? ⟨S,2,none⟩=some (.slice x.m.a x.m.n x.m.cap):=cellH hbx (k:=2) rfl;have d3:W.cell? ⟨S,3,none⟩=some (.slice x.b.a x.b.n x.b.cap):=cellH hbx (k:=3) rfl;have dl:=lt_of_cell d0;go_simp;exact hK _ _ ⟨u,pv,_,_,_,_,_,_,by simp only[putAll,Act.put,List.setIfInBounds_toArray,List.set_cons_succ,List.set_cons_zero],cv0.set (by decide),cv1.set (by decide),Vd.same (by simp),cv3.set (by decide),cv4.set (by decide),cv5.set (by decide),by rw[fl_set (show 2≠3 by decide),fl_set (show 2≠4 by decide)];exact hJ⟩
     ·simp at hop;subst hop;simp[Region.binds]at haf
      obtain rfl:=(cv2.get (by simp[haf])).symm;have f3:=fl_no mc.new;rw[f3]at hJ;go_simp;go_at_call 42
      (with_reducible refine(HOUT.out W (LX1.out.step (.of_below hJ.out)).now).mono ?_);rintro e u' ⟨v',rfl,ho,hbu⟩
      obtain⟨⟨ua,un,uc⟩,rfl,-⟩:=ho.toSlc;exact hK _ _ ⟨⟨ua,un,uc⟩,pv,_,_,_,_,_,_,by simp only[putAll,Act.put,List.setIfInBounds_toArray,List.set_cons_succ,List.set_cons_zero],cv0.set (by decide),cv1.set (by decide),cv2.set (by decide),Vd.same (by simp),cv4.void (by decide) (by decide) mc.new,cv5.set (by decide),by rw[fl_got hs (by decide),fl_set (show 3≠4 by decide)];exact hJ.call1 ho hbu (by have:=SE1.out.sz;have:=hJ.out.size;omega)⟩
     ·simp at hop;subst hop;simp[Region.binds]at haf
      obtain rfl:=(cv1.get (by simp[haf])).symm;obtain rfl:=(cv3.get (by simp[haf])).symm;have f4:=fl_no mc.new;rw[f4]at hJ;have f3:=fl_yes (show ls[3]? = some true by simp[haf]);rw[f3]at hJ;go_simp;go_at_call 41
      (with_reducible refine(HPUT.out W u (SE1.out.below hJ.out).ol (LocT.own (hJ.o1 rfl) (by decide)) (by have:=SE1.out.sz;have:=hJ.out.size;omega)).mono ?_);rintro e u' ⟨v',rfl,ho,hbu⟩
      obtain⟨⟨ua,un,uc⟩,rfl,-⟩:=ho.own;exact hK _ _ ⟨u,⟨ua,un,uc⟩,_,_,_,_,_,_,by simp only[putAll,Act.put,List.setIfInBounds_toArray,List.set_cons_succ,List.set_cons_zero],cv0.set (by decide),cv1.set (by decide),cv2.set (by decide),cv3.set (by decide),Vd.same (by simp[haf]),cv5.set (by decide),by rw[fl_set (show 4≠3 by decide),fl_got hs (by decide),f3];exact hJ.call2 ho hbu⟩
     ·simp at hop;subst hop;simp[Region.binds]at haf
      go_simp;exact hK _ _ ⟨u,pv,_,_,_,_,_,_,by simp only[putAll,Act.put,List.setIfInBounds_toArray,List.set_cons_succ,List.set_cons_zero],cv0.set (by decide),cv1.set (by decide),cv2.set (by decide),cv3.set (by decide),cv4.set (by decide),Vd.same (by simp),by rw[fl_set (show 5≠3 by decide),fl_set (show 5≠4 by decide)];exact hJ⟩
    case re =>
     rintro ls a' W hall ⟨u,pv,x46,x47,x48,x49,x50,x51,ha,cv0,cv1,cv2,cv3,cv4,cv5,hJ⟩ o hop;simp only[putAll,Act.put,List.setIfInBounds_toArray,List.set_cons_succ,List.set_cons_zero]at ha;subst ha;simp at hop;subst hop;obtain rfl:=(cv0.get (hall 0 (by decide))).symm;obtain rfl:=(cv1.get (hall 1 (by decide))).symm;obtain rfl:=(cv2.get (hall 2 (by decide))).symm;obtain rfl:=(cv3.get (hall 3 (by decide))).symm;obtain rfl:=(cv4.get (hall 4 (by decide))).symm;obtain rfl:=(cv5.get (hall 5 (by decide))).symm;rw[fl_yes (hall 3 (by decide))]at hJ;rw[fl_yes (hall 4 (by decide))]at hJ;have hbo:=(hJ.out.block O (Array.getElem?_eq_some_iff.1 SE1.out.bo).1).trans SE1.out.bo;have d1:W.cell? ⟨O,1,none⟩=some (.slice vo.a vo.n vo.cap):=cellH hbo (k:=1) rfl;have dfz:=frozH hbo;have dl:=lt_of_cell d1;go_simp;have SE2:=hide ((SE1.out.below hJ.out).out (vo':=pv) (hJ.o2 rfl))
     have SX2:Hid ((W.setCell ⟨O,1,none⟩ (.slice pv.a pv.n pv.cap)).heap[S]? = some (.cells #[.slice x.p.a x.p.n x.p.cap,.slice x.r.a x.r.n x.r.cap,.slice x.m.a x.m.n x.m.cap,.slice x.b.a x.b.n x.b.cap] 64 (0,0))):=hide ((heap_setCell_other W ⟨O,1,none⟩ S _ (show S≠O by omega)).trans ((hJ.out.block S (Array.getElem?_eq_some_iff.1 SX1.out).1).trans SX1.out));have LX2:=hide ((LX1.out.step (.of_below hJ.out)).step (KpT.set (j:=1) hbo (by decide) (by have:=SE1.out.lN;have:=SE1.out.lO;omega) (.slice pv.a pv.n pv.cap)));have BL2:=hide ((BL1.out.trans (hJ.out.mono BL1.out.size)).setCell (p:=⟨O,1,none⟩) (by have:=SE1.out.lN;have:=SE1.out.lO;show _≤O;omega) (.slice pv.a pv.n pv.cap));obtain⟨V2,hV2⟩:∃ V2,V2=W.setCell ⟨O,1,none⟩ (.slice pv.a pv.n pv.cap):=⟨_,rfl⟩
     rw[← hV2]at SE2 SX2 LX2 BL2;simp only[← hV2];clear hJ hbo d1 dfz dl hV2;go_wp2_with fail;have RO2:=hide (HRO.out.put HOL.out)
     go_loopw [6,9] (fun v i wr => ∃ k:Nat,k≤n+nb∧i = .int .i64 k∧BfIRel p split w O S vt x s init taken (og++[bfOut s]) (putO (bfOut s) outs) pv k v wr) (fun _ i _=>n+nb - (intOf i).toNat)
     case atStart=>exact⟨0,Nat.zero_le _,rfl,[],ks,g,cap,by rw[List.append_nil,HM.out],PM0.out,by have h:=SE2.out;rw[← HTN.out]at h;rw[List.append_nil];exact h,HKE.out.pop,SX2.out,hgS,LX2.out,BL2.out⟩
     case round =>
      obtain⟨k,hk,rfl,new2,ks2,g2,cap2,rfl,hpm,hse,hke,hsx,hgS2,hlx,hbl⟩:=hrel;have PM3:=hide hpm;have SE3:=hide hse;have KE3:=hide hke;have SX3:=hide hsx;have LX3:=hide hlx;have BL3:=hide hbl
      have d3:wr.cell? ⟨S,3,none⟩=some (.slice x.b.a x.b.n x.b.cap):=cellH hsx (k:=3) rfl;rw[HNB.out]at d3;have dl:=lt_of_cell d3;obtain⟨l2,hl2⟩:∃ l2,l2=(init++new2).length:=⟨_,rfl⟩
      have hse3:=SE3.out;rw[← hl2]at hse3 ⊢;have SE4:=hide hse3;have HL2:=hide hl2;clear hpm hse hke hlx hbl hse3 hl2 SE3;by_cases hlt:k < n+nb
      ·have hlt':(k:Int) < (n:Int)+(nb:Int):=by omega
       have d0:wr.cell? ⟨S,0,none⟩=some (.slice x.p.a x.p.n x.p.cap):=cellH hsx (k:=0) rfl;have d1:wr.cell? ⟨S,1,none⟩=some (.slice x.r.a x.r.n x.r.cap):=cellH hsx (k:=1) rfl;have d2:wr.cell? ⟨S,2,none⟩=some (.slice x.m.a x.m.n x.m.cap):=cellH hsx (k:=2) rfl;have hbs:=BL3.out.size;have HCAN:Hid (Calls Try.prog 47 #[.slice va n vc,.agg #[.slice x.p.a x.p.n x.p.cap,.slice x.r.a x.r.n x.r.cap,.slice x.m.a x.m.n x.m.cap,.slice x.b.a nb x.b.cap],.bool split,.int .i64 (k:Int)] wr fun e w'=>e = .returned (.bool (bfNext p split s k).isSome)∧Below wr.heap.size wr w'):=hide (by
        have:=l4Can_any _ p x s split k wr (HP.out.below BL3.out) LX3.out.now HOK.out (by have:=HN.out;omega) HIV.out (by have:=HN.out;have:=HBL9.out;omega);rwa[HNB.out]at this)
       cases hc:bfNext p split s k with
       | none =>
        have SK:=hide (mvTo_skip hc);rw[hc]at HCAN;simp only[Option.isSome_none]at HCAN;clear hc;go_wp2_with (go_at_call 47;(with_reducible refine HCAN.out.mono ?_);rintro e w5 ⟨rfl,hb5⟩;have B5:=hide hb5;clear hb5);go_roundw
        case rel=>exact⟨k+1,by omega,by go_num,new2,ks2,g2,cap2,by rw[HL2.out],by rw[SK.out];exact PM3.out,SE4.out.below B5.out,KE3.out,(B5.out.block S dl).trans SX3.out,hgS2,LX3.out.step (.of_below B5.out),BL3.out.trans (B5.out.mono hbs)⟩
        case measure=>simp[intOf];omega
       | some s' =>
        have SK:=hide (mvTo_can hc);have NX:Hid (nxM (mvF p split) (bfAf p split) s (mvTo p split s k)=some s'):=hide (mvTo_get hc (by have:=HN.out;have:=HBL9.out;omega));have HRC2:Hid (RcF p split s'):=hide (.step HRC.out hc);have HRK2:=hide (bfLeft_next HOK.out hc);have HDO:Hid (∀ W,Below w.heap.size w W→RepSt W x (stF s)→Calls Try.prog 48 #[.slice va n vc,.agg #[.slice x.p.a x.p.n x.p.cap,.slice x.r.a x.r.n x.r.cap,.slice x.m.a x.m.n x.m.cap,.slice x.b.a nb x.b.cap],.bool split,.int .i64 (k:Int)] W (RetSt W (stF s'))):=hide (fun W hW hx=>by
         have:=l4Do_any _ p x s s' split k W (HP.out.below hW) hx HOK.out (by have:=HN.out;omega) HPR.out (HROW.out s HRC.out) HIV.out hc;rwa[HNB.out]at this)
        rw[hc]at HCAN;simp only[Option.isSome_some]at HCAN;clear hc;go_wp2_with (go_at_call 47;(with_reducible refine HCAN.out.mono ?_);rintro e w5 ⟨rfl,hb5⟩;have B5:=hide hb5;have hsx5:=(hb5.block S dl).trans SX3.out;have e0:w5.cell? ⟨S,0,none⟩=some (.slice x.p.a x.p.n x.p.cap):=cellH hsx5 (k:=0) rfl;have e1:w5.cell? ⟨S,1,none⟩=some (.slice x.r.a x.r.n x.r.cap):=cellH hsx5 (k:=1) rfl;have e2:w5.cell? ⟨S,2,none⟩=some (.slice x.m.a x.m.n x.m.cap):=cellH hsx5 (k:=2) rfl;have e3:w5.cell? ⟨S,3,none⟩=some (.slice x.b.a x.b.n x.b.cap):=cellH hsx5 (k:=3) rfl;rw[HNB.out]at e3;have el:=lt_of_cell e0;have SE5:=hide (SE4.out.below hb5);have LX5:=hide (LX3.out.step (.of_below hb5));have BL5:=hide (BL3.out.trans (hb5.mono hbs));have SX5:=hide hsx5;have hbs5:=BL5.out.size;clear d0 d1 d2 d3 dl hsx5 hb5)
        (with_reducible refine(HDO.out _ BL5.out LX5.out.now).mono ?_);rintro e w6 ⟨y,my,rfl,hs6,hb6⟩;have S6:=hide hs6;have B6:=hide (hb6.alloc hb6.size (.cells #[.slice y.p.a y.p.n y.p.cap,.slice y.r.a y.r.n y.r.cap,.slice y.m.a y.m.n y.m.cap,.slice y.b.a y.b.n y.b.cap] 64));have hsz6:=hb6.size;clear hs6 hb6
        go_wp2_with (go_at_call 39;(with_reducible refine(HKEY.out y s' _ HRC2.out (S6.out.rep.below (belowAlloc _ _))).mono ?_);rintro e w7 ⟨rfl,hb7⟩;have B7:=hide (B6.out.trans (hb7.mono (by simp;omega)));have HX7:Hid (w7.heap[w6.heap.size]? = some (.cells #[.slice y.p.a y.p.n y.p.cap,.slice y.r.a y.r.n y.r.cap,.slice y.m.a y.m.n y.m.cap,.slice y.b.a y.b.n y.b.cap] 64 (0,0))):=hide ((hb7.block w6.heap.size (by simp)).trans (heap_alloc_new w6 _));have hsz7:=B7.out.size;have LY7:=hide (((S6.out.loc (L:=LS) (B:=w.heap.size) (by decide) (by decide)).step (.alloc _ _)).step (.of_below hb7));clear hb7)
        (with_reducible refine(l3Found_any vt ks2 (kyF s') w7 (SE5.out.below B7.out).tb.rep (HKSZ.out _ HRC2.out)).mono ?_);rintro e w8 ⟨D,rfl,hD,rfl⟩
        have hkl:ks2.length≤8796093022000:=by rw[KE3.out.len];have h:=bf_few HV.out PM3.out.nd (fun u hu=>(mvF_reach HV.out u).1 (PM3.out.rc u hu));omega
        cases D
        ·have HNO:Hid (s'∉(s :: taken)++(init++new2)):=hide (fun h=>by have h2:=hD.2 ((KE3.out.mem _).2 (List.mem_map.2 ⟨_,h,rfl⟩));simp at h2)
         clear hD;go_wp2_with (first
          | (go_at_call 38;(with_reducible refine(HMARK.out vt ks2 s' w.heap.size w7 HRC2.out (SE5.out.below B7.out).tb hkl (by omega)).mono ?_);rintro e w9 ⟨rfl,ht9,hk9⟩;have SE9:=hide ((SE5.out.below B7.out).mark ht9 hk9);have K9:=hide hk9;have hx9:=hk9.same HX7.out (by decide);have f0:w9.cell? ⟨w6.heap.size,0,none⟩=some (.slice y.p.a y.p.n y.p.cap):=cellH hx9 (k:=0) rfl;have f1:w9.cell? ⟨w6.heap.size,1,none⟩=some (.slice y.r.a y.r.n y.r.cap):=cellH hx9 (k:=1) rfl;have f2:w9.cell? ⟨w6.heap.size,2,none⟩=some (.slice y.m.a y.m.n y.m.cap):=cellH hx9 (k:=2) rfl;have f3:w9.cell? ⟨w6.heap.size,3,none⟩=some (.slice y.b.a y.b.n y.b.cap):=cellH hx9 (k:=3) rfl;have fl9:=lt_of_cell f0;obtain⟨xs9,hxl9,hown9,hst9⟩:=SE9.out.wk;have O9:=hide hown9;have XL9:=hide hxl9;have ST9:=hide hst9;have hxb9:xs9.length≤68719476736:=(by rw[hxl9,List.length_map];have h1:=PM3.out.short;omega);have hsz9:=hk9.size;clear hown9 hxl9 hst9 ht9 hk9 hx9)
          | (at_builtin;refine wpList_appAt StE 64 Try.infoStM rfl Try.underlying66 w.heap.size _ xs9 y (O9.out.alloc _) (by decide) hxb9 (by simp;omega) rfl _ _ rfl rfl _ 0 1 rfl news_alloc ?_;intro v10 w10 hown10 hgr10 hat10;have O10:=hide hown10;have G10:=hide hgr10;have A10:=hide hat10;clear hown10 hgr10 hat10))
         rcases O10.out.shape with⟨_,e⟩ | ⟨g10,c10,rfl,hg10,hg10',hc10,_⟩
         ·simp at e
         have hl10:(xs9++[y]).length=(init++(new2++[s'])).length:=by have:=XL9.out;simp only[List.length_append,List.length_singleton,List.length_map]at this ⊢;omega
         have hgS10:g10≠S:=by
          rcases A10.out with h | ⟨q,h,hq⟩
          ·simp[Value.ownBlock]at h;omega
          ·simp[Value.ownBlock]at h;simp at hq;omega
         have bA:=belowAlloc w9 (.cells #[.slice y.p.a y.p.n y.p.cap,.slice y.r.a y.r.n y.r.cap,.slice y.m.a y.m.n y.m.cap,.slice y.b.a y.b.n y.b.cap] 64);have kA:=KpT.of_below (L:=LS) (B:=w.heap.size) bA;have k9:=K9.out.more (L':=LS) (by decide) (Nat.le_refl _);have hw10:=WorkL.push (s:=stF s') XL9.out (O9.out.below bA) (fun i x s h1 h2=>(ST9.out i x s h1 h2).step kA) ((LY7.out.step k9).step kA) O10.out G10.out;have k10:KpT [64] w.heap.size _ w10:=KpT.grown (O9.out.below bA) (by decide) (Nat.le_refl _) G10.out;have se10:=(SE9.out.below bA).wkS hw10 k10;rw[← List.map_singleton (f:=stF),← List.map_append,List.append_assoc]at se10;rw[hl10]at se10 ⊢;have hS9:w9.heap[S]? = _:=K9.out.same ((B7.out.block S el).trans SX5.out) (by decide);have hSl:=(Array.getElem?_eq_some_iff.1 hS9).1;have hS10:=(G10.out.block S (by simp;omega) (fun e=>by simp[Value.ownBlock]at e;omega)).trans ((heap_alloc_old w9 _ hSl).trans hS9);have lx10:=((((LX5.out.step (.of_below B7.out)).step k9).step kA).step (k10.more (by decide) (Nat.le_refl _)))
         have bl7:=BL5.out.trans (B7.out.mono hbs5);have bl9:=bl7.trans (K9.out.below bl7.size);have bl10:=(bl9.alloc bl9.size (.cells #[.slice y.p.a y.p.n y.p.cap,.slice y.r.a y.r.n y.r.cap,.slice y.m.a y.m.n y.m.cap,.slice y.b.a y.b.n y.b.cap] 64)).grown G10.out (by simp;have:=bl9.size;omega) (fun q hq=>(World.ownsRow.lt O9.out q hq).1);have pm10:=PM3.out.new NX.out HNO.out (by have h1:=mvF_few HOK.out (by have:=HN.out;omega);have h2:mvTo p split s k < (mvF p split s).length:=(List.getElem?_eq_some_iff.1 ((nxM_some _ _).1 NX.out).choose_spec.1).1;omega) HRK2.out;rw[← SK.out]at pm10;have HF:=hide (⟨new2++[s'],ks2++[kyF s'],g10,c10,rfl,pm10,se10,KE3.out.push s',hS10,hgS10,lx10,bl10⟩:BfIRel p split w O S vt x s init taken (og++[bfOut s]) (putO (bfOut s) outs) pv (k+1) _ w10);clear hw10 k10 se10 hS9 hSl hS10 lx10 bl7 bl9 bl10 pm10 bA kA k9;go_roundw
         case rel=>exact⟨k+1,by omega,by go_num,HF.out⟩
         case measure=>simp[intOf];omega
        ·have SK2:Hid (kyF s'∈ks2):=hide (hD.1 rfl)
         clear hD;have pm9:PMF p split s (mvTo p split s k+1) init new2 taken (og++[bfOut s]):=by
          obtain⟨u,hu,he⟩:=List.mem_map.1 ((KE3.out.mem _).1 SK2.out);exact PM3.out.old (key:=kyF) NX.out hu he HINJ.out
         rw[← SK.out]at pm9;have PM9:=hide pm9;clear pm9;go_wp2_with fail;go_roundw
         case rel=>exact⟨k+1,by omega,by go_num,new2,ks2,g2,cap2,by rw[HL2.out],PM9.out,SE5.out.below B7.out,KE3.out,(B7.out.block S el).trans SX5.out,hgS2,LX5.out.step (.of_below B7.out),BL5.out.trans (B7.out.mono hbs5)⟩
         case measure=>simp[intOf];omega
      ·obtain rfl:k=n+nb:=by omega
       have hlt':¬ ((n:Int)+(nb:Int) < (n:Int)+(nb:Int)):=by omega
       have hall:(mvF p split s).length≤mvTo p split s (n+nb):=by have h:=mvTo_all p split s;rw[HN.out,← HBL9.out]at h;omega
       have HG:=hide (HPH.out ▸ PM3.out.falls (by have h1:=mvF_few HOK.out (by have:=HN.out;omega);have h:=mvTo_all p split s;rw[HN.out,← HBL9.out]at h;omega):wMs 13 (bfLeft p) (init++new2) < _);have HF:=hide (⟨init++new2,s :: taken,_,putO (bfOut s) outs,ks2,pv,g2,cap2,by rw[HL2.out],rfl,PM3.out.leave hall,SE4.out,KE3.out,RO2.out,BL3.out⟩:BfRel p split w O vt (wMs 13 (bfLeft p) (init++new2)) (.slice (some ⟨g2,0,none⟩) l2 cap2) wr);clear hall;go_wp2_with fail
       go_roundg (wMs 13 (bfLeft p) (init++new2))
       case measure=>exact HG.out
       case rel=>exact HF.out
    -- end outs
end Go.Proofs.Ytnkfphndfijcoaa
namespace Go.Proofs.Ytnkfphndfijcoaa
open Go.RowKit
theorem OutsOk.nil (n:Nat):OutsOk n []:=⟨fun o h=>by simp at h,.nil⟩
end Go.Proofs.Ytnkfphndfijcoaa