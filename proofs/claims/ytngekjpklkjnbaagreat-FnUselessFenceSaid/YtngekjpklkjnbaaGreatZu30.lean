/-
  The reference's least fences. Condition: bounds on lengths.
-/
import Derived.Test.YtngekjpklkjnbaaGreatZu28
import Derived.Test.YtngekjpklkjnbaaGreatZu27
import Derived.Test.YtngekjpklkjnbaaGreatZu29
import Derived.Test.YtngekjpklkjnbaaGreatZu26
import Derived.Test.YtngekjpklkjnbaaGreatZu16
import Derived.Test.YtngekjpklkjnbaaGreatZu25
set_option maxHeartbeats 6400000
set_option maxRecDepth 100000
namespace Go.Proofs.YtngekjpklkjnbaaGreat
open Go.RowKit
theorem RI {s s':Bf}{split:Bool}{t:Nat}{k:Int}{x:Ins}(ho:x.op=5∨x.op=4) (h:YR s split t k x=some s'):s'=⟨Yy s.q t k x,s.bf⟩:=by
 unfold YR at h;rw[if_pos Om]at h;split at h
 ·simp only[Option.some.injEq]at h;exact h.symm
 ·cases h
theorem Bo {s s':Bf}{split:Bool}{t:Nat}{k:Int}{x:Ins}(ho:x.op=1) (h:YR s split t k x=some s'):s'=⟨⟨s.q.pc.set t (k+1),s.q.rg.set (t * 3+x.ZQ.toNat) (Ys s t x.loc split),s.q.mm⟩,s.bf⟩:=by
 unfold YR at h;rw[if_neg Om,if_pos ho]at h;simp only[Option.some.injEq]at h;exact h.symm
theorem CQ {s s':Bf}{split:Bool}{t:Nat}{k:Int}{x:Ins}(ho:x.op=2∨x.op=3) (h:YR s split t k x=some s'):s'=⟨⟨s.q.pc.set t (k+1),s.q.rg,s.q.mm⟩,s.bf.set (Zj t x.loc split) (s.bf.getD (Zj t x.loc split) []++[(x.loc,ZL s.q t x)])⟩:=by
 unfold YR at h;rw[if_neg Om,if_neg Om]at h;simp only[Option.some.injEq]at h;exact h.symm
theorem JV (l:List (List (Int × Int))) (q:Nat) (row:List (Int × Int)):(l.set q row).map ZI=(l.map ZI).set q (ZI row):=by rw[List.map_set]
theorem A9 (vp:Value) (p:List (List Ins)) (x:SV) (s s':Bf) (split:Bool) (m:Nat) (w:World) (hp:Z5 w vp p) (hx:ZB w x (Xk s)) (hok:ZE p split s) (hpl:p.length≤3) (hpr:∀ r∈p,r.length≤7) (hlen:∀ r∈s.bf,r.length≤42) (hiv:∀ r∈p,∀ i∈r,Zg i=true) (hn:Zu p split s m=some s') :
 Calls Tryz.prog 120 #[vp,.agg #[.slice x.p.a x.p.n x.p.cap,.slice x.r.a x.r.n x.r.cap,.slice x.m.a x.m.n x.m.cap,.slice x.b.a x.b.n x.b.cap],.bool split,.int .i64 (m:Int)] w (Xt w (Xk s')):=by
 have hlb9:s.bf.length≤9:=by
  rw[hok.lb];have:Yj split≤3:=by cases split <;> simp[Yj]
  have:=Nat.mul_le_mul hpl this;omega
 have b1:(Xk s).pc.length≤1000:=by show s.q.pc.length≤1000;have:=hok.q.lp;omega
 have b2:(Xk s).rg.length=(Xk s).pc.length * 3:=by show s.q.rg.length=s.q.pc.length * 3;rw[hok.q.lr,hok.q.lp]
 have b3:(Xk s).mm.length=3:=hok.q.lm;have b4:(Xk s).bf.length≤100:=So;have b5:∀ o∈(Xk s).bf,o.length≤1000:=fun o ho=>by
  obtain⟨r,hr,rfl⟩:=List.mem_map.1 ho;rw[Xn];have:=hlen r hr;omega
 by_cases hm:m < p.length
 ·obtain⟨r,k,i,hr,hk,hi,hd⟩:=Yw hn hm
  have hk0:=(hok.q.pc m k r hk hr).1;obtain⟨kn,rfl⟩:∃ kn:Nat,k=kn:=⟨k.toNat,Om⟩
  rw[Int.toNat_natCast]at hi;have hv:=hiv r (List.mem_of_getElem? hr) i (List.mem_of_getElem? hi);have hrl:r.length≤1000:=by have:=hpr r (List.mem_of_getElem? hr);omega
  obtain⟨⟨l0,l2⟩,⟨g0,g2⟩,-,-⟩:=KN hv;have hop:i.op=1∨(i.op=2∨i.op=3)∨(i.op=5∨i.op=4):=by
   have:=(Ku hv).1;omega
  obtain⟨op,lz,rz,val⟩:=i;simp only at l0 l2 g0 g2 hop;obtain⟨lc,rfl⟩:∃ lc:Nat,lz=lc:=⟨lz.toNat,Om⟩
  obtain⟨rc,rfl⟩:∃ rc:Nat,rz=rc:=⟨rz.toNat,Om⟩
  rcases hop with ho | ho | ho
  ·have e:=Bo ho hd
   have:=Ir vp p x (Xk s) m kn lc rc op val r w hp hx hk hr hi split ho (Ys s m (lc:Int) split) (fun W hW=>BM x p split s m lc W hW hok hm hpl Om (fun r hr=>by have:=hlen r hr;omega)) Om Om Om b1 b2 b3 b4 b5 hrl;rw[e];simp only[Int.toNat_natCast];exact this
  ·have e:=CQ ho hd
   have hqs:Zj m (lc:Int) split < s.bf.length:=by rw[hok.lb];exact Xi hm Om
   obtain⟨row,hrow⟩:=Zd (xs:=s.bf) (k:=Zj m (lc:Int) split) hqs;have:=It vp p x (Xk s) m kn lc rc op val r w hp hx hk hr hi split ho (Zj m (lc:Int) split) (ZI row) _ (Qv hrow) (fun W=>KQ m lc split W Om Om) rfl Om Om Om b1 b2 b3 b4 b5 hrl;rw[e];have e2:Xk ⟨⟨s.q.pc.set m ((kn:Int)+1),s.q.rg,s.q.mm⟩,s.bf.set (Zj m (lc:Int) split) (s.bf.getD (Zj m (lc:Int) split) []++[((lc:Int),ZL s.q m ⟨op,(lc:Int),(rc:Int),val⟩)])⟩=⟨(Xk s).pc.set m ((kn:Int)+1),(Xk s).rg,(Xk s).mm,(Xk s).bf.set (Zj m (lc:Int) split) (ZI row++[(lc:Int),ZL (Xk s).q m ⟨op,(lc:Int),(rc:Int),val⟩])⟩:=by
    unfold Xk;rw[JV,List.getD_eq_getElem?_getD,hrow,Option.getD_some,Dl];rfl
   rw[e2];exact this
  ·have e:=RI ho hd
   have:=Is vp p x (Xk s) m kn lc rc op val r w hp hx hk hr hi split ho (Xk s') (fun W hW hX=>by
    have h9:=E4 vp p x (Xk s) m kn ⟨op,(lc:Int),(rc:Int),val⟩ r W hW hX hk hr hi hv Om b1 b2 b3 b4 b5 hrl;rw[e];exact h9) Om Om Om b1 b2 b3 b4 b5 hrl
   exact this
 ·obtain⟨l,v,rest,hb,rfl⟩:=Yu hn hm
  have hen:=hok.en _ (List.mem_of_getElem? hb) (l,v) Sm;unfold Y8 at hen;simp only at hen;obtain⟨ln,rfl⟩:∃ ln:Nat,l=ln:=⟨l.toNat,Om⟩
  have h9:=Iq vp p x (Xk s) m (m - p.length) ln v (ZI rest) split w hp hx Om (by have:=Qv hb;simpa[ZI] using this) Om b1 (by rw[b2];have:=hok.q.lp;show s.q.pc.length * 3≤1000;omega) b3 b4 b5;have e2:Xk ⟨⟨s.q.pc,s.q.rg,s.q.mm.set ((ln:Int).toNat) v⟩,s.bf.set (m - p.length) rest⟩=⟨(Xk s).pc,(Xk s).rg,(Xk s).mm.set ln v,(Xk s).bf.set (m - p.length) (ZI rest)⟩:=by
   unfold Xk;rw[JV,Int.toNat_natCast]
  rw[e2];exact h9
structure ID (n:Nat) (og L:List (List Int)):Prop where
 ok:YD n L
 mem:∀ o,o∈L↔o∈og
 le:L.length≤og.length
theorem ID.nil (n:Nat):ID n [] []:=⟨⟨fun o h=>by simp at h,.nil⟩,fun o=>Iff.rfl,Nat.le_refl _⟩
theorem ID.put {n:Nat}{og L:List (List Int)}{o:List Int}(h:ID n og L) (ho:o.length=n):ID n (og++[o]) (Xz o L):=
 ⟨Hb ho h.ok,fun y=>by rw[Ul ho h.ok.len,h.mem,List.mem_append,List.mem_singleton];exact Or.comm,by have h1:=Ha (o:=o) L;have h2:=h.le;simp only[List.length_append,List.length_singleton];omega⟩
structure Hk {S:Type}(key:S→ByteArray) (ks:List ByteArray) (l:List S):Prop where
 len:ks.length=l.length
 mem:∀ k,k∈ks↔k∈l.map key
theorem Hk.pop {S:Type}{key:S→ByteArray}{ks:List ByteArray}{init taken:List S}{s:S}(h:Hk key ks (taken++(init++[s]))):Hk key ks ((s :: taken)++(init++[])):=
 ⟨by rw[h.len];simp only[List.length_append,List.length_cons,List.length_nil];omega,fun k=>(h.mem k).trans (Je key)⟩
theorem Hk.push {S:Type}{key:S→ByteArray}{ks:List ByteArray}{l init new:List S}(t:S) (h:Hk key ks (l++(init++new))):Hk key (ks++[key t]) (l++(init++(new++[t]))):=
 ⟨by simp only[List.length_append,List.length_singleton,h.len];omega,fun k=>by
  rw[List.mem_append,h.mem k];simp only[List.map_append,List.mem_append,List.map_cons,List.map_nil,List.mem_cons,List.not_mem_nil,or_false,or_assoc]⟩
theorem UR {p:List (List Ins)}{split:Bool}{s:Bf}(h:ZE p split s):(Yq s).length=p.length * 3+3∧∀ x∈Yq s,0≤x∧x≤3:=by
 refine⟨Ke h.q,fun x hx => ?_⟩;rcases List.mem_append.1 hx with g | g
 ·exact h.q.rg x g
 ·exact h.q.mm x g
abbrev Cv (p:List (List Ins)) (split:Bool) (s:Bf):Prop:=Zx (Zn p split) (Zu p split) s
abbrev Li (p:List (List Ins)) (split:Bool):=PI (GV p split) (QR p split) (Yf p) Yq 12 42 (Yr p) (Zn p split)
abbrev Lo (p:List (List Ins)) (split:Bool):=U0 (GV p split) (QR p split) (Yf p) Yq 12 42 (Yr p) (Zn p split)
theorem Li.LI {p:List (List Ins)}{split:Bool}{work taken:List Bf}{og:List (List Int)}(hv:Zi p=true) (h:Li p split work taken og):∀ s∈taken++work,Cv p split s:=fun s hs=>(YZ hv s).1 (h.rc s hs)
theorem Ee {p:List (List Ins)}{split:Bool}(hv:Zi p=true):∀ l:List Bf,l.Nodup→(∀ s∈l,Zx (Zn p split) (QU (GV p split) (QR p split)) s∧Yf p s=true)→l.length≤16777216:=by
 intro l hn hl;have hok:∀ s∈l,ZE p split s:=fun s hs=>ZE.reach (Z9 hv) ((YZ hv s).1 (hl s hs).1);have hpl:=(Z4 hv).1;have h1:=Ac (out:=Yq) (n:=p.length * 3+3) hn (fun s hs=>UR (hok s hs)) fun a ha b hb e=>Vz (hok a ha) (hok b hb) (hl a ha).2 (hl b hb).2 e;refine Nat.le_trans h1 ?_;have:4 ^ (p.length * 3+3)≤4 ^ 12:=Nat.pow_le_pow_right Dc Om;exact Nat.le_trans this Dc
def H8 (n:Nat) (φ:List Int→Prop) (w:World) (e:Ending) (w':World):Prop:=∃ (cn:Nat) (vo:Zt) (L:List (List Int)),cn≤8796093022000∧e = .returned (.agg #[.int .i64 (cn:Int),.slice vo.a vo.n vo.cap])∧Qk LS w.heap.size w' w.heap.size vo.v L∧YD n L∧(∀ o,o∈L↔φ o)∧Below w.heap.size w w'
structure LL (p:List (List Ins)) (split:Bool) (w:World) (O:Nat) (vt:Value) (gk:Nat) (v:Value) (work taken:List Bf) (og L:List (List Int)) (ks:List ByteArray) (vo:Zt) (g cap:Nat) (wr:World):Prop where
 hv:v = .slice (some ⟨g,0,none⟩) work.length cap
 ms:Jw 13 (Yr p) work=gk
 pi:Li p split work taken og
 se:QO w.heap.size w.heap.size O vt v (work.map Xk) ks taken.length vo L wr
 ke:Hk Au ks (taken++work)
 ro:ID (p.length * 3+3) og L
 bl:Below w.heap.size w wr
def Ct (p:List (List Ins)) (split:Bool) (w:World) (O:Nat) (vt:Value) (gk:Nat) (v:Value) (wr:World):Prop:=∃ work taken og L ks vo g cap,LL p split w O vt gk v work taken og L ks vo g cap wr
structure LK (p:List (List Ins)) (split:Bool) (w:World) (O S:Nat) (vt:Value) (x:SV) (s:Bf) (init taken:List Bf) (og L:List (List Int)) (vo:Zt) (k:Nat) (v:Value) (new:List Bf) (ks:List ByteArray) (g cap:Nat) (wr:World):Prop where
 hv:v = .slice (some ⟨g,0,none⟩) (init++new).length cap
 pm:Lo p split s (QT p split s k) init new taken og
 se:QO w.heap.size w.heap.size O vt v ((init++new).map Xk) ks (taken.length+1) vo L wr
 ke:Hk Au ks ((s :: taken)++(init++new))
 sx:wr.heap[S]? = some (.cells #[.slice x.p.a x.p.n x.p.cap,.slice x.r.a x.r.n x.r.cap,.slice x.m.a x.m.n x.m.cap,.slice x.b.a x.b.n x.b.cap] 141 (0,0))
 gS:g≠S
 lx:Yn LS w.heap.size wr (fun W=>ZB W x (Xk s))
 bl:Below w.heap.size w wr
def Gr (p:List (List Ins)) (split:Bool) (w:World) (O S:Nat) (vt:Value) (x:SV) (s:Bf) (init taken:List Bf) (og L:List (List Int)) (vo:Zt) (k:Nat) (v:Value) (wr:World):Prop:=∃ new ks g cap,LK p split w O S vt x s init taken og L vo k v new ks g cap wr
theorem Ds (vp:Value) (p:List (List Ins)) (split:Bool) (w:World) (hp:Z5 w vp p) (hv:Zi p=true) :
 Calls Tryz.prog 92 #[vp,.bool split] w (H8 (p.length * 3+3) (fun o => ∃ s,Cv p split s∧Yf p s=true∧Yq s=o) w):=by
 obtain⟨va,vc,rfl,hc1,hc2,hc3,hp⟩:=hp.open;have HP:=Za hp;have HV:=Za hv
 have hpl:p.length≤3:=(Z4 hv).1;have hpr:∀ r∈p,r.length≤7:=fun r hr=>((Z4 hv).2.2.1 r hr).1;have HPR:=Za hpr;have HIV:=Za (Z9 hv);have HFEW:=Za (Ee (split:=split) hv);have hs00:Hid (∀ w',Calls Tryz.prog 117 #[.slice va p.length vc,.bool split] w' (Xt w' (Xk (Zn p split)))):=Za (fun w'=>AB va vc p split w' hpl);clear hp hv hpr;generalize hn:p.length=n at *;have HN:=Za hn;clear hn;obtain⟨A0,hA0⟩:∃ A0,A0=w.alloc (.cells #[.int .i64 0,.slice none 0 0] 103):=⟨_,rfl⟩
 have HB:Hid (Below w.heap.size w A0):=Za (by rw[hA0];exact Ze _ _);have hz:A0.heap.size=w.heap.size+1:=by rw[hA0];simp
 have HN2:Hid (A0.heap[w.heap.size]? = some (.cells #[.int .i64 0,.slice none 0 0] 103 (0,0))):=Za (by rw[hA0];exact heap_alloc_new w _);have HA0:=Za hA0;clear hA0;have HSTART:=hs00;clear hs00;have HST:Hid (Li p split [Zn p split] [] []):=Za (PI.init Dc (Q6 HV.out));have HOKR:=Za (fun (s:Bf) (hr:Cv p split s)=>(ZE.reach HIV.out hr:ZE p split s));have HROW:=Za (fun (s:Bf) (hr:Cv p split s)=>JM HV.out hr);have HLB:=Za (fun (s:Bf) (hr:Cv p split s)=>(by
  have h1:=(HOKR.out s hr).lb;have h2:Yj split≤3:=by cases split <;> simp[Yj]
  have h3:=HN.out;have h4:=Nat.mul_le_mul (show p.length≤3 by omega) h2;omega:s.bf.length≤9))
 have HKEY:=Za (fun (x:SV) (s:Bf) (w':World) (hre:Cv p split s) (hr:ZB w' x (Xk s))=>(by
  have hok:=HOKR.out s hre;obtain⟨k1,k2,k3⟩:=Uq hok.q HPR.out;have h1:=hok.q.lp;have h2:=hok.q.lr;have h3:=hok.q.lm;have h4:=HN.out;have h5:=HLB.out s hre;have h6:=HROW.out s hre;have:=Dq x (Xk s) w' hr (by show s.q.pc.length≤1000;omega) (by show s.q.rg.length≤1000;omega) (by show s.q.mm.length≤1000;omega) (by show (s.bf.map ZI).length≤100;rw[List.length_map];omega) (fun o ho=>by
   obtain⟨r,h7,rfl⟩:=List.mem_map.1 ho;rw[Xn];have:=h6 r h7;omega) k1 k2 k3 (fun o ho=>by
   obtain⟨r,h7,rfl⟩:=List.mem_map.1 ho;exact VP (hok.en r h7))
  rwa[Rq]at this:Calls Tryz.prog 111 #[.agg #[.slice x.p.a x.p.n x.p.cap,.slice x.r.a x.r.n x.r.cap,.slice x.m.a x.m.n x.m.cap,.slice x.b.a x.b.n x.b.cap]] w' fun e w''=>e = .returned (.string (Au s))∧Below w'.heap.size w' w''))
 have HKSZ:=Za (fun (s:Bf) (hre:Cv p split s)=>(by
  have hok:=HOKR.out s hre;have h1:=hok.q.lp;have h2:=hok.q.lr;have h3:=hok.q.lm;have h4:=HN.out;have h5:=HLB.out s hre;have h6:=HROW.out s hre;rw[strOfNums_size,← Rq];unfold Gk;have h7:=Ec (ls:=s.bf.map ZI) (m:=84) (n:=9) (fun o ho=>by
   obtain⟨r,h7,rfl⟩:=List.mem_map.1 ho;rw[Xn];have:=h6 r h7;omega) (by rw[List.length_map];exact h5)
  simp only[List.length_append];show s.q.pc.length+s.q.rg.length+s.q.mm.length+(Gz (s.bf.map ZI)).length≤1000000;omega:(Au s).size≤1000000))
 have HMARK:=Za (fun (vt:Value) (ks:List ByteArray) (s:Bf) (base:Nat) (w':World) (hre:Cv p split s) (hr:F8 w' base vt ks) (hk:ks.length≤8796093022000) (hB:base≤w'.heap.size)=>A7 vt ks (Au s) base w' hr (HKSZ.out s hre) hk hB);have HRE0:Hid (Cv p split (Zn p split)):=Za .start;have HINJ:=Za (fun (a b:Bf) (ha:Zx (Zn p split) (QU (GV p split) (QR p split)) a) (hb:Zx (Zn p split) (QU (GV p split) (QR p split)) b) (e:Au a=Au b)=>(by
  have ha:=(YZ HV.out a).1 ha;have hb:=(YZ HV.out b).1 hb;have key:∀ s,Cv p split s→QY (JL s):=fun s hs=>by
   have hok:=HOKR.out s hs;have ks:=Uq hok.q HPR.out;rw[← Rq];intro z hz;rcases List.mem_append.1 hz with h | h
   ·rcases List.mem_append.1 h with h | h
    ·rcases List.mem_append.1 h with h | h
     ·exact ks.1 z h
     ·exact ks.2.1 z h
    ·exact ks.2.2 z h
   ·obtain⟨l,hl,hz⟩:=List.mem_flatMap.1 h
    obtain⟨r,hr,rfl⟩:=List.mem_map.1 hl;rcases List.mem_cons.1 hz with h | h
    ·omega
    ·exact VP (hok.en r hr) z h
  exact RL HIV.out a b ha hb (Ez (key a ha) (key b hb) e):a=b))
 go_enter Tryz.func92,Tryz.ntmps92;go_wp2_with (first
  | (at_make;refine Y4 Zw 90 ⟨none,0,0⟩ Tryz.Dn rfl Tryz.underlying139 4096 Dc Om rfl _ _ rfl rfl rfl ?_;intro w1 hown1 hgr1;rw[← HA0.out]at hown1 hgr1;rw[hz]at hown1;have T1:=Za (ZG.made (E:=Q5) (T2:=9) hown1);have B1:=Za ((Below.refl A0.heap.size A0).grown hgr1 (Nat.le_refl _) (fun q hq=>nomatch hq));have hsz1:=B1.out.size;clear hown1 hgr1)
  | (go_at_call 117;(with_reducible refine(HSTART.out _).mono ?_);rintro e w2 ⟨x,m,rfl,hs2,hb2⟩;have S2:=Za hs2;have B2:=Za hb2;have hsz2:=hb2.size;have T2:=Za (((T1.out.mono (show w.heap.size≤w.heap.size+1 by omega)).below hb2).below (Ze w2 (.cells #[.slice x.p.a x.p.n x.p.cap,.slice x.r.a x.r.n x.r.cap,.slice x.m.a x.m.n x.m.cap,.slice x.b.a x.b.n x.b.cap] 141)));clear hs2 hb2)
  | (go_at_call 111;(with_reducible refine(HKEY.out x (Zn p split) _ HRE0.out (S2.out.rep.below (Ze _ _))).mono ?_);rintro e w3 ⟨rfl,hb3⟩;have B3:=Za hb3;have hsz3:=hb3.size;have T3:Hid (F8 w3 w.heap.size (.slice (some ⟨w.heap.size+1,0,none⟩) 4096 4096) []):=Za (by show ZG _ _ _ _ _ _ (J5 []);rw[DC];exact T2.out.below hb3);clear hb3)
  | (go_at_call 110;(with_reducible refine(HMARK.out _ [] (Zn p split) w.heap.size w3 HRE0.out T3.out Sm (by simp at hsz3;omega)).mono ?_);rintro e w4 ⟨rfl,ht4,hk4⟩;have T4:=Za ht4;have K4:=Za hk4;have hsz4:=hk4.size;clear ht4 hk4))
 obtain⟨V0,hV0⟩:∃ V0,V0=(w4.alloc (.cells #[] 66)).alloc (.cells #[.int .i64 0,.slice (some ⟨w4.heap.size,0,none⟩) 0 0] 103):=⟨_,rfl⟩
 simp only[World.size_alloc]at hsz3;have BV4:Below w4.heap.size w4 V0:=by rw[hV0];exact(Ze w4 _).alloc Sm _
 have BW2:Below w.heap.size w w2:=(HB.out.trans (B1.out.mono HB.out.size)).trans (B2.out.mono (Nat.le_trans HB.out.size hsz1));have BW3:Below w.heap.size w w3:=(BW2.alloc BW2.size _).trans (B3.out.mono (by simp;have:=BW2.size;omega));have BW4:Below w.heap.size w w4:=BW3.trans (K4.out.below BW3.size);have BL0:Below w.heap.size w V0:=BW4.trans (BV4.mono BW4.size);have WK:Qs V0 w.heap.size (.slice (some ⟨w2.heap.size,0,none⟩) 1 1) [Xk (Zn p split)]:=by
  refine⟨[x],rfl,(((Yn.own (Own.Lb w2 BW2.size x) (L:=[90,9]) (B:=w.heap.size) Dc).step (.Zf B3.out)).keep w4 K4.out).below BV4,fun i y s hy hs => ?_⟩;cases i with
  | zero =>
   simp at hy hs;subst hy;subst hs;exact((((S2.out.loc (L:=LS) (B:=w.heap.size) Dc Dc).step (.Zf (Ze _ _))).step (.Zf B3.out)).step (K4.out.more Dc (Nat.le_refl _))).step (.Zf BV4)
  | succ i=>simp at hy
 have SE0:QO w.heap.size w.heap.size (w4.heap.size+1) (.slice (some ⟨w.heap.size+1,0,none⟩) 4096 4096) (.slice (some ⟨w2.heap.size,0,none⟩) 1 1) [Xk (Zn p split)] [Au (Zn p split)] 0 ⟨some ⟨w4.heap.size,0,none⟩,0,0⟩ [] V0:=by
  refine⟨WK,T4.out.below BV4,?_,by rw[hV0];have h:=heap_alloc_new (w4.alloc (.cells #[] 66)) (.cells #[.int .i64 0,.slice (some ⟨w4.heap.size,0,none⟩) 0 0] 103);simpa using h,?_,Nat.le_refl _,by have:=BW4.size;omega,BL0.size⟩
  ·have h1:=(B1.out.block w.heap.size Om).trans HN2.out
   have h2:=(B2.out.block w.heap.size Om).trans h1;have h3:=((Ze w2 (.cells #[.slice x.p.a x.p.n x.p.cap,.slice x.r.a x.r.n x.r.cap,.slice x.m.a x.m.n x.m.cap,.slice x.b.a x.b.n x.b.cap] 141)).block w.heap.size Om).trans h2;have h4:=(B3.out.block w.heap.size So).trans h3;have h5:=K4.out.same h4 Dc;exact(BV4.block w.heap.size (Array.getElem?_eq_some_iff.1 h5).1).trans h5
  ·rw[hV0]
   exact(Qk.empty (Ls:=LS) (B:=w.heap.size) BW4.size).step (.alloc _ _) Dc
 have HR0:Ct p split w (w4.heap.size+1) (.slice (some ⟨w.heap.size+1,0,none⟩) 4096 4096) (Jw 13 (Yr p) [Zn p split]) (.slice (some ⟨w2.heap.size,0,none⟩) 1 1) V0:=
  ⟨[Zn p split],[],[],[],[Au (Zn p split)],⟨some ⟨w4.heap.size,0,none⟩,0,0⟩,w2.heap.size,1,rfl,rfl,HST.out,SE0,⟨rfl,fun k=>Iff.rfl⟩,.nil _,BL0⟩
 have HRR:=Za HR0;have HV0:=Za hV0;obtain⟨O,hO⟩:∃ O,O=w4.heap.size+1:=⟨_,rfl⟩
 obtain⟨vt,hvt⟩:∃ vt:Value,vt = .slice (some ⟨w.heap.size+1,0,none⟩) 4096 4096:=⟨_,rfl⟩
 simp only[← hV0];clear WK SE0 HR0 BL0 BW4 BW3 BW2 BV4 hV0 T4 K4 T1 B1 B2 S2 T2 B3 T3 HST hsz1 hsz2 hsz3 hsz4;rw[← hO]at HRR ⊢;rw[← hvt]at HRR ⊢;clear hO hvt HV0
 go_loopg [6] (Jw 13 (Yr p) [Zn p split]) (fun gk v wr=>Ct p split w O vt gk v wr)
 case atStart=>exact HRR.out
 case round =>
  obtain⟨work,taken,og,outs,ks,vo,g,cap,rfl,hph,hpi,hse,hke,hro,hbl⟩:=hrel;have HPH:=Za hph;have HPI:=Za hpi;have HSE:=Za hse;have HKE:=Za hke;have HRO:=Za hro;have HBL:=Za hbl
  have hct:taken.length+work.length≤7321811000000:=by have h:=Br HV.out hpi.nd (hpi.LI HV.out);rwa[List.length_append]at h
  rcases List.eq_nil_or_concat work with rfl | ⟨init,s,rfl⟩
  ·have c0:wr.cell? ⟨O,0,none⟩=some (.int .i64 (taken.length:Int)):=Zc hse.bo (k:=0) rfl
   have c1:wr.cell? ⟨O,1,none⟩=some (.slice vo.a vo.n vo.cap):=Zc hse.bo (k:=1) rfl;have r0:wr.cell? ⟨w.heap.size,0,none⟩=some (.int .i64 0):=Zc hse.bn (k:=0) rfl;have r1:wr.cell? ⟨w.heap.size,1,none⟩=some (.slice none 0 0):=Zc hse.bn (k:=1) rfl;have rfz:=Z6 hse.bn;have rl:=Zb r0;have cl:=Zb c0;have t0:Ry 103 wr w.heap.size:=⟨_,hse.bn⟩
   have T0:=Za t0;have hct2:taken.length≤8796093022000:=Om;clear hph hpi hse hke hro hbl t0 hct;generalize taken.length=cn at *;go_wp2_with fail;have k1:YS LS w.heap.size wr ((wr.setCell ⟨w.heap.size,0,none⟩ (.int .i64 (cn:Int))).setCell ⟨w.heap.size,1,none⟩ (.slice vo.a vo.n vo.cap)):=(YS.Yh T0.out Dc (Nat.le_refl _) _).trans (YS.Yh (T0.out.set _ _ _) Dc (Nat.le_refl _) _);refine bodyPost_ret (v:=.agg #[.int .i64 (cn:Int),.slice vo.a vo.n vo.cap]) (by simp[results,Tryz.results92,go_sem, *]) rfl ⟨cn,vo,outs,hct2,rfl,?_,HN.out ▸ HRO.out.ok,fun o=>(HRO.out.mem o).trans ((HPI.out.fin o).trans ⟨fun ⟨s,h1,h2⟩=>⟨s,(YZ HV.out s).1 h1,h2⟩,fun ⟨s,h1,h2⟩=>⟨s,(YZ HV.out s).2 h1,h2⟩⟩),?_⟩
   ·exact HSE.out.ol.step k1 Dc
   ·exact(HBL.out.setCell (p:=⟨w.heap.size,0,none⟩) (Nat.le_refl _) _).setCell (p:=⟨w.heap.size,1,none⟩) (Nat.le_refl _) _
  ·rw[List.concat_eq_append] at *
   have hwk:=hse.wk;rw[List.map_append,List.map_singleton]at hwk;obtain⟨hn1,hgl,hgB,hcap,hwk',x,hlx,p0,p1,p2,p3⟩:=hwk.pop;rw[List.length_map]at hwk' p0 p1 p2 p3 hn1;have hreach:=hpi.LI HV.out s Sm;have HRC:=Za hreach;have HOK:=Za (HOKR.out s hreach);have HWK:=Za hwk';have HLX:=Za hlx
   have hlen:(init++[s]).length=init.length+1:=by simp
   rw[hlen]at hcap ⊢;have c0:wr.cell? ⟨O,0,none⟩=some (.int .i64 (taken.length:Int)):=Zc hse.bo (k:=0) rfl;have c1:wr.cell? ⟨O,1,none⟩=some (.slice vo.a vo.n vo.cap):=Zc hse.bo (k:=1) rfl;have cfz:=Z6 hse.bo;have cl:=Zb c0;have hm1:init.length≤68719476000:=by have h1:=hpi.short;simp at h1;omega
   have hct2:taken.length≤8796093022000:=Om;have hnb:x.b.n=s.bf.length:=by
    obtain⟨_,_,hv2,-,-,-,-⟩:=hlx.now.bf.open;simp only[Zt.v,Value.slice.injEq,List.length_map]at hv2;exact hv2.2.1
   have hnb9:s.bf.length≤9:=HLB.out s hreach;have HNB0:=Za hnb;have HBR0:Hid (s.bf.length=s.bf.length):=Za rfl;clear hph hpi hse hke hro hbl hwk hwk' hlx hlen hn1 hct hreach hnb;generalize hm:init.length=m at *;have HM:=Za hm;generalize htn:taken.length=cn at *;have HTN:=Za htn;obtain⟨nb,hnbq⟩:∃ nb,nb=s.bf.length:=⟨_,rfl⟩
   rw[← hnbq]at hnb9 HNB0;have HNB:=HNB0;have HBL9:=Za hnbq;clear hm htn hnbq HNB0 HBR0;go_wp2_with fail;obtain⟨S,hS⟩:∃ S,S=wr.heap.size:=⟨_,rfl⟩
   have ec:((cn+1:Nat):Int)=(cn:Int)+1:=Om;have SE0:=((HSE.out.L9 HWK.out (.refl _ _ _)).Y1 (cn+1)).below (Ze _ (.cells #[.slice x.p.a x.p.n x.p.cap,.slice x.r.a x.r.n x.r.cap,.slice x.m.a x.m.n x.m.cap,.slice x.b.a x.b.n x.b.cap] 141));have LX0:=(HLX.out.step (YS.set (j:=0) HSE.out.bo Dc (by have:=HSE.out.lN;have:=HSE.out.lO;omega) (.int .i64 ((cn+1:Nat):Int)))).step (.alloc _ (.cells #[.slice x.p.a x.p.n x.p.cap,.slice x.r.a x.r.n x.r.cap,.slice x.m.a x.m.n x.m.cap,.slice x.b.a x.b.n x.b.cap] 141));have BL0:=(HBL.out.setCell (p:=⟨O,0,none⟩) (by have:=HSE.out.lN;have:=HSE.out.lO;show _≤O;omega) (.int .i64 ((cn+1:Nat):Int))).alloc (by simpa using HBL.out.size) (.cells #[.slice x.p.a x.p.n x.p.cap,.slice x.r.a x.r.n x.r.cap,.slice x.m.a x.m.n x.m.cap,.slice x.b.a x.b.n x.b.cap] 141);rw[ec]at SE0 LX0 BL0;obtain⟨V1,hV1⟩:∃ V1,V1=(wr.setCell ⟨O,0,none⟩ (.int .i64 ((cn:Int)+1))).alloc (.cells #[.slice x.p.a x.p.n x.p.cap,.slice x.r.a x.r.n x.r.cap,.slice x.m.a x.m.n x.m.cap,.slice x.b.a x.b.n x.b.cap] 141):=⟨_,rfl⟩
   have SX0:V1.heap[S]? = some (.cells #[.slice x.p.a x.p.n x.p.cap,.slice x.r.a x.r.n x.r.cap,.slice x.m.a x.m.n x.m.cap,.slice x.b.a x.b.n x.b.cap] 141 (0,0)):=by rw[hV1,hS];have h:=heap_alloc_new (wr.setCell ⟨O,0,none⟩ (.int .i64 ((cn:Int)+1))) (.cells #[.slice x.p.a x.p.n x.p.cap,.slice x.r.a x.r.n x.r.cap,.slice x.m.a x.m.n x.m.cap,.slice x.b.a x.b.n x.b.cap] 141);simpa using h
   rw[← hV1]at SE0 LX0 BL0;have HSE0:=Za SE0;have HLX0:=Za LX0;have HBL0:=Za BL0;have HSX0:=Za SX0
   have hgS0:g < S:=by rw[hS];exact hgl
   have hgS:g≠S:=Om;have hOS:O < S:=by rw[hS];exact cl
   have HDONE:Hid (Calls Tryz.prog 118 #[.slice va n vc,.agg #[.slice x.p.a x.p.n x.p.cap,.slice x.r.a x.r.n x.r.cap,.slice x.m.a x.m.n x.m.cap,.slice x.b.a x.b.n x.b.cap]] V1 fun e w'=>e = .returned (.bool (Yf p s))∧Below V1.heap.size V1 w'):=Za (by
    have:=BK _ p x s V1 (HP.out.below (HBL0.out)) HLX0.out.now HOK.out.q.lp (by have:=HN.out;omega);exact this)
   have HOUT:Hid (∀ W,ZB W x (Xk s)→Calls Tryz.prog 114 #[.agg #[.slice x.p.a x.p.n x.p.cap,.slice x.r.a x.r.n x.r.cap,.slice x.m.a x.m.n x.m.cap,.slice x.b.a x.b.n x.b.cap]] W (Xm Zo 3 W (Yq s))):=Za (fun W h=>UH x (Xk s) W h (by show s.q.rg.length≤_;have:=HOK.out.q.lr;have:=HN.out;omega) (by show s.q.mm.length≤_;have:=HOK.out.q.lm;omega));have HPUT:=Za (fun W u (hL:Qk LS w.heap.size W w.heap.size vo.v outs) ho hb=>Dr LS w.heap.size w.heap.size (.slice vo.a vo.n vo.cap) u outs (Yq s) W hL ho Dc hb (by have h1:=HRO.out.le;have h2:=HPI.out.Lk HFEW.out;omega));have HSX1:=Za hS;have HOL:Hid ((Yq s).length=p.length * 3+3):=Za (UR HOK.out).1;simp only[← hV1];rw[← hS];clear c0 c1 cfz cl p0 p1 p2 p3 SE0 LX0 BL0 SX0 hV1 hS ec hgl hcap HWK HSE HBL HLX;have k0:V1.cell? ⟨S,0,none⟩=some (.slice x.p.a x.p.n x.p.cap):=Zc HSX0.out (k:=0) rfl;cases hd:Yf p s
   ·have PM0:=Za (HPI.out.EF hd)
    have HD:=Za hd;rw[hd]at HDONE;clear hd
    (with_reducible refine HDONE.out.mono ?_);rintro e w1 ⟨rfl,hb1⟩
    have SE2:=Za (HSE0.out.below hb1);have LX2:=Za (HLX0.out.step (.Zf hb1));have BL2:=Za (HBL0.out.trans (hb1.mono HBL0.out.size));have SX2:Hid (w1.heap[S]? = some (.cells #[.slice x.p.a x.p.n x.p.cap,.slice x.r.a x.r.n x.r.cap,.slice x.m.a x.m.n x.m.cap,.slice x.b.a x.b.n x.b.cap] 141 (0,0))):=Za ((hb1.block S (Array.getElem?_eq_some_iff.1 HSX0.out).1).trans HSX0.out)
    clear hb1 k0;go_wp2_with fail;have RO2:=HRO
    go_loopw [6,9] (fun v i wr => ∃ k:Nat,k≤n+nb∧i = .int .i64 k∧Gr p split w O S vt x s init taken (og) (outs) vo k v wr) (fun _ i _=>n+nb - (intOf i).toNat)
    case atStart=>exact⟨0,Nat.zero_le _,rfl,[],ks,g,cap,by rw[List.append_nil,HM.out],PM0.out,by have h:=SE2.out;rw[← HTN.out]at h;rw[List.append_nil];exact h,HKE.out.pop,SX2.out,hgS,LX2.out,BL2.out⟩
    case round =>
     obtain⟨k,hk,rfl,new2,ks2,g2,cap2,rfl,hpm,hse,hke,hsx,hgS2,hlx,hbl⟩:=hrel;have PM3:=Za hpm;have SE3:=Za hse;have KE3:=Za hke;have SX3:=Za hsx;have LX3:=Za hlx;have BL3:=Za hbl
     have d3:wr.cell? ⟨S,3,none⟩=some (.slice x.b.a x.b.n x.b.cap):=Zc hsx (k:=3) rfl;rw[HNB.out]at d3;have dl:=Zb d3;obtain⟨l2,hl2⟩:∃ l2,l2=(init++new2).length:=⟨_,rfl⟩
     have hse3:=SE3.out;rw[← hl2]at hse3 ⊢;have SE4:=Za hse3;have HL2:=Za hl2;clear hpm hse hke hlx hbl hse3 hl2 SE3;by_cases hlt:k < n+nb
     ·have hlt':(k:Int) < (n:Int)+(nb:Int):=Om
      have d0:wr.cell? ⟨S,0,none⟩=some (.slice x.p.a x.p.n x.p.cap):=Zc hsx (k:=0) rfl;have d1:wr.cell? ⟨S,1,none⟩=some (.slice x.r.a x.r.n x.r.cap):=Zc hsx (k:=1) rfl;have d2:wr.cell? ⟨S,2,none⟩=some (.slice x.m.a x.m.n x.m.cap):=Zc hsx (k:=2) rfl;have hbs:=BL3.out.size;have HCAN:Hid (Calls Tryz.prog 119 #[.slice va n vc,.agg #[.slice x.p.a x.p.n x.p.cap,.slice x.r.a x.r.n x.r.cap,.slice x.m.a x.m.n x.m.cap,.slice x.b.a nb x.b.cap],.bool split,.int .i64 (k:Int)] wr fun e w'=>e = .returned (.bool (Zu p split s k).isSome)∧Below wr.heap.size wr w'):=Za (by
       have:=Ga _ p x s split k wr (HP.out.below BL3.out) LX3.out.now HOK.out (by have:=HN.out;omega) HIV.out (by have:=HN.out;have:=HBL9.out;omega);rwa[HNB.out]at this)
      cases hc:Zu p split s k with
      | none =>
       have SK:=Za (Gc hc);rw[hc]at HCAN;simp only[Option.isSome_none]at HCAN;clear hc;go_wp2_with (go_at_call 119;(with_reducible refine HCAN.out.mono ?_);rintro e w5 ⟨rfl,hb5⟩;have B5:=Za hb5;clear hb5);go_roundw
       case rel=>exact⟨k+1,Om,Gn,new2,ks2,g2,cap2,by rw[HL2.out],by rw[SK.out];exact PM3.out,SE4.out.below B5.out,KE3.out,(B5.out.block S dl).trans SX3.out,hgS2,LX3.out.step (.Zf B5.out),BL3.out.trans (B5.out.mono hbs)⟩
       case measure=>simp[intOf];omega
      | some s' =>
       have SK:=Za (AH hc);have NX:Hid (QU (GV p split) (QR p split) s (QT p split s k)=some s'):=Za (AI hc (by have:=HN.out;have:=HBL9.out;omega));have HRC2:Hid (Cv p split s'):=Za (.step HRC.out hc);have HRK2:=Za (Qd HOK.out hc);have HDO:Hid (∀ W,Below w.heap.size w W→ZB W x (Xk s)→Calls Tryz.prog 120 #[.slice va n vc,.agg #[.slice x.p.a x.p.n x.p.cap,.slice x.r.a x.r.n x.r.cap,.slice x.m.a x.m.n x.m.cap,.slice x.b.a nb x.b.cap],.bool split,.int .i64 (k:Int)] W (Xt W (Xk s'))):=Za (fun W hW hx=>by
        have:=A9 _ p x s s' split k W (HP.out.below hW) hx HOK.out (by have:=HN.out;omega) HPR.out (HROW.out s HRC.out) HIV.out hc;rwa[HNB.out]at this)
       rw[hc]at HCAN;simp only[Option.isSome_some]at HCAN;clear hc;go_wp2_with (go_at_call 119;(with_reducible refine HCAN.out.mono ?_);rintro e w5 ⟨rfl,hb5⟩;have B5:=Za hb5;have hsx5:=(hb5.block S dl).trans SX3.out;have e0:w5.cell? ⟨S,0,none⟩=some (.slice x.p.a x.p.n x.p.cap):=Zc hsx5 (k:=0) rfl;have e1:w5.cell? ⟨S,1,none⟩=some (.slice x.r.a x.r.n x.r.cap):=Zc hsx5 (k:=1) rfl;have e2:w5.cell? ⟨S,2,none⟩=some (.slice x.m.a x.m.n x.m.cap):=Zc hsx5 (k:=2) rfl;have e3:w5.cell? ⟨S,3,none⟩=some (.slice x.b.a x.b.n x.b.cap):=Zc hsx5 (k:=3) rfl;rw[HNB.out]at e3;have el:=Zb e0;have SE5:=Za (SE4.out.below hb5);have LX5:=Za (LX3.out.step (.Zf hb5));have BL5:=Za (BL3.out.trans (hb5.mono hbs));have SX5:=Za hsx5;have hbs5:=BL5.out.size;clear d0 d1 d2 d3 dl hsx5 hb5)
       (with_reducible refine(HDO.out _ BL5.out LX5.out.now).mono ?_);rintro e w6 ⟨y,my,rfl,hs6,hb6⟩;have S6:=Za hs6;have B6:=Za (hb6.alloc hb6.size (.cells #[.slice y.p.a y.p.n y.p.cap,.slice y.r.a y.r.n y.r.cap,.slice y.m.a y.m.n y.m.cap,.slice y.b.a y.b.n y.b.cap] 141));have hsz6:=hb6.size;clear hs6 hb6
       go_wp2_with (go_at_call 111;(with_reducible refine(HKEY.out y s' _ HRC2.out (S6.out.rep.below (Ze _ _))).mono ?_);rintro e w7 ⟨rfl,hb7⟩;have B7:=Za (B6.out.trans (hb7.mono So));have HX7:Hid (w7.heap[w6.heap.size]? = some (.cells #[.slice y.p.a y.p.n y.p.cap,.slice y.r.a y.r.n y.r.cap,.slice y.m.a y.m.n y.m.cap,.slice y.b.a y.b.n y.b.cap] 141 (0,0))):=Za ((hb7.block w6.heap.size Sm).trans (heap_alloc_new w6 _));have hsz7:=B7.out.size;have LY7:=Za (((S6.out.loc (L:=LS) (B:=w.heap.size) Dc Dc).step (.alloc _ _)).step (.Zf hb7));clear hb7)
       (with_reducible refine(KO vt ks2 (Au s') w7 (SE5.out.below B7.out).tb.rep (HKSZ.out _ HRC2.out)).mono ?_);rintro e w8 ⟨D,rfl,hD,rfl⟩
       have hkl:ks2.length≤8796093022000:=by rw[KE3.out.len];have h:=Br HV.out PM3.out.nd (fun u hu=>(YZ HV.out u).1 (PM3.out.rc u hu));omega
       cases D
       ·have HNO:Hid (s'∉(s :: taken)++(init++new2)):=Za (fun h=>by have h2:=hD.2 ((KE3.out.mem _).2 (List.mem_map.2 ⟨_,h,rfl⟩));simp at h2)
        clear hD;go_wp2_with (first
         | (go_at_call 110;(with_reducible refine(HMARK.out vt ks2 s' w.heap.size w7 HRC2.out (SE5.out.below B7.out).tb hkl Om).mono ?_);rintro e w9 ⟨rfl,ht9,hk9⟩;have SE9:=Za ((SE5.out.below B7.out).mark ht9 hk9);have K9:=Za hk9;have hx9:=hk9.same HX7.out Dc;have f0:w9.cell? ⟨w6.heap.size,0,none⟩=some (.slice y.p.a y.p.n y.p.cap):=Zc hx9 (k:=0) rfl;have f1:w9.cell? ⟨w6.heap.size,1,none⟩=some (.slice y.r.a y.r.n y.r.cap):=Zc hx9 (k:=1) rfl;have f2:w9.cell? ⟨w6.heap.size,2,none⟩=some (.slice y.m.a y.m.n y.m.cap):=Zc hx9 (k:=2) rfl;have f3:w9.cell? ⟨w6.heap.size,3,none⟩=some (.slice y.b.a y.b.n y.b.cap):=Zc hx9 (k:=3) rfl;have fl9:=Zb f0;obtain⟨xs9,hxl9,hown9,hst9⟩:=SE9.out.wk;have O9:=Za hown9;have XL9:=Za hxl9;have ST9:=Za hst9;have hxb9:xs9.length≤68719476736:=(by rw[hxl9,List.length_map];have h1:=PM3.out.short;omega);have hsz9:=hk9.size;clear hown9 hxl9 hst9 ht9 hk9 hx9)
         | (at_builtin;refine ZA IE 141 Tryz.C4 rfl Tryz.underlying143 w.heap.size _ xs9 y (O9.out.alloc _) Dc hxb9 So rfl _ _ rfl rfl _ 0 1 rfl Zp ?_;intro v10 w10 hown10 hgr10 hat10;have O10:=Za hown10;have G10:=Za hgr10;have A10:=Za hat10;clear hown10 hgr10 hat10))
        rcases O10.out.shape with⟨_,e⟩ | ⟨g10,c10,rfl,hg10,hg10',hc10,_⟩
        ·simp at e
        have hl10:(xs9++[y]).length=(init++(new2++[s'])).length:=by have:=XL9.out;simp only[List.length_append,List.length_singleton,List.length_map]at this ⊢;omega
        have hgS10:g10≠S:=by
         rcases A10.out with h | ⟨q,h,hq⟩
         ·simp[Value.ownBlock]at h;omega
         ·simp[Value.ownBlock]at h;simp at hq;omega
        have bA:=Ze w9 (.cells #[.slice y.p.a y.p.n y.p.cap,.slice y.r.a y.r.n y.r.cap,.slice y.m.a y.m.n y.m.cap,.slice y.b.a y.b.n y.b.cap] 141);have kA:=YS.Zf (L:=LS) (B:=w.heap.size) bA;have k9:=K9.out.more (L':=LS) Dc (Nat.le_refl _);have hw10:=Qs.push (s:=Xk s') XL9.out (O9.out.below bA) (fun i x s h1 h2=>(ST9.out i x s h1 h2).step kA) ((LY7.out.step k9).step kA) O10.out G10.out;have k10:YS [141] w.heap.size _ w10:=YS.grown (O9.out.below bA) Dc (Nat.le_refl _) G10.out;have se10:=(SE9.out.below bA).L9 hw10 k10;rw[← List.map_singleton (f:=Xk),← List.map_append,List.append_assoc]at se10;rw[hl10]at se10 ⊢;have hS9:w9.heap[S]? = _:=K9.out.same ((B7.out.block S el).trans SX5.out) Dc;have hSl:=(Array.getElem?_eq_some_iff.1 hS9).1;have hS10:=(G10.out.block S So (fun e=>by simp[Value.ownBlock]at e;omega)).trans ((heap_alloc_old w9 _ hSl).trans hS9);have lx10:=((((LX5.out.step (.Zf B7.out)).step k9).step kA).step (k10.more Dc (Nat.le_refl _)))
        have bl7:=BL5.out.trans (B7.out.mono hbs5);have bl9:=bl7.trans (K9.out.below bl7.size);have bl10:=(bl9.alloc bl9.size (.cells #[.slice y.p.a y.p.n y.p.cap,.slice y.r.a y.r.n y.r.cap,.slice y.m.a y.m.n y.m.cap,.slice y.b.a y.b.n y.b.cap] 141)).grown G10.out (by simp;have:=bl9.size;omega) (fun q hq=>(World.ownsRow.lt O9.out q hq).1);have pm10:=PM3.out.new NX.out HNO.out (by have h1:=Vp HOK.out (by have:=HN.out;omega);have h2:QT p split s k < (GV p split s).length:=(List.getElem?_eq_some_iff.1 ((Xy _ _).1 NX.out).choose_spec.1).1;omega) HRK2.out;rw[← SK.out]at pm10;have HF:=Za (⟨new2++[s'],ks2++[Au s'],g10,c10,rfl,pm10,se10,KE3.out.push s',hS10,hgS10,lx10,bl10⟩:Gr p split w O S vt x s init taken (og) (outs) vo (k+1) _ w10);clear hw10 k10 se10 hS9 hSl hS10 lx10 bl7 bl9 bl10 pm10 bA kA k9;go_roundw
        case rel=>exact⟨k+1,Om,Gn,HF.out⟩
        case measure=>simp[intOf];omega
       ·have SK2:Hid (Au s'∈ks2):=Za (hD.1 rfl)
        clear hD;have pm9:Lo p split s (QT p split s k+1) init new2 taken (og):=by
         obtain⟨u,hu,he⟩:=List.mem_map.1 ((KE3.out.mem _).1 SK2.out);exact PM3.out.IH (key:=Au) NX.out hu he HINJ.out
        rw[← SK.out]at pm9;have PM9:=Za pm9;clear pm9;go_wp2_with fail;go_roundw
        case rel=>exact⟨k+1,Om,Gn,new2,ks2,g2,cap2,by rw[HL2.out],PM9.out,SE5.out.below B7.out,KE3.out,(B7.out.block S el).trans SX5.out,hgS2,LX5.out.step (.Zf B7.out),BL5.out.trans (B7.out.mono hbs5)⟩
        case measure=>simp[intOf];omega
     ·obtain rfl:k=n+nb:=Om
      have hlt':¬ ((n:Int)+(nb:Int) < (n:Int)+(nb:Int)):=Om;have hall:(GV p split s).length≤QT p split s (n+nb):=by have h:=JY p split s;rw[HN.out,← HBL9.out]at h;omega
      have HG:=Za (HPH.out ▸ PM3.out.Cz (by have h1:=Vp HOK.out (by have:=HN.out;omega);have h:=JY p split s;rw[HN.out,← HBL9.out]at h;omega):Jw 13 (Yr p) (init++new2) < _);have HF:=Za (⟨init++new2,s :: taken,_,outs,ks2,vo,g2,cap2,by rw[HL2.out],rfl,PM3.out.leave hall,SE4.out,KE3.out,RO2.out,BL3.out⟩:Ct p split w O vt (Jw 13 (Yr p) (init++new2)) (.slice (some ⟨g2,0,none⟩) l2 cap2) wr);clear hall;go_wp2_with fail
      go_roundg (Jw 13 (Yr p) (init++new2))
      case measure=>exact HG.out
      case rel=>exact HF.out
   ·have PM0:=Za (HPI.out.CG hd)
    rw[hd]at HDONE;clear hd
    (with_reducible refine HDONE.out.mono ?_);rintro e w1 ⟨rfl,hb1⟩
    have SE1:=Za (HSE0.out.below hb1);have LX1:=Za (HLX0.out.step (.Zf hb1));have BL1:=Za (HBL0.out.trans (hb1.mono HBL0.out.size));have SX1:Hid (w1.heap[S]? = some (.cells #[.slice x.p.a x.p.n x.p.cap,.slice x.r.a x.r.n x.r.cap,.slice x.m.a x.m.n x.m.cap,.slice x.b.a x.b.n x.b.cap] 141 (0,0))):=Za ((hb1.block S (Array.getElem?_eq_some_iff.1 HSX0.out).1).trans HSX0.out)
    clear hb1 k0;go_wp2_with fail
    -- ZQ outs
    refine Zl (n:=6) Kr rfl Kr Kr (fun A ls a' W => ∃ (u:Zt) (pv:Zt) (x46 x47 x48 x49 x50 x51:Value),a'=Zk A [(46,x46),(47,x47),(48,x48),(49,x49),(50,x50),(51,x51)]∧Vd ls 0 [] x46 (.pointer (some ⟨O,1,none⟩))∧Vd ls 1 [] x47 (.slice vo.a vo.n vo.cap)∧Vd ls 2 [] x48 (.agg #[.slice x.p.a x.p.n x.p.cap,.slice x.r.a x.r.n x.r.cap,.slice x.m.a x.m.n x.m.cap,.slice x.b.a x.b.n x.b.cap])∧Vd ls 3 [] x49 (.slice u.a u.n u.cap)∧Vd ls 4 [3] x50 (.slice pv.a pv.n pv.cap)∧Vd ls 5 [] x51 (.pointer (some ⟨O,1,none⟩))∧Hz w1 w.heap.size (Yq s) (Xz (Yq s) outs) (fl ls 3) (fl ls 4) u pv W) ?r0 ?rs ?re
    case r0 =>
     exact⟨⟨none,0,0⟩,⟨none,0,0⟩,u46,u47,u48,u49,u50,u51,pA,Vs,Vs,Vs,Vs,Vs,Vs,by simp only[Ye];exact⟨(Below.refl _ _).drew,fun h=>(nomatch h),fun h=>(nomatch h),fun h=>(nomatch h)⟩⟩
    case rs =>
     rintro ls a' W hs hnl ⟨u,pv,x46,x47,x48,x49,x50,x51,ha,cv0,cv1,cv2,cv3,cv4,cv5,hJ⟩ k o hkn mc K hK;simp only[Zk,Act.put,List.setIfInBounds_toArray,List.set_cons_succ,List.set_cons_zero]at ha;subst ha;have hkc:k=0∨k=1∨k=2∨k=3∨k=4∨k=5:=Om;have hop:=mc.op;have haf:=mc.after;rcases hkc with rfl | rfl | rfl | rfl | rfl | rfl
     ·simp at hop;subst hop;simp[Region.binds]at haf
      go_simp;exact hK _ _ ⟨u,pv,_,_,_,_,_,_,pA,Ve,cv1.s,cv2.s,cv3.s,cv4.s,cv5.s,by rw[fs 0 3,fs 0 4];exact hJ⟩
     ·simp at hop;subst hop;simp[Region.binds]at haf
      obtain rfl:=(cv0.get (by simp[haf])).symm;have d1:W.cell? ⟨O,1,none⟩=some (.slice vo.a vo.n vo.cap):=Zc ((hJ.out.block O (Array.getElem?_eq_some_iff.1 SE1.out.bo).1).trans SE1.out.bo) (k:=1) rfl;have dl:=Zb d1;go_simp;exact hK _ _ ⟨u,pv,_,_,_,_,_,_,pA,cv0.s,Ve,cv2.s,cv3.s,cv4.s,cv5.s,by rw[fs 1 3,fs 1 4];exact hJ⟩
     ·simp at hop;subst hop;simp[Region.binds]at haf
      have hbx:=(hJ.out.block S (Array.getElem?_eq_some_iff.1 SX1.out).1).trans SX1.out;have d0:W.cell? ⟨S,0,none⟩=some (.slice x.p.a x.p.n x.p.cap):=Zc hbx (k:=0) rfl;have d1:W.cell? ⟨S,1,none⟩=some (.slice x.r.a x.r.n x.r.cap):=Zc hbx (k:=1) rfl;have d2:W.cell? ⟨S,2,none⟩=some (.slice x.m.a x.m.n x.m.cap):=Zc hbx (k:=2) rfl;have d3:W.cell? ⟨S,3,none⟩=some (.slice x.b.a x.b.n x.b.cap):=Zc hbx (k:=3) rfl;have dl:=Zb d0;go_simp;exact hK _ _ ⟨u,pv,_,_,_,_,_,_,pA,cv0.s,cv1.s,Ve,cv3.s,cv4.s,cv5.s,by rw[fs 2 3,fs 2 4];exact hJ⟩
     ·simp at hop;subst hop;simp[Region.binds]at haf
      obtain rfl:=(cv2.get (by simp[haf])).symm;have f3:=ZV mc.new;rw[f3]at hJ;go_simp;go_at_call 114
      (with_reducible refine(HOUT.out W (LX1.out.step (.Zf hJ.out)).now).mono ?_);rintro e u' ⟨v',rfl,ho,hbu⟩
      obtain⟨⟨ua,un,uc⟩,rfl,-⟩:=ho.YL;exact hK _ _ ⟨⟨ua,un,uc⟩,pv,_,_,_,_,_,_,pA,cv0.s,cv1.s,cv2.s,Ve,cv4.void Dc Dc mc.new,cv5.s,by rw[ZD hs Dc,fs 3 4];exact hJ.IN ho hbu (by have:=SE1.out.sz;have:=hJ.out.size;omega)⟩
     ·simp at hop;subst hop;simp[Region.binds]at haf
      obtain rfl:=(cv1.get (by simp[haf])).symm;obtain rfl:=(cv3.get (by simp[haf])).symm;have f4:=ZV mc.new;rw[f4]at hJ;have f3:=Zz (show ls[3]? = some true by simp[haf]);rw[f3]at hJ;go_simp;go_at_call 113
      (with_reducible refine(HPUT.out W u (SE1.out.below hJ.out).ol (Yn.own (hJ.o1 rfl) Dc) (by have:=SE1.out.sz;have:=hJ.out.size;omega)).mono ?_);rintro e u' ⟨v',rfl,ho,hbu⟩
      obtain⟨⟨ua,un,uc⟩,rfl,-⟩:=ho.own;exact hK _ _ ⟨u,⟨ua,un,uc⟩,_,_,_,_,_,_,pA,cv0.s,cv1.s,cv2.s,cv3.s,Vd.same (by simp[haf]),cv5.s,by rw[fs 4 3,ZD hs Dc,f3];exact hJ.call2 ho hbu⟩
     ·simp at hop;subst hop;simp[Region.binds]at haf
      go_simp;exact hK _ _ ⟨u,pv,_,_,_,_,_,_,pA,cv0.s,cv1.s,cv2.s,cv3.s,cv4.s,Ve,by rw[fs 5 3,fs 5 4];exact hJ⟩
    case re =>
     rintro ls a' W hall ⟨u,pv,x46,x47,x48,x49,x50,x51,ha,cv0,cv1,cv2,cv3,cv4,cv5,hJ⟩ o hop;simp only[Zk,Act.put,List.setIfInBounds_toArray,List.set_cons_succ,List.set_cons_zero]at ha;subst ha;simp at hop;subst hop;obtain rfl:=cv0.ga hall;obtain rfl:=cv1.ga hall;obtain rfl:=cv2.ga hall;obtain rfl:=cv3.ga hall;obtain rfl:=cv4.ga hall;obtain rfl:=cv5.ga hall;rw[Zz (hall 3 Dc)]at hJ;rw[Zz (hall 4 Dc)]at hJ;have hbo:=(hJ.out.block O (Array.getElem?_eq_some_iff.1 SE1.out.bo).1).trans SE1.out.bo;have d1:W.cell? ⟨O,1,none⟩=some (.slice vo.a vo.n vo.cap):=Zc hbo (k:=1) rfl;have dfz:=Z6 hbo;have dl:=Zb d1;go_simp;have SE2:=Za ((SE1.out.below hJ.out).out (vo':=pv) (hJ.o2 rfl));have SX2:Hid ((W.setCell ⟨O,1,none⟩ (.slice pv.a pv.n pv.cap)).heap[S]? = some (.cells #[.slice x.p.a x.p.n x.p.cap,.slice x.r.a x.r.n x.r.cap,.slice x.m.a x.m.n x.m.cap,.slice x.b.a x.b.n x.b.cap] 141 (0,0))):=Za ((heap_setCell_other W ⟨O,1,none⟩ S _ (show S≠O by omega)).trans ((hJ.out.block S (Array.getElem?_eq_some_iff.1 SX1.out).1).trans SX1.out))
     have LX2:=Za ((LX1.out.step (.Zf hJ.out)).step (YS.set (j:=1) hbo Dc (by have:=SE1.out.lN;have:=SE1.out.lO;omega) (.slice pv.a pv.n pv.cap)));have BL2:=Za ((BL1.out.trans (hJ.out.mono BL1.out.size)).setCell (p:=⟨O,1,none⟩) (by have:=SE1.out.lN;have:=SE1.out.lO;show _≤O;omega) (.slice pv.a pv.n pv.cap));obtain⟨V2,hV2⟩:∃ V2,V2=W.setCell ⟨O,1,none⟩ (.slice pv.a pv.n pv.cap):=⟨_,rfl⟩
     rw[← hV2]at SE2 SX2 LX2 BL2;simp only[← hV2];clear hJ hbo d1 dfz dl hV2;go_wp2_with fail;have RO2:=Za (HRO.out.put HOL.out)
     go_loopw [6,9] (fun v i wr => ∃ k:Nat,k≤n+nb∧i = .int .i64 k∧Gr p split w O S vt x s init taken (og++[Yq s]) (Xz (Yq s) outs) pv k v wr) (fun _ i _=>n+nb - (intOf i).toNat)
     case atStart=>exact⟨0,Nat.zero_le _,rfl,[],ks,g,cap,by rw[List.append_nil,HM.out],PM0.out,by have h:=SE2.out;rw[← HTN.out]at h;rw[List.append_nil];exact h,HKE.out.pop,SX2.out,hgS,LX2.out,BL2.out⟩
     case round =>
      obtain⟨k,hk,rfl,new2,ks2,g2,cap2,rfl,hpm,hse,hke,hsx,hgS2,hlx,hbl⟩:=hrel;have PM3:=Za hpm;have SE3:=Za hse;have KE3:=Za hke;have SX3:=Za hsx;have LX3:=Za hlx;have BL3:=Za hbl
      have d3:wr.cell? ⟨S,3,none⟩=some (.slice x.b.a x.b.n x.b.cap):=Zc hsx (k:=3) rfl;rw[HNB.out]at d3;have dl:=Zb d3;obtain⟨l2,hl2⟩:∃ l2,l2=(init++new2).length:=⟨_,rfl⟩
      have hse3:=SE3.out;rw[← hl2]at hse3 ⊢;have SE4:=Za hse3;have HL2:=Za hl2;clear hpm hse hke hlx hbl hse3 hl2 SE3;by_cases hlt:k < n+nb
      ·have hlt':(k:Int) < (n:Int)+(nb:Int):=Om
       have d0:wr.cell? ⟨S,0,none⟩=some (.slice x.p.a x.p.n x.p.cap):=Zc hsx (k:=0) rfl;have d1:wr.cell? ⟨S,1,none⟩=some (.slice x.r.a x.r.n x.r.cap):=Zc hsx (k:=1) rfl;have d2:wr.cell? ⟨S,2,none⟩=some (.slice x.m.a x.m.n x.m.cap):=Zc hsx (k:=2) rfl;have hbs:=BL3.out.size;have HCAN:Hid (Calls Tryz.prog 119 #[.slice va n vc,.agg #[.slice x.p.a x.p.n x.p.cap,.slice x.r.a x.r.n x.r.cap,.slice x.m.a x.m.n x.m.cap,.slice x.b.a nb x.b.cap],.bool split,.int .i64 (k:Int)] wr fun e w'=>e = .returned (.bool (Zu p split s k).isSome)∧Below wr.heap.size wr w'):=Za (by
        have:=Ga _ p x s split k wr (HP.out.below BL3.out) LX3.out.now HOK.out (by have:=HN.out;omega) HIV.out (by have:=HN.out;have:=HBL9.out;omega);rwa[HNB.out]at this)
       cases hc:Zu p split s k with
       | none =>
        have SK:=Za (Gc hc);rw[hc]at HCAN;simp only[Option.isSome_none]at HCAN;clear hc;go_wp2_with (go_at_call 119;(with_reducible refine HCAN.out.mono ?_);rintro e w5 ⟨rfl,hb5⟩;have B5:=Za hb5;clear hb5);go_roundw
        case rel=>exact⟨k+1,Om,Gn,new2,ks2,g2,cap2,by rw[HL2.out],by rw[SK.out];exact PM3.out,SE4.out.below B5.out,KE3.out,(B5.out.block S dl).trans SX3.out,hgS2,LX3.out.step (.Zf B5.out),BL3.out.trans (B5.out.mono hbs)⟩
        case measure=>simp[intOf];omega
       | some s' =>
        have SK:=Za (AH hc);have NX:Hid (QU (GV p split) (QR p split) s (QT p split s k)=some s'):=Za (AI hc (by have:=HN.out;have:=HBL9.out;omega));have HRC2:Hid (Cv p split s'):=Za (.step HRC.out hc);have HRK2:=Za (Qd HOK.out hc);have HDO:Hid (∀ W,Below w.heap.size w W→ZB W x (Xk s)→Calls Tryz.prog 120 #[.slice va n vc,.agg #[.slice x.p.a x.p.n x.p.cap,.slice x.r.a x.r.n x.r.cap,.slice x.m.a x.m.n x.m.cap,.slice x.b.a nb x.b.cap],.bool split,.int .i64 (k:Int)] W (Xt W (Xk s'))):=Za (fun W hW hx=>by
         have:=A9 _ p x s s' split k W (HP.out.below hW) hx HOK.out (by have:=HN.out;omega) HPR.out (HROW.out s HRC.out) HIV.out hc;rwa[HNB.out]at this)
        rw[hc]at HCAN;simp only[Option.isSome_some]at HCAN;clear hc;go_wp2_with (go_at_call 119;(with_reducible refine HCAN.out.mono ?_);rintro e w5 ⟨rfl,hb5⟩;have B5:=Za hb5;have hsx5:=(hb5.block S dl).trans SX3.out;have e0:w5.cell? ⟨S,0,none⟩=some (.slice x.p.a x.p.n x.p.cap):=Zc hsx5 (k:=0) rfl;have e1:w5.cell? ⟨S,1,none⟩=some (.slice x.r.a x.r.n x.r.cap):=Zc hsx5 (k:=1) rfl;have e2:w5.cell? ⟨S,2,none⟩=some (.slice x.m.a x.m.n x.m.cap):=Zc hsx5 (k:=2) rfl;have e3:w5.cell? ⟨S,3,none⟩=some (.slice x.b.a x.b.n x.b.cap):=Zc hsx5 (k:=3) rfl;rw[HNB.out]at e3;have el:=Zb e0;have SE5:=Za (SE4.out.below hb5);have LX5:=Za (LX3.out.step (.Zf hb5));have BL5:=Za (BL3.out.trans (hb5.mono hbs));have SX5:=Za hsx5;have hbs5:=BL5.out.size;clear d0 d1 d2 d3 dl hsx5 hb5)
        (with_reducible refine(HDO.out _ BL5.out LX5.out.now).mono ?_);rintro e w6 ⟨y,my,rfl,hs6,hb6⟩;have S6:=Za hs6;have B6:=Za (hb6.alloc hb6.size (.cells #[.slice y.p.a y.p.n y.p.cap,.slice y.r.a y.r.n y.r.cap,.slice y.m.a y.m.n y.m.cap,.slice y.b.a y.b.n y.b.cap] 141));have hsz6:=hb6.size;clear hs6 hb6
        go_wp2_with (go_at_call 111;(with_reducible refine(HKEY.out y s' _ HRC2.out (S6.out.rep.below (Ze _ _))).mono ?_);rintro e w7 ⟨rfl,hb7⟩;have B7:=Za (B6.out.trans (hb7.mono So));have HX7:Hid (w7.heap[w6.heap.size]? = some (.cells #[.slice y.p.a y.p.n y.p.cap,.slice y.r.a y.r.n y.r.cap,.slice y.m.a y.m.n y.m.cap,.slice y.b.a y.b.n y.b.cap] 141 (0,0))):=Za ((hb7.block w6.heap.size Sm).trans (heap_alloc_new w6 _));have hsz7:=B7.out.size;have LY7:=Za (((S6.out.loc (L:=LS) (B:=w.heap.size) Dc Dc).step (.alloc _ _)).step (.Zf hb7));clear hb7)
        (with_reducible refine(KO vt ks2 (Au s') w7 (SE5.out.below B7.out).tb.rep (HKSZ.out _ HRC2.out)).mono ?_);rintro e w8 ⟨D,rfl,hD,rfl⟩
        have hkl:ks2.length≤8796093022000:=by rw[KE3.out.len];have h:=Br HV.out PM3.out.nd (fun u hu=>(YZ HV.out u).1 (PM3.out.rc u hu));omega
        cases D
        ·have HNO:Hid (s'∉(s :: taken)++(init++new2)):=Za (fun h=>by have h2:=hD.2 ((KE3.out.mem _).2 (List.mem_map.2 ⟨_,h,rfl⟩));simp at h2)
         clear hD;go_wp2_with (first
          | (go_at_call 110;(with_reducible refine(HMARK.out vt ks2 s' w.heap.size w7 HRC2.out (SE5.out.below B7.out).tb hkl Om).mono ?_);rintro e w9 ⟨rfl,ht9,hk9⟩;have SE9:=Za ((SE5.out.below B7.out).mark ht9 hk9);have K9:=Za hk9;have hx9:=hk9.same HX7.out Dc;have f0:w9.cell? ⟨w6.heap.size,0,none⟩=some (.slice y.p.a y.p.n y.p.cap):=Zc hx9 (k:=0) rfl;have f1:w9.cell? ⟨w6.heap.size,1,none⟩=some (.slice y.r.a y.r.n y.r.cap):=Zc hx9 (k:=1) rfl;have f2:w9.cell? ⟨w6.heap.size,2,none⟩=some (.slice y.m.a y.m.n y.m.cap):=Zc hx9 (k:=2) rfl;have f3:w9.cell? ⟨w6.heap.size,3,none⟩=some (.slice y.b.a y.b.n y.b.cap):=Zc hx9 (k:=3) rfl;have fl9:=Zb f0;obtain⟨xs9,hxl9,hown9,hst9⟩:=SE9.out.wk;have O9:=Za hown9;have XL9:=Za hxl9;have ST9:=Za hst9;have hxb9:xs9.length≤68719476736:=(by rw[hxl9,List.length_map];have h1:=PM3.out.short;omega);have hsz9:=hk9.size;clear hown9 hxl9 hst9 ht9 hk9 hx9)
          | (at_builtin;refine ZA IE 141 Tryz.C4 rfl Tryz.underlying143 w.heap.size _ xs9 y (O9.out.alloc _) Dc hxb9 So rfl _ _ rfl rfl _ 0 1 rfl Zp ?_;intro v10 w10 hown10 hgr10 hat10;have O10:=Za hown10;have G10:=Za hgr10;have A10:=Za hat10;clear hown10 hgr10 hat10))
         rcases O10.out.shape with⟨_,e⟩ | ⟨g10,c10,rfl,hg10,hg10',hc10,_⟩
         ·simp at e
         have hl10:(xs9++[y]).length=(init++(new2++[s'])).length:=by have:=XL9.out;simp only[List.length_append,List.length_singleton,List.length_map]at this ⊢;omega
         have hgS10:g10≠S:=by
          rcases A10.out with h | ⟨q,h,hq⟩
          ·simp[Value.ownBlock]at h;omega
          ·simp[Value.ownBlock]at h;simp at hq;omega
         have bA:=Ze w9 (.cells #[.slice y.p.a y.p.n y.p.cap,.slice y.r.a y.r.n y.r.cap,.slice y.m.a y.m.n y.m.cap,.slice y.b.a y.b.n y.b.cap] 141);have kA:=YS.Zf (L:=LS) (B:=w.heap.size) bA;have k9:=K9.out.more (L':=LS) Dc (Nat.le_refl _);have hw10:=Qs.push (s:=Xk s') XL9.out (O9.out.below bA) (fun i x s h1 h2=>(ST9.out i x s h1 h2).step kA) ((LY7.out.step k9).step kA) O10.out G10.out;have k10:YS [141] w.heap.size _ w10:=YS.grown (O9.out.below bA) Dc (Nat.le_refl _) G10.out;have se10:=(SE9.out.below bA).L9 hw10 k10;rw[← List.map_singleton (f:=Xk),← List.map_append,List.append_assoc]at se10;rw[hl10]at se10 ⊢;have hS9:w9.heap[S]? = _:=K9.out.same ((B7.out.block S el).trans SX5.out) Dc;have hSl:=(Array.getElem?_eq_some_iff.1 hS9).1;have hS10:=(G10.out.block S So (fun e=>by simp[Value.ownBlock]at e;omega)).trans ((heap_alloc_old w9 _ hSl).trans hS9);have lx10:=((((LX5.out.step (.Zf B7.out)).step k9).step kA).step (k10.more Dc (Nat.le_refl _)))
         have bl7:=BL5.out.trans (B7.out.mono hbs5);have bl9:=bl7.trans (K9.out.below bl7.size);have bl10:=(bl9.alloc bl9.size (.cells #[.slice y.p.a y.p.n y.p.cap,.slice y.r.a y.r.n y.r.cap,.slice y.m.a y.m.n y.m.cap,.slice y.b.a y.b.n y.b.cap] 141)).grown G10.out (by simp;have:=bl9.size;omega) (fun q hq=>(World.ownsRow.lt O9.out q hq).1);have pm10:=PM3.out.new NX.out HNO.out (by have h1:=Vp HOK.out (by have:=HN.out;omega);have h2:QT p split s k < (GV p split s).length:=(List.getElem?_eq_some_iff.1 ((Xy _ _).1 NX.out).choose_spec.1).1;omega) HRK2.out;rw[← SK.out]at pm10;have HF:=Za (⟨new2++[s'],ks2++[Au s'],g10,c10,rfl,pm10,se10,KE3.out.push s',hS10,hgS10,lx10,bl10⟩:Gr p split w O S vt x s init taken (og++[Yq s]) (Xz (Yq s) outs) pv (k+1) _ w10);clear hw10 k10 se10 hS9 hSl hS10 lx10 bl7 bl9 bl10 pm10 bA kA k9;go_roundw
         case rel=>exact⟨k+1,Om,Gn,HF.out⟩
         case measure=>simp[intOf];omega
        ·have SK2:Hid (Au s'∈ks2):=Za (hD.1 rfl)
         clear hD;have pm9:Lo p split s (QT p split s k+1) init new2 taken (og++[Yq s]):=by
          obtain⟨u,hu,he⟩:=List.mem_map.1 ((KE3.out.mem _).1 SK2.out);exact PM3.out.IH (key:=Au) NX.out hu he HINJ.out
         rw[← SK.out]at pm9;have PM9:=Za pm9;clear pm9;go_wp2_with fail;go_roundw
         case rel=>exact⟨k+1,Om,Gn,new2,ks2,g2,cap2,by rw[HL2.out],PM9.out,SE5.out.below B7.out,KE3.out,(B7.out.block S el).trans SX5.out,hgS2,LX5.out.step (.Zf B7.out),BL5.out.trans (B7.out.mono hbs5)⟩
         case measure=>simp[intOf];omega
      ·obtain rfl:k=n+nb:=Om
       have hlt':¬ ((n:Int)+(nb:Int) < (n:Int)+(nb:Int)):=Om;have hall:(GV p split s).length≤QT p split s (n+nb):=by have h:=JY p split s;rw[HN.out,← HBL9.out]at h;omega
       have HG:=Za (HPH.out ▸ PM3.out.Cz (by have h1:=Vp HOK.out (by have:=HN.out;omega);have h:=JY p split s;rw[HN.out,← HBL9.out]at h;omega):Jw 13 (Yr p) (init++new2) < _);have HF:=Za (⟨init++new2,s :: taken,_,Xz (Yq s) outs,ks2,pv,g2,cap2,by rw[HL2.out],rfl,PM3.out.leave hall,SE4.out,KE3.out,RO2.out,BL3.out⟩:Ct p split w O vt (Jw 13 (Yr p) (init++new2)) (.slice (some ⟨g2,0,none⟩) l2 cap2) wr);clear hall;go_wp2_with fail
       go_roundg (Jw 13 (Yr p) (init++new2))
       case measure=>exact HG.out
       case rel=>exact HF.out
    -- end outs
def QW (n:Nat) (φ:List Int→Prop) (w:World) (e:Ending) (w':World):Prop:=∃ (vo:Zt) (L:List (List Int)),e = .returned (.slice vo.a vo.n vo.cap)∧Yv Zo w' vo.v L∧YD n L∧(∀ o,o∈L↔φ o)∧Below w.heap.size w w'
def Vy (split:Bool) (p:List (List Ins)) (o:List Int):Prop:=Zi p=true∧∃ s,Cv p split s∧Yf p s=true∧Yq s=o
theorem YD.nil (n:Nat):YD n []:=⟨fun o h=>by simp at h,.nil⟩
theorem AV (split:Bool) (vp:Value) (p:List (List Ins)) (w:World) (hp:Z5 w vp p) (hl:p.flatten.length≤1048576) (hpl:p.length≤1048576) :
 Calls Tryz.prog (if split then 63 else 62) #[vp] w (QW (p.length * 3+3) (Vy split p) w):=by
 have kf:∀ (x y:Value) (w:World),(Instr.field 103 (.agg #[x,y]) 1).run Tryz.prog w = .ok y w:=fun x y w=>by kernel_rfl
 have HV:=Za (Yd vp p w hp hl hpl);have HR:=Za (fun (hv:Zi p=true) W (h:Z5 W vp p)=>Ds vp p split W h hv);have HP:=Za hp;clear hp hl hpl;generalize p.length * 3+3=n at *;cases hv:Zi p
 ·have F:Hid (∀ w1,Below w.heap.size w w1→QW n (Vy split p) w (.returned (.slice (some ⟨w1.heap.size,0,none⟩) 0 0)) (w1.alloc (.cells #[] 66))):=Za fun w1 hb=>⟨⟨some ⟨w1.heap.size,0,none⟩,0,0⟩,[],rfl,(Qk.empty (Ls:=[]) (B:=0) (base:=0) (Nat.zero_le _)).Uo,.nil _,fun o=>by simp[Vy,hv],hb.alloc hb.size _⟩
  cases split
  ·show Calls Tryz.prog 62 _ _ _
   go_enter Tryz.func62,Tryz.ntmps62;go_wp2_with (go_at_call 28;(with_reducible refine HV.out.mono ?_);rintro e w1 ⟨rfl,hb1⟩;have B1:=Za hb1;rw[hv];clear hb1);go_ret;exact F.out _ B1.out
  ·show Calls Tryz.prog 63 _ _ _
   go_enter Tryz.func63,Tryz.ntmps63;go_wp2_with (go_at_call 28;(with_reducible refine HV.out.mono ?_);rintro e w1 ⟨rfl,hb1⟩;have B1:=Za hb1;rw[hv];clear hb1);go_ret;exact F.out _ B1.out
 ·have F:Hid (∀ (w1 w2:World) (vo:Zt) (L:List (List Int)),Below w.heap.size w w1→Qk LS w1.heap.size w2 w1.heap.size vo.v L→YD n L→(∀ o,o∈L↔∃ s,Cv p split s∧Yf p s=true∧Yq s=o)→Below w1.heap.size w1 w2→QW n (Vy split p) w (.returned (.slice vo.a vo.n vo.cap)) w2):=Za fun w1 w2 vo L h1 h2 h3 h4 h5=>⟨vo,L,rfl,h2.Uo,h3,fun o=>(h4 o).trans (by simp[Vy,hv]),h1.trans (h5.mono h1.size)⟩
  have HR2:=Za (HR.out hv);clear HR;cases split
  ·show Calls Tryz.prog 62 _ _ _
   go_enter Tryz.func62,Tryz.ntmps62;go_wp2_with (first
    | (go_at_call 28;(with_reducible refine HV.out.mono ?_);rintro e w1 ⟨rfl,hb1⟩;have B1:=Za hb1;rw[hv];clear hb1)
    | (go_at_call 92;(with_reducible refine(HR2.out _ (HP.out.below B1.out)).mono ?_);rintro e w2 ⟨cn,vo,L,-,rfl,h2,h3,h4,h5⟩;have G:=Za (F.out w1 w2 vo L B1.out h2 h3 h4 h5);clear h2 h3 h4 h5))
   go_ret;exact G.out
  ·show Calls Tryz.prog 63 _ _ _
   go_enter Tryz.func63,Tryz.ntmps63;go_wp2_with (first
    | (go_at_call 28;(with_reducible refine HV.out.mono ?_);rintro e w1 ⟨rfl,hb1⟩;have B1:=Za hb1;rw[hv];clear hb1)
    | (go_at_call 92;(with_reducible refine(HR2.out _ (HP.out.below B1.out)).mono ?_);rintro e w2 ⟨cn,vo,L,-,rfl,h2,h3,h4,h5⟩;have G:=Za (F.out w1 w2 vo L B1.out h2 h3 h4 h5);clear h2 h3 h4 h5))
   go_ret;exact G.out
end Go.Proofs.YtngekjpklkjnbaaGreat
namespace Go.Proofs.YtngekjpklkjnbaaGreat
end Go.Proofs.YtngekjpklkjnbaaGreat
namespace Go.Proofs.YtngekjpklkjnbaaGreat
open Go.RowKit
def Uy (split:Bool):ByteArray:=if split then ⟨#[112,115,111]⟩ else ⟨#[116,115,111]⟩
theorem Jk (split:Bool) (vp:Value) (p:List (List Ins)) (w:World) (hp:Z5 w vp p) (hl:p.flatten.length≤1048576) (hpl:p.length≤1048576) :
 Calls Tryz.prog 30 #[vp,.string (Uy split)] w (QW (p.length * 3+3) (Vy split p) w):=by
 have H:=Za (AV split vp p w hp hl hpl);clear hp hl hpl;generalize p.length * 3+3=n at *;cases split
 ·have H:Hid (Calls Tryz.prog 62 #[vp] w (QW n (Vy false p) w)):=Za H.out
  show Calls Tryz.prog 30 #[vp,.string ⟨#[116,115,111]⟩] w _;have n0:((⟨#[116,115,111]⟩:ByteArray).toList==[115,101,113])=false:=Kr;have n1:((⟨#[116,115,111]⟩:ByteArray).toList==[116,115,111])=true:=Kr;go_enter Tryz.func30,Tryz.ntmps30;go_wp2_with (go_at_call 62;(with_reducible refine H.out.mono ?_);rintro e w1 ⟨⟨va,vn,vc⟩,L,rfl,h2,h3,h4,h5⟩;have F:Hid (QW n (Vy false p) w (.returned (.slice va vn vc)) w1):=Za ⟨⟨va,vn,vc⟩,L,rfl,h2,h3,h4,h5⟩;clear h2 h3 h4 h5);go_ret;exact F.out
 ·have H:Hid (Calls Tryz.prog 63 #[vp] w (QW n (Vy true p) w)):=Za H.out
  show Calls Tryz.prog 30 #[vp,.string ⟨#[112,115,111]⟩] w _;have n0:((⟨#[112,115,111]⟩:ByteArray).toList==[115,101,113])=false:=Kr;have n1:((⟨#[112,115,111]⟩:ByteArray).toList==[116,115,111])=false:=Kr;have n2:((⟨#[112,115,111]⟩:ByteArray).toList==[112,115,111])=true:=Kr;go_enter Tryz.func30,Tryz.ntmps30;go_wp2_with (go_at_call 63;(with_reducible refine H.out.mono ?_);rintro e w1 ⟨⟨va,vn,vc⟩,L,rfl,h2,h3,h4,h5⟩;have F:Hid (QW n (Vy true p) w (.returned (.slice va vn vc)) w1):=Za ⟨⟨va,vn,vc⟩,L,rfl,h2,h3,h4,h5⟩;clear h2 h3 h4 h5);go_ret;exact F.out
def BE (s:ByteArray):Bool:=(s.toList==[116,115,111])||(s.toList==[112,115,111])
theorem RY {s:ByteArray}{l:List UInt8}(h:(s.toList==l)=true):s=⟨l.toArray⟩:=by
 rw[ByteArray.toList_eq]at h;exact ByteArray.ext (Array.toList_inj.1 (by simpa using h))
theorem BF {s:ByteArray}(h:BE s=true):∃ split,s=Uy split:=by
 unfold BE at h;rw[Bool.or_eq_true]at h;rcases h with h | h
 ·exact⟨false,RY h⟩
 ·exact⟨true,RY h⟩
theorem FJ (split:Bool):BE (Uy split)=true:=by cases split <;> (unfold BE Uy;kernel_rfl)
theorem Ix:Uy false≠Uy true:=by
 intro h;have:=congrArg ByteArray.data h;simp[Uy]at this
theorem VV (s:ByteArray) (w:World):Calls Tryz.prog 35 #[.string s] w fun e w'=>e = .returned (.bool (BE s))∧w=w':=by
 have H:Hid (BE s=((s.toList==[116,115,111])||(s.toList==[112,115,111]))):=Za rfl;generalize BE s=R at *;cases h0:(s.toList==[116,115,111]) <;> cases h1:(s.toList==[112,115,111])
 all_goals
  rw[h0,h1]at H;go_enter Tryz.func35,Tryz.ntmps35;go_wp2_with fail;go_ret;rw[H.out];exact⟨rfl,rfl⟩
end Go.Proofs.YtngekjpklkjnbaaGreat
namespace Go.Proofs.YtngekjpklkjnbaaGreat
theorem F4 {r r':List Ins}(h:Fd r r'):UU r'=UU r:=by
 unfold UU
 induction h with
 | nil=>rfl
 | keep x h ih=>rw[List.filter_cons,List.filter_cons,ih]
 | drop x h4 h ih=>rw[List.filter_cons,ih];simp[GM,h4]
theorem Hw {r r':List Ins}(h:Fd r r'):r'.length≤r.length∧∀ x∈r',x∈r:=by
 induction h with
 | nil=>simp
 | keep x h ih =>
  refine⟨by simp only[List.length_cons];omega,fun y hy => ?_⟩;rcases List.mem_cons.1 hy with e | e
  ·simp[e]
  ·exact List.mem_cons_of_mem _ (ih.2 y e)
 | drop x h4 h ih=>exact⟨by simp only[List.length_cons];omega,fun y hy=>List.mem_cons_of_mem _ (ih.2 y hy)⟩
theorem CM {p q:List (List Ins)}(h:Hv p q):UW q=UW p:=by
 unfold UW;refine List.ext_getElem? fun t => ?_;rw[List.getElem?_map,List.getElem?_map];rcases Nat.lt_or_ge t p.length with ht | ht
 ·obtain⟨r,hr⟩:=Zd (xs:=p) (k:=t) ht
  obtain⟨r',hr'⟩:=Zd (xs:=q) (k:=t) (by rw[← h.1];exact ht);rw[hr,hr'];simp only[Option.map_some,Option.some.injEq];exact F4 (h.2 t r r' hr hr')
 ·rw[List.getElem?_eq_none ht,List.getElem?_eq_none (by rw[← h.1];exact ht)]
theorem Ju {p q:List (List Ins)}(h:Hv p q) (hv:Zi p=true):Zi q=true:=by
 have e:=CM h;have hc:Y1 Zq q=Y1 Zq p:=by rw[← JP Zq (fun x hx=>by simp[Zq,hx]) q,e,JP Zq (fun x hx=>by simp[Zq,hx])]
 have hpl:∀ l,pl q l=pl p l:=fun l=>by rw[← CF q,e,CF]
 unfold Zi ZS at hv ⊢;simp only[Bool.and_eq_true,List.all_eq_true,decide_eq_true_eq]at hv ⊢;obtain⟨⟨⟨⟨h1,h2⟩,h3⟩,h4⟩,h5⟩:=hv;refine⟨⟨⟨⟨by rw[← h.1];exact h1,fun r' hr' => ?_⟩,by rw[hc];exact h3⟩,by rw[← h.1];exact h4⟩,?_⟩
 ·obtain⟨t,ht,e2⟩:=List.mem_iff_getElem.1 hr'
  obtain⟨r,hr⟩:=Zd (xs:=p) (k:=t) (by rw[h.1];exact ht);have hf:=Hw (h.2 t r r' hr (by rw[← e2];exact List.getElem?_eq_getElem ht));have h6:=h2 r (List.mem_of_getElem? hr);unfold XF at h6 ⊢;simp only[Bool.and_eq_true,List.all_eq_true,decide_eq_true_eq]at h6 ⊢;exact⟨fun x hx=>h6.1 x (hf.2 x hx),Nat.le_trans hf.1 h6.2⟩
 ·unfold YP at h5 ⊢
  simp only[YB,hpl]at h5 ⊢;exact h5
def JC (p:List (List Ins)) (t i:Nat):List (List Ins):=p.set t ((p.getD t []).eraseIdx i)
theorem DT:∀ {r:List Ins}{i:Nat}{x:Ins},r[i]? = some x→x.op=4→Fd r (r.eraseIdx i):=by
 intro r
 induction r with
 | nil=>intro i x h;simp at h
 | cons y r ih =>
  intro i x h h4;cases i with
  | zero=>simp at h;subst h;exact .drop _ h4 (.refl r)
  | succ i=>rw[List.eraseIdx_cons_succ];exact .keep y (ih (by simpa using h) h4)
theorem Vj {p:List (List Ins)}{t i:Nat}{r:List Ins}{x:Ins}(hr:p[t]? = some r) (hx:r[i]? = some x) (h4:x.op=4):Hv p (JC p t i):=by
 unfold JC;refine⟨Sm,fun t' r1 r2 h1 h2 => ?_⟩;rw[List.getElem?_set]at h2;by_cases e:t=t'
 ·subst e
  rw[if_pos rfl]at h2;split at h2
  ·rw[hr]at h1
   simp only[Option.some.injEq]at h1 h2;subst h1;rw[← h2,List.getD_eq_getElem?_getD,hr];exact DT hx h4
  ·cases h2
 ·rw[if_neg e,h1]at h2
  simp only[Option.some.injEq]at h2;subst h2;exact .refl _
theorem Bv {p:List (List Ins)}{split:Bool}{t i:Nat}{r:List Ins}{x:Ins}(hr:p[t]? = some r) (hx:r[i]? = some x) (h4:x.op=4) (o:List Int) (h:Vy split p o):Vy split (JC p t i) o:=
 have hF:=Vj hr hx h4;have hv:=Ju hF h.1
 ⟨hv,RP (Z9 h.1) (Z9 hv) hF h.2⟩
open Classical in
noncomputable def CB (split:Bool) (p:List (List Ins)) (t i:Nat):Bool:=decide ((∃ x,(p.getD t [])[i]? = some x∧x.op=4)∧∀ o,Vy split (JC p t i) o→Vy split p o)
theorem GZ {split:Bool}{p:List (List Ins)}{t i:Nat}:CB split p t i=true↔(∃ x,(p.getD t [])[i]? = some x∧x.op=4)∧∀ o,Vy split (JC p t i) o→Vy split p o:=by
 unfold CB;simp only[decide_eq_true_eq]
def Kk (ok:Nat→Nat→Bool) (p:List (List Ins)):Option (Nat × Nat)→Prop
 | none => ∀ t,t < p.length→∀ i,i < (p.getD t []).length→ok t i=false
 | some (t,i)=>t < p.length∧i < (p.getD t []).length∧ok t i=true∧(∀ t',t' < t→∀ i',i' < (p.getD t' []).length→ok t' i'=false)∧∀ i',i' < i→ok t i'=false
theorem Kk.unique {ok:Nat→Nat→Bool}{p:List (List Ins)}:∀ {a b:Option (Nat × Nat)},Kk ok p a→Kk ok p b→a=b:=by
 intro a b ha hb;have no:∀ {x:Nat × Nat},Kk ok p none→Kk ok p (some x)→False:=fun {x} h k=>by
  obtain⟨t,i⟩:=x;obtain⟨k1,k2,k3,-,-⟩:=k;rw[h t k1 i k2]at k3;cases k3
 cases a with
 | none=>cases b with
  | none=>rfl
  | some y=>exact(no ha hb).elim
 | some x=>cases b with
  | none=>exact(no hb ha).elim
  | some y =>
   obtain⟨t,i⟩:=x;obtain⟨u,j⟩:=y;obtain⟨a1,a2,a3,a4,a5⟩:=ha;obtain⟨b1,b2,b3,b4,b5⟩:=hb;have ht:t=u:=by
    rcases Nat.lt_trichotomy t u with h | h | h
    ·have:=b4 t h i a2;rw[a3]at this;cases this
    ·exact h
    ·have:=a4 u h j b2;rw[b3]at this;cases this
   subst ht;have hi:i=j:=by
    rcases Nat.lt_trichotomy i j with h | h | h
    ·have:=b5 i h;rw[a3]at this;cases this
    ·exact h
    ·have:=a5 j h;rw[b3]at this;cases this
   rw[hi]
end Go.Proofs.YtngekjpklkjnbaaGreat
namespace Go.Proofs.YtngekjpklkjnbaaGreat
open Go.RowKit
noncomputable def IB (split:Bool) (p:List (List Ins)):Option (Nat × Nat):=Classical.epsilon (Kk (CB split p) p)
theorem Ru {split:Bool}{p:List (List Ins)}{r:Option (Nat × Nat)}(h:Kk (CB split p) p r):IB split p=r:=
 Kk.unique (Classical.epsilon_spec ⟨r,h⟩) h
noncomputable def Xj (s:ByteArray) (p:List (List Ins)):Option (Nat × Nat):=if Zi p=true∧BE s=true then IB (decide (s=Uy true)) p else none
theorem AY {p:List (List Ins)}(h:Zi p=false) (s:ByteArray):Xj s p=none:=by unfold Xj;rw[if_neg (by simp[h])]
theorem CK {s:ByteArray}(h:BE s=false) (p:List (List Ins)):Xj s p=none:=by unfold Xj;rw[if_neg (by simp[h])]
theorem Uu {split:Bool}{p:List (List Ins)}(h:Zi p=true):Xj (Uy split) p=IB split p:=by
 unfold Xj;rw[if_pos ⟨h,FJ split⟩];cases split
 ·rw[decide_eq_false Ix]
 ·rw[decide_eq_true rfl]
def Kn (r:Option (Nat × Nat)) (w:World) (e:Ending) (w':World):Prop:=
 e = .returned (.tuple #[.agg #[.int .i64 ((r.getD (0,0)).1:Int),.int .i64 ((r.getD (0,0)).2:Int)],.bool r.isSome])∧Below w.heap.size w w'
theorem CC {split:Bool}{p:List (List Ins)}{t j:Nat}{x:Ins}{M L:List (List Int)}(hx:(p.getD t [])[j]? = some x) (h4:x.op=4) (hM:∀ o,o∈M↔Vy split (JC p t j) o) (hL:∀ o,o∈L↔Vy split p o):CB split p t j=Ut M L:=by
 rw[Bool.eq_iff_iff,GZ,Fg];exact⟨fun h o ho=>(hL o).2 (h.2 o ((hM o).1 ho)),fun h=>⟨⟨x,hx,h4⟩,fun o ho=>(hL o).1 (h o ((hM o).2 ho))⟩⟩
theorem ED {split:Bool}{p:List (List Ins)}{t j:Nat}{x:Ins}(hx:(p.getD t [])[j]? = some x) (h4:x.op≠4):CB split p t j=false:=by
 cases h:CB split p t j with
 | false=>rfl
 | true =>
  obtain⟨⟨y,hy,h⟩,-⟩:=GZ.1 h;rw[hx]at hy;cases hy;exact absurd h h4
theorem QK {p:List (List Ins)}(h:Zi p=true):p.flatten.length≤1048576:=by
 have h1:=Yk p 7 (fun r hr=>((Z4 h).2.2.1 r hr).1);have:=(Z4 h).1;omega
theorem Qw {p:List (List Ins)}{t:Nat}{x:List Ins}(h:p[t]? = some x):p.getD t []=x:=by rw[List.getD_eq_getElem?_getD,h];rfl
theorem Uj {ok:Nat→Nat→Bool}{p:List (List Ins)}{t:Nat}{x:List Ins}(hx:p[t]? = some x) (h:∀ t',t' < t→∀ i',i' < (p.getD t' []).length→ok t' i'=false) (h2:∀ i',i' < x.length→ok t i'=false):∀ t',t' < t+1→∀ i',i' < (p.getD t' []).length→ok t' i'=false:=by
 intro t' ht i' hi;rcases Nat.lt_or_ge t' t with h3 | h3
 ·exact h t' h3 i' hi
 ·obtain rfl:t'=t:=Om
  rw[Qw hx]at hi;exact h2 i' hi
theorem QA {ok:Nat→Nat→Bool}{t j:Nat}(h:∀ i',i' < j→ok t i'=false) (h2:ok t j=false):∀ i',i' < j+1→ok t i'=false:=by
 intro i' hi;rcases Nat.lt_or_ge i' j with h3 | h3
 ·exact h i' h3
 ·obtain rfl:i'=j:=Om
  exact h2
theorem Qr (vp:Value) (p:List (List Ins)) (s:ByteArray) (w:World) (hp:Z5 w vp p) (hl:p.flatten.length≤1048576) :
 Calls Tryz.prog 11 #[vp,.string s] w (Kn (Xj s p) w):=by
 obtain⟨pa,pc,rfl,hc1,hc2,hc3,hpp⟩:=hp.open;have HP00:=Za hp;clear hpp hp;obtain⟨w0,hw0⟩:∃ w0,w0=w.alloc (.cells #[.int .i64 0,.int .i64 0] 25):=⟨_,rfl⟩
 have hB0:Below w.heap.size w w0:=by rw[hw0];exact(Below.refl _ _).alloc (Nat.le_refl _) _
 have hA0:w0.heap[w.heap.size]? = some (.cells #[.int .i64 0,.int .i64 0] 25 (0,0)):=by rw[hw0];exact heap_alloc_new w _
 have hs0:w.heap.size < w0.heap.size:=by rw[hw0];simp
 have B0:=Za hB0;have A0:=Za hA0;have S0:=Za hs0
 have HP0:=Za (HP00.out.below hB0);have HV:=Za (fun W (h:Z5 W (.slice pa p.length pc) p)=>Qq _ p W h hl);have HIB:=Za (VV s)
 -- what lies in the result's cell, in a world in which all below is as it was
 have RC:Hid (∀ W,Below w0.heap.size w0 W→W.cell? ⟨w.heap.size,0,none⟩=some (.int .i64 0)∧W.cell? ⟨w.heap.size,1,none⟩=some (.int .i64 0)∧W.frozen? ⟨w.heap.size,0,none⟩=false∧W.frozen? ⟨w.heap.size,1,none⟩=false):=Za fun W h=>by
  have hb:=(h.block w.heap.size S0.out).trans A0.out;exact⟨Zc hb (k:=0) rfl,Zc hb (k:=1) rfl,by simp[World.frozen?,hb],by simp[World.frozen?,hb]⟩
 have NO:Hid (Xj s p=none→∀ W,Below w.heap.size w W→Kn (Xj s p) w (.returned (.tuple #[.agg #[.int .i64 0,.int .i64 0],.bool false])) W):=Za fun h W hW=>⟨by rw[h];rfl,hW⟩
 clear hB0 hA0 hs0;cases hv:Zi p
 ·have NO:=Za (NO.out (AY hv s))
  clear hl;generalize Xj s p=R at *;go_enter Tryz.func11,Tryz.ntmps11;go_wp2_with (rw[← hw0];go_at_call 34;(with_reducible refine(HV.out _ HP0.out).mono ?_);rintro e w1 ⟨rfl,hb1⟩;obtain⟨q0,q1,z0,z1⟩:=RC.out w1 hb1;have B1:=Za hb1;rw[hv];clear hb1);refine bodyPost_ret (v:=.tuple #[.agg #[.int .i64 0,.int .i64 0],.bool false]) (by simp[results,Tryz.results11,go_sem,q0,q1]) rfl (NO.out _ ?_);exact((B0.out.trans (B1.out.mono (Nat.le_of_lt S0.out))).setCell (Nat.le_refl _) _).setCell (Nat.le_refl _) _
 ·cases hib:BE s
  ·have NO:=Za (NO.out (CK hib p))
   clear hl;rw[hib]at HIB;generalize Xj s p=R at *;go_enter Tryz.func11,Tryz.ntmps11;go_wp2_with (first
    | (rw[← hw0];go_at_call 34;(with_reducible refine(HV.out _ HP0.out).mono ?_);rintro e w1 ⟨rfl,hb1⟩;obtain⟨q0,q1,z0,z1⟩:=RC.out w1 hb1;have B1:=Za hb1;rw[hv];clear hb1)
    | (go_at_call 35;(with_reducible refine(HIB.out _).mono ?_);rintro e w2 ⟨rfl,rfl⟩))
   refine bodyPost_ret (v:=.tuple #[.agg #[.int .i64 0,.int .i64 0],.bool false]) (by simp[results,Tryz.results11,go_sem,q0,q1]) rfl (NO.out _ ?_);exact((B0.out.trans (B1.out.mono (Nat.le_of_lt S0.out))).setCell (Nat.le_refl _) _).setCell (Nat.le_refl _) _
  ·obtain⟨split,rfl⟩:=BF hib
   rw[hib]at HIB;obtain⟨hn3,-,hr7,-,-⟩:=Z4 hv;have HMO:=Za (fun W v q (h:Z5 W v q) (hq:q.flatten.length≤1048576)=>show Calls Tryz.prog 22 #[v,.string (Uy split)] W (YE (q.length * 3+3) (Vy split q) W) from YQ split v q W h hq);have HCL:=Za (fun W (h:Z5 W (.slice pa p.length pc) p)=>Kq _ p W h Om (Kb hv));have HUE:Hid (∀ r,Kk (CB split p) p r→Xj (Uy split) p=r):=Za fun r h=>(Uu hv).trans (Ru h);have HR7:=Za hr7;have HQ:Hid (∀ t j x y,p[t]? = some x→x[j]? = some y→y.op=4→(p.set t (x.eraseIdx j)).flatten.length≤1048576∧JC p t j=p.set t (x.eraseIdx j)):=Za fun t j x y hx hy h4=>by
    have e:JC p t j=p.set t (x.eraseIdx j):=by unfold JC;rw[Qw hx]
    exact⟨by rw[← e];exact QK (Ju (Vj hx hy h4) hv),e⟩
   generalize Xj (Uy split) p=R at *;generalize Uy split=nm at *;generalize hn:p.length=n at *;have H:=Za hn;clear hn hr7 NO;go_enter Tryz.func11,Tryz.ntmps11;go_wp2_with (first
    | (rw[← hw0];go_at_call 34;(with_reducible refine(HV.out _ HP0.out).mono ?_);rintro e w1 ⟨rfl,hb1⟩;have B1:=Za hb1;rw[hv];clear hb1)
    | (go_at_call 35;(with_reducible refine(HIB.out _).mono ?_);rintro e w2 ⟨rfl,rfl⟩))
   (with_reducible refine(HMO.out w1 _ p (HP0.out.below B1.out) hl).mono ?_);rintro e w2 ⟨vL,L,rfl,hu2,-,hL,hb2⟩
   have B2:=Za (B1.out.trans (hb2.mono B1.out.size));have HU2:=Za hu2.rep;have HL:=Za hL
   have HP2:=Za (HP0.out.below B2.out);clear hb2 hu2 hL;go_wp2_with fail;have RC2:Hid (∀ W,Below w2.heap.size w2 W→W.cell? ⟨w.heap.size,0,none⟩=some (.int .i64 0)∧W.cell? ⟨w.heap.size,1,none⟩=some (.int .i64 0)∧W.frozen? ⟨w.heap.size,0,none⟩=false∧W.frozen? ⟨w.heap.size,1,none⟩=false∧w.heap.size < W.heap.size):=Za fun W h=>by
    have hb:=B2.out.trans (h.mono B2.out.size);obtain⟨a1,a2,a3,a4⟩:=RC.out W hb;exact⟨a1,a2,a3,a4,Nat.lt_of_lt_of_le S0.out hb.size⟩
   have BW2:Hid (∀ W,Below w2.heap.size w2 W→Below w.heap.size w W):=Za fun W h=>B0.out.trans ((B2.out.trans (h.mono B2.out.size)).mono (Nat.le_of_lt S0.out));clear RC B1 HP0 HP00 HV HIB
   go_loopw [26] (fun i wr => ∃ t:Nat,t≤n∧i = .int .i64 t∧Hid (∀ t',t' < t→∀ i',i' < (p.getD t' []).length→CB split p t' i'=false)∧Below w2.heap.size w2 wr) (fun i _=>n - (intOf i).toNat)
   case atStart=>exact⟨0,Nat.zero_le _,rfl,Za (fun t' h=>absurd h (Nat.not_lt_zero _)),Below.refl _ _⟩
   case round =>
    obtain⟨t,ht,rfl,HNO,hb⟩:=hrel;by_cases hlt:t < n
    ·obtain⟨x,hxk⟩:=Zd (xs:=p) (k:=t) (by rw[H.out];exact hlt)
     obtain⟨a',c',he,-,-,-,hrows⟩:=(HP2.out.below hb).open;simp only[Value.slice.injEq]at he;obtain⟨rfl,-,rfl⟩:=he;obtain⟨b,o,ra,rc,rfl,hbl,i0,i1⟩:=hrows.row hxk;clear hrows;have hlt':=Zh hlt;have I1:=Za i1;have X:=Za hxk
     have hx7:=HR7.out x (List.mem_of_getElem? hxk);have hgx:=Qw hxk;have GX:=Za hgx;clear i1 hgx;generalize hxn:x.length=xn at *;have HXN:=Za hxn;clear hxn hxk;obtain⟨wm,rfl⟩:∃ wm:World,wm=wr:=⟨_,rfl⟩
     have HBM:=Za hb;clear hb;go_wp2_with fail
     go_loopw [33] (fun i wr => ∃ j:Nat,j≤xn∧i = .int .i64 j∧Hid (∀ i',i' < j→CB split p t i'=false)∧Below wm.heap.size wm wr) (fun i _=>xn - (intOf i).toNat)
     case atStart=>exact⟨0,Nat.zero_le _,rfl,Za (fun t' h=>absurd h (Nat.not_lt_zero _)),Below.refl _ _⟩
     case round =>
      obtain⟨j,hj,rfl,HNI,hb⟩:=hrel;by_cases hltj:j < xn
      ·obtain⟨y,hyk⟩:=Zd (xs:=x) (k:=j) (by rw[HXN.out];exact hltj)
       obtain⟨b',o',rfl,hbl',j0,j1,j2,j3⟩:=(I1.out.below hb).ins hyk;have hltj':=Zh hltj;by_cases h4:y.op=4
       ·have g4:(y.op != 4)=false:=by simp[h4]
        have HQ2:=Za (HQ.out t j x y X.out hyk h4);have HYK:=Za hyk;obtain⟨V,hV⟩:∃ V,V=wr.alloc (.cells #[.int .i64 4,.int .i64 y.loc,.int .i64 y.ZQ,.int .i64 y.val] 44):=⟨_,rfl⟩
        have HV2:=Za hV;have BV:=Za (show Below wm.heap.size wm V by rw[hV];exact hb.alloc hb.size _);have BV2:=Za (HBM.out.trans (BV.out.mono HBM.out.size));clear hV hyk hb;go_wp2_with fail;rw[← HV2.out];clear HV2
        (with_reducible refine(HCL.out V (HP2.out.below BV2.out)).mono ?_);rintro e w3 ⟨u,rfl,hu,hb3⟩
        obtain⟨us,hU,-⟩:=hu.told;have hul:=hU.1;rcases hU.2.1.shape with⟨-,h0⟩ | ⟨g,cap,rfl,hg1,hg2,hcc1,hcc2⟩
        ·exfalso;rw[h0,H.out]at hul;simp at hul;omega
        have hln:us.length=n:=hul.trans H.out;rw[hln]at hU hcc1 ⊢;obtain⟨⟨sa,sn,sc⟩,hs,hgl,f0,hrow,-⟩:=hU.row X.out;have hrn:sn=xn:=hrow.len.trans HXN.out;subst hrn;rcases hrow.shape with⟨-,h0⟩ | ⟨g',c',h0,hg1',hg2',hcc1',hcc2'⟩
        ·exfalso;have:=HYK.out;rw[h0]at this;simp at this
        have h0:Value.slice sa sn sc=Value.slice (some ⟨g',0,none⟩) x.length c':=h0;simp only[Value.slice.injEq]at h0;obtain⟨rfl,-,rfl⟩:=h0;have hfrz:=hU.2.1.frozen t;have hgne:some g≠(Value.slice (some ⟨g',0,none⟩) sn sc).ownBlock:=fun e=>QE Dc hU.2.1 hrow g e.symm rfl;have HU:=Za hU;have HS:=Za hs;have RW:=Za hrow;have HGN:=Za hgne;have HLO:=Za hrow.lo;have HG1:=Za hg1
        have C3:=Za (BV.out.trans (hb3.mono BV.out.size));have hw3:=hb3.size;clear hu hU hs hrow hgne hb3 hul hln hcc2 hcc2' hg1 hg2;have f1:w3.cell? ⟨g,t,none⟩=some (.slice (some ⟨g',0,none⟩) sn sc):=f0;clear f0;go_wp2_with fail;rw[HXN.out]
        (with_reducible refine(Bh g' sn sc x j w3 V.heap.size RW.out Om hltj).mono ?_);rintro e w4 ⟨v',rfl,ho4,hgr,hbk⟩
        obtain⟨s',rfl,-⟩:=ho4.YL;have f2:=hgr.cell f1 HGN.out;have hfr2:w4.frozen? ⟨g,t,none⟩=false:=(World.frozen?_of_block (w:=w3) (hgr.block g hgl HGN.out)).trans hfrz;have hgl4:g < w4.heap.size:=Zb f2;have hput:=HU.out.ES HS.out ho4 hgr hbk;obtain⟨W5,hW5⟩:∃ W5,W5=w4.setCell ⟨g,t,none⟩ s'.v:=⟨_,rfl⟩
        have hput2:=hput;rw[← hW5]at hput2;have HPUT:=Za hput2.own.rep;have C5:=Za (show Below wm.heap.size wm W5 by rw[hW5];exact(C3.out.grown hgr C3.out.size (fun k hk=>Nat.le_trans BV.out.size (HLO.out k hk).1)).setCell (Nat.le_trans BV.out.size HG1.out) _);have HW5:=Za hW5;clear hput hput2 hbk f1 hW5 hgr ho4;go_wp2_with fail;rw[show w4.setCell ⟨g,t,none⟩ s'.v=W5 from HW5.out.symm]
        (with_reducible refine(HMO.out W5 _ _ HPUT.out HQ2.out.1).mono ?_);rintro e w6 ⟨vM,M,rfl,hu6,-,hM,hb6⟩
        have C6:=Za (C5.out.trans (hb6.mono C5.out.size));have BW6:=Za (HBM.out.trans (C6.out.mono HBM.out.size));have HUM:=Za hu6.rep;have HOK:=Za (CC (split:=split) (p:=p) (M:=M) (L:=L) (by rw[GX.out];exact HYK.out) h4 (fun o=>by rw[HQ2.out.2];exact hM o) HL.out);clear hu6 hM hb6;go_wp2_with fail
        (with_reducible refine(GF vM vL M L w6 HUM.out (HU2.out.below BW6.out)).mono ?_);rintro e w7 ⟨rfl,hb7⟩
        have C7:=Za (C6.out.trans (hb7.mono C6.out.size));have BW7:=Za (HBM.out.trans (C7.out.mono HBM.out.size));clear hb7;cases hsub:Ut M L
        ·have HNI2:=Za (QA HNI.out (HOK.out.trans hsub))
         go_wp2_with fail;go_roundw
         case rel=>exact⟨j+1,Om,Gn,HNI2,C7.out⟩
         case measure=>simp[intOf];omega
        ·obtain⟨q0,q1,z0,z1,hsz⟩:=RC2.out w7 BW7.out
         have HR:=HUE.out (some (t,j)) ⟨by rw[H.out];exact hlt,by rw[GX.out,HXN.out];exact hltj,HOK.out.trans hsub,HNO.out,HNI.out⟩;go_wp2_with fail;refine bodyPost_ret (v:=.tuple #[.agg #[.int .i64 (t:Int),.int .i64 (j:Int)],.bool true]) (by simp[results,Tryz.results11,go_sem,q0,q1]) rfl ⟨by rw[HR];rfl,?_⟩;exact((BW2.out w7 BW7.out).setCell (Nat.le_refl _) _).setCell (Nat.le_refl _) _
       ·have g4:(y.op != 4)=true:=by simp[h4]
        have HNI2:=Za (QA HNI.out (ED (by rw[GX.out];exact hyk) h4));go_wp2_with fail;go_roundw
        case rel=>exact⟨j+1,Om,Gn,HNI2,hb.alloc hb.size _⟩
        case measure=>simp[intOf];omega
      ·have hj2:j=xn:=Om
       subst hj2;have HNO2:=Za (Uj X.out HNO.out (fun i' hi=>HNI.out i' (by rw[← HXN.out];exact hi)));go_wp2_with fail;go_roundw
       case rel=>exact⟨t+1,Om,Gn,HNO2,HBM.out.trans (hb.mono HBM.out.size)⟩
       case measure=>simp[intOf];omega
    ·have ht2:t=n:=Om
     subst ht2;obtain⟨q0,q1,z0,z1,hsz⟩:=RC2.out wr hb;have HR:=HUE.out none (fun t' h i' hi=>HNO.out t' (by rw[← H.out];exact h) i' hi);go_wp2_with fail;refine bodyPost_ret (v:=.tuple #[.agg #[.int .i64 0,.int .i64 0],.bool false]) (by simp[results,Tryz.results11,go_sem,q0,q1]) rfl ⟨by rw[HR];rfl,?_⟩;exact((BW2.out wr hb).setCell (Nat.le_refl _) _).setCell (Nat.le_refl _) _
theorem Uc (s:ByteArray) (w:World):Calls Tryz.prog 29 #[.string s] w fun e w'=>e = .returned (.bool (BE s))∧w=w':=by
 have H:Hid (BE s=((s.toList==[116,115,111])||(s.toList==[112,115,111]))):=Za rfl;generalize BE s=R at *;cases h0:(s.toList==[116,115,111]) <;> cases h1:(s.toList==[112,115,111])
 all_goals
  rw[h0,h1]at H;go_enter Tryz.func29,Tryz.ntmps29;go_wp2_with fail;go_ret;rw[H.out];exact⟨rfl,rfl⟩
end Go.Proofs.YtngekjpklkjnbaaGreat