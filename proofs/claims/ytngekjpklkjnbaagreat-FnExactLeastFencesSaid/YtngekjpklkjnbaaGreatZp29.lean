/-
  The program's least fences. Condition: a bound on the number of instructions.
-/
import Derived.Test.YtngekjpklkjnbaaGreatZp28
import Derived.Test.YtngekjpklkjnbaaGreatZp26
import Derived.Test.YtngekjpklkjnbaaGreatZp25
import Derived.Test.YtngekjpklkjnbaaGreatZp27
import Derived.Test.YtngekjpklkjnbaaGreatZp17
import Derived.Test.YtngekjpklkjnbaaGreatZp23
import Derived.Test.YtngekjpklkjnbaaGreatZp16
set_option maxHeartbeats 6400000
set_option maxRecDepth 100000
namespace Go.Proofs.YtngekjpklkjnbaaGreat
open Go.RowKit
theorem Ds {s s':Bf}{split:Bool}{t:Nat}{k:Int}{x:Ins}(ho:x.op=5∨x.op=4) (h:Qa s split t k x=some s'):s'=⟨ZN s.q t k x,s.bf⟩:=by
 unfold Qa at h;rw[if_pos Om]at h;split at h
 ·simp only[Option.some.injEq]at h;exact h.symm
 ·cases h
theorem Fo {s s':Bf}{split:Bool}{t:Nat}{k:Int}{x:Ins}(ho:x.op=1) (h:Qa s split t k x=some s'):s'=⟨⟨s.q.pc.set t (k+1),s.q.rg.set (t * 3+x.Ya.toNat) (Y4 s t x.loc split),s.q.mm⟩,s.bf⟩:=by
 unfold Qa at h;rw[if_neg Om,if_pos ho]at h;simp only[Option.some.injEq]at h;exact h.symm
theorem Ij {s s':Bf}{split:Bool}{t:Nat}{k:Int}{x:Ins}(ho:x.op=2∨x.op=3) (h:Qa s split t k x=some s'):s'=⟨⟨s.q.pc.set t (k+1),s.q.rg,s.q.mm⟩,s.bf.set (Zj t x.loc split) (s.bf.getD (Zj t x.loc split) []++[(x.loc,Yb s.q t x)])⟩:=by
 unfold Qa at h;rw[if_neg Om,if_neg Om]at h;simp only[Option.some.injEq]at h;exact h.symm
theorem Ua (l:List (List (Int × Int))) (q:Nat) (row:List (Int × Int)):(l.set q row).map ZX=(l.map ZX).set q (ZX row):=by rw[List.map_set]
theorem Eo (vp:Value) (p:List (List Ins)) (x:SV) (s s':Bf) (split:Bool) (m:Nat) (w:World) (hp:Z9 w vp p) (hx:ZE w x (Qb s)) (hok:ZT p split s) (hpl:p.length≤3) (hpr:∀ r∈p,r.length≤7) (hlen:∀ r∈s.bf,r.length≤42) (hiv:∀ r∈p,∀ i∈r,Zi i=true) (hn:Zy p split s m=some s') :
 Calls Tryz.prog 120 #[vp,.agg #[.slice x.p.a x.p.n x.p.cap,.slice x.r.a x.r.n x.r.cap,.slice x.m.a x.m.n x.m.cap,.slice x.b.a x.b.n x.b.cap],.bool split,.int .i64 (m:Int)] w (XG w (Qb s')):=by
 have hlb9:s.bf.length≤9:=by
  rw[hok.lb];have:Yw split≤3:=by cases split <;> simp[Yw]
  have:=Nat.mul_le_mul hpl this;omega
 have b1:(Qb s).pc.length≤1000:=by show s.q.pc.length≤1000;have:=hok.q.lp;omega
 have b2:(Qb s).rg.length=(Qb s).pc.length * 3:=by show s.q.rg.length=s.q.pc.length * 3;rw[hok.q.lr,hok.q.lp]
 have b3:(Qb s).mm.length=3:=hok.q.lm;have b4:(Qb s).bf.length≤100:=So;have b5:∀ o∈(Qb s).bf,o.length≤1000:=fun o ho=>by
  obtain⟨r,hr,rfl⟩:=List.mem_map.1 ho;rw[Qe];have:=hlen r hr;omega
 by_cases hm:m < p.length
 ·obtain⟨r,k,i,hr,hk,hi,hd⟩:=YD hn hm
  have hk0:=(hok.q.pc m k r hk hr).1;obtain⟨kn,rfl⟩:∃ kn:Nat,k=kn:=⟨k.toNat,Om⟩
  rw[Int.toNat_natCast]at hi;have hv:=hiv r (List.mem_of_getElem? hr) i (List.mem_of_getElem? hi);have hrl:r.length≤1000:=by have:=hpr r (List.mem_of_getElem? hr);omega
  obtain⟨⟨l0,l2⟩,⟨g0,g2⟩,-,-⟩:=UR hv;have hop:i.op=1∨(i.op=2∨i.op=3)∨(i.op=5∨i.op=4):=by
   have:=(Us hv).1;omega
  obtain⟨op,lz,rz,val⟩:=i;simp only at l0 l2 g0 g2 hop;obtain⟨lc,rfl⟩:∃ lc:Nat,lz=lc:=⟨lz.toNat,Om⟩
  obtain⟨rc,rfl⟩:∃ rc:Nat,rz=rc:=⟨rz.toNat,Om⟩
  rcases hop with ho | ho | ho
  ·have e:=Fo ho hd
   have:=OS vp p x (Qb s) m kn lc rc op val r w hp hx hk hr hi split ho (Y4 s m (lc:Int) split) (fun W hW=>FI x p split s m lc W hW hok hm hpl Om (fun r hr=>by have:=hlen r hr;omega)) Om Om Om b1 b2 b3 b4 b5 hrl;rw[e];simp only[Int.toNat_natCast];exact this
  ·have e:=Ij ho hd
   have hqs:Zj m (lc:Int) split < s.bf.length:=by rw[hok.lb];exact XU hm Om
   obtain⟨row,hrow⟩:=Zd (xs:=s.bf) (k:=Zj m (lc:Int) split) hqs;have:=OV vp p x (Qb s) m kn lc rc op val r w hp hx hk hr hi split ho (Zj m (lc:Int) split) (ZX row) _ (JG hrow) (fun W=>UU m lc split W Om Om) rfl Om Om Om b1 b2 b3 b4 b5 hrl;rw[e];have e2:Qb ⟨⟨s.q.pc.set m ((kn:Int)+1),s.q.rg,s.q.mm⟩,s.bf.set (Zj m (lc:Int) split) (s.bf.getD (Zj m (lc:Int) split) []++[((lc:Int),Yb s.q m ⟨op,(lc:Int),(rc:Int),val⟩)])⟩=⟨(Qb s).pc.set m ((kn:Int)+1),(Qb s).rg,(Qb s).mm,(Qb s).bf.set (Zj m (lc:Int) split) (ZX row++[(lc:Int),Yb (Qb s).q m ⟨op,(lc:Int),(rc:Int),val⟩])⟩:=by
    unfold Qb;rw[Ua,List.getD_eq_getElem?_getD,hrow,Option.getD_some,Iy];rfl
   rw[e2];exact this
  ·have e:=Ds ho hd
   have:=OT vp p x (Qb s) m kn lc rc op val r w hp hx hk hr hi split ho (Qb s') (fun W hW hX=>by
    have h9:=Rw vp p x (Qb s) m kn ⟨op,(lc:Int),(rc:Int),val⟩ r W hW hX hk hr hi hv Om b1 b2 b3 b4 b5 hrl;rw[e];exact h9) Om Om Om b1 b2 b3 b4 b5 hrl
   exact this
 ·obtain⟨l,v,rest,hb,rfl⟩:=Y9 hn hm
  have hen:=hok.en _ (List.mem_of_getElem? hb) (l,v) Sm;unfold YP at hen;simp only at hen;obtain⟨ln,rfl⟩:∃ ln:Nat,l=ln:=⟨l.toNat,Om⟩
  have h9:=OR vp p x (Qb s) m (m - p.length) ln v (ZX rest) split w hp hx Om (by have:=JG hb;simpa[ZX] using this) Om b1 (by rw[b2];have:=hok.q.lp;show s.q.pc.length * 3≤1000;omega) b3 b4 b5;have e2:Qb ⟨⟨s.q.pc,s.q.rg,s.q.mm.set ((ln:Int).toNat) v⟩,s.bf.set (m - p.length) rest⟩=⟨(Qb s).pc,(Qb s).rg,(Qb s).mm.set ln v,(Qb s).bf.set (m - p.length) (ZX rest)⟩:=by
   unfold Qb;rw[Ua,Int.toNat_natCast]
  rw[e2];exact h9
structure Pt (n:Nat) (og L:List (List Int)):Prop where
 ok:Xr n L
 mem:∀ o,o∈L↔o∈og
 le:L.length≤og.length
theorem Pt.nil (n:Nat):Pt n [] []:=⟨⟨fun o h=>by simp at h,.nil⟩,fun o=>Iff.rfl,Nat.le_refl _⟩
theorem Pt.put {n:Nat}{og L:List (List Int)}{o:List Int}(h:Pt n og L) (ho:o.length=n):Pt n (og++[o]) (Xv o L):=
 ⟨H7 ho h.ok,fun y=>by rw[Uf ho h.ok.len,h.mem,List.mem_append,List.mem_singleton];exact Or.comm,by have h1:=H4 (o:=o) L;have h2:=h.le;simp only[List.length_append,List.length_singleton];omega⟩
structure Oa {S:Type}(key:S→ByteArray) (ks:List ByteArray) (l:List S):Prop where
 len:ks.length=l.length
 mem:∀ k,k∈ks↔k∈l.map key
theorem Oa.pop {S:Type}{key:S→ByteArray}{ks:List ByteArray}{init taken:List S}{s:S}(h:Oa key ks (taken++(init++[s]))):Oa key ks ((s :: taken)++(init++[])):=
 ⟨by rw[h.len];simp only[List.length_append,List.length_cons,List.length_nil];omega,fun k=>(h.mem k).trans (Kx key)⟩
theorem Oa.push {S:Type}{key:S→ByteArray}{ks:List ByteArray}{l init new:List S}(t:S) (h:Oa key ks (l++(init++new))):Oa key (ks++[key t]) (l++(init++(new++[t]))):=
 ⟨by simp only[List.length_append,List.length_singleton,h.len];omega,fun k=>by
  rw[List.mem_append,h.mem k];simp only[List.map_append,List.mem_append,List.map_cons,List.map_nil,List.mem_cons,List.not_mem_nil,or_false,or_assoc]⟩
theorem AJ {p:List (List Ins)}{split:Bool}{s:Bf}(h:ZT p split s):(YA s).length=p.length * 3+3∧∀ x∈YA s,0≤x∧x≤3:=by
 refine⟨XX h.q,fun x hx => ?_⟩;rcases List.mem_append.1 hx with g | g
 ·exact h.q.rg x g
 ·exact h.q.mm x g
abbrev Hn (p:List (List Ins)) (split:Bool) (s:Bf):Prop:=Zt (Zr p split) (Zy p split) s
abbrev PX (p:List (List Ins)) (split:Bool):=PI (Cz p split) (Ki p split) (Y3 p) YA 12 42 (Y8 p) (Zr p split)
abbrev Se (p:List (List Ins)) (split:Bool):=As (Cz p split) (Ki p split) (Y3 p) YA 12 42 (Y8 p) (Zr p split)
theorem PX.SA {p:List (List Ins)}{split:Bool}{work taken:List Bf}{og:List (List Int)}(hv:Zg p=true) (h:PX p split work taken og):∀ s∈taken++work,Hn p split s:=fun s hs=>(XI hv s).1 (h.rc s hs)
theorem LD {p:List (List Ins)}{split:Bool}(hv:Zg p=true):∀ l:List Bf,l.Nodup→(∀ s∈l,Zt (Zr p split) (Kf (Cz p split) (Ki p split)) s∧Y3 p s=true)→l.length≤16777216:=by
 intro l hn hl;have hok:∀ s∈l,ZT p split s:=fun s hs=>ZT.reach (ZB hv) ((XI hv s).1 (hl s hs).1);have hpl:=(Zv hv).1;have h1:=Re (out:=YA) (n:=p.length * 3+3) hn (fun s hs=>AJ (hok s hs)) fun a ha b hb e=>GN (hok a ha) (hok b hb) (hl a ha).2 (hl b hb).2 e;refine Nat.le_trans h1 ?_;have:4 ^ (p.length * 3+3)≤4 ^ 12:=Nat.pow_le_pow_right Dc Om;exact Nat.le_trans this Dc
def Ow (n:Nat) (φ:List Int→Prop) (w:World) (e:Ending) (w':World):Prop:=∃ (cn:Nat) (vo:Zs) (L:List (List Int)),cn≤8796093022000∧e = .returned (.agg #[.int .i64 (cn:Int),.slice vo.a vo.n vo.cap])∧Qo LS w.heap.size w' w.heap.size vo.v L∧Xr n L∧(∀ o,o∈L↔φ o)∧Below w.heap.size w w'
structure SE (p:List (List Ins)) (split:Bool) (w:World) (O:Nat) (vt:Value) (gk:Nat) (v:Value) (work taken:List Bf) (og L:List (List Int)) (ks:List ByteArray) (vo:Zs) (g cap:Nat) (wr:World):Prop where
 hv:v = .slice (some ⟨g,0,none⟩) work.length cap
 ms:Vb 13 (Y8 p) work=gk
 pi:PX p split work taken og
 se:J0 w.heap.size w.heap.size O vt v (work.map Qb) ks taken.length vo L wr
 ke:Oa Ee ks (taken++work)
 ro:Pt (p.length * 3+3) og L
 bl:Below w.heap.size w wr
def Hl (p:List (List Ins)) (split:Bool) (w:World) (O:Nat) (vt:Value) (gk:Nat) (v:Value) (wr:World):Prop:=∃ work taken og L ks vo g cap,SE p split w O vt gk v work taken og L ks vo g cap wr
structure SD (p:List (List Ins)) (split:Bool) (w:World) (O S:Nat) (vt:Value) (x:SV) (s:Bf) (init taken:List Bf) (og L:List (List Int)) (vo:Zs) (k:Nat) (v:Value) (new:List Bf) (ks:List ByteArray) (g cap:Nat) (wr:World):Prop where
 hv:v = .slice (some ⟨g,0,none⟩) (init++new).length cap
 pm:Se p split s (Kj p split s k) init new taken og
 se:J0 w.heap.size w.heap.size O vt v ((init++new).map Qb) ks (taken.length+1) vo L wr
 ke:Oa Ee ks ((s :: taken)++(init++new))
 sx:wr.heap[S]? = some (.cells #[.slice x.p.a x.p.n x.p.cap,.slice x.r.a x.r.n x.r.cap,.slice x.m.a x.m.n x.m.cap,.slice x.b.a x.b.n x.b.cap] 141 (0,0))
 gS:g≠S
 lx:Yu LS w.heap.size wr (fun W=>ZE W x (Qb s))
 bl:Below w.heap.size w wr
def Bv (p:List (List Ins)) (split:Bool) (w:World) (O S:Nat) (vt:Value) (x:SV) (s:Bf) (init taken:List Bf) (og L:List (List Int)) (vo:Zs) (k:Nat) (v:Value) (wr:World):Prop:=∃ new ks g cap,SD p split w O S vt x s init taken og L vo k v new ks g cap wr
theorem I7 (vp:Value) (p:List (List Ins)) (split:Bool) (w:World) (hp:Z9 w vp p) (hv:Zg p=true) :
 Calls Tryz.prog 92 #[vp,.bool split] w (Ow (p.length * 3+3) (fun o => ∃ s,Hn p split s∧Y3 p s=true∧YA s=o) w):=by
 obtain⟨va,vc,rfl,hc1,hc2,hc3,hp⟩:=hp.open;have HP:=Za hp;have HV:=Za hv
 have hpl:p.length≤3:=(Zv hv).1;have hpr:∀ r∈p,r.length≤7:=fun r hr=>((Zv hv).2.2.1 r hr).1;have HPR:=Za hpr;have HIV:=Za (ZB hv);have HFEW:=Za (LD (split:=split) hv);have hs00:Hid (∀ w',Calls Tryz.prog 117 #[.slice va p.length vc,.bool split] w' (XG w' (Qb (Zr p split)))):=Za (fun w'=>Er va vc p split w' hpl);clear hp hv hpr;generalize hn:p.length=n at *;have HN:=Za hn;clear hn;obtain⟨A0,hA0⟩:∃ A0,A0=w.alloc (.cells #[.int .i64 0,.slice none 0 0] 103):=⟨_,rfl⟩
 have HB:Hid (Below w.heap.size w A0):=Za (by rw[hA0];exact Ze _ _);have hz:A0.heap.size=w.heap.size+1:=by rw[hA0];simp
 have HN2:Hid (A0.heap[w.heap.size]? = some (.cells #[.int .i64 0,.slice none 0 0] 103 (0,0))):=Za (by rw[hA0];exact heap_alloc_new w _);have HA0:=Za hA0;clear hA0;have HSTART:=hs00;clear hs00;have HST:Hid (PX p split [Zr p split] [] []):=Za (PI.init Dc (JP HV.out));have HOKR:=Za (fun (s:Bf) (hr:Hn p split s)=>(ZT.reach HIV.out hr:ZT p split s));have HROW:=Za (fun (s:Bf) (hr:Hn p split s)=>VQ HV.out hr);have HLB:=Za (fun (s:Bf) (hr:Hn p split s)=>(by
  have h1:=(HOKR.out s hr).lb;have h2:Yw split≤3:=by cases split <;> simp[Yw]
  have h3:=HN.out;have h4:=Nat.mul_le_mul (show p.length≤3 by omega) h2;omega:s.bf.length≤9))
 have HKEY:=Za (fun (x:SV) (s:Bf) (w':World) (hre:Hn p split s) (hr:ZE w' x (Qb s))=>(by
  have hok:=HOKR.out s hre;obtain⟨k1,k2,k3⟩:=QZ hok.q HPR.out;have h1:=hok.q.lp;have h2:=hok.q.lr;have h3:=hok.q.lm;have h4:=HN.out;have h5:=HLB.out s hre;have h6:=HROW.out s hre;have:=AV x (Qb s) w' hr (by show s.q.pc.length≤1000;omega) (by show s.q.rg.length≤1000;omega) (by show s.q.mm.length≤1000;omega) (by show (s.bf.map ZX).length≤100;rw[List.length_map];omega) (fun o ho=>by
   obtain⟨r,h7,rfl⟩:=List.mem_map.1 ho;rw[Qe];have:=h6 r h7;omega) k1 k2 k3 (fun o ho=>by
   obtain⟨r,h7,rfl⟩:=List.mem_map.1 ho;exact Rl (hok.en r h7))
  rwa[CV]at this:Calls Tryz.prog 111 #[.agg #[.slice x.p.a x.p.n x.p.cap,.slice x.r.a x.r.n x.r.cap,.slice x.m.a x.m.n x.m.cap,.slice x.b.a x.b.n x.b.cap]] w' fun e w''=>e = .returned (.string (Ee s))∧Below w'.heap.size w' w''))
 have HKSZ:=Za (fun (s:Bf) (hre:Hn p split s)=>(by
  have hok:=HOKR.out s hre;have h1:=hok.q.lp;have h2:=hok.q.lr;have h3:=hok.q.lm;have h4:=HN.out;have h5:=HLB.out s hre;have h6:=HROW.out s hre;rw[strOfNums_size,← CV];unfold Gb;have h7:=L9 (ls:=s.bf.map ZX) (m:=84) (n:=9) (fun o ho=>by
   obtain⟨r,h7,rfl⟩:=List.mem_map.1 ho;rw[Qe];have:=h6 r h7;omega) (by rw[List.length_map];exact h5)
  simp only[List.length_append];show s.q.pc.length+s.q.rg.length+s.q.mm.length+(AK (s.bf.map ZX)).length≤1000000;omega:(Ee s).size≤1000000))
 have HMARK:=Za (fun (vt:Value) (ks:List ByteArray) (s:Bf) (base:Nat) (w':World) (hre:Hn p split s) (hr:Ll w' base vt ks) (hk:ks.length≤8796093022000) (hB:base≤w'.heap.size)=>US vt ks (Ee s) base w' hr (HKSZ.out s hre) hk hB);have HRE0:Hid (Hn p split (Zr p split)):=Za .start;have HINJ:=Za (fun (a b:Bf) (ha:Zt (Zr p split) (Kf (Cz p split) (Ki p split)) a) (hb:Zt (Zr p split) (Kf (Cz p split) (Ki p split)) b) (e:Ee a=Ee b)=>(by
  have ha:=(XI HV.out a).1 ha;have hb:=(XI HV.out b).1 hb;have key:∀ s,Hn p split s→Kn (VP s):=fun s hs=>by
   have hok:=HOKR.out s hs;have ks:=QZ hok.q HPR.out;rw[← CV];intro z hz;rcases List.mem_append.1 hz with h | h
   ·rcases List.mem_append.1 h with h | h
    ·rcases List.mem_append.1 h with h | h
     ·exact ks.1 z h
     ·exact ks.2.1 z h
    ·exact ks.2.2 z h
   ·obtain⟨l,hl,hz⟩:=List.mem_flatMap.1 h
    obtain⟨r,hr,rfl⟩:=List.mem_map.1 hl;rcases List.mem_cons.1 hz with h | h
    ·omega
    ·exact Rl (hok.en r hr) z h
  exact Du HIV.out a b ha hb (Ed (key a ha) (key b hb) e):a=b))
 go_enter Tryz.func92,Tryz.ntmps92;go_wp2_with (first
  | (at_make;refine YC Z2 90 ⟨none,0,0⟩ Tryz.AT rfl Tryz.underlying139 4096 Dc Om rfl _ _ rfl rfl rfl ?_;intro w1 hown1 hgr1;rw[← HA0.out]at hown1 hgr1;rw[hz]at hown1;have T1:=Za (ZL.made (E:=JB) (T2:=9) hown1);have B1:=Za ((Below.refl A0.heap.size A0).grown hgr1 (Nat.le_refl _) (fun q hq=>nomatch hq));have hsz1:=B1.out.size;clear hown1 hgr1)
  | (go_at_call 117;(with_reducible refine(HSTART.out _).mono ?_);rintro e w2 ⟨x,m,rfl,hs2,hb2⟩;have S2:=Za hs2;have B2:=Za hb2;have hsz2:=hb2.size;have T2:=Za (((T1.out.mono (show w.heap.size≤w.heap.size+1 by omega)).below hb2).below (Ze w2 (.cells #[.slice x.p.a x.p.n x.p.cap,.slice x.r.a x.r.n x.r.cap,.slice x.m.a x.m.n x.m.cap,.slice x.b.a x.b.n x.b.cap] 141)));clear hs2 hb2)
  | (go_at_call 111;(with_reducible refine(HKEY.out x (Zr p split) _ HRE0.out (S2.out.rep.below (Ze _ _))).mono ?_);rintro e w3 ⟨rfl,hb3⟩;have B3:=Za hb3;have hsz3:=hb3.size;have T3:Hid (Ll w3 w.heap.size (.slice (some ⟨w.heap.size+1,0,none⟩) 4096 4096) []):=Za (by show ZL _ _ _ _ _ _ (K6 []);rw[Bk];exact T2.out.below hb3);clear hb3)
  | (go_at_call 110;(with_reducible refine(HMARK.out _ [] (Zr p split) w.heap.size w3 HRE0.out T3.out Sm (by simp at hsz3;omega)).mono ?_);rintro e w4 ⟨rfl,ht4,hk4⟩;have T4:=Za ht4;have K4:=Za hk4;have hsz4:=hk4.size;clear ht4 hk4))
 obtain⟨V0,hV0⟩:∃ V0,V0=(w4.alloc (.cells #[] 66)).alloc (.cells #[.int .i64 0,.slice (some ⟨w4.heap.size,0,none⟩) 0 0] 103):=⟨_,rfl⟩
 simp only[World.size_alloc]at hsz3;have BV4:Below w4.heap.size w4 V0:=by rw[hV0];exact(Ze w4 _).alloc Sm _
 have BW2:Below w.heap.size w w2:=(HB.out.trans (B1.out.mono HB.out.size)).trans (B2.out.mono (Nat.le_trans HB.out.size hsz1));have BW3:Below w.heap.size w w3:=(BW2.alloc BW2.size _).trans (B3.out.mono (by simp;have:=BW2.size;omega));have BW4:Below w.heap.size w w4:=BW3.trans (K4.out.below BW3.size);have BL0:Below w.heap.size w V0:=BW4.trans (BV4.mono BW4.size);have WK:Q6 V0 w.heap.size (.slice (some ⟨w2.heap.size,0,none⟩) 1 1) [Qb (Zr p split)]:=by
  refine⟨[x],rfl,(((Yu.own (Own.Oe w2 BW2.size x) (L:=[90,9]) (B:=w.heap.size) Dc).step (.Zf B3.out)).Yf w4 K4.out).below BV4,fun i y s hy hs => ?_⟩;cases i with
  | zero =>
   simp at hy hs;subst hy;subst hs;exact((((S2.out.loc (L:=LS) (B:=w.heap.size) Dc Dc).step (.Zf (Ze _ _))).step (.Zf B3.out)).step (K4.out.more Dc (Nat.le_refl _))).step (.Zf BV4)
  | succ i=>simp at hy
 have SE0:J0 w.heap.size w.heap.size (w4.heap.size+1) (.slice (some ⟨w.heap.size+1,0,none⟩) 4096 4096) (.slice (some ⟨w2.heap.size,0,none⟩) 1 1) [Qb (Zr p split)] [Ee (Zr p split)] 0 ⟨some ⟨w4.heap.size,0,none⟩,0,0⟩ [] V0:=by
  refine⟨WK,T4.out.below BV4,?_,by rw[hV0];have h:=heap_alloc_new (w4.alloc (.cells #[] 66)) (.cells #[.int .i64 0,.slice (some ⟨w4.heap.size,0,none⟩) 0 0] 103);simpa using h,?_,Nat.le_refl _,by have:=BW4.size;omega,BL0.size⟩
  ·have h1:=(B1.out.block w.heap.size Om).trans HN2.out
   have h2:=(B2.out.block w.heap.size Om).trans h1;have h3:=((Ze w2 (.cells #[.slice x.p.a x.p.n x.p.cap,.slice x.r.a x.r.n x.r.cap,.slice x.m.a x.m.n x.m.cap,.slice x.b.a x.b.n x.b.cap] 141)).block w.heap.size Om).trans h2;have h4:=(B3.out.block w.heap.size So).trans h3;have h5:=K4.out.same h4 Dc;exact(BV4.block w.heap.size (Array.getElem?_eq_some_iff.1 h5).1).trans h5
  ·rw[hV0]
   exact(Qo.empty (Ls:=LS) (B:=w.heap.size) BW4.size).step (.alloc _ _) Dc
 have HR0:Hl p split w (w4.heap.size+1) (.slice (some ⟨w.heap.size+1,0,none⟩) 4096 4096) (Vb 13 (Y8 p) [Zr p split]) (.slice (some ⟨w2.heap.size,0,none⟩) 1 1) V0:=
  ⟨[Zr p split],[],[],[],[Ee (Zr p split)],⟨some ⟨w4.heap.size,0,none⟩,0,0⟩,w2.heap.size,1,rfl,rfl,HST.out,SE0,⟨rfl,fun k=>Iff.rfl⟩,.nil _,BL0⟩
 have HRR:=Za HR0;have HV0:=Za hV0;obtain⟨O,hO⟩:∃ O,O=w4.heap.size+1:=⟨_,rfl⟩
 obtain⟨vt,hvt⟩:∃ vt:Value,vt = .slice (some ⟨w.heap.size+1,0,none⟩) 4096 4096:=⟨_,rfl⟩
 simp only[← hV0];clear WK SE0 HR0 BL0 BW4 BW3 BW2 BV4 hV0 T4 K4 T1 B1 B2 S2 T2 B3 T3 HST hsz1 hsz2 hsz3 hsz4;rw[← hO]at HRR ⊢;rw[← hvt]at HRR ⊢;clear hO hvt HV0
 go_loopg [6] (Vb 13 (Y8 p) [Zr p split]) (fun gk v wr=>Hl p split w O vt gk v wr)
 case atStart=>exact HRR.out
 case round =>
  obtain⟨work,taken,og,outs,ks,vo,g,cap,rfl,hph,hpi,hse,hke,hro,hbl⟩:=hrel;have HPH:=Za hph;have HPI:=Za hpi;have HSE:=Za hse;have HKE:=Za hke;have HRO:=Za hro;have HBL:=Za hbl
  have hct:taken.length+work.length≤7321811000000:=by have h:=Fs HV.out hpi.nd (hpi.SA HV.out);rwa[List.length_append]at h
  rcases List.eq_nil_or_concat work with rfl | ⟨init,s,rfl⟩
  ·have c0:wr.cell? ⟨O,0,none⟩=some (.int .i64 (taken.length:Int)):=Zc hse.bo (k:=0) rfl
   have c1:wr.cell? ⟨O,1,none⟩=some (.slice vo.a vo.n vo.cap):=Zc hse.bo (k:=1) rfl;have r0:wr.cell? ⟨w.heap.size,0,none⟩=some (.int .i64 0):=Zc hse.bn (k:=0) rfl;have r1:wr.cell? ⟨w.heap.size,1,none⟩=some (.slice none 0 0):=Zc hse.bn (k:=1) rfl;have rfz:=Z7 hse.bn;have rl:=Zb r0;have cl:=Zb c0;have t0:BH 103 wr w.heap.size:=⟨_,hse.bn⟩
   have T0:=Za t0;have hct2:taken.length≤8796093022000:=Om;clear hph hpi hse hke hro hbl t0 hct;generalize taken.length=cn at *;go_wp2_with fail;have k1:YX LS w.heap.size wr ((wr.setCell ⟨w.heap.size,0,none⟩ (.int .i64 (cn:Int))).setCell ⟨w.heap.size,1,none⟩ (.slice vo.a vo.n vo.cap)):=(YX.Ys T0.out Dc (Nat.le_refl _) _).trans (YX.Ys (T0.out.set _ _ _) Dc (Nat.le_refl _) _);refine bodyPost_ret (v:=.agg #[.int .i64 (cn:Int),.slice vo.a vo.n vo.cap]) (by simp[results,Tryz.results92,go_sem, *]) rfl ⟨cn,vo,outs,hct2,rfl,?_,HN.out ▸ HRO.out.ok,fun o=>(HRO.out.mem o).trans ((HPI.out.fin o).trans ⟨fun ⟨s,h1,h2⟩=>⟨s,(XI HV.out s).1 h1,h2⟩,fun ⟨s,h1,h2⟩=>⟨s,(XI HV.out s).2 h1,h2⟩⟩),?_⟩
   ·exact HSE.out.ol.step k1 Dc
   ·exact(HBL.out.setCell (p:=⟨w.heap.size,0,none⟩) (Nat.le_refl _) _).setCell (p:=⟨w.heap.size,1,none⟩) (Nat.le_refl _) _
  ·rw[List.concat_eq_append] at *
   have hwk:=hse.wk;rw[List.map_append,List.map_singleton]at hwk;obtain⟨hn1,hgl,hgB,hcap,hwk',x,hlx,p0,p1,p2,p3⟩:=hwk.pop;rw[List.length_map]at hwk' p0 p1 p2 p3 hn1;have hreach:=hpi.SA HV.out s Sm;have HRC:=Za hreach;have HOK:=Za (HOKR.out s hreach);have HWK:=Za hwk';have HLX:=Za hlx
   have hlen:(init++[s]).length=init.length+1:=by simp
   rw[hlen]at hcap ⊢;have c0:wr.cell? ⟨O,0,none⟩=some (.int .i64 (taken.length:Int)):=Zc hse.bo (k:=0) rfl;have c1:wr.cell? ⟨O,1,none⟩=some (.slice vo.a vo.n vo.cap):=Zc hse.bo (k:=1) rfl;have cfz:=Z7 hse.bo;have cl:=Zb c0;have hm1:init.length≤68719476000:=by have h1:=hpi.short;simp at h1;omega
   have hct2:taken.length≤8796093022000:=Om;have hnb:x.b.n=s.bf.length:=by
    obtain⟨_,_,hv2,-,-,-,-⟩:=hlx.now.bf.open;simp only[Zs.v,Value.slice.injEq,List.length_map]at hv2;exact hv2.2.1
   have hnb9:s.bf.length≤9:=HLB.out s hreach;have HNB0:=Za hnb;have HBR0:Hid (s.bf.length=s.bf.length):=Za rfl;clear hph hpi hse hke hro hbl hwk hwk' hlx hlen hn1 hct hreach hnb;generalize hm:init.length=m at *;have HM:=Za hm;generalize htn:taken.length=cn at *;have HTN:=Za htn;obtain⟨nb,hnbq⟩:∃ nb,nb=s.bf.length:=⟨_,rfl⟩
   rw[← hnbq]at hnb9 HNB0;have HNB:=HNB0;have HBL9:=Za hnbq;clear hm htn hnbq HNB0 HBR0;go_wp2_with fail;obtain⟨S,hS⟩:∃ S,S=wr.heap.size:=⟨_,rfl⟩
   have ec:((cn+1:Nat):Int)=(cn:Int)+1:=Om;have SE0:=((HSE.out.Px HWK.out (.refl _ _ _)).YO (cn+1)).below (Ze _ (.cells #[.slice x.p.a x.p.n x.p.cap,.slice x.r.a x.r.n x.r.cap,.slice x.m.a x.m.n x.m.cap,.slice x.b.a x.b.n x.b.cap] 141));have LX0:=(HLX.out.step (YX.set (j:=0) HSE.out.bo Dc (by have:=HSE.out.lN;have:=HSE.out.lO;omega) (.int .i64 ((cn+1:Nat):Int)))).step (.alloc _ (.cells #[.slice x.p.a x.p.n x.p.cap,.slice x.r.a x.r.n x.r.cap,.slice x.m.a x.m.n x.m.cap,.slice x.b.a x.b.n x.b.cap] 141));have BL0:=(HBL.out.setCell (p:=⟨O,0,none⟩) (by have:=HSE.out.lN;have:=HSE.out.lO;show _≤O;omega) (.int .i64 ((cn+1:Nat):Int))).alloc (by simpa using HBL.out.size) (.cells #[.slice x.p.a x.p.n x.p.cap,.slice x.r.a x.r.n x.r.cap,.slice x.m.a x.m.n x.m.cap,.slice x.b.a x.b.n x.b.cap] 141);rw[ec]at SE0 LX0 BL0;obtain⟨V1,hV1⟩:∃ V1,V1=(wr.setCell ⟨O,0,none⟩ (.int .i64 ((cn:Int)+1))).alloc (.cells #[.slice x.p.a x.p.n x.p.cap,.slice x.r.a x.r.n x.r.cap,.slice x.m.a x.m.n x.m.cap,.slice x.b.a x.b.n x.b.cap] 141):=⟨_,rfl⟩
   have SX0:V1.heap[S]? = some (.cells #[.slice x.p.a x.p.n x.p.cap,.slice x.r.a x.r.n x.r.cap,.slice x.m.a x.m.n x.m.cap,.slice x.b.a x.b.n x.b.cap] 141 (0,0)):=by rw[hV1,hS];have h:=heap_alloc_new (wr.setCell ⟨O,0,none⟩ (.int .i64 ((cn:Int)+1))) (.cells #[.slice x.p.a x.p.n x.p.cap,.slice x.r.a x.r.n x.r.cap,.slice x.m.a x.m.n x.m.cap,.slice x.b.a x.b.n x.b.cap] 141);simpa using h
   rw[← hV1]at SE0 LX0 BL0;have HSE0:=Za SE0;have HLX0:=Za LX0;have HBL0:=Za BL0;have HSX0:=Za SX0
   have hgS0:g < S:=by rw[hS];exact hgl
   have hgS:g≠S:=Om;have hOS:O < S:=by rw[hS];exact cl
   have HDONE:Hid (Calls Tryz.prog 118 #[.slice va n vc,.agg #[.slice x.p.a x.p.n x.p.cap,.slice x.r.a x.r.n x.r.cap,.slice x.m.a x.m.n x.m.cap,.slice x.b.a x.b.n x.b.cap]] V1 fun e w'=>e = .returned (.bool (Y3 p s))∧Below V1.heap.size V1 w'):=Za (by
    have:=FH _ p x s V1 (HP.out.below (HBL0.out)) HLX0.out.now HOK.out.q.lp (by have:=HN.out;omega);exact this)
   have HOUT:Hid (∀ W,ZE W x (Qb s)→Calls Tryz.prog 114 #[.agg #[.slice x.p.a x.p.n x.p.cap,.slice x.r.a x.r.n x.r.cap,.slice x.m.a x.m.n x.m.cap,.slice x.b.a x.b.n x.b.cap]] W (Xs Zq 3 W (YA s))):=Za (fun W h=>Vo x (Qb s) W h (by show s.q.rg.length≤_;have:=HOK.out.q.lr;have:=HN.out;omega) (by show s.q.mm.length≤_;have:=HOK.out.q.lm;omega));have HPUT:=Za (fun W u (hL:Qo LS w.heap.size W w.heap.size vo.v outs) ho hb=>AW LS w.heap.size w.heap.size (.slice vo.a vo.n vo.cap) u outs (YA s) W hL ho Dc hb (by have h1:=HRO.out.le;have h2:=HPI.out.Sa HFEW.out;omega));have HSX1:=Za hS;have HOL:Hid ((YA s).length=p.length * 3+3):=Za (AJ HOK.out).1;simp only[← hV1];rw[← hS];clear c0 c1 cfz cl p0 p1 p2 p3 SE0 LX0 BL0 SX0 hV1 hS ec hgl hcap HWK HSE HBL HLX;have k0:V1.cell? ⟨S,0,none⟩=some (.slice x.p.a x.p.n x.p.cap):=Zc HSX0.out (k:=0) rfl;cases hd:Y3 p s
   ·have PM0:=Za (HPI.out.Mt hd)
    have HD:=Za hd;rw[hd]at HDONE;clear hd
    (with_reducible refine HDONE.out.mono ?_);rintro e w1 ⟨rfl,hb1⟩
    have SE2:=Za (HSE0.out.below hb1);have LX2:=Za (HLX0.out.step (.Zf hb1));have BL2:=Za (HBL0.out.trans (hb1.mono HBL0.out.size));have SX2:Hid (w1.heap[S]? = some (.cells #[.slice x.p.a x.p.n x.p.cap,.slice x.r.a x.r.n x.r.cap,.slice x.m.a x.m.n x.m.cap,.slice x.b.a x.b.n x.b.cap] 141 (0,0))):=Za ((hb1.block S (Array.getElem?_eq_some_iff.1 HSX0.out).1).trans HSX0.out)
    clear hb1 k0;go_wp2_with fail;have RO2:=HRO
    go_loopw [6,9] (fun v i wr => ∃ k:Nat,k≤n+nb∧i = .int .i64 k∧Bv p split w O S vt x s init taken (og) (outs) vo k v wr) (fun _ i _=>n+nb - (intOf i).toNat)
    case atStart=>exact⟨0,Nat.zero_le _,rfl,[],ks,g,cap,by rw[List.append_nil,HM.out],PM0.out,by have h:=SE2.out;rw[← HTN.out]at h;rw[List.append_nil];exact h,HKE.out.pop,SX2.out,hgS,LX2.out,BL2.out⟩
    case round =>
     obtain⟨k,hk,rfl,new2,ks2,g2,cap2,rfl,hpm,hse,hke,hsx,hgS2,hlx,hbl⟩:=hrel;have PM3:=Za hpm;have SE3:=Za hse;have KE3:=Za hke;have SX3:=Za hsx;have LX3:=Za hlx;have BL3:=Za hbl
     have d3:wr.cell? ⟨S,3,none⟩=some (.slice x.b.a x.b.n x.b.cap):=Zc hsx (k:=3) rfl;rw[HNB.out]at d3;have dl:=Zb d3;obtain⟨l2,hl2⟩:∃ l2,l2=(init++new2).length:=⟨_,rfl⟩
     have hse3:=SE3.out;rw[← hl2]at hse3 ⊢;have SE4:=Za hse3;have HL2:=Za hl2;clear hpm hse hke hlx hbl hse3 hl2 SE3;by_cases hlt:k < n+nb
     ·have hlt':(k:Int) < (n:Int)+(nb:Int):=Om
      have d0:wr.cell? ⟨S,0,none⟩=some (.slice x.p.a x.p.n x.p.cap):=Zc hsx (k:=0) rfl;have d1:wr.cell? ⟨S,1,none⟩=some (.slice x.r.a x.r.n x.r.cap):=Zc hsx (k:=1) rfl;have d2:wr.cell? ⟨S,2,none⟩=some (.slice x.m.a x.m.n x.m.cap):=Zc hsx (k:=2) rfl;have hbs:=BL3.out.size;have HCAN:Hid (Calls Tryz.prog 119 #[.slice va n vc,.agg #[.slice x.p.a x.p.n x.p.cap,.slice x.r.a x.r.n x.r.cap,.slice x.m.a x.m.n x.m.cap,.slice x.b.a nb x.b.cap],.bool split,.int .i64 (k:Int)] wr fun e w'=>e = .returned (.bool (Zy p split s k).isSome)∧Below wr.heap.size wr w'):=Za (by
       have:=AX _ p x s split k wr (HP.out.below BL3.out) LX3.out.now HOK.out (by have:=HN.out;omega) HIV.out (by have:=HN.out;have:=HBL9.out;omega);rwa[HNB.out]at this)
      cases hc:Zy p split s k with
      | none =>
       have SK:=Za (Ba hc);rw[hc]at HCAN;simp only[Option.isSome_none]at HCAN;clear hc;go_wp2_with (go_at_call 119;(with_reducible refine HCAN.out.mono ?_);rintro e w5 ⟨rfl,hb5⟩;have B5:=Za hb5;clear hb5);go_roundw
       case rel=>exact⟨k+1,Om,Gn,new2,ks2,g2,cap2,by rw[HL2.out],by rw[SK.out];exact PM3.out,SE4.out.below B5.out,KE3.out,(B5.out.block S dl).trans SX3.out,hgS2,LX3.out.step (.Zf B5.out),BL3.out.trans (B5.out.mono hbs)⟩
       case measure=>simp[intOf];omega
      | some s' =>
       have SK:=Za (E5 hc);have NX:Hid (Kf (Cz p split) (Ki p split) s (Kj p split s k)=some s'):=Za (E6 hc (by have:=HN.out;have:=HBL9.out;omega));have HRC2:Hid (Hn p split s'):=Za (.step HRC.out hc);have HRK2:=Za (Jk HOK.out hc);have HDO:Hid (∀ W,Below w.heap.size w W→ZE W x (Qb s)→Calls Tryz.prog 120 #[.slice va n vc,.agg #[.slice x.p.a x.p.n x.p.cap,.slice x.r.a x.r.n x.r.cap,.slice x.m.a x.m.n x.m.cap,.slice x.b.a nb x.b.cap],.bool split,.int .i64 (k:Int)] W (XG W (Qb s'))):=Za (fun W hW hx=>by
        have:=Eo _ p x s s' split k W (HP.out.below hW) hx HOK.out (by have:=HN.out;omega) HPR.out (HROW.out s HRC.out) HIV.out hc;rwa[HNB.out]at this)
       rw[hc]at HCAN;simp only[Option.isSome_some]at HCAN;clear hc;go_wp2_with (go_at_call 119;(with_reducible refine HCAN.out.mono ?_);rintro e w5 ⟨rfl,hb5⟩;have B5:=Za hb5;have hsx5:=(hb5.block S dl).trans SX3.out;have e0:w5.cell? ⟨S,0,none⟩=some (.slice x.p.a x.p.n x.p.cap):=Zc hsx5 (k:=0) rfl;have e1:w5.cell? ⟨S,1,none⟩=some (.slice x.r.a x.r.n x.r.cap):=Zc hsx5 (k:=1) rfl;have e2:w5.cell? ⟨S,2,none⟩=some (.slice x.m.a x.m.n x.m.cap):=Zc hsx5 (k:=2) rfl;have e3:w5.cell? ⟨S,3,none⟩=some (.slice x.b.a x.b.n x.b.cap):=Zc hsx5 (k:=3) rfl;rw[HNB.out]at e3;have el:=Zb e0;have SE5:=Za (SE4.out.below hb5);have LX5:=Za (LX3.out.step (.Zf hb5));have BL5:=Za (BL3.out.trans (hb5.mono hbs));have SX5:=Za hsx5;have hbs5:=BL5.out.size;clear d0 d1 d2 d3 dl hsx5 hb5)
       (with_reducible refine(HDO.out _ BL5.out LX5.out.now).mono ?_);rintro e w6 ⟨y,my,rfl,hs6,hb6⟩;have S6:=Za hs6;have B6:=Za (hb6.alloc hb6.size (.cells #[.slice y.p.a y.p.n y.p.cap,.slice y.r.a y.r.n y.r.cap,.slice y.m.a y.m.n y.m.cap,.slice y.b.a y.b.n y.b.cap] 141));have hsz6:=hb6.size;clear hs6 hb6
       go_wp2_with (go_at_call 111;(with_reducible refine(HKEY.out y s' _ HRC2.out (S6.out.rep.below (Ze _ _))).mono ?_);rintro e w7 ⟨rfl,hb7⟩;have B7:=Za (B6.out.trans (hb7.mono So));have HX7:Hid (w7.heap[w6.heap.size]? = some (.cells #[.slice y.p.a y.p.n y.p.cap,.slice y.r.a y.r.n y.r.cap,.slice y.m.a y.m.n y.m.cap,.slice y.b.a y.b.n y.b.cap] 141 (0,0))):=Za ((hb7.block w6.heap.size Sm).trans (heap_alloc_new w6 _));have hsz7:=B7.out.size;have LY7:=Za (((S6.out.loc (L:=LS) (B:=w.heap.size) Dc Dc).step (.alloc _ _)).step (.Zf hb7));clear hb7)
       (with_reducible refine(Jp vt ks2 (Ee s') w7 (SE5.out.below B7.out).tb.rep (HKSZ.out _ HRC2.out)).mono ?_);rintro e w8 ⟨D,rfl,hD,rfl⟩
       have hkl:ks2.length≤8796093022000:=by rw[KE3.out.len];have h:=Fs HV.out PM3.out.nd (fun u hu=>(XI HV.out u).1 (PM3.out.rc u hu));omega
       cases D
       ·have HNO:Hid (s'∉(s :: taken)++(init++new2)):=Za (fun h=>by have h2:=hD.2 ((KE3.out.mem _).2 (List.mem_map.2 ⟨_,h,rfl⟩));simp at h2)
        clear hD;go_wp2_with (first
         | (go_at_call 110;(with_reducible refine(HMARK.out vt ks2 s' w.heap.size w7 HRC2.out (SE5.out.below B7.out).tb hkl Om).mono ?_);rintro e w9 ⟨rfl,ht9,hk9⟩;have SE9:=Za ((SE5.out.below B7.out).mark ht9 hk9);have K9:=Za hk9;have hx9:=hk9.same HX7.out Dc;have f0:w9.cell? ⟨w6.heap.size,0,none⟩=some (.slice y.p.a y.p.n y.p.cap):=Zc hx9 (k:=0) rfl;have f1:w9.cell? ⟨w6.heap.size,1,none⟩=some (.slice y.r.a y.r.n y.r.cap):=Zc hx9 (k:=1) rfl;have f2:w9.cell? ⟨w6.heap.size,2,none⟩=some (.slice y.m.a y.m.n y.m.cap):=Zc hx9 (k:=2) rfl;have f3:w9.cell? ⟨w6.heap.size,3,none⟩=some (.slice y.b.a y.b.n y.b.cap):=Zc hx9 (k:=3) rfl;have fl9:=Zb f0;obtain⟨xs9,hxl9,hown9,hst9⟩:=SE9.out.wk;have O9:=Za hown9;have XL9:=Za hxl9;have ST9:=Za hst9;have hxb9:xs9.length≤68719476736:=(by rw[hxl9,List.length_map];have h1:=PM3.out.short;omega);have hsz9:=hk9.size;clear hown9 hxl9 hst9 ht9 hk9 hx9)
         | (at_builtin;refine Z8 Ob 141 Tryz.G6 rfl Tryz.underlying143 w.heap.size _ xs9 y (O9.out.alloc _) Dc hxb9 So rfl _ _ rfl rfl _ 0 1 rfl Zk ?_;intro v10 w10 hown10 hgr10 hat10;have O10:=Za hown10;have G10:=Za hgr10;have A10:=Za hat10;clear hown10 hgr10 hat10))
        rcases O10.out.shape with⟨_,e⟩ | ⟨g10,c10,rfl,hg10,hg10',hc10,_⟩
        ·simp at e
        have hl10:(xs9++[y]).length=(init++(new2++[s'])).length:=by have:=XL9.out;simp only[List.length_append,List.length_singleton,List.length_map]at this ⊢;omega
        have hgS10:g10≠S:=by
         rcases A10.out with h | ⟨q,h,hq⟩
         ·simp[Value.ownBlock]at h;omega
         ·simp[Value.ownBlock]at h;simp at hq;omega
        have bA:=Ze w9 (.cells #[.slice y.p.a y.p.n y.p.cap,.slice y.r.a y.r.n y.r.cap,.slice y.m.a y.m.n y.m.cap,.slice y.b.a y.b.n y.b.cap] 141);have kA:=YX.Zf (L:=LS) (B:=w.heap.size) bA;have k9:=K9.out.more (L':=LS) Dc (Nat.le_refl _);have hw10:=Q6.push (s:=Qb s') XL9.out (O9.out.below bA) (fun i x s h1 h2=>(ST9.out i x s h1 h2).step kA) ((LY7.out.step k9).step kA) O10.out G10.out;have k10:YX [141] w.heap.size _ w10:=YX.grown (O9.out.below bA) Dc (Nat.le_refl _) G10.out;have se10:=(SE9.out.below bA).Px hw10 k10;rw[← List.map_singleton (f:=Qb),← List.map_append,List.append_assoc]at se10;rw[hl10]at se10 ⊢;have hS9:w9.heap[S]? = _:=K9.out.same ((B7.out.block S el).trans SX5.out) Dc;have hSl:=(Array.getElem?_eq_some_iff.1 hS9).1;have hS10:=(G10.out.block S So (fun e=>by simp[Value.ownBlock]at e;omega)).trans ((heap_alloc_old w9 _ hSl).trans hS9);have lx10:=((((LX5.out.step (.Zf B7.out)).step k9).step kA).step (k10.more Dc (Nat.le_refl _)))
        have bl7:=BL5.out.trans (B7.out.mono hbs5);have bl9:=bl7.trans (K9.out.below bl7.size);have bl10:=(bl9.alloc bl9.size (.cells #[.slice y.p.a y.p.n y.p.cap,.slice y.r.a y.r.n y.r.cap,.slice y.m.a y.m.n y.m.cap,.slice y.b.a y.b.n y.b.cap] 141)).grown G10.out (by simp;have:=bl9.size;omega) (fun q hq=>(World.ownsRow.lt O9.out q hq).1);have pm10:=PM3.out.new NX.out HNO.out (by have h1:=G7 HOK.out (by have:=HN.out;omega);have h2:Kj p split s k < (Cz p split s).length:=(List.getElem?_eq_some_iff.1 ((Qv _ _).1 NX.out).choose_spec.1).1;omega) HRK2.out;rw[← SK.out]at pm10;have HF:=Za (⟨new2++[s'],ks2++[Ee s'],g10,c10,rfl,pm10,se10,KE3.out.push s',hS10,hgS10,lx10,bl10⟩:Bv p split w O S vt x s init taken (og) (outs) vo (k+1) _ w10);clear hw10 k10 se10 hS9 hSl hS10 lx10 bl7 bl9 bl10 pm10 bA kA k9;go_roundw
        case rel=>exact⟨k+1,Om,Gn,HF.out⟩
        case measure=>simp[intOf];omega
       ·have SK2:Hid (Ee s'∈ks2):=Za (hD.1 rfl)
        clear hD;have pm9:Se p split s (Kj p split s k+1) init new2 taken (og):=by
         obtain⟨u,hu,he⟩:=List.mem_map.1 ((KE3.out.mem _).1 SK2.out);exact PM3.out.Mq (key:=Ee) NX.out hu he HINJ.out
        rw[← SK.out]at pm9;have PM9:=Za pm9;clear pm9;go_wp2_with fail;go_roundw
        case rel=>exact⟨k+1,Om,Gn,new2,ks2,g2,cap2,by rw[HL2.out],PM9.out,SE5.out.below B7.out,KE3.out,(B7.out.block S el).trans SX5.out,hgS2,LX5.out.step (.Zf B7.out),BL5.out.trans (B7.out.mono hbs5)⟩
        case measure=>simp[intOf];omega
     ·obtain rfl:k=n+nb:=Om
      have hlt':¬ ((n:Int)+(nb:Int) < (n:Int)+(nb:Int)):=Om;have hall:(Cz p split s).length≤Kj p split s (n+nb):=by have h:=Uc p split s;rw[HN.out,← HBL9.out]at h;omega
      have HG:=Za (HPH.out ▸ PM3.out.Hs (by have h1:=G7 HOK.out (by have:=HN.out;omega);have h:=Uc p split s;rw[HN.out,← HBL9.out]at h;omega):Vb 13 (Y8 p) (init++new2) < _);have HF:=Za (⟨init++new2,s :: taken,_,outs,ks2,vo,g2,cap2,by rw[HL2.out],rfl,PM3.out.leave hall,SE4.out,KE3.out,RO2.out,BL3.out⟩:Hl p split w O vt (Vb 13 (Y8 p) (init++new2)) (.slice (some ⟨g2,0,none⟩) l2 cap2) wr);clear hall;go_wp2_with fail
      go_roundg (Vb 13 (Y8 p) (init++new2))
      case measure=>exact HG.out
      case rel=>exact HF.out
   ·have PM0:=Za (HPI.out.Hz hd)
    rw[hd]at HDONE;clear hd
    (with_reducible refine HDONE.out.mono ?_);rintro e w1 ⟨rfl,hb1⟩
    have SE1:=Za (HSE0.out.below hb1);have LX1:=Za (HLX0.out.step (.Zf hb1));have BL1:=Za (HBL0.out.trans (hb1.mono HBL0.out.size));have SX1:Hid (w1.heap[S]? = some (.cells #[.slice x.p.a x.p.n x.p.cap,.slice x.r.a x.r.n x.r.cap,.slice x.m.a x.m.n x.m.cap,.slice x.b.a x.b.n x.b.cap] 141 (0,0))):=Za ((hb1.block S (Array.getElem?_eq_some_iff.1 HSX0.out).1).trans HSX0.out)
    clear hb1 k0;go_wp2_with fail
    -- Ya outs
    refine Zm (n:=6) Kr rfl Kr Kr (fun A ls a' W => ∃ (u:Zs) (pv:Zs) (x46 x47 x48 x49 x50 x51:Value),a'=Zl A [(46,x46),(47,x47),(48,x48),(49,x49),(50,x50),(51,x51)]∧Vd ls 0 [] x46 (.pointer (some ⟨O,1,none⟩))∧Vd ls 1 [] x47 (.slice vo.a vo.n vo.cap)∧Vd ls 2 [] x48 (.agg #[.slice x.p.a x.p.n x.p.cap,.slice x.r.a x.r.n x.r.cap,.slice x.m.a x.m.n x.m.cap,.slice x.b.a x.b.n x.b.cap])∧Vd ls 3 [] x49 (.slice u.a u.n u.cap)∧Vd ls 4 [3] x50 (.slice pv.a pv.n pv.cap)∧Vd ls 5 [] x51 (.pointer (some ⟨O,1,none⟩))∧NZ w1 w.heap.size (YA s) (Xv (YA s) outs) (fl ls 3) (fl ls 4) u pv W) ?r0 ?rs ?re
    case r0 =>
     exact⟨⟨none,0,0⟩,⟨none,0,0⟩,u46,u47,u48,u49,u50,u51,pA,Vs,Vs,Vs,Vs,Vs,Vs,by simp only[Yn];exact⟨(Below.refl _ _).drew,fun h=>(nomatch h),fun h=>(nomatch h),fun h=>(nomatch h)⟩⟩
    case rs =>
     rintro ls a' W hs hnl ⟨u,pv,x46,x47,x48,x49,x50,x51,ha,cv0,cv1,cv2,cv3,cv4,cv5,hJ⟩ k o hkn mc K hK;simp only[Zl,Act.put,List.setIfInBounds_toArray,List.set_cons_succ,List.set_cons_zero]at ha;subst ha;have hkc:k=0∨k=1∨k=2∨k=3∨k=4∨k=5:=Om;have hop:=mc.op;have haf:=mc.after;rcases hkc with rfl | rfl | rfl | rfl | rfl | rfl
     ·simp at hop;subst hop;simp[Region.binds]at haf
      go_simp;exact hK _ _ ⟨u,pv,_,_,_,_,_,_,pA,Ve,cv1.s,cv2.s,cv3.s,cv4.s,cv5.s,by rw[fs 0 3,fs 0 4];exact hJ⟩
     ·simp at hop;subst hop;simp[Region.binds]at haf
      obtain rfl:=(cv0.get (by simp[haf])).symm;have d1:W.cell? ⟨O,1,none⟩=some (.slice vo.a vo.n vo.cap):=Zc ((hJ.out.block O (Array.getElem?_eq_some_iff.1 SE1.out.bo).1).trans SE1.out.bo) (k:=1) rfl;have dl:=Zb d1;go_simp;exact hK _ _ ⟨u,pv,_,_,_,_,_,_,pA,cv0.s,Ve,cv2.s,cv3.s,cv4.s,cv5.s,by rw[fs 1 3,fs 1 4];exact hJ⟩
     ·simp at hop;subst hop;simp[Region.binds]at haf
      have hbx:=(hJ.out.block S (Array.getElem?_eq_some_iff.1 SX1.out).1).trans SX1.out;have d0:W.cell? ⟨S,0,none⟩=some (.slice x.p.a x.p.n x.p.cap):=Zc hbx (k:=0) rfl;have d1:W.cell? ⟨S,1,none⟩=some (.slice x.r.a x.r.n x.r.cap):=Zc hbx (k:=1) rfl;have d2:W.cell? ⟨S,2,none⟩=some (.slice x.m.a x.m.n x.m.cap):=Zc hbx (k:=2) rfl;have d3:W.cell? ⟨S,3,none⟩=some (.slice x.b.a x.b.n x.b.cap):=Zc hbx (k:=3) rfl;have dl:=Zb d0;go_simp;exact hK _ _ ⟨u,pv,_,_,_,_,_,_,pA,cv0.s,cv1.s,Ve,cv3.s,cv4.s,cv5.s,by rw[fs 2 3,fs 2 4];exact hJ⟩
     ·simp at hop;subst hop;simp[Region.binds]at haf
      obtain rfl:=(cv2.get (by simp[haf])).symm;have f3:=Yd mc.new;rw[f3]at hJ;go_simp;go_at_call 114
      (with_reducible refine(HOUT.out W (LX1.out.step (.Zf hJ.out)).now).mono ?_);rintro e u' ⟨v',rfl,ho,hbu⟩
      obtain⟨⟨ua,un,uc⟩,rfl,-⟩:=ho.Yy;exact hK _ _ ⟨⟨ua,un,uc⟩,pv,_,_,_,_,_,_,pA,cv0.s,cv1.s,cv2.s,Ve,cv4.void Dc Dc mc.new,cv5.s,by rw[ZM hs Dc,fs 3 4];exact hJ.Od ho hbu (by have:=SE1.out.sz;have:=hJ.out.size;omega)⟩
     ·simp at hop;subst hop;simp[Region.binds]at haf
      obtain rfl:=(cv1.get (by simp[haf])).symm;obtain rfl:=(cv3.get (by simp[haf])).symm;have f4:=Yd mc.new;rw[f4]at hJ;have f3:=Z5 (show ls[3]? = some true by simp[haf]);rw[f3]at hJ;go_simp;go_at_call 113
      (with_reducible refine(HPUT.out W u (SE1.out.below hJ.out).ol (Yu.own (hJ.o1 rfl) Dc) (by have:=SE1.out.sz;have:=hJ.out.size;omega)).mono ?_);rintro e u' ⟨v',rfl,ho,hbu⟩
      obtain⟨⟨ua,un,uc⟩,rfl,-⟩:=ho.own;exact hK _ _ ⟨u,⟨ua,un,uc⟩,_,_,_,_,_,_,pA,cv0.s,cv1.s,cv2.s,cv3.s,Vd.same (by simp[haf]),cv5.s,by rw[fs 4 3,ZM hs Dc,f3];exact hJ.call2 ho hbu⟩
     ·simp at hop;subst hop;simp[Region.binds]at haf
      go_simp;exact hK _ _ ⟨u,pv,_,_,_,_,_,_,pA,cv0.s,cv1.s,cv2.s,cv3.s,cv4.s,Ve,by rw[fs 5 3,fs 5 4];exact hJ⟩
    case re =>
     rintro ls a' W hall ⟨u,pv,x46,x47,x48,x49,x50,x51,ha,cv0,cv1,cv2,cv3,cv4,cv5,hJ⟩ o hop;simp only[Zl,Act.put,List.setIfInBounds_toArray,List.set_cons_succ,List.set_cons_zero]at ha;subst ha;simp at hop;subst hop;obtain rfl:=cv0.ga hall;obtain rfl:=cv1.ga hall;obtain rfl:=cv2.ga hall;obtain rfl:=cv3.ga hall;obtain rfl:=cv4.ga hall;obtain rfl:=cv5.ga hall;rw[Z5 (hall 3 Dc)]at hJ;rw[Z5 (hall 4 Dc)]at hJ;have hbo:=(hJ.out.block O (Array.getElem?_eq_some_iff.1 SE1.out.bo).1).trans SE1.out.bo;have d1:W.cell? ⟨O,1,none⟩=some (.slice vo.a vo.n vo.cap):=Zc hbo (k:=1) rfl;have dfz:=Z7 hbo;have dl:=Zb d1;go_simp;have SE2:=Za ((SE1.out.below hJ.out).out (vo':=pv) (hJ.o2 rfl));have SX2:Hid ((W.setCell ⟨O,1,none⟩ (.slice pv.a pv.n pv.cap)).heap[S]? = some (.cells #[.slice x.p.a x.p.n x.p.cap,.slice x.r.a x.r.n x.r.cap,.slice x.m.a x.m.n x.m.cap,.slice x.b.a x.b.n x.b.cap] 141 (0,0))):=Za ((heap_setCell_other W ⟨O,1,none⟩ S _ (show S≠O by omega)).trans ((hJ.out.block S (Array.getElem?_eq_some_iff.1 SX1.out).1).trans SX1.out))
     have LX2:=Za ((LX1.out.step (.Zf hJ.out)).step (YX.set (j:=1) hbo Dc (by have:=SE1.out.lN;have:=SE1.out.lO;omega) (.slice pv.a pv.n pv.cap)));have BL2:=Za ((BL1.out.trans (hJ.out.mono BL1.out.size)).setCell (p:=⟨O,1,none⟩) (by have:=SE1.out.lN;have:=SE1.out.lO;show _≤O;omega) (.slice pv.a pv.n pv.cap));obtain⟨V2,hV2⟩:∃ V2,V2=W.setCell ⟨O,1,none⟩ (.slice pv.a pv.n pv.cap):=⟨_,rfl⟩
     rw[← hV2]at SE2 SX2 LX2 BL2;simp only[← hV2];clear hJ hbo d1 dfz dl hV2;go_wp2_with fail;have RO2:=Za (HRO.out.put HOL.out)
     go_loopw [6,9] (fun v i wr => ∃ k:Nat,k≤n+nb∧i = .int .i64 k∧Bv p split w O S vt x s init taken (og++[YA s]) (Xv (YA s) outs) pv k v wr) (fun _ i _=>n+nb - (intOf i).toNat)
     case atStart=>exact⟨0,Nat.zero_le _,rfl,[],ks,g,cap,by rw[List.append_nil,HM.out],PM0.out,by have h:=SE2.out;rw[← HTN.out]at h;rw[List.append_nil];exact h,HKE.out.pop,SX2.out,hgS,LX2.out,BL2.out⟩
     case round =>
      obtain⟨k,hk,rfl,new2,ks2,g2,cap2,rfl,hpm,hse,hke,hsx,hgS2,hlx,hbl⟩:=hrel;have PM3:=Za hpm;have SE3:=Za hse;have KE3:=Za hke;have SX3:=Za hsx;have LX3:=Za hlx;have BL3:=Za hbl
      have d3:wr.cell? ⟨S,3,none⟩=some (.slice x.b.a x.b.n x.b.cap):=Zc hsx (k:=3) rfl;rw[HNB.out]at d3;have dl:=Zb d3;obtain⟨l2,hl2⟩:∃ l2,l2=(init++new2).length:=⟨_,rfl⟩
      have hse3:=SE3.out;rw[← hl2]at hse3 ⊢;have SE4:=Za hse3;have HL2:=Za hl2;clear hpm hse hke hlx hbl hse3 hl2 SE3;by_cases hlt:k < n+nb
      ·have hlt':(k:Int) < (n:Int)+(nb:Int):=Om
       have d0:wr.cell? ⟨S,0,none⟩=some (.slice x.p.a x.p.n x.p.cap):=Zc hsx (k:=0) rfl;have d1:wr.cell? ⟨S,1,none⟩=some (.slice x.r.a x.r.n x.r.cap):=Zc hsx (k:=1) rfl;have d2:wr.cell? ⟨S,2,none⟩=some (.slice x.m.a x.m.n x.m.cap):=Zc hsx (k:=2) rfl;have hbs:=BL3.out.size;have HCAN:Hid (Calls Tryz.prog 119 #[.slice va n vc,.agg #[.slice x.p.a x.p.n x.p.cap,.slice x.r.a x.r.n x.r.cap,.slice x.m.a x.m.n x.m.cap,.slice x.b.a nb x.b.cap],.bool split,.int .i64 (k:Int)] wr fun e w'=>e = .returned (.bool (Zy p split s k).isSome)∧Below wr.heap.size wr w'):=Za (by
        have:=AX _ p x s split k wr (HP.out.below BL3.out) LX3.out.now HOK.out (by have:=HN.out;omega) HIV.out (by have:=HN.out;have:=HBL9.out;omega);rwa[HNB.out]at this)
       cases hc:Zy p split s k with
       | none =>
        have SK:=Za (Ba hc);rw[hc]at HCAN;simp only[Option.isSome_none]at HCAN;clear hc;go_wp2_with (go_at_call 119;(with_reducible refine HCAN.out.mono ?_);rintro e w5 ⟨rfl,hb5⟩;have B5:=Za hb5;clear hb5);go_roundw
        case rel=>exact⟨k+1,Om,Gn,new2,ks2,g2,cap2,by rw[HL2.out],by rw[SK.out];exact PM3.out,SE4.out.below B5.out,KE3.out,(B5.out.block S dl).trans SX3.out,hgS2,LX3.out.step (.Zf B5.out),BL3.out.trans (B5.out.mono hbs)⟩
        case measure=>simp[intOf];omega
       | some s' =>
        have SK:=Za (E5 hc);have NX:Hid (Kf (Cz p split) (Ki p split) s (Kj p split s k)=some s'):=Za (E6 hc (by have:=HN.out;have:=HBL9.out;omega));have HRC2:Hid (Hn p split s'):=Za (.step HRC.out hc);have HRK2:=Za (Jk HOK.out hc);have HDO:Hid (∀ W,Below w.heap.size w W→ZE W x (Qb s)→Calls Tryz.prog 120 #[.slice va n vc,.agg #[.slice x.p.a x.p.n x.p.cap,.slice x.r.a x.r.n x.r.cap,.slice x.m.a x.m.n x.m.cap,.slice x.b.a nb x.b.cap],.bool split,.int .i64 (k:Int)] W (XG W (Qb s'))):=Za (fun W hW hx=>by
         have:=Eo _ p x s s' split k W (HP.out.below hW) hx HOK.out (by have:=HN.out;omega) HPR.out (HROW.out s HRC.out) HIV.out hc;rwa[HNB.out]at this)
        rw[hc]at HCAN;simp only[Option.isSome_some]at HCAN;clear hc;go_wp2_with (go_at_call 119;(with_reducible refine HCAN.out.mono ?_);rintro e w5 ⟨rfl,hb5⟩;have B5:=Za hb5;have hsx5:=(hb5.block S dl).trans SX3.out;have e0:w5.cell? ⟨S,0,none⟩=some (.slice x.p.a x.p.n x.p.cap):=Zc hsx5 (k:=0) rfl;have e1:w5.cell? ⟨S,1,none⟩=some (.slice x.r.a x.r.n x.r.cap):=Zc hsx5 (k:=1) rfl;have e2:w5.cell? ⟨S,2,none⟩=some (.slice x.m.a x.m.n x.m.cap):=Zc hsx5 (k:=2) rfl;have e3:w5.cell? ⟨S,3,none⟩=some (.slice x.b.a x.b.n x.b.cap):=Zc hsx5 (k:=3) rfl;rw[HNB.out]at e3;have el:=Zb e0;have SE5:=Za (SE4.out.below hb5);have LX5:=Za (LX3.out.step (.Zf hb5));have BL5:=Za (BL3.out.trans (hb5.mono hbs));have SX5:=Za hsx5;have hbs5:=BL5.out.size;clear d0 d1 d2 d3 dl hsx5 hb5)
        (with_reducible refine(HDO.out _ BL5.out LX5.out.now).mono ?_);rintro e w6 ⟨y,my,rfl,hs6,hb6⟩;have S6:=Za hs6;have B6:=Za (hb6.alloc hb6.size (.cells #[.slice y.p.a y.p.n y.p.cap,.slice y.r.a y.r.n y.r.cap,.slice y.m.a y.m.n y.m.cap,.slice y.b.a y.b.n y.b.cap] 141));have hsz6:=hb6.size;clear hs6 hb6
        go_wp2_with (go_at_call 111;(with_reducible refine(HKEY.out y s' _ HRC2.out (S6.out.rep.below (Ze _ _))).mono ?_);rintro e w7 ⟨rfl,hb7⟩;have B7:=Za (B6.out.trans (hb7.mono So));have HX7:Hid (w7.heap[w6.heap.size]? = some (.cells #[.slice y.p.a y.p.n y.p.cap,.slice y.r.a y.r.n y.r.cap,.slice y.m.a y.m.n y.m.cap,.slice y.b.a y.b.n y.b.cap] 141 (0,0))):=Za ((hb7.block w6.heap.size Sm).trans (heap_alloc_new w6 _));have hsz7:=B7.out.size;have LY7:=Za (((S6.out.loc (L:=LS) (B:=w.heap.size) Dc Dc).step (.alloc _ _)).step (.Zf hb7));clear hb7)
        (with_reducible refine(Jp vt ks2 (Ee s') w7 (SE5.out.below B7.out).tb.rep (HKSZ.out _ HRC2.out)).mono ?_);rintro e w8 ⟨D,rfl,hD,rfl⟩
        have hkl:ks2.length≤8796093022000:=by rw[KE3.out.len];have h:=Fs HV.out PM3.out.nd (fun u hu=>(XI HV.out u).1 (PM3.out.rc u hu));omega
        cases D
        ·have HNO:Hid (s'∉(s :: taken)++(init++new2)):=Za (fun h=>by have h2:=hD.2 ((KE3.out.mem _).2 (List.mem_map.2 ⟨_,h,rfl⟩));simp at h2)
         clear hD;go_wp2_with (first
          | (go_at_call 110;(with_reducible refine(HMARK.out vt ks2 s' w.heap.size w7 HRC2.out (SE5.out.below B7.out).tb hkl Om).mono ?_);rintro e w9 ⟨rfl,ht9,hk9⟩;have SE9:=Za ((SE5.out.below B7.out).mark ht9 hk9);have K9:=Za hk9;have hx9:=hk9.same HX7.out Dc;have f0:w9.cell? ⟨w6.heap.size,0,none⟩=some (.slice y.p.a y.p.n y.p.cap):=Zc hx9 (k:=0) rfl;have f1:w9.cell? ⟨w6.heap.size,1,none⟩=some (.slice y.r.a y.r.n y.r.cap):=Zc hx9 (k:=1) rfl;have f2:w9.cell? ⟨w6.heap.size,2,none⟩=some (.slice y.m.a y.m.n y.m.cap):=Zc hx9 (k:=2) rfl;have f3:w9.cell? ⟨w6.heap.size,3,none⟩=some (.slice y.b.a y.b.n y.b.cap):=Zc hx9 (k:=3) rfl;have fl9:=Zb f0;obtain⟨xs9,hxl9,hown9,hst9⟩:=SE9.out.wk;have O9:=Za hown9;have XL9:=Za hxl9;have ST9:=Za hst9;have hxb9:xs9.length≤68719476736:=(by rw[hxl9,List.length_map];have h1:=PM3.out.short;omega);have hsz9:=hk9.size;clear hown9 hxl9 hst9 ht9 hk9 hx9)
          | (at_builtin;refine Z8 Ob 141 Tryz.G6 rfl Tryz.underlying143 w.heap.size _ xs9 y (O9.out.alloc _) Dc hxb9 So rfl _ _ rfl rfl _ 0 1 rfl Zk ?_;intro v10 w10 hown10 hgr10 hat10;have O10:=Za hown10;have G10:=Za hgr10;have A10:=Za hat10;clear hown10 hgr10 hat10))
         rcases O10.out.shape with⟨_,e⟩ | ⟨g10,c10,rfl,hg10,hg10',hc10,_⟩
         ·simp at e
         have hl10:(xs9++[y]).length=(init++(new2++[s'])).length:=by have:=XL9.out;simp only[List.length_append,List.length_singleton,List.length_map]at this ⊢;omega
         have hgS10:g10≠S:=by
          rcases A10.out with h | ⟨q,h,hq⟩
          ·simp[Value.ownBlock]at h;omega
          ·simp[Value.ownBlock]at h;simp at hq;omega
         have bA:=Ze w9 (.cells #[.slice y.p.a y.p.n y.p.cap,.slice y.r.a y.r.n y.r.cap,.slice y.m.a y.m.n y.m.cap,.slice y.b.a y.b.n y.b.cap] 141);have kA:=YX.Zf (L:=LS) (B:=w.heap.size) bA;have k9:=K9.out.more (L':=LS) Dc (Nat.le_refl _);have hw10:=Q6.push (s:=Qb s') XL9.out (O9.out.below bA) (fun i x s h1 h2=>(ST9.out i x s h1 h2).step kA) ((LY7.out.step k9).step kA) O10.out G10.out;have k10:YX [141] w.heap.size _ w10:=YX.grown (O9.out.below bA) Dc (Nat.le_refl _) G10.out;have se10:=(SE9.out.below bA).Px hw10 k10;rw[← List.map_singleton (f:=Qb),← List.map_append,List.append_assoc]at se10;rw[hl10]at se10 ⊢;have hS9:w9.heap[S]? = _:=K9.out.same ((B7.out.block S el).trans SX5.out) Dc;have hSl:=(Array.getElem?_eq_some_iff.1 hS9).1;have hS10:=(G10.out.block S So (fun e=>by simp[Value.ownBlock]at e;omega)).trans ((heap_alloc_old w9 _ hSl).trans hS9);have lx10:=((((LX5.out.step (.Zf B7.out)).step k9).step kA).step (k10.more Dc (Nat.le_refl _)))
         have bl7:=BL5.out.trans (B7.out.mono hbs5);have bl9:=bl7.trans (K9.out.below bl7.size);have bl10:=(bl9.alloc bl9.size (.cells #[.slice y.p.a y.p.n y.p.cap,.slice y.r.a y.r.n y.r.cap,.slice y.m.a y.m.n y.m.cap,.slice y.b.a y.b.n y.b.cap] 141)).grown G10.out (by simp;have:=bl9.size;omega) (fun q hq=>(World.ownsRow.lt O9.out q hq).1);have pm10:=PM3.out.new NX.out HNO.out (by have h1:=G7 HOK.out (by have:=HN.out;omega);have h2:Kj p split s k < (Cz p split s).length:=(List.getElem?_eq_some_iff.1 ((Qv _ _).1 NX.out).choose_spec.1).1;omega) HRK2.out;rw[← SK.out]at pm10;have HF:=Za (⟨new2++[s'],ks2++[Ee s'],g10,c10,rfl,pm10,se10,KE3.out.push s',hS10,hgS10,lx10,bl10⟩:Bv p split w O S vt x s init taken (og++[YA s]) (Xv (YA s) outs) pv (k+1) _ w10);clear hw10 k10 se10 hS9 hSl hS10 lx10 bl7 bl9 bl10 pm10 bA kA k9;go_roundw
         case rel=>exact⟨k+1,Om,Gn,HF.out⟩
         case measure=>simp[intOf];omega
        ·have SK2:Hid (Ee s'∈ks2):=Za (hD.1 rfl)
         clear hD;have pm9:Se p split s (Kj p split s k+1) init new2 taken (og++[YA s]):=by
          obtain⟨u,hu,he⟩:=List.mem_map.1 ((KE3.out.mem _).1 SK2.out);exact PM3.out.Mq (key:=Ee) NX.out hu he HINJ.out
         rw[← SK.out]at pm9;have PM9:=Za pm9;clear pm9;go_wp2_with fail;go_roundw
         case rel=>exact⟨k+1,Om,Gn,new2,ks2,g2,cap2,by rw[HL2.out],PM9.out,SE5.out.below B7.out,KE3.out,(B7.out.block S el).trans SX5.out,hgS2,LX5.out.step (.Zf B7.out),BL5.out.trans (B7.out.mono hbs5)⟩
         case measure=>simp[intOf];omega
      ·obtain rfl:k=n+nb:=Om
       have hlt':¬ ((n:Int)+(nb:Int) < (n:Int)+(nb:Int)):=Om;have hall:(Cz p split s).length≤Kj p split s (n+nb):=by have h:=Uc p split s;rw[HN.out,← HBL9.out]at h;omega
       have HG:=Za (HPH.out ▸ PM3.out.Hs (by have h1:=G7 HOK.out (by have:=HN.out;omega);have h:=Uc p split s;rw[HN.out,← HBL9.out]at h;omega):Vb 13 (Y8 p) (init++new2) < _);have HF:=Za (⟨init++new2,s :: taken,_,Xv (YA s) outs,ks2,pv,g2,cap2,by rw[HL2.out],rfl,PM3.out.leave hall,SE4.out,KE3.out,RO2.out,BL3.out⟩:Hl p split w O vt (Vb 13 (Y8 p) (init++new2)) (.slice (some ⟨g2,0,none⟩) l2 cap2) wr);clear hall;go_wp2_with fail
       go_roundg (Vb 13 (Y8 p) (init++new2))
       case measure=>exact HG.out
       case rel=>exact HF.out
    -- end outs
def QK (n:Nat) (φ:List Int→Prop) (w:World) (e:Ending) (w':World):Prop:=∃ (vo:Zs) (L:List (List Int)),e = .returned (.slice vo.a vo.n vo.cap)∧YV Zq w' vo.v L∧Xr n L∧(∀ o,o∈L↔φ o)∧Below w.heap.size w w'
def Nf (p:List (List Ins)) (o:List Int):Prop:=Zg p=true∧∃ s,Zt (Zw p) (ZO p) s∧ZU p s=true∧YN s=o
def Dv (split:Bool) (p:List (List Ins)) (o:List Int):Prop:=Zg p=true∧∃ s,Hn p split s∧Y3 p s=true∧YA s=o
theorem Xr.nil (n:Nat):Xr n []:=⟨fun o h=>by simp at h,.nil⟩
theorem EI (split:Bool) (vp:Value) (p:List (List Ins)) (w:World) (hp:Z9 w vp p) (hl:p.flatten.length≤1048576) (hpl:p.length≤1048576) :
 Calls Tryz.prog (if split then 63 else 62) #[vp] w (QK (p.length * 3+3) (Dv split p) w):=by
 have kf:∀ (x y:Value) (w:World),(Instr.field 103 (.agg #[x,y]) 1).run Tryz.prog w = .ok y w:=fun x y w=>by kernel_rfl
 have HV:=Za (ZS vp p w hp hl hpl);have HR:=Za (fun (hv:Zg p=true) W (h:Z9 W vp p)=>I7 vp p split W h hv);have HP:=Za hp;clear hp hl hpl;generalize p.length * 3+3=n at *;cases hv:Zg p
 ·have F:Hid (∀ w1,Below w.heap.size w w1→QK n (Dv split p) w (.returned (.slice (some ⟨w1.heap.size,0,none⟩) 0 0)) (w1.alloc (.cells #[] 66))):=Za fun w1 hb=>⟨⟨some ⟨w1.heap.size,0,none⟩,0,0⟩,[],rfl,(Qo.empty (Ls:=[]) (B:=0) (base:=0) (Nat.zero_le _)).Ug,.nil _,fun o=>by simp[Dv,hv],hb.alloc hb.size _⟩
  cases split
  ·show Calls Tryz.prog 62 _ _ _
   go_enter Tryz.func62,Tryz.ntmps62;go_wp2_with (go_at_call 28;(with_reducible refine HV.out.mono ?_);rintro e w1 ⟨rfl,hb1⟩;have B1:=Za hb1;rw[hv];clear hb1);go_ret;exact F.out _ B1.out
  ·show Calls Tryz.prog 63 _ _ _
   go_enter Tryz.func63,Tryz.ntmps63;go_wp2_with (go_at_call 28;(with_reducible refine HV.out.mono ?_);rintro e w1 ⟨rfl,hb1⟩;have B1:=Za hb1;rw[hv];clear hb1);go_ret;exact F.out _ B1.out
 ·have F:Hid (∀ (w1 w2:World) (vo:Zs) (L:List (List Int)),Below w.heap.size w w1→Qo LS w1.heap.size w2 w1.heap.size vo.v L→Xr n L→(∀ o,o∈L↔∃ s,Hn p split s∧Y3 p s=true∧YA s=o)→Below w1.heap.size w1 w2→QK n (Dv split p) w (.returned (.slice vo.a vo.n vo.cap)) w2):=Za fun w1 w2 vo L h1 h2 h3 h4 h5=>⟨vo,L,rfl,h2.Ug,h3,fun o=>(h4 o).trans (by simp[Dv,hv]),h1.trans (h5.mono h1.size)⟩
  have HR2:=Za (HR.out hv);clear HR;cases split
  ·show Calls Tryz.prog 62 _ _ _
   go_enter Tryz.func62,Tryz.ntmps62;go_wp2_with (first
    | (go_at_call 28;(with_reducible refine HV.out.mono ?_);rintro e w1 ⟨rfl,hb1⟩;have B1:=Za hb1;rw[hv];clear hb1)
    | (go_at_call 92;(with_reducible refine(HR2.out _ (HP.out.below B1.out)).mono ?_);rintro e w2 ⟨cn,vo,L,-,rfl,h2,h3,h4,h5⟩;have G:=Za (F.out w1 w2 vo L B1.out h2 h3 h4 h5);clear h2 h3 h4 h5))
   go_ret;exact G.out
  ·show Calls Tryz.prog 63 _ _ _
   go_enter Tryz.func63,Tryz.ntmps63;go_wp2_with (first
    | (go_at_call 28;(with_reducible refine HV.out.mono ?_);rintro e w1 ⟨rfl,hb1⟩;have B1:=Za hb1;rw[hv];clear hb1)
    | (go_at_call 92;(with_reducible refine(HR2.out _ (HP.out.below B1.out)).mono ?_);rintro e w2 ⟨cn,vo,L,-,rfl,h2,h3,h4,h5⟩;have G:=Za (F.out w1 w2 vo L B1.out h2 h3 h4 h5);clear h2 h3 h4 h5))
   go_ret;exact G.out
theorem EJ (vp:Value) (p:List (List Ins)) (w:World) (hp:Z9 w vp p) (hl:p.flatten.length≤1048576) (hpl:p.length≤1048576) :
 Calls Tryz.prog 61 #[vp] w (QK (p.length * 3+3) (Nf p) w):=by
 have kf:∀ (x y:Value) (w:World),(Instr.field 103 (.agg #[x,y]) 1).run Tryz.prog w = .ok y w:=fun x y w=>by kernel_rfl
 have HV:=Za (ZS vp p w hp hl hpl);have HR:=Za (fun (hv:Zg p=true) W (h:Z9 W vp p)=>I6 vp p W h hv);have HP:=Za hp;clear hp hl hpl;cases hv:Zg p
 ·have F:Hid (∀ w1,Below w.heap.size w w1→QK (p.length * 3+3) (Nf p) w (.returned (.slice (some ⟨w1.heap.size,0,none⟩) 0 0)) (w1.alloc (.cells #[] 66))):=Za fun w1 hb=>⟨⟨some ⟨w1.heap.size,0,none⟩,0,0⟩,[],rfl,(Qo.empty (Ls:=[]) (B:=0) (base:=0) (Nat.zero_le _)).Ug,.nil _,fun o=>by simp[Nf,hv],hb.alloc hb.size _⟩
  generalize p.length * 3+3=n at *;go_enter Tryz.func61,Tryz.ntmps61;go_wp2_with (go_at_call 28;(with_reducible refine HV.out.mono ?_);rintro e w1 ⟨rfl,hb1⟩;have B1:=Za hb1;rw[hv];clear hb1);go_ret;exact F.out _ B1.out
 ·have F:Hid (∀ (w1 w2:World) (vo:Zs) (seen taken:List Sq) (L:List (List Int)),Below w.heap.size w w1→Qo LS w1.heap.size w2 w1.heap.size vo.v L→Lu (ZU p) YN (p.length * 3+3) (Zw p) (ZO p) [] seen taken L→Below w1.heap.size w1 w2→QK (p.length * 3+3) (Nf p) w (.returned (.slice vo.a vo.n vo.cap)) w2):=Za fun w1 w2 vo seen taken L h1 h2 h3 h5=>⟨vo,L,rfl,h2.Ug,h3.o.ok,fun o=>(h3.fin o).trans (by simp[Nf,hv]),h1.trans (h5.mono h1.size)⟩
  have HR2:=Za (HR.out hv);clear HR;generalize hn:p.length * 3+3=n at *;have HN:=Za hn;clear hn;go_enter Tryz.func61,Tryz.ntmps61;go_wp2_with (first
   | (go_at_call 28;(with_reducible refine HV.out.mono ?_);rintro e w1 ⟨rfl,hb1⟩;have B1:=Za hb1;rw[hv];clear hb1)
   | (go_at_call 91;(with_reducible refine(HR2.out _ (HP.out.below B1.out)).mono ?_);rintro e w2 ⟨seen,taken,L,h3,cn,vo,-,rfl,h2,h5⟩;have G:=Za (F.out w1 w2 vo seen taken L B1.out h2 (HN.out ▸ h3) h5);clear h2 h3 h5))
  go_ret;exact G.out
end Go.Proofs.YtngekjpklkjnbaaGreat
namespace Go.Proofs.YtngekjpklkjnbaaGreat
open Classical in
noncomputable def Gl (split:Bool) (q:List (List Ins)):Bool:=decide (Zg q=true∧∀ o,Dv split q o→Nf q o)
theorem EG {split:Bool}{q:List (List Ins)}:Gl split q=true↔Zg q=true∧∀ o,Dv split q o→Nf q o:=by
 unfold Gl;simp only[decide_eq_true_eq]
theorem LF {q:List (List Ins)}{o:List Int}(h:Dv false q o):Dv true q o:=⟨h.1,BQ (ZB h.1) h.2⟩
theorem FU {q:List (List Ins)}(h:Gl true q=true):Gl false q=true:=by
 rw[EG]at h ⊢;exact⟨h.1,fun o ho=>h.2 o (LF ho)⟩
noncomputable def RU (split:Bool) (p:List (List Ins)) (L:List Gp):Bool:=XV p L&&Gl split (Y1 (Xo L) p)
noncomputable def YF (split:Bool) (p:List (List Ins)):Option (List Gp):=if Zg p=true∧(ZF p).length≤8 then Qh (RU split p) (ZF p) else none
theorem Ur {gs:List Gp}{n:Nat}:∀ x∈YL gs n,x.length < n:=by
 intro x hx;unfold YL at hx;obtain⟨m,h1,h2⟩:=List.mem_flatMap.1 hx;rw[Jl gs m x h2];exact List.mem_range.1 h1
theorem DU (gs:List Gp) (a b:Nat):∃ r,YL gs (a+b)=YL gs a++r:=by
 induction b with
 | zero=>exact⟨[],Sm⟩
 | succ b ih =>
  obtain⟨r,hr⟩:=ih;exact⟨r++Zn gs (a+b),by rw[show a+(b+1)=(a+b)+1 by omega,Qf,hr,List.append_assoc]⟩
theorem Jr {ok:List Gp→Bool}{gs L:List Gp}(h:Qh ok gs=some L):ok L=true∧L∈YL gs 4:=⟨List.find?_some h,List.mem_of_find?_eq_some h⟩
theorem RH {ok:List Gp→Bool}{gs L:List Gp}(h:Qh ok gs=some L):L.Sublist gs∧L.length < 4:=by
 have h1:=(Jr h).2;refine⟨?_,Ur L h1⟩;unfold YL at h1;obtain⟨m,-,h2⟩:=List.mem_flatMap.1 h1;exact Cc gs m L h2
theorem RF {ok:List Gp→Bool}{gs L less:List Gp}(h:Qh ok gs=some L) (hs:less.Sublist gs) (hl:less.length < L.length):ok less=false:=by
 cases hok:ok less with
 | false=>rfl
 | true =>
  exfalso;have hL:=Ur L (Jr h).2;have hm:less∈YL gs (less.length+1):=by
   rw[Qf];exact List.mem_append.2 (.inr (UL hs))
  obtain⟨x,hx⟩:∃ x,(YL gs (less.length+1)).find? ok=some x:=by
   cases hf:(YL gs (less.length+1)).find? ok with
   | some x=>exact⟨x,rfl⟩
   | none=>have:=List.find?_eq_none.1 hf less hm;simp[hok]at this
  obtain⟨r,hr⟩:=DU gs (less.length+1) (4 - (less.length+1));rw[show less.length+1+(4 - (less.length+1))=4 by omega]at hr;have h2:(YL gs 4).find? ok=some L:=h;rw[hr,List.find?_append,hx]at h2;have e:x=L:=by simpa using h2
  have:=Ur x (List.mem_of_find?_eq_some hx);rw[e]at this;omega
theorem IC {ok:List Gp→Bool}{gs L:List Gp}(hs:L.Sublist gs) (hl:L.length < 4) (hok:ok L=true):∃ a,Qh ok gs=some a∧a.length≤L.length:=by
 have hm:L∈YL gs 4:=by
  unfold YL;exact List.mem_flatMap.2 ⟨L.length,List.mem_range.2 hl,UL hs⟩
 cases h:Qh ok gs with
 | none=>have:=List.find?_eq_none.1 h L hm;simp[hok]at this
 | some a =>
  refine⟨a,rfl,?_⟩;rcases Nat.lt_or_ge L.length a.length with h1 | h1
  ·have:=RF h hs h1
   rw[hok]at this;cases this
  ·exact h1
theorem Et {p:List (List Ins)}{b:List Gp}(h:YF true p=some b):∃ a,YF false p=some a∧a.length≤b.length:=by
 unfold YF at h ⊢;split at h
 ·rename_i hc
  rw[if_pos hc];have h1:=RH h;refine IC h1.1 h1.2 ?_;have h2:=(Jr h).1;unfold RU at h2 ⊢;rw[Bool.and_eq_true]at h2 ⊢;exact⟨h2.1,FU h2.2⟩
 ·cases h
theorem RI {split:Bool}{p:List (List Ins)}{L:List Gp}(h:YF split p=some L):RU split p L=true∧(∀ i,i < L.length→RU split p (L.eraseIdx i)=false)∧L.length < 4∧Zg p=true:=by
 unfold YF at h;split at h
 ·rename_i hc
  have h1:=RH h;refine⟨(Jr h).1,fun i hi=>RF h ((List.eraseIdx_sublist L i).trans h1.1) ?_,h1.2,hc.1⟩;rw[List.length_eraseIdx,if_pos hi];omega
 ·cases h
end Go.Proofs.YtngekjpklkjnbaaGreat
namespace Go.Proofs.YtngekjpklkjnbaaGreat
open Go.RowKit
def Bb (split:Bool):ByteArray:=if split then ⟨#[112,115,111]⟩ else ⟨#[116,115,111]⟩
theorem Ld {a b:List (List Int)}:Gs a b=true↔∀ o∈a,o∈b:=by
 simp[Gs,KY]
theorem KA (split:Bool) (vp:Value) (p:List (List Ins)) (w:World) (hp:Z9 w vp p) (hl:p.flatten.length≤1048576) (hpl:p.length≤1048576) :
 Calls Tryz.prog 30 #[vp,.string (Bb split)] w (QK (p.length * 3+3) (Dv split p) w):=by
 have H:=Za (EI split vp p w hp hl hpl);clear hp hl hpl;generalize p.length * 3+3=n at *;cases split
 ·have H:Hid (Calls Tryz.prog 62 #[vp] w (QK n (Dv false p) w)):=Za H.out
  show Calls Tryz.prog 30 #[vp,.string ⟨#[116,115,111]⟩] w _;have n0:((⟨#[116,115,111]⟩:ByteArray).toList==[115,101,113])=false:=Kr;have n1:((⟨#[116,115,111]⟩:ByteArray).toList==[116,115,111])=true:=Kr;go_enter Tryz.func30,Tryz.ntmps30;go_wp2_with (go_at_call 62;(with_reducible refine H.out.mono ?_);rintro e w1 ⟨⟨va,vn,vc⟩,L,rfl,h2,h3,h4,h5⟩;have F:Hid (QK n (Dv false p) w (.returned (.slice va vn vc)) w1):=Za ⟨⟨va,vn,vc⟩,L,rfl,h2,h3,h4,h5⟩;clear h2 h3 h4 h5);go_ret;exact F.out
 ·have H:Hid (Calls Tryz.prog 63 #[vp] w (QK n (Dv true p) w)):=Za H.out
  show Calls Tryz.prog 30 #[vp,.string ⟨#[112,115,111]⟩] w _;have n0:((⟨#[112,115,111]⟩:ByteArray).toList==[115,101,113])=false:=Kr;have n1:((⟨#[112,115,111]⟩:ByteArray).toList==[116,115,111])=false:=Kr;have n2:((⟨#[112,115,111]⟩:ByteArray).toList==[112,115,111])=true:=Kr;go_enter Tryz.func30,Tryz.ntmps30;go_wp2_with (go_at_call 63;(with_reducible refine H.out.mono ?_);rintro e w1 ⟨⟨va,vn,vc⟩,L,rfl,h2,h3,h4,h5⟩;have F:Hid (QK n (Dv true p) w (.returned (.slice va vn vc)) w1):=Za ⟨⟨va,vn,vc⟩,L,rfl,h2,h3,h4,h5⟩;clear h2 h3 h4 h5);go_ret;exact F.out
def P7 (split:Bool) (p:List (List Ins)) (w:World) (e:Ending) (w':World):Prop:=∃ b:Bool,e = .returned (.bool b)∧(b=true↔∀ o,Dv split p o→Nf p o)∧Below w.heap.size w w'
theorem Ct (split:Bool) (vp:Value) (p:List (List Ins)) (w:World) (hp:Z9 w vp p) (hl:p.flatten.length≤1048576) (hpl:p.length≤1048576) :
 Calls Tryz.prog 43 #[vp,.string (Bb split)] w (P7 split p w):=by
 have HMO:=Za (fun W hW=>KA split vp p W hW hl hpl);have HSQ:=Za (fun W hW=>EJ vp p W hW hl hpl);have HP:=Za hp;have F:Hid (∀ w1 (la lb:List (List Int)),(∀ o,o∈la↔Dv split p o)→(∀ o,o∈lb↔Nf p o)→Below w.heap.size w w1→P7 split p w (.returned (.bool (Gs la lb))) w1):=Za fun w1 la lb ha hb h=>⟨_,rfl,by
  rw[Ld];simp only[ha,hb],h⟩
 clear hp hl hpl;generalize Bb split=nm at *;generalize p.length * 3+3=n at *;go_enter Tryz.func43,Tryz.ntmps43;go_wp2_with (first
  | (go_at_call 30;(with_reducible refine(HMO.out w HP.out).mono ?_);rintro e w3 ⟨⟨va,vn,vc⟩,la,rfl,ha,-,hma,hb3⟩;have A3:=Za ha;have M3:=Za hma;have B3:=Za hb3;clear ha hma hb3)
  | (go_at_call 61;(with_reducible refine(HSQ.out w3 (HP.out.below B3.out)).mono ?_);rintro e w4 ⟨⟨ua,un,uc⟩,lb,rfl,hb,-,hmb,hb4⟩;have A4:=Za hb;have A5:=Za (A3.out.below hb4);have M4:=Za hmb;have B4:=Za (B3.out.trans (hb4.mono B3.out.size));clear hb hmb hb4)
  | (go_at_call 32;(with_reducible refine(Cq _ _ la lb w4 A5.out A4.out).mono ?_);rintro e w5 ⟨rfl,hb5⟩;have G:=Za (F.out w5 la lb M3.out M4.out (B4.out.trans (hb5.mono B4.out.size)));clear hb5))
 go_ret;exact G.out
def F9 (s:ByteArray):Bool:=(s.toList==[116,115,111])||(s.toList==[112,115,111])
theorem DD {s:ByteArray}{l:List UInt8}(h:(s.toList==l)=true):s=⟨l.toArray⟩:=by
 rw[ByteArray.toList_eq]at h;exact ByteArray.ext (Array.toList_inj.1 (by simpa using h))
theorem FA {s:ByteArray}(h:F9 s=true):∃ split,s=Bb split:=by
 unfold F9 at h;rw[Bool.or_eq_true]at h;rcases h with h | h
 ·exact⟨false,DD h⟩
 ·exact⟨true,DD h⟩
theorem Ny (split:Bool):F9 (Bb split)=true:=by cases split <;> (unfold F9 Bb;kernel_rfl)
noncomputable def QB (s:ByteArray) (p:List (List Ins)):Option (List Gp):=if F9 s=true then YF (decide (s=Bb true)) p else none
theorem Pb:Bb false≠Bb true:=by
 intro h;have:=congrArg ByteArray.data h;simp[Bb]at this
theorem Kw (split:Bool) (p:List (List Ins)):QB (Bb split) p=YF split p:=by
 unfold QB;rw[if_pos (Ny split)];cases split
 ·rw[decide_eq_false Pb]
 ·rw[decide_eq_true rfl]
theorem Cw {s:ByteArray}(h:F9 s=false) (p:List (List Ins)):QB s p=none:=by unfold QB;rw[h];rfl
theorem Eu {p:List (List Ins)}(h:Zg p=false) (s:ByteArray):QB s p=none:=by
 unfold QB YF;rw[h];simp
def Xw (r:Option (List Gp)) (w:World) (e:Ending) (w':World):Prop:=∃ u:Zs,e = .returned (.tuple #[.slice u.a u.n u.cap,.bool r.isSome])∧Own ZZ 25 w' w.heap.size u.v (r.getD [])∧Below w.heap.size w w'
theorem Rr (s:ByteArray) (w:World):Calls Tryz.prog 35 #[.string s] w fun e w'=>e = .returned (.bool (F9 s))∧w=w':=by
 have H:Hid (F9 s=((s.toList==[116,115,111])||(s.toList==[112,115,111]))):=Za rfl;generalize F9 s=R at *;cases h0:(s.toList==[116,115,111]) <;> cases h1:(s.toList==[112,115,111])
 all_goals
  rw[h0,h1]at H;go_enter Tryz.func35,Tryz.ntmps35;go_wp2_with fail;go_ret;rw[H.out];exact⟨rfl,rfl⟩
theorem CJ {split:Bool}{q:List (List Ins)}{b:Bool}(h:b=true↔Zg q=true∧∀ o,Dv split q o→Nf q o):Gl split q=b:=Bool.eq_iff_iff.2 (EG.trans h.symm)
theorem YU (vp:Value) (p:List (List Ins)) (s:ByteArray) (w:World) (hp:Z9 w vp p) (hl:p.flatten.length≤1048576) :
 Calls Tryz.prog 15 #[vp,.string s] w (Xw (QB s p) w):=by
 have HV:=Za (Yz vp p w hp hl);have HIB:=Za (Rr s);have HP:=Za hp;have HGP:=Za (fun W (h:Z9 W vp p)=>DV vp p W h hl);have HPF:=Za (fun W v2 L (h:Z9 W vp p) hL=>Vg vp v2 p L W h hL hl);clear hp hl;have F:QB s p=none→∀ w1,Below w.heap.size w w1→Xw (QB s p) w (.returned (.tuple #[.slice none 0 0,.bool false])) w1:=fun h w1 hb=>⟨⟨none,0,0⟩,by rw[h];rfl,by rw[h];exact Own.nil _ _ _,hb⟩
 cases hv:Zg p
 ·have F2:=Za (F (Eu hv s))
  clear F HGP HPF;generalize QB s p=R at *;go_enter Tryz.func15,Tryz.ntmps15;go_wp2_with (go_at_call 34;(with_reducible refine HV.out.mono ?_);rintro e w1 ⟨rfl,hb1⟩;have B1:=Za hb1;rw[hv];clear hb1);go_ret2;exact F2.out _ B1.out
 ·cases hib:F9 s
  ·have F2:=Za (F (Cw hib p))
   clear F HGP HPF;rw[hib]at HIB;generalize QB s p=R at *;go_enter Tryz.func15,Tryz.ntmps15;go_wp2_with (first
    | (go_at_call 34;(with_reducible refine HV.out.mono ?_);rintro e w1 ⟨rfl,hb1⟩;have B1:=Za hb1;rw[hv];clear hb1)
    | (go_at_call 35;(with_reducible refine(HIB.out _).mono ?_);rintro e w2 ⟨rfl,rfl⟩))
   go_ret2;exact F2.out _ B1.out
  ·obtain⟨split,rfl⟩:=FA hib
   rw[hib]at HIB;rw[Kw]at F ⊢;have HLV:Hid (YF split p=if (ZF p).length≤8 then Qh (RU split p) (ZF p) else none):=Za (by
    unfold YF;rw[hv];simp)
   have HRP:=Za (fun W v L (hW:Z9 W v (Y1 (Xo L) p)) (hok:XV p L=true)=>show Calls Tryz.prog 26 #[v,.string (Bb split)] W (VO split (Y1 (Xo L) p) W) from Jh split v (Y1 (Xo L) p) W hW (Nat.le_trans (U7 (Zv hv).1 (fun r hr=>((Zv hv).2.2.1 r hr).1)) Dc));have HSEL:=Za (fun (n:Nat) v W (hn:n≤1000) (h8:(ZF p).length≤8) h=>Ah n v (ZF p) W hn h8 h);have HPV:Hid (∀ L,XV p L=true→Ac p L=Y1 (Xo L) p):=Za (fun L h=>by unfold Ac;rw[if_pos h]);have HOK:Hid (∀ L,RU split p L=(XV p L&&Gl split (Y1 (Xo L) p))):=Za (fun L=>rfl);have FF:=Za F;clear F;generalize YF split p=R at *;generalize Bb split=nm at *;generalize hgs:ZF p=gs at *;clear hgs;go_enter Tryz.func15,Tryz.ntmps15;go_wp2_with (first
    | (go_at_call 34;(with_reducible refine HV.out.mono ?_);rintro e w1 ⟨rfl,hb1⟩;have B1:=Za hb1;rw[hv];clear hb1)
    | (go_at_call 35;(with_reducible refine(HIB.out _).mono ?_);rintro e w2 ⟨rfl,rfl⟩))
   (with_reducible refine(HGP.out w1 (HP.out.below B1.out)).mono ?_);rintro e w2 ⟨gv,rfl,hg2,hb2⟩
   obtain⟨⟨ga,gn,gc⟩,hve,hgn⟩:=hg2.Yy;have hve:gv = .slice ga gn gc:=hve;subst hve;have G2:=Za (hg2.mono B1.out.size);have B2:=Za (B1.out.trans (hb2.mono B1.out.size));have HGN:=Za hgn
   clear hb2 hg2;by_cases hk:8 < gn
   ·have hk':decide ((8:Int) < gn)=true:=decide_eq_true Om
    have F2:=Za (FF.out (by rw[HLV.out,if_neg (by have:gn=gs.length:=hgn;omega)]) w2 B2.out);clear hgn FF;go_wp2_with fail;go_ret2;exact F2.out
   ·have hk':decide ((8:Int) < gn)=false:=decide_eq_false Om
    have HLE:Hid (gs.length≤8):=Za (by have:gn=gs.length:=hgn;omega);have HLV2:Hid (R=Qh (RU split p) gs):=Za (by rw[HLV.out,if_pos HLE.out]);clear hgn HLV hk;go_wp2_with fail
    go_loopw [25] (fun i wr => ∃ n:Nat,n≤4∧i = .int .i64 n∧Hid (∀ x∈YL gs n,RU split p x=false)∧Below w.heap.size w wr∧Below w2.heap.size w2 wr) (fun i _=>4 - (intOf i).toNat)
    case atStart=>exact⟨0,Nat.zero_le _,rfl,Za (fun x hx=>by simp[YL]at hx),B2.out,Below.refl _ _⟩
    case round =>
     obtain⟨n,hn,rfl,HNO,hbr,hb2r⟩:=hrel;have HBR:=Za hbr;have HB2R:=Za hb2r
     by_cases hlt:n < 4
     ·have hlt':(n:Int) < 4:=Om
      have HGV:=Za (G2.out.below hb2r).rep;clear hbr hb2r;go_wp2_with fail
      (with_reducible refine(HSEL.out n _ wr Om HLE.out HGV.out).mono ?_);rintro e w4 ⟨⟨ra,rn,rc⟩,rfl,ou,hb4⟩
      have hrn:rn=(Zn gs n).length:=by
       rcases ou.shape with⟨h1,h2⟩ | ⟨g,cap,h1,-⟩
       ·simp only[Zs.v,Value.slice.injEq]at h1;rw[h1.2.1,h2];rfl
       ·simp only[Zs.v,Value.slice.injEq]at h1;exact h1.2.1
      have HRN:=Za hrn.symm;have HRS:=Za ou;have HB4:=Za (HBR.out.trans (hb4.mono HBR.out.size));have HB24:=Za (HB2R.out.trans (hb4.mono HB2R.out.size))
      have hrs:w.heap.size≤wr.heap.size:=HBR.out.size;have HZ:=Za hrs;have hr256:rn≤256:=by rw[hrn];exact Nat.le_trans (Qr _ n) (Nat.le_trans (Nat.pow_le_pow_right Dc HLE.out) (by decide:2 ^ 8≤256))
      obtain⟨Z0,hZ0⟩:∃ Z0,Z0=wr.heap.size:=⟨_,rfl⟩
      rw[← hZ0]at HRS HZ;clear ou hb4 hrn hrs hZ0;go_wp2_with fail
      go_loopw [32] (fun i wr => ∃ j:Nat,j≤rn∧i = .int .i64 j∧Hid (∀ x∈(Zn gs n).take j,RU split p x=false)∧Below w4.heap.size w4 wr) (fun i _=>rn - (intOf i).toNat)
      case atStart=>exact⟨0,Nat.zero_le _,rfl,Za (fun x hx=>by simp at hx),Below.refl _ _⟩
      case round =>
       obtain⟨j,hj,rfl,HNJ,hbj⟩:=hrel;have HBJ:=Za hbj;by_cases hltj:j < rn
       ·have hltj':=Zh hltj
        obtain⟨L,hLj⟩:=Zd (xs:=Zn gs n) (k:=j) (by rw[HRN.out];exact hltj);obtain⟨⟨sa,sn,sc⟩,gg,hga,hg,g0,hrow⟩:=Y7.row (Qx.below HRS.out hbj) hLj;subst hga;have HROW:=Za hrow;have HLJ:=Za hLj
        have HPJ:=Za (HP.out.below ((HB4.out.trans (hbj.mono HB4.out.size))));have HBW:=Za (HB4.out.trans (hbj.mono HB4.out.size));have HSUB:Hid (∀ x∈(Zn gs n).take (j+1),x∈(Zn gs n).take j∨x=L):=Za (fun x hx=>by
         rw[List.take_add_one,hLj]at hx;rcases List.mem_append.1 hx with h | h
         ·exact .inl h
         ·simp at h;exact .inr h)
        clear hrow hLj hbj;have HOKL:=Za (HOK.out L);have HC:=Za (HPF.out wr (.slice sa sn sc) L HPJ.out HROW.out.rep);have HPVL:=Za (HPV.out L);have HRPL:=Za (fun W v h h2=>HRP.out W v L h h2);cases hpo:XV p L
        ·have HNO2:Hid (RU split p L=false):=Za (by rw[HOKL.out,hpo];rfl)
         rw[hpo]at HC;go_wp2_with (go_at_call 25;(with_reducible refine HC.out.mono ?_);rintro e w5 ⟨v5,rfl,-,hb5⟩;have B5:=Za hb5;clear hb5);go_roundw
         case rel=>exact⟨j+1,Om,Gn,Za (fun x hx=>by rcases HSUB.out x hx with h | rfl;exact HNJ.out x h;exact HNO2.out),HBJ.out.trans (B5.out.mono HBJ.out.size)⟩
         case measure=>simp[intOf];omega
        ·rw[hpo]at HC
         have HPO:=Za hpo;rw[HPVL.out hpo]at HC;go_wp2_with (go_at_call 25;(with_reducible refine HC.out.mono ?_);rintro e w5 ⟨v5,rfl,ho5,hb5⟩;have B5:=Za hb5;have O5:=Za ho5.rep;clear hb5 ho5)
         (with_reducible refine(HRPL.out w5 v5 O5.out HPO.out).mono ?_);rintro e w6 ⟨b6,rfl,hb6,hbw6⟩
         have B6:=Za (B5.out.trans (hbw6.mono B5.out.size));have HRB:Hid (Gl split (Y1 (Xo L) p)=b6):=Za (CJ hb6);clear hb6 hbw6;cases b6
         ·have HNO2:Hid (RU split p L=false):=Za (by rw[HOKL.out,HRB.out];simp)
          go_wp2_with fail;go_roundw
          case rel=>exact⟨j+1,Om,Gn,Za (fun x hx=>by rcases HSUB.out x hx with h | rfl;exact HNJ.out x h;exact HNO2.out),HBJ.out.trans (B6.out.mono HBJ.out.size)⟩
          case measure=>simp[intOf];omega
         ·have HYES:Hid (R=some L):=Za (by
           rw[HLV2.out];exact RE hlt HNO.out HNJ.out HLJ.out (by rw[HOKL.out,HPO.out,HRB.out];rfl))
          have HF:Hid (Xw R w (.returned (.tuple #[.slice sa sn sc,.bool true])) w6):=Za ⟨⟨sa,sn,sc⟩,by rw[HYES.out];rfl,by rw[HYES.out];exact(HROW.out.mono HZ.out).below B6.out,HBW.out.trans (B6.out.mono HBW.out.size)⟩;go_wp2_with fail;go_ret2;exact HF.out
       ·obtain rfl:j=rn:=Om
        have HNO2:Hid (∀ x∈YL gs (n+1),RU split p x=false):=Za (fun x hx=>by
         rw[Qf]at hx;rcases List.mem_append.1 hx with h | h
         ·exact HNO.out x h
         ·exact HNJ.out x (by rw[List.take_of_length_le (by rw[HRN.out];exact Nat.le_refl _)];exact h))
        clear hbj;go_wp2_with fail;go_roundw
        case rel=>exact⟨n+1,Om,Gn,HNO2,HB4.out.trans (HBJ.out.mono HB4.out.size),HB24.out.trans (HBJ.out.mono HB24.out.size)⟩
        case measure=>simp[intOf];omega
     ·obtain rfl:n=4:=Om
      have F2:=Za (FF.out (by rw[HLV2.out];exact Kv HNO.out) wr HBR.out);clear hbr hb2r;go_wp2_with fail;go_ret2;exact F2.out
end Go.Proofs.YtngekjpklkjnbaaGreat