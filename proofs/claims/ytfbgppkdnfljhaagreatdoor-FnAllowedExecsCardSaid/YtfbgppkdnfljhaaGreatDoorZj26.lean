/-
  Valid models, broken rules and allowed candidates, in the program and in the reference. Condition: the listed variable holds the names; the candidate is one of a valid program.
-/
import Derived.Test.YtfbgppkdnfljhaaGreatDoorZj20
import Derived.Test.YtfbgppkdnfljhaaGreatDoorZj14
import Derived.Deep.AppendLies
import Derived.Deep.RegionLaw
import Derived.Test.YtfbgppkdnfljhaaGreatDoorZj21
import Derived.Test.YtfbgppkdnfljhaaGreatDoorZj17
set_option maxHeartbeats 6400000
set_option maxRecDepth 100000
namespace Go.Proofs.YtfbgppkdnfljhaaGreatDoor
open Go.RowKit
theorem Tryz.infoIntSS:(Tryz.prog.info? 58).map (fun i=>(i.zero,i.size,i.bytes))=some (some (.slice none 0 0),1,24):=by kernel_rfl
theorem below_lit2 {w w':World} {l:Array Value} {T:TypeId} {n c:Nat} (hg:(w.alloc (.cells l T)).grownBy w' (Value.slice (some ⟨w.heap.size,0,none⟩) n c).ownBlock):Below w.heap.size w w':=
 ((Below.refl w.heap.size w).alloc (Nat.le_refl _) (.cells l T)).grown hg (by simp) (fun q hq=>by simp [Value.ownBlock] at hq;omega)
def Rany (_ _:Dd):Prop:=True
def PhiO (d:Dd) (W:World) (u:Slc) (o:List (List Int)):Prop:=d.us.length=o.length∧Rep SlcE W u.v d.us∧∀ (i:Nat) (s:Slc) (r:List Int),d.us[i]? = some s→o[i]? = some r→Rep IntE W s.v r
abbrev RowsO (w:World) (base:Nat) (v:Value) (L:List (List (List Int))):Prop:=OwnF SlcE 58 Rany PhiO w base v L
def RowsH (w:World) (lo base:Nat) (v:Value) (L:List (List (List Int))):Prop:=∃ us ds,OwnFU SlcE 58 Rany PhiO us ds w lo v L∧Own SlcE 58 w base v us
theorem PhiO.rep2 {d:Dd} {W:World} {u:Slc} {o:List (List Int)} (h:PhiO d W u o):RepNN W u.v o:=⟨d.us,h.1,h.2.1,h.2.2⟩
theorem PhiO.cons {w:World} {lo lo':Nat} {s f u:Slc} {us:List Slc} {x:List Int} {o:List (List Int)} {a b:Nat} (h1:Own SlcE 57 w lo' s.v (f :: us)) (hlo:lo≤lo') (h2:LocR 58 lo w.heap.size w (fun W=>Rep IntE W f.v x)) (h3:LocR 58 lo w.heap.size w (fun W=>PhiO ⟨a,b,us⟩ W u o)) :
 LocR 58 lo w.heap.size w (fun W=>PhiO ⟨lo,w.heap.size,f :: us⟩ W s (x :: o)):=by
 have h4:=(LocR.own (T:=58) (by decide) h1).wide hlo (Nat.le_refl _) (Nat.le_refl _)
 refine ((h4.and h2).and h3).map fun V ⟨⟨k1,k2⟩,k3⟩=>⟨by simp [k3.1],k1.rep,fun i s' r hs hr => ?_⟩
 cases i with
 | zero=>simp at hs hr;subst hs;subst hr;exact k2
 | succ i=>exact k3.2.2 i s' r (by simpa using hs) (by simpa using hr)
theorem RowsO.row {w:World} {base:Nat} {a:Option Addr} {n c:Nat} {L:List (List (List Int))} (h:RowsO w base (.slice a n c) L) {k:Nat} {o:List (List Int)} (hr:L[k]? = some o) :
 ∃ (u:Slc) (us:List Slc) (g p q:Nat),a=some ⟨g,0,none⟩∧g < w.heap.size∧w.cell? ⟨g,k,none⟩=some (.slice u.a u.n u.cap)∧LocR 58 base w.heap.size w (fun W=>PhiO ⟨p,q,us⟩ W u o):=by
 obtain ⟨us,ds,h⟩:=h
 obtain ⟨u,d,g, -, -,h1, -,h2,h3,hb,h4⟩:=h.at hr
 have h5:=h3 0 _ rfl
 simp only [SlcE,Nat.mul_one,Nat.add_zero] at h5
 exact ⟨u,d.us,g,d.lo,d.hi,h1,h2,h5,h4.wide hb h4.le (Nat.le_refl _)⟩
theorem RowsO.len {w:World} {base:Nat} {a:Option Addr} {n c:Nat} {L:List (List (List Int))} (h:RowsO w base (.slice a n c) L):n=L.length:=by
 rcases h.shape with ⟨h1,h2⟩ | ⟨g,cap,h1, -⟩
 ·simp only [Value.slice.injEq] at h1;rw [h1.2.1,h2];rfl
 ·simp only [Value.slice.injEq] at h1;exact h1.2.1
theorem RowsI.len {w:World} {base:Nat} {a:Option Addr} {n c:Nat} {L:List (List Int)} (h:RowsI w base (.slice a n c) L):n=L.length:=by
 rcases h.shape with ⟨h1,h2⟩ | ⟨g,cap,h1, -⟩
 ·simp only [Value.slice.injEq] at h1;rw [h1.2.1,h2];rfl
 ·simp only [Value.slice.injEq] at h1;exact h1.2.1
theorem RowsH.below {w w':World} {lo base:Nat} {v:Value} {L:List (List (List Int))} (h:RowsH w lo base v L) (hb:Below w.heap.size w w'):RowsH w' lo base v L:=by
 obtain ⟨us,ds,h,k⟩:=h
 exact ⟨us,ds,h.below hb,k.below hb⟩
theorem RowsH.app {us:List Slc} {ds:List Dd} {w w2:World} {lo base:Nat} {v v':Value} {L:List (List (List Int))} (h:OwnFU SlcE 58 Rany PhiO us ds w lo v L) {s:Slc} {d:Dd} {o:List (List Int)} (hlb:lo≤base)
 (hn:LocR 58 d.lo d.hi w (fun W=>PhiO d W s o)) (hd:lo≤d.lo) (ho:Own SlcE 58 w2 base v' (us++[s])) (hg:w.grownBy w2 v.ownBlock):RowsH w2 lo base v' (L++[o]):=
 ⟨us++[s],ds++[d],OwnFU.app h (ho.mono hlb) hg hd hn (fun _ _=>trivial),ho⟩
def ordQ (es:List Ev) (l:Nat) (q:List Int):List (List (List Int)):=(ordsL es (l+1)).map (((wrL es l).headD 0 :: q) :: ·)
theorem ordsL_row {es:List Ev}:∀ (n l:Nat),l+n=3→∀ o∈ordsL es l,o.length=n:=by
 intro n
 induction n with
 | zero =>
  intro l hl o ho
  obtain rfl:l=3:=by omega
  rw [ordsL_end] at ho;simp at ho;subst ho;rfl
 | succ n ih =>
  intro l hl o ho
  rw [ordsL_step (by omega),List.mem_flatMap] at ho
  obtain ⟨q, -,hq⟩:=ho
  rw [List.mem_map] at hq
  obtain ⟨y,hy,rfl⟩:=hq
  rw [List.length_cons,ih (l+1) (by omega) y hy]
theorem l6Orders_any (es:List Ev) (hl:es.length≤1048576) (hords:∀ l,(ordsL es l).length≤3000) (hperms:∀ l:Nat,l < 3→fact (wrL es l).tail.length≤3000) (hwr:∀ l:Nat,l < 3→0 < (wrL es l).length) (n:Nat):∀ (v:Value) (l:Nat) (w:World),l+n=3→Rep EvE w v es →
 Calls Tryz.prog 139 #[v, .int .i64 l] w fun e w' => ∃ u:Slc,e = .returned (.slice u.a u.n u.cap)∧RowsO w' w.heap.size u.v (ordsL es l)∧Below w.heap.size w w':=by
 induction n with
 | zero =>
  intro v l w hi he
  obtain ⟨a,c,rfl, -, -, -, -⟩:=he.open
  obtain rfl:l=3:=by omega
  rw [ordsL_end]
  generalize es.length=m at *
  go_enter Tryz.func139,Tryz.ntmps139
  go_wp2_with fail
  go_ret
  have hb1:=(Below.refl w.heap.size w).alloc (Nat.le_refl _) (.cells #[] 57)
  have h0:=Own.empty (E:=SlcE) 57 w (Nat.le_refl _)
  have hz:(w.alloc (.cells #[] 57)).heap.size=w.heap.size+1:=by simp
  have h1:=Own.lit1 (E:=SlcE) (T:=58) (w.alloc (.cells #[] 57)) (base:=w.heap.size) (by omega) ⟨some ⟨w.heap.size,0,none⟩,0,0⟩
  refine ⟨⟨some ⟨w.heap.size+1,0,none⟩,1,1⟩,rfl,⟨[⟨some ⟨w.heap.size,0,none⟩,0,0⟩],[⟨w.heap.size,w.heap.size+1,[]⟩],rfl,rfl,by simp,by rw [hz] at h1;exact h1,fun i u d x h2 h3 h4 => ?_⟩,hb1.alloc (by omega) _⟩
  cases i with
  | succ i=>simp at h2
  | zero =>
   simp at h2 h3 h4
   subst h2;subst h3;subst h4
   refine ⟨Nat.le_refl _, ?_⟩
   have h5:=(LocR.own (T:=58) (by decide) h0).below ((Below.refl _ (w.alloc (.cells #[] 57))).alloc (Nat.le_refl _) (.cells (SlcE.c ⟨some ⟨w.heap.size,0,none⟩,0,0⟩).toArray 58))
   rw [hz] at h5
   exact h5.map fun V k=>⟨rfl,k.rep,fun i s r hs=>by simp at hs⟩
 | succ n ih =>
  intro v l w hi he
  have hl3:l < 3:=by omega
  have hcast:((l+1:Nat):Int)=(l:Int)+1:=by omega
  have HI:=hide (fun w' h=>ih v (l+1) w' (by omega) h)
  rw [hcast] at HI
  have HW:=hide (fun w' h=>l6Writers_any v es (l:Int) w' h (by omega))
  have HP:=hide (fun v w' h=>l6Perms_any (wrL es l).tail.length v (wrL es l).tail w' rfl (hperms l hl3) h)
  have HPR:=hide (fun r (hr:r∈permsL (wrL es l).tail)=>permsL_row _ (wrL es l).tail rfl r hr)
  have HPN:=hide (Nat.le_trans (permsL_length (wrL es l).tail) (hperms l hl3))
  have HTL:=hide (fact_lt (hperms l hl3))
  have HROW:=hide (fun r (hr:r∈ordsL es (l+1))=>ordsL_row n (l+1) (by omega) r hr)
  have HF1:=hide (hords (l+1));have HF0:=hide (hords l)
  have HST:Hid (ordsL es l=(permsL (wrL es l).tail).flatMap (ordQ es l)):=hide (ordsL_step (es:=es) (l:=l) hl3)
  obtain ⟨x,hx0⟩:=get_of_lt (xs:=wrL es l) (k:=0) (hwr l hl3)
  have HQ:Hid (∀ q,ordQ es l q=(ordsL es (l+1)).map ((x :: q) :: ·)):=hide (fun q=>by
   unfold ordQ
   have:(wrL es l).headD 0=x:=by
    cases h:wrL es l with
    | nil=>rw [h] at hx0;cases hx0
    | cons y ys=>rw [h] at hx0;simpa using hx0
   rw [this])
  have HWLEN:=hide (hwr l hl3)
  have HX0:=hide hx0
  have HE:=hide he
  obtain ⟨a,c,rfl, -, -, -, -⟩:=he.open
  have hl2:(l:Int)≤2:=by omega
  have hgt:decide ((2:Int) < (l:Int))=false:=by simp;omega
  clear he ih hcast hords hperms hwr hx0
  generalize hm:es.length=m at *
  clear hm
  generalize ordsL es l=R at *
  generalize ordsL es (l+1)=RR at *
  generalize ordQ es l=F at *
  generalize wrL es (l:Int)=WR at *
  go_enter Tryz.func139,Tryz.ntmps139
  go_wp2_with fail
  (with_reducible refine (HI.out _ HE.out).mono ?_);rintro e w2 ⟨⟨ra,rn,rc⟩,rfl,ou,hb2⟩
  have HRN:Hid (RR.length=rn):=hide (RowsO.len ou).symm
  have hrb:rn≤3000:=by have:=HRN.out;have:=HF1.out;omega
  have HRR:=hide ou;have HB2:=hide hb2
  have HW2:=hide (HW.out w2 (HE.out.below hb2))
  have hs12:=hb2.size
  clear ou hb2 HI HW
  go_wp2_with fail
  (with_reducible refine HW2.out.mono ?_);rintro e w3 ⟨vw,rfl,ow,hb3⟩
  rcases ow.shape with ⟨rfl,h0⟩ | ⟨gw,wcap,rfl,hgw1,hgw2,hgw3, -⟩
  ·exfalso
   have:=HWLEN.out
   rw [h0] at this;simp at this
  have HWN:Hid (0 < WR.length∧WR.length≤7):=hide ⟨HWLEN.out,by have:=HTL.out;rw [List.length_tail] at this;omega⟩
  have HOW:=hide ow
  have HB3:=hide (HB2.out.trans (hb3.mono HB2.out.size))
  have HRR3:=hide (OwnF.below HRR.out hb3)
  have hwt:WR.tail=WR.drop 1:=by cases WR <;> rfl
  have T1:=hide (ow.rep.dropV (k:=1) HWLEN.out)
  rw [← hwt] at T1
  obtain ⟨wn,hwn⟩:∃ wn,WR.length=wn:=⟨_,rfl⟩
  rw [hwn] at T1 HOW HWN hgw3 ⊢
  have hwn1:1≤wn:=HWN.out.1
  have hwn7:wn≤7:=HWN.out.2
  have h1w:(1:Int)≤(wn:Int):=by omega
  have hwcap:(wn:Int)≤(wcap:Int):=by omega
  have hs23:=hb3.size
  clear ow hb3 HB2 HRR HW2 hwt hwn
  go_upto_region 5 with fail
  go_cut [7] (fun s7 W => ∃ u:Slc,s7 = .slice u.a u.n u.cap∧RowsI W w3.heap.size u.v (permsL WR.tail)∧Below w3.heap.size w3 W)
  case first =>
   by_cases hck:wcap=1
   ·rw [if_pos hck] at T1
    obtain rfl:wn=1:=by omega
    subst hck
    have HC:=hide (HP.out _ w3 T1.out)
    go_wp2_with fail
    (with_reducible refine HC.out.mono ?_);rintro e w4 ⟨u,rfl,ou,hb4⟩
    go_wp2_with fail
    go_meet
    exact ⟨u,rfl,ou,hb4⟩
   ·rw [if_neg hck] at T1
    have HC:=hide (HP.out _ w3 T1.out)
    simp only [Nat.zero_add] at HC
    go_wp2_with fail
    (with_reducible refine HC.out.mono ?_);rintro e w4 ⟨u,rfl,ou,hb4⟩
    go_wp2_with fail
    go_meet
    exact ⟨u,rfl,ou,hb4⟩
  case rest =>
   obtain ⟨⟨pa,pn,pc⟩,rfl,hpr,hbc⟩:=hcut
   have HPLN:Hid ((permsL WR.tail).length=pn):=hide (RowsI.len hpr).symm
   have hpb:pn≤3000:=by have:=HPLN.out;have:=HPN.out;omega
   have HPM:=hide hpr
   have HRC:=hide (OwnF.below HRR3.out hbc)
   have HBC:=hide (HB3.out.trans (hbc.mono HB3.out.size))
   have HOC:=hide (HOW.out.below hbc)
   have hs34:=hbc.size
   clear hpr hbc T1 HRR3 HB3 HOW HP
   generalize permsL WR.tail=PM at *
   go_wp2_with fail
   go_loopw [8,9] (fun s i wr => ∃ k:Nat,k≤pn∧i = .int .i64 k∧RowsH wr w.heap.size wc.heap.size s ((PM.take k).flatMap F)∧Below wc.heap.size wc wr) (fun _ i _=>pn - (intOf i).toNat)
   case atStart=>exact ⟨0,Nat.zero_le _,rfl,⟨[],[],⟨rfl,rfl, .nil,Own.empty _ _ (by omega),fun i u d x h=>by simp at h⟩,Own.empty _ _ (Nat.le_refl _)⟩,(Below.refl _ _).alloc (Nat.le_refl _) _⟩
   case round =>
    obtain ⟨k,hk,rfl,hrows,hbr⟩:=hrel
    by_cases hlt:k < pn
    ·obtain ⟨q,hqk⟩:=get_of_lt (xs:=PM) (k:=k) (by rw [HPLN.out];exact hlt)
     have hltk:=nat_of_lt hlt
     have GS:=hide (flatMap_take_succ F hqk)
     rw [HQ.out q] at GS
     have HGL:Hid (((PM.take k).flatMap F).length≤3000):=hide (by
      have:=flatMap_take_le F PM k
      rw [← HST.out] at this
      exact Nat.le_trans this HF0.out)
     obtain ⟨⟨sa,sn,sc⟩,g,hga,hg,g0,hrep⟩:=RowsI.row (OwnF.below HPM.out hbr) hqk
     have hgc:g < wc.heap.size:=by
      obtain ⟨-,g',hga',hgc, -⟩:=RowsI.row HPM.out hqk
      rw [hga] at hga';simp at hga';omega
     subst hga
     obtain ⟨b',o',hbo,hbf,f0⟩:=(HOC.out.below hbr).rep.int HX0.out
     simp only [Option.some.injEq,Addr.mk.injEq,and_true] at hbo
     obtain ⟨rfl,rfl⟩:=hbo
     simp only [Nat.add_zero] at f0
     have hqr:=HPR.out q (List.mem_of_getElem? hqk)
     have hn1:([x]:List Int).length+q.length≤68719476736:=by
      rw [hqr,List.length_tail]
      have:=HTL.out
      rw [List.length_tail] at this
      simp;omega
     have HRP:=hide (hrep.below ((Below.refl wr.heap.size wr).alloc (Nat.le_refl _) (.cells #[.int .i64 x] 3)).drew)
     have HLT:Hid (Own IntE 3 (wr.alloc (.cells #[.int .i64 x] 3)).drew wr.heap.size (.slice (some ⟨wr.heap.size,0,none⟩) 1 1) [x]):=hide (Own.lit1 (E:=IntE) (T:=3) wr (Nat.le_refl _) x)
     generalize (PM.take k).flatMap F=G at *
     have HRO:=hide hrows;have HBR:=hide hbr
     have h01:0 < wn:=by omega
     clear hrows hbr hqk hrep hqr
     go_wp2_with fail
     go_region_held3 (fun V=>V.cell? ⟨gw,0,none⟩=some (.int .i64 x)∧V.cell? ⟨g,k,none⟩=some (.slice sa sn sc)) ((simp [go_sem, *]))
      (first
       | (refine step_appS IntE 3 Tryz.infoInt rfl Tryz.underlying57 wr.heap.size _ [x] q _ HLT.out HRP.out (by decide) hn1 (by simp) (by rfl) _ _ (by rfl) (by rfl) (by rfl) ?_;intro v6 w6 hown6 hgr6;obtain ⟨⟨a6,n6,c6⟩,rfl, -⟩:=hown6.toSlc;have O6:=hide hown6;have hk6:(∀ o,w6.cell? ⟨gw,o,none⟩=wr.cell? ⟨gw,o,none⟩):=(kept_d hgr6 hbf (fun q hq=>by simp [Value.ownBlock] at hq;omega));have hk7:(∀ o,w6.cell? ⟨g,o,none⟩=wr.cell? ⟨g,o,none⟩):=(kept_d hgr6 hg (fun q hq=>by simp [Value.ownBlock] at hq;omega));have B6:=hide (below_lit hgr6);have hb6:=B6.out.size;have hz6:gw < w6.heap.size:=(Nat.lt_of_lt_of_le hbf hb6);have hz7:g < w6.heap.size:=(Nat.lt_of_lt_of_le hg hb6);clear hown6 hgr6))
     have O6':Hid (Own IntE 3 w6 wc.heap.size (Slc.v ⟨a6,n6,c6⟩) (x :: q)):=hide (O6.out.mono HBR.out.size)
     have HR6:=hide (HRO.out.below B6.out)
     have HB6:=hide (HBR.out.trans (B6.out.mono HBR.out.size))
     clear O6 HRO HBR B6 hb6 hz6 hz7 hk6 hk7 HLT HRP hn1 g0 hg hgc f0 hbf h01
     go_wp2_with fail
     go_loopw [8,11] (fun s i wr => ∃ j:Nat,j≤rn∧i = .int .i64 j∧RowsH wr w.heap.size wc.heap.size s (G++(RR.take j).map ((x :: q) :: ·))∧Below wc.heap.size wc wr∧Own IntE 3 wr wc.heap.size (.slice a6 n6 c6) (x :: q)) (fun _ i _=>rn - (intOf i).toNat)
     case atStart=>exact ⟨0,Nat.zero_le _,rfl,by rw [List.take_zero,List.map_nil,List.append_nil];exact HR6.out,HB6.out,O6'.out⟩
     case round =>
      obtain ⟨j,hj,rfl,hrows,hbr,hfst⟩:=hrel
      by_cases hltj:j < rn
      ·obtain ⟨o,hoj⟩:=get_of_lt (xs:=RR) (k:=j) (by rw [HRN.out];exact hltj)
       have hltj':=nat_of_lt hltj
       obtain ⟨⟨sa,sn,sc⟩,uss,g,p1,p2,hga,hg,g0,hphi⟩:=RowsO.row (OwnF.below HRC.out hbr) hoj
       subst hga
       have RS:Hid (G++(RR.take (j+1)).map ((x :: q) :: ·)=(G++(RR.take j).map ((x :: q) :: ·))++[(x :: q) :: o]):=hide (by rw [map_take_succ ((x :: q) :: ·) hoj,List.append_assoc])
       have hol:=HROW.out o (List.mem_of_getElem? hoj)
       have hlen:(G++(RR.take j).map ((x :: q) :: ·)).length≤68719476736:=by
        rw [List.length_append,List.length_map,List.length_take]
        have:=HGL.out;have:=HRN.out;omega
       have hul:([⟨a6,n6,c6⟩]:List Slc).length+uss.length≤68719476736:=by
        rw [hphi.now.1,hol];simp;omega
       have hla:=(Below.refl wr.heap.size wr).alloc (Nat.le_refl _) (.cells #[.slice a6 n6 c6] 57)
       have HRP:=hide ((hphi.below hla).now.2.1)
       have HLT:Hid (Own SlcE 57 (wr.alloc (.cells #[.slice a6 n6 c6] 57)) wr.heap.size (.slice (some ⟨wr.heap.size,0,none⟩) 1 1) [⟨a6,n6,c6⟩]):=hide (Own.lit1 (E:=SlcE) (T:=57) wr (Nat.le_refl _) ⟨a6,n6,c6⟩)
       obtain ⟨us,ds,hU,hO⟩:=hrows
       have HUL:Hid (us.length≤68719476736):=hide (by rw [hU.lu];exact hlen)
       have HU:=hide hU;have HO:=hide hO
       have HBR:=hide hbr;have HF:=hide hfst;have HPH:=hide hphi
       have hbs:wc.heap.size≤wr.heap.size:=hbr.size
       generalize G++(RR.take j).map ((x :: q) :: ·)=GG at *
       clear hoj hol hlen hla hU hO hbr hfst hphi
       go_wp2_with (first
        | (at_builtin;refine wpList_appS SlcE 57 Tryz.infoIntS rfl Tryz.underlying58 wr.heap.size _ [⟨a6,n6,c6⟩] uss _ HLT.out HRP.out (by decide) hul (by simp) rfl _ _ rfl rfl rfl ?_;intro v7 w7 hown7 hgr7;obtain ⟨⟨a7,n7,c7⟩,rfl, -⟩:=hown7.toSlc;have O7:=hide hown7;have B7:=hide (below_lit2 hgr7);have hb7:=B7.out.size;clear hown7 hgr7)
        | (at_builtin;refine wpList_app SlcE 58 Tryz.infoIntSS rfl Tryz.underlying134 wc.heap.size _ us ⟨a7,n7,c7⟩ ((HO.out.below B7.out).alloc _) (by decide) HUL.out (by simp;omega) rfl _ _ rfl rfl _ 0 1 rfl (news_allocV (by simp)) ?_;intro v8 w8 hown8 hgr8))
       have ba7:=(Below.refl w7.heap.size w7).alloc (Nat.le_refl _) (.cells #[.slice a7 n7 c7] 58)
       have F7:=HF.out.below B7.out
       have P7:=PhiO.cons (w:=w7) (lo:=w.heap.size) (s:=⟨a7,n7,c7⟩) (f:=⟨a6,n6,c6⟩) (us:=uss) (x:=x :: q) (o:=o) O7.out (by omega) (((LocR.own (T:=58) (by decide) F7).wide (by omega) (Nat.le_refl _) (Nat.le_refl _)).map fun V k=>k.rep) ((HPH.out.below B7.out).wide (Nat.le_refl _) hb7 (Nat.le_refl _))
       have R8:=RowsH.app ((HU.out.below B7.out).below ba7) (by omega) (d:=⟨w.heap.size,w7.heap.size,⟨a6,n6,c6⟩ :: uss⟩) (P7.below ba7) (Nat.le_refl _) hown8 hgr8
       have B8:=(HBR.out.trans (B7.out.mono hbs)).alloc (by omega) (.cells #[.slice a7 n7 c7] 58)
       have B9:=B8.grown hgr8 (by simp;omega) (fun q hq=>(World.ownsRow.lt HO.out q hq).1)
       have F8:=(F7.below ba7).grown hgr8 (own_or (by decide) ((HO.out.below B7.out).below ba7) (F7.below ba7))
       go_roundw
       case rel=>exact ⟨j+1,by omega,by go_num,by rw [RS.out];exact R8,B9,F8⟩
       case measure=>simp [intOf];omega
      ·obtain rfl:j=rn:=by omega
       rw [List.take_of_length_le (by rw [HRN.out];exact Nat.le_refl _),← GS.out] at hrows
       go_wp2_with fail
       go_roundw
       case rel=>exact ⟨k+1,by omega,by go_num,hrows,hbr⟩
       case measure=>simp [intOf];omega
    ·obtain rfl:k=pn:=by omega
     obtain ⟨us,ds,hU,hO⟩:=hrows
     obtain ⟨⟨qa,qn,qc⟩,rfl, -⟩:=hU.own.toSlc
     have hrows:RowsO _ _ _ _:=⟨us,ds,hU⟩
     clear hU hO
     go_wp2_with fail
     go_ret
     refine ⟨⟨qa,qn,qc⟩,rfl, ?_, ?_⟩
     ·rw [HST.out]
      have h:=hrows
      rw [List.take_of_length_le (by rw [HPLN.out];exact Nat.le_refl _)] at h
      exact h
     ·exact HBC.out.trans (hbr.mono HBC.out.size)
end Go.Proofs.YtfbgppkdnfljhaaGreatDoor
namespace Go.Proofs.YtfbgppkdnfljhaaGreatDoor
open Go.RowKit
theorem irrB_all {n:Nat} {f:Nat→Nat→Bool} (h:∀ j,j < n→f j j=false):irrB n f=true:=by
 simp only [irrB,List.all_eq_true,List.mem_range,Bool.not_eq_true']
 exact h
theorem irrB_not {n j:Nat} {f:Nat→Nat→Bool} (hj:j < n) (h:f j j=true):irrB n f=false:=by
 cases hh:irrB n f with
 | false=>rfl
 | true =>
  simp only [irrB,List.all_eq_true,List.mem_range,Bool.not_eq_true'] at hh
  have:=hh j hj
  rw [h] at this;cases this
theorem isIrreflexive_any (v:Value) (n:Nat) (f:Nat→Nat→Bool) (w:World) (hx:Rep IntE w v (relOf n f)) (hn:n≤60) :
 Calls Tryz.prog 182 #[v] w fun e w'=>e = .returned (.bool (irrB n f))∧w=w':=by
 have HRX:=hide hx
 obtain ⟨a,c,rfl,hc1,hc2,hc3,hx⟩:=hx.open
 simp only [relOf_length] at *
 have HC:=hide (fun k (hk:k < n)=>related_any (.slice a n c) n k k f w HRX.out hn hk hk)
 have HT:=hide (@irrB_all n f)
 have HN:=hide (fun (j:Nat) (hj:j < n) (h:f j j=true)=>irrB_not hj h)
 clear hx HRX
 generalize hR:irrB n f=R at *
 clear hR
 go_enter Tryz.func182,Tryz.ntmps182
 go_wp2_with fail
 go_loop [6] (fun i => ∃ k:Nat,k≤n∧i = .int .i64 k∧Hid (∀ j,j < k→f j j=false)) (fun i=>n - (intOf i).toNat)
 case atStart=>exact ⟨0,Nat.zero_le _,rfl,hide (fun j h=>by omega)⟩
 case round =>
  obtain ⟨k,hk,rfl,T⟩:=hrel
  by_cases hlt:k < n
  ·have hlt':=nat_of_lt hlt
   have HC1:=hide (HC.out k hlt)
   have HN1:=hide (HN.out k hlt)
   generalize hfk:f k k=fk at *
   have FK:=hide hfk;clear hfk
   cases fk
   ·have T2:Hid (∀ j,j < k+1→f j j=false):=hide (fun j hj=>by
     by_cases e:j=k
     ·rw [e];exact FK.out
     ·exact T.out j (by omega))
    go_wp2_with fail
    (with_reducible refine HC1.out.mono ?_);rintro e w2 ⟨rfl,rfl⟩
    go_wp2_with fail
    go_round
    case rel=>exact ⟨k+1,by omega,by go_num,T2⟩
    case measure=>simp [intOf];omega
   ·have RF:Hid (R=false):=hide (by have:=HN1.out rfl;exact this)
    go_wp2_with fail
    (with_reducible refine HC1.out.mono ?_);rintro e w2 ⟨rfl,rfl⟩
    go_wp2_with fail
    go_ret
    exact ⟨by rw [RF.out];rfl,rfl⟩
  ·obtain rfl:k=n:=by omega
   have RT:Hid (R=true):=hide (HT.out T.out)
   go_wp2_with fail
   go_ret
   exact ⟨by rw [RT.out];rfl,rfl⟩
theorem acyB_irr (n:Nat) (f:Nat→Nat→Bool):acyB n f=irrB n (fClo n f):=rfl
theorem AcyclicRel_any (v:Value) (n:Nat) (f:Nat→Nat→Bool) (w:World) (hx:Rep IntE w v (relOf n f)) (hn:n≤16) :
 Calls Tryz.prog 181 #[v] w fun e w'=>e = .returned (.bool (acyB n f))∧Below w.heap.size w w':=by
 have HV:=hide (RelValid_any v n f w hx hn)
 have HC:=hide (fun w' (hb:Below w.heap.size w w')=>ClosureRel_any v n f w' (hx.below hb) hn)
 have HI:=hide (fun u w' h=>isIrreflexive_any u n (fClo n f) w' h (by omega))
 obtain ⟨a,c,rfl, -, -, -, -⟩:=hx.open
 simp only [relOf_length] at *
 rw [acyB_irr]
 clear hx
 generalize irrB n (fClo n f)=R at *
 go_enter Tryz.func181,Tryz.ntmps181
 go_wp2_with fail
 (with_reducible refine HV.out.mono ?_);rintro e w1 ⟨rfl,hb1⟩
 have HC1:=hide (HC.out _ hb1)
 have HB1:=hide hb1;clear hb1
 go_wp2_with fail
 (with_reducible refine HC1.out.mono ?_);rintro e w2 ⟨u,rfl,ou,hb2⟩
 have HI2:=hide (HI.out u w2 ou.rep)
 have HB2:=hide (HB1.out.trans (hb2.mono HB1.out.size));clear hb2 ou
 go_wp2_with fail
 (with_reducible refine HI2.out.mono ?_);rintro e w3 ⟨rfl,rfl⟩
 go_wp2_with fail
 go_ret
 exact ⟨rfl,HB2.out⟩
theorem empB_pairs (n:Nat) (f:Nat→Nat→Bool):(((pairsTo n f n:Nat):Int)==0)=empB n f:=by
 rw [Bool.eq_iff_iff,beq_iff_eq]
 simp only [empB,List.all_eq_true,List.mem_range,Bool.not_eq_true']
 constructor
 ·intro h i hi k hk
  exact pairsTo_zero' n (by omega) i k hi hk
 ·intro h
  rw [pairsTo_zero n fun i k hi hk=>h i hi k hk];rfl
theorem fulfilled_any (k:Int) (v:Value) (n:Nat) (f:Nat→Nat→Bool) (w:World) (hx:Rep IntE w v (relOf n f)) (hn:n≤15) :
 Calls Tryz.prog 131 #[.int .i64 k,v] w fun e w'=>e = .returned (.bool (holdsB n k f))∧Below w.heap.size w w':=by
 have HA:=hide (AcyclicRel_any v n f w hx (by omega))
 have HI:=hide (isIrreflexive_any v n f w hx (by omega))
 have HN:=hide (CountRel_any v n f w hx hn)
 have HE:=hide (empB_pairs n f)
 have HH:Hid (holdsB n k f=if k=1 then acyB n f else if k=2 then irrB n f else empB n f):=hide rfl
 obtain ⟨a,c,rfl, -, -, -, -⟩:=hx.open
 simp only [relOf_length] at *
 clear hx
 generalize holdsB n k f=R at *
 generalize acyB n f=RA at *
 generalize irrB n f=RI at *
 generalize empB n f=RE at *
 generalize ((pairsTo n f n:Nat):Int)=PZ at *
 by_cases h1:k=1
 ·subst h1
  have E:Hid (R=RA):=hide (by rw [HH.out];rfl)
  go_enter Tryz.func131,Tryz.ntmps131
  go_wp2_with fail
  (with_reducible refine HA.out.mono ?_);rintro e w1 ⟨rfl,hb1⟩
  go_wp2_with fail
  go_ret
  exact ⟨by rw [E.out];rfl,hb1⟩
 ·by_cases h2:k=2
  ·subst h2
   have E:Hid (R=RI):=hide (by rw [HH.out];rfl)
   go_enter Tryz.func131,Tryz.ntmps131
   go_wp2_with fail
   (with_reducible refine HI.out.mono ?_);rintro e w1 ⟨rfl,rfl⟩
   go_wp2_with fail
   go_ret
   exact ⟨by rw [E.out];rfl,Below.refl _ _⟩
  ·have E:Hid (R=RE):=hide (by rw [HH.out,if_neg h1,if_neg h2])
   have g1:(k==1)=false:=by simp [h1]
   have g2:(k==2)=false:=by simp [h2]
   clear h1 h2
   go_enter Tryz.func131,Tryz.ntmps131
   go_wp2_with fail
   (with_reducible refine HN.out.mono ?_);rintro e w1 ⟨rfl,hb1⟩
   go_wp2_with fail
   go_ret
   exact ⟨by rw [E.out,← HE.out];rfl,hb1⟩
theorem l2Loose_any (v:Value) (n:Nat) (f:Nat→Nat→Bool) (w:World) (hx:Rep IntE w v (relOf n f)) (hn:n≤60) :
 Calls Tryz.prog 193 #[v] w fun e w'=>e = .returned (.bool (irrB n f))∧w=w':=by
 have HRX:=hide hx
 obtain ⟨a,c,rfl,hc1,hc2,hc3,hx⟩:=hx.open
 simp only [relOf_length] at *
 have HC:=hide (fun k (hk:k < n)=>l2Has_any (.slice a n c) n k k f w HRX.out hn hk hk)
 have HT:=hide (@irrB_all n f)
 have HN:=hide (fun (j:Nat) (hj:j < n) (h:f j j=true)=>irrB_not hj h)
 clear hx HRX
 generalize hR:irrB n f=R at *
 clear hR
 go_enter Tryz.func193,Tryz.ntmps193
 go_wp2_with fail
 go_loop [3] (fun i => ∃ k:Nat,k≤n∧i = .int .i64 k∧Hid (∀ j,j < k→f j j=false)) (fun i=>n - (intOf i).toNat)
 case atStart=>exact ⟨0,Nat.zero_le _,rfl,hide (fun j h=>by omega)⟩
 case round =>
  obtain ⟨k,hk,rfl,T⟩:=hrel
  by_cases hlt:k < n
  ·have hlt':=nat_of_lt hlt
   have HC1:=hide (HC.out k hlt)
   have HN1:=hide (HN.out k hlt)
   generalize hfk:f k k=fk at *
   have FK:=hide hfk;clear hfk
   cases fk
   ·have T2:Hid (∀ j,j < k+1→f j j=false):=hide (fun j hj=>by
     by_cases e:j=k
     ·rw [e];exact FK.out
     ·exact T.out j (by omega))
    go_wp2_with fail
    (with_reducible refine HC1.out.mono ?_);rintro e w2 ⟨rfl,rfl⟩
    go_wp2_with fail
    go_round
    case rel=>exact ⟨k+1,by omega,by go_num,T2⟩
    case measure=>simp [intOf];omega
   ·have RF:Hid (R=false):=hide (by have:=HN1.out rfl;exact this)
    go_wp2_with fail
    (with_reducible refine HC1.out.mono ?_);rintro e w2 ⟨rfl,rfl⟩
    go_wp2_with fail
    go_ret
    exact ⟨by rw [RF.out];rfl,rfl⟩
  ·obtain rfl:k=n:=by omega
   have RT:Hid (R=true):=hide (HT.out T.out)
   go_wp2_with fail
   go_ret
   exact ⟨by rw [RT.out];rfl,rfl⟩
theorem l2Acyclic_any (v:Value) (n:Nat) (f:Nat→Nat→Bool) (w:World) (hx:Rep IntE w v (relOf n f)) (hn:n≤60) :
 Calls Tryz.prog 192 #[v] w fun e w'=>e = .returned (.bool (acyB n f))∧Below w.heap.size w w':=by
 have HC:=hide (l2Closure_any v n f w hx hn)
 have HI:=hide (fun u w' h=>l2Loose_any u n (fClo n f) w' h hn)
 obtain ⟨a,c,rfl, -, -, -, -⟩:=hx.open
 rw [acyB_irr]
 clear hx
 generalize irrB n (fClo n f)=R at *
 go_enter Tryz.func192,Tryz.ntmps192
 go_wp2_with fail
 (with_reducible refine HC.out.mono ?_);rintro e w2 ⟨u,rfl,ou,hb2⟩
 have HI2:=hide (HI.out u w2 ou.rep)
 have HB2:=hide hb2;clear hb2 ou
 go_wp2_with fail
 (with_reducible refine HI2.out.mono ?_);rintro e w3 ⟨rfl,rfl⟩
 go_wp2_with fail
 go_ret
 exact ⟨rfl,HB2.out⟩
theorem pairsTo_succ (n:Nat) (f:Nat→Nat→Bool) (k:Nat):pairsTo n f (k+1)=pairsTo n f k+cntB (f k) n:=rfl
theorem cntB_succ (f:Nat→Bool) (k:Nat):cntB f (k+1)=cntB f k+if f k=true then 1 else 0:=rfl
theorem l2Count_any (v:Value) (n:Nat) (f:Nat→Nat→Bool) (w:World) (hx:Rep IntE w v (relOf n f)) (hn:n≤60) :
 Calls Tryz.prog 194 #[v] w fun e w'=>e = .returned (.int .i64 ((pairsTo n f n:Nat):Int))∧w=w':=by
 have HRX:=hide hx
 obtain ⟨a,c,rfl,hc1,hc2,hc3,hx⟩:=hx.open
 simp only [relOf_length] at *
 have HC:=hide (fun i k (hi:i < n) (hk:k < n)=>l2Has_any (.slice a n c) n i k f w HRX.out hn hi hk)
 have HS:=hide (pairsTo_succ n f)
 have HL:=hide (fun k=>pairsTo_le n f k)
 have hq0:Hid (pairsTo n f 0=0):=hide rfl
 clear hx HRX
 generalize hQ:pairsTo n f=Q at *
 clear hQ
 go_enter Tryz.func194,Tryz.ntmps194
 go_wp2_with fail
 go_loop [3,4,5] (fun s i q => ∃ k:Nat,k≤n∧i = .int .i64 k∧s = .int .i64 (Q k:Nat)) (fun _ i _=>n - (intOf i).toNat)
 case atStart=>exact ⟨0,Nat.zero_le _,rfl,by rw [hq0.out];rfl⟩
 case round =>
  obtain ⟨k,hk,rfl,rfl⟩:=hrel
  by_cases hlt:k < n
  ·have hlt':=nat_of_lt hlt
   have hQl:=HL.out k
   have hQk:Q k≤3600:=by
    have h1:k * n≤60 * 60:=Nat.mul_le_mul (by omega) hn
    omega
   have HK:=hide (HS.out k)
   generalize hq:Q k=qk at *
   clear hQl hq
   go_wp2_with fail
   go_loop [3,5] (fun s i => ∃ j:Nat,j≤n∧i = .int .i64 j∧s = .int .i64 ((qk+cntB (f k) j:Nat):Int)) (fun _ i=>n - (intOf i).toNat)
   case atStart=>exact ⟨0,Nat.zero_le _,rfl,rfl⟩
   case round =>
    obtain ⟨j,hj,rfl,rfl⟩:=hrel
    by_cases hltj:j < n
    ·have hltj':=nat_of_lt hltj
     have hcl:=cntB_le (f k) j
     have HC1:=hide (HC.out k j hlt hltj)
     have HS1:=hide (cntB_succ (f k) j)
     generalize f k j=fk at *
     generalize cntB (f k) j=c1 at *
     cases fk
     ·have E:Hid (cntB (f k) (j+1)=c1):=hide (by rw [HS1.out];rfl)
      go_wp2_with fail
      (with_reducible refine HC1.out.mono ?_);rintro e w2 ⟨rfl,rfl⟩
      go_wp2_with fail
      go_round
      case rel=>exact ⟨j+1,by omega,by go_num,by rw [E.out];exact congrArg _ (by omega)⟩
      case measure=>simp [intOf];omega
     ·have E:Hid (cntB (f k) (j+1)=c1+1):=hide (by rw [HS1.out];rfl)
      have hw1:IntKind.i64.wrap (((qk+c1:Nat):Int)+1)=((qk+(c1+1):Nat):Int):=by rw [IntKind.wrap_i64];omega
      go_wp2_with fail
      (with_reducible refine HC1.out.mono ?_);rintro e w2 ⟨rfl,rfl⟩
      go_wp2_with fail
      go_round
      case rel=>exact ⟨j+1,by omega,by go_num,by rw [E.out];exact congrArg _ (by omega)⟩
      case measure=>simp [intOf];omega
    ·obtain rfl:j=n:=by omega
     go_wp2_with fail
     go_round
     case rel=>exact ⟨k+1,by omega,by go_num,by rw [HK.out]⟩
     case measure=>simp [intOf];omega
  ·obtain rfl:k=n:=by omega
   go_wp2_with fail
   go_ret
   exact ⟨rfl,rfl⟩
theorem l7Holds_any (k:Int) (v:Value) (n:Nat) (f:Nat→Nat→Bool) (w:World) (hx:Rep IntE w v (relOf n f)) (hn:n≤60) :
 Calls Tryz.prog 142 #[.int .i64 k,v] w fun e w'=>e = .returned (.bool (holdsB n k f))∧Below w.heap.size w w':=by
 have HA:=hide (l2Acyclic_any v n f w hx (by omega))
 have HI:=hide (l2Loose_any v n f w hx (by omega))
 have HN:=hide (l2Count_any v n f w hx hn)
 have HE:=hide (empB_pairs n f)
 have HH:Hid (holdsB n k f=if k=1 then acyB n f else if k=2 then irrB n f else empB n f):=hide rfl
 obtain ⟨a,c,rfl, -, -, -, -⟩:=hx.open
 simp only [relOf_length] at *
 clear hx
 generalize holdsB n k f=R at *
 generalize acyB n f=RA at *
 generalize irrB n f=RI at *
 generalize empB n f=RE at *
 generalize ((pairsTo n f n:Nat):Int)=PZ at *
 by_cases h1:k=1
 ·subst h1
  have E:Hid (R=RA):=hide (by rw [HH.out];rfl)
  go_enter Tryz.func142,Tryz.ntmps142
  go_wp2_with fail
  (with_reducible refine HA.out.mono ?_);rintro e w1 ⟨rfl,hb1⟩
  go_wp2_with fail
  go_ret
  exact ⟨by rw [E.out];rfl,hb1⟩
 ·by_cases h2:k=2
  ·subst h2
   have E:Hid (R=RI):=hide (by rw [HH.out];rfl)
   go_enter Tryz.func142,Tryz.ntmps142
   go_wp2_with fail
   (with_reducible refine HI.out.mono ?_);rintro e w1 ⟨rfl,rfl⟩
   go_wp2_with fail
   go_ret
   exact ⟨by rw [E.out];rfl,Below.refl _ _⟩
  ·have E:Hid (R=RE):=hide (by rw [HH.out,if_neg h1,if_neg h2])
   have g1:(k==1)=false:=by simp [h1]
   have g2:(k==2)=false:=by simp [h2]
   clear h1 h2
   go_enter Tryz.func142,Tryz.ntmps142
   go_wp2_with fail
   (with_reducible refine HN.out.mono ?_);rintro e w1 ⟨rfl,rfl⟩
   go_wp2_with fail
   go_ret
   exact ⟨by rw [E.out,← HE.out];rfl,Below.refl _ _⟩
end Go.Proofs.YtfbgppkdnfljhaaGreatDoor
namespace Go.Proofs.YtfbgppkdnfljhaaGreatDoor
open Go.RowKit
structure CpI (wr:World) (B X R O:Nat) (f s:Slc) (vf vo:Value) (xs:List Int) (L:List (List Int)):Prop where
 bx:wr.heap[X]? = some (.cells #[vf,vo] 60 (0,0))
 br:wr.heap[R]? = some (.cells #[.slice none 0 0, .slice none 0 0] 60 (0,0))
 bo:wr.heap[O]? = some (.cells #[.slice f.a f.n f.cap, .slice s.a s.n s.cap] 60 (0,0))
 of:Own IntE 3 wr B f.v xs
 os:RowsI wr (O+1) s.v L
theorem OwnFU.setLow {α β:Type} {E:El α} {T:TypeId} {R:Dd→Dd→Prop} {φ:Dd→World→α→β→Prop} {us:List α} {ds:List Dd} {w:World} {base g j:Nat} {v u:Value} {xs:List β} (h:OwnFU E T R φ us ds w base v xs) (hg:g < base):OwnFU E T R φ us ds (w.setCell ⟨g,j,none⟩ u) base v xs:=
 ⟨h.lu,h.ld,h.pw,h.own.sameV fun q hq=>heap_setCell_other w ⟨g,j,none⟩ q u (show q≠g by have:=(World.ownsRow.lt h.own q hq).1;omega),fun i u' d x h1 h2 h3=>⟨(h.rows i u' d x h1 h2 h3).1,(h.rows i u' d x h1 h2 h3).2.step (by simp) fun k ob h4 _ h6 _=>by
  rw [heap_setCell_other w ⟨g,j,none⟩ k u (show k≠g by have:=(h.rows i u' d x h1 h2 h3).1;omega)];exact h6⟩⟩
theorem notT_of {T U:TypeId} {a:Array Value} {fz:Nat × Nat} (h:U≠T):notT T (.cells a U fz):=fun a' fz' e=>by simp at e;exact h e.2.1
theorem grown_keep {α:Type} {E:El α} {T:TypeId} {w w':World} {base:Nat} {v:Value} {xs:List α} (ho:Own E T w base v xs) (hg:w.grownBy w' v.ownBlock) {k:Nat} {ob:Obj} (h:w.heap[k]? = some ob) (hn:notT T ob):w'.heap[k]? = some ob:=
 (hg.block k (Array.getElem?_eq_some_iff.1 h).1 (fun e=>by
  obtain ⟨a,ha⟩:=ho.typed e.symm
  rw [h] at ha
  exact hn a _ (Option.some.inj ha))).trans h
theorem RowsI.loc {w:World} {base:Nat} {v:Value} {L:List (List Int)} {T:TypeId} (h:RowsI w base v L) (h1:57≠T) (h2:3≠T):LocR T base w.heap.size w (fun W=>RepNN W v L):=by
 obtain ⟨us,ds,h⟩:=h
 have k1:=LocR.own h1 h.own
 have k2:LocR T base w.heap.size w (fun W => ∀ (i:Nat) (u:Slc) (r:List Int),us[i]? = some u→L[i]? = some r→Rep IntE W u.v r):=by
  refine LocR.all (Nat.le_refl _) fun i=>LocR.all (Nat.le_refl _) fun u=>LocR.all (Nat.le_refl _) fun r=>LocR.imp (Nat.le_refl _) fun hu=>LocR.imp (Nat.le_refl _) fun hr => ?_
  obtain ⟨d,hd⟩:=get_of_lt (xs:=ds) (k:=i) (by rw [h.ld];exact (List.getElem?_eq_some_iff.1 hr).1)
  obtain ⟨r1,r2⟩:=h.rows i u d r hu hd hr
  exact ((LocR.own h2 r2.now.1).wide r1 (Nat.le_refl _) (Nat.le_refl _)).map fun V k=>k.rep
 exact (k1.and k2).map fun V ⟨a,b⟩=>⟨us,h.lu,a.rep,b⟩
def RetX (w:World) (x:Xc) (e:Ending) (w':World):Prop:=∃ f o:Slc,e = .returned (.agg #[.slice f.a f.n f.cap, .slice o.a o.n o.cap])∧Own IntE 3 w' w.heap.size f.v x.fr∧RowsI w' w.heap.size o.v x.od∧Below w.heap.size w w'
theorem own_loc {w:World} {lo:Nat} {f o:Slc} {x:Xc} (h:Own IntE 3 w lo f.v x.fr) (k:RowsI w lo o.v x.od):LocR 60 lo w.heap.size w (fun W=>RepX W f.v o.v x):=
 ((LocR.own (T:=60) (by decide) h).and (RowsI.loc (T:=60) k (by decide) (by decide))).map (fun V ⟨a,b⟩=>⟨a.rep,b⟩)
def RetXA (w:World) (x:Xc) (e:Ending) (w':World):Prop:=∃ (f o:Slc) (m:Nat),e = .returned (.agg #[.slice f.a f.n f.cap, .slice o.a o.n o.cap])∧Own IntE 3 w' w.heap.size f.v x.fr∧(∀ q,f.v.ownBlock=some q→q < m)∧w.heap.size≤m∧RowsI w' m o.v x.od∧Below w.heap.size w w'
theorem RetXA.ret {w:World} {x:Xc} {e:Ending} {w':World} (h:RetXA w x e w'):RetX w x e w':=by
 obtain ⟨f,o,m,h1,h2, -,h3,⟨us,ds,h4⟩,h5⟩:=h
 exact ⟨f,o,h1,h2,⟨us,ds,h4.mono h3⟩,h5⟩
theorem l6Copy_anyA (vf vo:Value) (x:Xc) (w:World) (hx:RepX w vf vo x) (hl:x.fr.length≤1048576) (hol:x.od.length≤1048576) (hrl:∀ o∈x.od,o.length≤1048576) :
 Calls Tryz.prog 140 #[.agg #[vf,vo]] w (RetXA w x):=by
 have HX:=hide hx
 obtain ⟨fa,fc,rfl, -, -, -, -⟩:=hx.fr.open
 obtain ⟨oa,oc,rfl, -, -, -, -⟩:=hx.od.open
 have HB0:=hide (((Below.refl w.heap.size w).alloc (Nat.le_refl _) (.cells #[.slice fa x.fr.length fc, .slice oa x.od.length oc] 60)).alloc (by simp) (.cells #[.slice none 0 0, .slice none 0 0] 60))
 clear hx
 generalize hfn:x.fr.length=fn at *
 generalize hon:x.od.length=on at *
 have HFN:=hide hfn;have HON:=hide hon
 have hz2:(((w.alloc (.cells #[.slice fa fn fc, .slice oa on oc] 60)).alloc (.cells #[.slice none 0 0, .slice none 0 0] 60)).heap.size)=w.heap.size+1+1:=by simp
 have hx0:((w.alloc (.cells #[.slice fa fn fc, .slice oa on oc] 60)).alloc (.cells #[.slice none 0 0, .slice none 0 0] 60)).heap[w.heap.size]? = some (.cells #[.slice fa fn fc, .slice oa on oc] 60 (0,0)):=by
  rw [heap_alloc_old _ _ (by simp)];exact heap_alloc_new w _
 have hr0:((w.alloc (.cells #[.slice fa fn fc, .slice oa on oc] 60)).alloc (.cells #[.slice none 0 0, .slice none 0 0] 60)).heap[w.heap.size+1]? = some (.cells #[.slice none 0 0, .slice none 0 0] 60 (0,0)):=by
  have h:=heap_alloc_new (w.alloc (.cells #[.slice fa fn fc, .slice oa on oc] 60)) (.cells #[.slice none 0 0, .slice none 0 0] 60)
  simpa using h
 have HX2:=hide hx0;have HR2:=hide hr0
 have HZ2:=hide hz2
 have OE:=hide (Own.empty (E:=IntE) 3 ((w.alloc (.cells #[.slice fa fn fc, .slice oa on oc] 60)).alloc (.cells #[.slice none 0 0, .slice none 0 0] 60)) (base:=w.heap.size) (by simp;omega))
 rw [hz2] at OE
 have FR:=hide (HX.out.fr.below (HB0.out.alloc (by simp;omega) (.cells #[] 3)))
 have hln:([]:List Int).length+x.fr.length≤68719476736:=by rw [hfn];simp;omega
 clear hfn hon hx0 hr0 hz2
 go_enter Tryz.func140,Tryz.ntmps140
 go_wp2_with (at_builtin;refine wpList_appS IntE 3 Tryz.infoInt rfl Tryz.underlying57 w.heap.size _ [] x.fr _ OE.out FR.out (by decide) hln (by simp;omega) rfl _ _ rfl rfl rfl ?_;intro v4 w4 hown4 hgr4;obtain ⟨⟨fa',fn',fc'⟩,rfl, -⟩:=hown4.toSlc;have B4:=hide ((HB0.out.alloc (by simp;omega) (.cells #[] 3)).grown hgr4 (by simp;omega) (fun q hq=>by simp [Value.ownBlock] at hq;omega));have O4:=hide hown4;have HG4:=hide hgr4;clear hown4 hgr4)
 have hg4:=HG4.out.size
 simp only [World.size_alloc] at hg4
 have HC4:Hid (CpI (w4.alloc (.cells #[.slice fa' fn' fc', .slice none 0 0] 60)) w.heap.size w.heap.size (w.heap.size+1) w4.heap.size ⟨fa',fn',fc'⟩ ⟨none,0,0⟩ (.slice fa fn fc) (.slice oa on oc) x.fr []):=hide (by
  have e1:∀ k ob,k < w.heap.size+1+1→((w.alloc (.cells #[.slice fa fn fc, .slice oa on oc] 60)).alloc (.cells #[.slice none 0 0, .slice none 0 0] 60)).heap[k]? = some ob→(w4.alloc (.cells #[.slice fa' fn' fc', .slice none 0 0] 60)).heap[k]? = some ob:=fun k ob hk h=>by
   rw [heap_alloc_old _ _ (by omega)]
   rw [HG4.out.block k (by simp;omega) (fun e=>by simp [Value.ownBlock] at e;omega),heap_alloc_old _ _ (by simp;omega)]
   exact h
  exact ⟨e1 _ _ (by omega) HX2.out,e1 _ _ (by omega) HR2.out,heap_alloc_new w4 _,(by have h:=O4.out;rw [List.nil_append] at h;exact h.alloc _),OwnF.nil _ _ _⟩)
 have HB4:=hide (B4.out.alloc (by omega) (.cells #[.slice fa' fn' fc', .slice none 0 0] 60))
 have hq4:w.heap.size+1+1 < w4.heap.size:=by omega
 have HFM:=hide (fun q (hq:(Slc.v ⟨fa',fn',fc'⟩).ownBlock=some q)=>(World.ownsRow.lt O4.out q hq).2)
 clear hg4 HG4 O4 B4 FR OE HX2 HR2 HZ2 hln HB0
 go_loopw [4] (fun i wr => ∃ k:Nat,k≤on∧i = .int .i64 k∧(∃ s:Slc,CpI wr w.heap.size w.heap.size (w.heap.size+1) w4.heap.size ⟨fa',fn',fc'⟩ s (.slice fa fn fc) (.slice oa on oc) x.fr (x.od.take k))∧Below w.heap.size w wr) (fun i _=>on - (intOf i).toNat)
 case atStart=>exact ⟨0,Nat.zero_le _,rfl,⟨_,HC4.out⟩,HB4.out⟩
 case round =>
  obtain ⟨k,hk,rfl,⟨⟨sa,sn,sc⟩,hc⟩,hbr⟩:=hrel
  have x1:wr.cell? ⟨w.heap.size,1,none⟩=some (.slice oa on oc):=cell_of_heapV hc.bx (k:=1) rfl
  have o1:wr.cell? ⟨w4.heap.size,1,none⟩=some (.slice sa sn sc):=cell_of_heapV hc.bo (k:=1) rfl
  have ofz:=frozen_of_heapV hc.bo
  have xl:=lt_of_cell x1
  have ol:=lt_of_cell o1
  by_cases hlt:k < on
  ·obtain ⟨r,hrk⟩:=get_of_lt (xs:=x.od) (k:=k) (by rw [HON.out];exact hlt)
   have hltk:=nat_of_lt hlt
   obtain ⟨b2,o2,ra,rc,rfl,hbl2,q0,q1⟩:=HX.out.od.row hrk
   have q0:=(hbr.cell (p:=⟨b2,o2+k,none⟩) hbl2).trans q0
   have hbl2':=Nat.lt_of_lt_of_le hbl2 hbr.size
   have RS:Hid (x.od.take (k+1)=x.od.take k++[r]):=hide (by rw [List.take_add_one,hrk];rfl)
   have hn1:([]:List Int).length+r.length≤68719476736:=by have:=hrl r (List.mem_of_getElem? hrk);simp;omega
   have HRP:=hide ((q1.below hbr).below ((Below.refl wr.heap.size wr).alloc (Nat.le_refl _) (.cells #[] 3)).drew)
   have HLT:Hid (Own IntE 3 (wr.alloc (.cells #[] 3)).drew wr.heap.size (.slice (some ⟨wr.heap.size,0,none⟩) 0 0) []):=hide (Own.empty (E:=IntE) 3 wr (Nat.le_refl _))
   have hlen:(x.od.take k).length≤68719476736:=by rw [List.length_take];omega
   have HC:=hide hc
   obtain ⟨us,ds,hU⟩:=hc.os
   have HU:=hide hU
   have HUL:Hid (us.length≤68719476736):=hide (by rw [hU.lu];exact hlen)
   have HBR:=hide hbr
   have hbs:w.heap.size≤wr.heap.size:=hbr.size
   generalize x.od.take k=GG at *
   clear hrk q1 hlen hU hbr hc
   go_wp2_with fail
   go_region_law (first
    | (refine step_appS IntE 3 Tryz.infoInt rfl Tryz.underlying57 wr.heap.size _ [] r _ HLT.out HRP.out (by decide) hn1 (by simp) (by rfl) _ _ (by rfl) (by rfl) (by rfl) ?_;intro v6 w6 hown6 hgr6;obtain ⟨⟨a6,n6,c6⟩,rfl, -⟩:=hown6.toSlc;have O6:=hide hown6;have hk6:(∀ o,w6.cell? ⟨w4.heap.size,o,none⟩=wr.cell? ⟨w4.heap.size,o,none⟩):=(kept_d hgr6 ol (fun q hq=>by simp [Value.ownBlock] at hq;omega));have B6:=hide (below_lit hgr6);have hb6:=B6.out.size;have ol6:w4.heap.size < w6.heap.size:=(Nat.lt_of_lt_of_le ol hb6);clear hown6 hgr6)
    | (refine step_app SlcE 57 Tryz.infoIntS rfl Tryz.underlying58 (w4.heap.size+1) _ us ⟨a6,n6,c6⟩ ((HU.out.own.below B6.out).alloc _) (by decide) HUL.out (by simp;omega) (by rfl) _ _ (by rfl) (by rfl) w6.heap.size 0 1 (by rfl) news_alloc ?_;intro v8 w8 hown8 hgr8;obtain ⟨⟨a8,n8,c8⟩,rfl, -⟩:=hown8.toSlc;have K8:=(fun k ob (h:wr.heap[k]? = some ob) hn=>grown_keep ((HU.out.own.below B6.out).alloc _) hgr8 (show _=some ob from (heap_alloc_old _ _ (Nat.lt_of_lt_of_le (Array.getElem?_eq_some_iff.1 h).1 hb6)).trans ((B6.out.block k (Array.getElem?_eq_some_iff.1 h).1).trans h)) hn);have bo8:=K8 _ _ HC.out.bo (notT_of (by decide));have o8:w8.cell? ⟨w4.heap.size,1,none⟩=some (.slice sa sn sc):=cell_of_heapV bo8 (k:=1) rfl;have ofz8:=frozen_of_heapV bo8;have ol8:=lt_of_cell o8))
   all_goals
    have R8:=RowsI.app HU.out B6.out (by omega) rfl O6.out hown8 hgr8
    have B8:=(HBR.out.trans (B6.out.mono hbs)).alloc (by omega) (.cells #[.slice a6 n6 c6] 57)
    have B9:=B8.grown hgr8 (by simp;omega) (fun q hq=>by have:=(World.ownsRow.lt HU.out.own q hq).1;omega)
    have C9:CpI (w8.setCell ⟨w4.heap.size,1,none⟩ (.slice a8 n8 c8)) w.heap.size w.heap.size (w.heap.size+1) w4.heap.size ⟨fa',fn',fc'⟩ ⟨a8,n8,c8⟩ (.slice fa fn fc) (.slice (some ⟨b2,o2,none⟩) on oc) x.fr (GG++[r]):=by
     have hc:=HC.out
     refine ⟨?_, ?_, ?_, ?_, ?_⟩
     ·rw [heap_setCell_other w8 ⟨w4.heap.size,1,none⟩ _ _ (show w.heap.size≠w4.heap.size by omega)];exact K8 _ _ hc.bx (notT_of (by decide))
     ·rw [heap_setCell_other w8 ⟨w4.heap.size,1,none⟩ _ _ (show w.heap.size+1≠w4.heap.size by omega)];exact K8 _ _ hc.br (notT_of (by decide))
     ·exact heap_setCell_same w8 w4.heap.size 1 _ _ _ bo8
     ·refine hc.of.sameV fun q hq => ?_
      obtain ⟨a,ha⟩:=hc.of.typed hq
      have h2:=K8 _ _ ha (notT_of (by decide))
      rw [heap_setCell_other w8 ⟨w4.heap.size,1,none⟩ q _ (show q≠w4.heap.size by rintro rfl;rw [hc.bo] at ha;simp at ha),h2,ha]
     ·obtain ⟨us',ds',h⟩:=R8
      exact ⟨us',ds',h.setLow (by omega)⟩
    have HC9:=hide C9
    have HB9:=hide (B9.setCell (p:=⟨w4.heap.size,1,none⟩) (show w.heap.size≤w4.heap.size by omega) (.slice a8 n8 c8))
    clear C9 R8 B8 B9
    go_wp2_with fail
    go_roundw
    case rel=>exact ⟨k+1,by omega,by go_num,⟨⟨a8,n8,c8⟩,by rw [RS.out];exact HC9.out⟩,HB9.out⟩
    case measure=>simp [intOf];omega
  ·obtain rfl:k=on:=by omega
   rw [List.take_of_length_le (by rw [HON.out];exact Nat.le_refl _)] at hc
   have o0:wr.cell? ⟨w4.heap.size,0,none⟩=some (.slice fa' fn' fc'):=cell_of_heapV hc.bo (k:=0) rfl
   have r0:wr.cell? ⟨w.heap.size+1,0,none⟩=some (.slice none 0 0):=cell_of_heapV hc.br (k:=0) rfl
   have r1:wr.cell? ⟨w.heap.size+1,1,none⟩=some (.slice none 0 0):=cell_of_heapV hc.br (k:=1) rfl
   have rfz:=frozen_of_heapV hc.br
   have rl:=lt_of_cell r0
   go_wp2_with fail
   have hne:∀ q,(Slc.v ⟨fa',fn',fc'⟩).ownBlock=some q→q≠w.heap.size+1:=fun q hq=>by
    rintro rfl
    obtain ⟨a,ha⟩:=hc.of.typed hq
    rw [hc.br] at ha
    simp at ha
   refine bodyPost_ret (v:=.agg #[.slice fa' fn' fc', .slice sa sn sc]) (by simp [results,Tryz.results140,go_sem, *]) rfl ⟨⟨fa',fn',fc'⟩,⟨sa,sn,sc⟩,w4.heap.size+1,rfl, ?_,fun q hq=>by have:=HFM.out q hq;omega,by omega, ?_, ?_⟩
   ·exact (hc.of.sameV fun q hq=>heap_setCell_other _ ⟨w.heap.size+1,0,none⟩ q _ (hne q hq)).sameV fun q hq=>heap_setCell_other _ ⟨w.heap.size+1,1,none⟩ q _ (hne q hq)
   ·obtain ⟨us,ds,hU⟩:=hc.os
    have h1:=(hU.setLow (j:=0) (u:=.slice fa' fn' fc') (show w.heap.size+1 < w4.heap.size+1 by omega)).setLow (j:=1) (u:=.slice sa sn sc) (show w.heap.size+1 < w4.heap.size+1 by omega)
    exact ⟨us,ds,h1⟩
   ·exact (hbr.setCell (p:=⟨w.heap.size+1,0,none⟩) (show w.heap.size≤w.heap.size+1 by omega) _).setCell (p:=⟨w.heap.size+1,1,none⟩) (show w.heap.size≤w.heap.size+1 by omega) _
theorem l6Copy_any (vf vo:Value) (x:Xc) (w:World) (hx:RepX w vf vo x) (hl:x.fr.length≤1048576) (hol:x.od.length≤1048576) (hrl:∀ o∈x.od,o.length≤1048576) :
 Calls Tryz.prog 140 #[.agg #[vf,vo]] w (RetX w x):=(l6Copy_anyA vf vo x w hx hl hol hrl).mono fun _ _ h=>h.ret
end Go.Proofs.YtfbgppkdnfljhaaGreatDoor
namespace Go.Proofs.YtfbgppkdnfljhaaGreatDoor
open Go.RowKit
theorem ruleOk_eq (k o:Int) (p:ByteArray) (ks:List Re):ruleOk ⟨k, .mk o p ks⟩=(inB k 1 3&&validR (.mk o p ks)):=rfl
theorem ModelValid_1 (k o:Int) (p:ByteArray) (a:Option Addr) (n c:Nat) (ks:List Re) (w:World) (h:RepRk 0 w ⟨a,n,c⟩ ks) (hg:Glob w) :
 Calls Tryz.prog 73 #[.agg #[.int .i64 k, .int .i64 o, .string p, .slice a n c]] w fun e w'=>e = .returned (.bool (!ruleOk ⟨k, .mk o p ks⟩))∧Below w.heap.size w w':=by
 have HB:=hide (belowAlloc w (.cells #[.int .i64 k, .int .i64 o, .string p, .slice a n c] 54))
 have HV:=hide (RelExprValid_raw o p ks a n c _ (h.below HB.out) (hg.below HB.out))
 have HW:=hide (within_any k 1 3)
 rw [ruleOk_eq]
 generalize inB k 1 3=b1 at *
 generalize validR (.mk o p ks)=b2 at *
 clear h hg
 cases b1
 ·go_enter Tryz.func73,Tryz.ntmps73
  go_wp2_with fail
  (with_reducible refine (HW.out _).mono ?_);rintro e w1 ⟨rfl,rfl⟩
  go_wp2_with fail
  go_ret
  exact ⟨rfl,HB.out⟩
 ·go_enter Tryz.func73,Tryz.ntmps73
  go_wp2_with fail
  (with_reducible refine (HW.out _).mono ?_);rintro e w1 ⟨rfl,rfl⟩
  go_wp2_with fail
  (with_reducible refine HV.out.mono ?_);rintro e w2 ⟨rfl,hb2⟩
  go_wp2_with fail
  go_ret
  exact ⟨by cases b2 <;> rfl,HB.out.trans (hb2.mono HB.out.size)⟩
def IdxBad (m:List Ru) (q:Int):Prop:=(q = -1∧m.all ruleOk=true)∨(∃ t:Nat,q=t∧m.all ruleOk=false)
theorem allR_take {f:Ru→Bool} {m:List Ru} {k:Nat} (h:∀ r∈m.take k,f r=true) (hk:m.length≤k):m.all f=true:=by
 rw [List.take_of_length_le hk] at h
 exact List.all_eq_true.2 h
theorem allR_succ {f:Ru→Bool} {m:List Ru} {k:Nat} {r:Ru} (h:∀ r∈m.take k,f r=true) (hr:m[k]? = some r) (hf:f r=true):∀ r∈m.take (k+1),f r=true:=by
 intro y hy
 rw [List.take_add_one,hr] at hy
 simp at hy
 rcases hy with hy | rfl
 ·exact h y hy
 ·exact hf
theorem allR_not {f:Ru→Bool} {m:List Ru} {k:Nat} {r:Ru} (hr:m[k]? = some r) (hf:f r=false):m.all f=false:=by
 cases h:m.all f with
 | false=>rfl
 | true =>
  have:=List.all_eq_true.1 h r (List.mem_of_getElem? hr)
  rw [hf] at this;cases this
theorem IndexFunc_mv (a:Option Addr) (n c:Nat) (m:List Ru) (w:World) (hx:RepM 0 w ⟨a,n,c⟩ m) (hg:Glob w) :
 Calls Tryz.prog 125 #[.slice a n c, .func (.func 73) #[] #[]] w fun e w'=>(∃ q:Int,e = .returned (.int .i64 q)∧IdxBad m q)∧Below w.heap.size w w':=by
 obtain ⟨e1,hc1,hc2,hc3⟩:=hx.open
 simp only at e1 hc1 hc2 hc3
 have HX:=hide hx;have HG:=hide hg
 clear hx hg
 have H:=hide e1.symm;clear e1
 rw [H.out] at hc1 hc2
 go_enter Tryz.func125,Tryz.ntmps125
 go_wp2_with fail
 go_loopw [8] (fun i wr => ∃ t:Nat,t≤n∧i = .int .i64 t∧Hid (∀ r∈m.take t,ruleOk r=true)∧Below w.heap.size w wr) (fun i _=>n - (intOf i).toNat)
 case atStart=>exact ⟨0,Nat.zero_le _,rfl,hide (by simp),Below.refl _ _⟩
 case round =>
  obtain ⟨t,ht,rfl,hno,hb⟩:=hrel
  by_cases hlt:t < n
  ·obtain ⟨r,hrk⟩:=get_of_lt (xs:=m) (k:=t) (by rw [H.out];exact hlt)
   obtain ⟨b,o,s,rfl,hbl,i0,i1,i2,i3,i4⟩:=(HX.out.below hb).row hrk
   have hlt':=nat_of_lt hlt
   have hcall:=ModelValid_1 r.kind r.e.op r.e.nm s.a s.n s.cap r.e.kids wr i4 (HG.out.below hb)
   rw [Ru.eta] at hcall
   have X:=hide hrk;clear hrk i4
   generalize hfx:ruleOk r=fx at *
   have FX:=hide hfx;clear hfx
   have HC:=hide hcall;clear hcall
   cases fx
   ·have NO:=hide (allR_not X.out FX.out)
    go_wp2_with fail
    (with_reducible refine HC.out.mono ?_);rintro e w2 ⟨rfl,hb2⟩
    go_wp2_with fail
    go_ret
    exact ⟨⟨_,rfl, .inr ⟨t,rfl,NO.out⟩⟩,hb.trans (hb2.mono hb.size)⟩
   ·have NO:=hide (allR_succ hno.out X.out FX.out)
    go_wp2_with fail
    (with_reducible refine HC.out.mono ?_);rintro e w2 ⟨rfl,hb2⟩
    go_wp2_with fail
    go_roundw
    case rel=>exact ⟨t+1,by omega,by go_num,NO,hb.trans (hb2.mono hb.size)⟩
    case measure=>simp [intOf];omega
  ·have NO:=hide (allR_take hno.out (by rw [H.out];omega))
   go_wp2_with fail
   go_ret
   exact ⟨⟨_,rfl, .inl ⟨rfl,NO.out⟩⟩,hb⟩
theorem ContainsFunc_mv (a:Option Addr) (n c:Nat) (m:List Ru) (w:World) (hx:RepM 0 w ⟨a,n,c⟩ m) (hg:Glob w) :
 Calls Tryz.prog 72 #[.slice a n c, .func (.func 73) #[] #[]] w fun e w'=>e = .returned (.bool (!m.all ruleOk))∧Below w.heap.size w w':=by
 have HI:=hide (IndexFunc_mv a n c m w hx hg)
 clear hx hg
 go_enter Tryz.func72,Tryz.ntmps72
 go_wp2_with fail
 (with_reducible refine HI.out.mono ?_);rintro e w1 ⟨⟨q,rfl,hq⟩,hb1⟩
 have HQ:Hid (decide (q≥0) = !m.all ruleOk):=hide (by
  rcases hq with ⟨rfl,h⟩ | ⟨t,rfl,h⟩
  ·rw [h];rfl
  ·rw [h];simp)
 clear hq
 go_wp2_with fail
 go_ret
 exact ⟨by rw [← HQ.out];rfl,hb1⟩
theorem modelOk_eq (m:List Ru):modelOk m=(inB (m.length:Int) 1 5&&m.all ruleOk):=by
 unfold modelOk inB
 have h1:decide (1≤m.length)=decide ((1:Int)≤(m.length:Int)):=by rw [decide_eq_decide];omega
 have h2:decide (m.length≤5)=decide ((m.length:Int)≤5):=by rw [decide_eq_decide];omega
 rw [h1,h2,Bool.and_assoc]
theorem ModelValid_any (a:Option Addr) (n c:Nat) (m:List Ru) (w:World) (hx:RepM 0 w ⟨a,n,c⟩ m) (hg:Glob w) :
 Calls Tryz.prog 26 #[.slice a n c] w fun e w'=>e = .returned (.bool (modelOk m))∧Below w.heap.size w w':=by
 obtain ⟨e1,hc1,hc2,hc3⟩:=hx.open
 simp only at e1 hc1 hc2 hc3
 have HC:=hide (ContainsFunc_mv a n c m w hx hg)
 have HW:=hide (within_any (n:Int) 1 5)
 rw [modelOk_eq,← e1]
 clear hx hg e1
 generalize inB (n:Int) 1 5=b1 at *
 generalize m.all ruleOk=b2 at *
 cases b1
 ·go_enter Tryz.func26,Tryz.ntmps26
  go_wp2_with fail
  (with_reducible refine (HW.out _).mono ?_);rintro e w1 ⟨rfl,rfl⟩
  go_wp2_with fail
  go_ret
  exact ⟨rfl,Below.refl _ _⟩
 ·go_enter Tryz.func26,Tryz.ntmps26
  go_wp2_with fail
  (with_reducible refine (HW.out _).mono ?_);rintro e w1 ⟨rfl,rfl⟩
  go_wp2_with fail
  (with_reducible refine HC.out.mono ?_);rintro e w2 ⟨rfl,hb2⟩
  go_wp2_with fail
  go_ret
  exact ⟨by cases b2 <;> rfl,hb2⟩
theorem RepM.bound {w:World} {s:Slc} {m:List Ru} (_:RepM 0 w s m) {r:Ru} (hr:r∈m) (hl:wtM m≤1048576):descR r.e.kids≤1048576:=by
 have h1:=wtM_mem hr;have h2:=descR_le_wtR r.e.kids;omega
theorem sModelValid_any (a:Option Addr) (n c:Nat) (m:List Ru) (w:World) (hx:RepM 0 w ⟨a,n,c⟩ m) (hl:wtM m≤1048576) :
 Calls Tryz.prog 32 #[.slice a n c] w fun e w'=>e = .returned (.bool (modelOk m))∧Below w.heap.size w w':=by
 obtain ⟨e1,hc1,hc2,hc3⟩:=hx.open
 simp only at e1 hc1 hc2 hc3
 have HX:=hide hx
 have HBD:=hide (fun r (hr:r∈m)=>hx.bound hr hl)
 have ME:=hide (modelOk_eq m)
 have IE:Hid (inB (m.length:Int) 1 5=(decide (1≤(m.length:Int))&&decide ((m.length:Int)≤5))):=hide rfl
 clear hx
 have H:=hide e1.symm;clear e1
 rw [H.out] at hc1 hc2 ME IE
 generalize modelOk m=R at *
 generalize inB (n:Int) 1 5=I5 at *
 go_enter Tryz.func32,Tryz.ntmps32
 go_wp2_with fail
 go_loopw [3] (fun i wr => ∃ t:Nat,t≤n∧t≤6∧i = .int .i64 t∧Hid (∀ r∈m.take t,ruleOk r=true)∧Below w.heap.size w wr) (fun i _=>n - (intOf i).toNat)
 case atStart=>exact ⟨0,Nat.zero_le _,by omega,rfl,hide (by simp),Below.refl _ _⟩
 case round =>
  obtain ⟨t,ht,ht6,rfl,hno,hb⟩:=hrel
  by_cases hlt:t < n
  ·have hlt':=nat_of_lt hlt
   by_cases h5:t≤5
   ·obtain ⟨r,hrk⟩:=get_of_lt (xs:=m) (k:=t) (by rw [H.out];exact hlt)
    obtain ⟨b,o,s,rfl,hbl,i0,i1,i2,i3,i4⟩:=(HX.out.below hb).row hrk
    have h5':(t:Int)≤5:=by omega
    have HV:=hide (RelExprValidS_raw r.e.op r.e.nm r.e.kids s.a s.n s.cap wr i4 (HBD.out r (List.mem_of_getElem? hrk)))
    have RO:Hid (ruleOk r=(inB r.kind 1 3&&validR (.mk r.e.op r.e.nm r.e.kids))):=hide (by rw [Re.eta];rfl)
    have X:=hide hrk;clear hrk i4
    generalize validR (.mk r.e.op r.e.nm r.e.kids)=b2 at *
    generalize hfx:ruleOk r=fx at *
    have FX:=hide hfx;clear hfx
    generalize r.kind=kd at *
    by_cases g1:kd < 1
    ·have g1':decide (kd < 1)=true:=decide_eq_true g1
     obtain rfl:fx=false:=by rw [RO.out];unfold inB;rw [decide_eq_false (show ¬ 1≤kd by omega)];rfl
     have NO:=hide (allR_not X.out FX.out)
     have RF:Hid (R=false):=hide (by rw [ME.out,NO.out,Bool.and_false])
     clear g1
     go_wp2_with fail
     go_ret
     exact ⟨by rw [RF.out];rfl,hb⟩
    ·have g1':decide (kd < 1)=false:=decide_eq_false g1
     by_cases g2:kd > 3
     ·have g2':decide (kd > 3)=true:=decide_eq_true g2
      obtain rfl:fx=false:=by rw [RO.out];unfold inB;rw [decide_eq_false (show ¬ kd≤3 by omega),Bool.and_false];rfl
      have NO:=hide (allR_not X.out FX.out)
      have RF:Hid (R=false):=hide (by rw [ME.out,NO.out,Bool.and_false])
      clear g1 g2
      go_wp2_with fail
      go_ret
      exact ⟨by rw [RF.out];rfl,hb⟩
     ·have g2':decide (kd > 3)=false:=decide_eq_false g2
      obtain rfl:fx=b2:=by rw [RO.out];unfold inB;rw [decide_eq_true (show 1≤kd by omega),decide_eq_true (show kd≤3 by omega)];rfl
      clear g1 g2
      cases fx
      ·have NO:=hide (allR_not X.out FX.out)
       have RF:Hid (R=false):=hide (by rw [ME.out,NO.out,Bool.and_false])
       go_wp2_with fail
       (with_reducible refine HV.out.mono ?_);rintro e w5 ⟨rfl,hb5⟩
       go_wp2_with fail
       go_ret
       exact ⟨by rw [RF.out];rfl,hb.trans (hb5.mono hb.size)⟩
      ·have NO:=hide (allR_succ hno.out X.out FX.out)
       go_wp2_with fail
       (with_reducible refine HV.out.mono ?_);rintro e w5 ⟨rfl,hb5⟩
       go_wp2_with fail
       go_roundw
       case rel=>exact ⟨t+1,by omega,by omega,by go_num,NO,hb.trans (hb5.mono hb.size)⟩
       case measure=>simp [intOf];omega
   ·have h5':decide ((t:Int)≤5)=false:=decide_eq_false (by omega)
    have h6:decide ((n:Int)≤5)=false:=decide_eq_false (by omega)
    have RF:Hid (R=false):=hide (by rw [ME.out,IE.out,h6,Bool.and_false];rfl)
    have h7:(n:Int) > 0:=by omega
    go_wp2_with fail
    go_ret
    exact ⟨by rw [RF.out];rfl,hb⟩
  ·obtain rfl:t=n:=by omega
   have NO:=hide (allR_take hno.out (by rw [H.out];omega))
   have RF:Hid (R=(decide (1≤(t:Int))&&decide ((t:Int)≤5))):=hide (by rw [ME.out,IE.out,NO.out,Bool.and_true])
   by_cases h0:(t:Int) > 0
   ·have RG:Hid (R=decide ((t:Int)≤5)):=hide (by rw [RF.out,decide_eq_true (show (1:Int)≤t by omega)];rfl)
    go_wp2_with fail
    go_ret
    exact ⟨by rw [RG.out];rfl,hb⟩
   ·have h0':decide ((t:Int) > 0)=false:=decide_eq_false h0
    have RG:Hid (R=false):=hide (by rw [RF.out,decide_eq_false (show ¬ (1:Int)≤t by omega)];rfl)
    go_wp2_with fail
    go_ret
    exact ⟨by rw [RG.out];rfl,hb⟩
end Go.Proofs.YtfbgppkdnfljhaaGreatDoor