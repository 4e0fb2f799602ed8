/-
  The reference's l6All. Condition: bounds on lengths.
-/
import Derived.Test.YtkfhgnkonaafgaaGreatDoorZs22
import Derived.Deep.AppendLies
import Derived.Deep.RegionLaw
import Derived.Test.YtkfhgnkonaafgaaGreatDoorZs05
import Derived.Test.YtkfhgnkonaafgaaGreatDoorZs12
set_option maxHeartbeats 6400000
set_option maxRecDepth 100000
namespace Go.Proofs.YtkfhgnkonaafgaaGreatDoor
open Go.RowKit
theorem Tryz.infoIntSS:(Tryz.prog.info? 27).map (fun i=>(i.zero,i.size,i.bytes))=some (some (.slice none 0 0),1,24):=by kernel_rfl
theorem below_lit2 {w w':World} {l:Array Value} {T:TypeId} {n c:Nat} (hg:(w.alloc (.cells l T)).grownBy w' (Value.slice (some ⟨w.heap.size,0,none⟩) n c).ownBlock):Below w.heap.size w w':=
 ((Below.refl w.heap.size w).alloc (Nat.le_refl _) (.cells l T)).grown hg (by simp) (fun q hq=>by simp [Value.ownBlock] at hq;omega)
def Rany (_ _:Dd):Prop:=True
def PhiO (d:Dd) (W:World) (u:Slc) (o:List (List Int)):Prop:=d.us.length=o.length∧Rep SlcE W u.v d.us∧∀ (i:Nat) (s:Slc) (r:List Int),d.us[i]? = some s→o[i]? = some r→Rep IntE W s.v r
abbrev RowsO (w:World) (base:Nat) (v:Value) (L:List (List (List Int))):Prop:=OwnF SlcE 27 Rany PhiO w base v L
def RowsH (w:World) (lo base:Nat) (v:Value) (L:List (List (List Int))):Prop:=∃ us ds,OwnFU SlcE 27 Rany PhiO us ds w lo v L∧Own SlcE 27 w base v us
theorem PhiO.rep2 {d:Dd} {W:World} {u:Slc} {o:List (List Int)} (h:PhiO d W u o):RepNN W u.v o:=⟨d.us,h.1,h.2.1,h.2.2⟩
theorem PhiO.cons {w:World} {lo lo':Nat} {s f u:Slc} {us:List Slc} {x:List Int} {o:List (List Int)} {a b:Nat} (h1:Own SlcE 24 w lo' s.v (f :: us)) (hlo:lo≤lo') (h2:LocR 27 lo w.heap.size w (fun W=>Rep IntE W f.v x)) (h3:LocR 27 lo w.heap.size w (fun W=>PhiO ⟨a,b,us⟩ W u o)) :
 LocR 27 lo w.heap.size w (fun W=>PhiO ⟨lo,w.heap.size,f :: us⟩ W s (x :: o)):=by
 have h4:=(LocR.own (T:=27) (by decide) h1).wide hlo (Nat.le_refl _) (Nat.le_refl _)
 refine ((h4.and h2).and h3).map fun V ⟨⟨k1,k2⟩,k3⟩=>⟨by simp [k3.1],k1.rep,fun i s' r hs hr => ?_⟩
 cases i with
 | zero=>simp at hs hr;subst hs;subst hr;exact k2
 | succ i=>exact k3.2.2 i s' r (by simpa using hs) (by simpa using hr)
theorem RowsO.row {w:World} {base:Nat} {a:Option Addr} {n c:Nat} {L:List (List (List Int))} (h:RowsO w base (.slice a n c) L) {k:Nat} {o:List (List Int)} (hr:L[k]? = some o) :
 ∃ (u:Slc) (us:List Slc) (g p q:Nat),a=some ⟨g,0,none⟩∧g < w.heap.size∧w.cell? ⟨g,k,none⟩=some (.slice u.a u.n u.cap)∧LocR 27 base w.heap.size w (fun W=>PhiO ⟨p,q,us⟩ W u o):=by
 obtain ⟨us,ds,h⟩:=h
 obtain ⟨u,d,g, -, -,h1, -,h2,h3,hb,h4⟩:=h.at hr
 have h5:=h3 0 _ rfl
 simp only [SlcE,Nat.mul_one,Nat.add_zero] at h5
 exact ⟨u,d.us,g,d.lo,d.hi,h1,h2,h5,h4.wide hb h4.le (Nat.le_refl _)⟩
theorem RowsO.len {w:World} {base:Nat} {a:Option Addr} {n c:Nat} {L:List (List (List Int))} (h:RowsO w base (.slice a n c) L):n=L.length:=by
 rcases h.shape with ⟨h1,h2⟩ | ⟨g,cap,h1, -⟩
 ·simp only [Value.slice.injEq] at h1;rw [h1.2.1,h2];rfl
 ·simp only [Value.slice.injEq] at h1;exact h1.2.1
theorem RowsI.len {w:World} {base:Nat} {a:Option Addr} {n c:Nat} {L:List (List Int)} (h:RowsI w base (.slice a n c) L):n=L.length:=by
 rcases h.shape with ⟨h1,h2⟩ | ⟨g,cap,h1, -⟩
 ·simp only [Value.slice.injEq] at h1;rw [h1.2.1,h2];rfl
 ·simp only [Value.slice.injEq] at h1;exact h1.2.1
theorem RowsH.below {w w':World} {lo base:Nat} {v:Value} {L:List (List (List Int))} (h:RowsH w lo base v L) (hb:Below w.heap.size w w'):RowsH w' lo base v L:=by
 obtain ⟨us,ds,h,k⟩:=h
 exact ⟨us,ds,h.below hb,k.below hb⟩
theorem RowsH.app {us:List Slc} {ds:List Dd} {w w2:World} {lo base:Nat} {v v':Value} {L:List (List (List Int))} (h:OwnFU SlcE 27 Rany PhiO us ds w lo v L) {s:Slc} {d:Dd} {o:List (List Int)} (hlb:lo≤base)
 (hn:LocR 27 d.lo d.hi w (fun W=>PhiO d W s o)) (hd:lo≤d.lo) (ho:Own SlcE 27 w2 base v' (us++[s])) (hg:w.grownBy w2 v.ownBlock):RowsH w2 lo base v' (L++[o]):=
 ⟨us++[s],ds++[d],OwnFU.app h (ho.mono hlb) hg hd hn (fun _ _=>trivial),ho⟩
def ordQ (es:List Ev) (l:Nat) (q:List Int):List (List (List Int)):=(ordsL es (l+1)).map (((wrL es l).headD 0 :: q) :: ·)
theorem ordsL_row {es:List Ev}:∀ (n l:Nat),l+n=3→∀ o∈ordsL es l,o.length=n:=by
 intro n
 induction n with
 | zero =>
  intro l hl o ho
  obtain rfl:l=3:=by omega
  rw [ordsL_end] at ho;simp at ho;subst ho;rfl
 | succ n ih =>
  intro l hl o ho
  rw [ordsL_step (by omega),List.mem_flatMap] at ho
  obtain ⟨q, -,hq⟩:=ho
  rw [List.mem_map] at hq
  obtain ⟨y,hy,rfl⟩:=hq
  rw [List.length_cons,ih (l+1) (by omega) y hy]
theorem l6Orders_any (es:List Ev) (hl:es.length≤1048576) (hords:∀ l,(ordsL es l).length≤3000) (hperms:∀ l:Nat,l < 3→fact (wrL es l).tail.length≤3000) (hwr:∀ l:Nat,l < 3→0 < (wrL es l).length) (n:Nat):∀ (v:Value) (l:Nat) (w:World),l+n=3→Rep EvE w v es →
 Calls Tryz.prog 111 #[v, .int .i64 l] w fun e w' => ∃ u:Slc,e = .returned (.slice u.a u.n u.cap)∧RowsO w' w.heap.size u.v (ordsL es l)∧Below w.heap.size w w':=by
 induction n with
 | zero =>
  intro v l w hi he
  obtain ⟨a,c,rfl, -, -, -, -⟩:=he.open
  obtain rfl:l=3:=by omega
  rw [ordsL_end]
  generalize es.length=m at *
  go_enter Tryz.func111,Tryz.ntmps111
  go_wp2_with fail
  go_ret
  have hb1:=(Below.refl w.heap.size w).alloc (Nat.le_refl _) (.cells #[] 24)
  have h0:=Own.empty (E:=SlcE) 24 w (Nat.le_refl _)
  have hz:(w.alloc (.cells #[] 24)).heap.size=w.heap.size+1:=by simp
  have h1:=Own.lit1 (E:=SlcE) (T:=27) (w.alloc (.cells #[] 24)) (base:=w.heap.size) (by omega) ⟨some ⟨w.heap.size,0,none⟩,0,0⟩
  refine ⟨⟨some ⟨w.heap.size+1,0,none⟩,1,1⟩,rfl,⟨[⟨some ⟨w.heap.size,0,none⟩,0,0⟩],[⟨w.heap.size,w.heap.size+1,[]⟩],rfl,rfl,by simp,by rw [hz] at h1;exact h1,fun i u d x h2 h3 h4 => ?_⟩,hb1.alloc (by omega) _⟩
  cases i with
  | succ i=>simp at h2
  | zero =>
   simp at h2 h3 h4
   subst h2;subst h3;subst h4
   refine ⟨Nat.le_refl _, ?_⟩
   have h5:=(LocR.own (T:=27) (by decide) h0).below ((Below.refl _ (w.alloc (.cells #[] 24))).alloc (Nat.le_refl _) (.cells (SlcE.c ⟨some ⟨w.heap.size,0,none⟩,0,0⟩).toArray 27))
   rw [hz] at h5
   exact h5.map fun V k=>⟨rfl,k.rep,fun i s r hs=>by simp at hs⟩
 | succ n ih =>
  intro v l w hi he
  have hl3:l < 3:=by omega
  have hcast:((l+1:Nat):Int)=(l:Int)+1:=by omega
  have HI:=hide (fun w' h=>ih v (l+1) w' (by omega) h)
  rw [hcast] at HI
  have HW:=hide (fun w' h=>l6Writers_any v es (l:Int) w' h (by omega))
  have HP:=hide (fun v w' h=>l6Perms_any (wrL es l).tail.length v (wrL es l).tail w' rfl (hperms l hl3) h)
  have HPR:=hide (fun r (hr:r∈permsL (wrL es l).tail)=>permsL_row _ (wrL es l).tail rfl r hr)
  have HPN:=hide (Nat.le_trans (permsL_length (wrL es l).tail) (hperms l hl3))
  have HTL:=hide (fact_lt (hperms l hl3))
  have HROW:=hide (fun r (hr:r∈ordsL es (l+1))=>ordsL_row n (l+1) (by omega) r hr)
  have HF1:=hide (hords (l+1));have HF0:=hide (hords l)
  have HST:Hid (ordsL es l=(permsL (wrL es l).tail).flatMap (ordQ es l)):=hide (ordsL_step (es:=es) (l:=l) hl3)
  obtain ⟨x,hx0⟩:=get_of_lt (xs:=wrL es l) (k:=0) (hwr l hl3)
  have HQ:Hid (∀ q,ordQ es l q=(ordsL es (l+1)).map ((x :: q) :: ·)):=hide (fun q=>by
   unfold ordQ
   have:(wrL es l).headD 0=x:=by
    cases h:wrL es l with
    | nil=>rw [h] at hx0;cases hx0
    | cons y ys=>rw [h] at hx0;simpa using hx0
   rw [this])
  have HWLEN:=hide (hwr l hl3)
  have HX0:=hide hx0
  have HE:=hide he
  obtain ⟨a,c,rfl, -, -, -, -⟩:=he.open
  have hl2:(l:Int)≤2:=by omega
  have hgt:decide ((2:Int) < (l:Int))=false:=by simp;omega
  clear he ih hcast hords hperms hwr hx0
  generalize hm:es.length=m at *
  clear hm
  generalize ordsL es l=R at *
  generalize ordsL es (l+1)=RR at *
  generalize ordQ es l=F at *
  generalize wrL es (l:Int)=WR at *
  go_enter Tryz.func111,Tryz.ntmps111
  go_wp2_with fail
  (with_reducible refine (HI.out _ HE.out).mono ?_);rintro e w2 ⟨⟨ra,rn,rc⟩,rfl,ou,hb2⟩
  have HRN:Hid (RR.length=rn):=hide (RowsO.len ou).symm
  have hrb:rn≤3000:=by have:=HRN.out;have:=HF1.out;omega
  have HRR:=hide ou;have HB2:=hide hb2
  have HW2:=hide (HW.out w2 (HE.out.below hb2))
  have hs12:=hb2.size
  clear ou hb2 HI HW
  go_wp2_with fail
  (with_reducible refine HW2.out.mono ?_);rintro e w3 ⟨vw,rfl,ow,hb3⟩
  rcases ow.shape with ⟨rfl,h0⟩ | ⟨gw,wcap,rfl,hgw1,hgw2,hgw3, -⟩
  ·exfalso
   have:=HWLEN.out
   rw [h0] at this;simp at this
  have HWN:Hid (0 < WR.length∧WR.length≤7):=hide ⟨HWLEN.out,by have:=HTL.out;rw [List.length_tail] at this;omega⟩
  have HOW:=hide ow
  have HB3:=hide (HB2.out.trans (hb3.mono HB2.out.size))
  have HRR3:=hide (OwnF.below HRR.out hb3)
  have hwt:WR.tail=WR.drop 1:=by cases WR <;> rfl
  have T1:=hide (ow.rep.dropV (k:=1) HWLEN.out)
  rw [← hwt] at T1
  obtain ⟨wn,hwn⟩:∃ wn,WR.length=wn:=⟨_,rfl⟩
  rw [hwn] at T1 HOW HWN hgw3 ⊢
  have hwn1:1≤wn:=HWN.out.1
  have hwn7:wn≤7:=HWN.out.2
  have h1w:(1:Int)≤(wn:Int):=by omega
  have hwcap:(wn:Int)≤(wcap:Int):=by omega
  have hs23:=hb3.size
  clear ow hb3 HB2 HRR HW2 hwt hwn
  go_upto_region 5 with fail
  go_cut [7] (fun s7 W => ∃ u:Slc,s7 = .slice u.a u.n u.cap∧RowsI W w3.heap.size u.v (permsL WR.tail)∧Below w3.heap.size w3 W)
  case first =>
   by_cases hck:wcap=1
   ·rw [if_pos hck] at T1
    obtain rfl:wn=1:=by omega
    subst hck
    have HC:=hide (HP.out _ w3 T1.out)
    go_wp2_with fail
    (with_reducible refine HC.out.mono ?_);rintro e w4 ⟨u,rfl,ou,hb4⟩
    go_wp2_with fail
    go_meet
    exact ⟨u,rfl,ou,hb4⟩
   ·rw [if_neg hck] at T1
    have HC:=hide (HP.out _ w3 T1.out)
    simp only [Nat.zero_add] at HC
    go_wp2_with fail
    (with_reducible refine HC.out.mono ?_);rintro e w4 ⟨u,rfl,ou,hb4⟩
    go_wp2_with fail
    go_meet
    exact ⟨u,rfl,ou,hb4⟩
  case rest =>
   obtain ⟨⟨pa,pn,pc⟩,rfl,hpr,hbc⟩:=hcut
   have HPLN:Hid ((permsL WR.tail).length=pn):=hide (RowsI.len hpr).symm
   have hpb:pn≤3000:=by have:=HPLN.out;have:=HPN.out;omega
   have HPM:=hide hpr
   have HRC:=hide (OwnF.below HRR3.out hbc)
   have HBC:=hide (HB3.out.trans (hbc.mono HB3.out.size))
   have HOC:=hide (HOW.out.below hbc)
   have hs34:=hbc.size
   clear hpr hbc T1 HRR3 HB3 HOW HP
   generalize permsL WR.tail=PM at *
   go_wp2_with fail
   go_loopw [8,9] (fun s i wr => ∃ k:Nat,k≤pn∧i = .int .i64 k∧RowsH wr w.heap.size wc.heap.size s ((PM.take k).flatMap F)∧Below wc.heap.size wc wr) (fun _ i _=>pn - (intOf i).toNat)
   case atStart=>exact ⟨0,Nat.zero_le _,rfl,⟨[],[],⟨rfl,rfl, .nil,Own.empty _ _ (by omega),fun i u d x h=>by simp at h⟩,Own.empty _ _ (Nat.le_refl _)⟩,(Below.refl _ _).alloc (Nat.le_refl _) _⟩
   case round =>
    obtain ⟨k,hk,rfl,hrows,hbr⟩:=hrel
    by_cases hlt:k < pn
    ·obtain ⟨q,hqk⟩:=get_of_lt (xs:=PM) (k:=k) (by rw [HPLN.out];exact hlt)
     have hltk:=nat_of_lt hlt
     have GS:=hide (flatMap_take_succ F hqk)
     rw [HQ.out q] at GS
     have HGL:Hid (((PM.take k).flatMap F).length≤3000):=hide (by
      have:=flatMap_take_le F PM k
      rw [← HST.out] at this
      exact Nat.le_trans this HF0.out)
     obtain ⟨⟨sa,sn,sc⟩,g,hga,hg,g0,hrep⟩:=RowsI.row (OwnF.below HPM.out hbr) hqk
     have hgc:g < wc.heap.size:=by
      obtain ⟨-,g',hga',hgc, -⟩:=RowsI.row HPM.out hqk
      rw [hga] at hga';simp at hga';omega
     subst hga
     obtain ⟨b',o',hbo,hbf,f0⟩:=(HOC.out.below hbr).rep.int HX0.out
     simp only [Option.some.injEq,Addr.mk.injEq,and_true] at hbo
     obtain ⟨rfl,rfl⟩:=hbo
     simp only [Nat.add_zero] at f0
     have hqr:=HPR.out q (List.mem_of_getElem? hqk)
     have hn1:([x]:List Int).length+q.length≤68719476736:=by
      rw [hqr,List.length_tail]
      have:=HTL.out
      rw [List.length_tail] at this
      simp;omega
     have HRP:=hide (hrep.below ((Below.refl wr.heap.size wr).alloc (Nat.le_refl _) (.cells #[.int .i64 x] 3)).drew)
     have HLT:Hid (Own IntE 3 (wr.alloc (.cells #[.int .i64 x] 3)).drew wr.heap.size (.slice (some ⟨wr.heap.size,0,none⟩) 1 1) [x]):=hide (Own.lit1 (E:=IntE) (T:=3) wr (Nat.le_refl _) x)
     generalize (PM.take k).flatMap F=G at *
     have HRO:=hide hrows;have HBR:=hide hbr
     have h01:0 < wn:=by omega
     clear hrows hbr hqk hrep hqr
     go_wp2_with fail
     go_region_held3 (fun V=>V.cell? ⟨gw,0,none⟩=some (.int .i64 x)∧V.cell? ⟨g,k,none⟩=some (.slice sa sn sc)) ((simp [go_sem, *]))
      (first
       | (refine step_appS IntE 3 Tryz.infoInt rfl Tryz.underlying24 wr.heap.size _ [x] q _ HLT.out HRP.out (by decide) hn1 (by simp) (by rfl) _ _ (by rfl) (by rfl) (by rfl) ?_;intro v6 w6 hown6 hgr6;obtain ⟨⟨a6,n6,c6⟩,rfl, -⟩:=hown6.toSlc;have O6:=hide hown6;have hk6:(∀ o,w6.cell? ⟨gw,o,none⟩=wr.cell? ⟨gw,o,none⟩):=(kept_d hgr6 hbf (fun q hq=>by simp [Value.ownBlock] at hq;omega));have hk7:(∀ o,w6.cell? ⟨g,o,none⟩=wr.cell? ⟨g,o,none⟩):=(kept_d hgr6 hg (fun q hq=>by simp [Value.ownBlock] at hq;omega));have B6:=hide (below_lit hgr6);have hb6:=B6.out.size;have hz6:gw < w6.heap.size:=(Nat.lt_of_lt_of_le hbf hb6);have hz7:g < w6.heap.size:=(Nat.lt_of_lt_of_le hg hb6);clear hown6 hgr6))
     have O6':Hid (Own IntE 3 w6 wc.heap.size (Slc.v ⟨a6,n6,c6⟩) (x :: q)):=hide (O6.out.mono HBR.out.size)
     have HR6:=hide (HRO.out.below B6.out)
     have HB6:=hide (HBR.out.trans (B6.out.mono HBR.out.size))
     clear O6 HRO HBR B6 hb6 hz6 hz7 hk6 hk7 HLT HRP hn1 g0 hg hgc f0 hbf h01
     go_wp2_with fail
     go_loopw [8,11] (fun s i wr => ∃ j:Nat,j≤rn∧i = .int .i64 j∧RowsH wr w.heap.size wc.heap.size s (G++(RR.take j).map ((x :: q) :: ·))∧Below wc.heap.size wc wr∧Own IntE 3 wr wc.heap.size (.slice a6 n6 c6) (x :: q)) (fun _ i _=>rn - (intOf i).toNat)
     case atStart=>exact ⟨0,Nat.zero_le _,rfl,by rw [List.take_zero,List.map_nil,List.append_nil];exact HR6.out,HB6.out,O6'.out⟩
     case round =>
      obtain ⟨j,hj,rfl,hrows,hbr,hfst⟩:=hrel
      by_cases hltj:j < rn
      ·obtain ⟨o,hoj⟩:=get_of_lt (xs:=RR) (k:=j) (by rw [HRN.out];exact hltj)
       have hltj':=nat_of_lt hltj
       obtain ⟨⟨sa,sn,sc⟩,uss,g,p1,p2,hga,hg,g0,hphi⟩:=RowsO.row (OwnF.below HRC.out hbr) hoj
       subst hga
       have RS:Hid (G++(RR.take (j+1)).map ((x :: q) :: ·)=(G++(RR.take j).map ((x :: q) :: ·))++[(x :: q) :: o]):=hide (by rw [map_take_succ ((x :: q) :: ·) hoj,List.append_assoc])
       have hol:=HROW.out o (List.mem_of_getElem? hoj)
       have hlen:(G++(RR.take j).map ((x :: q) :: ·)).length≤68719476736:=by
        rw [List.length_append,List.length_map,List.length_take]
        have:=HGL.out;have:=HRN.out;omega
       have hul:([⟨a6,n6,c6⟩]:List Slc).length+uss.length≤68719476736:=by
        rw [hphi.now.1,hol];simp;omega
       have hla:=(Below.refl wr.heap.size wr).alloc (Nat.le_refl _) (.cells #[.slice a6 n6 c6] 24)
       have HRP:=hide ((hphi.below hla).now.2.1)
       have HLT:Hid (Own SlcE 24 (wr.alloc (.cells #[.slice a6 n6 c6] 24)) wr.heap.size (.slice (some ⟨wr.heap.size,0,none⟩) 1 1) [⟨a6,n6,c6⟩]):=hide (Own.lit1 (E:=SlcE) (T:=24) wr (Nat.le_refl _) ⟨a6,n6,c6⟩)
       obtain ⟨us,ds,hU,hO⟩:=hrows
       have HUL:Hid (us.length≤68719476736):=hide (by rw [hU.lu];exact hlen)
       have HU:=hide hU;have HO:=hide hO
       have HBR:=hide hbr;have HF:=hide hfst;have HPH:=hide hphi
       have hbs:wc.heap.size≤wr.heap.size:=hbr.size
       generalize G++(RR.take j).map ((x :: q) :: ·)=GG at *
       clear hoj hol hlen hla hU hO hbr hfst hphi
       go_wp2_with (first
        | (at_builtin;refine wpList_appS SlcE 24 Tryz.infoIntS rfl Tryz.underlying27 wr.heap.size _ [⟨a6,n6,c6⟩] uss _ HLT.out HRP.out (by decide) hul (by simp) rfl _ _ rfl rfl rfl ?_;intro v7 w7 hown7 hgr7;obtain ⟨⟨a7,n7,c7⟩,rfl, -⟩:=hown7.toSlc;have O7:=hide hown7;have B7:=hide (below_lit2 hgr7);have hb7:=B7.out.size;clear hown7 hgr7)
        | (at_builtin;refine wpList_app SlcE 27 Tryz.infoIntSS rfl Tryz.underlying132 wc.heap.size _ us ⟨a7,n7,c7⟩ ((HO.out.below B7.out).alloc _) (by decide) HUL.out (by simp;omega) rfl _ _ rfl rfl _ 0 1 rfl (news_allocV (by simp)) ?_;intro v8 w8 hown8 hgr8))
       have ba7:=(Below.refl w7.heap.size w7).alloc (Nat.le_refl _) (.cells #[.slice a7 n7 c7] 27)
       have F7:=HF.out.below B7.out
       have P7:=PhiO.cons (w:=w7) (lo:=w.heap.size) (s:=⟨a7,n7,c7⟩) (f:=⟨a6,n6,c6⟩) (us:=uss) (x:=x :: q) (o:=o) O7.out (by omega) (((LocR.own (T:=27) (by decide) F7).wide (by omega) (Nat.le_refl _) (Nat.le_refl _)).map fun V k=>k.rep) ((HPH.out.below B7.out).wide (Nat.le_refl _) hb7 (Nat.le_refl _))
       have R8:=RowsH.app ((HU.out.below B7.out).below ba7) (by omega) (d:=⟨w.heap.size,w7.heap.size,⟨a6,n6,c6⟩ :: uss⟩) (P7.below ba7) (Nat.le_refl _) hown8 hgr8
       have B8:=(HBR.out.trans (B7.out.mono hbs)).alloc (by omega) (.cells #[.slice a7 n7 c7] 27)
       have B9:=B8.grown hgr8 (by simp;omega) (fun q hq=>(World.ownsRow.lt HO.out q hq).1)
       have F8:=(F7.below ba7).grown hgr8 (own_or (by decide) ((HO.out.below B7.out).below ba7) (F7.below ba7))
       go_roundw
       case rel=>exact ⟨j+1,by omega,by go_num,by rw [RS.out];exact R8,B9,F8⟩
       case measure=>simp [intOf];omega
      ·obtain rfl:j=rn:=by omega
       rw [List.take_of_length_le (by rw [HRN.out];exact Nat.le_refl _),← GS.out] at hrows
       go_wp2_with fail
       go_roundw
       case rel=>exact ⟨k+1,by omega,by go_num,hrows,hbr⟩
       case measure=>simp [intOf];omega
    ·obtain rfl:k=pn:=by omega
     obtain ⟨us,ds,hU,hO⟩:=hrows
     obtain ⟨⟨qa,qn,qc⟩,rfl, -⟩:=hU.own.toSlc
     have hrows:RowsO _ _ _ _:=⟨us,ds,hU⟩
     clear hU hO
     go_wp2_with fail
     go_ret
     refine ⟨⟨qa,qn,qc⟩,rfl, ?_, ?_⟩
     ·rw [HST.out]
      have h:=hrows
      rw [List.take_of_length_le (by rw [HPLN.out];exact Nat.le_refl _)] at h
      exact h
     ·exact HBC.out.trans (hbr.mono HBC.out.size)
end Go.Proofs.YtkfhgnkonaafgaaGreatDoor
namespace Go.Proofs.YtkfhgnkonaafgaaGreatDoor
open Go.RowKit
structure CpI (wr:World) (B X R O:Nat) (f s:Slc) (vf vo:Value) (xs:List Int) (L:List (List Int)):Prop where
 bx:wr.heap[X]? = some (.cells #[vf,vo] 29 (0,0))
 br:wr.heap[R]? = some (.cells #[.slice none 0 0, .slice none 0 0] 29 (0,0))
 bo:wr.heap[O]? = some (.cells #[.slice f.a f.n f.cap, .slice s.a s.n s.cap] 29 (0,0))
 of:Own IntE 3 wr B f.v xs
 os:RowsI wr (O+1) s.v L
theorem OwnFU.setLow {α β:Type} {E:El α} {T:TypeId} {R:Dd→Dd→Prop} {φ:Dd→World→α→β→Prop} {us:List α} {ds:List Dd} {w:World} {base g j:Nat} {v u:Value} {xs:List β} (h:OwnFU E T R φ us ds w base v xs) (hg:g < base):OwnFU E T R φ us ds (w.setCell ⟨g,j,none⟩ u) base v xs:=
 ⟨h.lu,h.ld,h.pw,h.own.sameV fun q hq=>heap_setCell_other w ⟨g,j,none⟩ q u (show q≠g by have:=(World.ownsRow.lt h.own q hq).1;omega),fun i u' d x h1 h2 h3=>⟨(h.rows i u' d x h1 h2 h3).1,(h.rows i u' d x h1 h2 h3).2.step (by simp) fun k ob h4 _ h6 _=>by
  rw [heap_setCell_other w ⟨g,j,none⟩ k u (show k≠g by have:=(h.rows i u' d x h1 h2 h3).1;omega)];exact h6⟩⟩
theorem notT_of {T U:TypeId} {a:Array Value} {fz:Nat × Nat} (h:U≠T):notT T (.cells a U fz):=fun a' fz' e=>by simp at e;exact h e.2.1
theorem grown_keep {α:Type} {E:El α} {T:TypeId} {w w':World} {base:Nat} {v:Value} {xs:List α} (ho:Own E T w base v xs) (hg:w.grownBy w' v.ownBlock) {k:Nat} {ob:Obj} (h:w.heap[k]? = some ob) (hn:notT T ob):w'.heap[k]? = some ob:=
 (hg.block k (Array.getElem?_eq_some_iff.1 h).1 (fun e=>by
  obtain ⟨a,ha⟩:=ho.typed e.symm
  rw [h] at ha
  exact hn a _ (Option.some.inj ha))).trans h
theorem RowsI.loc {w:World} {base:Nat} {v:Value} {L:List (List Int)} {T:TypeId} (h:RowsI w base v L) (h1:24≠T) (h2:3≠T):LocR T base w.heap.size w (fun W=>RepNN W v L):=by
 obtain ⟨us,ds,h⟩:=h
 have k1:=LocR.own h1 h.own
 have k2:LocR T base w.heap.size w (fun W => ∀ (i:Nat) (u:Slc) (r:List Int),us[i]? = some u→L[i]? = some r→Rep IntE W u.v r):=by
  refine LocR.all (Nat.le_refl _) fun i=>LocR.all (Nat.le_refl _) fun u=>LocR.all (Nat.le_refl _) fun r=>LocR.imp (Nat.le_refl _) fun hu=>LocR.imp (Nat.le_refl _) fun hr => ?_
  obtain ⟨d,hd⟩:=get_of_lt (xs:=ds) (k:=i) (by rw [h.ld];exact (List.getElem?_eq_some_iff.1 hr).1)
  obtain ⟨r1,r2⟩:=h.rows i u d r hu hd hr
  exact ((LocR.own h2 r2.now.1).wide r1 (Nat.le_refl _) (Nat.le_refl _)).map fun V k=>k.rep
 exact (k1.and k2).map fun V ⟨a,b⟩=>⟨us,h.lu,a.rep,b⟩
def RetX (w:World) (x:Xc) (e:Ending) (w':World):Prop:=∃ f o:Slc,e = .returned (.agg #[.slice f.a f.n f.cap, .slice o.a o.n o.cap])∧Own IntE 3 w' w.heap.size f.v x.fr∧RowsI w' w.heap.size o.v x.od∧Below w.heap.size w w'
theorem own_loc {w:World} {lo:Nat} {f o:Slc} {x:Xc} (h:Own IntE 3 w lo f.v x.fr) (k:RowsI w lo o.v x.od):LocR 29 lo w.heap.size w (fun W=>RepX W f.v o.v x):=
 ((LocR.own (T:=29) (by decide) h).and (RowsI.loc (T:=29) k (by decide) (by decide))).map (fun V ⟨a,b⟩=>⟨a.rep,b⟩)
def RetXA (w:World) (x:Xc) (e:Ending) (w':World):Prop:=∃ (f o:Slc) (m:Nat),e = .returned (.agg #[.slice f.a f.n f.cap, .slice o.a o.n o.cap])∧Own IntE 3 w' w.heap.size f.v x.fr∧(∀ q,f.v.ownBlock=some q→q < m)∧w.heap.size≤m∧RowsI w' m o.v x.od∧Below w.heap.size w w'
theorem RetXA.ret {w:World} {x:Xc} {e:Ending} {w':World} (h:RetXA w x e w'):RetX w x e w':=by
 obtain ⟨f,o,m,h1,h2, -,h3,⟨us,ds,h4⟩,h5⟩:=h
 exact ⟨f,o,h1,h2,⟨us,ds,h4.mono h3⟩,h5⟩
theorem l6Copy_anyA (vf vo:Value) (x:Xc) (w:World) (hx:RepX w vf vo x) (hl:x.fr.length≤1048576) (hol:x.od.length≤1048576) (hrl:∀ o∈x.od,o.length≤1048576) :
 Calls Tryz.prog 112 #[.agg #[vf,vo]] w (RetXA w x):=by
 have HX:=hide hx
 obtain ⟨fa,fc,rfl, -, -, -, -⟩:=hx.fr.open
 obtain ⟨oa,oc,rfl, -, -, -, -⟩:=hx.od.open
 have HB0:=hide (((Below.refl w.heap.size w).alloc (Nat.le_refl _) (.cells #[.slice fa x.fr.length fc, .slice oa x.od.length oc] 29)).alloc (by simp) (.cells #[.slice none 0 0, .slice none 0 0] 29))
 clear hx
 generalize hfn:x.fr.length=fn at *
 generalize hon:x.od.length=on at *
 have HFN:=hide hfn;have HON:=hide hon
 have hz2:(((w.alloc (.cells #[.slice fa fn fc, .slice oa on oc] 29)).alloc (.cells #[.slice none 0 0, .slice none 0 0] 29)).heap.size)=w.heap.size+1+1:=by simp
 have hx0:((w.alloc (.cells #[.slice fa fn fc, .slice oa on oc] 29)).alloc (.cells #[.slice none 0 0, .slice none 0 0] 29)).heap[w.heap.size]? = some (.cells #[.slice fa fn fc, .slice oa on oc] 29 (0,0)):=by
  rw [heap_alloc_old _ _ (by simp)];exact heap_alloc_new w _
 have hr0:((w.alloc (.cells #[.slice fa fn fc, .slice oa on oc] 29)).alloc (.cells #[.slice none 0 0, .slice none 0 0] 29)).heap[w.heap.size+1]? = some (.cells #[.slice none 0 0, .slice none 0 0] 29 (0,0)):=by
  have h:=heap_alloc_new (w.alloc (.cells #[.slice fa fn fc, .slice oa on oc] 29)) (.cells #[.slice none 0 0, .slice none 0 0] 29)
  simpa using h
 have HX2:=hide hx0;have HR2:=hide hr0
 have HZ2:=hide hz2
 have OE:=hide (Own.empty (E:=IntE) 3 ((w.alloc (.cells #[.slice fa fn fc, .slice oa on oc] 29)).alloc (.cells #[.slice none 0 0, .slice none 0 0] 29)) (base:=w.heap.size) (by simp;omega))
 rw [hz2] at OE
 have FR:=hide (HX.out.fr.below (HB0.out.alloc (by simp;omega) (.cells #[] 3)))
 have hln:([]:List Int).length+x.fr.length≤68719476736:=by rw [hfn];simp;omega
 clear hfn hon hx0 hr0 hz2
 go_enter Tryz.func112,Tryz.ntmps112
 go_wp2_with (at_builtin;refine wpList_appS IntE 3 Tryz.infoInt rfl Tryz.underlying24 w.heap.size _ [] x.fr _ OE.out FR.out (by decide) hln (by simp;omega) rfl _ _ rfl rfl rfl ?_;intro v4 w4 hown4 hgr4;obtain ⟨⟨fa',fn',fc'⟩,rfl, -⟩:=hown4.toSlc;have B4:=hide ((HB0.out.alloc (by simp;omega) (.cells #[] 3)).grown hgr4 (by simp;omega) (fun q hq=>by simp [Value.ownBlock] at hq;omega));have O4:=hide hown4;have HG4:=hide hgr4;clear hown4 hgr4)
 have hg4:=HG4.out.size
 simp only [World.size_alloc] at hg4
 have HC4:Hid (CpI (w4.alloc (.cells #[.slice fa' fn' fc', .slice none 0 0] 29)) w.heap.size w.heap.size (w.heap.size+1) w4.heap.size ⟨fa',fn',fc'⟩ ⟨none,0,0⟩ (.slice fa fn fc) (.slice oa on oc) x.fr []):=hide (by
  have e1:∀ k ob,k < w.heap.size+1+1→((w.alloc (.cells #[.slice fa fn fc, .slice oa on oc] 29)).alloc (.cells #[.slice none 0 0, .slice none 0 0] 29)).heap[k]? = some ob→(w4.alloc (.cells #[.slice fa' fn' fc', .slice none 0 0] 29)).heap[k]? = some ob:=fun k ob hk h=>by
   rw [heap_alloc_old _ _ (by omega)]
   rw [HG4.out.block k (by simp;omega) (fun e=>by simp [Value.ownBlock] at e;omega),heap_alloc_old _ _ (by simp;omega)]
   exact h
  exact ⟨e1 _ _ (by omega) HX2.out,e1 _ _ (by omega) HR2.out,heap_alloc_new w4 _,(by have h:=O4.out;rw [List.nil_append] at h;exact h.alloc _),OwnF.nil _ _ _⟩)
 have HB4:=hide (B4.out.alloc (by omega) (.cells #[.slice fa' fn' fc', .slice none 0 0] 29))
 have hq4:w.heap.size+1+1 < w4.heap.size:=by omega
 have HFM:=hide (fun q (hq:(Slc.v ⟨fa',fn',fc'⟩).ownBlock=some q)=>(World.ownsRow.lt O4.out q hq).2)
 clear hg4 HG4 O4 B4 FR OE HX2 HR2 HZ2 hln HB0
 go_loopw [4] (fun i wr => ∃ k:Nat,k≤on∧i = .int .i64 k∧(∃ s:Slc,CpI wr w.heap.size w.heap.size (w.heap.size+1) w4.heap.size ⟨fa',fn',fc'⟩ s (.slice fa fn fc) (.slice oa on oc) x.fr (x.od.take k))∧Below w.heap.size w wr) (fun i _=>on - (intOf i).toNat)
 case atStart=>exact ⟨0,Nat.zero_le _,rfl,⟨_,HC4.out⟩,HB4.out⟩
 case round =>
  obtain ⟨k,hk,rfl,⟨⟨sa,sn,sc⟩,hc⟩,hbr⟩:=hrel
  have x1:wr.cell? ⟨w.heap.size,1,none⟩=some (.slice oa on oc):=cell_of_heapV hc.bx (k:=1) rfl
  have o1:wr.cell? ⟨w4.heap.size,1,none⟩=some (.slice sa sn sc):=cell_of_heapV hc.bo (k:=1) rfl
  have ofz:=frozen_of_heapV hc.bo
  have xl:=lt_of_cell x1
  have ol:=lt_of_cell o1
  by_cases hlt:k < on
  ·obtain ⟨r,hrk⟩:=get_of_lt (xs:=x.od) (k:=k) (by rw [HON.out];exact hlt)
   have hltk:=nat_of_lt hlt
   obtain ⟨b2,o2,ra,rc,rfl,hbl2,q0,q1⟩:=HX.out.od.row hrk
   have q0:=(hbr.cell (p:=⟨b2,o2+k,none⟩) hbl2).trans q0
   have hbl2':=Nat.lt_of_lt_of_le hbl2 hbr.size
   have RS:Hid (x.od.take (k+1)=x.od.take k++[r]):=hide (by rw [List.take_add_one,hrk];rfl)
   have hn1:([]:List Int).length+r.length≤68719476736:=by have:=hrl r (List.mem_of_getElem? hrk);simp;omega
   have HRP:=hide ((q1.below hbr).below ((Below.refl wr.heap.size wr).alloc (Nat.le_refl _) (.cells #[] 3)).drew)
   have HLT:Hid (Own IntE 3 (wr.alloc (.cells #[] 3)).drew wr.heap.size (.slice (some ⟨wr.heap.size,0,none⟩) 0 0) []):=hide (Own.empty (E:=IntE) 3 wr (Nat.le_refl _))
   have hlen:(x.od.take k).length≤68719476736:=by rw [List.length_take];omega
   have HC:=hide hc
   obtain ⟨us,ds,hU⟩:=hc.os
   have HU:=hide hU
   have HUL:Hid (us.length≤68719476736):=hide (by rw [hU.lu];exact hlen)
   have HBR:=hide hbr
   have hbs:w.heap.size≤wr.heap.size:=hbr.size
   generalize x.od.take k=GG at *
   clear hrk q1 hlen hU hbr hc
   go_wp2_with fail
   go_region_law (first
    | (refine step_appS IntE 3 Tryz.infoInt rfl Tryz.underlying24 wr.heap.size _ [] r _ HLT.out HRP.out (by decide) hn1 (by simp) (by rfl) _ _ (by rfl) (by rfl) (by rfl) ?_;intro v6 w6 hown6 hgr6;obtain ⟨⟨a6,n6,c6⟩,rfl, -⟩:=hown6.toSlc;have O6:=hide hown6;have hk6:(∀ o,w6.cell? ⟨w4.heap.size,o,none⟩=wr.cell? ⟨w4.heap.size,o,none⟩):=(kept_d hgr6 ol (fun q hq=>by simp [Value.ownBlock] at hq;omega));have B6:=hide (below_lit hgr6);have hb6:=B6.out.size;have ol6:w4.heap.size < w6.heap.size:=(Nat.lt_of_lt_of_le ol hb6);clear hown6 hgr6)
    | (refine step_app SlcE 24 Tryz.infoIntS rfl Tryz.underlying27 (w4.heap.size+1) _ us ⟨a6,n6,c6⟩ ((HU.out.own.below B6.out).alloc _) (by decide) HUL.out (by simp;omega) (by rfl) _ _ (by rfl) (by rfl) w6.heap.size 0 1 (by rfl) news_alloc ?_;intro v8 w8 hown8 hgr8;obtain ⟨⟨a8,n8,c8⟩,rfl, -⟩:=hown8.toSlc;have K8:=(fun k ob (h:wr.heap[k]? = some ob) hn=>grown_keep ((HU.out.own.below B6.out).alloc _) hgr8 (show _=some ob from (heap_alloc_old _ _ (Nat.lt_of_lt_of_le (Array.getElem?_eq_some_iff.1 h).1 hb6)).trans ((B6.out.block k (Array.getElem?_eq_some_iff.1 h).1).trans h)) hn);have bo8:=K8 _ _ HC.out.bo (notT_of (by decide));have o8:w8.cell? ⟨w4.heap.size,1,none⟩=some (.slice sa sn sc):=cell_of_heapV bo8 (k:=1) rfl;have ofz8:=frozen_of_heapV bo8;have ol8:=lt_of_cell o8))
   all_goals
    have R8:=RowsI.app HU.out B6.out (by omega) rfl O6.out hown8 hgr8
    have B8:=(HBR.out.trans (B6.out.mono hbs)).alloc (by omega) (.cells #[.slice a6 n6 c6] 24)
    have B9:=B8.grown hgr8 (by simp;omega) (fun q hq=>by have:=(World.ownsRow.lt HU.out.own q hq).1;omega)
    have C9:CpI (w8.setCell ⟨w4.heap.size,1,none⟩ (.slice a8 n8 c8)) w.heap.size w.heap.size (w.heap.size+1) w4.heap.size ⟨fa',fn',fc'⟩ ⟨a8,n8,c8⟩ (.slice fa fn fc) (.slice (some ⟨b2,o2,none⟩) on oc) x.fr (GG++[r]):=by
     have hc:=HC.out
     refine ⟨?_, ?_, ?_, ?_, ?_⟩
     ·rw [heap_setCell_other w8 ⟨w4.heap.size,1,none⟩ _ _ (show w.heap.size≠w4.heap.size by omega)];exact K8 _ _ hc.bx (notT_of (by decide))
     ·rw [heap_setCell_other w8 ⟨w4.heap.size,1,none⟩ _ _ (show w.heap.size+1≠w4.heap.size by omega)];exact K8 _ _ hc.br (notT_of (by decide))
     ·exact heap_setCell_same w8 w4.heap.size 1 _ _ _ bo8
     ·refine hc.of.sameV fun q hq => ?_
      obtain ⟨a,ha⟩:=hc.of.typed hq
      have h2:=K8 _ _ ha (notT_of (by decide))
      rw [heap_setCell_other w8 ⟨w4.heap.size,1,none⟩ q _ (show q≠w4.heap.size by rintro rfl;rw [hc.bo] at ha;simp at ha),h2,ha]
     ·obtain ⟨us',ds',h⟩:=R8
      exact ⟨us',ds',h.setLow (by omega)⟩
    have HC9:=hide C9
    have HB9:=hide (B9.setCell (p:=⟨w4.heap.size,1,none⟩) (show w.heap.size≤w4.heap.size by omega) (.slice a8 n8 c8))
    clear C9 R8 B8 B9
    go_wp2_with fail
    go_roundw
    case rel=>exact ⟨k+1,by omega,by go_num,⟨⟨a8,n8,c8⟩,by rw [RS.out];exact HC9.out⟩,HB9.out⟩
    case measure=>simp [intOf];omega
  ·obtain rfl:k=on:=by omega
   rw [List.take_of_length_le (by rw [HON.out];exact Nat.le_refl _)] at hc
   have o0:wr.cell? ⟨w4.heap.size,0,none⟩=some (.slice fa' fn' fc'):=cell_of_heapV hc.bo (k:=0) rfl
   have r0:wr.cell? ⟨w.heap.size+1,0,none⟩=some (.slice none 0 0):=cell_of_heapV hc.br (k:=0) rfl
   have r1:wr.cell? ⟨w.heap.size+1,1,none⟩=some (.slice none 0 0):=cell_of_heapV hc.br (k:=1) rfl
   have rfz:=frozen_of_heapV hc.br
   have rl:=lt_of_cell r0
   go_wp2_with fail
   have hne:∀ q,(Slc.v ⟨fa',fn',fc'⟩).ownBlock=some q→q≠w.heap.size+1:=fun q hq=>by
    rintro rfl
    obtain ⟨a,ha⟩:=hc.of.typed hq
    rw [hc.br] at ha
    simp at ha
   refine bodyPost_ret (v:=.agg #[.slice fa' fn' fc', .slice sa sn sc]) (by simp [results,Tryz.results112,go_sem, *]) rfl ⟨⟨fa',fn',fc'⟩,⟨sa,sn,sc⟩,w4.heap.size+1,rfl, ?_,fun q hq=>by have:=HFM.out q hq;omega,by omega, ?_, ?_⟩
   ·exact (hc.of.sameV fun q hq=>heap_setCell_other _ ⟨w.heap.size+1,0,none⟩ q _ (hne q hq)).sameV fun q hq=>heap_setCell_other _ ⟨w.heap.size+1,1,none⟩ q _ (hne q hq)
   ·obtain ⟨us,ds,hU⟩:=hc.os
    have h1:=(hU.setLow (j:=0) (u:=.slice fa' fn' fc') (show w.heap.size+1 < w4.heap.size+1 by omega)).setLow (j:=1) (u:=.slice sa sn sc) (show w.heap.size+1 < w4.heap.size+1 by omega)
    exact ⟨us,ds,h1⟩
   ·exact (hbr.setCell (p:=⟨w.heap.size+1,0,none⟩) (show w.heap.size≤w.heap.size+1 by omega) _).setCell (p:=⟨w.heap.size+1,1,none⟩) (show w.heap.size≤w.heap.size+1 by omega) _
theorem l6Copy_any (vf vo:Value) (x:Xc) (w:World) (hx:RepX w vf vo x) (hl:x.fr.length≤1048576) (hol:x.od.length≤1048576) (hrl:∀ o∈x.od,o.length≤1048576) :
 Calls Tryz.prog 112 #[.agg #[vf,vo]] w (RetX w x):=(l6Copy_anyA vf vo x w hx hl hol hrl).mono fun _ _ h=>h.ret
end Go.Proofs.YtkfhgnkonaafgaaGreatDoor
namespace Go.Proofs.YtkfhgnkonaafgaaGreatDoor
open Go.RowKit
theorem wpList_appL {α:Type} (E:El α) {P:Program} {w:World} {ops:Array Oper} {rest:List Oper} {o:Oper} {a:Act} {Q:Exit→Act→World→Prop}
 (T:TypeId) {zv:Value} {bytes:Nat} (hinfo:(P.info? T).map (fun i=>(i.zero,i.size,i.bytes))=some (some zv,E.sz,bytes)) (hz:zv.cells.size=E.sz) {t:TypeId} (h1:P.underlying t=some (.slice T))
 (base:Nat) (v:Value) (xs:List α) (x:α) (hown:Own E T w base v xs) (hby:bytes≤256) (hn:xs.length≤68719476736) (hbase:base≤w.heap.size)
 (hg:o.guard=none) (s y:Operand) (hop:o.op = .call { callee:=.builtin .append,args:=#[s,y],argTypes:=#[t,t] })
 (hs:a.eval s=v) (b off c:Nat) (hy:a.eval y = .slice (some ⟨b,off,none⟩) 1 c) (hnews:∀ j u,(E.c x)[j]? = some u→w.cell? ⟨b,off+j,none⟩=some u)
 (hK:∀ (u:Slc) w',Own E T w' base u.v (xs++[x])→w.grownBy w' v.ownBlock→(u.v.ownBlock=v.ownBlock∨u.v.ownBlock=some w.heap.size)→wpList P ops Q rest (a.put o.dst (.slice u.a u.n u.cap)) w') :
 wpList P ops Q (o :: rest) a w:=by
 obtain ⟨it,hi,hz0,hz1,hz2⟩:=info_parts hinfo
 refine wpList_append_lies w hg s y t hop base T it zv E.sz bytes h1 hi hz0 hz1 hz2 hz E.pos v xs.length _ hs hown ⟨b,off,none⟩ 1 c (E.c x) hy (by rw [E.len,Nat.one_mul]) ?_ (E.one x) (by omega) (by unfold maxLen;omega) ?_ hbase _ rfl ?_
 ·intro j u hu
  have hadd:(⟨b,off,none⟩:Addr).add j=⟨b,off+j,none⟩:=by unfold Addr.add;split <;> simp_all
  rw [hadd]
  exact hnews j u hu
 ·have:=Nat.mul_le_mul (show xs.length+1≤68719476737 by omega) hby
  omega
 ·intro g cap w' h2 h3 h4 _
  refine hK ⟨some ⟨g,0,none⟩,xs.length+1,cap⟩ w' ?_ h3 ?_
  ·unfold Own
   simpa [List.flatMap_append,Slc.v] using h2
  ·rcases h4 with h4 | h4
   ·exact .inl (by rw [h4];rfl)
   ·exact .inr (by rw [h4];rfl)
theorem one_nil (w:World):RowsI (w.alloc (.cells #[.slice none 0 0] 24)) w.heap.size (.slice (some ⟨w.heap.size,0,none⟩) 1 1) [[]]:=by
 have h1:=Own.lit1 (E:=SlcE) (T:=24) w (base:=w.heap.size) (Nat.le_refl _) ⟨none,0,0⟩
 refine ⟨[⟨none,0,0⟩],[⟨w.heap.size,w.heap.size,[]⟩],rfl,rfl,by simp,h1,fun i u d x h2 h3 h4 => ?_⟩
 cases i with
 | succ i=>simp at h2
 | zero =>
  simp at h2 h3 h4
  subst h2;subst h3;subst h4
  have h0:=Own.nil (E:=IntE) 3 w w.heap.size
  exact ⟨Nat.le_refl _,(PhiI.loc (u:=⟨none,0,0⟩) h0).below ((Below.refl _ w).alloc (Nat.le_refl _) _)⟩
theorem orders_any (n:Nat):∀ (v:Value) (xs:List Int) (w:World),xs.length=n→fact n≤3000→Rep IntE w v xs →
 Calls Tryz.prog 100 #[v] w fun e w' => ∃ u:Slc,e = .returned (.slice u.a u.n u.cap)∧RowsI w' w.heap.size u.v (permsL xs)∧Below w.heap.size w w':=by
 induction n with
 | zero =>
  intro v xs w hx _ he
  obtain rfl:xs=[]:=List.length_eq_zero_iff.1 hx
  obtain ⟨a,c,rfl, -, -, -, -⟩:=he.open
  rw [permsL_nil]
  go_enter Tryz.func100,Tryz.ntmps100
  go_wp2_with fail
  go_ret
  exact ⟨⟨some ⟨w.heap.size,0,none⟩,1,1⟩,rfl,one_nil w,(Below.refl _ _).alloc (Nat.le_refl _) _⟩
 | succ n ih =>
  intro v xs w hx hfact he
  have hn6:=fact_lt hfact
  have HI:=hide (fun v' xs' w' h1 h2=>ih v' xs' w' h1 (Nat.le_trans (fact_mono (Nat.le_succ n)) hfact) h2)
  have HP0:Hid (permTo xs 0=[]):=hide rfl
  have HPS:=hide (permTo_succ xs)
  have HPL:=hide (fun k (hk:k≤n+1)=>Nat.le_trans (permTo_length xs k (by omega)) (by rw [hx];exact hfact))
  have HPE:Hid (permsL xs=permTo xs (n+1)):=hide (by rw [permsL_step (by omega),hx];rfl)
  have HE:=hide he
  have HXL:=hide hx
  have HCL:=hide (CloneV_any v xs)
  obtain ⟨a,c,rfl,hnc, -, -, -⟩:=he.open
  obtain ⟨x0,hx0⟩:=get_of_lt (xs:=xs) (k:=0) (by omega)
  obtain ⟨b,o,rfl,hbl, -⟩:=he.int hx0
  rw [hx] at hnc ⊢
  have hne:(((n+1:Nat):Int)==0)=false:=by simp;omega
  rw [hx] at HE HCL
  have HFA:Hid (fact (n+1)≤3000):=hide hfact
  clear he ih hx hx0 hfact
  generalize permsL xs=R at *
  generalize hm:n+1=m at *
  have HM:=hide hm
  clear hm
  go_enter Tryz.func100,Tryz.ntmps100
  go_wp2_with fail
  go_loopw [3,14] (fun s i wr => ∃ k:Nat,k≤m∧i = .int .i64 k∧RowsI wr w.heap.size s (permTo xs k)∧Below w.heap.size w wr) (fun _ i _=>m - (intOf i).toNat)
  case atStart=>exact ⟨0,Nat.zero_le _,rfl,by rw [HP0.out];exact OwnF.nil _ w _,Below.refl _ _⟩
  case round =>
   obtain ⟨k,hk,rfl,hrows,hbr⟩:=hrel
   by_cases hlt:k < m
   ·obtain ⟨x,hxk⟩:=get_of_lt (xs:=xs) (k:=k) (by rw [HXL.out];exact hlt)
    have hltk:=nat_of_lt hlt
    have PS:=hide (HPS.out k)
    have hgd:xs.getD k 0=x:=by simp [List.getD,hxk]
    rw [hgd] at PS
    have PL:=hide (HPL.out k hk)
    generalize permTo xs k=G at *
    have HEr:=HE.out.below hbr
    obtain ⟨b',o',hbo,hbf,f0⟩:=HEr.int hxk
    simp only [Option.some.injEq,Addr.mk.injEq,and_true] at hbo
    obtain ⟨rfl,rfl⟩:=hbo
    have hwk:wrap64 ((k:Int)+1)=(k:Int)+1:=by unfold wrap64;omega
    have hwk2:IntKind.i64.wrap ((k:Int)+1)=(k:Int)+1:=by rw [IntKind.wrap_i64];omega
    have HC1:=hide (HCL.out wr HEr (by omega))
    have HEE:=hide HEr
    have HRO:=hide hrows;have HBR:=hide hbr
    clear HEr hrows hbr
    go_wp2_with fail
    (with_reducible refine HC1.out.mono ?_);rintro e w1 ⟨vc,rfl,oc,hb1⟩
    have HD:=hide (Delete_any vc xs w1 wr.heap.size k oc (by rw [HXL.out];exact hlt))
    have HB1:=hide hb1;have HOC:=hide oc
    obtain ⟨⟨ca,cn,cc⟩,rfl, -⟩:=oc.toSlc
    clear oc hb1 HC1
    go_wp2_with fail
    (with_reducible refine HD.out.mono ?_);rintro e w2 ⟨⟨da,dn,dc⟩,rfl,od,hg2⟩
    have HB2:=hide (HB1.out.grown hg2 HB1.out.size (fun q hq=>(World.ownsRow.lt HOC.out q hq).1))
    have HC:=hide (HI.out _ (xs.eraseIdx k) w2 (by rw [List.length_eraseIdx,HXL.out,if_pos hlt];have:=HM.out;omega) od.rep)
    have HRL:=hide (fun r (hr:r∈permsL (xs.eraseIdx k))=>permsL_row n (xs.eraseIdx k) (by rw [List.length_eraseIdx,HXL.out,if_pos hlt];have:=HM.out;omega) r hr)
    have HRN0:=hide (permsL_length (xs.eraseIdx k))
    have HEL:Hid (fact (xs.eraseIdx k).length≤3000):=hide (by
     rw [List.length_eraseIdx,HXL.out,if_pos hlt]
     refine Nat.le_trans (fact_mono (Nat.sub_le m 1)) ?_
     have:=HFA.out
     exact this)
    have HB7:=hide (HBR.out.trans (HB2.out.mono HBR.out.size))
    have HR7:=hide (OwnF.below HRO.out HB2.out)
    have HQ3:Hid (∀ q,u3.ownBlock=some q→q < w2.heap.size):=hide (fun q hq=>by
     obtain ⟨us,ds,hU⟩:=HRO.out
     exact Nat.lt_of_lt_of_le (World.ownsRow.lt hU.own q hq).2 HB2.out.size)
    clear od hg2 HB2 HD HB1 HOC HRO HBR hwk hwk2 hbf f0 HEE
    generalize permsL (xs.eraseIdx k)=RR at *
    go_wp2_with fail
    (with_reducible refine HC.out.mono ?_);rintro e w8 ⟨⟨ra,rn,rc⟩,rfl,ou,hb8⟩
    have hrn:rn=RR.length:=by
     rcases ou.shape with ⟨h1,h2⟩ | ⟨g,cap,h1, -⟩
     ·simp only [Slc.v,Value.slice.injEq] at h1;rw [h1.2.1,h2];rfl
     ·simp only [Slc.v,Value.slice.injEq] at h1;exact h1.2.1
    have HRN:Hid (RR.length=rn):=hide hrn.symm
    have hrb:rn≤3000:=by have:=HRN0.out;have:=HEL.out;omega
    have HRS:=hide ou
    have HQ8:Hid (∀ q,(Slc.v ⟨ra,rn,rc⟩).ownBlock=some q→w2.heap.size≤q∧q < w8.heap.size):=hide (fun q hq=>by
     obtain ⟨us,ds,hU⟩:=ou
     exact World.ownsRow.lt hU.own q hq)
    have HR8:=hide (OwnF.below HR7.out hb8)
    have HB8:=hide (HB7.out.trans (hb8.mono HB7.out.size))
    have h78:=hb8.size
    clear ou hb8 hrn HR7 HB7 HC
    go_wp2_with fail
    go_loopw [3,27] (fun s i wr => ∃ j:Nat,j≤rn∧i = .int .i64 j∧RowsI wr w.heap.size s (G++(RR.take j).map (x :: ·))∧RowsI wr w2.heap.size (.slice ra rn rc) RR∧Hid (∀ q,s.ownBlock=some q→q < w2.heap.size∨w8.heap.size≤q)∧Below w.heap.size w wr∧w8.heap.size≤wr.heap.size) (fun _ i _=>rn - (intOf i).toNat)
    case atStart=>exact ⟨0,Nat.zero_le _,rfl,by rw [List.take_zero,List.map_nil,List.append_nil];exact HR8.out,HRS.out,hide (fun q hq => .inl (HQ3.out q hq)),HB8.out,Nat.le_refl _⟩
    case round =>
     obtain ⟨j,hj,rfl,hrows,hrest,hsq,hbr,hsz⟩:=hrel
     by_cases hltj:j < rn
     ·obtain ⟨r,hrj⟩:=get_of_lt (xs:=RR) (k:=j) (by rw [HRN.out];exact hltj)
      have hltj':=nat_of_lt hltj
      obtain ⟨⟨sa,sn,sc⟩,g,hga,hg,g0,hrep⟩:=RowsI.row hrest hrj
      subst hga
      have hgq:=HQ8.out g rfl
      have RS:Hid (G++(RR.take (j+1)).map (x :: ·)=(G++(RR.take j).map (x :: ·))++[x :: r]):=hide (by rw [map_take_succ (x :: ·) hrj,List.append_assoc])
      have hrl:=HRL.out r (List.mem_of_getElem? hrj)
      have hlen:(G++(RR.take j).map (x :: ·)).length≤68719476736:=by
       rw [List.length_append,List.length_map,List.length_take]
       have:=PL.out;have:=HRN.out;omega
      have hn1:([x]:List Int).length+r.length≤68719476736:=by have:=HM.out;simp;omega
      have HRP:=hide (hrep.below ((Below.refl wr.heap.size wr).alloc (Nat.le_refl _) (.cells #[.int .i64 x] 3)))
      obtain ⟨us,ds,hU⟩:=hrows
      have HUL:Hid (us.length≤68719476736):=hide (by rw [hU.lu];exact hlen)
      have HU:=hide hU
      have HBR2:=hide hbr
      have HRS2:=hide hrest
      have HLT:Hid (Own IntE 3 (wr.alloc (.cells #[.int .i64 x] 3)) wr.heap.size (.slice (some ⟨wr.heap.size,0,none⟩) 1 1) [x]):=hide (Own.lit1 (E:=IntE) (T:=3) wr (Nat.le_refl _) x)
      have hbs:w.heap.size≤wr.heap.size:=hbr.size
      have HQ7:Hid (∀ q,u3.ownBlock=some q→w.heap.size≤q∧q≠g):=hide (fun q hq=>⟨(World.ownsRow.lt hU.own q hq).1,by have:=hsq.out q hq;omega⟩)
      generalize G++(RR.take j).map (x :: ·)=GG at *
      clear hrj hrep hbr hrl hU hlen hrest
      go_wp2_with (at_builtin;first
       | (refine wpList_appS IntE 3 Tryz.infoInt rfl Tryz.underlying24 wr.heap.size _ [x] r _ HLT.out HRP.out (by decide) hn1 (by simp) rfl _ _ rfl rfl rfl ?_;intro v6 w6 hown6 hgr6;obtain ⟨⟨a6,n6,c6⟩,rfl, -⟩:=hown6.toSlc;have O6:=hide hown6;have B6:=hide (((Below.refl wr.heap.size wr).alloc (Nat.le_refl _) (.cells #[.int .i64 x] 3)).grown hgr6 (by simp) (fun q hq=>by simp [Value.ownBlock] at hq;omega));have hb6:=B6.out.size;clear hown6 hgr6)
       | (refine wpList_appL SlcE 24 Tryz.infoIntS rfl Tryz.underlying27 w.heap.size _ us ⟨a6,n6,c6⟩ ((HU.out.own.below B6.out).alloc _) (by decide) HUL.out (by simp;omega) rfl _ _ rfl rfl w6.heap.size 0 1 rfl news_alloc ?_;rintro ⟨ua,un,uc⟩ w9 hown8 hgr8 hv8))
      have R8:=RowsI.app HU.out B6.out hbs rfl O6.out hown8 hgr8
      have B8:=(HBR2.out.trans (B6.out.mono hbs)).alloc (by omega) (.cells #[.slice a6 n6 c6] 24)
      have B9:=B8.grown hgr8 (by simp;omega) (fun q hq=>(HQ7.out q hq).1)
      have ba:=(Below.refl w6.heap.size w6).alloc (Nat.le_refl _) (.cells #[.slice a6 n6 c6] 24)
      have S9:=OwnF.grown_ne (OwnF.below (OwnF.below HRS2.out B6.out) ba) ((HU.out.own.below B6.out).below ba) hgr8 (.inr fun e=>(HQ7.out g e.symm).2 rfl)
      have hs9:=hgr8.size
      simp only [World.size_alloc] at hs9 hv8
      have HQ9:Hid (∀ q,(Value.slice ua un uc).ownBlock=some q→q < w2.heap.size∨w8.heap.size≤q):=hide (fun q hq=>by
       rcases hv8 with h | h
       ·rw [show (Value.slice ua un uc).ownBlock=_ from h] at hq;exact hsq.out q hq
       ·rw [show (Value.slice ua un uc).ownBlock=_ from h] at hq;simp at hq;omega)
      have HR8:=hide R8;have HS9:=hide S9;have HB9:=hide B9
      clear R8 S9 B9 B8
      go_roundw
      case rel=>exact ⟨j+1,by omega,by go_num,by rw [RS.out];exact HR8.out,HS9.out,HQ9,HB9.out,by omega⟩
      case measure=>simp [intOf];omega
     ·obtain rfl:j=rn:=by omega
      rw [List.take_of_length_le (by rw [HRN.out];exact Nat.le_refl _),← PS.out] at hrows
      go_wp2_with fail
      go_roundw
      case rel=>exact ⟨k+1,by omega,by go_num,hrows,hbr⟩
      case measure=>simp [intOf];omega
   ·obtain rfl:k=m:=by omega
    obtain ⟨us,ds,hU⟩:=hrows
    obtain ⟨⟨qa,qn,qc⟩,rfl, -⟩:=hU.own.toSlc
    have hrows:RowsI _ _ _ _:=⟨us,ds,hU⟩
    clear hU
    go_wp2_with fail
    go_ret
    exact ⟨⟨qa,qn,qc⟩,rfl,by rw [HPE.out];exact hrows,hbr⟩
end Go.Proofs.YtkfhgnkonaafgaaGreatDoor
namespace Go.Proofs.YtkfhgnkonaafgaaGreatDoor
open Go.RowKit
theorem Tryz.infoExecY:(Tryz.prog.info? 29).map (fun i=>(i.zero,i.size,i.bytes))=some (some (.agg #[.slice none 0 0, .slice none 0 0]),2,48):=by kernel_rfl
structure Sl2 where
 f:Slc
 o:Slc
def XE:El Sl2:=⟨2,by decide,fun x=>[.slice x.f.a x.f.n x.f.cap, .slice x.o.a x.o.n x.o.cap],fun _=>rfl,fun x u h=>by simp at h;rcases h with rfl | rfl <;> rfl⟩
def PhiX (_:Dd) (W:World) (u:Sl2) (x:Xc):Prop:=RepX W u.f.v u.o.v x
abbrev RowsX (w:World) (base:Nat) (v:Value) (L:List Xc):Prop:=OwnF XE 29 Rafter PhiX w base v L
theorem RowsX.app {us:List Sl2} {ds:List Dd} {w w1 w2:World} {base:Nat} {v v':Value} {L:List Xc} (h:OwnFU XE 29 Rafter PhiX us ds w base v L) (hb:Below w.heap.size w w1) (hbase:base≤w.heap.size) {x:Xc} {s:Sl2} {ob:Obj}
 (hu:LocR 29 w.heap.size w1.heap.size w1 (fun W=>RepX W s.f.v s.o.v x)) (ho:Own XE 29 w2 base v' (us++[s])) (hg:(w1.alloc ob).grownBy w2 v.ownBlock):RowsX w2 base v' (L++[x]):=by
 have hba:=(Below.refl w1.heap.size w1).alloc (Nat.le_refl _) ob
 have hd:=h.hi
 exact ⟨us++[s],ds++[⟨w.heap.size,w1.heap.size,[]⟩],OwnFU.app (d:=⟨w.heap.size,w1.heap.size,[]⟩) ((h.below hb).below hba) ho hg hbase (hu.below hba) (fun d' h'=>(hd d' h':d'.hi≤w.heap.size))⟩
theorem permsL_mem:∀ (n:Nat) (xs:List Int),xs.length=n→∀ r∈permsL xs,r.length=xs.length:=fun n xs h r hr=>by rw [permsL_row n xs h r hr,h]
theorem ordsL_inner {es:List Ev}:∀ (n l:Nat),l+n=3→∀ o∈ordsL es l,∀ r∈o,r.length≤es.length+1:=by
 intro n
 induction n with
 | zero =>
  intro l hl o ho
  obtain rfl:l=3:=by omega
  rw [ordsL_end] at ho;simp at ho;subst ho;simp
 | succ n ih =>
  intro l hl o ho r hr
  rw [ordsL_step (by omega),List.mem_flatMap] at ho
  obtain ⟨q,hq1,hq⟩:=ho
  rw [List.mem_map] at hq
  obtain ⟨y,hy,rfl⟩:=hq
  rcases List.mem_cons.1 hr with rfl | hr
  ·rw [List.length_cons,permsL_mem _ _ rfl q hq1,List.length_tail]
   have:=wrL_length es l
   omega
  ·exact ih (l+1) (by omega) y hy r hr
theorem l6All_any (v:Value) (p:List (List Ins)) (w:World) (hp:RepP w v p) (hl:p.flatten.length≤1048576) (hpv:progValid p=true) :
 Calls Tryz.prog 66 #[v] w fun e w' => ∃ u:Slc,e = .returned (.slice u.a u.n u.cap)∧RowsX w' w.heap.size u.v (allX (evAll p))∧Below w.heap.size w w':=by
 have hfew:=few hpv
 have hen:=evAll_le hpv
 have HE:=hide (fun w' h=>l6Events_any v p w' h hl)
 have HFR:=hide (fun ve w' h=>l6Froms_any (evAll p) (by omega) hfew.froms (evAll p).length ve 0 w' (by omega) h)
 have HOR:=hide (fun ve w' h=>l6Orders_any (evAll p) (by omega) hfew.ords hfew.perms (fun l hl3=>wrL_pos (p:=p) hl3) 3 ve 0 w' (by omega) h)
 simp only [Int.natCast_zero] at HFR HOR
 have HFL:=hide (hfew.froms 0);have HOL:=hide (hfew.ords 0);have HAL:=hide hfew.all
 have HFW:=hide (fun r (hr:r∈fromsL (evAll p) 0)=>fromsL_row (evAll p).length 0 (by omega) r hr)
 have HOW:=hide (fun o (ho:o∈ordsL (evAll p) 0)=>ordsL_row 3 0 (by omega) o ho)
 have HOI:=hide (fun o (ho:o∈ordsL (evAll p) 0)=>ordsL_inner 3 0 (by omega) o ho)
 have HA:Hid (allX (evAll p)=(fromsL (evAll p) 0).flatMap fun f=>(ordsL (evAll p) 0).map (⟨f,·⟩)):=hide rfl
 have HP:=hide hp
 obtain ⟨pa,pc,rfl, -,hpn, -, -⟩:=hp.open
 clear hp hfew hpv
 generalize allX (evAll p)=R at *
 generalize fromsL (evAll p) 0=FS at *
 generalize ordsL (evAll p) 0=OS at *
 generalize hes:evAll p=es at *
 clear hes
 generalize hpn':p.length=pn at *
 clear hpn'
 go_enter Tryz.func66,Tryz.ntmps66
 go_wp2_with fail
 (with_reducible refine (HE.out _ HP.out).mono ?_);rintro e w2 ⟨ve,rfl,oe,hb2⟩
 have HRE:=hide oe.rep
 obtain ⟨⟨ea,en,ec⟩,rfl, -⟩:=oe.toSlc
 have HB2:=hide hb2
 have HF2:=hide (HFR.out _ w2 HRE.out)
 clear oe hb2 HE HFR
 go_wp2_with fail
 (with_reducible refine HF2.out.mono ?_);rintro e w3 ⟨⟨fa,fn,fc⟩,rfl,ofr,hb3⟩
 have HFN:Hid (FS.length=fn):=hide (RowsI.len ofr).symm
 have HFS:=hide ofr
 have HO3:=hide (HOR.out _ w3 (HRE.out.below hb3))
 have HB3:=hide (HB2.out.trans (hb3.mono HB2.out.size))
 clear ofr hb3 HF2 HOR HB2
 go_wp2_with fail
 (with_reducible refine HO3.out.mono ?_);rintro e w4 ⟨⟨oa,on,oc⟩,rfl,oor,hb4⟩
 have HON:Hid (OS.length=on):=hide (RowsO.len oor).symm
 have HOS:=hide oor
 have HFS4:=hide (OwnF.below HFS.out hb4)
 have HB4:=hide (HB3.out.trans (hb4.mono HB3.out.size))
 have hfb:fn≤3000:=by have:=HFN.out;have:=HFL.out;omega
 have hob:on≤3000:=by have:=HON.out;have:=HOL.out;omega
 clear oor hb4 HFS HB3 HO3
 go_wp2_with fail
 go_loopw [6,7] (fun s i wr => ∃ k:Nat,k≤fn∧i = .int .i64 k∧RowsX wr w4.heap.size s ((FS.take k).flatMap fun f=>OS.map (⟨f,·⟩))∧Below w4.heap.size w4 wr) (fun _ i _=>fn - (intOf i).toNat)
 case atStart=>exact ⟨0,Nat.zero_le _,rfl,OwnF.empty _ w4 (Nat.le_refl _),(Below.refl _ _).alloc (Nat.le_refl _) _⟩
 case round =>
  obtain ⟨k,hk,rfl,hrows,hbr⟩:=hrel
  by_cases hlt:k < fn
  ·obtain ⟨x,hxk⟩:=get_of_lt (xs:=FS) (k:=k) (by rw [HFN.out];exact hlt)
   have hltk:=nat_of_lt hlt
   have GS:=hide (flatMap_take_succ (fun f=>OS.map (Xc.mk f ·)) hxk)
   have HGL:Hid (((FS.take k).flatMap fun f=>OS.map (Xc.mk f ·)).length≤3000):=hide (by
    have h1:=flatMap_length_le (fun f=>OS.map (Xc.mk f ·)) OS.length (FS.take k) (fun f _=>by rw [List.length_map];exact Nat.le_refl _)
    have h2:=HAL.out
    have h3:(FS.take k).length * OS.length≤FS.length * OS.length:=Nat.mul_le_mul_right _ (by rw [List.length_take];omega)
    omega)
   have HXK:=hide hxk
   have HXL:=hide (HFW.out x (List.mem_of_getElem? hxk))
   generalize ((FS.take k).flatMap fun f=>OS.map (Xc.mk f ·))=G at *
   have HRO:=hide hrows;have HBR:=hide hbr
   clear hrows hbr hxk
   go_wp2_with fail
   go_loopw [6,8] (fun s i wr => ∃ j:Nat,j≤on∧i = .int .i64 j∧RowsX wr w4.heap.size s (G++(OS.take j).map (Xc.mk x ·))∧Below w4.heap.size w4 wr) (fun _ i _=>on - (intOf i).toNat)
   case atStart=>exact ⟨0,Nat.zero_le _,rfl,by rw [List.take_zero,List.map_nil,List.append_nil];exact HRO.out,HBR.out⟩
   case round =>
    obtain ⟨j,hj,rfl,hrows,hbr⟩:=hrel
    by_cases hltj:j < on
    ·obtain ⟨o,hoj⟩:=get_of_lt (xs:=OS) (k:=j) (by rw [HON.out];exact hltj)
     have hltj':=nat_of_lt hltj
     obtain ⟨⟨sa,sn,sc⟩,g,hga,hg,g0,hrep⟩:=RowsI.row (OwnF.below HFS4.out hbr) HXK.out
     obtain ⟨⟨ta,tn,tc⟩,uss,g2,p1,p2,hga2,hg2,h0,hphi⟩:=RowsO.row (OwnF.below HOS.out hbr) hoj
     subst hga;subst hga2
     have RS:Hid (G++(OS.take (j+1)).map (Xc.mk x ·)=(G++(OS.take j).map (Xc.mk x ·))++[⟨x,o⟩]):=hide (by rw [map_take_succ (Xc.mk x ·) hoj,List.append_assoc])
     have hX:RepX wr (.slice sa sn sc) (.slice ta tn tc) ⟨x,o⟩:=⟨hrep,hphi.now.rep2⟩
     have HC:=hide (fun W (hb:Below wr.heap.size wr W)=>l6Copy_any _ _ ⟨x,o⟩ W (hX.below hb) (show x.length≤_ by rw [HXL.out];omega) (show o.length≤_ by rw [HOW.out o (List.mem_of_getElem? hoj)];omega) (fun r hr=>by have:=HOI.out o (List.mem_of_getElem? hoj) r hr;omega))
     have hlen:(G++(OS.take j).map (Xc.mk x ·)).length≤68719476736:=by
      rw [List.length_append,List.length_map,List.length_take]
      have:=HGL.out;omega
     obtain ⟨us,ds,hU⟩:=hrows
     have HUL:Hid (us.length≤68719476736):=hide (by rw [hU.lu];exact hlen)
     have HU:=hide hU;have HBR:=hide hbr
     have hbs:w4.heap.size≤wr.heap.size:=hbr.size
     have hg4:g < w4.heap.size:=by
      obtain ⟨-,g',hga',hgc, -⟩:=RowsI.row HFS4.out HXK.out
      simp at hga';omega
     have hg5:g2 < w4.heap.size:=by
      obtain ⟨-, -,g', -, -,hga',hgc, -⟩:=RowsO.row HOS.out hoj
      simp at hga';omega
     have HG4:=hide hg4;have HG5:=hide hg5
     generalize G++(OS.take j).map (Xc.mk x ·)=GG at *
     clear hoj hlen hU hbr hX hrep hphi hg4 hg5
     go_wp2_with fail
     go_region_held3 (fun V=>V.cell? ⟨g,k,none⟩=some (.slice sa sn sc)∧V.cell? ⟨g2,j,none⟩=some (.slice ta tn tc)) ((simp [go_sem, *]))
      (first
       | (go_at_call 112;(with_reducible refine (HC.out _ (Below.refl _ _).drew).mono ?_);rintro e w6 ⟨⟨f1,f2,f3⟩,⟨o1,o2,o3⟩,rfl,hof,hos,hb6⟩;have HLO:=hide (own_loc hof hos);have B6:=hide ((Below.refl wr.heap.size wr).drew.trans (hb6.mono (by simp)));obtain ⟨hc6,hf6⟩:=bcell B6.out;have hb7:=B6.out.size;have hz6:g < w6.heap.size:=(Nat.lt_of_lt_of_le hg hb7);have hz7:g2 < w6.heap.size:=(Nat.lt_of_lt_of_le hg2 hb7);clear hof hos hb6)
       | (refine step_app XE 29 Tryz.infoExecY rfl Tryz.underlying54 w4.heap.size _ us ⟨⟨f1,f2,f3⟩,⟨o1,o2,o3⟩⟩ ((HU.out.own.below B6.out).alloc _) (by decide) HUL.out (by simp;omega) (by rfl) _ _ (by rfl) (by rfl) w6.heap.size 0 1 (by rfl) news_alloc ?_;intro v8 w8 hown8 hgr8;have hk8:(∀ o,w8.cell? ⟨g,o,none⟩=wr.cell? ⟨g,o,none⟩):=(fun o=>(kept_cell hgr8 (by omega) (fun q hq=>by have:=(World.ownsRow.lt HU.out.own q hq).1;have:=HG4.out;omega) o).trans (hc6 _ _ hg));have hk9:(∀ o,w8.cell? ⟨g2,o,none⟩=wr.cell? ⟨g2,o,none⟩):=(fun o=>(kept_cell hgr8 (by omega) (fun q hq=>by have:=(World.ownsRow.lt HU.out.own q hq).1;have:=HG5.out;omega) o).trans (hc6 _ _ hg2))))
     all_goals
      have R8:=RowsX.app HU.out B6.out hbs (s:=⟨⟨f1,f2,f3⟩,⟨o1,o2,o3⟩⟩) (x:=⟨x,o⟩) HLO.out hown8 hgr8
      have B8:=(HBR.out.trans (B6.out.mono hbs)).alloc (by omega) (.cells #[.slice f1 f2 f3, .slice o1 o2 o3] 29)
      have B9:=B8.grown hgr8 (by simp;omega) (fun q hq=>(World.ownsRow.lt HU.out.own q hq).1)
      have HR8:=hide R8;have HB9:=hide B9
      clear R8 B8 B9
      go_wp2_with fail
      go_roundw
      case rel=>exact ⟨j+1,by omega,by go_num,by rw [RS.out];exact HR8.out,HB9.out⟩
      case measure=>simp [intOf];omega
    ·obtain rfl:j=on:=by omega
     rw [List.take_of_length_le (by rw [HON.out];exact Nat.le_refl _),← GS.out] at hrows
     go_wp2_with fail
     go_roundw
     case rel=>exact ⟨k+1,by omega,by go_num,hrows,hbr⟩
     case measure=>simp [intOf];omega
  ·obtain rfl:k=fn:=by omega
   obtain ⟨us,ds,hU⟩:=hrows
   obtain ⟨⟨qa,qn,qc⟩,rfl, -⟩:=hU.own.toSlc
   have hrows:RowsX _ _ _ _:=⟨us,ds,hU⟩
   clear hU
   go_wp2_with fail
   go_ret
   refine ⟨⟨qa,qn,qc⟩,rfl, ?_, ?_⟩
   ·rw [HA.out]
    have h:=hrows
    rw [List.take_of_length_le (by rw [HFN.out];exact Nat.le_refl _)] at h
    exact h.mono HB4.out.size
   ·exact HB4.out.trans (hbr.mono HB4.out.size)
end Go.Proofs.YtkfhgnkonaafgaaGreatDoor