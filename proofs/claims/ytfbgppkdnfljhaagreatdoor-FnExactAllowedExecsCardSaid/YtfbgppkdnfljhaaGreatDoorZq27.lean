/-
  The reference's l6Orders. Condition: bounds on lengths.
-/
import Derived.Test.YtfbgppkdnfljhaaGreatDoorZq16
import Derived.Test.YtfbgppkdnfljhaaGreatDoorZq20
import Derived.Test.YtfbgppkdnfljhaaGreatDoorZq08
import Derived.Deep.RegionHeld3
import Derived.Deep.DeepCutAuto
set_option maxHeartbeats 6400000
set_option maxRecDepth 100000
namespace Go.Proofs.YtfbgppkdnfljhaaGreatDoor
open Go.RowKit
theorem kept_d {w w':World} {ob:Obj} {row:Option Nat} (hg:(w.alloc ob).drew.grownBy w' row) {b:Nat} (hb:b < w.heap.size) (hne:∀ q,row=some q→q≠b) (o:Nat):w'.cell? ⟨b,o,none⟩=w.cell? ⟨b,o,none⟩:=
 kept_cell (w:=w.drew) (ob:=ob) hg hb hne o
theorem below_lit {w w':World} {l:Array Value} {T:TypeId} {n c:Nat} (hg:(w.alloc (.cells l T)).drew.grownBy w' (Value.slice (some ⟨w.heap.size,0,none⟩) n c).ownBlock):Below w.heap.size w w':=
 ((Below.refl w.heap.size w).alloc (Nat.le_refl _) (.cells l T)).drew.grown hg (by simp) (fun q hq=>by simp [Value.ownBlock] at hq;omega)
def Rafter (a b:Dd):Prop:=a.hi≤b.lo
def PhiI (d:Dd) (W:World) (u:Slc) (x:List Int):Prop:=Own IntE 3 W d.lo u.v x∧∀ q,u.v.ownBlock=some q→q < d.hi
abbrev RowsI (w:World) (base:Nat) (v:Value) (L:List (List Int)):Prop:=OwnF SlcE 57 Rafter PhiI w base v L
theorem PhiI.loc {w:World} {lo:Nat} {u:Slc} {x:List Int} (h:Own IntE 3 w lo u.v x):LocR 57 lo w.heap.size w (fun W=>PhiI ⟨lo,w.heap.size,[]⟩ W u x):=
 (LocR.own (by decide) h).map fun _ k=>⟨k,fun q hq=>(World.ownsRow.lt h q hq).2⟩
theorem OwnFU.hi {α β:Type} {E:El α} {T:TypeId} {R:Dd→Dd→Prop} {φ:Dd→World→α→β→Prop} {us:List α} {ds:List Dd} {w:World} {base:Nat} {v:Value} {xs:List β} (h:OwnFU E T R φ us ds w base v xs):∀ d∈ds,d.hi≤w.heap.size:=by
 intro d hd
 obtain ⟨k,hk⟩:=List.mem_iff_getElem?.1 hd
 have hlt:=(List.getElem?_eq_some_iff.1 hk).1
 obtain ⟨u,hu⟩:=get_of_lt (xs:=us) (k:=k) (by rw [h.lu,← h.ld];exact hlt)
 obtain ⟨x,hx⟩:=get_of_lt (xs:=xs) (k:=k) (by rw [← h.ld];exact hlt)
 exact (h.rows k u d x hu hk hx).2.le
theorem RowsI.row {w:World} {base:Nat} {a:Option Addr} {n c:Nat} {L:List (List Int)} (h:RowsI w base (.slice a n c) L) {k:Nat} {r:List Int} (hr:L[k]? = some r) :
 ∃ (u:Slc) (g:Nat),a=some ⟨g,0,none⟩∧g < w.heap.size∧w.cell? ⟨g,k,none⟩=some (.slice u.a u.n u.cap)∧Rep IntE w u.v r:=by
 obtain ⟨us,ds,h⟩:=h
 obtain ⟨u,d,g, -, -,h1, -,h2,h3, -,h4⟩:=h.at hr
 have h5:=h3 0 _ rfl
 simp only [SlcE,Nat.mul_one,Nat.add_zero] at h5
 exact ⟨u,g,h1,h2,h5,h4.now.1.rep⟩
theorem RowsI.app {us:List Slc} {ds:List Dd} {w w1 w2:World} {base lo:Nat} {v v':Value} {L:List (List Int)} (h:OwnFU SlcE 57 Rafter PhiI us ds w base v L) (hb:Below w.heap.size w w1) (hbase:base≤w.heap.size) {r:List Int} {s:Slc} {ob:Obj}
 (hlo:lo=w.heap.size) (hu:Own IntE 3 w1 lo s.v r) (ho:Own SlcE 57 w2 base v' (us++[s])) (hg:(w1.alloc ob).grownBy w2 v.ownBlock):RowsI w2 base v' (L++[r]):=by
 subst hlo
 have hba:=(Below.refl w1.heap.size w1).alloc (Nat.le_refl _) ob
 have hd:=h.hi
 exact ⟨us++[s],ds++[⟨w.heap.size,w1.heap.size,[]⟩],OwnFU.app (d:=⟨w.heap.size,w1.heap.size,[]⟩) ((h.below hb).below hba) ho hg hbase ((PhiI.loc hu).below hba) (fun d' h'=>(hd d' h':d'.hi≤w.heap.size))⟩
theorem pre1_take {i:Nat} {RR:List (List Int)} {x:Int} {j:Nat} (h:x=(i:Int)→j=0) (h2:j=RR.length∨x=(i:Int)):(RR.take j).map (x :: ·)=pre1 i RR x:=by
 unfold pre1
 by_cases hx:x=(i:Int)
 ·rw [if_pos hx,h hx];rfl
 ·rw [if_neg hx]
  rcases h2 with h2 | h2
  ·rw [h2,List.take_length]
  ·exact absurd h2 hx
theorem fromsL_row {es:List Ev}:∀ (n i:Nat),i+n=es.length→∀ r∈fromsL es i,r.length=n:=by
 intro n
 induction n with
 | zero =>
  intro i hi r hr
  obtain rfl:i=es.length:=by omega
  rw [fromsL_end] at hr;simp at hr;subst hr;rfl
 | succ n ih =>
  intro i hi r hr
  rw [fromsL_step (by omega),List.mem_flatMap] at hr
  obtain ⟨k, -,hk⟩:=hr
  unfold pre1 at hk
  split at hk
  ·simp at hk
  ·rw [List.mem_map] at hk
   obtain ⟨y,hy,rfl⟩:=hk
   rw [List.length_cons,ih (i+1) (by omega) y hy]
theorem l6Froms_any (es:List Ev) (hl:es.length≤1048576) (hfew:∀ i,(fromsL es i).length≤3000) (n:Nat):∀ (v:Value) (i:Nat) (w:World),i+n=es.length→Rep EvE w v es →
 Calls Tryz.prog 138 #[v, .int .i64 i] w fun e w' => ∃ u:Slc,e = .returned (.slice u.a u.n u.cap)∧RowsI w' w.heap.size u.v (fromsL es i)∧Below w.heap.size w w':=by
 induction n with
 | zero =>
  intro v i w hi he
  obtain ⟨a,c,rfl, -, -, -, -⟩:=he.open
  obtain rfl:i=es.length:=by omega
  rw [fromsL_end]
  generalize es.length=m at *
  go_enter Tryz.func138,Tryz.ntmps138
  go_wp2_with fail
  go_ret
  have hb1:=(Below.refl w.heap.size w).alloc (Nat.le_refl _) (.cells #[] 3)
  have h0:=Own.empty (E:=IntE) 3 w (Nat.le_refl _)
  have hz:(w.alloc (.cells #[] 3)).heap.size=w.heap.size+1:=by simp
  have h1:=Own.lit1 (E:=SlcE) (T:=57) (w.alloc (.cells #[] 3)) (base:=w.heap.size) (by omega) ⟨some ⟨w.heap.size,0,none⟩,0,0⟩
  refine ⟨⟨some ⟨w.heap.size+1,0,none⟩,1,1⟩,rfl,⟨[⟨some ⟨w.heap.size,0,none⟩,0,0⟩],[⟨w.heap.size,w.heap.size+1,[]⟩],rfl,rfl,by simp,by rw [hz] at h1;exact h1,fun i u d x h2 h3 h4 => ?_⟩,hb1.alloc (by omega) _⟩
  cases i with
  | succ i=>simp at h2
  | zero =>
   simp at h2 h3 h4
   subst h2;subst h3;subst h4
   refine ⟨Nat.le_refl _, ?_⟩
   have h5:=(PhiI.loc (u:=⟨some ⟨w.heap.size,0,none⟩,0,0⟩) h0).below ((Below.refl _ (w.alloc (.cells #[] 3))).alloc (Nat.le_refl _) (.cells (SlcE.c ⟨some ⟨w.heap.size,0,none⟩,0,0⟩).toArray 57))
   rw [hz] at h5
   exact h5
 | succ n ih =>
  intro v i0 w hi he
  have hcast:((i0+1:Nat):Int)=(i0:Int)+1:=by omega
  have HI:=hide (fun w' h=>ih v (i0+1) w' (by omega) h)
  rw [hcast] at HI
  have HW:=hide (fun l w' h=>l6Writers_any v es l w' h (by omega))
  have HROW:=hide (fun r (hr:r∈fromsL es (i0+1))=>fromsL_row n (i0+1) (by omega) r hr)
  have HF1:=hide (hfew (i0+1));have HF0:=hide (hfew i0)
  have HST:=hide (fromsL_step (es:=es) (i:=i0) (by omega))
  have HE:=hide he
  obtain ⟨a,c,rfl, -, -, -,he2⟩:=he.open
  obtain ⟨e,hei⟩:=get_of_lt (xs:=es) (k:=i0) (by omega)
  have HFC:Hid (fromC es i0=if e.r=true then wrL es e.l else [-1]):=hide (by unfold fromC;rw [hei])
  have HWL:=hide (wrL_length es e.l)
  obtain ⟨b,o,rfl,hbl,j0,j1,i2,i3,j4⟩:=he2.ev hei
  have hiN:i0 < es.length:=by omega
  have hlt':=nat_of_lt hiN
  have hne:((i0:Int)==(es.length:Int))=false:=by simp;omega
  have hni:(i0+1)+n=es.length:=by omega
  clear he he2 ih hei hcast j0 j1 j4 hfew hiN hi
  generalize hm:es.length=m at *
  generalize fromsL es i0=R at *
  generalize hRR:fromsL es (i0+1)=RR at *
  generalize hFC:fromC es i0=FC at *
  obtain ⟨et,ei,el,er,ew⟩:=e
  simp only at HFC HWL i2 i3
  go_enter Tryz.func138,Tryz.ntmps138
  go_wp2_with fail
  (with_reducible refine (HI.out _ HE.out).mono ?_);rintro e w2 ⟨u,rfl,ou,hb2⟩
  have HRR:=hide ou;have HB2:=hide hb2
  have i2:=(hb2.cell (p:=⟨b,o+i0 * 5+2,none⟩) hbl).trans i2
  have i3:=(hb2.cell (p:=⟨b,o+i0 * 5+3,none⟩) hbl).trans i3
  have hbl2:=Nat.lt_of_lt_of_le hbl hb2.size
  obtain ⟨ua,un,uc⟩:=u
  have hun:un=RR.length:=by
   rcases ou.shape with ⟨h1,h2⟩ | ⟨g,cap,h1, -⟩
   ·simp only [Value.slice.injEq] at h1;rw [h1.2.1,h2];rfl
   ·simp only [Value.slice.injEq] at h1;exact h1.2.1
  clear ou hb2
  have HLEN:Hid (RR.length≤3000):=hide HF1.out
  have HRN:Hid (RR.length=un):=hide hun.symm
  clear hun
  go_upto_if 25 with fail
  go_cut [6] (fun s6 W => ∃ f:Slc,s6 = .slice f.a f.n f.cap∧Rep IntE W f.v FC∧Below w2.heap.size w2 W)
  case first =>
   cases er
   ·go_wp2_with fail
    go_meet
    exact ⟨⟨some ⟨w2.heap.size,0,none⟩,1,1⟩,rfl,by rw [HFC.out,if_neg (by simp)];exact (Own.lit1 (E:=IntE) (T:=3) w2 (Nat.le_refl _) (-1)).rep,(Below.refl _ _).alloc (Nat.le_refl _) _⟩
   ·have hbl0:=(Below.refl w2.heap.size w2).alloc (Nat.le_refl _) (.cells #[.int .i64 (-1)] 3)
    have HBL:=hide hbl0
    have HW2:=hide (HW.out el _ (HE.out.below (HB2.out.trans (hbl0.mono HB2.out.size))))
    clear hbl0
    go_wp2_with fail
    (with_reducible refine HW2.out.mono ?_);rintro e w3 ⟨uf,rfl,of,hb3⟩
    obtain ⟨⟨fa,fn,fc⟩,rfl, -⟩:=of.toSlc
    go_wp2_with fail
    go_meet
    exact ⟨⟨fa,fn,fc⟩,rfl,by have h:=HFC.out;simp at h;rw [h];exact of.rep,HBL.out.trans (hb3.mono HBL.out.size)⟩
  case rest =>
   obtain ⟨⟨fa,fn,fc⟩,rfl,hrf,hbc⟩:=hcut
   have HFCL:Hid (FC.length≤m+1):=hide (by
    rw [HFC.out]
    split
    ·have:=HWL.out;omega
    ·simp)
   obtain ⟨fa',fc',heq, -, -, -, -⟩:=hrf.open
   simp only [Slc.v,Value.slice.injEq] at heq
   obtain ⟨rfl,rfl,rfl⟩:=heq
   have HRF:=hide hrf
   have HRC:=hide (HRR.out.below hbc)
   have HBC:=hide (HB2.out.trans (hbc.mono HB2.out.size))
   generalize hfn:FC.length=fn at *
   have HFN:=hide hfn
   have hfb:fn≤1048577:=by have:=HFCL.out;omega
   have hub:un≤3000:=by have:=HLEN.out;have:=HRN.out;omega
   clear hfn i2 i3 hbl2 HRR HB2 hbc hrf HW HI HFC HWL
   go_wp2_with fail
   go_loopw [7,8] (fun s i wr => ∃ k:Nat,k≤fn∧i = .int .i64 k∧RowsI wr wc.heap.size s ((FC.take k).flatMap (pre1 i0 RR))∧Below wc.heap.size wc wr) (fun _ i _=>fn - (intOf i).toNat)
   case atStart=>exact ⟨0,Nat.zero_le _,rfl,OwnF.empty _ wc (Nat.le_refl _),(Below.refl _ _).alloc (Nat.le_refl _) _⟩
   case round =>
    obtain ⟨k,hk,rfl,hrows,hbr⟩:=hrel
    by_cases hlt:k < fn
    ·obtain ⟨x,hxk⟩:=get_of_lt (xs:=FC) (k:=k) (by rw [HFN.out];exact hlt)
     have hltk:=nat_of_lt hlt
     have GS:=hide (flatMap_take_succ (pre1 i0 RR) hxk)
     have HGL:Hid (((FC.take k).flatMap (pre1 i0 RR)).length≤3000):=hide (by
      have:=flatMap_take_le (pre1 i0 RR) FC k
      rw [← HST.out] at this
      exact Nat.le_trans this HF0.out)
     obtain ⟨bf,of,rfl,hbf,f0⟩:=HRF.out.int hxk
     have F0:=hide f0;have HBF:=hide hbf
     generalize (FC.take k).flatMap (pre1 i0 RR)=G at *
     have HRO:=hide hrows;have HBR:=hide hbr
     clear hrows hbr hxk f0 hbf
     go_wp2_with fail
     go_loopw [7,9] (fun s i wr => ∃ j:Nat,j≤un∧i = .int .i64 j∧RowsI wr wc.heap.size s (G++(RR.take j).map (x :: ·))∧Below wc.heap.size wc wr∧Hid (x=(i0:Int)→j=0)) (fun _ i _=>un - (intOf i).toNat)
     case atStart=>exact ⟨0,Nat.zero_le _,rfl,by rw [List.take_zero,List.map_nil,List.append_nil];exact HRO.out,HBR.out,hide (fun _=>rfl)⟩
     case round =>
      obtain ⟨j,hj,rfl,hrows,hbr,hx0⟩:=hrel
      by_cases hltj:j < un
      ·obtain ⟨r,hrj⟩:=get_of_lt (xs:=RR) (k:=j) (by rw [HRN.out];exact hltj)
       have hltj':=nat_of_lt hltj
       have f0:=(hbr.cell (p:=⟨bf,of+k,none⟩) HBF.out).trans F0.out
       have hbf:=Nat.lt_of_lt_of_le HBF.out hbr.size
       by_cases hx:x=(i0:Int)
       ·have k1:(x != (i0:Int))=false:=by simp [hx]
        have P1:=hide (pre1_take (RR:=RR) hx0.out (.inr hx))
        clear hx
        go_wp2_with fail
        go_roundw
        case rel=>exact ⟨k+1,by omega,by go_num,by rw [GS.out,← P1.out];exact hrows,hbr⟩
        case measure=>simp [intOf];omega
       ·have k1:(x != (i0:Int))=true:=by simp [hx]
        have HX:=hide hx
        clear hx
        obtain ⟨⟨ra,rn,rc⟩,g,hga,hg,g0,hrep⟩:=RowsI.row (HRC.out.below hbr) hrj
        have hgc:g < wc.heap.size:=by
         obtain ⟨-,g',hga',hgc, -⟩:=RowsI.row HRC.out hrj
         rw [hga] at hga';simp at hga';omega
        subst hga
        have RS:Hid (G++(RR.take (j+1)).map (x :: ·)=(G++(RR.take j).map (x :: ·))++[x :: r]):=hide (by rw [map_take_succ (x :: ·) hrj,List.append_assoc])
        have hrl:=HROW.out r (List.mem_of_getElem? hrj)
        have hlen:(G++(RR.take j).map (x :: ·)).length≤68719476736:=by
         rw [List.length_append,List.length_map,List.length_take]
         have:=HGL.out;have:=HRN.out;have:=HLEN.out;omega
        have hn1:([x]:List Int).length+r.length≤68719476736:=by simp;omega
        have HRP:=hide (hrep.below ((Below.refl wr.heap.size wr).alloc (Nat.le_refl _) (.cells #[.int .i64 x] 3)).drew)
        obtain ⟨us,ds,hU⟩:=hrows
        have HUL:Hid (us.length≤68719476736):=hide (by rw [hU.lu];exact hlen)
        have HU:=hide hU
        have HBR2:=hide hbr
        have HLT:Hid (Own IntE 3 (wr.alloc (.cells #[.int .i64 x] 3)).drew wr.heap.size (.slice (some ⟨wr.heap.size,0,none⟩) 1 1) [x]):=hide (Own.lit1 (E:=IntE) (T:=3) wr (Nat.le_refl _) x)
        have hbs:wc.heap.size≤wr.heap.size:=hbr.size
        have hq7:∀ q,u7.ownBlock=some q→wc.heap.size≤q:=fun q hq=>(World.ownsRow.lt hU.own q hq).1
        have HQ7:=hide hq7
        have HBFc:=hide (show bf < wc.heap.size from HBF.out)
        have HGc:=hide hgc
        generalize G++(RR.take j).map (x :: ·)=GG at *
        clear hrj hrep hbr hrl hU hlen hq7
        go_wp2_with fail
        go_region_held3 (fun V=>V.cell? ⟨bf,of+k,none⟩=some (.int .i64 x)∧V.cell? ⟨g,j,none⟩=some (.slice ra rn rc)) ((simp [go_sem, *]))
         (first
          | (refine step_appS IntE 3 Tryz.infoInt rfl Tryz.underlying57 wr.heap.size _ [x] r _ HLT.out HRP.out (by decide) hn1 (by simp) (by rfl) _ _ (by rfl) (by rfl) (by rfl) ?_;intro v6 w6 hown6 hgr6;obtain ⟨⟨a6,n6,c6⟩,rfl, -⟩:=hown6.toSlc;have O6:=hide hown6;have hk6:(∀ o,w6.cell? ⟨bf,o,none⟩=wr.cell? ⟨bf,o,none⟩):=(kept_d hgr6 hbf (fun q hq=>by simp [Value.ownBlock] at hq;omega));have hk7:(∀ o,w6.cell? ⟨g,o,none⟩=wr.cell? ⟨g,o,none⟩):=(kept_d hgr6 hg (fun q hq=>by simp [Value.ownBlock] at hq;omega));have B6:=hide (below_lit hgr6);have hb6:=B6.out.size;have hz6:bf < w6.heap.size:=(Nat.lt_of_lt_of_le hbf hb6);have hz7:g < w6.heap.size:=(Nat.lt_of_lt_of_le hg hb6);clear hown6 hgr6)
          | (refine step_app SlcE 57 Tryz.infoIntS rfl Tryz.underlying58 wc.heap.size _ us ⟨a6,n6,c6⟩ ((HU.out.own.below B6.out).alloc _) (by decide) HUL.out (by simp;omega) (by rfl) _ _ (by rfl) (by rfl) w6.heap.size 0 1 (by rfl) news_alloc ?_;intro v8 w8 hown8 hgr8;have hk8:(∀ o,w8.cell? ⟨bf,o,none⟩=wr.cell? ⟨bf,o,none⟩):=(fun o=>(kept_cell hgr8 (by omega) (fun q hq=>by have:=HQ7.out q hq;have:=HBFc.out;omega) o).trans (hk6 o));have hk9:(∀ o,w8.cell? ⟨g,o,none⟩=wr.cell? ⟨g,o,none⟩):=(fun o=>(kept_cell hgr8 (by omega) (fun q hq=>by have:=HQ7.out q hq;have:=HGc.out;omega) o).trans (hk7 o))))
        have R8:=RowsI.app HU.out B6.out hbs rfl O6.out hown8 hgr8
        have B8:=(HBR2.out.trans (B6.out.mono hbs)).alloc (by omega) (.cells #[.slice a6 n6 c6] 57)
        have B9:=B8.grown hgr8 (by simp;omega) (fun q hq=>HQ7.out q hq)
        go_wp2_with fail
        go_roundw
        case rel=>exact ⟨j+1,by omega,by go_num,by rw [RS.out];exact R8,B9,hide (fun h=>absurd h HX.out)⟩
        case measure=>simp [intOf];omega
      ·obtain rfl:j=un:=by omega
       have P1:=hide (pre1_take (RR:=RR) hx0.out (.inl HRN.out.symm))
       go_wp2_with fail
       go_roundw
       case rel=>exact ⟨k+1,by omega,by go_num,by rw [GS.out,← P1.out];exact hrows,hbr⟩
       case measure=>simp [intOf];omega
    ·obtain rfl:k=fn:=by omega
     obtain ⟨us,ds,hU⟩:=hrows
     obtain ⟨⟨qa,qn,qc⟩,rfl, -⟩:=hU.own.toSlc
     have hrows:RowsI _ _ _ _:=⟨us,ds,hU⟩
     clear hU
     go_wp2_with fail
     go_ret
     refine ⟨⟨qa,qn,qc⟩,rfl, ?_, ?_⟩
     ·rw [HST.out]
      have h:=hrows
      rw [List.take_of_length_le (by rw [HFN.out];exact Nat.le_refl _)] at h
      exact h.mono HBC.out.size
     ·exact HBC.out.trans (hbr.mono HBC.out.size)
end Go.Proofs.YtfbgppkdnfljhaaGreatDoor
namespace Go.Proofs.YtfbgppkdnfljhaaGreatDoor
open Go.RowKit
theorem OwnFU.grown_ne {α β γ:Type} {E:El α} {F:El γ} {T:TypeId} {R:Dd→Dd→Prop} {φ:Dd→World→α→β→Prop} {us:List α} {ds:List Dd} {w w':World} {base base':Nat} {v v':Value} {xs:List β} {ys:List γ} (h:OwnFU E T R φ us ds w base v xs)
 (ho:Own F T w base' v' ys) (hg:w.grownBy w' v'.ownBlock) (hne:v.ownBlock=none∨v.ownBlock≠v'.ownBlock):OwnFU E T R φ us ds w' base v xs:=
 ⟨h.lu,h.ld,h.pw,h.own.grown hg hne,fun i u d x h1 h2 h3=>⟨(h.rows i u d x h1 h2 h3).1,(h.rows i u d x h1 h2 h3).2.grown ho hg⟩⟩
theorem OwnF.grown_ne {α β γ:Type} {E:El α} {F:El γ} {T:TypeId} {R:Dd→Dd→Prop} {φ:Dd→World→α→β→Prop} {w w':World} {base base':Nat} {v v':Value} {xs:List β} {ys:List γ} (h:OwnF E T R φ w base v xs)
 (ho:Own F T w base' v' ys) (hg:w.grownBy w' v'.ownBlock) (hne:v.ownBlock=none∨v.ownBlock≠v'.ownBlock):OwnF E T R φ w' base v xs:=by
 obtain ⟨us,ds,h⟩:=h
 exact ⟨us,ds,h.grown_ne ho hg hne⟩
theorem step_appL {α:Type} (E:El α) {P:Program} {w:World} {ops:Array Oper} {o:Oper} {a:Act} {K:Act→World→Prop} {Q:Exit→Act→World→Prop} {F:Prop}
 (T:TypeId) {zv:Value} {bytes:Nat} (hinfo:(P.info? T).map (fun i=>(i.zero,i.size,i.bytes))=some (some zv,E.sz,bytes)) (hz:zv.cells.size=E.sz) {t:TypeId} (h1:P.underlying t=some (.slice T))
 (base:Nat) (v:Value) (xs:List α) (x:α) (hown:Own E T w base v xs) (hby:bytes≤256) (hn:xs.length≤68719476736) (hbase:base≤w.heap.size)
 (hg:o.guard=none) (s y:Operand) (hop:o.op = .call { callee:=.builtin .append,args:=#[s,y],argTypes:=#[t,t] })
 (hs:a.eval s=v) (b off c:Nat) (hy:a.eval y = .slice (some ⟨b,off,none⟩) 1 c) (hnews:∀ j u,(E.c x)[j]? = some u→w.cell? ⟨b,off+j,none⟩=some u)
 (hK:∀ v' w',Own E T w' base v' (xs++[x])→w.grownBy w' v.ownBlock→(v'.ownBlock=v.ownBlock∨v'.ownBlock=some w.heap.size)→K (a.put o.dst v') w') :
 if Region.wanted o (yielded ops a.tmps)=true then Oper.wp P o a w K Q else F:=by
 obtain ⟨it,hi,hz0,hz1,hz2⟩:=info_parts hinfo
 refine step_append_lies w hg s y t hop base T it zv E.sz bytes h1 hi hz0 hz1 hz2 hz E.pos v xs.length _ hs hown ⟨b,off,none⟩ 1 c (E.c x) hy (by rw [E.len,Nat.one_mul]) ?_ (E.one x) (by omega) (by unfold maxLen;omega) ?_ hbase _ rfl ?_
 ·intro j u hu
  have hadd:(⟨b,off,none⟩:Addr).add j=⟨b,off+j,none⟩:=by unfold Addr.add;split <;> simp_all
  rw [hadd]
  exact hnews j u hu
 ·have:=Nat.mul_le_mul (show xs.length+1≤68719476737 by omega) hby
  omega
 ·intro g cap w' h2 h3 h4 _
  refine hK _ w' ?_ h3 ?_
  ·unfold Own
   simpa [List.flatMap_append] using h2
  ·rcases h4 with h4 | h4
   ·exact .inl (by rw [h4];rfl)
   ·exact .inr (by rw [h4];rfl)
theorem Rep.takeI {w:World} {a:Option Addr} {n c:Nat} {xs:List Int} (h:Rep IntE w (.slice a n c) xs) {k:Nat} (hk:k≤xs.length):Rep IntE w (.slice a k c) (xs.take k):=by
 obtain ⟨a',c',hv,h1,h2,h3⟩:=h
 simp only [Value.slice.injEq] at hv
 obtain ⟨rfl,rfl,rfl⟩:=hv
 refine ⟨a,c,by rw [List.length_take,Nat.min_eq_left hk],by rw [List.length_take];omega,h2,fun i x hx => ?_⟩
 rw [List.getElem?_take] at hx
 split at hx
 ·exact h3 i x hx
 ·cases hx
theorem Rep.dropI {w:World} {b o n c:Nat} {xs:List Int} (h:Rep IntE w (.slice (some ⟨b,o,none⟩) n c) xs) {k:Nat} (hk:k≤xs.length):Rep IntE w (.slice (some ⟨b,o+k,none⟩) (n - k) (c - k)) (xs.drop k):=by
 obtain ⟨a',c',hv,h1,h2,h3⟩:=h
 simp only [Value.slice.injEq] at hv
 obtain ⟨rfl,rfl,rfl⟩:=hv
 refine ⟨some ⟨b,o+k,none⟩,c - k,by rw [List.length_drop],by rw [List.length_drop];omega,by omega,fun i x hx => ?_⟩
 rw [List.getElem?_drop] at hx
 obtain ⟨b',o',hb,h4⟩:=h3 (k+i) x hx
 simp only [Option.some.injEq,Addr.mk.injEq,and_true] at hb
 obtain ⟨rfl,rfl⟩:=hb
 refine ⟨b,o+k,rfl,fun j u hu => ?_⟩
 have h5:=h4 j u hu
 rw [show o+k+i * IntE.sz+j=o+(k+i) * IntE.sz+j by simp only [IntE];omega]
 exact h5
theorem Rep.dropV {w:World} {b o n c:Nat} {xs:List Int} (h:Rep IntE w (.slice (some ⟨b,o,none⟩) n c) xs) {k:Nat} (hk:k≤xs.length):Rep IntE w (.slice (if c=k then some ⟨b,o,none⟩ else some ⟨b,o+k,none⟩) (n - k) (c - k)) (xs.drop k):=by
 split
 ·rename_i hc
  obtain ⟨a',c',hv,h1,h2,h3⟩:=h
  simp only [Value.slice.injEq] at hv
  obtain ⟨rfl,rfl,rfl⟩:=hv
  refine ⟨_,_,by rw [List.length_drop],by rw [List.length_drop];omega,by omega,fun i x hx => ?_⟩
  rw [List.getElem?_eq_none (by rw [List.length_drop];omega)] at hx
  cases hx
 ·exact h.dropI hk
def permTo (xs:List Int) (k:Nat):List (List Int):=(List.range k).flatMap fun i=>(permsL (xs.eraseIdx i)).map (xs.getD i 0 :: ·)
theorem permTo_succ (xs:List Int) (k:Nat):permTo xs (k+1)=permTo xs k++(permsL (xs.eraseIdx k)).map (xs.getD k 0 :: ·):=by
 unfold permTo
 rw [List.range_succ,List.flatMap_append]
 simp
theorem permTo_length (xs:List Int) (k:Nat) (hk:k≤xs.length):(permTo xs k).length≤fact xs.length:=by
 have h:=permsL_length xs
 by_cases h0:xs.length=0
 ·have:k=0:=by omega
  subst this
  simp [permTo]
 ·have h1:=flatMap_length_le (fun i=>(permsL (xs.eraseIdx i)).map (xs.getD i 0 :: ·)) (fact (xs.length - 1)) (List.range k) (fun i hi=>by
   rw [List.mem_range] at hi
   rw [List.length_map]
   refine Nat.le_trans (permsL_length _) ?_
   rw [List.length_eraseIdx,if_pos (by omega)]
   exact Nat.le_refl _)
  rw [List.length_range] at h1
  obtain ⟨m,hm⟩:∃ m,xs.length=m+1:=⟨xs.length - 1,by omega⟩
  rw [hm] at h1 ⊢
  rw [fact,Nat.mul_comm]
  exact Nat.le_trans h1 (Nat.mul_le_mul_right _ (by omega))
theorem permsL_row:∀ (n:Nat) (xs:List Int),xs.length=n→∀ r∈permsL xs,r.length=n:=by
 intro n
 induction n with
 | zero =>
  intro xs hx r hr
  have:xs=[]:=List.length_eq_zero_iff.1 hx
  subst this
  rw [permsL_nil] at hr;simp at hr;subst hr;rfl
 | succ n ih =>
  intro xs hx r hr
  rw [permsL_step (by omega),List.mem_flatMap] at hr
  obtain ⟨k,hk1,hk⟩:=hr
  rw [List.mem_range] at hk1
  rw [List.mem_map] at hk
  obtain ⟨y,hy,rfl⟩:=hk
  rw [List.length_cons,ih _ (by rw [List.length_eraseIdx,if_pos hk1,hx];rfl) y hy]
theorem fact_mono {m n:Nat} (h:m≤n):fact m≤fact n:=by
 obtain ⟨k,h1,h2⟩:=fact_mul h
 rw [h2];exact Nat.le_mul_of_pos_right _ h1
theorem fact_lt {n:Nat} (h:fact n≤3000):n≤6:=by
 rcases Nat.lt_or_ge 6 n with h1 | h1
 ·have:=fact_mono h1
  have e:fact (Nat.succ 6)=5040:=by decide
  omega
 ·exact h1
theorem l6Perms_any (n:Nat):∀ (v:Value) (xs:List Int) (w:World),xs.length=n→fact n≤3000→Rep IntE w v xs →
 Calls Tryz.prog 190 #[v] w fun e w' => ∃ u:Slc,e = .returned (.slice u.a u.n u.cap)∧RowsI w' w.heap.size u.v (permsL xs)∧Below w.heap.size w w':=by
 induction n with
 | zero =>
  intro v xs w hx _ he
  obtain rfl:xs=[]:=List.length_eq_zero_iff.1 hx
  obtain ⟨a,c,rfl, -, -, -, -⟩:=he.open
  rw [permsL_nil]
  go_enter Tryz.func190,Tryz.ntmps190
  go_wp2_with fail
  go_ret
  have hb1:=(Below.refl w.heap.size w).alloc (Nat.le_refl _) (.cells #[] 3)
  have h0:=Own.empty (E:=IntE) 3 w (Nat.le_refl _)
  have hz:(w.alloc (.cells #[] 3)).heap.size=w.heap.size+1:=by simp
  have h1:=Own.lit1 (E:=SlcE) (T:=57) (w.alloc (.cells #[] 3)) (base:=w.heap.size) (by omega) ⟨some ⟨w.heap.size,0,none⟩,0,0⟩
  refine ⟨⟨some ⟨w.heap.size+1,0,none⟩,1,1⟩,rfl,⟨[⟨some ⟨w.heap.size,0,none⟩,0,0⟩],[⟨w.heap.size,w.heap.size+1,[]⟩],rfl,rfl,by simp,by rw [hz] at h1;exact h1,fun i u d x h2 h3 h4 => ?_⟩,hb1.alloc (by omega) _⟩
  cases i with
  | succ i=>simp at h2
  | zero =>
   simp at h2 h3 h4
   subst h2;subst h3;subst h4
   refine ⟨Nat.le_refl _, ?_⟩
   have h5:=(PhiI.loc (u:=⟨some ⟨w.heap.size,0,none⟩,0,0⟩) h0).below ((Below.refl _ (w.alloc (.cells #[] 3))).alloc (Nat.le_refl _) (.cells (SlcE.c ⟨some ⟨w.heap.size,0,none⟩,0,0⟩).toArray 57))
   rw [hz] at h5
   exact h5
 | succ n ih =>
  intro v xs w hx hfact he
  have hn6:=fact_lt hfact
  have HI:=hide (fun v ys w' h h'=>ih v ys w' h (Nat.le_trans (fact_mono (Nat.le_succ n)) hfact) h')
  have HPS:=hide (permTo_succ xs)
  have HPL:=hide (fun k (hk:k≤n+1)=>Nat.le_trans (permTo_length xs k (by omega)) (by rw [hx];exact hfact))
  have HP0:Hid (permTo xs 0=[]):=hide rfl
  have HPE:Hid (permsL xs=permTo xs (n+1)):=hide (by rw [permsL_step (by omega),hx];rfl)
  have HE:=hide he
  have HXL:=hide hx
  obtain ⟨a,c,rfl,hnc, -, -, -⟩:=he.open
  obtain ⟨x0,hx0⟩:=get_of_lt (xs:=xs) (k:=0) (by omega)
  obtain ⟨b,o,rfl,hbl, -⟩:=he.int hx0
  rw [hx] at hnc ⊢
  have hne:(((n+1:Nat):Int)==0)=false:=by simp;omega
  rw [hx] at HE
  have HFA:Hid (fact (n+1)≤3000):=hide hfact
  clear he ih hx hx0 hfact
  generalize permsL xs=R at *
  generalize hm:n+1=m at *
  have HM:=hide hm
  clear hm
  go_enter Tryz.func190,Tryz.ntmps190
  go_wp2_with fail
  go_loopw [3,4] (fun s i wr => ∃ k:Nat,k≤m∧i = .int .i64 k∧RowsI wr w.heap.size s (permTo xs k)∧Below w.heap.size w wr) (fun _ i _=>m - (intOf i).toNat)
  case atStart=>exact ⟨0,Nat.zero_le _,rfl,by rw [HP0.out];exact OwnF.empty _ w (Nat.le_refl _),(Below.refl _ _).alloc (Nat.le_refl _) _⟩
  case round =>
   obtain ⟨k,hk,rfl,hrows,hbr⟩:=hrel
   by_cases hlt:k < m
   ·obtain ⟨x,hxk⟩:=get_of_lt (xs:=xs) (k:=k) (by rw [HXL.out];exact hlt)
    have hltk:=nat_of_lt hlt
    have PS:=hide (HPS.out k)
    have hgd:xs.getD k 0=x:=by simp [List.getD,hxk]
    rw [hgd] at PS
    have PL:=hide (HPL.out k hk)
    generalize permTo xs k=G at *
    have HEr:=HE.out.below hbr
    obtain ⟨b',o',hbo,hbf,f0⟩:=HEr.int hxk
    simp only [Option.some.injEq,Addr.mk.injEq,and_true] at hbo
    obtain ⟨rfl,rfl⟩:=hbo
    have hba:=(Below.refl wr.heap.size wr).alloc (Nat.le_refl _) (.cells #[] 3)
    have T1:=hide ((HEr.takeI (k:=k) (by rw [HXL.out];exact hk)).below hba.drew)
    have T2:=hide (HEr.dropV (k:=k+1) (by rw [HXL.out];exact hlt))
    have HES:Hid (xs.take k++xs.drop (k+1)=xs.eraseIdx k):=hide (List.eraseIdx_eq_take_drop_succ xs k).symm
    have hkc:(k:Int)≤(c:Int):=by omega
    have hwk:wrap64 ((k:Int)+1)=(k:Int)+1:=by unfold wrap64;omega
    have hwk2:IntKind.i64.wrap ((k:Int)+1)=(k:Int)+1:=by rw [IntKind.wrap_i64];omega
    have hkm:(k:Int)+1≤(m:Int):=by omega
    have hk0:(0:Int)≤(k:Int)+1:=by omega
    have hmc:(m:Int)≤(c:Int):=by omega
    have hkt:((k:Int)+1).toNat=k+1:=by omega
    have OE:Hid (Own IntE 3 (wr.alloc (.cells #[] 3)).drew wr.heap.size (.slice (some ⟨wr.heap.size,0,none⟩) 0 0) []):=hide (Own.empty (E:=IntE) 3 wr (Nat.le_refl _))
    have hl1:([]:List Int).length+(xs.take k).length≤68719476736:=by rw [List.length_take];simp;omega
    have hl2:([]++xs.take k).length+(xs.drop (k+1)).length≤68719476736:=by rw [List.nil_append,List.length_take,List.length_drop];have:=HXL.out;omega
    go_upto_region 7 with fail
    go_cut [5] (fun s5 W => ∃ f:Slc,s5 = .slice f.a f.n f.cap∧Own IntE 3 W wr.heap.size f.v (xs.eraseIdx k)∧Below wr.heap.size wr W)
    case first =>
     by_cases hck:c=k+1
     ·rw [if_pos hck] at T2
      obtain rfl:m=k+1:=by omega
      subst hck
      rw [Nat.sub_self] at T2
      have hkc:(k:Int)≤(k:Int)+1:=by omega
      clear hmc
      go_region_held3 (fun V=>V.cell? ⟨b,o+k,none⟩=some (.int .i64 x)) ((simp [go_sem, *]))
       (first
        | (refine step_appS IntE 3 Tryz.infoInt rfl Tryz.underlying57 wr.heap.size _ [] (xs.take k) _ OE.out T1.out (by decide) hl1 (by simp) (by rfl) _ _ (by rfl) (by rfl) (by rfl) ?_;intro v6 w6 hown6 hgr6;obtain ⟨⟨a6,n6,c6⟩,rfl, -⟩:=hown6.toSlc;have O6:=hide hown6;have hk6:(∀ o,w6.cell? ⟨b,o,none⟩=wr.cell? ⟨b,o,none⟩):=(kept_d hgr6 hbf (fun q hq=>by simp [Value.ownBlock] at hq;omega));have B6:=hide (below_lit hgr6);have hb6:=B6.out.size;have T3:=hide (T2.out.below B6.out);clear hown6 hgr6)
        | (refine step_appS IntE 3 Tryz.infoInt rfl Tryz.underlying57 wr.heap.size _ ([]++xs.take k) (xs.drop (k+1)) _ O6.out T3.out (by decide) hl2 (by omega) (by rfl) _ _ (by rfl) (by rfl) (by rfl) ?_;intro v7 w7 hown7 hgr7;obtain ⟨⟨a7,n7,c7⟩,rfl, -⟩:=hown7.toSlc;have hk7:(∀ o,w7.cell? ⟨b,o,none⟩=wr.cell? ⟨b,o,none⟩):=(fun o=>(cell_of_block2 (hgr7.block b (Nat.lt_of_lt_of_le hbf hb6) (fun e=>by have:=(World.ownsRow.lt O6.out b e.symm).1;omega)) o).trans (hk6 o))))
      all_goals
       have O7:Hid (Own IntE 3 w7 wr.heap.size (Slc.v ⟨a7,n7,c7⟩) (xs.eraseIdx k)):=hide (by rw [← HES.out];exact hown7)
       have B7:=hide (B6.out.grown hgr7 (Nat.le_of_lt_succ (by have:=B6.out.size;omega)) (fun q hq=>(World.ownsRow.lt O6.out q hq).1))
       go_wp2_with fail
       go_meet
       exact ⟨⟨a7,n7,c7⟩,rfl,O7.out,B7.out⟩
     ·rw [if_neg hck] at T2
      go_region_held3 (fun V=>V.cell? ⟨b,o+k,none⟩=some (.int .i64 x)) ((simp [go_sem, *]))
       (first
        | (refine step_appS IntE 3 Tryz.infoInt rfl Tryz.underlying57 wr.heap.size _ [] (xs.take k) _ OE.out T1.out (by decide) hl1 (by simp) (by rfl) _ _ (by rfl) (by rfl) (by rfl) ?_;intro v6 w6 hown6 hgr6;obtain ⟨⟨a6,n6,c6⟩,rfl, -⟩:=hown6.toSlc;have O6:=hide hown6;have hk6:(∀ o,w6.cell? ⟨b,o,none⟩=wr.cell? ⟨b,o,none⟩):=(kept_d hgr6 hbf (fun q hq=>by simp [Value.ownBlock] at hq;omega));have B6:=hide (below_lit hgr6);have hb6:=B6.out.size;have T3:=hide (T2.out.below B6.out);clear hown6 hgr6)
        | (refine step_appS IntE 3 Tryz.infoInt rfl Tryz.underlying57 wr.heap.size _ ([]++xs.take k) (xs.drop (k+1)) _ O6.out T3.out (by decide) hl2 (by omega) (by rfl) _ _ (by rfl) (by rfl) (by rfl) ?_;intro v7 w7 hown7 hgr7;obtain ⟨⟨a7,n7,c7⟩,rfl, -⟩:=hown7.toSlc;have hk7:(∀ o,w7.cell? ⟨b,o,none⟩=wr.cell? ⟨b,o,none⟩):=(fun o=>(cell_of_block2 (hgr7.block b (Nat.lt_of_lt_of_le hbf hb6) (fun e=>by have:=(World.ownsRow.lt O6.out b e.symm).1;omega)) o).trans (hk6 o))))
      all_goals
       have O7:Hid (Own IntE 3 w7 wr.heap.size (Slc.v ⟨a7,n7,c7⟩) (xs.eraseIdx k)):=hide (by rw [← HES.out];exact hown7)
       have B7:=hide (B6.out.grown hgr7 (Nat.le_of_lt_succ (by have:=B6.out.size;omega)) (fun q hq=>(World.ownsRow.lt O6.out q hq).1))
       go_wp2_with fail
       go_meet
       exact ⟨⟨a7,n7,c7⟩,rfl,O7.out,B7.out⟩
    case rest =>
     obtain ⟨⟨a7,n7,c7⟩,rfl,h7,hb7⟩:=hcut
     have O7:=hide h7;have B7:=hide hb7
     clear h7 hb7
     generalize wc=w7 at *
     have HC:=hide (HI.out _ (xs.eraseIdx k) w7 (by rw [List.length_eraseIdx,HXL.out,if_pos hlt];have:=HM.out;omega) O7.out.rep)
     have HRL:=hide (fun r (hr:r∈permsL (xs.eraseIdx k))=>permsL_row n (xs.eraseIdx k) (by rw [List.length_eraseIdx,HXL.out,if_pos hlt];have:=HM.out;omega) r hr)
     have HRN0:=hide (permsL_length (xs.eraseIdx k))
     have HEL:Hid (fact (xs.eraseIdx k).length≤3000):=hide (by
      rw [List.length_eraseIdx,HXL.out,if_pos hlt]
      refine Nat.le_trans (fact_mono (Nat.sub_le m 1)) ?_
      have:=HFA.out
      exact this)
     have HB7:=hide (hbr.trans (B7.out.mono hbr.size))
     have HR7:=hide (OwnF.below hrows B7.out)
     have hq3:∀ q,u3.ownBlock=some q→q < w7.heap.size:=fun q hq=>by
      obtain ⟨us,ds,hU⟩:=hrows
      exact Nat.lt_of_lt_of_le (World.ownsRow.lt hU.own q hq).2 B7.out.size
     have HQ3:=hide hq3
     have F0:=hide ((hbr.cell (p:=⟨b,o+k,none⟩) hbl).symm.trans f0)
     clear hq3 O7 B7 T1 T2 OE HES hl1 hl2 hba f0 hrows hbr HEr hwk hwk2 hkm hk0 hmc hkt hkc hbf
     generalize permsL (xs.eraseIdx k)=RR at *
     go_wp2_with fail
     (with_reducible refine HC.out.mono ?_);rintro e w8 ⟨⟨ra,rn,rc⟩,rfl,ou,hb8⟩
     have hrn:rn=RR.length:=by
      rcases ou.shape with ⟨h1,h2⟩ | ⟨g,cap,h1, -⟩
      ·simp only [Slc.v,Value.slice.injEq] at h1;rw [h1.2.1,h2];rfl
      ·simp only [Slc.v,Value.slice.injEq] at h1;exact h1.2.1
     have HRN:Hid (RR.length=rn):=hide hrn.symm
     have hrb:rn≤3000:=by have:=HRN0.out;have:=HEL.out;omega
     have HRS:=hide ou
     have HQ8:Hid (∀ q,(Slc.v ⟨ra,rn,rc⟩).ownBlock=some q→w7.heap.size≤q∧q < w8.heap.size):=hide (fun q hq=>by
      obtain ⟨us,ds,hU⟩:=ou
      exact World.ownsRow.lt hU.own q hq)
     have HR8:=hide (OwnF.below HR7.out hb8)
     have HB8:=hide (HB7.out.trans (hb8.mono HB7.out.size))
     have h78:=hb8.size
     clear ou hb8 hrn HR7 HB7 HC
     go_wp2_with fail
     go_loopw [3,7] (fun s i wr => ∃ j:Nat,j≤rn∧i = .int .i64 j∧RowsI wr w.heap.size s (G++(RR.take j).map (x :: ·))∧RowsI wr w7.heap.size (.slice ra rn rc) RR∧Hid (∀ q,s.ownBlock=some q→q < w7.heap.size∨w8.heap.size≤q)∧Below w.heap.size w wr∧w8.heap.size≤wr.heap.size) (fun _ i _=>rn - (intOf i).toNat)
     case atStart=>exact ⟨0,Nat.zero_le _,rfl,by rw [List.take_zero,List.map_nil,List.append_nil];exact HR8.out,HRS.out,hide (fun q hq => .inl (HQ3.out q hq)),HB8.out,Nat.le_refl _⟩
     case round =>
      obtain ⟨j,hj,rfl,hrows,hrest,hsq,hbr,hsz⟩:=hrel
      by_cases hltj:j < rn
      ·obtain ⟨r,hrj⟩:=get_of_lt (xs:=RR) (k:=j) (by rw [HRN.out];exact hltj)
       have hltj':=nat_of_lt hltj
       have f0:=(hbr.cell (p:=⟨b,o+k,none⟩) hbl).trans F0.out
       have hbf:=Nat.lt_of_lt_of_le hbl hbr.size
       obtain ⟨⟨sa,sn,sc⟩,g,hga,hg,g0,hrep⟩:=RowsI.row hrest hrj
       subst hga
       have hgq:=HQ8.out g rfl
       have RS:Hid (G++(RR.take (j+1)).map (x :: ·)=(G++(RR.take j).map (x :: ·))++[x :: r]):=hide (by rw [map_take_succ (x :: ·) hrj,List.append_assoc])
       have hrl:=HRL.out r (List.mem_of_getElem? hrj)
       have hlen:(G++(RR.take j).map (x :: ·)).length≤68719476736:=by
        rw [List.length_append,List.length_map,List.length_take]
        have:=PL.out;have:=HRN.out;omega
       have hn1:([x]:List Int).length+r.length≤68719476736:=by have:=HM.out;simp;omega
       have HRP:=hide (hrep.below ((Below.refl wr.heap.size wr).alloc (Nat.le_refl _) (.cells #[.int .i64 x] 3)).drew)
       obtain ⟨us,ds,hU⟩:=hrows
       have HUL:Hid (us.length≤68719476736):=hide (by rw [hU.lu];exact hlen)
       have HU:=hide hU
       have HBR2:=hide hbr
       have HRS2:=hide hrest
       have HLT:Hid (Own IntE 3 (wr.alloc (.cells #[.int .i64 x] 3)).drew wr.heap.size (.slice (some ⟨wr.heap.size,0,none⟩) 1 1) [x]):=hide (Own.lit1 (E:=IntE) (T:=3) wr (Nat.le_refl _) x)
       have hbs:w.heap.size≤wr.heap.size:=hbr.size
       have HQ7:Hid (∀ q,u3.ownBlock=some q→w.heap.size≤q∧q≠g):=hide (fun q hq=>⟨(World.ownsRow.lt hU.own q hq).1,by have:=hsq.out q hq;omega⟩)
       generalize G++(RR.take j).map (x :: ·)=GG at *
       clear hrj hrep hbr hrl hU hlen hrest
       go_wp2_with fail
       go_region_held3 (fun V=>V.cell? ⟨b,o+k,none⟩=some (.int .i64 x)∧V.cell? ⟨g,j,none⟩=some (.slice sa sn sc)) ((simp [go_sem, *]))
        (first
         | (refine step_appS IntE 3 Tryz.infoInt rfl Tryz.underlying57 wr.heap.size _ [x] r _ HLT.out HRP.out (by decide) hn1 (by simp) (by rfl) _ _ (by rfl) (by rfl) (by rfl) ?_;intro v6 w6 hown6 hgr6;obtain ⟨⟨a6,n6,c6⟩,rfl, -⟩:=hown6.toSlc;have O6:=hide hown6;have hk6:(∀ o,w6.cell? ⟨b,o,none⟩=wr.cell? ⟨b,o,none⟩):=(kept_d hgr6 hbf (fun q hq=>by simp [Value.ownBlock] at hq;omega));have hk7:(∀ o,w6.cell? ⟨g,o,none⟩=wr.cell? ⟨g,o,none⟩):=(kept_d hgr6 hg (fun q hq=>by simp [Value.ownBlock] at hq;omega));have B6:=hide (below_lit hgr6);have hb6:=B6.out.size;have hz6:b < w6.heap.size:=(Nat.lt_of_lt_of_le hbf hb6);have hz7:g < w6.heap.size:=(Nat.lt_of_lt_of_le hg hb6);clear hown6 hgr6)
         | (refine step_appL SlcE 57 Tryz.infoIntS rfl Tryz.underlying58 w.heap.size _ us ⟨a6,n6,c6⟩ ((HU.out.own.below B6.out).alloc _) (by decide) HUL.out (by simp;omega) (by rfl) _ _ (by rfl) (by rfl) w6.heap.size 0 1 (by rfl) news_alloc ?_;intro v8 w9 hown8 hgr8 hv8;have hk8:(∀ o,w9.cell? ⟨b,o,none⟩=wr.cell? ⟨b,o,none⟩):=(fun o=>(kept_cell hgr8 (by omega) (fun q hq=>by have:=HQ7.out q hq;omega) o).trans (hk6 o));have hk9:(∀ o,w9.cell? ⟨g,o,none⟩=wr.cell? ⟨g,o,none⟩):=(fun o=>(kept_cell hgr8 (by omega) (fun q hq=>(HQ7.out q hq).2) o).trans (hk7 o))))
       have R8:=RowsI.app HU.out B6.out hbs rfl O6.out hown8 hgr8
       have B8:=(HBR2.out.trans (B6.out.mono hbs)).alloc (by omega) (.cells #[.slice a6 n6 c6] 57)
       have B9:=B8.grown hgr8 (by simp;omega) (fun q hq=>(HQ7.out q hq).1)
       have ba:=(Below.refl w6.heap.size w6).alloc (Nat.le_refl _) (.cells #[.slice a6 n6 c6] 57)
       have S9:=OwnF.grown_ne (OwnF.below (OwnF.below HRS2.out B6.out) ba) ((HU.out.own.below B6.out).below ba) hgr8 (.inr fun e=>(HQ7.out g e.symm).2 rfl)
       have hs9:=hgr8.size
       simp only [World.size_alloc] at hs9 hv8
       have hq9:∀ q,v8.ownBlock=some q→q < w7.heap.size∨w8.heap.size≤q:=fun q hq=>by
        rcases hv8 with h | h
        ·rw [h] at hq;exact hsq.out q hq
        ·rw [h] at hq;simp at hq;omega
       have HQ9:=hide hq9
       go_wp2_with fail
       go_roundw
       case rel=>exact ⟨j+1,by omega,by go_num,by rw [RS.out];exact R8,S9,HQ9,B9,by omega⟩
       case measure=>simp [intOf];omega
      ·obtain rfl:j=rn:=by omega
       rw [List.take_of_length_le (by rw [HRN.out];exact Nat.le_refl _),← PS.out] at hrows
       go_wp2_with fail
       go_roundw
       case rel=>exact ⟨k+1,by omega,by go_num,hrows,hbr⟩
       case measure=>simp [intOf];omega
   ·obtain rfl:k=m:=by omega
    obtain ⟨us,ds,hU⟩:=hrows
    obtain ⟨⟨qa,qn,qc⟩,rfl, -⟩:=hU.own.toSlc
    have hrows:RowsI _ _ _ _:=⟨us,ds,hU⟩
    clear hU
    go_wp2_with fail
    go_ret
    exact ⟨⟨qa,qn,qc⟩,rfl,by rw [HPE.out];exact hrows,hbr⟩
end Go.Proofs.YtfbgppkdnfljhaaGreatDoor
namespace Go.Proofs.YtfbgppkdnfljhaaGreatDoor
open Go.RowKit
theorem Tryz.infoIntSS:(Tryz.prog.info? 58).map (fun i=>(i.zero,i.size,i.bytes))=some (some (.slice none 0 0),1,24):=by kernel_rfl
theorem below_lit2 {w w':World} {l:Array Value} {T:TypeId} {n c:Nat} (hg:(w.alloc (.cells l T)).grownBy w' (Value.slice (some ⟨w.heap.size,0,none⟩) n c).ownBlock):Below w.heap.size w w':=
 ((Below.refl w.heap.size w).alloc (Nat.le_refl _) (.cells l T)).grown hg (by simp) (fun q hq=>by simp [Value.ownBlock] at hq;omega)
def Rany (_ _:Dd):Prop:=True
def PhiO (d:Dd) (W:World) (u:Slc) (o:List (List Int)):Prop:=d.us.length=o.length∧Rep SlcE W u.v d.us∧∀ (i:Nat) (s:Slc) (r:List Int),d.us[i]? = some s→o[i]? = some r→Rep IntE W s.v r
abbrev RowsO (w:World) (base:Nat) (v:Value) (L:List (List (List Int))):Prop:=OwnF SlcE 58 Rany PhiO w base v L
def RowsH (w:World) (lo base:Nat) (v:Value) (L:List (List (List Int))):Prop:=∃ us ds,OwnFU SlcE 58 Rany PhiO us ds w lo v L∧Own SlcE 58 w base v us
theorem PhiO.rep2 {d:Dd} {W:World} {u:Slc} {o:List (List Int)} (h:PhiO d W u o):RepNN W u.v o:=⟨d.us,h.1,h.2.1,h.2.2⟩
theorem PhiO.cons {w:World} {lo lo':Nat} {s f u:Slc} {us:List Slc} {x:List Int} {o:List (List Int)} {a b:Nat} (h1:Own SlcE 57 w lo' s.v (f :: us)) (hlo:lo≤lo') (h2:LocR 58 lo w.heap.size w (fun W=>Rep IntE W f.v x)) (h3:LocR 58 lo w.heap.size w (fun W=>PhiO ⟨a,b,us⟩ W u o)) :
 LocR 58 lo w.heap.size w (fun W=>PhiO ⟨lo,w.heap.size,f :: us⟩ W s (x :: o)):=by
 have h4:=(LocR.own (T:=58) (by decide) h1).wide hlo (Nat.le_refl _) (Nat.le_refl _)
 refine ((h4.and h2).and h3).map fun V ⟨⟨k1,k2⟩,k3⟩=>⟨by simp [k3.1],k1.rep,fun i s' r hs hr => ?_⟩
 cases i with
 | zero=>simp at hs hr;subst hs;subst hr;exact k2
 | succ i=>exact k3.2.2 i s' r (by simpa using hs) (by simpa using hr)
theorem RowsO.row {w:World} {base:Nat} {a:Option Addr} {n c:Nat} {L:List (List (List Int))} (h:RowsO w base (.slice a n c) L) {k:Nat} {o:List (List Int)} (hr:L[k]? = some o) :
 ∃ (u:Slc) (us:List Slc) (g p q:Nat),a=some ⟨g,0,none⟩∧g < w.heap.size∧w.cell? ⟨g,k,none⟩=some (.slice u.a u.n u.cap)∧LocR 58 base w.heap.size w (fun W=>PhiO ⟨p,q,us⟩ W u o):=by
 obtain ⟨us,ds,h⟩:=h
 obtain ⟨u,d,g, -, -,h1, -,h2,h3,hb,h4⟩:=h.at hr
 have h5:=h3 0 _ rfl
 simp only [SlcE,Nat.mul_one,Nat.add_zero] at h5
 exact ⟨u,d.us,g,d.lo,d.hi,h1,h2,h5,h4.wide hb h4.le (Nat.le_refl _)⟩
theorem RowsO.len {w:World} {base:Nat} {a:Option Addr} {n c:Nat} {L:List (List (List Int))} (h:RowsO w base (.slice a n c) L):n=L.length:=by
 rcases h.shape with ⟨h1,h2⟩ | ⟨g,cap,h1, -⟩
 ·simp only [Value.slice.injEq] at h1;rw [h1.2.1,h2];rfl
 ·simp only [Value.slice.injEq] at h1;exact h1.2.1
theorem RowsI.len {w:World} {base:Nat} {a:Option Addr} {n c:Nat} {L:List (List Int)} (h:RowsI w base (.slice a n c) L):n=L.length:=by
 rcases h.shape with ⟨h1,h2⟩ | ⟨g,cap,h1, -⟩
 ·simp only [Value.slice.injEq] at h1;rw [h1.2.1,h2];rfl
 ·simp only [Value.slice.injEq] at h1;exact h1.2.1
theorem RowsH.below {w w':World} {lo base:Nat} {v:Value} {L:List (List (List Int))} (h:RowsH w lo base v L) (hb:Below w.heap.size w w'):RowsH w' lo base v L:=by
 obtain ⟨us,ds,h,k⟩:=h
 exact ⟨us,ds,h.below hb,k.below hb⟩
theorem RowsH.app {us:List Slc} {ds:List Dd} {w w2:World} {lo base:Nat} {v v':Value} {L:List (List (List Int))} (h:OwnFU SlcE 58 Rany PhiO us ds w lo v L) {s:Slc} {d:Dd} {o:List (List Int)} (hlb:lo≤base)
 (hn:LocR 58 d.lo d.hi w (fun W=>PhiO d W s o)) (hd:lo≤d.lo) (ho:Own SlcE 58 w2 base v' (us++[s])) (hg:w.grownBy w2 v.ownBlock):RowsH w2 lo base v' (L++[o]):=
 ⟨us++[s],ds++[d],OwnFU.app h (ho.mono hlb) hg hd hn (fun _ _=>trivial),ho⟩
def ordQ (es:List Ev) (l:Nat) (q:List Int):List (List (List Int)):=(ordsL es (l+1)).map (((wrL es l).headD 0 :: q) :: ·)
theorem ordsL_row {es:List Ev}:∀ (n l:Nat),l+n=3→∀ o∈ordsL es l,o.length=n:=by
 intro n
 induction n with
 | zero =>
  intro l hl o ho
  obtain rfl:l=3:=by omega
  rw [ordsL_end] at ho;simp at ho;subst ho;rfl
 | succ n ih =>
  intro l hl o ho
  rw [ordsL_step (by omega),List.mem_flatMap] at ho
  obtain ⟨q, -,hq⟩:=ho
  rw [List.mem_map] at hq
  obtain ⟨y,hy,rfl⟩:=hq
  rw [List.length_cons,ih (l+1) (by omega) y hy]
theorem l6Orders_any (es:List Ev) (hl:es.length≤1048576) (hords:∀ l,(ordsL es l).length≤3000) (hperms:∀ l:Nat,l < 3→fact (wrL es l).tail.length≤3000) (hwr:∀ l:Nat,l < 3→0 < (wrL es l).length) (n:Nat):∀ (v:Value) (l:Nat) (w:World),l+n=3→Rep EvE w v es →
 Calls Tryz.prog 139 #[v, .int .i64 l] w fun e w' => ∃ u:Slc,e = .returned (.slice u.a u.n u.cap)∧RowsO w' w.heap.size u.v (ordsL es l)∧Below w.heap.size w w':=by
 induction n with
 | zero =>
  intro v l w hi he
  obtain ⟨a,c,rfl, -, -, -, -⟩:=he.open
  obtain rfl:l=3:=by omega
  rw [ordsL_end]
  generalize es.length=m at *
  go_enter Tryz.func139,Tryz.ntmps139
  go_wp2_with fail
  go_ret
  have hb1:=(Below.refl w.heap.size w).alloc (Nat.le_refl _) (.cells #[] 57)
  have h0:=Own.empty (E:=SlcE) 57 w (Nat.le_refl _)
  have hz:(w.alloc (.cells #[] 57)).heap.size=w.heap.size+1:=by simp
  have h1:=Own.lit1 (E:=SlcE) (T:=58) (w.alloc (.cells #[] 57)) (base:=w.heap.size) (by omega) ⟨some ⟨w.heap.size,0,none⟩,0,0⟩
  refine ⟨⟨some ⟨w.heap.size+1,0,none⟩,1,1⟩,rfl,⟨[⟨some ⟨w.heap.size,0,none⟩,0,0⟩],[⟨w.heap.size,w.heap.size+1,[]⟩],rfl,rfl,by simp,by rw [hz] at h1;exact h1,fun i u d x h2 h3 h4 => ?_⟩,hb1.alloc (by omega) _⟩
  cases i with
  | succ i=>simp at h2
  | zero =>
   simp at h2 h3 h4
   subst h2;subst h3;subst h4
   refine ⟨Nat.le_refl _, ?_⟩
   have h5:=(LocR.own (T:=58) (by decide) h0).below ((Below.refl _ (w.alloc (.cells #[] 57))).alloc (Nat.le_refl _) (.cells (SlcE.c ⟨some ⟨w.heap.size,0,none⟩,0,0⟩).toArray 58))
   rw [hz] at h5
   exact h5.map fun V k=>⟨rfl,k.rep,fun i s r hs=>by simp at hs⟩
 | succ n ih =>
  intro v l w hi he
  have hl3:l < 3:=by omega
  have hcast:((l+1:Nat):Int)=(l:Int)+1:=by omega
  have HI:=hide (fun w' h=>ih v (l+1) w' (by omega) h)
  rw [hcast] at HI
  have HW:=hide (fun w' h=>l6Writers_any v es (l:Int) w' h (by omega))
  have HP:=hide (fun v w' h=>l6Perms_any (wrL es l).tail.length v (wrL es l).tail w' rfl (hperms l hl3) h)
  have HPR:=hide (fun r (hr:r∈permsL (wrL es l).tail)=>permsL_row _ (wrL es l).tail rfl r hr)
  have HPN:=hide (Nat.le_trans (permsL_length (wrL es l).tail) (hperms l hl3))
  have HTL:=hide (fact_lt (hperms l hl3))
  have HROW:=hide (fun r (hr:r∈ordsL es (l+1))=>ordsL_row n (l+1) (by omega) r hr)
  have HF1:=hide (hords (l+1));have HF0:=hide (hords l)
  have HST:Hid (ordsL es l=(permsL (wrL es l).tail).flatMap (ordQ es l)):=hide (ordsL_step (es:=es) (l:=l) hl3)
  obtain ⟨x,hx0⟩:=get_of_lt (xs:=wrL es l) (k:=0) (hwr l hl3)
  have HQ:Hid (∀ q,ordQ es l q=(ordsL es (l+1)).map ((x :: q) :: ·)):=hide (fun q=>by
   unfold ordQ
   have:(wrL es l).headD 0=x:=by
    cases h:wrL es l with
    | nil=>rw [h] at hx0;cases hx0
    | cons y ys=>rw [h] at hx0;simpa using hx0
   rw [this])
  have HWLEN:=hide (hwr l hl3)
  have HX0:=hide hx0
  have HE:=hide he
  obtain ⟨a,c,rfl, -, -, -, -⟩:=he.open
  have hl2:(l:Int)≤2:=by omega
  have hgt:decide ((2:Int) < (l:Int))=false:=by simp;omega
  clear he ih hcast hords hperms hwr hx0
  generalize hm:es.length=m at *
  clear hm
  generalize ordsL es l=R at *
  generalize ordsL es (l+1)=RR at *
  generalize ordQ es l=F at *
  generalize wrL es (l:Int)=WR at *
  go_enter Tryz.func139,Tryz.ntmps139
  go_wp2_with fail
  (with_reducible refine (HI.out _ HE.out).mono ?_);rintro e w2 ⟨⟨ra,rn,rc⟩,rfl,ou,hb2⟩
  have HRN:Hid (RR.length=rn):=hide (RowsO.len ou).symm
  have hrb:rn≤3000:=by have:=HRN.out;have:=HF1.out;omega
  have HRR:=hide ou;have HB2:=hide hb2
  have HW2:=hide (HW.out w2 (HE.out.below hb2))
  have hs12:=hb2.size
  clear ou hb2 HI HW
  go_wp2_with fail
  (with_reducible refine HW2.out.mono ?_);rintro e w3 ⟨vw,rfl,ow,hb3⟩
  rcases ow.shape with ⟨rfl,h0⟩ | ⟨gw,wcap,rfl,hgw1,hgw2,hgw3, -⟩
  ·exfalso
   have:=HWLEN.out
   rw [h0] at this;simp at this
  have HWN:Hid (0 < WR.length∧WR.length≤7):=hide ⟨HWLEN.out,by have:=HTL.out;rw [List.length_tail] at this;omega⟩
  have HOW:=hide ow
  have HB3:=hide (HB2.out.trans (hb3.mono HB2.out.size))
  have HRR3:=hide (OwnF.below HRR.out hb3)
  have hwt:WR.tail=WR.drop 1:=by cases WR <;> rfl
  have T1:=hide (ow.rep.dropV (k:=1) HWLEN.out)
  rw [← hwt] at T1
  obtain ⟨wn,hwn⟩:∃ wn,WR.length=wn:=⟨_,rfl⟩
  rw [hwn] at T1 HOW HWN hgw3 ⊢
  have hwn1:1≤wn:=HWN.out.1
  have hwn7:wn≤7:=HWN.out.2
  have h1w:(1:Int)≤(wn:Int):=by omega
  have hwcap:(wn:Int)≤(wcap:Int):=by omega
  have hs23:=hb3.size
  clear ow hb3 HB2 HRR HW2 hwt hwn
  go_upto_region 5 with fail
  go_cut [7] (fun s7 W => ∃ u:Slc,s7 = .slice u.a u.n u.cap∧RowsI W w3.heap.size u.v (permsL WR.tail)∧Below w3.heap.size w3 W)
  case first =>
   by_cases hck:wcap=1
   ·rw [if_pos hck] at T1
    obtain rfl:wn=1:=by omega
    subst hck
    have HC:=hide (HP.out _ w3 T1.out)
    go_wp2_with fail
    (with_reducible refine HC.out.mono ?_);rintro e w4 ⟨u,rfl,ou,hb4⟩
    go_wp2_with fail
    go_meet
    exact ⟨u,rfl,ou,hb4⟩
   ·rw [if_neg hck] at T1
    have HC:=hide (HP.out _ w3 T1.out)
    simp only [Nat.zero_add] at HC
    go_wp2_with fail
    (with_reducible refine HC.out.mono ?_);rintro e w4 ⟨u,rfl,ou,hb4⟩
    go_wp2_with fail
    go_meet
    exact ⟨u,rfl,ou,hb4⟩
  case rest =>
   obtain ⟨⟨pa,pn,pc⟩,rfl,hpr,hbc⟩:=hcut
   have HPLN:Hid ((permsL WR.tail).length=pn):=hide (RowsI.len hpr).symm
   have hpb:pn≤3000:=by have:=HPLN.out;have:=HPN.out;omega
   have HPM:=hide hpr
   have HRC:=hide (OwnF.below HRR3.out hbc)
   have HBC:=hide (HB3.out.trans (hbc.mono HB3.out.size))
   have HOC:=hide (HOW.out.below hbc)
   have hs34:=hbc.size
   clear hpr hbc T1 HRR3 HB3 HOW HP
   generalize permsL WR.tail=PM at *
   go_wp2_with fail
   go_loopw [8,9] (fun s i wr => ∃ k:Nat,k≤pn∧i = .int .i64 k∧RowsH wr w.heap.size wc.heap.size s ((PM.take k).flatMap F)∧Below wc.heap.size wc wr) (fun _ i _=>pn - (intOf i).toNat)
   case atStart=>exact ⟨0,Nat.zero_le _,rfl,⟨[],[],⟨rfl,rfl, .nil,Own.empty _ _ (by omega),fun i u d x h=>by simp at h⟩,Own.empty _ _ (Nat.le_refl _)⟩,(Below.refl _ _).alloc (Nat.le_refl _) _⟩
   case round =>
    obtain ⟨k,hk,rfl,hrows,hbr⟩:=hrel
    by_cases hlt:k < pn
    ·obtain ⟨q,hqk⟩:=get_of_lt (xs:=PM) (k:=k) (by rw [HPLN.out];exact hlt)
     have hltk:=nat_of_lt hlt
     have GS:=hide (flatMap_take_succ F hqk)
     rw [HQ.out q] at GS
     have HGL:Hid (((PM.take k).flatMap F).length≤3000):=hide (by
      have:=flatMap_take_le F PM k
      rw [← HST.out] at this
      exact Nat.le_trans this HF0.out)
     obtain ⟨⟨sa,sn,sc⟩,g,hga,hg,g0,hrep⟩:=RowsI.row (OwnF.below HPM.out hbr) hqk
     have hgc:g < wc.heap.size:=by
      obtain ⟨-,g',hga',hgc, -⟩:=RowsI.row HPM.out hqk
      rw [hga] at hga';simp at hga';omega
     subst hga
     obtain ⟨b',o',hbo,hbf,f0⟩:=(HOC.out.below hbr).rep.int HX0.out
     simp only [Option.some.injEq,Addr.mk.injEq,and_true] at hbo
     obtain ⟨rfl,rfl⟩:=hbo
     simp only [Nat.add_zero] at f0
     have hqr:=HPR.out q (List.mem_of_getElem? hqk)
     have hn1:([x]:List Int).length+q.length≤68719476736:=by
      rw [hqr,List.length_tail]
      have:=HTL.out
      rw [List.length_tail] at this
      simp;omega
     have HRP:=hide (hrep.below ((Below.refl wr.heap.size wr).alloc (Nat.le_refl _) (.cells #[.int .i64 x] 3)).drew)
     have HLT:Hid (Own IntE 3 (wr.alloc (.cells #[.int .i64 x] 3)).drew wr.heap.size (.slice (some ⟨wr.heap.size,0,none⟩) 1 1) [x]):=hide (Own.lit1 (E:=IntE) (T:=3) wr (Nat.le_refl _) x)
     generalize (PM.take k).flatMap F=G at *
     have HRO:=hide hrows;have HBR:=hide hbr
     have h01:0 < wn:=by omega
     clear hrows hbr hqk hrep hqr
     go_wp2_with fail
     go_region_held3 (fun V=>V.cell? ⟨gw,0,none⟩=some (.int .i64 x)∧V.cell? ⟨g,k,none⟩=some (.slice sa sn sc)) ((simp [go_sem, *]))
      (first
       | (refine step_appS IntE 3 Tryz.infoInt rfl Tryz.underlying57 wr.heap.size _ [x] q _ HLT.out HRP.out (by decide) hn1 (by simp) (by rfl) _ _ (by rfl) (by rfl) (by rfl) ?_;intro v6 w6 hown6 hgr6;obtain ⟨⟨a6,n6,c6⟩,rfl, -⟩:=hown6.toSlc;have O6:=hide hown6;have hk6:(∀ o,w6.cell? ⟨gw,o,none⟩=wr.cell? ⟨gw,o,none⟩):=(kept_d hgr6 hbf (fun q hq=>by simp [Value.ownBlock] at hq;omega));have hk7:(∀ o,w6.cell? ⟨g,o,none⟩=wr.cell? ⟨g,o,none⟩):=(kept_d hgr6 hg (fun q hq=>by simp [Value.ownBlock] at hq;omega));have B6:=hide (below_lit hgr6);have hb6:=B6.out.size;have hz6:gw < w6.heap.size:=(Nat.lt_of_lt_of_le hbf hb6);have hz7:g < w6.heap.size:=(Nat.lt_of_lt_of_le hg hb6);clear hown6 hgr6))
     have O6':Hid (Own IntE 3 w6 wc.heap.size (Slc.v ⟨a6,n6,c6⟩) (x :: q)):=hide (O6.out.mono HBR.out.size)
     have HR6:=hide (HRO.out.below B6.out)
     have HB6:=hide (HBR.out.trans (B6.out.mono HBR.out.size))
     clear O6 HRO HBR B6 hb6 hz6 hz7 hk6 hk7 HLT HRP hn1 g0 hg hgc f0 hbf h01
     go_wp2_with fail
     go_loopw [8,11] (fun s i wr => ∃ j:Nat,j≤rn∧i = .int .i64 j∧RowsH wr w.heap.size wc.heap.size s (G++(RR.take j).map ((x :: q) :: ·))∧Below wc.heap.size wc wr∧Own IntE 3 wr wc.heap.size (.slice a6 n6 c6) (x :: q)) (fun _ i _=>rn - (intOf i).toNat)
     case atStart=>exact ⟨0,Nat.zero_le _,rfl,by rw [List.take_zero,List.map_nil,List.append_nil];exact HR6.out,HB6.out,O6'.out⟩
     case round =>
      obtain ⟨j,hj,rfl,hrows,hbr,hfst⟩:=hrel
      by_cases hltj:j < rn
      ·obtain ⟨o,hoj⟩:=get_of_lt (xs:=RR) (k:=j) (by rw [HRN.out];exact hltj)
       have hltj':=nat_of_lt hltj
       obtain ⟨⟨sa,sn,sc⟩,uss,g,p1,p2,hga,hg,g0,hphi⟩:=RowsO.row (OwnF.below HRC.out hbr) hoj
       subst hga
       have RS:Hid (G++(RR.take (j+1)).map ((x :: q) :: ·)=(G++(RR.take j).map ((x :: q) :: ·))++[(x :: q) :: o]):=hide (by rw [map_take_succ ((x :: q) :: ·) hoj,List.append_assoc])
       have hol:=HROW.out o (List.mem_of_getElem? hoj)
       have hlen:(G++(RR.take j).map ((x :: q) :: ·)).length≤68719476736:=by
        rw [List.length_append,List.length_map,List.length_take]
        have:=HGL.out;have:=HRN.out;omega
       have hul:([⟨a6,n6,c6⟩]:List Slc).length+uss.length≤68719476736:=by
        rw [hphi.now.1,hol];simp;omega
       have hla:=(Below.refl wr.heap.size wr).alloc (Nat.le_refl _) (.cells #[.slice a6 n6 c6] 57)
       have HRP:=hide ((hphi.below hla).now.2.1)
       have HLT:Hid (Own SlcE 57 (wr.alloc (.cells #[.slice a6 n6 c6] 57)) wr.heap.size (.slice (some ⟨wr.heap.size,0,none⟩) 1 1) [⟨a6,n6,c6⟩]):=hide (Own.lit1 (E:=SlcE) (T:=57) wr (Nat.le_refl _) ⟨a6,n6,c6⟩)
       obtain ⟨us,ds,hU,hO⟩:=hrows
       have HUL:Hid (us.length≤68719476736):=hide (by rw [hU.lu];exact hlen)
       have HU:=hide hU;have HO:=hide hO
       have HBR:=hide hbr;have HF:=hide hfst;have HPH:=hide hphi
       have hbs:wc.heap.size≤wr.heap.size:=hbr.size
       generalize G++(RR.take j).map ((x :: q) :: ·)=GG at *
       clear hoj hol hlen hla hU hO hbr hfst hphi
       go_wp2_with (first
        | (at_builtin;refine wpList_appS SlcE 57 Tryz.infoIntS rfl Tryz.underlying58 wr.heap.size _ [⟨a6,n6,c6⟩] uss _ HLT.out HRP.out (by decide) hul (by simp) rfl _ _ rfl rfl rfl ?_;intro v7 w7 hown7 hgr7;obtain ⟨⟨a7,n7,c7⟩,rfl, -⟩:=hown7.toSlc;have O7:=hide hown7;have B7:=hide (below_lit2 hgr7);have hb7:=B7.out.size;clear hown7 hgr7)
        | (at_builtin;refine wpList_app SlcE 58 Tryz.infoIntSS rfl Tryz.underlying134 wc.heap.size _ us ⟨a7,n7,c7⟩ ((HO.out.below B7.out).alloc _) (by decide) HUL.out (by simp;omega) rfl _ _ rfl rfl _ 0 1 rfl (news_allocV (by simp)) ?_;intro v8 w8 hown8 hgr8))
       have ba7:=(Below.refl w7.heap.size w7).alloc (Nat.le_refl _) (.cells #[.slice a7 n7 c7] 58)
       have F7:=HF.out.below B7.out
       have P7:=PhiO.cons (w:=w7) (lo:=w.heap.size) (s:=⟨a7,n7,c7⟩) (f:=⟨a6,n6,c6⟩) (us:=uss) (x:=x :: q) (o:=o) O7.out (by omega) (((LocR.own (T:=58) (by decide) F7).wide (by omega) (Nat.le_refl _) (Nat.le_refl _)).map fun V k=>k.rep) ((HPH.out.below B7.out).wide (Nat.le_refl _) hb7 (Nat.le_refl _))
       have R8:=RowsH.app ((HU.out.below B7.out).below ba7) (by omega) (d:=⟨w.heap.size,w7.heap.size,⟨a6,n6,c6⟩ :: uss⟩) (P7.below ba7) (Nat.le_refl _) hown8 hgr8
       have B8:=(HBR.out.trans (B7.out.mono hbs)).alloc (by omega) (.cells #[.slice a7 n7 c7] 58)
       have B9:=B8.grown hgr8 (by simp;omega) (fun q hq=>(World.ownsRow.lt HO.out q hq).1)
       have F8:=(F7.below ba7).grown hgr8 (own_or (by decide) ((HO.out.below B7.out).below ba7) (F7.below ba7))
       go_roundw
       case rel=>exact ⟨j+1,by omega,by go_num,by rw [RS.out];exact R8,B9,F8⟩
       case measure=>simp [intOf];omega
      ·obtain rfl:j=rn:=by omega
       rw [List.take_of_length_le (by rw [HRN.out];exact Nat.le_refl _),← GS.out] at hrows
       go_wp2_with fail
       go_roundw
       case rel=>exact ⟨k+1,by omega,by go_num,hrows,hbr⟩
       case measure=>simp [intOf];omega
    ·obtain rfl:k=pn:=by omega
     obtain ⟨us,ds,hU,hO⟩:=hrows
     obtain ⟨⟨qa,qn,qc⟩,rfl, -⟩:=hU.own.toSlc
     have hrows:RowsO _ _ _ _:=⟨us,ds,hU⟩
     clear hU hO
     go_wp2_with fail
     go_ret
     refine ⟨⟨qa,qn,qc⟩,rfl, ?_, ?_⟩
     ·rw [HST.out]
      have h:=hrows
      rw [List.take_of_length_le (by rw [HPLN.out];exact Nat.le_refl _)] at h
      exact h
     ·exact HBC.out.trans (hbr.mono HBC.out.size)
end Go.Proofs.YtfbgppkdnfljhaaGreatDoor