/-
  AllExecs of both sides, and equality of candidates. Condition: bounds on lengths.
-/
import Derived.Test.YtkfhgnkonaafgaaGreatDoorZs30
import Derived.Test.YtkfhgnkonaafgaaGreatDoorZs05
import Derived.Test.YtkfhgnkonaafgaaGreatDoorZs27
import Derived.Test.YtkfhgnkonaafgaaGreatDoorZs04
import Derived.Test.YtkfhgnkonaafgaaGreatDoorZs10
import Derived.Test.YtkfhgnkonaafgaaGreatDoorZs16
import Derived.Test.YtkfhgnkonaafgaaGreatDoorZs26
import Derived.Test.YtkfhgnkonaafgaaGreatDoorZs11
set_option maxHeartbeats 6400000
set_option maxRecDepth 100000
namespace Go.Proofs.YtkfhgnkonaafgaaGreatDoor
open Go.RowKit
theorem permsL_inner {xs:List Int} {r:List Int} (h:r∈permsL xs):r.length=xs.length:=permsL_mem _ xs rfl r h
theorem allExecs_anyO (v:Value) (p:List (List Ins)) (w:World) (hp:RepP w v p) (hl:p.flatten.length≤1048576) (hpv:progValid p=true) :
 Calls Tryz.prog 58 #[v] w fun e w' => ∃ u:Slc,e = .returned (.slice u.a u.n u.cap)∧RowsXo w' w.heap.size u.v (allX (evAll p))∧Below w.heap.size w w':=by
 have hfew:=few hpv
 have hen:=evAll_le hpv
 have hfc:=fewC hpv (fromsL_ne hpv (evAll p).length 0 (by omega)) (ordsL_ne (evAll p) 3 0 rfl)
 have HE:=hide (fun w' h=>events_any v p w' h hl)
 have HWR:=hide (fun ve l w' h=>writersOf_any ve (evAll p) l w' h (by omega))
 have HOR:=hide (fun v' (l:Nat) (hl3:l < 3) w' h=>orders_any (wrL (evAll p) l).tail.length v' (wrL (evAll p) l).tail w' rfl (hfew.perms l hl3) h)
 have HWP:=hide (fun (l:Nat) hl3=>wrL_pos (p:=p) (l:=l) hl3)
 have HPN:=hide (fun v' w' h=>productN_any v' (chsF (evAll p)) w' h (by rw [chsF_length];omega) (fun c hc=>by have:=chsF_row hc;omega) hfc.fr)
 have HPO:Hid (∀ (Ps:List (List (Slc × List Int))) v' w',chsO (evAll p)=Ps.map (List.map Prod.snd)→Rep2 SlcE w' v' (Ps.map (List.map Prod.fst))→Calls Tryz.prog 102 #[v'] w' fun e w'' => ∃ u:Slc,e = .returned (.slice u.a u.n u.cap)∧RowsG SlcE 24 27 w'' w'.heap.size u.v (prodR (Ps.map (List.map Prod.fst)))∧Below w'.heap.size w' w''):=hide (fun Ps v' w' e h=>by
  have hcl:∀ c∈Ps,c.length≤3000:=fun c hc=>by
   have h1:c.map Prod.snd∈chsO (evAll p):=by rw [e];exact List.mem_map.2 ⟨c,hc,rfl⟩
   obtain ⟨l,hl3,h2⟩:=List.mem_map.1 h1
   have h3:c.length=(chO (evAll p) l).length:=by rw [h2,List.length_map]
   rw [h3]
   unfold chO
   rw [List.length_map]
   exact Nat.le_trans (permsL_length _) (hfew.perms l (List.mem_range.1 hl3))
  have hlen:Ps.length=3:=by have:=congrArg List.length e;rw [chsO_length,List.length_map] at this;exact this.symm
  refine productS_any v' _ w' h (by rw [List.length_map,hlen];decide) (fun c hc => ?_) (fun k => ?_)
  ·obtain ⟨c',hc',rfl⟩:=List.mem_map.1 hc
   rw [List.length_map];have:=hcl c' hc';omega
  ·have h1:=hfc.od k
   rw [e,← List.map_take,prodR_map,List.length_map] at h1
   rw [← List.map_take,prodR_map,List.length_map];exact h1)
 have HA:Hid (allX (evAll p)=(prodR (chsF (evAll p))).flatMap fun f=>(prodR (chsO (evAll p))).map (⟨f,·⟩)):=hide (allX_eq p)
 have HAL:Hid (∀ k,(((prodR (chsF (evAll p))).take k).flatMap fun f=>(prodR (chsO (evAll p))).map (Xc.mk f ·)).length≤3000):=hide (fun k=>by
  have h1:=flatMap_take_le (fun f=>(prodR (chsO (evAll p))).map (Xc.mk f ·)) (prodR (chsF (evAll p))) k
  have h2:=allX_le hpv
  rw [allX_eq] at h2
  omega)
 have HFL:=hide (show (prodR (chsF (evAll p))).length≤3000 by have:=hfc.fr (chsF (evAll p)).length;rwa [List.take_length] at this)
 have HOL:=hide (show (prodR (chsO (evAll p))).length≤3000 by have:=hfc.od (chsO (evAll p)).length;rwa [List.take_length] at this)
 have HFW:=hide (fun r (hr:r∈prodR (chsF (evAll p)))=>show r.length≤1048576 by rw [prodR_row _ r hr,chsF_length];omega)
 have HOW:=hide (fun o (ho:o∈prodR (chsO (evAll p)))=>show o.length≤1048576∧∀ r∈o,r.length≤1048576 by
  refine ⟨by rw [prodR_row _ o ho,chsO_length];decide,fun r hr => ?_⟩
  obtain ⟨c,hc,hr⟩:=prodR_mem _ o ho r hr
  obtain ⟨l, -,rfl⟩:=List.mem_map.1 hc
  obtain ⟨q,hq,rfl⟩:=List.mem_map.1 hr
  have h1:=permsL_inner hq
  have h2:=wrL_length (evAll p) l
  simp at h1 ⊢;omega)
 have HGF:=hide (fun k e (he:(evAll p)[k]? = some e)=>(List.take_add_one (l:=chsF (evAll p)) (i:=k)).trans (by rw [chsF_get he]))
 have HGO:=hide (fun k (hk:k < 3)=>(List.take_add_one (l:=chsO (evAll p)) (i:=k)).trans (by rw [chsO_get (evAll p) hk]))
 have HFT:Hid ((chsF (evAll p)).take (evAll p).length=chsF (evAll p)):=hide (by rw [← chsF_length,List.take_length])
 have HOT:Hid ((chsO (evAll p)).take 3=chsO (evAll p)):=hide (by rw [← chsO_length (evAll p),List.take_length])
 have HCO:Hid (∀ l:Nat,chO (evAll p) l=(permsL (wrL (evAll p) l).tail).map ((l:Int) :: ·)):=hide (fun l=>rfl)
 have HPL:=hide (fun (l:Nat) (hl3:l < 3)=>Nat.le_trans (permsL_length (wrL (evAll p) l).tail) (hfew.perms l hl3))
 have HWL:=hide (wrL_length (evAll p))
 have HP:=hide hp
 obtain ⟨pa,pc,rfl, -,hpn, -, -⟩:=hp.open
 clear hp hfew hpv hfc
 generalize allX (evAll p)=R at *
 generalize hes:evAll p=es at *
 have HEN:Hid (es.length≤15):=hide hen
 clear hes hen
 generalize hpn':p.length=pn at *
 clear hpn'
 go_enter Tryz.func58,Tryz.ntmps58
 go_wp2_with fail
 (with_reducible refine (HE.out _ HP.out).mono ?_);rintro e w2 ⟨ve,rfl,oe,hb2⟩
 have HRE:=hide oe.rep
 obtain ⟨ea,ec,rfl, -, -, -, -⟩:=oe.rep.open
 have HB2:=hide hb2
 clear oe hb2 HE
 generalize hen:es.length=en at *
 have hen15:en≤15:=HEN.out
 have HN:=hide hen
 clear hen
 go_wp2_with fail
 go_loopw [4,22] (fun s i wr => ∃ k:Nat,k≤en∧i = .int .i64 k∧RowsI wr w2.heap.size s ((chsF es).take k)∧Below w2.heap.size w2 wr) (fun _ i _=>en - (intOf i).toNat)
 case atStart=>exact ⟨0,Nat.zero_le _,rfl,by rw [List.take_zero];exact OwnF.nil _ w2 _,Below.refl _ _⟩
 case round =>
  obtain ⟨k,hk,rfl,hrows,hbr⟩:=hrel
  by_cases hlt:k < en
  ·obtain ⟨e,hek⟩:=get_of_lt (xs:=es) (k:=k) (by rw [HN.out];exact hlt)
   obtain ⟨b,o,rfl,hbl,i0,i1,i2,i3,i4⟩:=(HRE.out.below hbr).ev hek
   have hlt':=nat_of_lt hlt
   have GS:=hide (HGF.out k e hek)
   have hlen:((chsF es).take k).length≤68719476736:=by have:=HEN.out;have:=HN.out;rw [List.length_take];omega
   obtain ⟨us,ds,hU⟩:=hrows
   have HUL:Hid (us.length≤68719476736):=hide (by rw [hU.lu];exact hlen)
   have HU:=hide hU
   have HBR:=hide hbr
   have hbs:=hbr.size
   clear hek hU hbr hlen
   obtain ⟨et,ei,el,er,ew⟩:=e
   simp only at i0 i1 i2 i3 i4
   generalize (chsF es).take k=G at *
   cases er
   ·have GS2:Hid ((chsF es).take (k+1)=G++[[-1]]):=hide (by rw [GS.out];rfl)
    have B6:Hid (Below wr.heap.size wr (((wr.alloc (.cells #[.int .i64 k] 3)).alloc (.cells #[.int .i64 et, .int .i64 ei, .int .i64 el, .bool false, .bool ew] 99)).alloc (.cells #[.int .i64 (-1)] 3))):=
     hide ((((Below.refl wr.heap.size wr).alloc (Nat.le_refl _) _).alloc (by simp) _).alloc (by simp;omega) _)
    have O6:Hid (Own IntE 3 (((wr.alloc (.cells #[.int .i64 k] 3)).alloc (.cells #[.int .i64 et, .int .i64 ei, .int .i64 el, .bool false, .bool ew] 99)).alloc (.cells #[.int .i64 (-1)] 3)) wr.heap.size (Slc.v ⟨some ⟨wr.heap.size+1+1,0,none⟩,1,1⟩) [-1]):=hide (by
     have h:=Own.lit1 (E:=IntE) (T:=3) ((wr.alloc (.cells #[.int .i64 k] 3)).alloc (.cells #[.int .i64 et, .int .i64 ei, .int .i64 el, .bool false, .bool ew] 99)) (base:=wr.heap.size) (by simp;omega) (-1)
     simpa [Slc.v,IntE] using h)
    go_wp2_with (at_builtin;refine wpList_appL SlcE 24 Tryz.infoIntS rfl Tryz.underlying27 w2.heap.size _ us ⟨some ⟨wr.heap.size+1+1,0,none⟩,1,1⟩ ((HU.out.own.below B6.out).alloc _) (by decide) HUL.out (by simp;omega) rfl _ _ rfl rfl _ 0 1 rfl (news_allocV (by simp)) ?_;rintro ⟨ua,un,uc⟩ w9 hown8 hgr8 hv8)
    have R8:=RowsI.app HU.out B6.out hbs rfl O6.out hown8 hgr8
    have B8:=(HBR.out.trans (B6.out.mono hbs)).alloc (by simp;omega) (.cells #[.slice (some ⟨wr.heap.size+1+1,0,none⟩) 1 1] 24)
    have B9:=B8.grown hgr8 (by simp;omega) (fun q hq=>(World.ownsRow.lt HU.out.own q hq).1)
    have HR8:=hide R8;have HB9:=hide B9
    clear R8 B9 B8
    go_roundw
    case rel=>exact ⟨k+1,by omega,by go_num,by rw [GS2.out];exact HR8.out,HB9.out⟩
    case measure=>simp [intOf];omega
   ·have GS2:Hid ((chsF es).take (k+1)=G++[(wrL es el).filter (fun x => !(x==(k:Int)))]):=hide (by rw [GS.out];rfl)
    have B5:Hid (Below wr.heap.size wr ((((wr.alloc (.cells #[.int .i64 k] 3)).alloc (.cells #[.int .i64 et, .int .i64 ei, .int .i64 el, .bool true, .bool ew] 99)).alloc (.cells #[.int .i64 (-1)] 3)))):=
     hide ((((Below.refl wr.heap.size wr).alloc (Nat.le_refl _) _).alloc (by simp) _).alloc (by simp;omega) _)
    have HW5:=hide (HWR.out _ el _ (HRE.out.below (HBR.out.trans (B5.out.mono hbs))))
    have C5:Hid (World.cell? ((((wr.alloc (.cells #[.int .i64 k] 3)).alloc (.cells #[.int .i64 et, .int .i64 ei, .int .i64 el, .bool true, .bool ew] 99)).alloc (.cells #[.int .i64 (-1)] 3))) ⟨wr.heap.size,0,none⟩=some (.int .i64 k)):=hide (by
     have h:=heap_alloc_new wr (.cells #[.int .i64 k] 3)
     refine cell_of_heapV (cur:=#[.int .i64 k]) (t:=3) (k:=0) ?_ rfl
     rw [heap_alloc_old _ _ (by simp;omega),heap_alloc_old _ _ (by simp)];exact h)
    go_wp2_with fail
    (with_reducible refine HW5.out.mono ?_);rintro e w5 ⟨v5,rfl,o5,hb5⟩
    have T5:=testsN wr.heap.size k _ C5.out
    have hl5:((wrL es el).length)≤15:=by have:=HWL.out el;have:=HN.out;omega
    have HD:=hide (DeleteFunc_ae ⟨wr.heap.size,0,none⟩ v5 (wrL es el) (fun x=>x==(k:Int)) _ w5 _ o5 (by omega) T5 hb5 (Nat.le_refl _))
    have hb5':=B5.out.trans (hb5.mono B5.out.size)
    have hq5:∀ q,v5.ownBlock=some q→wr.heap.size≤q:=fun q hq=>Nat.le_trans B5.out.size (World.ownsRow.lt o5 q hq).1
    have HB5':=hide hb5';have HQ5:=hide hq5;have HZ5:=hide B5.out.size
    have hs5:=hb5'.size
    obtain ⟨⟨va,vn,vc⟩,rfl, -⟩:=o5.toSlc
    clear hb5 T5 C5 HW5 o5 hb5' hq5
    generalize (wrL es el).filter (fun x => !(x==(k:Int)))=FL at *
    go_wp2_with fail
    (with_reducible refine HD.out.mono ?_);rintro e w6 hdp
    obtain ⟨⟨da,dn,dc⟩,rfl,o6,hg6⟩:=hdp.toSlc
    have B6:=hide (HB5'.out.grown hg6 hs5 (fun q hq=>HQ5.out q hq))
    have O6:=hide (o6.mono HZ5.out)
    have hs6:=B6.out.size
    clear o6 hg6 hdp HD B5 HB5' HQ5 HZ5
    go_wp2_with (at_builtin;refine wpList_appL SlcE 24 Tryz.infoIntS rfl Tryz.underlying27 w2.heap.size _ us ⟨da,dn,dc⟩ ((HU.out.own.below B6.out).alloc _) (by decide) HUL.out (by simp;omega) rfl _ _ rfl rfl _ 0 1 rfl (news_allocV (by simp)) ?_;rintro ⟨ua,un,uc⟩ w9 hown8 hgr8 hv8)
    have R8:=RowsI.app HU.out B6.out hbs rfl O6.out hown8 hgr8
    have B8:=(HBR.out.trans (B6.out.mono hbs)).alloc (by omega) (.cells #[.slice da dn dc] 24)
    have B9:=B8.grown hgr8 (by simp;omega) (fun q hq=>(World.ownsRow.lt HU.out.own q hq).1)
    have HR8:=hide R8;have HB9:=hide B9
    clear R8 B9 B8
    go_roundw
    case rel=>exact ⟨k+1,by omega,by go_num,by rw [GS2.out];exact HR8.out,HB9.out⟩
    case measure=>simp [intOf];omega
  ·obtain rfl:k=en:=by omega
   rw [HFT.out] at hrows
   obtain ⟨us,ds,hU⟩:=hrows
   have hfr:=RowsI.loc (T:=29) ⟨us,ds,hU⟩ (by decide) (by decide)
   obtain ⟨⟨fa,fn,fc⟩,rfl, -⟩:=hU.own.toSlc
   have HFR:=hide hfr.now
   have HBW:=hide (HB2.out.trans (hbr.mono HB2.out.size))
   have HRW:=hide (HRE.out.below hbr)
   have HWW:Hid (w.heap.size≤wr.heap.size):=hide HBW.out.size
   clear hU hfr hbr HB2 HRE HGF HFT
   obtain ⟨w8,hw8⟩:∃ w8:World,w8=wr:=⟨_,rfl⟩
   subst hw8
   go_wp2_with fail
   go_loopw [8,41] (fun s i W => ∃ l:Nat,l≤3∧i = .int .i64 l∧RowsO W w8.heap.size s ((chsO es).take l)∧Below w8.heap.size w8 W) (fun _ i _=>3 - (intOf i).toNat)
   case atStart=>exact ⟨0,by omega,rfl,by rw [List.take_zero];exact OwnF.nil _ w8 _,Below.refl _ _⟩
   case round =>
    obtain ⟨l,hl3,rfl,hrows,hbr⟩:=hrel
    by_cases hlt:l < 3
    ·have hlt':=nat_of_lt hlt
     have GS:=hide (HGO.out l hlt)
     have HW5:=hide (HWR.out _ (l:Int) _ (HRW.out.below hbr))
     have HO5:=hide (fun v' w' h=>HOR.out v' l hlt w' h)
     have HWP5:=hide (HWP.out l hlt)
     have HPL5:=hide (HPL.out l hlt)
     have HC5:=hide (HCO.out l)
     have hl15:(wrL es l).length≤15:=by have:=HWL.out l;have:=HN.out;omega
     obtain ⟨us,ds,hU⟩:=hrows
     have hUL:us.length≤3:=by rw [hU.lu,List.length_take];omega
     have HU:=hide hU
     have HBR:=hide hbr
     have hbs:=hbr.size
     clear hU hbr
     generalize (chsO es).take l=G at *
     generalize hwr:wrL es l=WR at *
     clear hwr
     go_upto_region 16 with fail
     go_cut [48,49,50] (fun s48 s49 s50 W => ∃ u:Slc,s48 = .slice u.a u.n u.cap∧s49 = .int .i64 u.n∧s50 = .int .i64 0∧(∃ B,RowsI W B u.v (permsL WR.tail)∧wr.heap.size≤B)∧Below wr.heap.size wr W)
     case first =>
      go_wp2_with fail
      (with_reducible refine HW5.out.mono ?_);rintro e w3 ⟨vw,rfl,ow,hb3⟩
      rcases ow.shape with ⟨rfl,h0⟩ | ⟨gw,wcap,rfl,hgw1,hgw2,hgw3, -⟩
      ·exfalso
       have:=HWP5.out
       rw [h0] at this;simp at this
      have hwt:WR.tail=WR.drop 1:=by cases WR <;> rfl
      have T1:=hide (ow.rep.dropV (k:=1) HWP5.out)
      rw [← hwt] at T1
      have hw0:=HWP5.out
      obtain ⟨wn,hwn⟩:∃ wn,WR.length=wn:=⟨_,rfl⟩
      rw [hwn] at T1 hgw3 hl15 hw0 ⊢
      have h1w:(1:Int)≤(wn:Int):=by omega
      have hwcap:(wn:Int)≤(wcap:Int):=by omega
      have HB3:=hide hb3
      have hs3:=hb3.size
      clear ow hb3 hwt hwn HW5
      by_cases hck:wcap=1
      ·rw [if_pos hck] at T1
       obtain rfl:wn=1:=by omega
       subst hck
       have HC:=hide (HO5.out _ w3 T1.out)
       go_wp2_with fail
       (with_reducible refine HC.out.mono ?_);rintro e w4 ⟨u,rfl,ou,hb4⟩
       go_wp2_with fail
       go_meet
       exact ⟨u,rfl,rfl,rfl,⟨_,ou,hs3⟩,HB3.out.trans (hb4.mono hs3)⟩
      ·rw [if_neg hck] at T1
       have HC:=hide (HO5.out _ w3 T1.out)
       simp only [Nat.zero_add] at HC
       go_wp2_with fail
       (with_reducible refine HC.out.mono ?_);rintro e w4 ⟨u,rfl,ou,hb4⟩
       go_wp2_with fail
       go_meet
       exact ⟨u,rfl,rfl,rfl,⟨_,ou,hs3⟩,HB3.out.trans (hb4.mono hs3)⟩
     case rest =>
      obtain ⟨⟨qa,qn,qc⟩,rfl,rfl,rfl,⟨B5,hq,hB5⟩,hbq⟩:=hcut
      have HBQ:=hide (HBR.out.trans (hbq.mono hbs))
      have HBQ1:=hide hbq
      have hbz:=hbq.size
      have HPN5:Hid ((permsL WR.tail).length=qn):=hide (RowsI.len hq).symm
      have HPR:Hid (∀ r∈permsL WR.tail,r.length≤15):=hide (fun r hr=>by have:=permsL_inner hr;rw [List.length_tail] at this;omega)
      have HQ:=hide hq
      have hqn:qn≤3000:=by have:=HPL5.out;have:=HPN5.out;omega
      clear hq hbq HW5 HO5 HWP5 HPL5 hl15
      rw [HC5.out] at GS
      generalize permsL WR.tail=PM at *
      clear HC5
      obtain ⟨w9,hw9⟩:∃ w9:World,w9=wr:=⟨_,rfl⟩
      subst hw9
      go_wp2_with fail
      go_loopw [10,50] (fun s i W => ∃ j:Nat,j≤qn∧i = .int .i64 j∧RowsI W wc.heap.size s ((PM.take j).map ((l:Int) :: ·))∧Below wc.heap.size wc W) (fun _ i _=>qn - (intOf i).toNat)
      case atStart=>exact ⟨0,Nat.zero_le _,rfl,by rw [List.take_zero];exact OwnF.nil _ wc _,Below.refl _ _⟩
      case round =>
       obtain ⟨j,hj,rfl,hrows,hbr⟩:=hrel
       by_cases hltj:j < qn
       ·obtain ⟨r,hrj⟩:=get_of_lt (xs:=PM) (k:=j) (by rw [HPN5.out];exact hltj)
        have hltj':=nat_of_lt hltj
        obtain ⟨⟨sa,sn,sc⟩,g,hga,hg,g0,hrep⟩:=RowsI.row (OwnF.below HQ.out hbr) hrj
        subst hga
        have RS:Hid ((PM.take (j+1)).map ((l:Int) :: ·)=(PM.take j).map ((l:Int) :: ·)++[(l:Int) :: r]):=hide (map_take_succ ((l:Int) :: ·) hrj)
        have hrl:=HPR.out r (List.mem_of_getElem? hrj)
        have hlen:((PM.take j).map ((l:Int) :: ·)).length≤68719476736:=by
         rw [List.length_map,List.length_take];omega
        have hn1:([(l:Int)]:List Int).length+r.length≤68719476736:=by simp;omega
        have HRP:=hide (hrep.below ((Below.refl wr.heap.size wr).alloc (Nat.le_refl _) (.cells #[.int .i64 l] 3)))
        obtain ⟨us2,ds2,hU2⟩:=hrows
        have HUL2:Hid (us2.length≤68719476736):=hide (by rw [hU2.lu];exact hlen)
        have HU2:=hide hU2
        have HBR2:=hide hbr
        have HLT:Hid (Own IntE 3 (wr.alloc (.cells #[.int .i64 l] 3)) wr.heap.size (.slice (some ⟨wr.heap.size,0,none⟩) 1 1) [(l:Int)]):=hide (Own.lit1 (E:=IntE) (T:=3) wr (Nat.le_refl _) (l:Int))
        have hbs2:=hbr.size
        generalize (PM.take j).map ((l:Int) :: ·)=GG at *
        clear hrj hrep hbr hrl hU2 hlen
        go_wp2_with (at_builtin;first
         | (refine wpList_appS IntE 3 Tryz.infoInt rfl Tryz.underlying24 wr.heap.size _ [(l:Int)] r _ HLT.out HRP.out (by decide) hn1 (by simp) rfl _ _ rfl rfl rfl ?_;intro v6 w6 hown6 hgr6;obtain ⟨⟨a6,n6,c6⟩,rfl, -⟩:=hown6.toSlc;have O6:=hide hown6;have B6:=hide (((Below.refl wr.heap.size wr).alloc (Nat.le_refl _) (.cells #[.int .i64 l] 3)).grown hgr6 (by simp) (fun q hq=>by simp [Value.ownBlock] at hq;omega));have hb6:=B6.out.size;clear hown6 hgr6)
         | (refine wpList_appL SlcE 24 Tryz.infoIntS rfl Tryz.underlying27 wc.heap.size _ us2 ⟨a6,n6,c6⟩ ((HU2.out.own.below B6.out).alloc _) (by decide) HUL2.out (by simp;omega) rfl _ _ rfl rfl w6.heap.size 0 1 rfl news_alloc ?_;rintro ⟨ua,un,uc⟩ wx hown8 hgr8 hv8))
        have R8:=RowsI.app HU2.out B6.out hbs2 rfl O6.out hown8 hgr8
        have B8:=(HBR2.out.trans (B6.out.mono hbs2)).alloc (by omega) (.cells #[.slice a6 n6 c6] 24)
        have B9:=B8.grown hgr8 (by simp;omega) (fun q hq=>(World.ownsRow.lt HU2.out.own q hq).1)
        have HR8:=hide R8;have HB9:=hide B9
        clear R8 B9 B8
        go_roundw
        case rel=>exact ⟨j+1,by omega,by go_num,by rw [RS.out];exact HR8.out,HB9.out⟩
        case measure=>simp [intOf];omega
       ·obtain rfl:j=qn:=by omega
        rw [List.take_of_length_le (by rw [HPN5.out];exact Nat.le_refl _)] at hrows
        have hown:=hrows
        obtain ⟨us2,ds2,hU2⟩:=hown
        obtain ⟨⟨ca,cn,cc⟩,rfl, -⟩:=hU2.own.toSlc
        have HRO:=hide hrows
        have HBR2:=hide (HBQ1.out.trans (hbr.mono hbz))
        have hbs2:=HBR2.out.size
        have HUL:Hid (us.length≤68719476736):=hide (by omega)
        clear hrows hU2 hbr
        go_wp2_with (at_builtin;refine wpList_appL SlcE 27 Tryz.infoIntSS rfl Tryz.underlying132 w8.heap.size _ us ⟨ca,cn,cc⟩ ((HU.out.own.below HBR2.out).alloc _) (by decide) HUL.out (by simp;omega) rfl _ _ rfl rfl _ 0 1 rfl (news_allocV (by simp)) ?_;rintro ⟨ua,un,uc⟩ wx hown8 hgr8 hv8)
        have R8:=RowsO.app HU.out HBR2.out (show w8.heap.size≤wc.heap.size by omega) HRO.out hown8 hgr8
        have B8:=(HBR.out.trans (HBR2.out.mono hbs)).alloc (by omega) (.cells #[.slice ca cn cc] 27)
        have B9:=B8.grown hgr8 (by simp;omega) (fun q hq=>(World.ownsRow.lt HU.out.own q hq).1)
        have HR8:=hide R8;have HB9:=hide B9
        clear R8 B9 B8
        go_roundw
        case rel=>exact ⟨l+1,by omega,by go_num,by rw [GS.out];exact HR8.out,HB9.out⟩
        case measure=>simp [intOf];omega
    ·obtain rfl:l=3:=by omega
     rw [HOT.out] at hrows
     obtain ⟨Ps,hPs,hrep2,hreads⟩:=hrows.pairs
     obtain ⟨qa,qc,rfl, -, -, -,hrep2⟩:=hrep2.open
     obtain ⟨w9,hw9⟩:∃ w9:World,w9=wr:=⟨_,rfl⟩
     subst hw9
     have HPS:=hide hPs;have HRP2:=hide hrep2;have HRD:=hide hreads
     have HPO1:=hide (fun v' w' h=>HPO.out Ps v' w' hPs h)
     have HPN1:=hide (HPN.out _ _ (HFR.out.below hbr))
     have HBW9:=hide (HBW.out.trans (hbr.mono HWW.out))
     clear hrows hPs hrep2 hreads HPN HPO HFR hbr HRW HGO HOT HCO HPL HWL HOR HWP HWR HBW HWW
     generalize (Ps.map (List.map Prod.fst)).length=ql at *
     generalize prodR (chsF es)=FS at *
     go_wp2_with fail
     (with_reducible refine HPN1.out.mono ?_);rintro e w10 ⟨⟨xa,xn,xc⟩,rfl,hfs,hb10⟩
     have HFN:Hid (FS.length=xn):=hide (RowsG.len hfs).symm
     have HFS:=hide hfs
     have HB10:=hide (HBW9.out.trans (hb10.mono HBW9.out.size))
     have HRP3:=hide (HRP2.out.below hb10);have HRD3:=hide (HRD.out.below hb10)
     have hxn:xn≤3000:=by have:=HFN.out;have:=HFL.out;omega
     clear hfs hb10 HPN1 HBW9 HRP2 HRD
     go_wp2_with fail
     go_loopw [13,70] (fun s i W => ∃ k:Nat,k≤xn∧i = .int .i64 k∧RowsXo W w10.heap.size s ((FS.take k).flatMap fun f=>(prodR (chsO es)).map (⟨f,·⟩))∧Below w10.heap.size w10 W) (fun _ i _=>xn - (intOf i).toNat)
     case atStart=>exact ⟨0,Nat.zero_le _,rfl,OwnF.nil _ w10 _,Below.refl _ _⟩
     case round =>
      obtain ⟨k2,hk2,rfl,hrows,hbr⟩:=hrel
      by_cases hltk:k2 < xn
      ·obtain ⟨x,hxk⟩:=get_of_lt (xs:=FS) (k:=k2) (by rw [HFN.out];exact hltk)
       have hltk':=nat_of_lt hltk
       obtain ⟨⟨sa,sn,sc⟩,g,hga,hg',g0',hrep⟩:=RowsG.row HFS.out hxk
       subst hga
       have g0:=(hbr.cell (p:=⟨g,k2,none⟩) hg').trans g0'
       have hg:g < wr.heap.size:=Nat.lt_of_lt_of_le hg' hbr.size
       have GS:=hide (flatMap_take_succ (fun f=>(prodR (chsO es)).map (Xc.mk f ·)) hxk)
       have HGL:=hide (HAL.out k2)
       have HXL:=hide (HFW.out x (List.mem_of_getElem? hxk))
       have HRO:=hide hrows;have HBR:=hide hbr;have HSX:=hide hrep
       have HPO2:=hide (HPO1.out _ _ (HRP3.out.below hbr))
       have hbs:=hbr.size
       generalize ((FS.take k2).flatMap fun f=>(prodR (chsO es)).map (Xc.mk f ·))=G at *
       obtain ⟨w11,hw11⟩:∃ w11:World,w11=wr:=⟨_,rfl⟩
       subst hw11
       clear hrows hbr hxk hrep
       go_wp2_with fail
       (with_reducible refine HPO2.out.mono ?_);rintro e w12 ⟨⟨ya,yn,yc⟩,rfl,hos,hb12⟩
       have hyn:yn=(prodR (chsO es)).length:=by
        have h1:=RowsG.len hos
        rw [prodR_map,List.length_map] at h1
        rw [HPS.out,prodR_map,List.length_map];exact h1
       have HLO12:=hide (RowsG.loc (T':=29) (by decide) (by decide) hos)
       have HON:=hide hyn
       have HB12:=hide (HBR.out.trans (hb12.mono hbs))
       have HRO12:=hide (OwnF.below HRO.out hb12)
       have hon:yn≤3000:=by have:=HOL.out;omega
       have hb12s:=hb12.size
       have HB11:=hide hb12
       clear hos hyn hb12 HRO HPO2 g0'
       go_wp2_with fail
       go_loopw [13,77] (fun s i W => ∃ j:Nat,j≤yn∧i = .int .i64 j∧RowsXo W w10.heap.size s (G++((prodR (chsO es)).take j).map (Xc.mk x ·))∧Below w10.heap.size w10 W∧Hid (LocR 29 w11.heap.size w12.heap.size W (fun V => ∀ (k:Nat) (r:List Slc),(prodR (Ps.map (List.map Prod.fst)))[k]? = some r→∃ (u:Slc) (g:Nat),ya=some ⟨g,0,none⟩∧g < V.heap.size∧V.cell? ⟨g,k,none⟩=some (.slice u.a u.n u.cap)∧Rep SlcE V u.v r))) (fun _ i _=>yn - (intOf i).toNat)
       case atStart=>exact ⟨0,Nat.zero_le _,rfl,by rw [List.take_zero,List.map_nil,List.append_nil];exact HRO12.out,HB12.out,HLO12⟩
       case round =>
        obtain ⟨j,hj,rfl,hrows,hbr,hloc⟩:=hrel
        by_cases hltj:j < yn
        ·obtain ⟨o,hoj⟩:=get_of_lt (xs:=prodR (chsO es)) (k:=j) (by rw [← HON.out];exact hltj)
         have hltj':=nat_of_lt hltj
         obtain ⟨r,hr1,hr2,hr3⟩:=prodR_read (HRD3.out.below hbr) (by rw [← HPS.out];exact hoj)
         obtain ⟨⟨ta,tn,tc⟩,g2,hga2,hg2,h0,hsr⟩:=hloc.out.now j r hr1
         subst hga2
         have hX:RepX wr (.slice sa sn sc) (.slice ta tn tc) ⟨x,o⟩:=⟨HSX.out.below hbr,r,hr2,hsr,hr3⟩
         have hlo:=HOW.out o (List.mem_of_getElem? hoj)
         have HC:=hide (cloneExec_any _ _ ⟨x,o⟩ wr hX HXL.out hlo.1 hlo.2)
         have RS:Hid (G++((prodR (chsO es)).take (j+1)).map (Xc.mk x ·)=(G++((prodR (chsO es)).take j).map (Xc.mk x ·))++[⟨x,o⟩]):=hide (by rw [map_take_succ (Xc.mk x ·) hoj,List.append_assoc])
         have hlen:(G++((prodR (chsO es)).take j).map (Xc.mk x ·)).length≤68719476736:=by
          rw [List.length_append,List.length_map,List.length_take]
          have:=HGL.out;omega
         obtain ⟨us,ds,hU⟩:=hrows
         have HUL:Hid (us.length≤68719476736):=hide (by rw [hU.lu];exact hlen)
         have HU:=hide hU;have HBR5:=hide hbr
         have hbs5:w10.heap.size≤wr.heap.size:=hbr.size
         generalize G++((prodR (chsO es)).take j).map (Xc.mk x ·)=GG at *
         clear hoj hlen hU hbr hX hr1 hr2 hr3 hsr hlo
         go_wp2_with fail
         (with_reducible refine HC.out.mono ?_);rintro e w6 ⟨⟨f1,f2,f3⟩,⟨o1,o2,o3⟩,rfl,hof,hb6⟩
         have HLO:=hide hof;have B6:=hide hb6
         have hb7:=hb6.size
         clear hof hb6 HC
         go_wp2_with (at_builtin;refine wpList_appL XE 29 Tryz.infoExecY rfl Tryz.underlying54 w10.heap.size _ us ⟨⟨f1,f2,f3⟩,⟨o1,o2,o3⟩⟩ ((HU.out.own.below B6.out).alloc _) (by decide) HUL.out (by simp;omega) rfl _ _ rfl rfl _ 0 1 rfl (news_allocV (by simp)) ?_;rintro ⟨ua,un,uc⟩ wx hown8 hgr8 hv8)
         have R8:=RowsXo.app HU.out B6.out hbs5 (s:=⟨⟨f1,f2,f3⟩,⟨o1,o2,o3⟩⟩) (x:=⟨x,o⟩) HLO.out hown8 hgr8
         have ba:=(Below.refl w6.heap.size w6).alloc (Nat.le_refl _) (.cells #[.slice f1 f2 f3, .slice o1 o2 o3] 29)
         have L8:=((hloc.out.below B6.out).below ba).grown ((HU.out.own.below B6.out).below ba) hgr8
         have B8:=(HBR5.out.trans (B6.out.mono hbs5)).alloc (by omega) (.cells #[.slice f1 f2 f3, .slice o1 o2 o3] 29)
         have B9:=B8.grown hgr8 (by simp;omega) (fun q hq=>(World.ownsRow.lt HU.out.own q hq).1)
         have HR8:=hide R8;have HB9:=hide B9;have HL8:=hide L8
         clear R8 B8 B9 L8 ba
         go_roundw
         case rel=>exact ⟨j+1,by omega,by go_num,by rw [RS.out];exact HR8.out,HB9.out,HL8⟩
         case measure=>simp [intOf];omega
        ·obtain rfl:j=yn:=by omega
         rw [List.take_of_length_le (by rw [HON.out];exact Nat.le_refl _),← GS.out] at hrows
         go_wp2_with fail
         go_roundw
         case rel=>exact ⟨k2+1,by omega,by go_num,hrows,hbr⟩
         case measure=>simp [intOf];omega
      ·obtain rfl:k2=xn:=by omega
       obtain ⟨us,ds,hU⟩:=hrows
       obtain ⟨⟨ra,rn,rc⟩,rfl, -⟩:=hU.own.toSlc
       have hrows:RowsXo _ _ _ _:=⟨us,ds,hU⟩
       clear hU
       go_wp2_with fail
       go_ret
       refine ⟨⟨ra,rn,rc⟩,rfl, ?_, ?_⟩
       ·rw [HA.out]
        have h:=hrows
        rw [List.take_of_length_le (by rw [HFN.out];exact Nat.le_refl _)] at h
        exact h.mono HB10.out.size
       ·exact HB10.out.trans (hbr.mono HB10.out.size)
end Go.Proofs.YtkfhgnkonaafgaaGreatDoor
namespace Go.Proofs.YtkfhgnkonaafgaaGreatDoor
open Go.RowKit
end Go.Proofs.YtkfhgnkonaafgaaGreatDoor