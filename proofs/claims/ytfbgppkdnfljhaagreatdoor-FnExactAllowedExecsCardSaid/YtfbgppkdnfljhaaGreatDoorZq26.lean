/-
  Arguments that are programs and models, as the laws take them.
-/
import Derived.Test.YtfbgppkdnfljhaaGreatDoorZq22
import Derived.Test.YtfbgppkdnfljhaaGreatDoorZq16
import Derived.Test.YtfbgppkdnfljhaaGreatDoorZq23
import Derived.Test.YtfbgppkdnfljhaaGreatDoorZq06
import Derived.Test.YtfbgppkdnfljhaaGreatDoorZq07
import Derived.Test.YtfbgppkdnfljhaaGreatDoorZq20
import Derived.Test.YtfbgppkdnfljhaaGreatDoorZq00
set_option maxHeartbeats 6400000
set_option maxRecDepth 100000
namespace Go.Proofs.YtfbgppkdnfljhaaGreatDoor
open Go.RowKit
theorem l6Reg_any (vp ve:Value) (p:List (List Ins)) (es:List Ev) (hes:es=evAll p) (t idx reg:Int) (w:World) (hp:RepP w vp p) (he:Rep EvE w ve es) (hl:es.length≤1048676) :
 Calls Tryz.prog 191 #[vp,ve, .int .i64 t, .int .i64 idx, .int .i64 reg] w fun e w'=>e = .returned (.int .i64 (lastRd p es t idx reg))∧Below w.heap.size w w':=by
 obtain ⟨ea,ec,rfl, -, -, -,he'⟩:=he.open
 obtain ⟨pa,pc,rfl, -, -, -,hp'⟩:=hp.open
 have HP:=hide hp';have HE:=hide he'
 have HER:=hide (fun k e h hr=>ev_read (p:=p) (k:=k) (e:=e) (hes ▸ h) hr)
 have HR:Hid (lastRd p es t idx reg=lastTo p es t idx reg es.length):=hide rfl
 have HS:=hide (fun k e h=>lastTo_succ p (es:=es) t idx reg (k:=k) (e:=e) h)
 have H0:Hid (lastTo p es t idx reg 0 = -1):=hide rfl
 clear hes hp he hp' he'
 generalize lastRd p es t idx reg=R at *
 generalize hn:es.length=n at *
 have H:=hide hn;clear hn
 go_enter Tryz.func191,Tryz.ntmps191
 go_wp2_with fail
 go_loopw [11,12] (fun l i wr => ∃ k:Nat,k≤n∧i = .int .i64 k∧l = .int .i64 (lastTo p es t idx reg k)∧Below w.heap.size w wr) (fun _ i _=>n - (intOf i).toNat)
 case atStart=>exact ⟨0,Nat.zero_le _,rfl,by rw [H0.out],Below.refl _ _⟩
 case round =>
  obtain ⟨k,hk,rfl,rfl,hb⟩:=hrel
  by_cases hlt:k < n
  ·obtain ⟨e,hek⟩:=get_of_lt (xs:=es) (k:=k) (by rw [H.out];exact hlt)
   obtain ⟨b,o,rfl,hbl,i0,i1,i2,i3,i4⟩:=(HE.out.below hb).ev hek
   have hlt':=nat_of_lt hlt
   have S:=hide (HS.out k e hek)
   have ER:=hide (fun hr=>HER.out k e hek hr)
   have HH:Hid (hitR p t idx reg e=((e.t==t)&&(decide (e.i < idx)&&(e.r&&((insE p e).reg==reg))))):=hide rfl
   have HBA:=hide (hb.alloc hb.size (.cells #[.int .i64 e.t, .int .i64 e.i, .int .i64 e.l, .bool e.r, .bool e.w] 130))
   clear hek
   generalize lastTo p es t idx reg k=G at *
   by_cases g1:e.t=t
   ·have k1:(e.t==t)=true:=by simp [g1]
    by_cases g2:e.i < idx
    ·have k2:decide (e.i < idx)=true:=by simp [g2]
     cases her:e.r
     ·have S2:Hid (lastTo p es t idx reg (k+1)=G):=hide (by rw [S.out,HH.out,her];simp)
      rw [her] at i3 HBA
      subst g1
      clear g2 HH ER S her
      go_wp2_with fail
      refine wp_region_bw (by kernel_rfl) (by kernel_rfl) ?_
      repeat (go_big_quiet_step (fail))
      refine wpQuiet_nil ?_
      intro w1 hb1
      go_wp2_with fail
      go_roundw
      case rel=>exact ⟨k+1,by omega,by go_num,by rw [S2.out],HBA.out.trans (hb1.mono HBA.out.size)⟩
      case measure=>simp [intOf];omega
     ·obtain ⟨t',i',r,ht,hi,hpt,hri⟩:=ER.out her
      obtain ⟨b2,o2,ra,rc,rfl,hbl2,q0,q1⟩:=(HP.out.below hb).row hpt
      obtain ⟨b3,o3,rfl,hbl3,r0,r1,r2,r3⟩:=q1.ins hri
      have htn:(t':Int) < (p.length:Int):=by have:=(List.getElem?_eq_some_iff.1 hpt).1;omega
      have hin:(i':Int) < (r.length:Int):=by have:=(List.getElem?_eq_some_iff.1 hri).1;omega
      have HG1:=hide g1;have HT:=hide ht;have HI:=hide hi
      have HRG:Hid ((insE p e).reg=(insE p e).reg):=hide rfl
      rw [her] at i3 HBA HH
      obtain ⟨et,ei,el,er,ew⟩:=e
      simp only at ht hi g1 k1 k2 g2 i0 i1 i2 i3 i4 her
      subst her
      subst ht
      subst hi
      subst g1
      generalize hins:insE p ⟨(t':Int),(i':Int),el,true,ew⟩=ix at *
      clear hins hpt hri q1 ER HG1 HT HI HRG
      by_cases g3:ix.reg=reg
      ·have k3:(ix.reg==reg)=true:=by simp [g3]
       have S2:Hid (lastTo p es (t':Int) idx reg (k+1)=(k:Int)):=hide (by rw [S.out,HH.out,k3,k2];simp)
       clear g3 S HH k1
       go_wp2_with fail
       refine wp_region_bw (by kernel_rfl) (by kernel_rfl) ?_
       repeat (go_big_quiet_step (fail))
       refine wpQuiet_nil ?_
       intro w1 hb1
       go_wp2_with fail
       go_roundw
       case rel=>exact ⟨k+1,by omega,by go_num,by rw [S2.out],HBA.out.trans (hb1.mono HBA.out.size)⟩
       case measure=>simp [intOf];omega
      ·have k3:(ix.reg==reg)=false:=by simp [g3]
       have S2:Hid (lastTo p es (t':Int) idx reg (k+1)=G):=hide (by rw [S.out,HH.out,k3];simp)
       clear g3 S HH k1
       go_wp2_with fail
       refine wp_region_bw (by kernel_rfl) (by kernel_rfl) ?_
       repeat (go_big_quiet_step (fail))
       refine wpQuiet_nil ?_
       intro w1 hb1
       go_wp2_with fail
       go_roundw
       case rel=>exact ⟨k+1,by omega,by go_num,by rw [S2.out],HBA.out.trans (hb1.mono HBA.out.size)⟩
       case measure=>simp [intOf];omega
    ·have k2:decide (e.i < idx)=false:=by simp [g2]
     have S2:Hid (lastTo p es t idx reg (k+1)=G):=hide (by rw [S.out,HH.out,k2];simp)
     subst g1
     clear g2 HH ER S
     go_wp2_with fail
     refine wp_region_bw (by kernel_rfl) (by kernel_rfl) ?_
     repeat (go_big_quiet_step (fail))
     refine wpQuiet_nil ?_
     intro w1 hb1
     go_wp2_with fail
     go_roundw
     case rel=>exact ⟨k+1,by omega,by go_num,by rw [S2.out],HBA.out.trans (hb1.mono HBA.out.size)⟩
     case measure=>simp [intOf];omega
   ·have k1:(e.t==t)=false:=by simp [g1]
    have S2:Hid (lastTo p es t idx reg (k+1)=G):=hide (by rw [S.out,HH.out,k1];simp)
    clear g1
    generalize hitR p t idx reg e=hh at *
    clear HH S ER
    go_wp2_with fail
    refine wp_region_bw (by kernel_rfl) (by kernel_rfl) ?_
    repeat (go_big_quiet_step (fail))
    refine wpQuiet_nil ?_
    intro w1 hb1
    go_wp2_with fail
    go_roundw
    case rel=>exact ⟨k+1,by omega,by go_num,by rw [S2.out],HBA.out.trans (hb1.mono HBA.out.size)⟩
    case measure=>simp [intOf];omega
  ·have e:k=n:=by omega
   subst e
   go_wp2_with fail
   go_ret
   exact ⟨by rw [HR.out];rfl,hb⟩
theorem l6Write_any (vp ve vf vo vk:Value) (p:List (List Ins)) (es:List Ev) (hes:es=evAll p) (x:Xc) (i:Nat) (K:List Int) (w:World) (hp:RepP w vp p) (he:Rep EvE w ve es) (hx:RepX w vf vo x) (hk:Rep IntE w vk K) (hok:fromsOk es x.fr es.length=true) (hi:i < es.length) (hKl:K.length=es.length) (hl:es.length≤1048676) :
 Calls Tryz.prog 141 #[vp,ve, .agg #[vf,vo], .int .i64 i,vk] w fun e w'=>e = .returned (.int .i64 (linkV (depV p es x.fr) K i))∧Below w.heap.size w w':=by
 have HLR:=hide (fun t idx reg w' h h'=>l6Reg_any vp ve p es hes t idx reg w' h h' hl)
 have HP0:=hide hp;have HE0:=hide he
 obtain ⟨e,hek⟩:=get_of_lt (xs:=es) (k:=i) hi
 have hcs:(e.t < 0)∨∃ (t i':Nat) (r:List Ins),e.t=t∧e.i=i'∧p[t]? = some r∧r[i']? = some (insE p e):=by
  rcases ev_cases (p:=p) (k:=i) (e:=e) (by rw [← hes];exact hek) with h | ⟨t,i',r,h1,h2,h3,h4, -⟩
  ·exact .inl (by omega)
  ·exact .inr ⟨t,i',r,h1,h2,h3,h4⟩
 obtain ⟨fa,fc,rfl, -, -, -,hf'⟩:=hx.fr.open
 obtain ⟨oa,oc,rfl, -, -, -, -⟩:=hx.od.open
 obtain ⟨ea,ec,rfl, -, -, -,he'⟩:=he.open
 obtain ⟨pa,pc,rfl, -, -, -,hp'⟩:=hp.open
 obtain ⟨ka,kc,rfl, -, -, -,hk'⟩:=hk.open
 have HF:=hide hf';have HP:=hide hp';have HK:=hide hk';have HOK:=hide hok;have HKL:=hide hKl
 have D0:=hide (fun h=>dep_t0 (p:=p) (fr:=x.fr) hek h)
 have DO:=hide (fun ht h=>dep_op (p:=p) (fr:=x.fr) hek ht h)
 have DR0:=hide (fun ht h h2=>dep_r0 (p:=p) (fr:=x.fr) hek ht h h2)
 have DRR:=hide (fun ht h r j h2 h3=>dep_rr (p:=p) (fr:=x.fr) (r:=r) (j:=j) hek ht h h2 h3)
 have HLK:Hid (linkV (depV p es x.fr) K i=match depV p es x.fr i with | .inl v=>v | .inr j=>(K[j]?).getD (-1)):=hide rfl
 have HBX:=hide ((Below.refl w.heap.size w).alloc (Nat.le_refl _) (.cells #[.slice fa x.fr.length fc, .slice oa x.od.length oc] 60))
 have HX1:=hide (heap_alloc_new w (.cells #[.slice fa x.fr.length fc, .slice oa x.od.length oc] 60))
 have he1:=he'.below HBX.out
 obtain ⟨b,o,rfl,hbl,i0,i1,i2,i3,i4⟩:=he1.ev hek
 have HP1:=hide (HP.out.below HBX.out)
 have HFR1:=hide (HF.out.below HBX.out);have HK1:=hide (HK.out.below HBX.out)
 have HP01:=hide (HP0.out.below HBX.out);have HE01:=hide (HE0.out.below HBX.out)
 have HES:=hide hes
 have hlt':=nat_of_lt hi
 clear hek hes hp he hx hk hok hKl hf' he' hp' hk' he1 HF HP HK HP0 HE0
 generalize linkV (depV p es x.fr) K i=R at *
 generalize hn:es.length=n at *
 generalize x.od.length=on at *
 generalize hfn:x.fr.length=fn at *
 have HN:=hide hn;have HFN:=hide hfn;clear hn hfn
 generalize hpn:p.length=pn at *
 have HPN:=hide hpn;clear hpn
 generalize hkn:K.length=kn at *
 have HKN:=hide hkn;clear hkn
 rcases hcs with ht | ⟨t',i',r,het,hei,hpt,hri⟩
 ·have k1:decide (e.t < 0)=true:=by simp [ht]
  obtain rfl:R=0:=by rw [HLK.out,D0.out ht]
  go_enter Tryz.func141,Tryz.ntmps141
  go_wp2_with fail
  go_ret
  exact ⟨rfl,HBX.out.alloc HBX.out.size _⟩
 ·obtain ⟨et,ei,el,er,ew⟩:=e
  simp only at het hei i0 i1 i2 i3 i4
  subst het
  subst hei
  have ht:¬ ((t':Int) < 0):=by omega
  have k1:decide ((t':Int) < 0)=false:=by simp
  obtain ⟨b2,o2,ra,rc,rfl,hbl2,q0,q1⟩:=HP1.out.row hpt
  obtain ⟨b3,o3,rfl,hbl3,r0,r1,r2,r3⟩:=q1.ins hri
  have htn:(t':Int) < (pn:Int):=by have:=(List.getElem?_eq_some_iff.1 hpt).1;have:=HPN.out;omega
  have hin:(i':Int) < (r.length:Int):=by have:=(List.getElem?_eq_some_iff.1 hri).1;omega
  have DO2:=hide (DO.out ht);have DR2:=hide (DR0.out ht);have DRR2:=hide (DRR.out ht)
  clear DO DR0 DRR
  generalize hins:insE p ⟨(t':Int),(i':Int),el,er,ew⟩=ix at *
  obtain ⟨xo,xl,xr,xv⟩:=ix
  simp only at r0 r1 r2 r3 DO2 DR2 DRR2
  have hlx:=(Array.getElem?_eq_some_iff.1 HX1.out).1
  clear hpt hri q1 hins D0
  generalize r.length=rl at *
  go_enter Tryz.func141,Tryz.ntmps141
  go_wp2_with fail
  have hsz:(w.alloc (.cells #[.slice fa fn fc, .slice oa on oc] 60)).heap.size=w.heap.size+1:=by simp
  generalize hw1:w.alloc (.cells #[.slice fa fn fc, .slice oa on oc] 60)=w1 at *
  clear hw1
  have HSZ:=hide hsz;clear hsz
  have HBA:=hide ((Below.refl w1.heap.size w1).alloc (Nat.le_refl _) (.cells #[.int .i64 (t':Int), .int .i64 (i':Int), .int .i64 el, .bool er, .bool ew] 130))
  have hev:=(heap_alloc_new w1 (.cells #[.int .i64 (t':Int), .int .i64 (i':Int), .int .i64 el, .bool er, .bool ew] 130))
  rw [HSZ.out] at hev
  have HEV:=hide hev;clear hev
  go_cut [12] (fun s7 W => ∃ b7:Nat,s7 = .pointer (some ⟨b7,0,none⟩)∧b7 < W.heap.size∧W.cell? ⟨b7,0,none⟩=some (.int .i64 xo)∧W.cell? ⟨b7,2,none⟩=some (.int .i64 xr)∧W.cell? ⟨b7,3,none⟩=some (.int .i64 xv)∧Below (w1.alloc (.cells #[.int .i64 (t':Int), .int .i64 (i':Int), .int .i64 el, .bool er, .bool ew] 130)).heap.size (w1.alloc (.cells #[.int .i64 (t':Int), .int .i64 (i':Int), .int .i64 el, .bool er, .bool ew] 130)) W)
  case first =>
   have e0:=cell_of_heapV HEV.out (k:=0) rfl
   have e1:=cell_of_heapV HEV.out (k:=1) rfl
   have le:=lt_of_cell e0
   go_region_held3 (fun W=>W.cell? ⟨w.heap.size+1,0,none⟩=some (.int .i64 (t':Int))∧W.cell? ⟨w.heap.size+1,1,none⟩=some (.int .i64 (i':Int))∧W.cell? ⟨b2,o2+t',none⟩=some (.slice (some ⟨b3,o3,none⟩) rl rc) ∧
    W.cell? ⟨b3,o3+i' * 4,none⟩=some (.int .i64 xo)∧W.cell? ⟨b3,o3+i' * 4+1,none⟩=some (.int .i64 xl)∧W.cell? ⟨b3,o3+i' * 4+2,none⟩=some (.int .i64 xr)∧W.cell? ⟨b3,o3+i' * 4+3,none⟩=some (.int .i64 xv)) ((simp [go_sem, *])) (first | fail)
   all_goals
    go_wp2_with fail
    go_meet
    refine ⟨_,rfl,by first | (simp;done) | (simp;omega),by simp [go_sem],by simp [go_sem],by simp [go_sem], ?_⟩
    exact ((Below.refl _ _).alloc (Nat.le_refl _) _).drew
  case rest =>
   obtain ⟨b7,rfl,hb7,m0,m2,m3,hbW⟩:=hcut
   have HBW:=hide (HBA.out.trans (hbW.mono HBA.out.size))
   have HEVc:=hide ((hbW.block (w.heap.size+1) (Array.getElem?_eq_some_iff.1 HEV.out).1).trans HEV.out)
   clear hbW HBA HEV i0 i1 i2 i3 i4 q0 r0 r1 r2 r3
   by_cases hop:xo=3
   ·subst hop
    have e0:=cell_of_heapV HEVc.out (k:=0) rfl
    have e1:=cell_of_heapV HEVc.out (k:=1) rfl
    have le:=lt_of_cell e0
    have HL:=hide (HLR.out (t':Int) (i':Int) xr wc (HP01.out.below HBW.out) (HE01.out.below HBW.out))
    have DR0':=hide (DR2.out rfl);have DRR':=hide (DRR2.out rfl)
    clear DR2 DRR2 DO2 HLR
    go_wp2_with fail
    (with_reducible refine HL.out.mono ?_);rintro e w5 ⟨rfl,hb5⟩
    have HB5:=hide (HBW.out.trans (hb5.mono HBW.out.size))
    clear hb5 e0 e1 le m0 m2 m3 HL HEVc
    rcases lastRd_cases p es (t':Int) (i':Int) xr with hlr | ⟨rr,e2,hlr,he2,hrd⟩
    ·obtain rfl:R=0:=by rw [HLK.out,DR0'.out (by rw [hlr];omega)]
     rw [hlr]
     clear hlr DR0' DRR'
     go_wp2_with fail
     go_ret
     exact ⟨rfl,HBX.out.trans (HB5.out.mono HBX.out.size)⟩
    ·obtain ⟨j,e3,hfj,hej, -, -, -⟩:=from_write (k:=rr) (by rw [HN.out];exact HOK.out) he2 hrd
     have hjn:j < kn:=by have:=(List.getElem?_eq_some_iff.1 hej).1;have:=HN.out;have:=HKL.out;omega
     obtain ⟨u,hu⟩:=get_of_lt (xs:=K) (k:=j) (by rw [HKN.out];exact hjn)
     obtain rfl:R=u:=by rw [HLK.out,DRR'.out rr j hlr hfj];simp [hu]
     rw [hlr]
     obtain ⟨b4,o4,rfl,hb4,j0⟩:=(HFR1.out.below HB5.out).int hfj
     obtain ⟨b5,o5,rfl,hb5,u0⟩:=(HK1.out.below HB5.out).int hu
     have hrn:(rr:Int) < (fn:Int):=by have:=(List.getElem?_eq_some_iff.1 hfj).1;have:=HFN.out;omega
     have hjn':(j:Int) < (kn:Int):=by omega
     have hr0:decide ((rr:Int) < 0)=false:=by simp
     have hxb:=(HB5.out.block w.heap.size hlx).trans HX1.out
     have x0:=cell_of_heapV hxb (k:=0) rfl
     have xl0:=lt_of_cell x0
     clear hlr hfj hu DR0' DRR' he2 hej hxb
     go_wp2_with fail
     go_ret
     exact ⟨rfl,HBX.out.trans (HB5.out.mono HBX.out.size)⟩
   ·have k2:(xo != 3)=true:=by simp [hop]
    obtain rfl:R=xv:=by rw [HLK.out,DO2.out hop]
    clear hop
    go_wp2_with fail
    go_ret
    exact ⟨rfl,HBX.out.trans (HBW.out.mono HBX.out.size)⟩
end Go.Proofs.YtfbgppkdnfljhaaGreatDoor
namespace Go.Proofs.YtfbgppkdnfljhaaGreatDoor
open Go.RowKit
theorem evAll_ge (p:List (List Ins)):3≤(evAll p).length:=by unfold evAll;simp [evHead_length]
theorem rep_snoc (k:Nat) (x:Int):List.replicate k x++[x]=List.replicate (k+1) x:=by
 rw [show k+1=k+1 from rfl,List.replicate_succ']
theorem l6Values_any (v vf vo:Value) (p:List (List Ins)) (x:Xc) (w:World) (hp:RepP w v p) (hx:RepX w vf vo x) (hl:p.flatten.length≤1048576) (hok:execOk p x=true) :
 Calls Tryz.prog 85 #[v, .agg #[vf,vo]] w (RetNB w (valsL p x.fr,valsOk p x.fr)):=by
 have HE:=hide (fun w' h=>l6Events_any v p w' h hl)
 unfold execOk at hok
 simp only [Bool.and_eq_true,decide_eq_true_eq] at hok
 obtain ⟨hpv,hfl,hol,hfo,hoo⟩:=hok
 have HFO:=hide hfo
 have hen:=evAll_le hpv
 have hen3:=evAll_ge p
 have HDV:=hide (fun i v (h:depV p (evAll p) x.fr i = .inl v)=>dep_val hpv h)
 clear hpv hol hoo hfo hfl
 have HP:=hide hp;have HX:=hide hx
 obtain ⟨pa,pc,rfl, -,hpn, -, -⟩:=hp.open
 obtain ⟨fa,fc,rfl, -,hfn, -, -⟩:=hx.fr.open
 obtain ⟨oa,oc,rfl, -,hon, -, -⟩:=hx.od.open
 clear hp hx
 have HRV:Hid ((valsL p x.fr,valsOk p x.fr)=(valTo (evAll p) (cX p x.fr) (evAll p).length,okTo (evAll p) (cX p x.fr) (evAll p).length)):=hide rfl
 generalize (valsL p x.fr,valsOk p x.fr)=R at *
 have HC:Hid (cX p x.fr=chain (depV p (evAll p) x.fr) (evAll p).length):=hide rfl
 generalize cX p x.fr=c at *
 generalize hes:evAll p=es at *
 have HES:=hide hes.symm
 have HOS:=hide (fun k e h=>okTo_succ (es:=es) c (k:=k) (e:=e) h)
 have HON:=hide (fun k e h hw hc=>okTo_no (es:=es) c (k:=k) (e:=e) h hw hc)
 have HVL:=hide (valTo_length es c)
 have HVG:=hide (fun i e h1 h2=>valTo_get (es:=es) c (i:=i) (e:=e) (k:=es.length) h1 (Nat.le_refl _) h2)
 have HB0:=hide ((Below.refl w.heap.size w).alloc (Nat.le_refl _) (.cells #[.slice fa x.fr.length fc, .slice oa x.od.length oc] 60))
 have HBX:=hide (heap_alloc_new w (.cells #[.slice fa x.fr.length fc, .slice oa x.od.length oc] 60))
 have HP0:=hide (HP.out.below HB0.out);have HX0:=hide (HX.out.below HB0.out)
 clear hes
 generalize hfn':x.fr.length=fn at *
 generalize hon':x.od.length=on at *
 generalize hpn':p.length=pn at *
 clear hfn' hon' hpn'
 have HKI0:=hide (KInv.start (depV p es x.fr) es)
 have HKD:=hide (fun (r:Nat) (K:List Int) (h:KInv (depV p es x.fr) es r 0 K) hr=>h.done hr)
 have HW:=hide (fun (vp ve vf vo vk:Value) (i:Nat) (K:List Int) (w':World) h1 h2 h3 h4 h5 h6=>l6Write_any vp ve vf vo vk p es HES.out x i K w' h1 h2 h3 h4 HFO.out h5 h6 (by omega))
 have HLT:=hide (fun i j h1 h2=>dep_lt (p:=p) HFO.out i j h1 h2)
 have HIN:=hide (fun i j h=>dep_inr (p:=p) HFO.out (i:=i) (j:=j) h)
 generalize hn:es.length=n at *
 have HN:=hide hn;clear hn
 generalize depV p es x.fr=d at *
 go_enter Tryz.func85,Tryz.ntmps85
 go_wp2_with fail
 generalize hw1:w.alloc (.cells #[.slice fa fn fc, .slice oa on oc] 60)=w1 at *
 clear hw1
 (with_reducible refine (HE.out _ HP0.out).mono ?_);rintro e w2 ⟨ve,rfl,oe,hb2⟩
 have hre:=oe.rep
 obtain ⟨ea,ec,rfl, -, -, -,hre⟩:=hre.open
 rw [HN.out] at hre ⊢
 have HRE:=hide hre;have HP2:=hide (HP0.out.below hb2);have HX2:=hide (HX0.out.below hb2)
 have HB2:=hide (HB0.out.trans (hb2.mono HB0.out.size))
 have HBX2:=hide ((hb2.block w.heap.size (Array.getElem?_eq_some_iff.1 HBX.out).1).trans HBX.out)
 clear oe hre hb2 HB0 HBX HP0 HX0 HP HX HE
 go_wp2_with fail
 go_loopw [7,8] (fun s i wr => ∃ k:Nat,k≤n∧i = .int .i64 k∧OwnN wr w2.heap.size s (List.replicate k (-1))∧Below w2.heap.size w2 wr) (fun _ i _=>n - (intOf i).toNat)
 case atStart=>exact ⟨0,Nat.zero_le _,rfl,Own.empty (E:=IntE) _ w2 (Nat.le_refl _),(Below.refl _ _).alloc (Nat.le_refl _) _⟩
 case round =>
  obtain ⟨k,hk,rfl,hown,hb⟩:=hrel
  by_cases hlt:k < n
  ·have hlt':=nat_of_lt hlt
   have hlen:(List.replicate k (-1:Int)).length≤68719476736:=by simp;omega
   have HS:=hide (rep_snoc k (-1))
   generalize List.replicate k (-1:Int)=G at *
   go_wp2_with (at_builtin;refine wpList_app IntE 3 Tryz.infoInt rfl Tryz.underlying57 w2.heap.size _ G (-1) (hown.alloc _) (by decide) hlen (by simp;have:=hb.size;omega) rfl _ _ rfl rfl _ 0 1 rfl (news_allocV (by simp)) ?_;intro v' w3 hown3 hgr3)
   have hb3:=below_app hb hown hgr3
   go_roundw
   case rel=>exact ⟨k+1,by omega,by go_num,by rw [← HS.out];exact hown3,hb3⟩
   case measure=>simp [intOf];omega
  ·obtain rfl:k=n:=by omega
   have HO3:=hide hown;clear hown
   rcases HO3.out.shape with ⟨rfl,h0⟩ | ⟨g,cap,rfl,hg1,hg2,hg3,hg4⟩
   ·exfalso;have:=congrArg List.length h0;simp at this;omega
   rw [List.length_replicate] at HO3 hg3 ⊢
   have HB3:=hide hb;clear hb
   go_wp2_with fail
   go_loopw [9] (fun i wr => ∃ r:Nat,r≤k∧i = .int .i64 r∧(∃ K,Hid (KInv d es r 0 K)∧OwnN wr w2.heap.size (.slice (some ⟨g,0,none⟩) k cap) K)∧Below w2.heap.size w2 wr) (fun i _=>k - (intOf i).toNat)
   case atStart=>exact ⟨0,Nat.zero_le _,rfl,⟨_,HKI0,HO3.out⟩,HB3.out⟩
   case round =>
    obtain ⟨r,hr,rfl,⟨K,hki,hown⟩,hb⟩:=hrel
    by_cases hltr:r < k
    ·have hltr':=nat_of_lt hltr
     have HO4:=hide hown;clear hown
     go_wp2_with fail
     go_loopw [10] (fun i wr => ∃ t:Nat,t≤k∧i = .int .i64 t∧(∃ K,Hid (KInv d es r t K)∧OwnN wr w2.heap.size (.slice (some ⟨g,0,none⟩) k cap) K)∧Below w2.heap.size w2 wr) (fun i _=>k - (intOf i).toNat)
     case atStart=>exact ⟨0,Nat.zero_le _,rfl,⟨K,hki,HO4.out⟩,hb⟩
     case round =>
      obtain ⟨t,ht,rfl,⟨K2,hkt,hown⟩,hb4⟩:=hrel
      by_cases hltt:t < k
      ·obtain ⟨e,hek⟩:=get_of_lt (xs:=es) (k:=t) (by rw [HN.out];exact hltt)
       obtain ⟨b,o,rfl,hbl,i0,i1,i2,i3,i4⟩:=(HRE.out.below hb4).ev hek
       have hltt':=nat_of_lt hltt
       have HEK:=hide hek;clear hek
       clear i0 i1 i2 i3
       cases hew:e.w
       ·rw [hew] at i4
        have HK2:=hide (hkt.out.skip HEK.out hew)
        clear hew
        go_wp2_with fail
        go_roundw
        case rel=>exact ⟨t+1,by omega,by go_num,⟨K2,HK2,hown⟩,hb4⟩
        case measure=>simp [intOf];omega
       ·rw [hew] at i4
        have HK2:=hide (hkt.out.step HEK.out hew (by rw [HN.out];exact HLT.out) (fun j h=>HIN.out t j h) HDV.out)
        have hKl:=hkt.out.len
        obtain ⟨u,hu⟩:=get_of_lt (xs:=K2) (k:=t) (by rw [hKl,HN.out];exact hltt)
        obtain ⟨hgl,f0,hfr⟩:=hown.int hu
        have HWC:=hide (HW.out (.slice pa pn pc) (.slice (some ⟨b,o,none⟩) k ec) (.slice fa fn fc) (.slice oa on oc) (.slice (some ⟨g,0,none⟩) k cap) t K2 wr (HP2.out.below hb4) (HRE.out.below hb4) (HX2.out.below hb4) hown.rep hltt (by rw [hKl,HN.out]))
        have hxb:=(hb4.block w.heap.size (Array.getElem?_eq_some_iff.1 HBX2.out).1).trans HBX2.out
        have x0:=cell_of_heapV hxb (k:=0) rfl
        have x1:=cell_of_heapV hxb (k:=1) rfl
        have xl:=lt_of_cell x0
        have HU:=hide hu;have HOW:=hide hown;have HB4:=hide hb4
        clear hew hKl hu hown hxb hkt f0 hfr
        generalize linkV d K2 t=lv at *
        go_wp2_with fail
        (with_reducible refine HWC.out.mono ?_);rintro e w7 ⟨rfl,hb7⟩
        have O7:=hide (HOW.out.below hb7)
        have HB7:=hide (HB4.out.trans (hb7.mono HB4.out.size))
        obtain ⟨hgl7,f7,hfr7⟩:=O7.out.int HU.out
        have OS:=hide (O7.out.setInt HU.out lv)
        clear hb7 x0 x1 xl
        go_wp2_with fail
        go_roundw
        case rel=>exact ⟨t+1,by omega,by go_num,⟨_,HK2,OS.out⟩,HB7.out.setCell hg1 _⟩
        case measure=>simp [intOf];omega
      ·have e:t=k:=by omega
       have HK2:=hide (hkt.out.next (by rw [HN.out];exact e))
       go_wp2_with fail
       go_roundw
       case rel=>exact ⟨r+1,by omega,by go_num,⟨K2,HK2,hown⟩,hb4⟩
       case measure=>simp [intOf];omega
    ·obtain rfl:r=k:=by omega
     have hK:=HKD.out r K hki.out rfl
     rw [← HC.out] at hK
     have HOW:=hide hown;have HB4:=hide hb
     have HKE:=hide hK
     clear hown hb hki hK
     go_wp2_with fail
     go_loop [11] (fun i => ∃ t:Nat,t≤r∧i = .int .i64 t∧Hid (okTo es c t=true)) (fun i=>r - (intOf i).toNat)
     case atStart=>exact ⟨0,Nat.zero_le _,rfl,hide (by simp [okTo])⟩
     case round =>
      obtain ⟨t,ht,rfl,hok⟩:=hrel
      by_cases hltt:t < r
      ·obtain ⟨e,hek⟩:=get_of_lt (xs:=es) (k:=t) (by rw [HN.out];exact hltt)
       obtain ⟨b,o,rfl,hbl,i0,i1,i2,i3,i4⟩:=(HRE.out.below HB4.out).ev hek
       have hltt':=nat_of_lt hltt
       have hkt:=HVG.out t e hltt hek
       rw [← HKE.out] at hkt
       obtain ⟨hgl,f0,hfr⟩:=HOW.out.int hkt
       have OS:=hide (HOS.out t e hek);have ON:=hide (HON.out t e hek)
       have HV1:Hid (val1 c t e=if e.w=true then (c t).getD (-1) else -1):=hide rfl
       clear i0 i1 i2 i3 hek hkt hfr
       cases hew:e.w
       ·rw [hew] at i4
        have OK2:Hid (okTo es c (t+1)=true):=hide (by rw [OS.out,hok.out,hew];rfl)
        clear hew
        go_wp2_with fail
        go_round
        case rel=>exact ⟨t+1,by omega,by go_num,OK2⟩
        case measure=>simp [intOf];omega
       ·rw [hew] at i4
        cases hct:c t with
        | none =>
         rw [HV1.out,if_pos hew,hct] at f0
         have RE:Hid (R=(K,false)):=hide (by rw [HRV.out,ON.out hew hct,HKE.out])
         clear hew hct
         go_wp2_with fail
         go_ret2
         rw [RE.out]
         exact ⟨⟨some ⟨g,0,none⟩,r,cap⟩,rfl,HOW.out.mono HB2.out.size,HB2.out.trans (HB4.out.mono HB2.out.size)⟩
        | some vv =>
         rw [HV1.out,if_pos hew,hct] at f0
         have OK2:Hid (okTo es c (t+1)=true):=hide (by rw [OS.out,hok.out,hct];simp)
         have hvv:0≤vv:=by
          have h:=hct
          rw [HC.out] at h
          exact (chain_val HDV.out h).1
         have k3:decide (vv < 0)=false:=by simp [hvv]
         simp only [Option.getD_some] at f0
         clear hew hct
         go_wp2_with fail
         go_round
         case rel=>exact ⟨t+1,by omega,by go_num,OK2⟩
         case measure=>simp [intOf];omega
      ·have e:t=r:=by omega
       subst e
       have RE:Hid (R=(K,true)):=hide (by rw [HRV.out,hok.out,HKE.out])
       go_wp2_with fail
       go_ret2
       rw [RE.out]
       exact ⟨⟨some ⟨g,0,none⟩,t,cap⟩,rfl,HOW.out.mono HB2.out.size,HB2.out.trans (HB4.out.mono HB2.out.size)⟩
end Go.Proofs.YtfbgppkdnfljhaaGreatDoor
namespace Go.Proofs.YtfbgppkdnfljhaaGreatDoor
open Go.RowKit
end Go.Proofs.YtfbgppkdnfljhaaGreatDoor
namespace Go.Proofs.YtfbgppkdnfljhaaGreatDoor
open Go.RowKit
end Go.Proofs.YtfbgppkdnfljhaaGreatDoor
namespace Go.Proofs.YtfbgppkdnfljhaaGreatDoor
open Go.RowKit Go.Deep Go.ChangeShapes Go.WideShapes Go.ChangeAt
theorem Tryz.cellsInsR:Tryz.prog.cellsOf 122=4:=by kernel_rfl
theorem Tryz.cellsInsSR:Tryz.prog.cellsOf 65=1:=by kernel_rfl
theorem Tryz.cellsIntR:Tryz.prog.cellsOf 3=1:=by kernel_rfl
theorem Tryz.cellsStrR:Tryz.prog.cellsOf 9=1:=by kernel_rfl
theorem Tryz.cellsRelR:Tryz.prog.cellsOf 69=3:=by kernel_rfl
theorem Tryz.cellsRelSR:Tryz.prog.cellsOf 67=1:=by kernel_rfl
theorem Tryz.cellsRuR:Tryz.prog.cellsOf 71=4:=by kernel_rfl
theorem fourR {l:List Value} (h:l.length=4):∃ a b c d,l=[a,b,c,d]:=by
 match l,h with
 | [a,b,c,d],_=>exact ⟨a,b,c,d,rfl⟩
theorem threeR {l:List Value} (h:l.length=3):∃ a b c,l=[a,b,c]:=by
 match l,h with
 | [a,b,c],_=>exact ⟨a,b,c,rfl⟩
instance:Inhabited Rs:=⟨⟨0,⟨#[]⟩,⟨none,0,0⟩⟩⟩
instance:Inhabited Us:=⟨⟨0,0,⟨#[]⟩,⟨none,0,0⟩⟩⟩
section
variable {H : Type} {enc : TypeId × Value → H} {P : Program} {w : World} {base : Nat} {spare : Nat → Bool} {held : Bool}
theorem rep_of_trod_r {fuel:Nat} {cs:List Value} {x:DataW H × List MemPlace} {α:Type} [Inhabited α] (E:El α) {t e:TypeId} (ht:P.underlying t=some (.slice e)) (hc:P.cellsOf e=E.sz) (Q:α→Prop)
 (hel:∀ n,n < fuel→∀ cs x,DataW.trod enc P w base spare held n e cs=some x→∃ y,cs=E.c y∧Q y) (h:DataW.trod enc P w base spare held fuel t cs=some x):∃ v xs,cs=[v]∧Rep E w v xs∧∀ y∈xs,Q y:=by
 rcases DataW.trod_slice ht h with ⟨rfl,_⟩ | ⟨a,len,cap,elems,rest,n,rfl,rfl,_,hb,hl,hm,hlen,hx,_,_⟩
 ·exact ⟨_,[],rfl,Rep.nil w,fun y h=>by simp at h⟩
 ·have each:∀ i,i < len→∃ y,w.cells? base (a.add (i * E.sz)) E.sz=some (E.c y)∧Q y:=fun i hi=>by
   have key:=hx i hi
   rw [List.getElem?_eq_getElem (by omega)] at key
   obtain ⟨cs',h1,h2⟩:=Option.bind_eq_some_iff.1 key
   obtain ⟨y,rfl,hq⟩:=hel n (by omega) cs' _ h2
   rw [hc] at h1
   exact ⟨y,h1,hq⟩
  obtain ⟨f,hf⟩:=choose_lt each
  refine ⟨_,(List.range len).map f,rfl,⟨some a,cap,by simp,by simpa using hl,hm,fun i y hy => ?_⟩, ?_⟩
  ·simp only [List.getElem?_map] at hy
   have hi:i < len:=by
    rcases Nat.lt_or_ge i len with h | h
    ·exact h
    ·rw [List.getElem?_eq_none (by simpa using h)] at hy;simp at hy
   rw [List.getElem?_range hi] at hy
   simp at hy
   subst hy
   have h0:=cells_get (hf 0 (by omega)).1 (El.first (E:=E) (f 0)).choose_spec
   rw [Nat.zero_mul] at h0
   have hsp:a.spot=none:=addr_of_cell (a:=a) (by simpa [Addr.add] using h0)
   obtain ⟨ab,ao,asp⟩:=a
   simp at hsp
   subst hsp
   refine ⟨ab,ao,rfl,fun j u hu => ?_⟩
   have:=cells_get (hf i hi).1 hu
   rwa [add_none,add_none] at this
  ·intro y hy
   simp only [List.mem_map,List.mem_range] at hy
   obtain ⟨i,hi,rfl⟩:=hy
   exact (hf i hi).2
end
theorem mem_of_rows {α β:Type} {Q:α→β→Prop} {us:List α} {ks:List β} (hl:ks.length=us.length) (h:∀ (i:Nat) (u:α) (r:β),us[i]? = some u→ks[i]? = some r→Q u r):∀ k∈ks,∃ u,Q u k:=by
 intro k hk
 obtain ⟨i,hi⟩:=List.getElem?_of_mem hk
 obtain ⟨u,hu⟩:=get_of_lt (xs:=us) (k:=i) (by rw [← hl];exact (List.getElem?_eq_some_iff.1 hi).1)
 exact ⟨u,h i u k hu hi⟩
section
variable {H : Type} {enc : TypeId × Value → H} {w : World} {base : Nat} {spare : Nat → Bool} {held : Bool}
theorem insR_of_trod:∀ (n:Nat) (cs:List Value) (x:DataW H × List MemPlace),DataW.trod enc Tryz.prog w base spare held n 122 cs=some x→∃ y:Ins,cs=InsE.c y:=by
 intro n cs x hx
 obtain ⟨xs,m,rfl,rfl,hlen,hxl,hf⟩:=DataW.trod_struct Tryz.underlying122 hx
 rw [Tryz.cellsInsR] at hlen
 obtain ⟨a,b,c,d,rfl⟩:=fourR hlen
 have h0:DataW.trod enc Tryz.prog w base spare held m 3 (([a,b,c,d].drop 0).take (Tryz.prog.cellsOf 3))=xs[0]?:=hf 0 _ rfl
 have h1:DataW.trod enc Tryz.prog w base spare held m 3 (([a,b,c,d].drop 1).take (Tryz.prog.cellsOf 3))=xs[1]?:=hf 1 _ rfl
 have h2:DataW.trod enc Tryz.prog w base spare held m 3 (([a,b,c,d].drop 2).take (Tryz.prog.cellsOf 3))=xs[2]?:=hf 2 _ rfl
 have h3:DataW.trod enc Tryz.prog w base spare held m 3 (([a,b,c,d].drop 3).take (Tryz.prog.cellsOf 3))=xs[3]?:=hf 3 _ rfl
 rw [Tryz.cellsIntR] at h0 h1 h2 h3
 have hxl':xs.length=4:=hxl
 obtain ⟨i0,rfl⟩:=trod_one (v:=a) Tryz.underlying3 h0 (by rw [List.getElem?_eq_getElem (by omega)];simp)
 obtain ⟨i1,rfl⟩:=trod_one (v:=b) Tryz.underlying3 h1 (by rw [List.getElem?_eq_getElem (by omega)];simp)
 obtain ⟨i2,rfl⟩:=trod_one (v:=c) Tryz.underlying3 h2 (by rw [List.getElem?_eq_getElem (by omega)];simp)
 obtain ⟨i3,rfl⟩:=trod_one (v:=d) Tryz.underlying3 h3 (by rw [List.getElem?_eq_getElem (by omega)];simp)
 exact ⟨⟨i0,i1,i2,i3⟩,rfl⟩
theorem progR_of_trod {v:Value} {d:DataW H} {ps:List MemPlace} (hok:∃ a len cap,v = .slice a len cap) (h:DataW.Trod enc Tryz.prog w base spare held 22 v d ps):∃ p,Rep2 InsE w v p:=by
 obtain ⟨fuel,hf⟩:=h
 obtain ⟨v',p,hv,hp⟩:=rep2_of_trod InsE Tryz.underlying22 Tryz.underlying65 Tryz.cellsInsSR Tryz.cellsInsR insR_of_trod hf
 obtain ⟨a,len,cap,rfl⟩:=hok
 simp [Value.cells] at hv
 subst hv
 exact ⟨p,hp⟩
theorem relL_of_trod:∀ (fuel:Nat) (cs:List Value) (x:DataW H × List MemPlace),DataW.trod enc Tryz.prog w base spare held fuel 67 cs=some x→∃ (s:Slc) (ks:List Re),cs=[s.v]∧RepRk 0 w s ks∧∀ k∈ks,NmOk k:=by
 intro fuel
 induction fuel using Nat.strongRecOn with
 | ind fuel ih =>
  intro cs x h
  obtain ⟨v,us,rfl,hr,hq⟩:=rep_of_trod_r RsE Tryz.underlying67 Tryz.cellsRelR (fun u => ∃ c,RepRe 0 w u c∧NmOk c) (fun n hn cs x hx=>by
   obtain ⟨xs,m,rfl,rfl,hlen,hxl,hf⟩:=DataW.trod_struct Tryz.underlying69 hx
   rw [Tryz.cellsRelR] at hlen
   obtain ⟨a,b,c,rfl⟩:=threeR hlen
   have h0:DataW.trod enc Tryz.prog w base spare held m 3 (([a,b,c].drop 0).take (Tryz.prog.cellsOf 3))=xs[0]?:=hf 0 _ rfl
   have h1:DataW.trod enc Tryz.prog w base spare held m 9 (([a,b,c].drop 1).take (Tryz.prog.cellsOf 9))=xs[1]?:=hf 1 _ rfl
   have h2:DataW.trod enc Tryz.prog w base spare held m 67 (([a,b,c].drop 2).take (Tryz.prog.cellsOf 67))=xs[2]?:=hf 2 _ rfl
   rw [Tryz.cellsIntR] at h0
   rw [Tryz.cellsStrR] at h1
   rw [Tryz.cellsRelSR] at h2
   have hxl':xs.length=3:=hxl
   obtain ⟨i0,rfl⟩:=trod_one (v:=a) Tryz.underlying3 h0 (by rw [List.getElem?_eq_getElem (by omega)];simp)
   rw [List.getElem?_eq_getElem (by omega)] at h1 h2
   obtain ⟨p,hp, -,hps⟩:=DataW.trod_string Tryz.underlying9 h1
   have hp':b = .string p:=by simpa using hp
   subst hp'
   obtain ⟨s,ks,he,hk,hnk⟩:=ih m (by omega) _ _ h2
   have he':c=s.v:=by simpa using he
   subst he'
   exact ⟨⟨i0,p,s⟩,rfl,_,hk.cond i0 p, .mk (by unfold maxLen at hps;omega) hnk⟩) h
  obtain ⟨ks,h1,h2⟩:=choose_rows us hq
  obtain ⟨a,c,rfl,h3,h4,h5⟩:=hr
  exact ⟨⟨a,us.length,c⟩,ks,rfl,⟨us,h1.symm,⟨a,c,rfl,h3,h4,h5⟩, .inr fun b o _=>Nat.zero_le _,fun i u r hu hr=>(h2 i u r hu hr).1⟩,fun k hk=>by
   obtain ⟨u,hu⟩:=mem_of_rows h1 h2 k hk
   exact hu.2⟩
theorem model_of_trod {v:Value} {d:DataW H} {ps:List MemPlace} (hok:∃ a len cap,v = .slice a len cap) (h:DataW.Trod enc Tryz.prog w base spare held 23 v d ps):∃ (a:Option Addr) (n c:Nat) (m:List Ru),v = .slice a n c∧RepM 0 w ⟨a,n,c⟩ m∧∀ r∈m,NmOk r.e:=by
 obtain ⟨fuel,hf⟩:=h
 obtain ⟨v',us,hv,hr,hq⟩:=rep_of_trod_r UsE Tryz.underlying23 Tryz.cellsRuR (fun u => ∃ r,RepU 0 w u r∧NmOk r.e) (fun n hn cs x hx=>by
  obtain ⟨xs,m,rfl,rfl,hlen,hxl,hf⟩:=DataW.trod_struct Tryz.underlying71 hx
  rw [Tryz.cellsRuR] at hlen
  obtain ⟨a,b,c,d,rfl⟩:=fourR hlen
  have h0:DataW.trod enc Tryz.prog w base spare held m 3 (([a,b,c,d].drop 0).take (Tryz.prog.cellsOf 3))=xs[0]?:=hf 0 _ rfl
  have h1:DataW.trod enc Tryz.prog w base spare held m 69 (([a,b,c,d].drop 1).take (Tryz.prog.cellsOf 69))=xs[1]?:=hf 1 _ rfl
  rw [Tryz.cellsIntR] at h0
  rw [Tryz.cellsRelR] at h1
  have hxl':xs.length=2:=hxl
  obtain ⟨i0,rfl⟩:=trod_one (v:=a) Tryz.underlying3 h0 (by rw [List.getElem?_eq_getElem (by omega)];simp)
  rw [List.getElem?_eq_getElem (by omega)] at h1
  obtain ⟨ys,m2, -, -, -,hyl,hf2⟩:=DataW.trod_struct Tryz.underlying69 h1
  have hyl':ys.length=3:=hyl
  have k0:DataW.trod enc Tryz.prog w base spare held m2 3 (([b,c,d].drop 0).take (Tryz.prog.cellsOf 3))=ys[0]?:=hf2 0 _ rfl
  have k1:DataW.trod enc Tryz.prog w base spare held m2 9 (([b,c,d].drop 1).take (Tryz.prog.cellsOf 9))=ys[1]?:=hf2 1 _ rfl
  have k2:DataW.trod enc Tryz.prog w base spare held m2 67 (([b,c,d].drop 2).take (Tryz.prog.cellsOf 67))=ys[2]?:=hf2 2 _ rfl
  rw [Tryz.cellsIntR] at k0
  rw [Tryz.cellsStrR] at k1
  rw [Tryz.cellsRelSR] at k2
  obtain ⟨i1,rfl⟩:=trod_one (v:=b) Tryz.underlying3 k0 (by rw [List.getElem?_eq_getElem (by omega)];simp)
  rw [List.getElem?_eq_getElem (by omega)] at k1 k2
  obtain ⟨p,hp, -,hps⟩:=DataW.trod_string Tryz.underlying9 k1
  have hp':c = .string p:=by simpa using hp
  subst hp'
  obtain ⟨s,ks,he,hk,hnk⟩:=relL_of_trod m2 _ _ k2
  have he':d=s.v:=by simpa using he
  subst he'
  exact ⟨⟨i0,i1,p,s⟩,rfl,⟨i0, .mk i1 p ks⟩,⟨rfl,rfl,rfl,hk⟩, .mk (by unfold maxLen at hps;omega) hnk⟩) hf
 obtain ⟨ms,h1,h2⟩:=choose_rows us hq
 obtain ⟨a,len,cap,rfl⟩:=hok
 simp [Value.cells] at hv
 subst hv
 obtain ⟨a',c',hv,h3,h4,h5⟩:=hr
 simp only [Value.slice.injEq] at hv
 obtain ⟨rfl,rfl,rfl⟩:=hv
 exact ⟨a,us.length,cap,ms,rfl,⟨us,h1.symm,⟨a,cap,rfl,h3,h4,h5⟩, .inr fun b o _=>Nat.zero_le _,fun i u r hu hr=>(h2 i u r hu hr).1⟩,fun r hr=>by
  obtain ⟨u,hu⟩:=mem_of_rows h1 h2 r hr
  exact hu.2⟩
end
end Go.Proofs.YtfbgppkdnfljhaaGreatDoor