/-
  OutcomeOf of both sides. Condition: bounds on lengths.
-/
import Derived.Test.YtkfhgnkonaafgaaGreatDoorZx22
import Derived.Test.YtkfhgnkonaafgaaGreatDoorZx15
import Derived.Test.YtkfhgnkonaafgaaGreatDoorZx21
import Derived.Test.YtkfhgnkonaafgaaGreatDoorZx05
import Derived.Test.YtkfhgnkonaafgaaGreatDoorZx13
set_option maxHeartbeats 6400000
set_option maxRecDepth 100000
namespace Go.Proofs.YtkfhgnkonaafgaaGreatDoor
open Go.RowKit
theorem l6Reg_any (vp ve:Value) (p:List (List Ins)) (es:List Ev) (hes:es=evAll p) (t idx reg:Int) (w:World) (hp:RepP w vp p) (he:Rep EvE w ve es) (hl:es.length≤1048676) :
 Calls Tryz.prog 70 #[vp,ve, .int .i64 t, .int .i64 idx, .int .i64 reg] w fun e w'=>e = .returned (.int .i64 (lastRd p es t idx reg))∧Below w.heap.size w w':=by
 obtain ⟨ea,ec,rfl, -, -, -,he'⟩:=he.open
 obtain ⟨pa,pc,rfl, -, -, -,hp'⟩:=hp.open
 have HP:=hide hp';have HE:=hide he'
 have HER:=hide (fun k e h hr=>ev_read (p:=p) (k:=k) (e:=e) (hes ▸ h) hr)
 have HR:Hid (lastRd p es t idx reg=lastTo p es t idx reg es.length):=hide rfl
 have HS:=hide (fun k e h=>lastTo_succ p (es:=es) t idx reg (k:=k) (e:=e) h)
 have H0:Hid (lastTo p es t idx reg 0 = -1):=hide rfl
 clear hes hp he hp' he'
 generalize lastRd p es t idx reg=R at *
 generalize hn:es.length=n at *
 have H:=hide hn;clear hn
 go_enter Tryz.func70,Tryz.ntmps70
 go_wp2_with fail
 go_loopw [11,12] (fun l i wr => ∃ k:Nat,k≤n∧i = .int .i64 k∧l = .int .i64 (lastTo p es t idx reg k)∧Below w.heap.size w wr) (fun _ i _=>n - (intOf i).toNat)
 case atStart=>exact ⟨0,Nat.zero_le _,rfl,by rw [H0.out],Below.refl _ _⟩
 case round =>
  obtain ⟨k,hk,rfl,rfl,hb⟩:=hrel
  by_cases hlt:k < n
  ·obtain ⟨e,hek⟩:=get_of_lt (xs:=es) (k:=k) (by rw [H.out];exact hlt)
   obtain ⟨b,o,rfl,hbl,i0,i1,i2,i3,i4⟩:=(HE.out.below hb).ev hek
   have hlt':=nat_of_lt hlt
   have S:=hide (HS.out k e hek)
   have ER:=hide (fun hr=>HER.out k e hek hr)
   have HH:Hid (hitR p t idx reg e=((e.t==t)&&(decide (e.i < idx)&&(e.r&&((insE p e).reg==reg))))):=hide rfl
   have HBA:=hide (hb.alloc hb.size (.cells #[.int .i64 e.t, .int .i64 e.i, .int .i64 e.l, .bool e.r, .bool e.w] 99))
   clear hek
   generalize lastTo p es t idx reg k=G at *
   by_cases g1:e.t=t
   ·have k1:(e.t==t)=true:=by simp [g1]
    by_cases g2:e.i < idx
    ·have k2:decide (e.i < idx)=true:=by simp [g2]
     cases her:e.r
     ·have S2:Hid (lastTo p es t idx reg (k+1)=G):=hide (by rw [S.out,HH.out,her];simp)
      rw [her] at i3 HBA
      subst g1
      clear g2 HH ER S her
      go_wp2_with fail
      refine wp_region_bw (by kernel_rfl) (by kernel_rfl) ?_
      repeat (go_big_quiet_step (fail))
      refine wpQuiet_nil ?_
      intro w1 hb1
      go_wp2_with fail
      go_roundw
      case rel=>exact ⟨k+1,by omega,by go_num,by rw [S2.out],HBA.out.trans (hb1.mono HBA.out.size)⟩
      case measure=>simp [intOf];omega
     ·obtain ⟨t',i',r,ht,hi,hpt,hri⟩:=ER.out her
      obtain ⟨b2,o2,ra,rc,rfl,hbl2,q0,q1⟩:=(HP.out.below hb).row hpt
      obtain ⟨b3,o3,rfl,hbl3,r0,r1,r2,r3⟩:=q1.ins hri
      have htn:(t':Int) < (p.length:Int):=by have:=(List.getElem?_eq_some_iff.1 hpt).1;omega
      have hin:(i':Int) < (r.length:Int):=by have:=(List.getElem?_eq_some_iff.1 hri).1;omega
      have HG1:=hide g1;have HT:=hide ht;have HI:=hide hi
      have HRG:Hid ((insE p e).reg=(insE p e).reg):=hide rfl
      rw [her] at i3 HBA HH
      obtain ⟨et,ei,el,er,ew⟩:=e
      simp only at ht hi g1 k1 k2 g2 i0 i1 i2 i3 i4 her
      subst her
      subst ht
      subst hi
      subst g1
      generalize hins:insE p ⟨(t':Int),(i':Int),el,true,ew⟩=ix at *
      clear hins hpt hri q1 ER HG1 HT HI HRG
      by_cases g3:ix.reg=reg
      ·have k3:(ix.reg==reg)=true:=by simp [g3]
       have S2:Hid (lastTo p es (t':Int) idx reg (k+1)=(k:Int)):=hide (by rw [S.out,HH.out,k3,k2];simp)
       clear g3 S HH k1
       go_wp2_with fail
       refine wp_region_bw (by kernel_rfl) (by kernel_rfl) ?_
       repeat (go_big_quiet_step (fail))
       refine wpQuiet_nil ?_
       intro w1 hb1
       go_wp2_with fail
       go_roundw
       case rel=>exact ⟨k+1,by omega,by go_num,by rw [S2.out],HBA.out.trans (hb1.mono HBA.out.size)⟩
       case measure=>simp [intOf];omega
      ·have k3:(ix.reg==reg)=false:=by simp [g3]
       have S2:Hid (lastTo p es (t':Int) idx reg (k+1)=G):=hide (by rw [S.out,HH.out,k3];simp)
       clear g3 S HH k1
       go_wp2_with fail
       refine wp_region_bw (by kernel_rfl) (by kernel_rfl) ?_
       repeat (go_big_quiet_step (fail))
       refine wpQuiet_nil ?_
       intro w1 hb1
       go_wp2_with fail
       go_roundw
       case rel=>exact ⟨k+1,by omega,by go_num,by rw [S2.out],HBA.out.trans (hb1.mono HBA.out.size)⟩
       case measure=>simp [intOf];omega
    ·have k2:decide (e.i < idx)=false:=by simp [g2]
     have S2:Hid (lastTo p es t idx reg (k+1)=G):=hide (by rw [S.out,HH.out,k2];simp)
     subst g1
     clear g2 HH ER S
     go_wp2_with fail
     refine wp_region_bw (by kernel_rfl) (by kernel_rfl) ?_
     repeat (go_big_quiet_step (fail))
     refine wpQuiet_nil ?_
     intro w1 hb1
     go_wp2_with fail
     go_roundw
     case rel=>exact ⟨k+1,by omega,by go_num,by rw [S2.out],HBA.out.trans (hb1.mono HBA.out.size)⟩
     case measure=>simp [intOf];omega
   ·have k1:(e.t==t)=false:=by simp [g1]
    have S2:Hid (lastTo p es t idx reg (k+1)=G):=hide (by rw [S.out,HH.out,k1];simp)
    clear g1
    generalize hitR p t idx reg e=hh at *
    clear HH S ER
    go_wp2_with fail
    refine wp_region_bw (by kernel_rfl) (by kernel_rfl) ?_
    repeat (go_big_quiet_step (fail))
    refine wpQuiet_nil ?_
    intro w1 hb1
    go_wp2_with fail
    go_roundw
    case rel=>exact ⟨k+1,by omega,by go_num,by rw [S2.out],HBA.out.trans (hb1.mono HBA.out.size)⟩
    case measure=>simp [intOf];omega
  ·have e:k=n:=by omega
   subst e
   go_wp2_with fail
   go_ret
   exact ⟨by rw [HR.out];rfl,hb⟩
theorem l6Write_any (vp ve vf vo vk:Value) (p:List (List Ins)) (es:List Ev) (hes:es=evAll p) (x:Xc) (i:Nat) (K:List Int) (w:World) (hp:RepP w vp p) (he:Rep EvE w ve es) (hx:RepX w vf vo x) (hk:Rep IntE w vk K) (hok:fromsOk es x.fr es.length=true) (hi:i < es.length) (hKl:K.length=es.length) (hl:es.length≤1048676) :
 Calls Tryz.prog 69 #[vp,ve, .agg #[vf,vo], .int .i64 i,vk] w fun e w'=>e = .returned (.int .i64 (linkV (depV p es x.fr) K i))∧Below w.heap.size w w':=by
 have HLR:=hide (fun t idx reg w' h h'=>l6Reg_any vp ve p es hes t idx reg w' h h' hl)
 have HP0:=hide hp;have HE0:=hide he
 obtain ⟨e,hek⟩:=get_of_lt (xs:=es) (k:=i) hi
 have hcs:(e.t < 0)∨∃ (t i':Nat) (r:List Ins),e.t=t∧e.i=i'∧p[t]? = some r∧r[i']? = some (insE p e):=by
  rcases ev_cases (p:=p) (k:=i) (e:=e) (by rw [← hes];exact hek) with h | ⟨t,i',r,h1,h2,h3,h4, -⟩
  ·exact .inl (by omega)
  ·exact .inr ⟨t,i',r,h1,h2,h3,h4⟩
 obtain ⟨fa,fc,rfl, -, -, -,hf'⟩:=hx.fr.open
 obtain ⟨oa,oc,rfl, -, -, -, -⟩:=hx.od.open
 obtain ⟨ea,ec,rfl, -, -, -,he'⟩:=he.open
 obtain ⟨pa,pc,rfl, -, -, -,hp'⟩:=hp.open
 obtain ⟨ka,kc,rfl, -, -, -,hk'⟩:=hk.open
 have HF:=hide hf';have HP:=hide hp';have HK:=hide hk';have HOK:=hide hok;have HKL:=hide hKl
 have D0:=hide (fun h=>dep_t0 (p:=p) (fr:=x.fr) hek h)
 have DO:=hide (fun ht h=>dep_op (p:=p) (fr:=x.fr) hek ht h)
 have DR0:=hide (fun ht h h2=>dep_r0 (p:=p) (fr:=x.fr) hek ht h h2)
 have DRR:=hide (fun ht h r j h2 h3=>dep_rr (p:=p) (fr:=x.fr) (r:=r) (j:=j) hek ht h h2 h3)
 have HLK:Hid (linkV (depV p es x.fr) K i=match depV p es x.fr i with | .inl v=>v | .inr j=>(K[j]?).getD (-1)):=hide rfl
 have HBX:=hide ((Below.refl w.heap.size w).alloc (Nat.le_refl _) (.cells #[.slice fa x.fr.length fc, .slice oa x.od.length oc] 29))
 have HX1:=hide (heap_alloc_new w (.cells #[.slice fa x.fr.length fc, .slice oa x.od.length oc] 29))
 have he1:=he'.below HBX.out
 obtain ⟨b,o,rfl,hbl,i0,i1,i2,i3,i4⟩:=he1.ev hek
 have HP1:=hide (HP.out.below HBX.out)
 have HFR1:=hide (HF.out.below HBX.out);have HK1:=hide (HK.out.below HBX.out)
 have HP01:=hide (HP0.out.below HBX.out);have HE01:=hide (HE0.out.below HBX.out)
 have HES:=hide hes
 have hlt':=nat_of_lt hi
 clear hek hes hp he hx hk hok hKl hf' he' hp' hk' he1 HF HP HK HP0 HE0
 generalize linkV (depV p es x.fr) K i=R at *
 generalize hn:es.length=n at *
 generalize x.od.length=on at *
 generalize hfn:x.fr.length=fn at *
 have HN:=hide hn;have HFN:=hide hfn;clear hn hfn
 generalize hpn:p.length=pn at *
 have HPN:=hide hpn;clear hpn
 generalize hkn:K.length=kn at *
 have HKN:=hide hkn;clear hkn
 rcases hcs with ht | ⟨t',i',r,het,hei,hpt,hri⟩
 ·have k1:decide (e.t < 0)=true:=by simp [ht]
  obtain rfl:R=0:=by rw [HLK.out,D0.out ht]
  go_enter Tryz.func69,Tryz.ntmps69
  go_wp2_with fail
  go_ret
  exact ⟨rfl,HBX.out.alloc HBX.out.size _⟩
 ·obtain ⟨et,ei,el,er,ew⟩:=e
  simp only at het hei i0 i1 i2 i3 i4
  subst het
  subst hei
  have ht:¬ ((t':Int) < 0):=by omega
  have k1:decide ((t':Int) < 0)=false:=by simp
  obtain ⟨b2,o2,ra,rc,rfl,hbl2,q0,q1⟩:=HP1.out.row hpt
  obtain ⟨b3,o3,rfl,hbl3,r0,r1,r2,r3⟩:=q1.ins hri
  have htn:(t':Int) < (pn:Int):=by have:=(List.getElem?_eq_some_iff.1 hpt).1;have:=HPN.out;omega
  have hin:(i':Int) < (r.length:Int):=by have:=(List.getElem?_eq_some_iff.1 hri).1;omega
  have DO2:=hide (DO.out ht);have DR2:=hide (DR0.out ht);have DRR2:=hide (DRR.out ht)
  clear DO DR0 DRR
  generalize hins:insE p ⟨(t':Int),(i':Int),el,er,ew⟩=ix at *
  obtain ⟨xo,xl,xr,xv⟩:=ix
  simp only at r0 r1 r2 r3 DO2 DR2 DRR2
  have hlx:=(Array.getElem?_eq_some_iff.1 HX1.out).1
  clear hpt hri q1 hins D0
  generalize r.length=rl at *
  go_enter Tryz.func69,Tryz.ntmps69
  go_wp2_with fail
  have hsz:(w.alloc (.cells #[.slice fa fn fc, .slice oa on oc] 29)).heap.size=w.heap.size+1:=by simp
  generalize hw1:w.alloc (.cells #[.slice fa fn fc, .slice oa on oc] 29)=w1 at *
  clear hw1
  have HSZ:=hide hsz;clear hsz
  have HBA:=hide ((Below.refl w1.heap.size w1).alloc (Nat.le_refl _) (.cells #[.int .i64 (t':Int), .int .i64 (i':Int), .int .i64 el, .bool er, .bool ew] 99))
  have hev:=(heap_alloc_new w1 (.cells #[.int .i64 (t':Int), .int .i64 (i':Int), .int .i64 el, .bool er, .bool ew] 99))
  rw [HSZ.out] at hev
  have HEV:=hide hev;clear hev
  go_cut [12] (fun s7 W => ∃ b7:Nat,s7 = .pointer (some ⟨b7,0,none⟩)∧b7 < W.heap.size∧W.cell? ⟨b7,0,none⟩=some (.int .i64 xo)∧W.cell? ⟨b7,2,none⟩=some (.int .i64 xr)∧W.cell? ⟨b7,3,none⟩=some (.int .i64 xv)∧Below (w1.alloc (.cells #[.int .i64 (t':Int), .int .i64 (i':Int), .int .i64 el, .bool er, .bool ew] 99)).heap.size (w1.alloc (.cells #[.int .i64 (t':Int), .int .i64 (i':Int), .int .i64 el, .bool er, .bool ew] 99)) W)
  case first =>
   have e0:=cell_of_heapV HEV.out (k:=0) rfl
   have e1:=cell_of_heapV HEV.out (k:=1) rfl
   have le:=lt_of_cell e0
   go_region_held3 (fun W=>W.cell? ⟨w.heap.size+1,0,none⟩=some (.int .i64 (t':Int))∧W.cell? ⟨w.heap.size+1,1,none⟩=some (.int .i64 (i':Int))∧W.cell? ⟨b2,o2+t',none⟩=some (.slice (some ⟨b3,o3,none⟩) rl rc) ∧
    W.cell? ⟨b3,o3+i' * 4,none⟩=some (.int .i64 xo)∧W.cell? ⟨b3,o3+i' * 4+1,none⟩=some (.int .i64 xl)∧W.cell? ⟨b3,o3+i' * 4+2,none⟩=some (.int .i64 xr)∧W.cell? ⟨b3,o3+i' * 4+3,none⟩=some (.int .i64 xv)) ((simp [go_sem, *])) (first | fail)
   all_goals
    go_wp2_with fail
    go_meet
    refine ⟨_,rfl,by first | (simp;done) | (simp;omega),by simp [go_sem],by simp [go_sem],by simp [go_sem], ?_⟩
    exact ((Below.refl _ _).alloc (Nat.le_refl _) _).drew
  case rest =>
   obtain ⟨b7,rfl,hb7,m0,m2,m3,hbW⟩:=hcut
   have HBW:=hide (HBA.out.trans (hbW.mono HBA.out.size))
   have HEVc:=hide ((hbW.block (w.heap.size+1) (Array.getElem?_eq_some_iff.1 HEV.out).1).trans HEV.out)
   clear hbW HBA HEV i0 i1 i2 i3 i4 q0 r0 r1 r2 r3
   by_cases hop:xo=3
   ·subst hop
    have e0:=cell_of_heapV HEVc.out (k:=0) rfl
    have e1:=cell_of_heapV HEVc.out (k:=1) rfl
    have le:=lt_of_cell e0
    have HL:=hide (HLR.out (t':Int) (i':Int) xr wc (HP01.out.below HBW.out) (HE01.out.below HBW.out))
    have DR0':=hide (DR2.out rfl);have DRR':=hide (DRR2.out rfl)
    clear DR2 DRR2 DO2 HLR
    go_wp2_with fail
    (with_reducible refine HL.out.mono ?_);rintro e w5 ⟨rfl,hb5⟩
    have HB5:=hide (HBW.out.trans (hb5.mono HBW.out.size))
    clear hb5 e0 e1 le m0 m2 m3 HL HEVc
    rcases lastRd_cases p es (t':Int) (i':Int) xr with hlr | ⟨rr,e2,hlr,he2,hrd⟩
    ·obtain rfl:R=0:=by rw [HLK.out,DR0'.out (by rw [hlr];omega)]
     rw [hlr]
     clear hlr DR0' DRR'
     go_wp2_with fail
     go_ret
     exact ⟨rfl,HBX.out.trans (HB5.out.mono HBX.out.size)⟩
    ·obtain ⟨j,e3,hfj,hej, -, -, -⟩:=from_write (k:=rr) (by rw [HN.out];exact HOK.out) he2 hrd
     have hjn:j < kn:=by have:=(List.getElem?_eq_some_iff.1 hej).1;have:=HN.out;have:=HKL.out;omega
     obtain ⟨u,hu⟩:=get_of_lt (xs:=K) (k:=j) (by rw [HKN.out];exact hjn)
     obtain rfl:R=u:=by rw [HLK.out,DRR'.out rr j hlr hfj];simp [hu]
     rw [hlr]
     obtain ⟨b4,o4,rfl,hb4,j0⟩:=(HFR1.out.below HB5.out).int hfj
     obtain ⟨b5,o5,rfl,hb5,u0⟩:=(HK1.out.below HB5.out).int hu
     have hrn:(rr:Int) < (fn:Int):=by have:=(List.getElem?_eq_some_iff.1 hfj).1;have:=HFN.out;omega
     have hjn':(j:Int) < (kn:Int):=by omega
     have hr0:decide ((rr:Int) < 0)=false:=by simp
     have hxb:=(HB5.out.block w.heap.size hlx).trans HX1.out
     have x0:=cell_of_heapV hxb (k:=0) rfl
     have xl0:=lt_of_cell x0
     clear hlr hfj hu DR0' DRR' he2 hej hxb
     go_wp2_with fail
     go_ret
     exact ⟨rfl,HBX.out.trans (HB5.out.mono HBX.out.size)⟩
   ·have k2:(xo != 3)=true:=by simp [hop]
    obtain rfl:R=xv:=by rw [HLK.out,DO2.out hop]
    clear hop
    go_wp2_with fail
    go_ret
    exact ⟨rfl,HBX.out.trans (HBW.out.mono HBX.out.size)⟩
end Go.Proofs.YtkfhgnkonaafgaaGreatDoor
namespace Go.Proofs.YtkfhgnkonaafgaaGreatDoor
open Go.RowKit
theorem evAll_ge (p:List (List Ins)):3≤(evAll p).length:=by unfold evAll;simp [evHead_length]
theorem rep_snoc (k:Nat) (x:Int):List.replicate k x++[x]=List.replicate (k+1) x:=by
 rw [show k+1=k+1 from rfl,List.replicate_succ']
theorem l6Values_any (v vf vo:Value) (p:List (List Ins)) (x:Xc) (w:World) (hp:RepP w v p) (hx:RepX w vf vo x) (hl:p.flatten.length≤1048576) (hok:execOk p x=true) :
 Calls Tryz.prog 36 #[v, .agg #[vf,vo]] w (RetNB w (valsL p x.fr,valsOk p x.fr)):=by
 have HE:=hide (fun w' h=>l6Events_any v p w' h hl)
 unfold execOk at hok
 simp only [Bool.and_eq_true,decide_eq_true_eq] at hok
 obtain ⟨hpv,hfl,hol,hfo,hoo⟩:=hok
 have HFO:=hide hfo
 have hen:=evAll_le hpv
 have hen3:=evAll_ge p
 have HDV:=hide (fun i v (h:depV p (evAll p) x.fr i = .inl v)=>dep_val hpv h)
 clear hpv hol hoo hfo hfl
 have HP:=hide hp;have HX:=hide hx
 obtain ⟨pa,pc,rfl, -,hpn, -, -⟩:=hp.open
 obtain ⟨fa,fc,rfl, -,hfn, -, -⟩:=hx.fr.open
 obtain ⟨oa,oc,rfl, -,hon, -, -⟩:=hx.od.open
 clear hp hx
 have HRV:Hid ((valsL p x.fr,valsOk p x.fr)=(valTo (evAll p) (cX p x.fr) (evAll p).length,okTo (evAll p) (cX p x.fr) (evAll p).length)):=hide rfl
 generalize (valsL p x.fr,valsOk p x.fr)=R at *
 have HC:Hid (cX p x.fr=chain (depV p (evAll p) x.fr) (evAll p).length):=hide rfl
 generalize cX p x.fr=c at *
 generalize hes:evAll p=es at *
 have HES:=hide hes.symm
 have HOS:=hide (fun k e h=>okTo_succ (es:=es) c (k:=k) (e:=e) h)
 have HON:=hide (fun k e h hw hc=>okTo_no (es:=es) c (k:=k) (e:=e) h hw hc)
 have HVL:=hide (valTo_length es c)
 have HVG:=hide (fun i e h1 h2=>valTo_get (es:=es) c (i:=i) (e:=e) (k:=es.length) h1 (Nat.le_refl _) h2)
 have HB0:=hide ((Below.refl w.heap.size w).alloc (Nat.le_refl _) (.cells #[.slice fa x.fr.length fc, .slice oa x.od.length oc] 29))
 have HBX:=hide (heap_alloc_new w (.cells #[.slice fa x.fr.length fc, .slice oa x.od.length oc] 29))
 have HP0:=hide (HP.out.below HB0.out);have HX0:=hide (HX.out.below HB0.out)
 clear hes
 generalize hfn':x.fr.length=fn at *
 generalize hon':x.od.length=on at *
 generalize hpn':p.length=pn at *
 clear hfn' hon' hpn'
 have HKI0:=hide (KInv.start (depV p es x.fr) es)
 have HKD:=hide (fun (r:Nat) (K:List Int) (h:KInv (depV p es x.fr) es r 0 K) hr=>h.done hr)
 have HW:=hide (fun (vp ve vf vo vk:Value) (i:Nat) (K:List Int) (w':World) h1 h2 h3 h4 h5 h6=>l6Write_any vp ve vf vo vk p es HES.out x i K w' h1 h2 h3 h4 HFO.out h5 h6 (by omega))
 have HLT:=hide (fun i j h1 h2=>dep_lt (p:=p) HFO.out i j h1 h2)
 have HIN:=hide (fun i j h=>dep_inr (p:=p) HFO.out (i:=i) (j:=j) h)
 generalize hn:es.length=n at *
 have HN:=hide hn;clear hn
 generalize depV p es x.fr=d at *
 go_enter Tryz.func36,Tryz.ntmps36
 go_wp2_with fail
 generalize hw1:w.alloc (.cells #[.slice fa fn fc, .slice oa on oc] 29)=w1 at *
 clear hw1
 (with_reducible refine (HE.out _ HP0.out).mono ?_);rintro e w2 ⟨ve,rfl,oe,hb2⟩
 have hre:=oe.rep
 obtain ⟨ea,ec,rfl, -, -, -,hre⟩:=hre.open
 rw [HN.out] at hre ⊢
 have HRE:=hide hre;have HP2:=hide (HP0.out.below hb2);have HX2:=hide (HX0.out.below hb2)
 have HB2:=hide (HB0.out.trans (hb2.mono HB0.out.size))
 have HBX2:=hide ((hb2.block w.heap.size (Array.getElem?_eq_some_iff.1 HBX.out).1).trans HBX.out)
 clear oe hre hb2 HB0 HBX HP0 HX0 HP HX HE
 go_wp2_with fail
 go_loopw [7,8] (fun s i wr => ∃ k:Nat,k≤n∧i = .int .i64 k∧OwnN wr w2.heap.size s (List.replicate k (-1))∧Below w2.heap.size w2 wr) (fun _ i _=>n - (intOf i).toNat)
 case atStart=>exact ⟨0,Nat.zero_le _,rfl,Own.empty (E:=IntE) _ w2 (Nat.le_refl _),(Below.refl _ _).alloc (Nat.le_refl _) _⟩
 case round =>
  obtain ⟨k,hk,rfl,hown,hb⟩:=hrel
  by_cases hlt:k < n
  ·have hlt':=nat_of_lt hlt
   have hlen:(List.replicate k (-1:Int)).length≤68719476736:=by simp;omega
   have HS:=hide (rep_snoc k (-1))
   generalize List.replicate k (-1:Int)=G at *
   go_wp2_with (at_builtin;refine wpList_app IntE 3 Tryz.infoInt rfl Tryz.underlying24 w2.heap.size _ G (-1) (hown.alloc _) (by decide) hlen (by simp;have:=hb.size;omega) rfl _ _ rfl rfl _ 0 1 rfl (news_allocV (by simp)) ?_;intro v' w3 hown3 hgr3)
   have hb3:=below_app hb hown hgr3
   go_roundw
   case rel=>exact ⟨k+1,by omega,by go_num,by rw [← HS.out];exact hown3,hb3⟩
   case measure=>simp [intOf];omega
  ·obtain rfl:k=n:=by omega
   have HO3:=hide hown;clear hown
   rcases HO3.out.shape with ⟨rfl,h0⟩ | ⟨g,cap,rfl,hg1,hg2,hg3,hg4⟩
   ·exfalso;have:=congrArg List.length h0;simp at this;omega
   rw [List.length_replicate] at HO3 hg3 ⊢
   have HB3:=hide hb;clear hb
   go_wp2_with fail
   go_loopw [9] (fun i wr => ∃ r:Nat,r≤k∧i = .int .i64 r∧(∃ K,Hid (KInv d es r 0 K)∧OwnN wr w2.heap.size (.slice (some ⟨g,0,none⟩) k cap) K)∧Below w2.heap.size w2 wr) (fun i _=>k - (intOf i).toNat)
   case atStart=>exact ⟨0,Nat.zero_le _,rfl,⟨_,HKI0,HO3.out⟩,HB3.out⟩
   case round =>
    obtain ⟨r,hr,rfl,⟨K,hki,hown⟩,hb⟩:=hrel
    by_cases hltr:r < k
    ·have hltr':=nat_of_lt hltr
     have HO4:=hide hown;clear hown
     go_wp2_with fail
     go_loopw [10] (fun i wr => ∃ t:Nat,t≤k∧i = .int .i64 t∧(∃ K,Hid (KInv d es r t K)∧OwnN wr w2.heap.size (.slice (some ⟨g,0,none⟩) k cap) K)∧Below w2.heap.size w2 wr) (fun i _=>k - (intOf i).toNat)
     case atStart=>exact ⟨0,Nat.zero_le _,rfl,⟨K,hki,HO4.out⟩,hb⟩
     case round =>
      obtain ⟨t,ht,rfl,⟨K2,hkt,hown⟩,hb4⟩:=hrel
      by_cases hltt:t < k
      ·obtain ⟨e,hek⟩:=get_of_lt (xs:=es) (k:=t) (by rw [HN.out];exact hltt)
       obtain ⟨b,o,rfl,hbl,i0,i1,i2,i3,i4⟩:=(HRE.out.below hb4).ev hek
       have hltt':=nat_of_lt hltt
       have HEK:=hide hek;clear hek
       clear i0 i1 i2 i3
       cases hew:e.w
       ·rw [hew] at i4
        have HK2:=hide (hkt.out.skip HEK.out hew)
        clear hew
        go_wp2_with fail
        go_roundw
        case rel=>exact ⟨t+1,by omega,by go_num,⟨K2,HK2,hown⟩,hb4⟩
        case measure=>simp [intOf];omega
       ·rw [hew] at i4
        have HK2:=hide (hkt.out.step HEK.out hew (by rw [HN.out];exact HLT.out) (fun j h=>HIN.out t j h) HDV.out)
        have hKl:=hkt.out.len
        obtain ⟨u,hu⟩:=get_of_lt (xs:=K2) (k:=t) (by rw [hKl,HN.out];exact hltt)
        obtain ⟨hgl,f0,hfr⟩:=hown.int hu
        have HWC:=hide (HW.out (.slice pa pn pc) (.slice (some ⟨b,o,none⟩) k ec) (.slice fa fn fc) (.slice oa on oc) (.slice (some ⟨g,0,none⟩) k cap) t K2 wr (HP2.out.below hb4) (HRE.out.below hb4) (HX2.out.below hb4) hown.rep hltt (by rw [hKl,HN.out]))
        have hxb:=(hb4.block w.heap.size (Array.getElem?_eq_some_iff.1 HBX2.out).1).trans HBX2.out
        have x0:=cell_of_heapV hxb (k:=0) rfl
        have x1:=cell_of_heapV hxb (k:=1) rfl
        have xl:=lt_of_cell x0
        have HU:=hide hu;have HOW:=hide hown;have HB4:=hide hb4
        clear hew hKl hu hown hxb hkt f0 hfr
        generalize linkV d K2 t=lv at *
        go_wp2_with fail
        (with_reducible refine HWC.out.mono ?_);rintro e w7 ⟨rfl,hb7⟩
        have O7:=hide (HOW.out.below hb7)
        have HB7:=hide (HB4.out.trans (hb7.mono HB4.out.size))
        obtain ⟨hgl7,f7,hfr7⟩:=O7.out.int HU.out
        have OS:=hide (O7.out.setInt HU.out lv)
        clear hb7 x0 x1 xl
        go_wp2_with fail
        go_roundw
        case rel=>exact ⟨t+1,by omega,by go_num,⟨_,HK2,OS.out⟩,HB7.out.setCell hg1 _⟩
        case measure=>simp [intOf];omega
      ·have e:t=k:=by omega
       have HK2:=hide (hkt.out.next (by rw [HN.out];exact e))
       go_wp2_with fail
       go_roundw
       case rel=>exact ⟨r+1,by omega,by go_num,⟨K2,HK2,hown⟩,hb4⟩
       case measure=>simp [intOf];omega
    ·obtain rfl:r=k:=by omega
     have hK:=HKD.out r K hki.out rfl
     rw [← HC.out] at hK
     have HOW:=hide hown;have HB4:=hide hb
     have HKE:=hide hK
     clear hown hb hki hK
     go_wp2_with fail
     go_loop [11] (fun i => ∃ t:Nat,t≤r∧i = .int .i64 t∧Hid (okTo es c t=true)) (fun i=>r - (intOf i).toNat)
     case atStart=>exact ⟨0,Nat.zero_le _,rfl,hide (by simp [okTo])⟩
     case round =>
      obtain ⟨t,ht,rfl,hok⟩:=hrel
      by_cases hltt:t < r
      ·obtain ⟨e,hek⟩:=get_of_lt (xs:=es) (k:=t) (by rw [HN.out];exact hltt)
       obtain ⟨b,o,rfl,hbl,i0,i1,i2,i3,i4⟩:=(HRE.out.below HB4.out).ev hek
       have hltt':=nat_of_lt hltt
       have hkt:=HVG.out t e hltt hek
       rw [← HKE.out] at hkt
       obtain ⟨hgl,f0,hfr⟩:=HOW.out.int hkt
       have OS:=hide (HOS.out t e hek);have ON:=hide (HON.out t e hek)
       have HV1:Hid (val1 c t e=if e.w=true then (c t).getD (-1) else -1):=hide rfl
       clear i0 i1 i2 i3 hek hkt hfr
       cases hew:e.w
       ·rw [hew] at i4
        have OK2:Hid (okTo es c (t+1)=true):=hide (by rw [OS.out,hok.out,hew];rfl)
        clear hew
        go_wp2_with fail
        go_round
        case rel=>exact ⟨t+1,by omega,by go_num,OK2⟩
        case measure=>simp [intOf];omega
       ·rw [hew] at i4
        cases hct:c t with
        | none =>
         rw [HV1.out,if_pos hew,hct] at f0
         have RE:Hid (R=(K,false)):=hide (by rw [HRV.out,ON.out hew hct,HKE.out])
         clear hew hct
         go_wp2_with fail
         go_ret2
         rw [RE.out]
         exact ⟨⟨some ⟨g,0,none⟩,r,cap⟩,rfl,HOW.out.mono HB2.out.size,HB2.out.trans (HB4.out.mono HB2.out.size)⟩
        | some vv =>
         rw [HV1.out,if_pos hew,hct] at f0
         have OK2:Hid (okTo es c (t+1)=true):=hide (by rw [OS.out,hok.out,hct];simp)
         have hvv:0≤vv:=by
          have h:=hct
          rw [HC.out] at h
          exact (chain_val HDV.out h).1
         have k3:decide (vv < 0)=false:=by simp [hvv]
         simp only [Option.getD_some] at f0
         clear hew hct
         go_wp2_with fail
         go_round
         case rel=>exact ⟨t+1,by omega,by go_num,OK2⟩
         case measure=>simp [intOf];omega
      ·have e:t=r:=by omega
       subst e
       have RE:Hid (R=(K,true)):=hide (by rw [HRV.out,hok.out,HKE.out])
       go_wp2_with fail
       go_ret2
       rw [RE.out]
       exact ⟨⟨some ⟨g,0,none⟩,t,cap⟩,rfl,HOW.out.mono HB2.out.size,HB2.out.trans (HB4.out.mono HB2.out.size)⟩
end Go.Proofs.YtkfhgnkonaafgaaGreatDoor
namespace Go.Proofs.YtkfhgnkonaafgaaGreatDoor
open Go.RowKit
end Go.Proofs.YtkfhgnkonaafgaaGreatDoor
namespace Go.Proofs.YtkfhgnkonaafgaaGreatDoor
open Go.RowKit
end Go.Proofs.YtkfhgnkonaafgaaGreatDoor
namespace Go.Proofs.YtkfhgnkonaafgaaGreatDoor
open Go.RowKit
structure HB (w:World) (vb:Nat) (ps:Slc) (xs:List Int):Prop where
 blk:w.heap[vb]? = some (.cells (.slice ps.a ps.n ps.cap :: xs.map (Value.int .u8)).toArray 115 (0,0))
theorem HB.vb {w:World} {vb:Nat} {ps:Slc} {xs:List Int} (h:HB w vb ps xs):VB w vb ps xs:=
 ⟨cell_of_heapV h.blk (k:=0) rfl,fun i x hx=>cell_of_heapV h.blk (k:=1+i) (by simp [Nat.add_comm 1 i,hx])⟩
theorem HB.below {w w':World} {vb:Nat} {ps:Slc} {xs:List Int} (h:HB w vb ps xs) (hb:Below w.heap.size w w'):HB w' vb ps xs:=⟨(hb.block vb (Array.getElem?_eq_some_iff.1 h.blk).1).trans h.blk⟩
theorem HB.set {w:World} {vb:Nat} {ps:Slc} {xs:List Int} (h:HB w vb ps xs) (i q:Nat) (v:Int) (hq:q=1+i):HB (w.setCell ⟨vb,q,none⟩ (.int .u8 v)) vb ps (xs.set i v):=by
 subst hq
 refine ⟨(heap_setCell_same w vb (1+i) _ _ (.int .u8 v) h.blk).trans ?_⟩
 rw [List.setIfInBounds_toArray,Nat.add_comm,List.set_cons_succ,List.map_set]
theorem HB.lt {w:World} {vb:Nat} {ps:Slc} {xs:List Int} (h:HB w vb ps xs):vb < w.heap.size:=(Array.getElem?_eq_some_iff.1 h.blk).1
theorem evAll_ge0 (p:List (List Ins)):3≤(evAll p).length:=by unfold evAll;simp [evHead_length]
theorem insValid_reg {x:Ins} (h:insValid x=true):0≤x.reg∧x.reg≤2:=by
 unfold insValid inB at h
 split at h
 ·simp at h;omega
 ·split at h
  ·simp at h;omega
  ·split at h
   ·simp at h;omega
   ·split at h
    ·simp at h;omega
    ·cases h
theorem order_le {p:List (List Ins)} {x:Xc} (hok:execOk p x=true) {l:Nat} {o:List Int} (hl:l < 3) (ho:x.od[l]? = some o):o.length≤(evAll p).length:=by
 unfold execOk at hok
 simp only [Bool.and_eq_true] at hok
 obtain ⟨o',h1,h2⟩:=ordersOk_get hok.2.2.2.2 hl
 obtain rfl:o'=o:=by rw [h1] at ho;simpa using ho
 unfold orderOk at h2
 simp only [Bool.and_eq_true,decide_eq_true_eq] at h2
 rw [h2.1.length_eq]
 exact wrL_length _ _
theorem outcomeOf_any (v vf vo:Value) (p:List (List Ins)) (x:Xc) (w:World) (hp:RepP w v p) (hx:RepX w vf vo x) (hl:p.flatten.length≤1048576) (hok:execOk p x=true) :
 Calls Tryz.prog 43 #[v, .agg #[vf,vo]] w (RetNB w (if valsOk p x.fr=true then (outL p (evAll p) x (valsL p x.fr),true) else ([],false))):=by
 have HE:=hide (fun w' h=>events_any v p w' h hl)
 have HVO:=hide (fun w' h h'=>valuesOf_any v vf vo p x w' h h' hl hok)
 have hok2:=hok
 unfold execOk at hok2
 simp only [Bool.and_eq_true,decide_eq_true_eq] at hok2
 obtain ⟨hpv,hfl,hol, -, -⟩:=hok2
 have hen:=evAll_le hpv
 have hen3:=evAll_ge0 p
 have hp3:=(valid_le hpv).1
 have HVL:=hide (valid_le hpv).2.2.1
 have HVR:=hide (fun k e (h:valsOk p x.fr=true) h1 h2=>val_read (k:=k) (e:=e) hok h h1 h2)
 have HVD:=hide (fun l (h:valsOk p x.fr=true) h1=>val_order (l:=l) hok h h1)
 have HOLN:=hide (fun l o (h1:l < 3) h2=>order_le (l:=l) (o:=o) hok h1 h2)
 have HBB:=hide (fun k (h:valsOk p x.fr=true) (hk:k≤3)=>finB_bound hok h hk)
 have HOB:=hide (outB_eq x (valsL p x.fr) hp3)
 have HEVC:=hide (fun k e (h:(evAll p)[k]? = some e) h2=>ev_read (p:=p) h h2)
 have HK0:=hide (bytesK_zero p (evAll p) x.fr (valsL p x.fr))
 have HKS:=hide (fun k e h h2=>bytesK_skip (p:=p) (es:=evAll p) x.fr (valsL p x.fr) (k:=k) (e:=e) h h2)
 have HKR:=hide (fun k t g e h h2 h3 h4 h5 h6=>bytesK_read (p:=p) (es:=evAll p) x.fr (valsL p x.fr) (k:=k) (t:=t) (g:=g) (e:=e) h h2 h3 h4 h5 h6)
 have HKL:=hide (bytesK_length p (evAll p) x.fr (valsL p x.fr))
 have HF0:=hide (finB_zero p (evAll p) x (valsL p x.fr))
 have HFS:=hide (fun k hk=>finB_succ p (evAll p) x (valsL p x.fr) (k:=k) hk)
 have HFL:=hide (finB_length p (evAll p) x (valsL p x.fr))
 have HLV:=hide (valTo_length (evAll p) (cX p x.fr))
 have HLL:Hid ((valsL p x.fr).length=(evAll p).length):=hide (valTo_length _ _ _ (Nat.le_refl _))
 clear hpv
 have HP:=hide hp;have HX:=hide hx
 have HFLE:=hide hfl;have HOLE:=hide hol
 obtain ⟨pa,pc,rfl, -,hpn, -, -⟩:=hp.open
 obtain ⟨fa,fc,rfl, -,hfn, -, -⟩:=hx.fr.open
 obtain ⟨oa,oc,rfl, -,hon, -, -⟩:=hx.od.open
 clear hp hx hok hfl hol
 have HRV:Hid ((if valsOk p x.fr=true then (outL p (evAll p) x (valsL p x.fr),true) else ([],false))=if valsOk p x.fr=true then (outL p (evAll p) x (valsL p x.fr),true) else ([],false)):=hide rfl
 generalize hRR:(if valsOk p x.fr=true then (outL p (evAll p) x (valsL p x.fr),true) else ([],false))=R
 have HR:=hide hRR
 clear hRR HRV
 have HB0:=hide ((Below.refl w.heap.size w).alloc (Nat.le_refl _) (.cells #[.slice fa x.fr.length fc, .slice oa x.od.length oc] 29))
 have HBX:=hide (heap_alloc_new w (.cells #[.slice fa x.fr.length fc, .slice oa x.od.length oc] 29))
 have HP0:=hide (HP.out.below HB0.out);have HX0:=hide (HX.out.below HB0.out)
 generalize hes:evAll p=es at *
 generalize hvv:valsL p x.fr=vals at *
 generalize hvo:valsOk p x.fr=ok at *
 clear hes hvv hvo
 generalize hfn':x.fr.length=fn at *
 generalize hon':x.od.length=on at *
 generalize hpn':p.length=pn at *
 generalize hen':es.length=en at *
 generalize hvn':vals.length=vn at *
 have HFN:=hide hfn';have HON:=hide hon';have HPN:=hide hpn';have HEN:=hide hen';have HVN:=hide hvn'
 clear hfn' hon' hpn' hen' hvn'
 have e0:=cell_of_heapV HBX.out (k:=0) rfl
 have e1:=cell_of_heapV HBX.out (k:=1) rfl
 have lb:=lt_of_cell e0
 go_enter Tryz.func43,Tryz.ntmps43
 go_wp2_with fail
 generalize hw1:w.alloc (.cells #[.slice fa fn fc, .slice oa on oc] 29)=w1 at *
 clear hw1
 (with_reducible refine (HVO.out _ HP0.out HX0.out).mono ?_);rintro e w2 ⟨u,rfl,ou,hb2⟩
 cases ok
 ·obtain rfl:R=([],false):=by rw [← HR.out,if_neg (by simp)]
  have HB2:=hide (HB0.out.trans (hb2.mono HB0.out.size))
  clear ou hb2 e0 e1 lb
  go_wp2_with fail
  go_ret2
  exact RetNB.no HB2.out
 ·have ou2:Own IntE 3 w2 w1.heap.size u.v vals:=ou
  have HR2:Hid (R=(outL p es x vals,true)):=hide (by rw [← HR.out,if_pos rfl])
  clear ou HR
  obtain ⟨ua,un,uc⟩:=u
  obtain ⟨ua',uc',heq, -, -, -,hur⟩:=ou2.rep.open
  simp only [Value.slice.injEq] at heq
  obtain ⟨rfl,rfl,rfl⟩:=heq
  rw [HVN.out] at hur ⊢
  have HU:=hide hur
  have hx2:=(hb2.block w.heap.size (Array.getElem?_eq_some_iff.1 HBX.out).1).trans HBX.out
  have HX2B:=hide hx2
  have HP2:=hide (HP0.out.below hb2);have HX2:=hide (HX0.out.below hb2)
  have HB2:=hide (HB0.out.trans (hb2.mono HB0.out.size))
  have HA:=hide (heap_alloc_new w2 (.cells (.slice pa pn pc :: (List.replicate 15 (0:Int)).map (Value.int .u8)).toArray 115))
  have hb3:=(Below.refl w2.heap.size w2).alloc (Nat.le_refl _) (.cells (.slice pa pn pc :: (List.replicate 15 (0:Int)).map (Value.int .u8)).toArray 115)
  have HE3:=hide (HE.out _ (HP2.out.below hb3))
  have HB3:=hide hb3
  have hz3:w2.heap.size < (w2.alloc (.cells (.slice pa pn pc :: (List.replicate 15 (0:Int)).map (Value.int .u8)).toArray 115)).heap.size:=by simp
  simp only [List.replicate,List.map_cons,List.map_nil] at HA HE3 HB3 hz3
  clear hur ou2 e0 e1 lb hx2 hb2 HB0 HBX HP0 HX0 hb3
  go_wp2_with fail
  (with_reducible refine HE3.out.mono ?_);rintro e w4 ⟨ve,rfl,oe,hb4⟩
  rcases oe.shape with ⟨rfl,h0⟩ | ⟨ge,ec,rfl,hge1,hge2,hge3,hge4⟩
  ·exfalso
   have h1:=HEN.out
   rw [h0] at h1
   simp at h1
   omega
  rw [HEN.out] at oe hge3 ⊢
  have HB4:=hide (HB3.out.trans (hb4.mono HB3.out.size))
  have HV4:Hid (HB w4 w2.heap.size ⟨pa,pn,pc⟩ (bytesK p es x.fr vals 0)):=hide ⟨by rw [HK0.out];exact (hb4.block w2.heap.size (Array.getElem?_eq_some_iff.1 HA.out).1).trans HA.out⟩
  have HOE:=hide oe
  have hgv:w2.heap.size < ge:=Nat.lt_of_lt_of_le hz3 hge1
  clear oe hb4 HE3 HA hge1 HK0
  go_wp2_with fail
  go_loopw [26] (fun i wr => ∃ k:Nat,k≤en∧i = .int .i64 k∧HB wr w2.heap.size ⟨pa,pn,pc⟩ (bytesK p es x.fr vals k)∧Own EvE 99 wr (w2.heap.size+1) (.slice (some ⟨ge,0,none⟩) en ec) es∧Below w2.heap.size w2 wr) (fun i _=>en - (intOf i).toNat)
  case atStart=>exact ⟨0,Nat.zero_le _,rfl,HV4.out,HOE.out.mono hz3,HB4.out⟩
  case round =>
   obtain ⟨k,hk,rfl,hv,hoe,hbr⟩:=hrel
   by_cases hlt:k < en
   ·obtain ⟨e,hek⟩:=get_of_lt (xs:=es) (k:=k) (by rw [HEN.out];exact hlt)
    obtain ⟨b,o,hbo,hbl,i0,i1,i2,i3,i4⟩:=hoe.rep.ev hek
    simp only [Option.some.injEq,Addr.mk.injEq,and_true] at hbo
    obtain ⟨rfl,rfl⟩:=hbo
    simp only [Nat.zero_add] at i0 i1 i2 i3 i4
    have hlt':=nat_of_lt hlt
    have HOEr:=hide hoe;have HVr:=hide hv;have HBr:=hide hbr
    have hba:=(Below.refl wr.heap.size wr).alloc (Nat.le_refl _) (.cells #[.int .i64 e.t, .int .i64 e.i, .int .i64 e.l, .bool e.r, .bool e.w] 99)
    have HVA:=hide (hv.below hba);have HOA:=hide (hoe.below hba);have HBA:=hide (hbr.trans (hba.mono hbr.size))
    cases her:e.r
    ·have KS:=hide (HKS.out k e hek her)
     rw [her] at i3 HVA HOA HBA
     clear hek her hv hoe hba
     go_wp2_with fail
     go_roundw
     case rel=>exact ⟨k+1,by omega,by go_num,by rw [KS.out];exact HVA.out,HOA.out,HBA.out⟩
     case measure=>simp [intOf];omega
    ·obtain ⟨t',i',r,het,hei,hpt,hri⟩:=HEVC.out k e (by first | exact hek | (rw [← HEN.out];exact hek)) her
     obtain ⟨j,vv,hfj,hvj,hv0,hv3⟩:=HVR.out k e trivial hek her
     have hreg:=insValid_reg ((HVL.out r (List.mem_of_getElem? hpt)).2 _ (List.mem_of_getElem? hri))
     obtain ⟨g,hg⟩:∃ g:Nat,(insE p e).reg=g:=⟨(insE p e).reg.toNat,by omega⟩
     obtain ⟨b2,o2,ra,rc,rfl,hbl2,q0,q1⟩:=HP2.out.row hpt
     obtain ⟨b3,o3,rfl,hbl3,r0,r1,r2,r3⟩:=q1.ins hri
     obtain ⟨b4,o4,rfl,hbl4,f0⟩:=HX2.out.fr.int hfj
     obtain ⟨b5,o5,rfl,hbl5,u0⟩:=HU.out.int hvj
     have htp:t' < pn:=by have:=(List.getElem?_eq_some_iff.1 hpt).1;have:=HPN.out;omega
     have htn:(t':Int) < (pn:Int):=by omega
     have ht3:(t':Int) < 3:=by omega
     have hg3:(g:Int) < 3:=by omega
     have hin:(i':Int) < (r.length:Int):=by have:=(List.getElem?_eq_some_iff.1 hri).1;omega
     have hkf:(k:Int) < (fn:Int):=by have:=(List.getElem?_eq_some_iff.1 hfj).1;have:=HFN.out;omega
     have hjv:(j:Int) < (vn:Int):=by have:=(List.getElem?_eq_some_iff.1 hvj).1;have:=HVN.out;omega
     have KR:=hide (HKR.out k t' g e hek her het hg (by omega) (by omega))
     have VE:=hide (valAt_eq hfj hvj)
     have q0:=(hbr.cell (p:=⟨b2,o2+t',none⟩) hbl2).trans q0
     have r2:=(hbr.cell (p:=⟨b3,o3+i' * 4+2,none⟩) hbl3).trans r2
     rw [hg] at r2
     have f0:=(hbr.cell (p:=⟨b4,o4+k,none⟩) hbl4).trans f0
     have u0:=(hbr.cell (p:=⟨b5,o5+j,none⟩) hbl5).trans u0
     have hwl2:=(Array.getElem?_eq_some_iff.1 HX2B.out).1
     have x0:=(hbr.cell (p:=⟨w.heap.size,0,none⟩) hwl2).trans (cell_of_heapV HX2B.out (k:=0) rfl)
     have hbrz:=hbr.size
     have n2:b2≠w2.heap.size:=by omega
     have n3:b3≠w2.heap.size:=by omega
     have n4:b4≠w2.heap.size:=by omega
     have n5:b5≠w2.heap.size:=by omega
     have n6:w.heap.size≠w2.heap.size:=by omega
     have hvl:=hv.lt
     have n7:wr.heap.size≠w2.heap.size:=by omega
     have l2:b2 < wr.heap.size:=by omega
     have l3:b3 < wr.heap.size:=by omega
     have l4:b4 < wr.heap.size:=by omega
     have l5:b5 < wr.heap.size:=by omega
     have l6:w.heap.size < wr.heap.size:=by omega
     have vfz:=frozen_of_heapV hv.blk
     obtain ⟨yv,hyv⟩:=get_of_lt (xs:=bytesK p es x.fr vals k) (k:=3+3 * t'+g) (by rw [HKL.out];omega)
     have y0:=hv.vb.cs _ _ hyv
     rw [show 1+(3+3 * t'+g)=4+t' * 3+g by omega] at y0
     have hw8:IntKind.u8.wrap vv=vv:=by rw [IntKind.wrap_u8];omega
     obtain ⟨et,ei,el,er,ew⟩:=e
     simp only at het hei her i0 i1 i2 i3 i4 HVA HOA HBA
     subst het
     subst hei
     subst her
     generalize r.length=rl at *
     clear hek hpt hri hfj hvj hv hoe hba q1 r0 r1 r3 hyv hreg hg
     go_wp2_with fail
     go_region_held3 (fun V=>V.cell? ⟨wr.heap.size,0,none⟩=some (.int .i64 (t':Int))∧V.cell? ⟨wr.heap.size,1,none⟩=some (.int .i64 (i':Int))∧V.cell? ⟨b2,o2+t',none⟩=some (.slice (some ⟨b3,o3,none⟩) rl rc)∧V.cell? ⟨b3,o3+i' * 4+2,none⟩=some (.int .i64 (g:Int)) ∧
      V.cell? ⟨w.heap.size,0,none⟩=some (.slice (some ⟨b4,o4,none⟩) fn fc)∧V.cell? ⟨b4,o4+k,none⟩=some (.int .i64 (j:Int))∧V.cell? ⟨b5,o5+j,none⟩=some (.int .i64 vv)) ((simp [go_sem, *])) (first | fail)
     all_goals
      go_wp2_with fail
      go_roundw
      case rel =>
       have hbE:=((Below.refl (wr.setCell ⟨w2.heap.size,4+t' * 3+g,none⟩ (.int .u8 vv)).heap.size (wr.setCell ⟨w2.heap.size,4+t' * 3+g,none⟩ (.int .u8 vv))).alloc (Nat.le_refl _) (.cells #[.int .i64 (t':Int), .int .i64 (i':Int), .int .i64 el, .bool true, .bool ew] 99)).drew
       have o1:Own EvE 99 (wr.setCell ⟨w2.heap.size,4+t' * 3+g,none⟩ (.int .u8 vv)) (w2.heap.size+1) (.slice (some ⟨ge,0,none⟩) en ec) es:=HOEr.out.sameV (fun q hq=>heap_setCell_other wr ⟨w2.heap.size,4+t' * 3+g,none⟩ q _ (show q≠w2.heap.size by have:=World.ownsRow.lt HOEr.out q hq;omega))
       exact ⟨k+1,by omega,by go_num,by rw [KR.out,VE.out];exact (HVr.out.set _ _ vv (show 4+t' * 3+g=1+(3+3 * t'+g) by omega)).below hbE,o1.below hbE,((HBr.out.setCell (Nat.le_refl _) _).alloc (by simp;omega) _).drew⟩
      case measure=>simp [intOf];omega
   ·obtain rfl:k=en:=by omega
    have hF0:HB wr w2.heap.size ⟨pa,pn,pc⟩ (finB p es x vals 0):=by rw [HF0.out];exact hv
    have HV5:=hide hF0;have HB5:=hide hbr
    have hwl2:=(Array.getElem?_eq_some_iff.1 HX2B.out).1
    have x1:=(hbr.cell (p:=⟨w.heap.size,1,none⟩) hwl2).trans (cell_of_heapV HX2B.out (k:=1) rfl)
    have l6:w.heap.size < wr.heap.size:=by have:=hbr.size;omega
    clear hv hoe hbr hF0
    go_wp2_with fail
    clear x1
    go_loopw [61] (fun i wr => ∃ l:Nat,l≤3∧i = .int .i64 l∧HB wr w2.heap.size ⟨pa,pn,pc⟩ (finB p es x vals l)∧Below w2.heap.size w2 wr) (fun i _=>3 - (intOf i).toNat)
    case atStart=>exact ⟨0,by omega,rfl,HV5.out,HB5.out⟩
    case round =>
     obtain ⟨l,hl3,rfl,hv,hbr⟩:=hrel
     by_cases hlt3:l < 3
     ·obtain ⟨o,j,vv,hod,ho0,hoj,hvj,hv0,hv3⟩:=HVD.out l trivial hlt3
      have holn:=HOLN.out l o hlt3 hod
      obtain ⟨b2,o2,ra,rc,rfl,hbl2,q0,q1⟩:=HX2.out.od.row hod
      obtain ⟨b4,o4,rfl,hbl4,f0⟩:=q1.int hoj
      obtain ⟨b5,o5,rfl,hbl5,u0⟩:=HU.out.int hvj
      have hlon:(l:Int) < (on:Int):=by have:=HON.out;have:=HOLE.out;omega
      have hjv:(j:Int) < (vn:Int):=by have:=(List.getElem?_eq_some_iff.1 hvj).1;have:=HVN.out;omega
      have q0:=(hbr.cell (p:=⟨b2,o2+l,none⟩) hbl2).trans q0
      have f0:=(hbr.cell (p:=⟨b4,o4+(o.length - 1),none⟩) hbl4).trans f0
      have u0:=(hbr.cell (p:=⟨b5,o5+j,none⟩) hbl5).trans u0
      have hbrz:=hbr.size
      have n2:b2≠w2.heap.size:=by omega
      have n4:b4≠w2.heap.size:=by omega
      have n5:b5≠w2.heap.size:=by omega
      have hvl:=hv.lt
      have l2:b2 < wr.heap.size:=by omega
      have l4:b4 < wr.heap.size:=by omega
      have l5:b5 < wr.heap.size:=by omega
      have vfz:=frozen_of_heapV hv.blk
      obtain ⟨yv,hyv⟩:=get_of_lt (xs:=finB p es x vals l) (k:=12+l) (by rw [HFL.out];omega)
      have y0:=hv.vb.cs _ _ hyv
      rw [show 1+(12+l)=13+l by omega] at y0
      have hw8:IntKind.u8.wrap vv=vv:=by rw [IntKind.wrap_u8];omega
      have hl3':(l:Int) < 3:=by omega
      obtain ⟨q,hq⟩:∃ q,o.length=q+1:=⟨o.length - 1,by omega⟩
      rw [hq] at f0 q0 holn
      simp only [Nat.add_sub_cancel] at f0
      have hwq:wrap64 (q:Int)=q:=by unfold wrap64;omega
      have hqq:((q+1:Nat):Int) - 1=(q:Int):=by omega
      have hq1:(q:Int) < ((q+1:Nat):Int):=by omega
      have FS:=hide (HFS.out l hlt3)
      have ME:=hide (memV_eq hod hoj hvj)
      have HVr:=hide hv;have HBr:=hide hbr
      clear hod hoj hvj hv hbr hyv q1 ho0 hq
      have hon3:on=3:=by have:=HON.out;have:=HOLE.out;omega
      go_wp2_with fail
      go_roundw
      case rel=>exact ⟨l+1,by omega,by go_num,by rw [FS.out,ME.out];exact HVr.out.set _ _ vv (by omega),HBr.out.setCell (Nat.le_refl _) _⟩
      case measure=>simp [intOf];omega
     ·obtain rfl:l=3:=by omega
      have hon3:on=3:=by have:=HON.out;have:=HOLE.out;omega
      subst hon3
      have HBD:=hide (fun y hy=>HBB.out 3 trivial (Nat.le_refl _) y hy)
      have HOC:=hide (outcome_any w2.heap.size ⟨pa,pn,pc⟩ (finB p es x vals 3) wr hv.vb (HFL.out 3) (fun y hy=>by have:=HBD.out y hy;omega) hp3)
      have HBr:=hide hbr
      clear hv hbr
      go_wp2_with fail
      (with_reducible refine HOC.out.mono ?_);rintro e w9 ⟨uo,rfl,ouo,hb9⟩
      obtain ⟨⟨qa,qn,qc⟩,rfl, -⟩:=ouo.toSlc
      have HOU:=hide ouo;have HB9:=hide (HBr.out.trans (hb9.mono HBr.out.size))
      clear ouo hb9
      go_wp2_with fail
      go_ret2
      rw [HR2.out]
      refine ⟨⟨qa,qn,qc⟩,rfl, ?_,HB2.out.trans (HB9.out.mono HB2.out.size)⟩
      rw [← HOB.out]
      exact HOU.out.mono (Nat.le_trans HB2.out.size HBr.out.size)
end Go.Proofs.YtkfhgnkonaafgaaGreatDoor
namespace Go.Proofs.YtkfhgnkonaafgaaGreatDoor
open Go.RowKit
theorem l6Outcome_any (v vf vo vv:Value) (p:List (List Ins)) (x:Xc) (w:World) (hp:RepP w v p) (hx:RepX w vf vo x) (hvv:Rep IntE w vv (valsL p x.fr)) (hl:p.flatten.length≤1048576) (hok:execOk p x=true) (hvo:valsOk p x.fr=true) :
 Calls Tryz.prog 38 #[v, .agg #[vf,vo],vv] w (RetOwn IntE 3 w (outL p (evAll p) x (valsL p x.fr))):=by
 have HE:=hide (fun w' h=>l6Events_any v p w' h hl)
 have hok2:=hok
 unfold execOk at hok2
 simp only [Bool.and_eq_true,decide_eq_true_eq] at hok2
 obtain ⟨hpv,hfl,hol, -, -⟩:=hok2
 have hen:=evAll_le hpv
 have hp3:=(valid_le hpv).1
 have HVR:=hide (fun k e h1 h2=>val_read (k:=k) (e:=e) hok hvo h1 h2)
 have HVD:=hide (fun l h1=>val_order (l:=l) hok hvo h1)
 have HOLN:=hide (fun l o (h1:l < 3) h2=>order_le (l:=l) (o:=o) hok h1 h2)
 have HLR:=hide (fun ve t idx reg w' h h'=>l6Reg_any v ve p (evAll p) rfl t idx reg w' h h' (by omega))
 have HLC:=hide (fun t idx g=>lastRd_cases p (evAll p) t idx g)
 have HTS:=hide (fun j r h=>outTo_succ (p:=p) (evAll p) x.fr (valsL p x.fr) (j:=j) (r:=r) h)
 have HT0:Hid (outTo p (evAll p) x.fr (valsL p x.fr) 0=[]):=hide rfl
 have HTL:=hide (fun j h=>outTo_length p (evAll p) x.fr (valsL p x.fr) j h)
 have HRS:=hide (fun t n k=>outRow_succ p (evAll p) x.fr (valsL p x.fr) t n k)
 have HR0:Hid (∀ t n,outRow p (evAll p) x.fr (valsL p x.fr) t n 0=[]):=hide (fun _ _=>rfl)
 have HRL:=hide (fun t n k=>outRow_length p (evAll p) x.fr (valsL p x.fr) t n k)
 have HMS:=hide (fun k=>outMem_succ x.od (valsL p x.fr) k)
 have HM0:Hid (outMem x.od (valsL p x.fr) 0=[]):=hide rfl
 have HML:=hide (fun k=>outMem_length x.od (valsL p x.fr) k)
 have HRG:Hid (∀ t idx g,regV p (evAll p) x.fr (valsL p x.fr) t idx g=regOf x.fr (valsL p x.fr) (lastRd p (evAll p) t idx g)):=hide (fun _ _ _=>rfl)
 have HOUT:Hid (outL p (evAll p) x (valsL p x.fr)=outTo p (evAll p) x.fr (valsL p x.fr) p.length++outMem x.od (valsL p x.fr) 3):=hide rfl
 clear hpv
 have HP:=hide hp;have HX:=hide hx;have HU:=hide hvv
 have HFLE:=hide hfl;have HOLE:=hide hol
 obtain ⟨pa,pc,rfl, -,hpn, -, -⟩:=hp.open
 obtain ⟨fa,fc,rfl, -,hfn, -, -⟩:=hx.fr.open
 obtain ⟨oa,oc,rfl, -,hon, -, -⟩:=hx.od.open
 obtain ⟨ua,uc,rfl, -,hun, -, -⟩:=hvv.open
 clear hp hx hvv hok hfl hol hvo
 have HB0:=hide ((Below.refl w.heap.size w).alloc (Nat.le_refl _) (.cells #[.slice fa x.fr.length fc, .slice oa x.od.length oc] 29))
 have HBX:=hide (heap_alloc_new w (.cells #[.slice fa x.fr.length fc, .slice oa x.od.length oc] 29))
 have HP0:=hide (HP.out.below HB0.out);have HX0:=hide (HX.out.below HB0.out);have HU0:=hide (HU.out.below HB0.out)
 have hz1:w.heap.size < (w.alloc (.cells #[.slice fa x.fr.length fc, .slice oa x.od.length oc] 29)).heap.size:=by simp
 clear HP HX HU
 generalize outL p (evAll p) x (valsL p x.fr)=R at *
 generalize hvl:valsL p x.fr=vals at *
 generalize hes:evAll p=es at *
 clear hvl hes
 generalize hfn':x.fr.length=fn at *
 generalize hon':x.od.length=on at *
 generalize hpn':p.length=pn at *
 generalize hen':es.length=en at *
 generalize hvn':vals.length=vn at *
 have HFN:=hide hfn';have HON:=hide hon';have HPN:=hide hpn';have HEN:=hide hen';have HVN:=hide hvn'
 clear hfn' hon' hpn' hen' hvn'
 go_enter Tryz.func38,Tryz.ntmps38
 go_wp2_with fail
 have hsz:(w.alloc (.cells #[.slice fa fn fc, .slice oa on oc] 29)).heap.size=w.heap.size+1:=by simp
 generalize hw1:w.alloc (.cells #[.slice fa fn fc, .slice oa on oc] 29)=w1 at *
 clear hw1
 have ha:=(Below.refl w1.heap.size w1).alloc (Nat.le_refl _) (.cells #[] 3)
 have HA:=hide ha
 have OA:=hide (Own.empty (E:=IntE) 3 w1 (Nat.le_refl _))
 (with_reducible refine (HE.out _ (HP0.out.below ha)).mono ?_);rintro e w2 ⟨ve,rfl,oe,hb2⟩
 have OE2:=hide (oe.mono ha.size)
 have OA2:Hid (OwnN w2 w1.heap.size (.slice (some ⟨w.heap.size+1,0,none⟩) 0 0) []):=hide (by have h:=OA.out.below hb2;rw [hsz] at h ⊢;exact h)
 have HB2:=hide (ha.trans (hb2.mono ha.size))
 obtain ⟨⟨ea,en',ec⟩,rfl,heq⟩:=oe.toSlc
 clear heq
 have HSZ:=hide hsz
 clear oe hb2 ha OA HA HE hsz
 go_wp2_with fail
 go_loopw [7,9] (fun s i wr => ∃ t:Nat,t≤pn∧i = .int .i64 t∧OwnN wr w1.heap.size s (outTo p es x.fr vals t)∧Own EvE 99 wr w1.heap.size (.slice ea en' ec) es∧Below w1.heap.size w1 wr) (fun _ i _=>pn - (intOf i).toNat)
 case atStart=>exact ⟨0,Nat.zero_le _,rfl,by rw [HT0.out];exact OA2.out,OE2.out,HB2.out⟩
 case round =>
  obtain ⟨t,ht,rfl,hown,hoe,hbr⟩:=hrel
  by_cases hlt:t < pn
  ·obtain ⟨r,hpt⟩:=get_of_lt (xs:=p) (k:=t) (by rw [HPN.out];exact hlt)
   have hlt':=nat_of_lt hlt
   have TS:=hide (HTS.out t r hpt)
   have HTLt:=hide (HTL.out t ht)
   have HPT:=hide hpt
   have HOW:=hide hown;have HOE:=hide hoe;have HBR:=hide hbr
   generalize outTo p es x.fr vals t=G at *
   clear hpt hown hoe hbr
   go_wp2_with fail
   go_loopw [7,10] (fun s i wr => ∃ g:Nat,g≤3∧i = .int .i64 g∧OwnN wr w1.heap.size s (G++outRow p es x.fr vals t r.length g)∧Own EvE 99 wr w1.heap.size (.slice ea en' ec) es∧Below w1.heap.size w1 wr) (fun _ i _=>3 - (intOf i).toNat)
   case atStart=>exact ⟨0,by omega,rfl,by rw [HR0.out,List.append_nil];exact HOW.out,HOE.out,HBR.out⟩
   case round =>
    obtain ⟨g,hg,rfl,hown,hoe,hbr⟩:=hrel
    by_cases hg3:g < 3
    ·have hg2:(g:Int)≤2:=by omega
     have hlen:(G++outRow p es x.fr vals t r.length g).length≤68719476736:=by rw [List.length_append,HTLt.out,HRL.out];omega
     have RS:=hide (HRS.out t r.length g)
     have RG:=hide (HRG.out (t:Int) (r.length:Int) (g:Int))
     have HL:=hide (HLR.out _ (t:Int) (r.length:Int) (g:Int) wr (HP0.out.below hbr) hoe.rep)
     have hcs:=HLC.out (t:Int) (r.length:Int) (g:Int)
     obtain ⟨b2,o2,ra,rc,rfl,hbl2,q0,q1⟩:=(HP0.out.below hbr).row HPT.out
     have OWr:=hide hown;have OEr:=hide hoe;have BRr:=hide hbr
     generalize outRow p es x.fr vals t r.length g=G2 at *
     clear hown hoe hbr q1
     go_wp2_with fail
     (with_reducible refine HL.out.mono ?_);rintro e w5 ⟨rfl,hb5⟩
     have OW5:=hide (OWr.out.below hb5);have OE5:=hide (OEr.out.below hb5)
     have B5:=hide (BRr.out.trans (hb5.mono BRr.out.size))
     clear hb5 q0 HL OWr OEr BRr
     rcases hcs with hlr | ⟨k,e2,hlr,hek,her⟩
     ·have RV:Hid (G++outRow p es x.fr vals t r.length (g+1)=(G++G2)++[0]):=hide (by rw [RS.out,List.append_assoc,RG.out,hlr];rfl)
      rw [hlr]
      clear hlr RG
      generalize hGG:G++G2=GG at *
      clear hGG
      go_wp2_with (at_builtin;refine wpList_app IntE 3 Tryz.infoInt rfl Tryz.underlying24 w1.heap.size _ GG 0 (OW5.out.alloc _) (by decide) hlen (by have:=B5.out.size;simp;omega) rfl _ _ rfl rfl _ 0 1 rfl (news_allocV (by simp)) ?_;intro v' w6 hown6 hgr6;have B6:=hide (below_app B5.out OW5.out hgr6);have E6:=hide ((OE5.out.alloc (.cells #[.int .i64 0] 3)).grown hgr6 (own_or (by decide) OW5.out OE5.out));have O6:=hide hown6;clear hown6 hgr6)
      go_roundw
      case rel=>exact ⟨g+1,by omega,by go_num,by rw [RV.out];exact O6.out,E6.out,B6.out⟩
      case measure=>simp [intOf];omega
     ·obtain ⟨j,vv,hfj,hvj,hv0,hv3⟩:=HVR.out k e2 hek her
      have RV:Hid (G++outRow p es x.fr vals t r.length (g+1)=(G++G2)++[vv]):=hide (by
       rw [RS.out,List.append_assoc,RG.out,hlr]
       unfold regOf
       rw [if_neg (by omega),valAt_eq hfj hvj])
      rw [hlr]
      obtain ⟨b4,o4,rfl,hbl4,f0⟩:=HX0.out.fr.int hfj
      obtain ⟨b5,o5,rfl,hbl5,u0⟩:=HU0.out.int hvj
      have hkf:(k:Int) < (fn:Int):=by have:=(List.getElem?_eq_some_iff.1 hfj).1;have:=HFN.out;omega
      have hjv:(j:Int) < (vn:Int):=by have:=(List.getElem?_eq_some_iff.1 hvj).1;have:=HVN.out;omega
      have f0:=(B5.out.cell (p:=⟨b4,o4+k,none⟩) hbl4).trans f0
      have u0:=(B5.out.cell (p:=⟨b5,o5+j,none⟩) hbl5).trans u0
      have x0:=(B5.out.cell (p:=⟨w.heap.size,0,none⟩) hz1).trans (cell_of_heapV HBX.out (k:=0) rfl)
      have l4:=Nat.lt_of_lt_of_le hbl4 B5.out.size
      have l5:=Nat.lt_of_lt_of_le hbl5 B5.out.size
      have l6:=Nat.lt_of_lt_of_le hz1 B5.out.size
      have hk0:decide ((k:Int) < 0)=false:=by simp
      clear hlr RG hfj hvj hek her
      generalize hGG:G++G2=GG at *
      clear hGG
      go_wp2_with (at_builtin;refine wpList_app IntE 3 Tryz.infoInt rfl Tryz.underlying24 w1.heap.size _ GG vv (OW5.out.alloc _) (by decide) hlen (by have:=B5.out.size;simp;omega) rfl _ _ rfl rfl _ 0 1 rfl (news_allocV (by simp)) ?_;intro v' w6 hown6 hgr6;have B6:=hide (below_app B5.out OW5.out hgr6);have E6:=hide ((OE5.out.alloc (.cells #[.int .i64 vv] 3)).grown hgr6 (own_or (by decide) OW5.out OE5.out));have O6:=hide hown6;clear hown6 hgr6)
      go_roundw
      case rel=>exact ⟨g+1,by omega,by go_num,by rw [RV.out];exact O6.out,E6.out,B6.out⟩
      case measure=>simp [intOf];omega
    ·obtain rfl:g=3:=by omega
     rw [← TS.out] at hown
     go_wp2_with fail
     go_roundw
     case rel=>exact ⟨t+1,by omega,by go_num,hown,hoe,hbr⟩
     case measure=>simp [intOf];omega
  ·obtain rfl:t=pn:=by omega
   have HTLt:=hide (HTL.out t (Nat.le_refl _))
   have HOW:=hide hown;have HBR:=hide hbr
   generalize outTo p es x.fr vals t=G at *
   clear hown hoe hbr
   go_wp2_with fail
   go_loopw [7,12] (fun s i wr => ∃ l:Nat,l≤3∧i = .int .i64 l∧OwnN wr w1.heap.size s (G++outMem x.od vals l)∧Below w1.heap.size w1 wr) (fun _ i _=>3 - (intOf i).toNat)
   case atStart=>exact ⟨0,by omega,rfl,by rw [HM0.out,List.append_nil];exact HOW.out,HBR.out⟩
   case round =>
    obtain ⟨l,hl3,rfl,hown,hbr⟩:=hrel
    by_cases hlt3:l < 3
    ·obtain ⟨o,j,vv,hod,ho0,hoj,hvj,hv0,hv3⟩:=HVD.out l hlt3
     have holn:=HOLN.out l o hlt3 hod
     obtain ⟨b2,o2,ra,rc,rfl,hbl2,q0,q1⟩:=HX0.out.od.row hod
     obtain ⟨b4,o4,rfl,hbl4,f0⟩:=q1.int hoj
     obtain ⟨b5,o5,rfl,hbl5,u0⟩:=HU0.out.int hvj
     have hlon:(l:Int) < (on:Int):=by have:=HON.out;have:=HOLE.out;omega
     have hl2:(l:Int)≤2:=by omega
     have hjv:(j:Int) < (vn:Int):=by have:=(List.getElem?_eq_some_iff.1 hvj).1;have:=HVN.out;omega
     have q0:=(hbr.cell (p:=⟨b2,o2+l,none⟩) hbl2).trans q0
     have f0:=(hbr.cell (p:=⟨b4,o4+(o.length - 1),none⟩) hbl4).trans f0
     have u0:=(hbr.cell (p:=⟨b5,o5+j,none⟩) hbl5).trans u0
     have x1:=(hbr.cell (p:=⟨w.heap.size,1,none⟩) hz1).trans (cell_of_heapV HBX.out (k:=1) rfl)
     have l2:=Nat.lt_of_lt_of_le hbl2 hbr.size
     have l4:=Nat.lt_of_lt_of_le hbl4 hbr.size
     have l5:=Nat.lt_of_lt_of_le hbl5 hbr.size
     have l6:=Nat.lt_of_lt_of_le hz1 hbr.size
     obtain ⟨q,hq⟩:∃ q,o.length=q+1:=⟨o.length - 1,by omega⟩
     rw [hq] at f0 q0 holn
     simp only [Nat.add_sub_cancel] at f0
     have hwq:wrap64 (q:Int)=q:=by unfold wrap64;omega
     have hqq:((q+1:Nat):Int) - 1=(q:Int):=by omega
     have hq1:(q:Int) < ((q+1:Nat):Int):=by omega
     have hlen:(G++outMem x.od vals l).length≤68719476736:=by rw [List.length_append,HTLt.out,HML.out];omega
     have RV:Hid (G++outMem x.od vals (l+1)=(G++outMem x.od vals l)++[vv]):=hide (by rw [HMS.out,memV_eq hod hoj hvj,List.append_assoc])
     have OWr:=hide hown;have BRr:=hide hbr
     clear hod hoj hvj hown hbr q1 ho0 hq
     generalize G++outMem x.od vals l=GG at *
     go_wp2_with (at_builtin;refine wpList_app IntE 3 Tryz.infoInt rfl Tryz.underlying24 w1.heap.size _ GG vv (OWr.out.alloc _) (by decide) hlen (by have:=BRr.out.size;simp;omega) rfl _ _ rfl rfl _ 0 1 rfl (news_allocV (by simp)) ?_;intro v' w6 hown6 hgr6;have B6:=hide (below_app BRr.out OWr.out hgr6);have O6:=hide hown6;clear hown6 hgr6)
     go_roundw
     case rel=>exact ⟨l+1,by omega,by go_num,by rw [RV.out];exact O6.out,B6.out⟩
     case measure=>simp [intOf];omega
    ·obtain rfl:l=3:=by omega
     go_wp2_with fail
     go_ret
     exact ⟨_,rfl,by rw [HOUT.out];exact hown.mono HB0.out.size,HB0.out.trans (hbr.mono HB0.out.size)⟩
end Go.Proofs.YtkfhgnkonaafgaaGreatDoor
namespace Go.Proofs.YtkfhgnkonaafgaaGreatDoor
open Go.RowKit
end Go.Proofs.YtkfhgnkonaafgaaGreatDoor