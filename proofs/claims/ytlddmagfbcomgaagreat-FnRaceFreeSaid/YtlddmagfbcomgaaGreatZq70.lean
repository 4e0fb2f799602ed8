/-
  RacesOf and RaceFree of the program. Condition: bounds on lengths.
-/
import Derived.Test.YtlddmagfbcomgaaGreatZq34
import Derived.Test.YtlddmagfbcomgaaGreatZq00
import Derived.Deep.RegionHeld3
import Derived.Deep.DeepCutAuto
set_option maxHeartbeats 6400000
set_option maxRecDepth 100000
namespace Go.Proofs.YtlddmagfbcomgaaGreat
open Go.RowKit
theorem Tryz.infoRace:(Tryz.prog.info? 88).map (fun i=>(i.zero,i.size,i.bytes))=some (some (.agg #[.int .i64 0, .int .i64 0, .int .i64 0, .int .i64 0]),4,32):=by kernel_rfl
abbrev OwnR (w:World) (base:Nat) (v:Value) (xs:List Rc):Prop:=Own RcE 88 w base v xs
theorem box_kept {α:Type} {E:El α} {T U:TypeId} {w w':World} {ab base:Nat} {cs:Array Value} {v:Value} {xs:List α} (hb:w.heap[ab]? = some (.cells cs T (0,0))) (hown:Own E U w base v xs) (hg:w.grownBy w' v.ownBlock) (hT:T≠U):w'.heap[ab]? = some (.cells cs T (0,0)):=by
 rw [hg.block ab (Array.getElem?_eq_some_iff.1 hb).1]
 ·exact hb
 ·intro e
  rcases hown.2 with ⟨rfl,_⟩ | ⟨g,cap,cur,rfl,_,hgg,_⟩
  ·simp [Value.ownBlock] at e
  ·simp [Value.ownBlock] at e
   subst e
   rw [hb] at hgg
   simp at hgg
   exact hT hgg.2
theorem box_alloc {w:World} {ab:Nat} {cs:Array Value} {T:TypeId} (hb:w.heap[ab]? = some (.cells cs T (0,0))) (o:Obj):(w.alloc o).heap[ab]? = some (.cells cs T (0,0)):=by
 rw [heap_alloc_old w o (Array.getElem?_eq_some_iff.1 hb).1];exact hb
theorem box_below {w w':World} {ab:Nat} {cs:Array Value} {T:TypeId} (hb:w.heap[ab]? = some (.cells cs T (0,0))) (h:Below w.heap.size w w'):w'.heap[ab]? = some (.cells cs T (0,0)):=(h.block ab (Array.getElem?_eq_some_iff.1 hb).1).trans hb
theorem box_cell {w:World} {ab:Nat} {cs:Array Value} {T:TypeId} (hb:w.heap[ab]? = some (.cells cs T (0,0))) (j:Nat):w.cell? ⟨ab,j,none⟩=cs[j]?:=cell_of_row w ab j cs T (0,0) hb
theorem Own.kept_other {α β:Type} {E:El α} {F:El β} {T U:TypeId} {w w':World} {base base':Nat} {v u:Value} {xs:List α} {ys:List β} (h:Own F T w base' u ys) (hown:Own E U w base v xs) (hg:w.grownBy w' v.ownBlock) (hT:U≠T):Own F T w' base' u ys:=
 h.grown hg (by
  rcases hq:u.ownBlock with _ | q
  ·exact .inl rfl
  ·exact .inr (fun e=>own_ne hT hown h q hq e.symm))
theorem flatten_le7 {p:List (List Ins)} (h:∀ r∈p,r.length≤7):p.flatten.length≤7 * p.length:=by
 induction p with
 | nil=>simp
 | cons r p ih =>
  have h1:=h r (List.mem_cons_self ..)
  have h2:=ih (fun r hr=>h r (List.mem_cons_of_mem _ hr))
  simp at h2 ⊢;omega
theorem RacesOf_any (v:Value) (p:List (List Ins)) (w:World) (hp:RepP w v p) (hl:p.flatten.length≤1048576) :
 Calls Tryz.prog 23 #[v] w (RetOwn RcE 88 w (racesV p)):=by
 have HP:=hide hp;clear hp
 have HV:=hide (fun w' h=>ProgramValid_any v p w' h hl)
 have HI:=hide (fun w' h=>instrs_any v p w' h hl)
 have E2:Hid (racesV p=if progValid p=true then racesTo p (insAll p) else []):=hide rfl
 generalize hb:progValid p=b at *
 have B:=hide hb;clear hb
 cases b
 ·go_enter Tryz.func23,Tryz.ntmps23
  go_wp2_with (go_at_call 35;(with_reducible refine (HV.out _ HP.out).mono ?_);rintro e w1 ⟨rfl,hb1⟩)
  go_ret
  rw [E2.out]
  exact ⟨_,rfl,Own.nil _ _ _,hb1⟩
 ·obtain ⟨hv1,hv2,hv3, -, -⟩:=valid_le B.out
  have hLl:(insAll p).length≤21:=by
   unfold insAll
   rw [instrsTo_length p p.length (Nat.le_refl _),List.take_length]
   have:=flatten_le7 (p:=p) (fun r hr=>(hv3 r hr).1)
   omega
  have HM:=hide (fun (k:Nat) (g:Gp) (h:(insAll p)[k]? = some g)=>mem_instrsTo (List.mem_of_getElem? h))
  have HTL:=hide (fun k=>racesTo_length p ((insAll p).take k))
  have HOL:=hide (fun a k=>racesOf_length p a ((insAll p).take k))
  have HTS:=hide (fun (k:Nat) (a:Gp) (h:(insAll p)[k]? = some a)=>racesTo_succ p h)
  have HOS:=hide (fun (a:Gp) (k:Nat) (b:Gp) (h:(insAll p)[k]? = some b)=>racesOf_succ p a h)
  have HTK:=hide (fun (k:Nat) (h:(insAll p).length≤k)=>List.take_of_length_le (l:=insAll p) h)
  clear hv1 hv2 hv3
  generalize hL:insAll p=L at *
  clear hL
  obtain ⟨a,c,hv, -, -, -, -⟩:=HP.out.open
  subst hv
  generalize hnp:p.length=np at *
  have HNP:=hide hnp;clear hnp
  go_enter Tryz.func23,Tryz.ntmps23
  go_wp2_with fail
  (with_reducible refine (HV.out w HP.out).mono ?_);rintro e w1 ⟨rfl,hb1⟩
  go_wp2_with fail
  (with_reducible refine (HI.out w1 (HP.out.below hb1)).mono ?_);rintro e w2 ⟨v1,rfl,o1,hb2⟩
  obtain ⟨a1,c1,rfl, -, -, -, -⟩:=o1.rep.open
  generalize hnL:L.length=n at *
  have H:=hide hnL;clear hnL
  have hb2:=Below.next hb1 hb2
  go_wp2_with fail
  go_loopw [3,16] (fun s i wr => ∃ k:Nat,k≤n∧i = .int .i64 k∧OwnR wr w.heap.size s (racesTo p (L.take k))∧OwnG wr w1.heap.size (.slice a1 n c1) L∧Below w.heap.size w wr) (fun _ i _=>n - (intOf i).toNat)
  case atStart=>exact ⟨0,by omega,rfl,by simpa [racesTo] using Own.nil _ _ _,o1,hb2⟩
  case round =>
   obtain ⟨k,hk,rfl,hown,og,hb⟩:=hrel
   by_cases hlt:k < n
   ·obtain ⟨wm,rfl⟩:∃ wm:World,wm=wr:=⟨_,rfl⟩
    obtain ⟨ga,hga⟩:=get_of_lt (xs:=L) (k:=k) (by rw [H.out];exact hlt)
    obtain ⟨ta,ia,ra,xa,rfl, -,hra,hxa⟩:=HM.out k ga hga
    obtain ⟨b1,o1',rfl,hbl1,g0,g1⟩:=og.rep.gap hga
    have hlt':=nat_of_lt hlt
    have TS:=hide (HTS.out k _ hga)
    have hTl:(racesTo p (L.take k)).length≤21 * 21:=by
     have h1:=HTL.out k
     have h2:(L.take k).length≤21:=by rw [List.length_take];omega
     exact Nat.le_trans h1 (Nat.mul_le_mul h2 hLl)
    have GA:=hide hga;have HRA:=hide hra;have HXA:=hide hxa
    clear hga hra hxa
    generalize hG:racesTo p (L.take k)=G at *
    clear hG
    have HO:=hide hown;have HOG:=hide og
    clear hown og
    have hba:=hb.alloc hb.size (.cells #[.int .i64 (ta:Int), .int .i64 (ia:Int)] 64)
    go_wp2_with fail
    (with_reducible refine (HI.out _ (HP.out.below hba)).mono ?_);rintro e w3 ⟨v2,rfl,o2,hb3⟩
    obtain ⟨a2,c2,rfl, -, -, -, -⟩:=o2.rep.open
    rw [H.out]
    have bx:w3.heap[wm.heap.size]? = some (.cells #[.int .i64 (ta:Int), .int .i64 (ia:Int)] 64 (0,0)):=box_below (heap_alloc_new wm _) hb3
    have hb3':=hba.trans (hb3.mono hba.size)
    have hO3:=(HO.out.alloc _).below hb3
    have hG3:=(HOG.out.alloc _).below hb3
    have BX:=hide bx;have HO3:=hide hO3;have HG3:=hide hG3;have HO2:=hide o2
    clear bx hO3 hG3 o2
    go_wp2_with fail
    go_loopw [3,23] (fun s i wr => ∃ m:Nat,m≤n∧i = .int .i64 m∧OwnR wr w.heap.size s (G++racesOf p ⟨(ta:Int),(ia:Int)⟩ (L.take m))∧OwnG wr w1.heap.size (.slice (some ⟨b1,o1',none⟩) n c1) L∧OwnG wr (wm.heap.size+1) (.slice a2 n c2) L∧Hid (wr.heap[wm.heap.size]? = some (.cells #[.int .i64 (ta:Int), .int .i64 (ia:Int)] 64 (0,0)))∧Below w.heap.size w wr) (fun _ i _=>n - (intOf i).toNat)
    case atStart=>exact ⟨0,by omega,rfl,by simpa [racesOf] using HO3.out,HG3.out,by have h:=HO2.out;simpa [H.out] using h,BX,hb3'⟩
    case round =>
     obtain ⟨m,hm,rfl,hown,og1,og2,hbx,hb4⟩:=hrel
     by_cases hltm:m < n
     ·obtain ⟨gb,hgb⟩:=get_of_lt (xs:=L) (k:=m) (by rw [H.out];exact hltm)
      obtain ⟨tb,ib,rb,xb,rfl, -,hrb,hxb⟩:=HM.out m gb hgb
      obtain ⟨b2,o2',rfl,hbl2,g2,g3⟩:=og2.rep.gap hgb
      have hltm':=nat_of_lt hltm
      have OS:=hide (HOS.out ⟨(ta:Int),(ia:Int)⟩ m _ hgb)
      have hOl:(racesOf p ⟨(ta:Int),(ia:Int)⟩ (L.take m)).length≤21:=by
       have h1:=HOL.out ⟨(ta:Int),(ia:Int)⟩ m
       have h2:(L.take m).length≤21:=by rw [List.length_take];omega
       omega
      have RB:=hide (raceB_eq HRA.out HXA.out hrb hxb)
      obtain ⟨d0,e0,ra',rc',rfl,hd0,p0,p1⟩:=(HP.out.below hb4).row HRA.out
      obtain ⟨d1,e1,rfl,hd1,q0,q1,q2,q3⟩:=p1.ins HXA.out
      obtain ⟨d2,e2,rb',rbc,hd2e,hd2,p2,p3⟩:=(HP.out.below hb4).row hrb
      simp only [Option.some.injEq,Addr.mk.injEq,and_true] at hd2e
      obtain ⟨rfl,rfl⟩:=hd2e
      obtain ⟨d3,e3,rfl,hd3,r0,r1,r2,r3⟩:=p3.ins hxb
      have hta:ta < np:=by have h:=(List.getElem?_eq_some_iff.1 HRA.out).1;rw [HNP.out] at h;exact h
      have htb:tb < np:=by have h:=(List.getElem?_eq_some_iff.1 hrb).1;rw [HNP.out] at h;exact h
      have hia:=(List.getElem?_eq_some_iff.1 HXA.out).1
      have hib:=(List.getElem?_eq_some_iff.1 hxb).1
      have hbxl:wm.heap.size < wr.heap.size:=(Array.getElem?_eq_some_iff.1 hbx.out).1
      have bx0:=box_cell hbx.out 0
      have bx1:=box_cell hbx.out 1
      have hta':=nat_of_lt hta;have htb':=nat_of_lt htb;have hia':=nat_of_lt hia;have hib':=nat_of_lt hib
      have GB:=hide hgb;have HRB:=hide hrb;have HXB:=hide hxb
      clear hgb hrb hxb p1 p3
      generalize hRO:racesOf p ⟨(ta:Int),(ia:Int)⟩ (L.take m)=RO at *
      clear hRO
      have HOW:=hide hown;have HG1:=hide og1;have HG2:=hide og2
      clear hown og1 og2
      have z1:d0 < wr.heap.size+1:=by omega
      have z2:d0 < wr.heap.size+1+1:=by omega
      have z3:d1 < wr.heap.size+1:=by omega
      have z4:d1 < wr.heap.size+1+1:=by omega
      have z5:d3 < wr.heap.size+1:=by omega
      have z6:d3 < wr.heap.size+1+1:=by omega
      have z7:wm.heap.size < wr.heap.size+1:=by omega
      have z8:wm.heap.size < wr.heap.size+1+1:=by omega
      have hwA:(wr.alloc (.cells #[.int .i64 (tb:Int), .int .i64 (ib:Int)] 64)).heap.size=wr.heap.size+1:=by simp
      have HWA:=hide hwA;clear hwA
      go_upto_region 10 with fail
      go_cut [8,9] (fun s8 s9 W => ∃ b8 b9:Nat,s8 = .pointer (some ⟨b8,0,none⟩)∧s9 = .pointer (some ⟨b9,0,none⟩)∧b8 < W.heap.size∧b9 < W.heap.size ∧
       W.cell? ⟨b8,0,none⟩=some (.int .i64 xa.op)∧W.cell? ⟨b8,1,none⟩=some (.int .i64 xa.loc)∧W.cell? ⟨b8,2,none⟩=some (.int .i64 xa.reg)∧W.cell? ⟨b8,3,none⟩=some (.int .i64 xa.val) ∧
       W.cell? ⟨b9,0,none⟩=some (.int .i64 xb.op)∧W.cell? ⟨b9,1,none⟩=some (.int .i64 xb.loc)∧W.cell? ⟨b9,2,none⟩=some (.int .i64 xb.reg)∧W.cell? ⟨b9,3,none⟩=some (.int .i64 xb.val) ∧
       Below (wr.heap.size+1) (wr.alloc (.cells #[.int .i64 (tb:Int), .int .i64 (ib:Int)] 64)) W)
      case first =>
       go_region_held3 (fun W=>W.cell? ⟨wm.heap.size,0,none⟩=some (.int .i64 (ta:Int))∧W.cell? ⟨wm.heap.size,1,none⟩=some (.int .i64 (ia:Int))∧W.cell? ⟨wr.heap.size,0,none⟩=some (.int .i64 (tb:Int))∧W.cell? ⟨wr.heap.size,1,none⟩=some (.int .i64 (ib:Int))∧W.cell? ⟨d0,e0+ta,none⟩=some (.slice (some ⟨d1,e1,none⟩) ra.length rc')∧W.cell? ⟨d0,e0+tb,none⟩=some (.slice (some ⟨d3,e3,none⟩) rb.length rbc) ∧
       W.cell? ⟨d1,e1+ia * 4,none⟩=some (.int .i64 xa.op)∧W.cell? ⟨d1,e1+ia * 4+1,none⟩=some (.int .i64 xa.loc)∧W.cell? ⟨d1,e1+ia * 4+2,none⟩=some (.int .i64 xa.reg)∧W.cell? ⟨d1,e1+ia * 4+3,none⟩=some (.int .i64 xa.val) ∧
       W.cell? ⟨d3,e3+ib * 4,none⟩=some (.int .i64 xb.op)∧W.cell? ⟨d3,e3+ib * 4+1,none⟩=some (.int .i64 xb.loc)∧W.cell? ⟨d3,e3+ib * 4+2,none⟩=some (.int .i64 xb.reg)∧W.cell? ⟨d3,e3+ib * 4+3,none⟩=some (.int .i64 xb.val)) ((simp [go_sem, *])) (first | fail)
       all_goals
        go_wp2_with fail
        go_meet
        refine ⟨_,_,rfl,rfl,by simp,by simp,by simp [go_sem],by simp [go_sem],by simp [go_sem],by simp [go_sem],by simp [go_sem],by simp [go_sem],by simp [go_sem],by simp [go_sem], ?_⟩
        exact (((Below.refl _ _).alloc (by simp) _).alloc (by simp) _).drew
      case rest =>
       obtain ⟨b8,b9,rfl,rfl,hb8,hb9,m0,m1,m2,m3,n0,n1,n2,n3,hbW⟩:=hcut
       have hwr:Below wr.heap.size wr wc:=((Below.refl _ _).alloc (Nat.le_refl _) _).trans (hbW.mono (by omega))
       have hszc:wr.heap.size < wc.heap.size:=by have:=hbW.size;simp at this;omega
       have cbx0:=(hwr.cell (p:=⟨wm.heap.size,0,none⟩) hbxl).trans bx0
       have cbx1:=(hwr.cell (p:=⟨wm.heap.size,1,none⟩) hbxl).trans bx1
       have cbb0:wc.cell? ⟨wr.heap.size,0,none⟩=some (.int .i64 (tb:Int)):=(hbW.cell (p:=⟨wr.heap.size,0,none⟩) (by simp)).trans (by simp [go_sem])
       have cbb1:wc.cell? ⟨wr.heap.size,1,none⟩=some (.int .i64 (ib:Int)):=(hbW.cell (p:=⟨wr.heap.size,1,none⟩) (by simp)).trans (by simp [go_sem])
       have hbc:=hb4.trans (hwr.mono hb4.size)
       have OWc:=hide (HOW.out.below hwr)
       have G1c:=hide (HG1.out.below hwr)
       have G2c:=hide (HG2.out.below hwr)
       have BXc:=hide (box_below hbx.out hwr)
       have hszm:wm.heap.size < wc.heap.size:=by omega
       have HBC:=hide hbc
       have RB2:Hid (raceB p ⟨(ta:Int),(ia:Int)⟩ ⟨(tb:Int),(ib:Int)⟩=(decide ((ta:Int) < tb)&&(conflictR xa.op xa.loc xb.op xb.loc&&((xa.op != 5)||(xb.op != 5))))):=RB
       clear p0 p2 q0 q1 q2 q3 r0 r1 r2 r3 g2 g3 bx0 bx1 hbW hwr z1 z2 z3 z4 z5 z6 z7 z8
       have hlen:(G++RO).length≤68719476736:=by rw [List.length_append];omega
       by_cases hT:(ta:Int) < tb
       ·have HC:=hide (fun w'=>conflict_raw xa.op xa.loc xa.reg xa.val xb.op xb.loc xb.reg xb.val w')
        generalize conflictR xa.op xa.loc xb.op xb.loc=cf at *
        cases cf
        ·have E:Hid (raceB p ⟨(ta:Int),(ia:Int)⟩ ⟨(tb:Int),(ib:Int)⟩=false):=hide (by rw [RB2.out];simp)
         have OS2:Hid (racesOf p ⟨(ta:Int),(ia:Int)⟩ (L.take (m+1))=RO):=hide (by rw [OS.out,E.out];simp)
         go_wp2_with fail
         (with_reducible refine (HC.out _).mono ?_);rintro e w5 ⟨rfl,hb5⟩
         go_wp2_with fail
         go_roundw
         case rel=>exact ⟨m+1,by omega,by go_num,by rw [OS2.out];exact OWc.out.below hb5,G1c.out.below hb5,G2c.out.below hb5,hide (box_below BXc.out hb5),HBC.out.trans (hb5.mono HBC.out.size)⟩
         case measure=>simp [intOf];omega
        ·by_cases hP:xa.op=5∧xb.op=5
         ·have E:Hid (raceB p ⟨(ta:Int),(ia:Int)⟩ ⟨(tb:Int),(ib:Int)⟩=false):=hide (by rw [RB2.out,hP.1,hP.2];simp)
          have OS2:Hid (racesOf p ⟨(ta:Int),(ia:Int)⟩ (L.take (m+1))=RO):=hide (by rw [OS.out,E.out];simp)
          have k1:(xa.op != 5)=false:=by simp [hP.1]
          have k2:(xb.op != 5)=false:=by simp [hP.2]
          clear hP
          go_wp2_with fail
          (with_reducible refine (HC.out _).mono ?_);rintro e w5 ⟨rfl,hb5⟩
          obtain ⟨hc5,hf5⟩:=bcell hb5
          go_wp2_with fail
          go_roundw
          case rel=>exact ⟨m+1,by omega,by go_num,by rw [OS2.out];exact OWc.out.below hb5,G1c.out.below hb5,G2c.out.below hb5,hide (box_below BXc.out hb5),HBC.out.trans (hb5.mono HBC.out.size)⟩
          case measure=>simp [intOf];omega
         ·have E:Hid (raceB p ⟨(ta:Int),(ia:Int)⟩ ⟨(tb:Int),(ib:Int)⟩=true):=hide (by rw [RB2.out];simp;omega)
          have OS2:Hid (racesOf p ⟨(ta:Int),(ia:Int)⟩ (L.take (m+1))=RO++[⟨⟨ta,ia⟩,⟨tb,ib⟩⟩]):=hide (by rw [OS.out,E.out];simp)
          by_cases hA:xa.op=5
          ·have k1:(xa.op != 5)=false:=by simp [hA]
           have k2:(xb.op != 5)=true:=by simp;omega
           clear hP hA
           go_wp2_with fail
           (with_reducible refine (HC.out _).mono ?_);rintro e w5 ⟨rfl,hb5⟩
           obtain ⟨hc5,hf5⟩:=bcell hb5
           have hO5:=OWc.out.below hb5
           have hb6:=HBC.out.trans (hb5.mono HBC.out.size)
           go_wp2_with (at_builtin;refine wpList_app RcE 88 Tryz.infoRace rfl Tryz.underlying38 w.heap.size _ _ ⟨⟨(ta:Int),(ia:Int)⟩,⟨(tb:Int),(ib:Int)⟩⟩ (hO5.alloc _) (by decide) hlen (by simp;have:=hb6.size;omega) rfl _ _ rfl rfl w5.heap.size 0 1 rfl news_alloc ?_;intro v' w6 hown6 hgr6)
           have hb7:=below_app hb6 hO5 hgr6
           go_roundw
           case rel=>exact ⟨m+1,by omega,by go_num,by rw [OS2.out,← List.append_assoc];exact hown6,((G1c.out.below hb5).alloc _).kept_other (hO5.alloc _) hgr6 (by decide),((G2c.out.below hb5).alloc _).kept_other (hO5.alloc _) hgr6 (by decide),hide (box_kept (box_alloc (box_below BXc.out hb5) _) (hO5.alloc _) hgr6 (by decide)),hb7⟩
           case measure=>simp [intOf];omega
          ·have k1:(xa.op != 5)=true:=by simp [hA]
           clear hP hA
           go_wp2_with fail
           (with_reducible refine (HC.out _).mono ?_);rintro e w5 ⟨rfl,hb5⟩
           obtain ⟨hc5,hf5⟩:=bcell hb5
           have hO5:=OWc.out.below hb5
           have hb6:=HBC.out.trans (hb5.mono HBC.out.size)
           go_wp2_with (at_builtin;refine wpList_app RcE 88 Tryz.infoRace rfl Tryz.underlying38 w.heap.size _ _ ⟨⟨(ta:Int),(ia:Int)⟩,⟨(tb:Int),(ib:Int)⟩⟩ (hO5.alloc _) (by decide) hlen (by simp;have:=hb6.size;omega) rfl _ _ rfl rfl w5.heap.size 0 1 rfl news_alloc ?_;intro v' w6 hown6 hgr6)
           have hb7:=below_app hb6 hO5 hgr6
           go_roundw
           case rel=>exact ⟨m+1,by omega,by go_num,by rw [OS2.out,← List.append_assoc];exact hown6,((G1c.out.below hb5).alloc _).kept_other (hO5.alloc _) hgr6 (by decide),((G2c.out.below hb5).alloc _).kept_other (hO5.alloc _) hgr6 (by decide),hide (box_kept (box_alloc (box_below BXc.out hb5) _) (hO5.alloc _) hgr6 (by decide)),hb7⟩
           case measure=>simp [intOf];omega
       ·have E:Hid (raceB p ⟨(ta:Int),(ia:Int)⟩ ⟨(tb:Int),(ib:Int)⟩=false):=hide (by rw [RB2.out,decide_eq_false hT];rfl)
        have OS2:Hid (racesOf p ⟨(ta:Int),(ia:Int)⟩ (L.take (m+1))=RO):=hide (by rw [OS.out,E.out];simp)
        have hT2:decide ((ta:Int) < tb)=false:=decide_eq_false hT
        have hT3:decide (ta < tb)=false:=decide_eq_false (by omega)
        clear hT
        go_wp2_with fail
        go_roundw
        case rel=>exact ⟨m+1,by omega,by go_num,by rw [OS2.out];exact OWc.out,G1c.out,G2c.out,BXc,HBC.out⟩
        case measure=>simp [intOf];omega
     ·have e:m=n:=by omega
      have ht:L.take m=L:=HTK.out m (by omega)
      rw [ht] at hown
      go_wp2_with fail
      go_roundw
      case rel=>exact ⟨k+1,by omega,by go_num,by rw [TS.out];exact hown,og1,hb4⟩
      case measure=>simp [intOf];omega
   ·have e:k=n:=by omega
    have ht:L.take k=L:=HTK.out k (by omega)
    rw [ht] at hown
    go_wp2_with fail
    go_ret
    rw [E2.out]
    exact ⟨_,rfl,hown,hb⟩
end Go.Proofs.YtlddmagfbcomgaaGreat