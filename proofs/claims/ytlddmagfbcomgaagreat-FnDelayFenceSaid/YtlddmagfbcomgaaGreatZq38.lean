/-
  ConflictRel of the program and of the reference. Condition: bounds on lengths.
-/
import Derived.Test.YtlddmagfbcomgaaGreatZq33
import Derived.Test.YtlddmagfbcomgaaGreatZq24
import Derived.Test.YtlddmagfbcomgaaGreatZq34
import Derived.Test.YtlddmagfbcomgaaGreatZq00
set_option maxHeartbeats 6400000
set_option maxRecDepth 100000
namespace Go.Proofs.YtlddmagfbcomgaaGreat
open Go.RowKit
theorem conflictRel_1 (B1 B2:Nat) (la pa:Option Addr) (lc pc:Nat) (p:List (List Ins)) (w0:World) (h1:w0.cell? ⟨B1,0,none⟩=some (.slice la (evAll p).length lc)) (h2:w0.cell? ⟨B2,0,none⟩=some (.slice pa p.length pc))
 (hL:Rep EvE w0 (.slice la (evAll p).length lc) (evAll p)) (hP:RepP w0 (.slice pa p.length pc) p):TestsP_conf ⟨B1,0,none⟩ ⟨B2,0,none⟩ (evAll p).length (confB (evAll p)) w0:=by
 intro i k w hi hk hb
 have q1:=(hb.cell (p:=⟨B1,0,none⟩) (lt_of_cell h1)).trans h1
 have q2:=(hb.cell (p:=⟨B2,0,none⟩) (lt_of_cell h2)).trans h2
 have HP:=hide (hP.below hb)
 obtain ⟨a,ha⟩:=get_of_lt hi
 obtain ⟨b,hbb⟩:=get_of_lt hk
 obtain ⟨d,o,rfl,hd,i0,i1,i2,i3,i4⟩:=(hL.below hb).ev ha
 obtain ⟨d',o',hde,hd',j0,j1,j2,j3,j4⟩:=(hL.below hb).ev hbb
 simp only [Option.some.injEq,Addr.mk.injEq,and_true] at hde
 obtain ⟨rfl,rfl⟩:=hde
 have hB1:=lt_of_cell q1
 have hB2:=lt_of_cell q2
 have CE:=hide (confB_eq ha hbb)
 have MA:=hide (mem_evAll (List.mem_of_getElem? ha))
 have MB:=hide (mem_evAll (List.mem_of_getElem? hbb))
 have hi':=nat_of_lt hi;have hk':=nat_of_lt hk
 clear ha hbb hL h1 h2 hb hP
 generalize confB (evAll p) i k=R at *
 generalize (evAll p).length=n at *
 go_enter Tryz.func177,Tryz.ntmps177
 go_wp2_with fail
 go_cut [7,8] (fun s7 s8 W => ∃ b7 b8:Nat,s7 = .pointer (some ⟨b7,0,none⟩)∧s8 = .pointer (some ⟨b8,0,none⟩)∧b7 < W.heap.size∧b8 < W.heap.size ∧
  W.cell? ⟨b7,0,none⟩=some (.int .i64 a.t)∧W.cell? ⟨b7,1,none⟩=some (.int .i64 a.i)∧W.cell? ⟨b8,0,none⟩=some (.int .i64 b.t)∧W.cell? ⟨b8,1,none⟩=some (.int .i64 b.i)∧Below w.heap.size w W)
 case first =>
  go_region_held3 (fun W=>W.cell? ⟨B1,0,none⟩=some (.slice (some ⟨d,o,none⟩) n lc) ∧
   W.cell? ⟨d,o+i * 5,none⟩=some (.int .i64 a.t)∧W.cell? ⟨d,o+i * 5+1,none⟩=some (.int .i64 a.i)∧W.cell? ⟨d,o+i * 5+2,none⟩=some (.int .i64 a.l)∧W.cell? ⟨d,o+i * 5+3,none⟩=some (.bool a.r)∧W.cell? ⟨d,o+i * 5+4,none⟩=some (.bool a.w) ∧
   W.cell? ⟨d,o+k * 5,none⟩=some (.int .i64 b.t)∧W.cell? ⟨d,o+k * 5+1,none⟩=some (.int .i64 b.i)∧W.cell? ⟨d,o+k * 5+2,none⟩=some (.int .i64 b.l)∧W.cell? ⟨d,o+k * 5+3,none⟩=some (.bool b.r)∧W.cell? ⟨d,o+k * 5+4,none⟩=some (.bool b.w)) ((simp [go_sem, *])) (first | fail)
  all_goals
   go_wp2_with fail
   go_meet
   refine ⟨_,_,rfl,rfl,by first | (simp;done) | (simp;omega),by first | (simp;done) | (simp;omega),by simp [go_sem],by simp [go_sem],by simp [go_sem],by simp [go_sem], ?_⟩
   exact (((Below.refl _ _).alloc (Nat.le_refl _) _).alloc (by simp) _).drew
 case rest =>
  obtain ⟨b7,b8,rfl,rfl,hb7,hb8,m0,m1,n0,n1,hbW⟩:=hcut
  have c2:=(hbW.cell (p:=⟨B2,0,none⟩) hB2).trans q2
  have hB2':B2 < wc.heap.size:=by have:=hbW.size;omega
  have HPc:=hide (HP.out.below hbW)
  have HBW:=hide hbW
  clear hbW q1 q2 i0 i1 i2 i3 i4 j0 j1 j2 j3 j4
  rcases MA.out with ha | ⟨t,i1,r,x,hr,hx,rfl,hx4⟩
  ·have g1:decide (0≤a.t)=false:=by rw [ha];rfl
   obtain rfl:R=false:=by rw [CE.out,g1];rfl
   clear ha
   go_wp2_with fail
   refine wp_region_bw (by kernel_rfl) (by kernel_rfl) ?_
   repeat (go_big_quiet_step (fail))
   refine wpQuiet_nil ?_
   intro w5 hb5
   go_wp2_with fail
   go_ret
   exact ⟨rfl,HBW.out.trans (hb5.mono HBW.out.size)⟩
  ·rcases MB.out with hb | ⟨t',i1',r',x',hr',hx',rfl,hx4'⟩
   ·have g2:decide (0≤b.t)=false:=by rw [hb];rfl
    obtain rfl:R=false:=by rw [CE.out,g2];simp
    clear hb
    go_wp2_with fail
    refine wp_region_bw (by kernel_rfl) (by kernel_rfl) ?_
    repeat (go_big_quiet_step (fail))
    refine wpQuiet_nil ?_
    intro w5 hb5
    go_wp2_with fail
    go_ret
    exact ⟨rfl,HBW.out.trans (hb5.mono HBW.out.size)⟩
   ·by_cases htt:t=t'
    ·have g3:(((t:Nat):Int) != ((t':Nat):Int))=false:=by simp [htt]
     obtain rfl:R=false:=by rw [CE.out];simp only;rw [g3];simp
     clear htt
     go_wp2_with fail
     refine wp_region_bw (by kernel_rfl) (by kernel_rfl) ?_
     repeat (go_big_quiet_step (fail))
     refine wpQuiet_nil ?_
     intro w5 hb5
     go_wp2_with fail
     go_ret
     exact ⟨rfl,HBW.out.trans (hb5.mono HBW.out.size)⟩
    ·have g3:(((t:Nat):Int) != ((t':Nat):Int))=true:=by simp;omega
     have E:Hid (R=conflictR x.op x.loc x'.op x'.loc):=hide (by rw [CE.out,conflictR_ev hx4 hx4'];simp only;rw [g3];simp)
     obtain ⟨d0,e0,ra,rc,rfl,hd0,p0,p1⟩:=HPc.out.row hr
     obtain ⟨d1,e1,rfl,hd1,s0,s1,s2,s3⟩:=p1.ins hx
     obtain ⟨d2,e2,ra',rc',hd2e,hd2,p2,p3⟩:=HPc.out.row hr'
     simp only [Option.some.injEq,Addr.mk.injEq,and_true] at hd2e
     obtain ⟨rfl,rfl⟩:=hd2e
     obtain ⟨d3,e3,rfl,hd3,u0,u1,u2,u3⟩:=p3.ins hx'
     have v1:=nat_of_lt (List.getElem?_eq_some_iff.1 hr).1;have v2:=nat_of_lt (List.getElem?_eq_some_iff.1 hr').1
     have v3:=nat_of_lt (List.getElem?_eq_some_iff.1 hx).1;have v4:=nat_of_lt (List.getElem?_eq_some_iff.1 hx').1
     have v5:=(List.getElem?_eq_some_iff.1 hr).1;have v6:=(List.getElem?_eq_some_iff.1 hr').1
     have v7:=(List.getElem?_eq_some_iff.1 hx).1;have v8:=(List.getElem?_eq_some_iff.1 hx').1
     have HC:=hide (fun w'=>conflict_raw x.op x.loc x.reg x.val x'.op x'.loc x'.reg x'.val w')
     generalize conflictR x.op x.loc x'.op x'.loc=cf at *
     obtain rfl:R=cf:=E.out
     clear hr hx hr' hx' p1 p3 htt hx4 hx4'
     generalize p.length=np at *
     go_wp2_with fail
     refine wp_region_bw (by kernel_rfl) (by kernel_rfl) ?_
     repeat (go_big_quiet_step ((go_at_call 69;(with_reducible exact Calls.bw (HC.out _)))))
     refine wpQuiet_nil ?_
     intro w5 hb5
     go_wp2_with fail
     go_ret
     exact ⟨rfl,HBW.out.trans (hb5.mono HBW.out.size)⟩
end Go.Proofs.YtlddmagfbcomgaaGreat
namespace Go.Proofs.YtlddmagfbcomgaaGreat
open Go.RowKit
theorem conflictRel_any (v:Value) (p:List (List Ins)) (w:World) (hp:RepP w v p) (hl:p.flatten.length≤50) :
 Calls Tryz.prog 140 #[v] w (RetOwn IntE 3 w (conflicts p)):=by
 obtain ⟨a,c,rfl, -, -, -,hp⟩:=hp.open
 have hb0:=(Below.refl w.heap.size w).alloc (Nat.le_refl _) (.cells #[.slice a p.length c] 23)
 have HP:=hide (hp.below hb0);have HB0:=hide hb0
 have HE:=hide (fun w' h=>events_any (.slice a p.length c) p w' h (by omega))
 have k0:(w.alloc (.cells #[.slice a p.length c] 23)).cell? ⟨w.heap.size,0,none⟩=some (.slice a p.length c):=by simp [go_sem]
 have hsz:(w.alloc (.cells #[.slice a p.length c] 23)).heap.size=w.heap.size+1:=by simp
 have K0:=hide k0;have HSZ:=hide hsz
 have hn:(evAll p).length≤60:=by have:=evAll_length p;omega
 have CD:Hid (conflicts p=relOf (evAll p).length (confB (evAll p))):=hide rfl
 clear hp hb0 k0 hsz
 go_enter Tryz.func140,Tryz.ntmps140
 go_wp2_with fail
 (with_reducible refine (HE.out _ HP.out).mono ?_);rintro e w2 ⟨v2,rfl,o2,hb2⟩
 obtain ⟨a2,c2,rfl, -, -, -, -⟩:=o2.rep.open
 have hb3:=(Below.refl w2.heap.size w2).alloc (Nat.le_refl _) (.cells #[.slice a2 (evAll p).length c2] 108)
 have hb23:=hb2.trans (hb3.mono hb2.size)
 have m1:(w2.alloc (.cells #[.slice a2 (evAll p).length c2] 108)).cell? ⟨w2.heap.size,0,none⟩=some (.slice a2 (evAll p).length c2):=by simp [go_sem]
 have m2:=(hb23.cell (p:=⟨w.heap.size,0,none⟩) (by rw [HSZ.out];simp)).trans K0.out
 have HC:=hide (pairsOf_conf ⟨w2.heap.size,0,none⟩ ⟨w.heap.size,0,none⟩ (evAll p).length (confB (evAll p)) _ hn (conflictRel_1 w2.heap.size w.heap.size a2 a c2 c p _ m1 m2 (o2.rep.below hb3) (HP.out.below hb23)))
 have HB23:=hide hb23
 clear m1 m2 hb3 hb2 hb23 o2
 generalize (evAll p).length=n at *
 go_wp2_with fail
 (with_reducible refine HC.out.mono ?_);rintro e w4 ⟨v4,rfl,o4,hb4⟩
 go_wp2_with fail
 go_ret
 have hs:w.heap.size≤w2.heap.size+1:=by have h1:=HB23.out.size;rw [HSZ.out] at h1;simp at h1;omega
 refine ⟨_,rfl, ?_,HB0.out.trans ((HB23.out.trans (hb4.mono HB23.out.size)).mono HB0.out.size)⟩
 rw [CD.out]
 exact o4.mono (by simp;omega)
theorem flatten_le7' {p:List (List Ins)} (h:∀ r∈p,r.length≤7):p.flatten.length≤7 * p.length:=by
 induction p with
 | nil=>simp
 | cons r p ih =>
  have h1:=h r (List.mem_cons_self ..)
  have h2:=ih (fun r hr=>h r (List.mem_cons_of_mem _ hr))
  simp at h2 ⊢;omega
theorem l10Conflicts_any (v:Value) (p:List (List Ins)) (w:World) (hp:RepP w v p) (hl:p.flatten.length≤50) :
 Calls Tryz.prog 147 #[v] w (RetOwn IntE 3 w (conflicts p)):=by
 obtain ⟨a,c,rfl, -, -, -,hp⟩:=hp.open
 have HP:=hide hp;clear hp
 have HE:=hide (fun w' h=>l6Events_any (.slice a p.length c) p w' h (by omega))
 have hn:(evAll p).length≤60:=by have:=evAll_length p;omega
 have CD:Hid (conflicts p=relOf (evAll p).length (confB (evAll p))):=hide rfl
 go_enter Tryz.func147,Tryz.ntmps147
 go_wp2_with fail
 (with_reducible refine (HE.out _ HP.out).mono ?_);rintro e w2 ⟨v2,rfl,o2,hb2⟩
 generalize evAll p=L at *
 obtain ⟨a2,c2,rfl, -, -, -, -⟩:=o2.rep.open
 generalize hnn:L.length=n at *
 have H:=hide hnn;clear hnn
 have hown:=Own.empty (E:=IntE) 3 w2 (Nat.le_refl _)
 have hb3:=(Below.refl w2.heap.size w2).alloc (Nat.le_refl _) (.cells #[] 3)
 have HL:=hide o2.rep
 have HB2:=hide hb2
 clear o2 hb2
 go_wp2_with fail
 go_loopw [4,5] (fun s i wr => ∃ t:Nat,t≤n∧i = .int .i64 t∧OwnN wr w2.heap.size s ((relOf n (confB L)).take t)∧Below w2.heap.size w2 wr) (fun _ i _=>n - (intOf i).toNat)
 case atStart=>exact ⟨0,by omega,rfl,by simpa using hown,hb3⟩
 case round =>
  obtain ⟨t,ht,rfl,ho,hbw⟩:=hrel
  by_cases hlt:t < n
  ·have hlt':=nat_of_lt hlt
   have TS:Hid ((relOf n (confB L)).take (t+1)=(relOf n (confB L)).take t++[bitsTo (confB L t) n]):=hide (by rw [List.take_add_one,relOf_get hlt];rfl)
   have TL:((relOf n (confB L)).take t).length≤68719476736:=by rw [List.length_take,relOf_length];omega
   generalize (relOf n (confB L)).take t=G at *
   obtain ⟨ea,hea⟩:=get_of_lt (xs:=L) (k:=t) (by rw [H.out];exact hlt)
   have HO:=hide ho;clear ho
   go_wp2_with fail
   go_loopw [6,7] (fun q i wr => ∃ k:Nat,k≤n∧i = .int .i64 k∧q = .int .i64 (bitsTo (confB L t) k)∧OwnN wr w2.heap.size u4 G∧Below w2.heap.size w2 wr) (fun _ i _=>n - (intOf i).toNat)
   case atStart=>exact ⟨0,by omega,rfl,rfl,HO.out,hbw⟩
   case round =>
    obtain ⟨k,hk,rfl,rfl,ho,hbw⟩:=hrel
    by_cases hlt2:k < n
    ·have hlt2':=nat_of_lt hlt2
     obtain ⟨eb,heb⟩:=get_of_lt (xs:=L) (k:=k) (by rw [H.out];exact hlt2)
     obtain ⟨d,o1,rfl,hd,i0,i1,i2,i3,i4⟩:=(HL.out.below hbw).ev hea
     obtain ⟨d',o1',hde,hd',j0,j1,j2,j3,j4⟩:=(HL.out.below hbw).ev heb
     simp only [Option.some.injEq,Addr.mk.injEq,and_true] at hde
     obtain ⟨rfl,rfl⟩:=hde
     have CE:=hide (confB_eq hea heb)
     have BS:Hid (bitsTo (confB L t) (k+1)=if confB L t k=true then bits .or .i64 (bitsTo (confB L t) k) (wrap64 ((2:Int) ^ k)) else bitsTo (confB L t) k):=hide rfl
     have HOO:=hide ho
     generalize hR:confB L t k=R at *
     generalize bitsTo (confB L t) k=row at *
     generalize hrow2:bitsTo (confB L t) (k+1)=row2 at *
     have RW2:=hide hrow2;clear hrow2 hR
     have HEB:=hide heb
     clear heb ho
     have HBBW:=hide (fun (ob1 ob2:Obj)=>(hbw.alloc hbw.size ob1).alloc (B:=w2.heap.size) (by have:=hbw.size;simp;omega) ob2)
     generalize ea.t=at' at *;generalize eb.t=bt' at *;generalize ea.l=al at *;generalize eb.l=bl at *;generalize ea.w=aw at *;generalize eb.w=bw at *
     rcases Bool.eq_false_or_eq_true (decide (0≤at')) with g1 | g1
     ·rcases Bool.eq_false_or_eq_true (decide (0≤bt')) with g2 | g2
      ·rcases Bool.eq_false_or_eq_true ((at' != bt')) with g3 | g3
       ·rcases Bool.eq_false_or_eq_true ((al==bl)) with g4 | g4
        ·rcases Bool.eq_false_or_eq_true (aw) with g5 | g5
         ·obtain rfl:R=true:=by rw [CE.out];simp [g1,g2,g3,g4,g5]
          obtain rfl:row2=bits .or .i64 row (wrap64 ((2:Int) ^ k)):=by rw [BS.out];rfl
          go_wp2_with fail
          go_roundw
          case rel=>exact ⟨k+1,by omega,by go_num,by rw [RW2.out],(HOO.out.alloc _).alloc _,HBBW.out _ _⟩
          case measure=>simp [intOf];omega
         ·rcases Bool.eq_false_or_eq_true (bw) with g6 | g6
          ·obtain rfl:R=true:=by rw [CE.out];simp [g1,g2,g3,g4,g5,g6]
           obtain rfl:row2=bits .or .i64 row (wrap64 ((2:Int) ^ k)):=by rw [BS.out];rfl
           go_wp2_with fail
           go_roundw
           case rel=>exact ⟨k+1,by omega,by go_num,by rw [RW2.out],(HOO.out.alloc _).alloc _,HBBW.out _ _⟩
           case measure=>simp [intOf];omega
          ·obtain rfl:R=false:=by rw [CE.out];simp [g1,g2,g3,g4,g5,g6]
           obtain rfl:row2=row:=by rw [BS.out];rfl
           go_wp2_with fail
           go_roundw
           case rel=>exact ⟨k+1,by omega,by go_num,by rw [RW2.out],(HOO.out.alloc _).alloc _,HBBW.out _ _⟩
           case measure=>simp [intOf];omega
        ·obtain rfl:R=false:=by rw [CE.out];simp [g1,g2,g3,g4]
         obtain rfl:row2=row:=by rw [BS.out];rfl
         go_wp2_with fail
         go_roundw
         case rel=>exact ⟨k+1,by omega,by go_num,by rw [RW2.out],(HOO.out.alloc _).alloc _,HBBW.out _ _⟩
         case measure=>simp [intOf];omega
       ·obtain rfl:R=false:=by rw [CE.out];simp [g1,g2,g3]
        obtain rfl:row2=row:=by rw [BS.out];rfl
        go_wp2_with fail
        go_roundw
        case rel=>exact ⟨k+1,by omega,by go_num,by rw [RW2.out],(HOO.out.alloc _).alloc _,HBBW.out _ _⟩
        case measure=>simp [intOf];omega
      ·obtain rfl:R=false:=by rw [CE.out];simp [g1,g2]
       obtain rfl:row2=row:=by rw [BS.out];rfl
       go_wp2_with fail
       go_roundw
       case rel=>exact ⟨k+1,by omega,by go_num,by rw [RW2.out],(HOO.out.alloc _).alloc _,HBBW.out _ _⟩
       case measure=>simp [intOf];omega
     ·obtain rfl:R=false:=by rw [CE.out];simp [g1]
      obtain rfl:row2=row:=by rw [BS.out];rfl
      go_wp2_with fail
      go_roundw
      case rel=>exact ⟨k+1,by omega,by go_num,by rw [RW2.out],(HOO.out.alloc _).alloc _,HBBW.out _ _⟩
      case measure=>simp [intOf];omega
    ·have e:k=n:=by omega
     rw [e]
     go_wp2_with (at_builtin;refine wpList_app IntE 3 Tryz.infoInt rfl Tryz.underlying40 w2.heap.size _ _ (bitsTo (confB L t) n) (ho.alloc _) (by decide) TL (by simp;have:=hbw.size;omega) rfl _ _ rfl rfl wr.heap.size 0 1 rfl news_alloc ?_;intro v' w1 hown1 hgr1)
     have hb1:=below_app hbw ho hgr1
     go_roundw
     case rel=>exact ⟨t+1,by omega,by go_num,by rw [TS.out];exact hown1,hb1⟩
     case measure=>simp [intOf];omega
  ·have e:t=n:=by omega
   rw [e,List.take_of_length_le (by rw [relOf_length];exact Nat.le_refl _),← CD.out] at ho
   go_wp2_with fail
   go_ret
   exact ⟨_,rfl,ho.mono HB2.out.size,HB2.out.trans (hbw.mono HB2.out.size)⟩
end Go.Proofs.YtlddmagfbcomgaaGreat