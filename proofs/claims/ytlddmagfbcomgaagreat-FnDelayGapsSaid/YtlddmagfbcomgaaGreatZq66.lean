/-
  The gaps that delays need, in the reference. Condition: bounds on lengths.
-/
import Derived.Test.YtlddmagfbcomgaaGreatZq40
set_option maxHeartbeats 6400000
set_option maxRecDepth 100000
namespace Go.Proofs.YtlddmagfbcomgaaGreat
open Go.RowKit
def aroundB (g:Gp) (a b:Ev):Bool:=(g.t==a.t)&&((a.t==b.t)&&(decide (a.i < g.i)&&decide (g.i≤b.i)))
theorem l10Around_any (g:Gp) (a b:Ev) (w:World) :
 Calls Tryz.prog 160 #[.agg #[.int .i64 g.t, .int .i64 g.i], .agg #[.int .i64 a.t, .int .i64 a.i, .int .i64 a.l, .bool a.r, .bool a.w], .agg #[.int .i64 b.t, .int .i64 b.i, .int .i64 b.l, .bool b.r, .bool b.w]] w
  fun e w'=>e = .returned (.bool (aroundB g a b))∧Below w.heap.size w w':=by
 have HB:=hide (((belowAlloc0 w (.cells #[.int .i64 g.t, .int .i64 g.i] 64)).alloc (by simp) (.cells #[.int .i64 a.t, .int .i64 a.i, .int .i64 a.l, .bool a.r, .bool a.w] 112)).alloc (by simp;omega) (.cells #[.int .i64 b.t, .int .i64 b.i, .int .i64 b.l, .bool b.r, .bool b.w] 112))
 have CE:Hid (aroundB g a b=((g.t==a.t)&&((a.t==b.t)&&(decide (a.i < g.i)&&decide (g.i≤b.i))))):=hide rfl
 generalize aroundB g a b=R at *
 rcases Bool.eq_false_or_eq_true (g.t==a.t) with g0 | g0
 ·rcases Bool.eq_false_or_eq_true (a.t==b.t) with g1 | g1
  ·rcases Bool.eq_false_or_eq_true (decide (a.i < g.i)) with g2 | g2
   ·rcases Bool.eq_false_or_eq_true (decide (g.i≤b.i)) with g3 | g3
    ·obtain rfl:R=true:=by rw [CE.out];simp [g0,g1,g2,g3]
     go_enter Tryz.func160,Tryz.ntmps160
     go_wp2_with fail
     go_ret
     exact ⟨rfl,HB.out⟩
    ·obtain rfl:R=false:=by rw [CE.out];simp [g0,g1,g2,g3]
     go_enter Tryz.func160,Tryz.ntmps160
     go_wp2_with fail
     go_ret
     exact ⟨rfl,HB.out⟩
   ·obtain rfl:R=false:=by rw [CE.out];simp [g0,g1,g2]
    go_enter Tryz.func160,Tryz.ntmps160
    go_wp2_with fail
    go_ret
    exact ⟨rfl,HB.out⟩
  ·obtain rfl:R=false:=by rw [CE.out];simp [g0,g1]
   go_enter Tryz.func160,Tryz.ntmps160
   go_wp2_with fail
   go_ret
   exact ⟨rfl,HB.out⟩
 ·obtain rfl:R=false:=by rw [CE.out];simp [g0]
  go_enter Tryz.func160,Tryz.ntmps160
  go_wp2_with fail
  go_ret
  exact ⟨rfl,HB.out⟩
theorem hit_around {L:List Ev} {D:Nat→Nat→Bool} {g:Gp} {i k:Nat} {a b:Ev} (hi:L[i]? = some a) (hk:L[k]? = some b) (h:D i k=true→a.t=b.t):hitB L D g i k=(D i k&&aroundB g a b):=by
 rw [hitB_eq hi hk]
 unfold aroundB
 cases hD:D i k with
 | false=>simp
 | true =>
  have:=h hD
  rw [Bool.true_and,Bool.true_and,this]
  simp only [beq_self_eq_true,Bool.true_and]
  congr 1
  exact Bool.eq_iff_iff.2 (by simp only [beq_iff_eq];exact eq_comm)
theorem delF_thread {L:List Ev} {c:Nat→Nat→Bool} {n i k:Nat} {a b:Ev} (hi:L[i]? = some a) (hk:L[k]? = some b) (h:delF n c (poB L) i k=true):a.t=b.t:=by
 unfold delF fAnd at h
 rw [Bool.and_eq_true,poB_eq hi hk] at h
 simp only [Bool.and_eq_true,beq_iff_eq] at h
 exact h.1.2.1
theorem filter_take_succ {α:Type} {f:α→Bool} {xs:List α} {t:Nat} {x:α} (hx:xs[t]? = some x):(xs.take (t+1)).filter f=(xs.take t).filter f++(if f x=true then [x] else []):=by
 rw [List.take_add_one,hx,List.filter_append]
 by_cases h:f x=true <;> simp [h]
theorem l10Gaps_any (v:Value) (p:List (List Ins)) (w:World) (hp:RepP w v p) (hl:p.flatten.length≤50) :
 Calls Tryz.prog 97 #[v] w (RetOwn GapE 64 w (delayGapsP p)):=by
 obtain ⟨ap,cp,rfl, -, -, -,hp⟩:=hp.open
 have HP:=hide hp;clear hp
 have HG:=hide (fun w' h=>l9Gaps_any (.slice ap p.length cp) p w' h (by omega))
 have HE:=hide (fun w' h=>l6Events_any (.slice ap p.length cp) p w' h (by omega))
 have HDR:=hide (fun w' h=>l10Delays_any (.slice ap p.length cp) p w' h hl)
 have hn:(evAll p).length≤60:=by have:=evAll_length p;omega
 have E3:Hid (delayGapsP p=(gapsP p).filter (needB (evAll p) (delF (evAll p).length (confB (evAll p)) (poB (evAll p))))):=hide rfl
 have CD:Hid (delays p=relOf (evAll p).length (delF (evAll p).length (confB (evAll p)) (poB (evAll p)))):=hide rfl
 have HGL:(gapsP p).length≤1048576:=by
  have:=gapsTo_length p p.length (Nat.le_refl _)
  rw [List.take_length] at this
  unfold gapsP
  omega
 have HT:=hide (fun i k (a b:Ev) (hi:(evAll p)[i]? = some a) (hk:(evAll p)[k]? = some b)=>delF_thread (n:=(evAll p).length) (c:=confB (evAll p)) hi hk)
 generalize delayGapsP p=Z at *
 generalize delF (evAll p).length (confB (evAll p)) (poB (evAll p))=D at *
 generalize evAll p=L at *
 generalize gapsP p=G at *
 generalize delays p=DL at *
 go_enter Tryz.func97,Tryz.ntmps97
 go_wp2_with fail
 (with_reducible refine (HE.out _ HP.out).mono ?_);rintro e w2 ⟨v2,rfl,o2,hb2⟩
 obtain ⟨a2,c2,rfl, -, -, -, -⟩:=o2.rep.open
 have HB2:=hide hb2;have HP2:=hide (HP.out.below hb2);have L2:=hide o2.rep
 clear o2 hb2
 go_wp2_with fail
 (with_reducible refine (HDR.out _ HP2.out).mono ?_);rintro e w3 ⟨v3,rfl,o3,hb3⟩
 rw [CD.out] at o3
 have HB3:=hide (HB2.out.trans (hb3.mono HB2.out.size));have HP3:=hide (HP2.out.below hb3);have L3:=hide (L2.out.below hb3);have D3:=hide o3.rep
 clear o3 hb3 HP2 HB2 L2
 go_wp2_with fail
 (with_reducible refine (HG.out _ HP3.out).mono ?_);rintro e w4 ⟨v4,rfl,o4,hb4⟩
 obtain ⟨a4,c4,rfl, -, -, -, -⟩:=o4.rep.open
 have HB4:=hide (HB3.out.trans (hb4.mono HB3.out.size));have L4:=hide (L3.out.below hb4);have D4:=hide (D3.out.below hb4);have G4:=hide o4.rep
 clear o4 hb4 HB3 L3 D3 HE HDR HG HP HP3
 have HR:=hide (fun i k w' h hi hk=>l2Has_any v3 L.length i k D w' h (by omega) hi hk)
 have HHA:=hide (fun (g:Gp) i k (a b:Ev) (hi:L[i]? = some a) (hk:L[k]? = some b)=>hit_around (D:=D) (g:=g) hi hk (HT.out i k a b hi hk))
 have NE:Hid (∀ g,needB L D g=anyTo (fun i=>anyTo (hitB L D g i) L.length) L.length):=hide (fun _=>rfl)
 generalize needB L D=need at *
 generalize hitB L D=hit at *
 generalize hnn:L.length=n at *
 have H:=hide hnn;clear hnn
 generalize hmm:G.length=m at *
 have HM:=hide hmm;clear hmm
 have hown:=Own.empty (E:=GapE) 64 w4 (Nat.le_refl _)
 have hb5:=belowAlloc0 w4 (.cells #[] 64)
 go_wp2_with fail
 go_loopw [6,7] (fun s i wr => ∃ t:Nat,t≤m∧i = .int .i64 t∧Hid (OwnG wr w4.heap.size s ((G.take t).filter need))∧Hid (Below w4.heap.size w4 wr)) (fun _ i _=>m - (intOf i).toNat)
 case atStart=>exact ⟨0,Nat.zero_le _,rfl,hide (by simpa using hown),hide hb5⟩
 case round =>
  obtain ⟨t,ht,rfl,HO,HB⟩:=hrel
  by_cases hlt:t < m
  ·obtain ⟨wm,rfl⟩:∃ wm:World,wm=wr:=⟨_,rfl⟩
   obtain ⟨g,hg⟩:=get_of_lt (xs:=G) (k:=t) (by rw [HM.out];exact hlt)
   have hlt':=nat_of_lt hlt
   have FS:=hide (filter_take_succ (f:=need) hg)
   have TL:((G.take t).filter need).length≤68719476736:=by
    have:=List.length_filter_le need (G.take t)
    rw [List.length_take] at this
    omega
   generalize hX:(G.take t).filter need=X at *
   clear hX
   have HGG:=hide hg;clear hg
   go_wp2_with fail
   go_loopw [8,9] (fun f i wr => ∃ k:Nat,k≤n∧i = .int .i64 k∧f = .bool (anyTo (fun i=>anyTo (hit g i) n) k)∧Hid (OwnG wr w4.heap.size u6 X)∧Hid (Below w4.heap.size w4 wr)) (fun _ i _=>n - (intOf i).toNat)
   case atStart=>exact ⟨0,Nat.zero_le _,rfl,rfl,HO,HB⟩
   case round =>
    obtain ⟨k,hk,rfl,rfl,HO,HB⟩:=hrel
    by_cases hlt2:k < n
    ·have hlt2':=nat_of_lt hlt2
     obtain ⟨ea,hea⟩:=get_of_lt (xs:=L) (k:=k) (by rw [H.out];exact hlt2)
     have HEA:=hide hea;clear hea
     have AS:Hid (anyTo (fun i=>anyTo (hit g i) n) (k+1)=(anyTo (fun i=>anyTo (hit g i) n) k||anyTo (hit g k) n)):=hide rfl
     generalize anyTo (fun i=>anyTo (hit g i) n) k=F0 at *
     go_wp2_with fail
     go_loopw [8,10] (fun f i wr => ∃ j:Nat,j≤n∧i = .int .i64 j∧f = .bool (F0||anyTo (hit g k) j)∧Hid (OwnG wr w4.heap.size u6 X)∧Hid (Below w4.heap.size w4 wr)) (fun _ i _=>n - (intOf i).toNat)
     case atStart=>exact ⟨0,Nat.zero_le _,rfl,by simp [anyTo],HO,HB⟩
     case round =>
      obtain ⟨j,hj,rfl,rfl,HO,HB⟩:=hrel
      by_cases hlt3:j < n
      ·have hlt3':=nat_of_lt hlt3
       obtain ⟨eb,heb⟩:=get_of_lt (xs:=L) (k:=j) (by rw [H.out];exact hlt3)
       have BS:Hid (anyTo (hit g k) (j+1)=(anyTo (hit g k) j||hit g k j)):=hide rfl
       have CE:=hide (HHA.out g k j _ _ HEA.out heb)
       obtain ⟨d,o,rfl,hd,i0,i1,i2,i3,i4⟩:=(L4.out.below HB.out).ev HEA.out
       obtain ⟨d',o',hde,hd',j0,j1,j2,j3,j4⟩:=(L4.out.below HB.out).ev heb
       simp only [Option.some.injEq,Addr.mk.injEq,and_true] at hde
       obtain ⟨rfl,rfl⟩:=hde
       obtain ⟨e,q,rfl,hee,k0,k1⟩:=(G4.out.below HB.out).gap HGG.out
       have HC:=hide (fun (x:BW wr)=>HR.out k j x.val ((D4.out.below HB.out).below x.prop) hlt2 hlt3)
       have HAR:=hide (fun w'=>l10Around_any g ea eb w')
       have HEB:=hide heb;clear heb
       generalize hit g k j=R at *
       have BS2:Hid ((F0||anyTo (hit g k) (j+1))=((F0||anyTo (hit g k) j)||R)):=hide (by rw [BS.out,Bool.or_assoc])
       clear BS
       generalize hF2:(F0||anyTo (hit g k) (j+1))=F2 at *
       have RW2:=hide hF2;clear hF2
       generalize (F0||anyTo (hit g k) j)=F at *
       cases F
       ·rcases Bool.eq_false_or_eq_true (D k j) with gd | gd
        ·rcases Bool.eq_false_or_eq_true (aroundB g ea eb) with ga | ga
         ·rw [gd] at HC
          rw [ga] at HAR
          obtain rfl:R=true:=by rw [CE.out,gd,ga];rfl
          go_wp2_with fail
          refine wp_region_bw (by kernel_rfl) (by kernel_rfl) ?_
          repeat (go_big_quiet_step (first | (go_at_call 159;(with_reducible exact Calls.bw_same (HC.out _))) | (go_at_call 160;(with_reducible exact Calls.bw (HAR.out _)))))
          refine wpQuiet_nil ?_
          intro w5 hb5
          have HO5:=hide (HO.out.below hb5);have HB5:=hide (HB.out.trans (hb5.mono HB.out.size))
          clear hb5
          go_wp2_with fail
          go_roundw
          case rel=>exact ⟨j+1,by omega,by go_num,by rw [RW2.out,BS2.out];rfl,HO5,HB5⟩
          case measure=>simp [intOf];omega
         ·rw [gd] at HC
          rw [ga] at HAR
          obtain rfl:R=false:=by rw [CE.out,gd,ga];rfl
          go_wp2_with fail
          refine wp_region_bw (by kernel_rfl) (by kernel_rfl) ?_
          repeat (go_big_quiet_step (first | (go_at_call 159;(with_reducible exact Calls.bw_same (HC.out _))) | (go_at_call 160;(with_reducible exact Calls.bw (HAR.out _)))))
          refine wpQuiet_nil ?_
          intro w5 hb5
          have HO5:=hide (HO.out.below hb5);have HB5:=hide (HB.out.trans (hb5.mono HB.out.size))
          clear hb5
          go_wp2_with fail
          go_roundw
          case rel=>exact ⟨j+1,by omega,by go_num,by rw [RW2.out,BS2.out];rfl,HO5,HB5⟩
          case measure=>simp [intOf];omega
        ·rw [gd] at HC
         obtain rfl:R=false:=by rw [CE.out,gd];rfl
         go_wp2_with fail
         refine wp_region_bw (by kernel_rfl) (by kernel_rfl) ?_
         repeat (go_big_quiet_step (first | (go_at_call 159;(with_reducible exact Calls.bw_same (HC.out _))) | (go_at_call 160;(with_reducible exact Calls.bw (HAR.out _)))))
         refine wpQuiet_nil ?_
         intro w5 hb5
         have HO5:=hide (HO.out.below hb5);have HB5:=hide (HB.out.trans (hb5.mono HB.out.size))
         clear hb5
         go_wp2_with fail
         go_roundw
         case rel=>exact ⟨j+1,by omega,by go_num,by rw [RW2.out,BS2.out];rfl,HO5,HB5⟩
         case measure=>simp [intOf];omega
       ·go_wp2_with fail
        refine wp_region_bw (by kernel_rfl) (by kernel_rfl) ?_
        repeat (go_big_quiet_step (first | (go_at_call 159;(with_reducible exact Calls.bw_same (HC.out _))) | (go_at_call 160;(with_reducible exact Calls.bw (HAR.out _)))))
        refine wpQuiet_nil ?_
        intro w5 hb5
        have HO5:=hide (HO.out.below hb5);have HB5:=hide (HB.out.trans (hb5.mono HB.out.size))
        clear hb5
        go_wp2_with fail
        go_roundw
        case rel=>exact ⟨j+1,by omega,by go_num,by rw [RW2.out,BS2.out];rfl,HO5,HB5⟩
        case measure=>simp [intOf];omega
      ·have e:j=n:=by omega
       subst e
       go_wp2_with fail
       go_roundw
       case rel=>exact ⟨k+1,by omega,by go_num,by rw [AS.out],HO,HB⟩
       case measure=>simp [intOf];omega
    ·have e:k=n:=by omega
     subst e
     have HN:=hide (NE.out g)
     obtain ⟨e,q,rfl,hee,k0,k1⟩:=(G4.out.below HB.out).gap HGG.out
     generalize anyTo (fun i=>anyTo (hit g i) k) k=F0 at *
     cases F0
     ·have FS2:Hid ((G.take (t+1)).filter need=X):=hide (by rw [FS.out,HN.out];simp)
      go_wp2_with fail
      go_roundw
      case rel=>exact ⟨t+1,by omega,by go_num,hide (by rw [FS2.out];exact HO.out),HB⟩
      case measure=>simp [intOf];omega
     ·have FS2:Hid ((G.take (t+1)).filter need=X++[g]):=hide (by rw [FS.out,HN.out];simp)
      have hsz:=HB.out.size
      go_wp2_with (at_builtin;refine wpList_app GapE 64 Tryz.infoGap rfl Tryz.underlying24 w4.heap.size _ X g (HO.out.alloc _) (by decide) TL (by simp;omega) rfl _ _ rfl rfl wr.heap.size 0 1 rfl news_alloc ?_;intro v' w1 hown1 hgr1)
      have HO6:=hide hown1;have HB6:=hide (below_app HB.out HO.out hgr1)
      clear hown1 hgr1
      go_roundw
      case rel=>exact ⟨t+1,by omega,by go_num,hide (by rw [FS2.out];exact HO6.out),HB6⟩
      case measure=>simp [intOf];omega
  ·have e:t=m:=by omega
   subst e
   have ho:=HO.out
   rw [List.take_of_length_le (by rw [HM.out];exact Nat.le_refl _),← E3.out] at ho
   have HO2:=hide ho
   clear ho
   go_wp2_with fail
   go_ret
   exact ⟨_,rfl,HO2.out.mono HB4.out.size,HB4.out.trans (HB.out.mono HB4.out.size)⟩
theorem sDelayGaps_any (v:Value) (p:List (List Ins)) (w:World) (hp:RepP w v p) (hl:p.flatten.length≤1048576) (hpl:p.length≤1048576) :
 Calls Tryz.prog 41 #[v] w (RetOwn GapE 64 w (delayGapsV p)):=by
 have GV:Hid (delayGapsV p=if progValid p=true then delayGapsP p else []):=hide rfl
 have HP:=hide hp;clear hp
 have HV:=hide (fun w' h=>sProgramValid_any v p w' h hl hpl)
 have HF:Hid (progValid p=true→p.flatten.length≤50):=hide (fun h=>by
  obtain ⟨hv1, -,hv3, -, -⟩:=valid_le h
  have:=flatten_le7' (p:=p) (fun r hr=>(hv3 r hr).1)
  omega)
 generalize hb:progValid p=b at *
 clear hb
 cases b
 ·go_enter Tryz.func41,Tryz.ntmps41
  go_wp2_with (go_at_call 53;(with_reducible refine (HV.out _ HP.out).mono ?_);rintro e w1 ⟨rfl,hb1⟩)
  go_ret
  rw [GV.out]
  exact ⟨_,rfl,Own.empty _ _ hb1.size,hb1.alloc hb1.size _⟩
 ·have HG:=hide (fun w' h=>l10Gaps_any v p w' h (HF.out rfl))
  go_enter Tryz.func41,Tryz.ntmps41
  go_wp2_with (first | (go_at_call 53;(with_reducible refine (HV.out _ HP.out).mono ?_);rintro e w1 ⟨rfl,hb1⟩) | (go_at_call 97;(with_reducible refine (HG.out _ (HP.out.below hb1)).mono ?_);rintro e w2 ⟨u,rfl,hu,hb2⟩))
  go_ret
  rw [GV.out]
  exact ⟨_,rfl,hu.mono hb1.size,Below.next hb1 hb2⟩
end Go.Proofs.YtlddmagfbcomgaaGreat