/-
  FnRaceFree: for every input the law returns true and the input reads afterwards as it read before. No condition.
-/
import Derived.Test.YtlddmagfbcomgaaGreatZq70
import Derived.Test.YtlddmagfbcomgaaGreatZq71
import Derived.Test.YtlddmagfbcomgaaGreatZq36
import Derived.Test.YtlddmagfbcomgaaGreatZq49
import Derived.Test.YtlddmagfbcomgaaGreatZq21
import Derived.Test.YtlddmagfbcomgaaGreatZq04
set_option maxHeartbeats 6400000
set_option maxRecDepth 100000
namespace Go.Proofs.YtlddmagfbcomgaaGreat
open Go.RowKit
theorem sRacesOf_any (v:Value) (p:List (List Ins)) (w:World) (hp:RepP w v p) (hl:p.flatten.length≤1048576) (hpl:p.length≤1048576) :
 Calls Tryz.prog 67 #[v] w (RetOwn RcE 88 w (racesV p)):=by
 have HP:=hide hp;clear hp
 have HV:=hide (fun w' h=>sProgramValid_any v p w' h hl hpl)
 have E2:Hid (racesV p=if progValid p=true then racesTo p (insAll p) else []):=hide rfl
 have E3:Hid (insAll p=instrsTo p p.length):=hide rfl
 generalize hb:progValid p=b at *
 have B:=hide hb;clear hb
 obtain ⟨a,c,rfl, -,hnp, -, -⟩:=HP.out.open
 cases b
 ·have E4:Hid (racesV p=[]):=hide (by rw [E2.out];rfl)
  clear E2 E3
  generalize hn:p.length=np at *
  have H:=hide hn;clear hn
  by_cases h0:0 < np
  ·have h0':=nat_of_lt h0
   go_enter Tryz.func67,Tryz.ntmps67
   go_wp2_with fail
   have hown:=Own.empty (E:=RcE) 88 w (Nat.le_refl _)
   have hbw:=(Below.refl w.heap.size w).alloc (Nat.le_refl _) (.cells #[] 88)
   have HO:=hide hown;have HB:=hide hbw
   clear hown hbw
   go_loopw [3,4] (fun s i wr=>s = .slice (some ⟨w.heap.size,0,none⟩) 0 0∧i = .int .i64 0∧wr=w.alloc (.cells #[] 88)) (fun _ i _=>(intOf i).toNat)
   case atStart=>exact ⟨rfl,rfl,rfl⟩
   case round =>
    obtain ⟨rfl,rfl,rfl⟩:=hrel
    go_wp2_with fail
    (with_reducible refine (HV.out _ (HP.out.below HB.out)).mono ?_);rintro e w1 ⟨rfl,hb1⟩
    go_wp2_with fail
    go_ret
    rw [E4.out]
    exact ⟨_,rfl,HO.out.below hb1,HB.out.trans (hb1.mono HB.out.size)⟩
  ·obtain rfl:np=0:=by omega
   clear h0
   go_enter Tryz.func67,Tryz.ntmps67
   go_wp2_with fail
   have hown:=Own.empty (E:=RcE) 88 w (Nat.le_refl _)
   have hbw:=(Below.refl w.heap.size w).alloc (Nat.le_refl _) (.cells #[] 88)
   have HO:=hide hown;have HB:=hide hbw
   clear hown hbw
   go_loopw [3,4] (fun s i wr=>s = .slice (some ⟨w.heap.size,0,none⟩) 0 0∧i = .int .i64 0∧wr=w.alloc (.cells #[] 88)) (fun _ i _=>(intOf i).toNat)
   case atStart=>exact ⟨rfl,rfl,rfl⟩
   case round =>
    obtain ⟨rfl,rfl,rfl⟩:=hrel
    go_wp2_with fail
    go_ret
    rw [E4.out]
    exact ⟨_,rfl,HO.out,HB.out⟩
 ·have E4:Hid (racesV p=racesTo p (insAll p)):=hide (by rw [E2.out];rfl)
  clear E2
  obtain ⟨hv1,hv2,hv3, -, -⟩:=valid_le B.out
  have hfl:p.flatten.length≤21:=by
   have:=flatten_le7 (p:=p) (fun r hr=>(hv3 r hr).1)
   omega
  have hLl:(insAll p).length≤21:=by rw [E3.out,instrsTo_length p p.length (Nat.le_refl _),List.take_length];exact hfl
  have HTL:=hide (racesTo_length p)
  have HOL:=hide (fun a L=>racesOf_length p a L)
  have HIL:=hide (fun j (hj:j≤p.length)=>(show (instrsTo p j).length≤21 from by rw [instrsTo_length p j hj];exact Nat.le_trans (flatten_take_le p j) hfl))
  have HSN:=hide (fun L a=>racesTo_snoc p L a)
  have HON:=hide (fun a L b=>racesOf_snoc p a L b)
  have HST:=hide (fun t i=>racesOf_start p t i)
  have HIS:=hide (fun (j:Nat) (r:List Ins) (h:p[j]? = some r)=>instrsTo_succ h)
  have HRB:=hide (fun (t i u k:Nat) (r s:List Ins) (x y:Ins) (h1:p[t]? = some r) (h2:r[i]? = some x) (h3:p[u]? = some s) (h4:s[k]? = some y)=>raceB_eq h1 h2 h3 h4)
  have HRL:=hide (fun (j:Nat) (r:List Ins) (h:p[j]? = some r)=>(hv3 r (List.mem_of_getElem? h)).1)
  have I0:Hid (instrsTo p 0=[]):=hide rfl
  have R0:Hid (racesTo p []=[]):=hide rfl
  clear hv1 hv3
  generalize hL:insAll p=L at *
  clear hL
  generalize hn:p.length=np at *
  have H:=hide hn;clear hn
  go_enter Tryz.func67,Tryz.ntmps67
  go_wp2_with fail
  have hown:=Own.empty (E:=RcE) 88 w (Nat.le_refl _)
  have hbw:=(Below.refl w.heap.size w).alloc (Nat.le_refl _) (.cells #[] 88)
  go_loopw [3,4] (fun s i wr => ∃ t:Nat,t≤np∧i = .int .i64 t∧OwnR wr w.heap.size s (racesTo p (instrsTo p t))∧Below w.heap.size w wr) (fun _ i _=>np - (intOf i).toNat)
  case atStart=>exact ⟨0,by omega,rfl,by rw [I0.out,R0.out];exact hown,hbw⟩
  case round =>
   obtain ⟨t,ht,rfl,hown,hb⟩:=hrel
   by_cases hlt:t < np
   ·obtain ⟨r,hr⟩:=get_of_lt (xs:=p) (k:=t) (by rw [H.out];exact hlt)
    have hlt':=nat_of_lt hlt
    have hrl:=HRL.out t r hr
    have R:=hide hr;clear hr
    have HO:=hide hown;clear hown
    go_wp2_with fail
    (with_reducible refine (HV.out _ (HP.out.below hb)).mono ?_);rintro e w1 ⟨rfl,hb1⟩
    have hb2:=hb.trans (hb1.mono hb.size)
    have hO2:=HO.out.below hb1
    go_wp2_with fail
    go_loopw [3,5] (fun s i wr => ∃ i':Nat,i'≤r.length∧i = .int .i64 i'∧OwnR wr w.heap.size s (racesTo p (instrsTo p t++rowIns t i'))∧Below w.heap.size w wr) (fun _ i _=>r.length - (intOf i).toNat)
    case atStart=>exact ⟨0,by omega,rfl,by simpa [rowIns] using hO2,hb2⟩
    case round =>
     obtain ⟨i,hi,rfl,hown,hb⟩:=hrel
     obtain ⟨b0,o0,ra,rc,rfl,hbl,i0,i1⟩:=(HP.out.below hb).row R.out
     by_cases hlt2:i < r.length
     ·obtain ⟨x,hx⟩:=get_of_lt (xs:=r) (k:=i) hlt2
      have hlt2':=nat_of_lt hlt2
      have hpl:(racesTo p (instrsTo p t++rowIns t i)).length≤28 * 21:=by
       refine Nat.le_trans (HTL.out _) (Nat.mul_le_mul ?_ hLl)
       have:=HIL.out t ht
       rw [List.length_append,rowIns_length];omega
      have SN:=hide (HSN.out (instrsTo p t++rowIns t i) ⟨t,i⟩)
      have RS:=hide (rowIns_succ t i)
      have X:=hide hx;clear hx i1
      generalize hG:racesTo p (instrsTo p t++rowIns t i)=G at *
      clear hG
      have HO:=hide hown;clear hown
      go_wp2_with fail
      go_loopw [3,6] (fun s i' wr => ∃ u:Nat,t+1≤u∧u≤np∧i' = .int .i64 u∧OwnR wr w.heap.size s (G++racesOf p ⟨t,i⟩ (instrsTo p u))∧Below w.heap.size w wr) (fun _ i _=>np - (intOf i).toNat)
      case atStart=>exact ⟨t+1,by omega,by omega,by go_num,by rw [HST.out,List.append_nil];exact HO.out,hb⟩
      case round =>
       obtain ⟨u,hu1,hu2,rfl,hown,hb⟩:=hrel
       by_cases hlt3:u < np
       ·obtain ⟨r2,hr2⟩:=get_of_lt (xs:=p) (k:=u) (by rw [H.out];exact hlt3)
        have hlt3':=nat_of_lt hlt3
        have hrl2:=HRL.out u r2 hr2
        have IS:=hide (HIS.out u r2 hr2)
        have R2:=hide hr2;clear hr2
        have HO3:=hide hown;clear hown
        go_wp2_with fail
        go_loopw [3,7] (fun s i' wr => ∃ k:Nat,k≤r2.length∧i' = .int .i64 k∧OwnR wr w.heap.size s (G++racesOf p ⟨t,i⟩ (instrsTo p u++rowIns u k))∧Below w.heap.size w wr) (fun _ i _=>r2.length - (intOf i).toNat)
        case atStart=>exact ⟨0,by omega,rfl,by simpa [rowIns] using HO3.out,hb⟩
        case round =>
         obtain ⟨k,hk,rfl,hown,hb⟩:=hrel
         obtain ⟨d0,e0,ra1,rc1,hd0e,hd0,p0,p1⟩:=(HP.out.below hb).row R.out
         simp only [Option.some.injEq,Addr.mk.injEq,and_true] at hd0e
         obtain ⟨rfl,rfl⟩:=hd0e
         obtain ⟨d2,e2,ra2,rc2,hd2e,hd2,p2,p3⟩:=(HP.out.below hb).row R2.out
         simp only [Option.some.injEq,Addr.mk.injEq,and_true] at hd2e
         obtain ⟨rfl,rfl⟩:=hd2e
         by_cases hlt4:k < r2.length
         ·obtain ⟨y,hy⟩:=get_of_lt (xs:=r2) (k:=k) hlt4
          have hlt4':=nat_of_lt hlt4
          have RB:=hide (HRB.out t i u k r r2 x y R.out X.out R2.out hy)
          have ON:=hide (HON.out ⟨t,i⟩ (instrsTo p u++rowIns u k) ⟨u,k⟩)
          have RS2:=hide (rowIns_succ u k)
          have hol:(racesOf p ⟨t,i⟩ (instrsTo p u++rowIns u k)).length≤28:=by
           refine Nat.le_trans (HOL.out _ _) ?_
           have:=HIL.out u hu2
           rw [List.length_append,rowIns_length];omega
          obtain ⟨d1,e1,rfl,hd1,q0,q1,q2,q3⟩:=p1.ins X.out
          obtain ⟨d3,e3,rfl,hd3,r0,r1,r2',r3⟩:=p3.ins hy
          have HC:=hide (fun w'=>l10Conflict_raw x.op x.loc x.reg x.val y.op y.loc y.reg y.val w')
          have HP1:=hide (fun w'=>l10Plain_raw x.op x.loc x.reg x.val w')
          have HP2:=hide (fun w'=>l10Plain_raw y.op y.loc y.reg y.val w')
          have RB2:Hid (raceB p ⟨t,i⟩ ⟨u,k⟩=(conflictR x.op x.loc y.op y.loc&&((x.op != 5)||(y.op != 5)))):=hide (by
           rw [RB.out,decide_eq_true (show (t:Int) < u by omega)];rfl)
          have Y:=hide hy;clear hy p1 p3
          generalize conflictR x.op x.loc y.op y.loc=cf at *
          generalize (x.op != 5)=k1 at *
          generalize (y.op != 5)=k2 at *
          generalize hRO:racesOf p ⟨t,i⟩ (instrsTo p u++rowIns u k)=RO at *
          clear hRO
          have HO4:=hide hown;clear hown
          have hno:∀ (bb:Bool),raceB p ⟨t,i⟩ ⟨u,k⟩=bb→racesOf p ⟨t,i⟩ (instrsTo p u++rowIns u (k+1))=RO++if bb=true then [⟨⟨t,i⟩,⟨u,k⟩⟩] else []:=fun bb hbb=>by
           rw [RS2.out,← List.append_assoc,ON.out,hbb]
          have HNO:=hide hno;clear hno
          have hlen:(G++RO).length≤68719476736:=by rw [List.length_append];omega
          cases cf
          ·have N2:Hid (racesOf p ⟨t,i⟩ (instrsTo p u++rowIns u (k+1))=RO):=hide (by rw [HNO.out false (by rw [RB2.out];rfl)];simp)
           go_wp2_with fail
           refine wp_region_bw (by kernel_rfl) (by kernel_rfl) ?_
           repeat (go_big_quiet_step ((go_at_call 119;exact Calls.bw (HC.out _))))
           refine wpQuiet_nil ?_
           intro w5 hb5
           have hb6:=hb.trans (hb5.mono hb.size)
           have hO6:=HO4.out.below hb5
           go_wp2_with fail
           go_roundw
           case rel=>exact ⟨k+1,by omega,by go_num,by rw [N2.out];exact hO6,hb6⟩
           case measure=>simp [intOf];omega
          ·cases k1
           ·cases k2
            ·have N2:Hid (racesOf p ⟨t,i⟩ (instrsTo p u++rowIns u (k+1))=RO):=hide (by rw [HNO.out false (by rw [RB2.out];rfl)];simp)
             go_wp2_with fail
             refine wp_region_bw (by kernel_rfl) (by kernel_rfl) ?_
             repeat (go_big_quiet_step (first | (go_at_call 119;exact Calls.bw (HC.out _)) | (go_at_call 120;exact Calls.bw (HP1.out _)) | (go_at_call 120;exact Calls.bw (HP2.out _))))
             refine wpQuiet_nil ?_
             intro w5 hb5
             have hb6:=hb.trans (hb5.mono hb.size)
             have hO6:=HO4.out.below hb5
             go_wp2_with fail
             go_roundw
             case rel=>exact ⟨k+1,by omega,by go_num,by rw [N2.out];exact hO6,hb6⟩
             case measure=>simp [intOf];omega
            ·have N2:Hid (racesOf p ⟨t,i⟩ (instrsTo p u++rowIns u (k+1))=RO++[⟨⟨t,i⟩,⟨u,k⟩⟩]):=hide (by rw [HNO.out true (by rw [RB2.out];rfl)];simp)
             go_wp2_with fail
             refine wp_region_bw (by kernel_rfl) (by kernel_rfl) ?_
             repeat (go_big_quiet_step (first | (go_at_call 119;exact Calls.bw (HC.out _)) | (go_at_call 120;exact Calls.bw (HP1.out _)) | (go_at_call 120;exact Calls.bw (HP2.out _))))
             refine wpQuiet_nil ?_
             intro w5 hb5
             have hb6:=hb.trans (hb5.mono hb.size)
             have hO6:=HO4.out.below hb5
             go_wp2_with (at_builtin;refine wpList_app RcE 88 Tryz.infoRace rfl Tryz.underlying38 w.heap.size _ _ ⟨⟨(t:Int),(i:Int)⟩,⟨(u:Int),(k:Int)⟩⟩ (hO6.alloc _) (by decide) hlen (by simp;have:=hb6.size;omega) rfl _ _ rfl rfl w5.heap.size 0 1 rfl news_alloc ?_;intro v' w6 hown6 hgr6)
             have hb7:=below_app hb6 hO6 hgr6
             go_roundw
             case rel=>exact ⟨k+1,by omega,by go_num,by rw [N2.out,← List.append_assoc];exact hown6,hb7⟩
             case measure=>simp [intOf];omega
           ·have N2:Hid (racesOf p ⟨t,i⟩ (instrsTo p u++rowIns u (k+1))=RO++[⟨⟨t,i⟩,⟨u,k⟩⟩]):=hide (by rw [HNO.out true (by rw [RB2.out];rfl)];simp)
            go_wp2_with fail
            refine wp_region_bw (by kernel_rfl) (by kernel_rfl) ?_
            repeat (go_big_quiet_step (first | (go_at_call 119;exact Calls.bw (HC.out _)) | (go_at_call 120;exact Calls.bw (HP1.out _))))
            refine wpQuiet_nil ?_
            intro w5 hb5
            have hb6:=hb.trans (hb5.mono hb.size)
            have hO6:=HO4.out.below hb5
            go_wp2_with (at_builtin;refine wpList_app RcE 88 Tryz.infoRace rfl Tryz.underlying38 w.heap.size _ _ ⟨⟨(t:Int),(i:Int)⟩,⟨(u:Int),(k:Int)⟩⟩ (hO6.alloc _) (by decide) hlen (by simp;have:=hb6.size;omega) rfl _ _ rfl rfl w5.heap.size 0 1 rfl news_alloc ?_;intro v' w6 hown6 hgr6)
            have hb7:=below_app hb6 hO6 hgr6
            go_roundw
            case rel=>exact ⟨k+1,by omega,by go_num,by rw [N2.out,← List.append_assoc];exact hown6,hb7⟩
            case measure=>simp [intOf];omega
         ·have e:k=r2.length:=by omega
          rw [e,← IS.out] at hown
          go_wp2_with fail
          go_roundw
          case rel=>exact ⟨u+1,by omega,by omega,by go_num,hown,hb⟩
          case measure=>simp [intOf];omega
       ·have e:u=np:=by omega
        rw [e,← E3.out] at hown
        go_wp2_with fail
        go_roundw
        case rel=>exact ⟨i+1,by omega,by go_num,by rw [RS.out,← List.append_assoc,SN.out];exact hown,hb⟩
        case measure=>simp [intOf];omega
     ·have e:i=r.length:=by omega
      rw [e,← HIS.out t r R.out] at hown
      clear i1
      go_wp2_with fail
      go_roundw
      case rel=>exact ⟨t+1,by omega,by go_num,hown,hb⟩
      case measure=>simp [intOf];omega
   ·have e:t=np:=by omega
    rw [e,← E3.out,← E4.out] at hown
    go_wp2_with fail
    go_ret
    exact ⟨_,rfl,hown,hb⟩
end Go.Proofs.YtlddmagfbcomgaaGreat
namespace Go.Proofs.YtlddmagfbcomgaaGreat
open Go.RowKit
def raceFreeB (p:List (List Ins)):Bool:=progValid p&&decide ((racesV p).length=0)
theorem RaceFree_any (v:Value) (p:List (List Ins)) (w:World) (hp:RepP w v p) (hl:p.flatten.length≤1048576) :
 Calls Tryz.prog 21 #[v] w fun e w'=>e = .returned (.bool (raceFreeB p))∧Below w.heap.size w w':=by
 have HP:=hide hp;clear hp
 have HV:=hide (fun w' h=>ProgramValid_any v p w' h hl)
 have HR:=hide (fun w' h=>RacesOf_any v p w' h hl)
 have E:Hid (raceFreeB p=(progValid p&&decide ((racesV p).length=0))):=hide rfl
 obtain ⟨a,c,rfl, -, -, -, -⟩:=HP.out.open
 generalize raceFreeB p=R at *
 generalize progValid p=b at *
 generalize racesV p=L at *
 cases b
 ·obtain rfl:R=false:=by rw [E.out];rfl
  go_enter Tryz.func21,Tryz.ntmps21
  go_wp2_with fail
  (with_reducible refine (HV.out _ HP.out).mono ?_);rintro e w1 ⟨rfl,hb1⟩
  go_wp2_with fail
  go_ret
  exact ⟨rfl,hb1⟩
 ·have E2:Hid (R=decide (L.length=0)):=hide (by rw [E.out];rfl)
  go_enter Tryz.func21,Tryz.ntmps21
  go_wp2_with fail
  (with_reducible refine (HV.out _ HP.out).mono ?_);rintro e w1 ⟨rfl,hb1⟩
  go_wp2_with fail
  (with_reducible refine (HR.out _ (HP.out.below hb1)).mono ?_);rintro e w2 ⟨v2,rfl,hown,hb2⟩
  obtain ⟨a2,c2,rfl, -, -, -, -⟩:=hown.rep.open
  generalize L.length=n at *
  go_wp2_with fail
  go_ret
  have hR2:Value.bool ((n:Int)==0) = .bool (decide (n=0)):=by congr 1;rw [Bool.eq_iff_iff];simp
  refine ⟨?_,hb1.trans (hb2.mono hb1.size)⟩
  rw [E2.out,← hR2]
  rfl
theorem sRaceFree_any (v:Value) (p:List (List Ins)) (w:World) (hp:RepP w v p) (hl:p.flatten.length≤1048576) (hpl:p.length≤1048576) :
 Calls Tryz.prog 22 #[v] w fun e w'=>e = .returned (.bool (raceFreeB p))∧Below w.heap.size w w':=by
 have HP:=hide hp;clear hp
 have HV:=hide (fun w' h=>sProgramValid_any v p w' h hl hpl)
 have HR:=hide (fun w' h=>sRacesOf_any v p w' h hl hpl)
 have E:Hid (raceFreeB p=(progValid p&&decide ((racesV p).length=0))):=hide rfl
 obtain ⟨a,c,rfl, -, -, -, -⟩:=HP.out.open
 generalize raceFreeB p=R at *
 generalize progValid p=b at *
 generalize racesV p=L at *
 cases b
 ·obtain rfl:R=false:=by rw [E.out];rfl
  go_enter Tryz.func22,Tryz.ntmps22
  go_wp2_with fail
  (with_reducible refine (HV.out _ HP.out).mono ?_);rintro e w1 ⟨rfl,hb1⟩
  go_wp2_with fail
  go_ret
  exact ⟨rfl,hb1⟩
 ·have E2:Hid (R=decide (L.length=0)):=hide (by rw [E.out];rfl)
  go_enter Tryz.func22,Tryz.ntmps22
  go_wp2_with fail
  (with_reducible refine (HV.out _ HP.out).mono ?_);rintro e w1 ⟨rfl,hb1⟩
  go_wp2_with fail
  (with_reducible refine (HR.out _ (HP.out.below hb1)).mono ?_);rintro e w2 ⟨v2,rfl,hown,hb2⟩
  obtain ⟨a2,c2,rfl, -, -, -, -⟩:=hown.rep.open
  generalize L.length=n at *
  go_wp2_with fail
  go_ret
  have hR2:Value.bool ((n:Int)==0) = .bool (decide (n=0)):=by congr 1;rw [Bool.eq_iff_iff];simp
  refine ⟨?_,hb1.trans (hb2.mono hb1.size)⟩
  rw [E2.out,← hR2]
  rfl
end Go.Proofs.YtlddmagfbcomgaaGreat
namespace Go.Proofs.YtlddmagfbcomgaaGreat
open Go.RowKit
theorem DrawRaceFree_any (v:Value) (xs0:List Int) (w:World) (hx:Rep ByteE w v xs0) (hb:∀ x∈xs0,0≤x∧x≤255) :
 Calls Tryz.prog 20 #[v] w (RetProg w):=by
 have HO:=hide (DrawRacesOf_any v xs0 w hx hb)
 clear hx hb
 go_enter Tryz.func20,Tryz.ntmps20
 go_wp2_with fail
 (with_reducible refine HO.out.mono ?_);rintro e w1 ⟨v1,P,rfl,hP,hl,hl2,hb1⟩
 have HL2:=hide hl2
 clear hl2
 go_wp2_with fail
 go_ret
 exact ⟨_,P,rfl,hP,hl,HL2.out,hb1⟩
theorem free_facts {P:List (List Ins)} (h:raceFreeB P=true):progValid P=true∧(∀ t i k,Delayed P t i k→Sep P t i k)∧racesV P=[]:=by
 unfold raceFreeB at h
 simp only [Bool.and_eq_true,decide_eq_true_eq] at h
 have h2:=List.length_eq_zero_iff.1 h.2
 refine ⟨h.1,fun t i k hd=>free_sep ?_ hd,h2⟩
 unfold racesV at h2
 rwa [if_pos h.1] at h2
theorem lawFnRaceFree (v:Value) (xs:List Int) (w:World) (h:Rep ByteE w v xs∧∀ x∈xs,0≤x∧x≤255) :
 Calls Tryz.prog 5 #[v] w fun e w'=>e = .returned (.bool true)∧Below w.heap.size w w':=by
 obtain ⟨hx,hb⟩:=h
 obtain ⟨a0,c0,rfl, -,hm, -,hx⟩:=hx.open
 have HD:=hide (DrawRaceFree_any (.slice a0 xs.length c0) xs w hx hb)
 clear hx hb
 generalize xs.length=n at *
 by_cases hl:(n:Int) > 1048576
 ·go_enter Tryz.func5,Tryz.ntmps5
  go_wp2_with fail
  go_ret
  exact ⟨rfl,Below.refl _ _⟩
 ·have hl':decide ((n:Int) > 1048576)=false:=decide_eq_false hl
  go_enter Tryz.func5,Tryz.ntmps5
  go_wp2_with fail
  (with_reducible refine HD.out.mono ?_);rintro e w1 ⟨v1,P,rfl,hP,hPl,hPr,hb1⟩
  have hfl:=flatten_bound9 hPl hPr
  have HP:=hide hP;have HB1:=hide hb1
  have HI:=hide (RaceFree_any v1 P w1 hP (by omega))
  have HS:=hide (fun w' h=>sRaceFree_any v1 P w' h (by omega) (by omega))
  have HT:=hide (fun h=>free_facts (P:=P) h)
  have HR:=hide (fun w' h=>RacesOf_any v1 P w' h (by omega))
  have HRT:=hide (fun w' h h2 h3=>Robust_tso v1 P w' h (by omega) h2 h3)
  have HRP:=hide (fun w' h h2 h3=>Robust_pso v1 P w' h (by omega) h2 h3)
  clear hP hb1 HD hPr hfl hPl
  generalize raceFreeB P=B at *
  go_wp2_with fail
  (with_reducible refine HI.out.mono ?_);rintro e w2 ⟨rfl,hb2⟩
  have HB2:=hide (HB1.out.trans (hb2.mono HB1.out.size));have HP2:=hide (HP.out.below hb2)
  clear hb2 HI HP HB1
  have hBB:(B != B)=false:=by simp
  go_wp2_with fail
  (with_reducible refine (HS.out _ HP2.out).mono ?_);rintro e w3 ⟨rfl,hb3⟩
  have HB3:=hide (HB2.out.trans (hb3.mono HB2.out.size));have HP3:=hide (HP2.out.below hb3)
  clear hb3 HP2 HB2
  cases B
  ·clear HT
   go_wp2_with fail
   (with_reducible refine (HS.out _ HP3.out).mono ?_);rintro e w5 ⟨rfl,hb5⟩
   go_wp2_with fail
   go_ret
   exact ⟨rfl,HB3.out.trans (hb5.mono HB3.out.size)⟩
  ·obtain ⟨hvQ,hsep,hgq⟩:=HT.out rfl
   have HVQ:=hide hvQ;have HSEP:=hide hsep
   rw [hgq] at HR
   clear HT hBB hvQ hsep hgq HS
   go_wp2_with fail
   (with_reducible refine (HRT.out _ HP3.out HVQ.out HSEP.out).mono ?_);rintro e w5 ⟨rfl,hb5⟩
   have HB5:=hide (HB3.out.trans (hb5.mono HB3.out.size));have R5:=hide (HP3.out.below hb5)
   clear hb5 HB3 HP3 HRT
   go_wp2_with fail
   (with_reducible refine (HRP.out _ R5.out HVQ.out HSEP.out).mono ?_);rintro e w6 ⟨rfl,hb6⟩
   have HB6:=hide (HB5.out.trans (hb6.mono HB5.out.size));have R6:=hide (R5.out.below hb6)
   clear hb6 HB5 R5 HRP
   go_wp2_with fail
   (with_reducible refine (HR.out _ R6.out).mono ?_);rintro e w7 ⟨gv,rfl,hgo,hb7⟩
   obtain ⟨ga,gc,rfl, -⟩:=hgo.rep.open
   clear hgo
   go_wp2_with fail
   go_ret
   exact ⟨rfl,HB6.out.trans (hb7.mono HB6.out.size)⟩
end Go.Proofs.YtlddmagfbcomgaaGreat
namespace Go.Proofs.YtlddmagfbcomgaaGreat
open Go.RowKit Go.ChangeShapes Go.WideShapes Go.ChangeAt
open Go.ChangeMaps (open_string)
theorem fnRaceFree_reads:∀ t∈Tryz.f5.params.toList,Tryz.prog.readableRec t=true∧t < Tryz.prog.types.size:=by
 intro t ht
 have:t=22:=by simpa [Tryz.params5] using ht
 subst this
 exact ⟨by kernel_rfl,of_decide_eq_true (by kernel_rfl)⟩
theorem fnRaceFree_lifted (os:Os) (started:os.Started) (H:Type) (enc:TypeId × Value→H) :
 ReturnsInHanded {} Tryz.checked os 5 .any (Rows.fnRaceFreeSpec.pre6 enc Tryz.prog Tryz.f5 Rows.fnRaceFreeRow.domain false) (Rows.fnRaceFreeSpec.post enc Tryz.prog Tryz.f5 false true false false):=by
 refine returnsInHanded_of_change (C:=Tryz.checked) Tryz.own started (by kernel_rfl) Tryz.func5
  (ChangeSpec.witness6 (enc:=enc) (C:=Tryz.checked) false ⟨#[],#[.slice none 0 0],[]⟩ 8 (by kernel_rfl) (by kernel_rfl) (by kernel_rfl) (by kernel_rfl)) ?_
 intro W base args ds gs before hval0 hW hcnd _
 have hval:∀ (j:Nat) t v,Tryz.f5.params[j]? = some t→args[j]? = some v→Value.okWide Tryz.prog W .any base t v:=hval0
 have hW':=hW
 obtain ⟨p,q,hA0,hV,rfl,hfz,hnd⟩:=hW
 have hA:DataW.TrodAll enc Tryz.prog W 0 (fun _=>true) true Tryz.f5.params.toList args.toList ds p:=hA0
 rw [Tryz.params5] at hA hval
 obtain ⟨v0,d0,rfl,rfl,h0⟩:=trodAll_one hA
 obtain ⟨rfl,rfl⟩:=trodVars_none hV
 obtain ⟨B0,hB0⟩:=bytes_of_trod (okWide_slice Tryz.underlying22 (hval 0 22 v0 rfl rfl)) h0
 refine (lawFnRaceFree v0 B0 W hB0).mono fun e W' ⟨he,hb⟩ => ?_
 exact ⟨_,he,post_law Tryz.laidOut fnRaceFree_reads rfl rfl (by kernel_rfl) Tryz.underlying4 hW' hb⟩
theorem fnRaceFree_holds:Rows.FnRaceFreeSaid:=
 OpenClaim.holds_of_wide 5 Tryz.f5 rfl rfl rfl rfl rfl rfl rfl ⟨rfl,rfl,rfl,rfl,rfl⟩ rfl rfl rfl rfl rfl (by kernel_rfl) Tryz.func5 (by kernel_rfl)
  (of_decide_eq_true (by kernel_rfl)) (by unfold Func.isWrapper;first | (rw [if_pos (by decide +kernel)];kernel_rfl) | (rw [if_neg (by decide +kernel)];exact ⟨rfl,rfl⟩))
  (fun os started H enc _=>fnRaceFree_lifted os started H enc)
end Go.Proofs.YtlddmagfbcomgaaGreat