/-
  The program's valuesOf, of a valid candidate. Condition: bounds on lengths.
-/
import Derived.Test.YtfbgppkdnfljhaaGreatDoorZj11
import Derived.Test.YtfbgppkdnfljhaaGreatDoorZj01
import Derived.Shelf.Slices.In.SortNone
import Derived.Sort.OwnSortedInts
import Derived.Test.YtfbgppkdnfljhaaGreatDoorZj10
import Derived.Test.YtfbgppkdnfljhaaGreatDoorZj14
import Derived.Test.YtfbgppkdnfljhaaGreatDoorZj13
import Derived.Test.YtfbgppkdnfljhaaGreatDoorZj03
import Derived.Maps.AppendAt
set_option maxHeartbeats 6400000
set_option maxRecDepth 100000
namespace Go.Proofs.YtfbgppkdnfljhaaGreatDoor
open Go.RowKit Go.Shelf Go.Sort
def sortL (xs:List Int):List Int:=xs.mergeSort fun x y=>decide (x≤y)
theorem intE_map (xs:List Int):xs.flatMap IntE.c=xs.map (Value.int .i64):=by
 induction xs with
 | nil=>rfl
 | cons x xs ih=>rw [List.flatMap_cons,ih];rfl
theorem SortN_any (v:Value) (xs:List Int) (w:World) (base:Nat) (h:Own IntE 3 w base v xs) (hl:xs.length≤1048576) :
 Calls Tryz.prog 129 #[v] w fun e w'=>e = .returned (.tuple #[])∧Own IntE 3 w' base v (sortL xs)∧w.grownBy w' v.ownBlock:=by
 rcases h.2 with ⟨rfl,h0⟩ | ⟨g,cap,cur,rfl,hbase,hb,h1,h2,h3,h4⟩
 ·obtain rfl:xs=[]:=List.eq_nil_of_length_eq_zero h0
  have hc:=Any.slices_Sort_int_none Tryz.lays189 none 0 w
  change Calls Tryz.prog 129 _ _ _ at hc
  exact hc.mono fun _ _ ⟨a,b⟩=>by subst b;exact ⟨a,by simpa [sortL] using h,World.grownBy.refl _ _⟩
 ·have hH:Holds (Value.int .i64) w g 0 xs.toArray:=holds_of_blockI hb (by rw [← intE_map];simpa [IntE] using h4)
  have hc:=Any.slices_Sort_int Tryz.lays189 g 0 cap xs w hH (Array.getElem?_eq_some_iff.1 hb).1 (by omega)
  change Calls Tryz.prog 129 _ _ _ at hc
  refine hc.mono fun _ w' ⟨a,n,os,b⟩ => ?_
  subst b
  have hlen:(xs.mergeSort fun x y=>decide (x≤y)).length=xs.length:=List.length_mergeSort _
  refine ⟨a, ?_,grownBy_sortedI _⟩
  have h5:=ownsRow_sortedI (n:=n) (os:=os) (ts:=xs.mergeSort fun x y=>decide (x≤y)) hlen hbase hb h1 h2 (by simpa [IntE] using h3)
  unfold Own sortL
  rw [intE_map,hlen]
  exact h5
end Go.Proofs.YtfbgppkdnfljhaaGreatDoor
namespace Go.Proofs.YtfbgppkdnfljhaaGreatDoor
open Go.RowKit
theorem sort_eq {p:List (List Ins)} {l:Nat} (o:List Int):decide (sortL o=wrL (evAll p) l)=decide (o.Perm (wrL (evAll p) l)):=by
 congr 1
 apply propext
 constructor
 ·intro h
  rw [← h]
  exact (List.mergeSort_perm o _).symm
 ·intro h
  have h1:(sortL o).Perm (wrL (evAll p) l):=(List.mergeSort_perm o _).trans h
  have h2:(sortL o).Pairwise (·≤·):=by
   have:=List.pairwise_mergeSort (le:=fun x y:Int=>decide (x≤y)) (fun a b c h1 h2=>by simp at *;omega) (fun a b=>by simp;omega) o
   exact this.imp (fun h=>by simpa using h)
  have h3:(wrL (evAll p) l).Pairwise (·≤·):=(wrL_sorted _ _).imp (fun h=>Int.le_of_lt h)
  exact h1.eq_of_pairwise (fun a b _ _ h4 h5=>Int.le_antisymm h4 h5) h2 h3
theorem head_get {o:List Int} {x:Int} (h:o[0]? = some x) (l:Nat):(o.head? == some (l:Int))=(x==(l:Int)):=by
 rw [List.head?_eq_getElem?,h];rfl
theorem ExecValid_any (v vf vo:Value) (p:List (List Ins)) (x:Xc) (w:World) (hp:RepP w v p) (hx:RepX w vf vo x) (hl:p.flatten.length≤1048576) (hol:∀ o∈x.od,o.length≤1048576) :
 Calls Tryz.prog 75 #[v, .agg #[vf,vo]] w fun e w'=>e = .returned (.bool (execOk p x))∧Below w.heap.size w w':=by
 have HP:=hide hp
 have HXX:=hide hx
 have HV:=hide (fun w' h=>ProgramValid_any v p w' h hl)
 have HE:=hide (fun w' h=>events_any v p w' h hl)
 obtain ⟨fa,fc,rfl,hf1,hf2,hf3,hfr⟩:=hx.fr.open
 obtain ⟨oa,oc,rfl,ho1,ho2,ho3,hod⟩:=hx.od.open
 clear hp hfr hod hx
 have HR:Hid (execOk p x=(progValid p&&(decide (x.fr.length=(evAll p).length)&&(decide (x.od.length=3)&&(fromsOk (evAll p) x.fr (evAll p).length&&ordersOk (evAll p) x.od 3))))):=hide rfl
 have HEL:=hide (evAll_length p)
 have HSE:=hide (fun (l:Nat) (o:List Int)=>sort_eq (p:=p) (l:=l) o)
 have HWP:=hide (fun (l:Nat) (h:l < 3)=>wrL_pos (p:=p) h)
 have HOL:=hide hol;clear hol
 have HB0:=hide ((Below.refl w.heap.size w).alloc (Nat.le_refl _) (.cells #[.slice fa x.fr.length fc, .slice oa x.od.length oc] 60))
 have HPV:Hid (progValid p=true→(evAll p).length≤15):=hide evAll_le
 have HP0:=hide (HP.out.below HB0.out)
 generalize execOk p x=R at *
 generalize hfn:x.fr.length=fn at *
 generalize hon:x.od.length=on at *
 generalize hes:evAll p=es at *
 generalize hen:es.length=en at *
 generalize progValid p=b at *
 have HF:=hide hfn;have HO:=hide hon;have HN:=hide hen
 clear hfn hon hes hen
 go_enter Tryz.func75,Tryz.ntmps75
 cases b
 ·obtain rfl:R=false:=by rw [HR.out];rfl
  go_wp2_with fail
  (with_reducible refine (HV.out _ HP0.out).mono ?_);rintro e w1 ⟨rfl,hb1⟩
  go_wp2_with fail
  go_ret
  exact ⟨rfl,HB0.out.trans (hb1.mono HB0.out.size)⟩
 ·have hen15:=HPV.out rfl
  go_wp2_with fail
  (with_reducible refine (HV.out _ HP0.out).mono ?_);rintro e w1 ⟨rfl,hb1⟩
  have HP1:=hide (HP0.out.below hb1)
  have HB1:=hide hb1;clear hb1
  go_wp2_with fail
  (with_reducible refine (HE.out _ HP1.out).mono ?_);rintro e w2 ⟨ve,rfl,oe,hb2⟩
  have hre:=oe.rep
  obtain ⟨ea,ec,rfl,he1,he2,he3,hre⟩:=hre.open
  rw [HN.out] at he1 he2 hre ⊢
  have HRE:=hide hre
  have HB2:=hide (HB1.out.trans (hb2.mono HB1.out.size))
  have hbl0:w.heap.size < (w.alloc (.cells #[.slice fa fn fc, .slice oa on oc] 60)).heap.size:=by simp
  have hz:(w.alloc (.cells #[.slice fa fn fc, .slice oa on oc] 60)).cell? ⟨w.heap.size,0,none⟩=some (.slice fa fn fc)∧(w.alloc (.cells #[.slice fa fn fc, .slice oa on oc] 60)).cell? ⟨w.heap.size,1,none⟩=some (.slice oa on oc):=by simp [go_sem]
  have HZ0:=hide hz.1;have HZ1:=hide hz.2
  have HX0:=hide (HXX.out.below HB0.out)
  have HBW:=hide (HB0.out)
  clear oe hre hb2 hz HB1 HV HE
  generalize w.alloc (.cells #[.slice fa fn fc, .slice oa on oc] 60)=w0 at *
  have z0:=(HB2.out.cell (p:=⟨w.heap.size,0,none⟩) hbl0).trans HZ0.out
  have z1:=(HB2.out.cell (p:=⟨w.heap.size,1,none⟩) hbl0).trans HZ1.out
  have hbl2:w.heap.size < w2.heap.size:=Nat.lt_of_lt_of_le hbl0 HB2.out.size
  by_cases c1:fn=en
  ·by_cases c2:on=3
   ·have k1:((fn:Int) != (en:Int))=false:=by simp [c1]
    have k2:((on:Int) != 3)=false:=by subst c2;rfl
    have E1:Hid (R=(fromsOk es x.fr en&&ordersOk es x.od 3)):=hide (by rw [HR.out,c1,c2];simp)
    have C1:=hide c1;have C2:=hide c2
    clear c1 c2 HR
    go_wp2_with fail
    clear k1 k2 z0 z1
    go_loopw [31] (fun i wr => ∃ t:Nat,t≤en∧i = .int .i64 t∧Hid (fromsOk es x.fr t=true)∧Below w2.heap.size w2 wr) (fun i _=>en - (intOf i).toNat)
    case atStart=>exact ⟨0,Nat.zero_le _,rfl,hide (by simp [fromsOk]),Below.refl _ _⟩
    case round =>
     obtain ⟨t,ht,rfl,hok,hb⟩:=hrel
     have HXr:=hide ((HX0.out.below HB2.out).below hb)
     have HREr:=hide (HRE.out.below hb)
     have z0:=(hb.cell (p:=⟨w.heap.size,0,none⟩) hbl2).trans ((HB2.out.cell (p:=⟨w.heap.size,0,none⟩) hbl0).trans HZ0.out)
     have hblr:w.heap.size < wr.heap.size:=Nat.lt_of_lt_of_le hbl2 hb.size
     by_cases hlt:t < en
     ·obtain ⟨e,he⟩:=get_of_lt (xs:=es) (k:=t) (by rw [HN.out];exact hlt)
      obtain ⟨f,hf⟩:=get_of_lt (xs:=x.fr) (k:=t) (by rw [HF.out,C1.out];exact hlt)
      obtain ⟨b,o,rfl,hbl,i0,i1,i2,i3,i4⟩:=HREr.out.ev he
      obtain ⟨b',o',rfl,hbl',j0⟩:=HXr.out.fr.int hf
      have hlt':=nat_of_lt hlt
      have hltf:(t:Int) < (fn:Int):=by have:=C1.out;omega
      have FS:=hide (fromsOk_succ he hf)
      have FN:Hid (fromOk es t e f=false→R=false):=hide (fun h=>by rw [E1.out,fromsOk_no he hf hlt h];rfl)
      clear he hf
      obtain ⟨et,ei,el,er,ew⟩:=e
      simp only at i0 i1 i2 i3 i4
      have HBA:=hide (hb.alloc hb.size (.cells #[.int .i64 et, .int .i64 ei, .int .i64 el, .bool er, .bool ew] 130))
      cases er
      ·have FO:Hid (fromOk es t ⟨et,ei,el,false,ew⟩ f=(f == -1)):=hide rfl
       by_cases hf1:f = -1
       ·subst hf1
        have OK:Hid (fromsOk es x.fr (t+1)=true):=hide (by rw [FS.out,hok.out,FO.out];rfl)
        go_wp2_with fail
        go_roundw
        case rel=>exact ⟨t+1,by omega,by go_num,OK,HBA.out⟩
        case measure=>simp [intOf];omega
       ·have k1:(f != -1)=true:=by simp [hf1]
        obtain rfl:R=false:=FN.out (by rw [FO.out];simp [hf1])
        clear hf1
        go_wp2_with fail
        go_ret
        have hb5:=HB2.out.trans (HBA.out.mono HB2.out.size)
        exact ⟨rfl,HBW.out.trans (hb5.mono HBW.out.size)⟩
      ·have FO:Hid (fromOk es t ⟨et,ei,el,true,ew⟩ f=((f != (t:Int))&&(wrL es el).contains f)):=hide rfl
       have HWR:=hide (writersOf_any (.slice (some ⟨b,o,none⟩) en ec) es el _ (HREr.out.below ((Below.refl wr.heap.size wr).alloc (Nat.le_refl _) (.cells #[.int .i64 et, .int .i64 ei, .int .i64 el, .bool true, .bool ew] 130))) (by rw [HN.out];omega))
       have HPL:=hide (fun v w' h=>ContainsN_any v (wrL es el) f w' h)
       generalize wrL es el=ws at *
       by_cases hft:f=(t:Int)
       ·obtain rfl:R=false:=FN.out (by rw [FO.out,hft];simp)
        have k3:(f==(t:Int))=true:=by simp [hft]
        clear hft
        go_wp2_with fail
        go_ret
        have hb5:=HB2.out.trans (HBA.out.mono HB2.out.size)
        exact ⟨rfl,HBW.out.trans (hb5.mono HBW.out.size)⟩
       ·have k3:(f==(t:Int))=false:=by simp [hft]
        generalize hcf:ws.contains f=cf at *
        cases cf
        ·obtain rfl:R=false:=FN.out (by rw [FO.out];simp)
         clear hcf hft
         go_wp2_with fail
         (with_reducible refine HWR.out.mono ?_);rintro e w4 ⟨vw,rfl,ow,hb4⟩
         have HOW:=hide ow.rep;have HB4:=hide (HBA.out.trans (hb4.mono HBA.out.size));clear ow hb4
         go_wp2_with fail
         (with_reducible refine (HPL.out _ _ HOW.out).mono ?_);rintro e w5 ⟨rfl,rfl⟩
         go_wp2_with fail
         go_ret
         have hb5:=HB2.out.trans (HB4.out.mono HB2.out.size)
         exact ⟨rfl,HBW.out.trans (hb5.mono HBW.out.size)⟩
        ·have OK:Hid (fromsOk es x.fr (t+1)=true):=hide (by rw [FS.out,hok.out,FO.out];simp [hft])
         clear hcf hft
         go_wp2_with fail
         (with_reducible refine HWR.out.mono ?_);rintro e w4 ⟨vw,rfl,ow,hb4⟩
         have HOW:=hide ow.rep;have HB4:=hide (HBA.out.trans (hb4.mono HBA.out.size));clear ow hb4
         go_wp2_with fail
         (with_reducible refine (HPL.out _ _ HOW.out).mono ?_);rintro e w5 ⟨rfl,rfl⟩
         go_wp2_with fail
         go_roundw
         case rel=>exact ⟨t+1,by omega,by go_num,OK,HB4.out⟩
         case measure=>simp [intOf];omega
     ·have OKF:Hid (fromsOk es x.fr en=true):=hide (by rw [show en=t by omega];exact hok.out)
      have E2:Hid (R=ordersOk es x.od 3):=hide (by rw [E1.out,OKF.out];rfl)
      clear E1 hok OKF
      have HB3:=hide (HB2.out.trans (hb.mono HB2.out.size))
      have z1:=(HB3.out.cell (p:=⟨w.heap.size,1,none⟩) hbl0).trans HZ1.out
      go_wp2_with fail
      clear z0 z1
      go_loopw [70] (fun i wq => ∃ k:Nat,k≤3∧i = .int .i64 k∧Hid (ordersOk es x.od k=true)∧Below wr.heap.size wr wq) (fun i _=>3 - (intOf i).toNat)
      case atStart=>exact ⟨0,by omega,rfl,hide (by simp [ordersOk]),Below.refl _ _⟩
      case round =>
       obtain ⟨k,hk,rfl,hok,hbq⟩:=hrel
       have HXq:=hide (HXr.out.below hbq)
       have HREq:=hide (HREr.out.below hbq)
       by_cases hlt3:k < 3
       ·obtain ⟨r,hr⟩:=get_of_lt (xs:=x.od) (k:=k) (by rw [HO.out,C2.out];exact hlt3)
        obtain ⟨b,o,ra,rc,rfl,hbl,i0,i1⟩:=HXq.out.od.row hr
        have hkon:(k:Int) < (on:Int):=by have:=C2.out;omega
        have hrl:=HOL.out r (List.mem_of_getElem? hr)
        have FS:=hide (ordersOk_succ (es:=es) hr)
        have FN:Hid (orderOk es k r=false→R=false):=hide (fun h=>by rw [E2.out,ordersOk_no hr hlt3 h])
        have HOE:Hid (orderOk es k r=(decide (r.Perm (wrL es (k:Int)))&&(r.head? == some (k:Int)))):=hide rfl
        have HSK:=hide (HSE.out k r)
        have hwp:=HWP.out k hlt3
        have HCL:=hide (CloneV_any _ r wr i1 hrl)
        have I1:=hide i1
        clear hr i1
        have HWR:=hide (fun w' h=>writersOf_any (.slice ea en ec) es (k:Int) w' h (by rw [HN.out];omega))
        generalize hws:wrL es (k:Int)=ws at *
        go_wp2_with fail
        (with_reducible refine HCL.out.mono ?_);rintro e w4 ⟨vc,rfl,oc4,hb4⟩
        have HS4:=hide (SortN_any vc r w4 _ oc4 (by omega))
        have HB4:=hide hb4
        have HO4:=hide oc4
        clear hb4 oc4
        go_wp2_with fail
        (with_reducible refine HS4.out.mono ?_);rintro e w5 ⟨rfl,o5,hg5⟩
        have HB5:=hide (HB4.out.grown hg5 HB4.out.size (fun q hq=>(World.ownsRow.lt HO4.out q hq).1))
        have HO5:=hide o5
        clear o5 hg5
        have HB5r:=hide (hbq.trans (HB5.out.mono hbq.size))
        have HREs:=hide (HREq.out.below HB5.out)
        go_wp2_with fail
        (with_reducible refine (HWR.out _ HREs.out).mono ?_);rintro e w6 ⟨vw,rfl,ow,hb6⟩
        have HEQ:=hide (EqualN_any vc vw (sortL r) ws w6 (HO5.out.below hb6).rep ow.rep)
        have HB6:=hide (HB5.out.trans (hb6.mono HB5.out.size))
        clear ow hb6
        rw [HSK.out] at HEQ
        have HRR:=hide (I1.out.below HB6.out)
        generalize hpm:decide (r.Perm ws)=pm at *
        cases pm
        ·obtain rfl:R=false:=FN.out (by rw [HOE.out];rfl)
         clear hpm hws
         go_wp2_with fail
         (with_reducible refine HEQ.out.mono ?_);rintro e w7 ⟨rfl,hb7⟩
         go_wp2_with fail
         go_ret
         have hb8:=HB3.out.trans ((hbq.trans ((HB6.out.trans (hb7.mono HB6.out.size)).mono hbq.size)).mono HB3.out.size)
         exact ⟨rfl,HBW.out.trans (hb8.mono HBW.out.size)⟩
        ·have hr0:0 < r.length:=by rw [(of_decide_eq_true hpm).length_eq];exact hwp
         obtain ⟨x0,hx0⟩:=get_of_lt (xs:=r) (k:=0) hr0
         have HH:=hide (head_get hx0 k)
         have X0:=hide hx0
         clear hpm hws hx0
         go_wp2_with fail
         (with_reducible refine HEQ.out.mono ?_);rintro e w7 ⟨rfl,hb7⟩
         obtain ⟨b2,o2,rfl,hbl3,j0⟩:=(HRR.out.below hb7).int X0.out
         simp only [Nat.add_zero] at j0
         have hr0':(0:Int) < (r.length:Int):=by omega
         have HB7:=hide (HB6.out.trans (hb7.mono HB6.out.size))
         clear hb7
         by_cases hxk:x0=(k:Int)
         ·have k1:(x0 != (k:Int))=false:=by simp [hxk]
          have OK:Hid (ordersOk es x.od (k+1)=true):=hide (by rw [FS.out,hok.out,HOE.out,HH.out,hxk];simp)
          clear hxk
          go_wp2_with fail
          go_roundw
          case rel=>exact ⟨k+1,by omega,by go_num,OK,hbq.trans (HB7.out.mono hbq.size)⟩
          case measure=>simp [intOf];omega
         ·have k1:(x0 != (k:Int))=true:=by simp [hxk]
          obtain rfl:R=false:=FN.out (by rw [HOE.out,HH.out];simp [hxk])
          clear hxk
          go_wp2_with fail
          go_ret
          have hb8:=HB3.out.trans ((hbq.trans (HB7.out.mono hbq.size)).mono HB3.out.size)
          exact ⟨rfl,HBW.out.trans (hb8.mono HBW.out.size)⟩
       ·obtain rfl:k=3:=by omega
        obtain rfl:R=true:=by rw [E2.out,hok.out]
        have hon:=C2.out
        clear C2
        subst hon
        go_wp2_with fail
        go_ret
        have hb6:=HB3.out.trans (hbq.mono HB3.out.size)
        exact ⟨rfl,HBW.out.trans (hb6.mono HBW.out.size)⟩
   ·have k1:((fn:Int) != (en:Int))=false:=by simp [c1]
    have k2:((on:Int) != 3)=true:=by simpa using (by omega:¬ (on:Int)=3)
    obtain rfl:R=false:=by rw [HR.out];simp [c2]
    clear c1 c2 HR
    go_wp2_with fail
    go_ret
    exact ⟨rfl,HBW.out.trans (HB2.out.mono HBW.out.size)⟩
  ·have k1:((fn:Int) != (en:Int))=true:=by simp;omega
   obtain rfl:R=false:=by rw [HR.out];simp [c1]
   clear c1 HR
   go_wp2_with fail
   go_ret
   exact ⟨rfl,HBW.out.trans (HB2.out.mono HBW.out.size)⟩
end Go.Proofs.YtfbgppkdnfljhaaGreatDoor
namespace Go.Proofs.YtfbgppkdnfljhaaGreatDoor
def prodR {α:Type}:List (List α)→List (List α)
 | []=>[[]]
 | c :: cs=>c.flatMap fun y=>(prodR cs).map (y :: ·)
theorem prodR_snoc {α : Type} (c : List α) : ∀ cs : List (List α), prodR (cs ++ [c]) = (prodR cs).flatMap fun x => c.map (x ++ [·]) := by
  intro cs
  induction cs with
  | nil => simp [prodR, List.flatMap_def]
           induction c with
           | nil => rfl
           | cons y c ih => simp [ih]
  | cons d cs ih =>
    rw [List.cons_append, prodR, ih, prodR, List.flatMap_assoc]
    congr 1
    funext y
    rw [List.map_flatMap, List.flatMap_map]
    congr 1
    funext x
    rw [List.map_map]
    rfl
theorem prodR_map {α β:Type} (f:α→β):∀ cs:List (List α),prodR (cs.map (List.map f))=(prodR cs).map (List.map f):=by
 intro cs
 induction cs with
 | nil=>rfl
 | cons c cs ih =>
  rw [List.map_cons,prodR,ih,prodR,List.map_flatMap,List.flatMap_map]
  congr 1
  funext y
  rw [List.map_map,List.map_map]
  rfl
theorem prodR_take_succ {α:Type} {cs:List (List α)} {k:Nat} {c:List α} (h:cs[k]? = some c):prodR (cs.take (k+1))=(prodR (cs.take k)).flatMap fun x=>c.map (x++[·]):=by
 rw [List.take_add_one,h];exact prodR_snoc c _
theorem prodR_row {α:Type}:∀ cs:List (List α),∀ r∈prodR cs,r.length=cs.length:=by
 intro cs
 induction cs with
 | nil=>intro r hr;simp [prodR] at hr;simp [hr]
 | cons c cs ih =>
  intro r hr
  rw [prodR,List.mem_flatMap] at hr
  obtain ⟨y, -,hr⟩:=hr
  rw [List.mem_map] at hr
  obtain ⟨q,hq,rfl⟩:=hr
  simp [ih q hq]
theorem prodR_mem {α:Type}:∀ cs:List (List α),∀ r∈prodR cs,∀ x∈r,∃ c∈cs,x∈c:=by
 intro cs
 induction cs with
 | nil=>intro r hr;simp [prodR] at hr;simp [hr]
 | cons c cs ih =>
  intro r hr x hx
  rw [prodR,List.mem_flatMap] at hr
  obtain ⟨y,hy,hr⟩:=hr
  rw [List.mem_map] at hr
  obtain ⟨q,hq,rfl⟩:=hr
  rcases List.mem_cons.1 hx with rfl | hx
  ·exact ⟨c,by simp,hy⟩
  ·obtain ⟨d,hd,h⟩:=ih q hq x hx
   exact ⟨d,by simp [hd],h⟩
theorem prodR_length {α:Type} (c:List α) (cs:List (List α)):(prodR (c :: cs)).length=c.length * (prodR cs).length:=by
 rw [prodR]
 induction c with
 | nil=>simp
 | cons y c ih=>rw [List.flatMap_cons,List.length_append,ih,List.length_map,List.length_cons,Nat.succ_mul,Nat.add_comm]
theorem prodR_pos {α:Type}:∀ {cs:List (List α)},(∀ c∈cs,0 < c.length)→0 < (prodR cs).length:=by
 intro cs
 induction cs with
 | nil=>intro _;simp [prodR]
 | cons c cs ih=>intro h;rw [prodR_length];exact Nat.mul_pos (h c (by simp)) (ih fun d hd=>h d (by simp [hd]))
theorem prodR_take_le {α:Type}:∀ {cs:List (List α)},(∀ c∈cs,0 < c.length)→∀ k,(prodR (cs.take k)).length≤(prodR cs).length:=by
 intro cs
 induction cs with
 | nil=>intro _ k;simp
 | cons c cs ih =>
  intro h k
  cases k with
  | zero=>simp only [List.take_zero];exact prodR_pos h
  | succ k =>
   rw [List.take_succ_cons,prodR_length,prodR_length]
   exact Nat.mul_le_mul_left _ (ih (fun d hd=>h d (by simp [hd])) k)
def chF (es:List Ev) (i:Nat):List Int:=match es[i]? with
 | some e=>if e.r=true then (wrL es e.l).filter (fun k => !(k==(i:Int))) else [-1]
 | none=>[]
def chsF (es:List Ev):List (List Int):=(List.range es.length).map (chF es)
def chO (es:List Ev) (l:Nat):List (List Int):=(permsL (wrL es l).tail).map ((l:Int) :: ·)
def chsO (es:List Ev):List (List (List Int)):=(List.range 3).map (chO es)
theorem pre1_flat (i:Nat) (rest:List (List Int)):∀ xs:List Int,xs.flatMap (pre1 i rest)=(xs.filter (fun k => !(k==(i:Int)))).flatMap fun k=>rest.map (k :: ·):=by
 intro xs
 induction xs with
 | nil=>rfl
 | cons x xs ih =>
  rw [List.flatMap_cons,ih]
  by_cases h:x=(i:Int)
  ·simp [pre1,h]
  ·simp [pre1,h]
theorem fromsL_prod {es:List Ev}:∀ (n i:Nat),i+n=es.length→fromsL es i=prodR ((chsF es).drop i):=by
 intro n
 induction n with
 | zero =>
  intro i hi
  obtain rfl:i=es.length:=by omega
  rw [fromsL_end,List.drop_of_length_le (by simp [chsF])];rfl
 | succ n ih =>
  intro i hi
  have hlt:i < es.length:=by omega
  rw [fromsL_step hlt,List.drop_eq_getElem_cons (by simp [chsF];exact hlt),prodR,← ih (i+1) (by omega),pre1_flat]
  congr 1
  simp only [chsF,List.getElem_map,List.getElem_range]
  unfold fromC chF
  rw [List.getElem?_eq_getElem hlt]
  simp only
  split
  ·rfl
  ·have:¬ ((-1:Int)=(i:Int)):=by omega
   simp [this]
theorem fromsL_eq (es:List Ev):fromsL es 0=prodR (chsF es):=fromsL_prod es.length 0 (by omega)
theorem ordsL_eq (p:List (List Ins)):ordsL (evAll p) 0=prodR (chsO (evAll p)):=by
 have h:∀ l:Nat,l < 3→(wrL (evAll p) l).headD 0=(l:Int):=fun l hl=>by
  have:=head_wrL (p:=p) hl
  cases hw:wrL (evAll p) l with
  | nil=>rw [hw] at this;cases this
  | cons y ys=>rw [hw] at this;simpa using this
 have st:∀ l:Nat,l < 3→∀ X,ordsL (evAll p) (l+1)=X→ordsL (evAll p) l=(chO (evAll p) l).flatMap fun y=>X.map (y :: ·):=fun l hl X hX=>by
  rw [ordsL_step hl,h l hl,hX,chO,List.flatMap_map]
 rw [st 0 (by omega) _ (st 1 (by omega) _ (st 2 (by omega) _ (ordsL_end _)))]
 rfl
theorem allX_eq (p:List (List Ins)):allX (evAll p)=(prodR (chsF (evAll p))).flatMap fun f=>(prodR (chsO (evAll p))).map (⟨f,·⟩):=by
 unfold allX;rw [fromsL_eq,ordsL_eq]
section
variable {es es' : List Ev}
end
structure FewC (p:List (List Ins)):Prop where
 fr:∀ k,(prodR ((chsF (evAll p)).take k)).length≤3000
 od:∀ k,(prodR ((chsO (evAll p)).take k)).length≤3000
theorem prodR_ne {α:Type}:∀ {cs:List (List α)},0 < (prodR cs).length→∀ c∈cs,0 < c.length:=by
 intro cs
 induction cs with
 | nil=>intro _ c hc;simp at hc
 | cons d cs ih =>
  intro h c hc
  rw [prodR_length] at h
  rcases List.mem_cons.1 hc with rfl | hc
  ·exact Nat.pos_of_mul_pos_right h |> fun _=>(Nat.pos_iff_ne_zero.2 fun e=>by rw [e,Nat.zero_mul] at h;omega)
  ·exact ih (Nat.pos_iff_ne_zero.2 fun e=>by rw [e,Nat.mul_zero] at h;omega) c hc
theorem fewC {p:List (List Ins)} (h:progValid p=true) (hf:0 < (fromsL (evAll p) 0).length) (ho:0 < (ordsL (evAll p) 0).length):FewC p:=by
 have hw:=few h
 have h1:=hw.froms 0;have h2:=hw.ords 0
 rw [fromsL_eq] at h1 hf;rw [ordsL_eq] at h2 ho
 exact ⟨fun k=>Nat.le_trans (prodR_take_le (prodR_ne hf) k) h1,fun k=>Nat.le_trans (prodR_take_le (prodR_ne ho) k) h2⟩
end Go.Proofs.YtfbgppkdnfljhaaGreatDoor
namespace Go.Proofs.YtfbgppkdnfljhaaGreatDoor
open Go.RowKit
def poB (L:List Ev) (i k:Nat):Bool:=match L[i]?,L[k]? with
 | some a,some b=>decide (0≤a.t)&&((a.t==b.t)&&decide (a.i < b.i))
 | _,_=>false
def delF (n:Nat) (c po:Nat→Nat→Bool):Nat→Nat→Bool:=fAnd po (fInv (fOr (fComp n c c) (fComp n (fComp n c (fClo n (fOr c po))) c)))
def delays (p:List (List Ins)):List Int:=relOf (evAll p).length (delF (evAll p).length (confB (evAll p)) (poB (evAll p)))
end Go.Proofs.YtfbgppkdnfljhaaGreatDoor
namespace Go.Proofs.YtfbgppkdnfljhaaGreatDoor
open Go.RowKit
def RetVal (c:Option Int) (base:Nat) (bs:Slc) (bz:List Bool) (w:World) (e:Ending) (w':World):Prop:=
 e = .returned (.tuple #[.int .i64 (c.getD 0), .bool c.isSome])∧Own BoolE 4 w' base bs.v bz∧w.grownBy w' bs.v.ownBlock
theorem RetVal.some_ {v:Int} {c:Option Int} (hc:c=some v) {base:Nat} {bs:Slc} {bz:List Bool} {w w':World} (h:Own BoolE 4 w base bs.v bz) (hb:Below w.heap.size w w'):RetVal c base bs bz w (.returned (.tuple #[.int .i64 v, .bool true])) w':=by
 subst hc
 exact ⟨rfl,h.below hb,⟨hb.os,hb.tape,hb.output,hb.size,fun k hk _=>hb.block k hk⟩⟩
theorem RetVal.none_ {c:Option Int} (hc:c=none) {base:Nat} {bs:Slc} {bz:List Bool} {w w':World} (h:Own BoolE 4 w base bs.v bz) (hb:Below w.heap.size w w'):RetVal c base bs bz w (.returned (.tuple #[.int .i64 0, .bool false])) w':=by
 subst hc
 exact ⟨rfl,h.below hb,⟨hb.os,hb.tape,hb.output,hb.size,fun k hk _=>hb.block k hk⟩⟩
theorem below_grown_row {w w':World} (hb:Below w.heap.size w w') (row:Option Nat):w.grownBy w' row:=⟨hb.os,hb.tape,hb.output,hb.size,fun k hk _=>hb.block k hk⟩
theorem value_any (pb:Nat) (ps fs os ess vs bs:Slc) (p:List (List Ins)) (es:List Ev) (hes:es=evAll p) (fr:List Int) (w0:World) (hp:RepP w0 ps.v p) (hf:Rep IntE w0 fs.v fr) (he:Rep EvE w0 ess.v es) (hok:fromsOk es fr es.length=true) (hlen:fr.length=es.length) (hl:es.length≤1048676) :
 ∀ (N:Nat) (bz:List Bool) (i:Nat) (w:World),bz.length=es.length→i < es.length→bz.countP (fun b => !b) < N→(∀ b,bz[b]? = some true→∃ m,Reach (depV p es fr) (m+1) b i)→Below w0.heap.size w0 w→VS w pb ps fs os ess vs bs→Own BoolE 4 w w0.heap.size bs.v bz →
  Calls Tryz.prog 151 #[.pointer (some ⟨pb,0,none⟩), .int .i64 i] w (RetVal (chain (depV p es fr) es.length i) w0.heap.size bs bz w):=by
 have HES:=hide hes;have HOK:=hide hok;have HLEN:=hide hlen
 clear hes hok hlen
 intro N
 induction N with
 | zero=>intro bz i w _ _ h;omega
 | succ N ih =>
  intro bz i w hbz hi hN hpath hw0 hvs hown
  obtain ⟨pa,pn,pc⟩:=ps
  obtain ⟨fa,fn,fc⟩:=fs
  obtain ⟨ea,en,ec⟩:=ess
  obtain ⟨ba,bn,bc⟩:=bs
  obtain ⟨e,hek⟩:=get_of_lt (xs:=es) (k:=i) hi
  have hpw:=hp.below hw0
  have hfw:=hf.below hw0
  have hew:=he.below hw0
  obtain ⟨ea',ec',heq, -, -, -,he'⟩:=hew.open
  simp only [Value.slice.injEq] at heq
  obtain ⟨rfl,rfl,rfl⟩:=heq
  obtain ⟨pa',pc',heq, -, -, -,hp'⟩:=hpw.open
  simp only [Value.slice.injEq] at heq
  obtain ⟨rfl,rfl,rfl⟩:=heq
  obtain ⟨fa',fc',heq, -, -, -,hf'⟩:=hfw.open
  simp only [Value.slice.injEq] at heq
  obtain ⟨rfl,rfl,rfl⟩:=heq
  rcases hown.shape with ⟨h0,h1⟩ | ⟨g,cap,hsl,hg1,hg2,hg3,hg4⟩
  ·exfalso;subst h1;simp at hbz;omega
  simp only [Value.slice.injEq] at hsl
  obtain ⟨rfl,rfl,rfl⟩:=hsl
  obtain ⟨b,o,rfl,hbl,i0,i1,i2,i3,i4⟩:=he'.ev hek
  have HVS:=hide hvs;have HOWN:=hide hown;have HP:=hide hp';have HFR:=hide hf'
  have v3:=cell_of_heapV hvs.blk (k:=3) rfl
  have hpbl:=lt_of_cell v3
  have hlt':=nat_of_lt hi
  have HB0:=hide hw0
  have D0:=hide (fun h=>dep_t0 (p:=p) (fr:=fr) hek h)
  have HBZ:=hide hbz;have HPA:=hide hpath;have IH:=hide ih
  have HEK:=hide hek
  have HNN:=hide hN
  clear hvs hown hp' hf' hpw hfw hew he' hbz hpath ih hek hN hw0
  have CE:Hid (∀ v,depV p es fr i = .inl v→chain (depV p es fr) es.length i=some v):=hide (fun v h=>chain_end hi h)
  generalize hn:es.length=n at *
  have HN:=hide hn
  clear hn
  by_cases ht:e.t < 0
  ·have C:=hide (CE.out 0 (D0.out ht))
   have k1:decide (e.t < 0)=true:=by simp [ht]
   have HBA:=hide ((Below.refl w.heap.size w).alloc (Nat.le_refl _) (.cells #[.int .i64 e.t, .int .i64 e.i, .int .i64 e.l, .bool e.r, .bool e.w] 130))
   generalize chain (depV p es fr) n i=R at *
   go_enter Tryz.func151,Tryz.ntmps151
   go_wp2_with fail
   go_ret2
   exact RetVal.some_ C.out HOWN.out HBA.out
  ·have k1:decide (e.t < 0)=false:=by simp [ht]
   have hcs:∃ (t i':Nat) (r:List Ins),e.t=t∧e.i=i'∧p[t]? = some r∧r[i']? = some (insE p e):=by
    rcases ev_cases (p:=p) (k:=i) (e:=e) (by rw [← HES.out];exact HEK.out) with h | ⟨t,i',r,h1,h2,h3,h4, -⟩
    ·exfalso;omega
    ·exact ⟨t,i',r,h1,h2,h3,h4⟩
   obtain ⟨t',i',r,het,hei,hpt,hri⟩:=hcs
   obtain ⟨b2,o2,ra,rc,rfl,hbl2,q0,q1⟩:=HP.out.row hpt
   obtain ⟨b3,o3,rfl,hbl3,r0,r1,r2,r3⟩:=q1.ins hri
   have htn:(t':Int) < (p.length:Int):=by have:=(List.getElem?_eq_some_iff.1 hpt).1;omega
   have hin:(i':Int) < (r.length:Int):=by have:=(List.getElem?_eq_some_iff.1 hri).1;omega
   have v0:=cell_of_heapV HVS.out.blk (k:=0) rfl
   have DO:=hide (fun h=>dep_op (p:=p) (fr:=fr) HEK.out ht h)
   have DR0:=hide (fun h h2=>dep_r0 (p:=p) (fr:=fr) HEK.out ht h h2)
   have DRR:=hide (fun h r j h2 h3=>dep_rr (p:=p) (fr:=fr) (r:=r) (j:=j) HEK.out ht h h2 h3)
   obtain ⟨et,ei,el,er,ew⟩:=e
   simp only at het hei i0 i1 i2 i3 i4 ht k1
   subst het
   subst hei
   generalize hins:insE p ⟨(t':Int),(i':Int),el,er,ew⟩=ix at *
   obtain ⟨xo,xl,xr,xv⟩:=ix
   simp only at r0 r1 r2 r3 DO DR0 DRR
   have HBA:=hide ((Below.refl w.heap.size w).alloc (Nat.le_refl _) (.cells #[.int .i64 (t':Int), .int .i64 (i':Int), .int .i64 el, .bool er, .bool ew] 130))
   have HEV:=hide (heap_alloc_new w (.cells #[.int .i64 (t':Int), .int .i64 (i':Int), .int .i64 el, .bool er, .bool ew] 130))
   clear hpt hri q1 hins D0 HEK
   generalize p.length=pl at *
   generalize r.length=rl at *
   go_enter Tryz.func151,Tryz.ntmps151
   go_wp2_with fail
   go_cut [7] (fun s7 W => ∃ b7:Nat,s7 = .pointer (some ⟨b7,0,none⟩)∧b7 < W.heap.size∧W.cell? ⟨b7,0,none⟩=some (.int .i64 xo)∧W.cell? ⟨b7,2,none⟩=some (.int .i64 xr)∧W.cell? ⟨b7,3,none⟩=some (.int .i64 xv)∧w.heap.size < W.heap.size∧Below (w.alloc (.cells #[.int .i64 (t':Int), .int .i64 (i':Int), .int .i64 el, .bool er, .bool ew] 130)).heap.size (w.alloc (.cells #[.int .i64 (t':Int), .int .i64 (i':Int), .int .i64 el, .bool er, .bool ew] 130)) W)
   case first =>
    go_region_held3 (fun W=>W.cell? ⟨pb,0,none⟩=some (.slice (some ⟨b2,o2,none⟩) pl pc)∧W.cell? ⟨w.heap.size,0,none⟩=some (.int .i64 (t':Int))∧W.cell? ⟨w.heap.size,1,none⟩=some (.int .i64 (i':Int))∧W.cell? ⟨b2,o2+t',none⟩=some (.slice (some ⟨b3,o3,none⟩) rl rc) ∧
     W.cell? ⟨b3,o3+i' * 4,none⟩=some (.int .i64 xo)∧W.cell? ⟨b3,o3+i' * 4+1,none⟩=some (.int .i64 xl)∧W.cell? ⟨b3,o3+i' * 4+2,none⟩=some (.int .i64 xr)∧W.cell? ⟨b3,o3+i' * 4+3,none⟩=some (.int .i64 xv)) ((simp [go_sem, *])) (first | fail)
    all_goals
     go_wp2_with fail
     go_meet
     refine ⟨_,rfl,by first | (simp;done) | (simp;omega),by simp [go_sem],by simp [go_sem],by simp [go_sem],by first | (simp;done) | (simp;omega), ?_⟩
     exact ((Below.refl _ _).alloc (Nat.le_refl _) _).drew
   case rest =>
    obtain ⟨b7,rfl,hb7,m0,m2,m3,hlw,hbW⟩:=hcut
    have HBW:=hide (HBA.out.trans (hbW.mono HBA.out.size))
    have HEVc:=hide ((hbW.block w.heap.size (Array.getElem?_eq_some_iff.1 HEV.out).1).trans HEV.out)
    clear hbW HBA HEV v0 v3 i0 i1 i2 i3 i4 q0 r0 r1 r2 r3
    have VC:=hide (HVS.out.below HBW.out)
    have OC:=hide (HOWN.out.below HBW.out)
    have hpc:=Nat.lt_of_lt_of_le hpbl HBW.out.size
    by_cases hop:xo=3
    ·subst hop
     obtain ⟨bi,hbi⟩:=get_of_lt (xs:=bz) (k:=i) (by rw [HBZ.out];exact hi)
     obtain ⟨hgl,f0,hfr⟩:=OC.out.boolc hbi
     have hin2:(i:Int) < (bz.length:Int):=by have:=HBZ.out;omega
     have v5:=cell_of_heapV VC.out.blk (k:=5) rfl
     cases bi
     ·have HBI:=hide hbi
      have HLR:=hide (lastRead_any pb ⟨some ⟨b2,o2,none⟩,pl,pc⟩ ⟨fa,fr.length,fc⟩ os ⟨some ⟨b,o,none⟩,n,ec⟩ vs ⟨some ⟨g,0,none⟩,bz.length,bc⟩ p es HES.out (t':Int) (i':Int) xr wc VC.out (hp.below (HB0.out.trans (HBW.out.mono HB0.out.size))) (he.below (HB0.out.trans (HBW.out.mono HB0.out.size))) (by rw [HN.out];exact hl))
      have e0:=cell_of_heapV HEVc.out (k:=0) rfl
      have e1:=cell_of_heapV HEVc.out (k:=1) rfl
      have DR0':=hide (DR0.out rfl);have DRR':=hide (DRR.out rfl)
      have HNE:g≠pb:=fun e=>by
       rcases OC.out.2 with ⟨h, -⟩ | ⟨g',cap',cur,h, -,hgg, -⟩
       ·simp at h
       ·simp only [Value.slice.injEq,Option.some.injEq,Addr.mk.injEq,and_true] at h
        obtain ⟨rfl, -, -⟩:=h
        have h2:=VC.out.blk
        rw [← e,hgg] at h2
        simp at h2
      have hgw0:w0.heap.size≤g:=hg1
      clear DR0 DRR DO hbi
      go_wp2_with fail
      (with_reducible refine HLR.out.mono ?_);rintro e w5 ⟨rfl,hb5⟩
      have HB5:=hide (HBW.out.trans (hb5.mono HBW.out.size))
      have V5:=hide (VC.out.below hb5)
      have O5:=hide (OC.out.below hb5)
      have hb7':=Nat.lt_of_lt_of_le hb7 hb5.size
      clear hb5 e0 e1 v5 f0 hfr m0 m2 m3 HLR VC OC HEVc
      rcases lastRd_cases p es (t':Int) (i':Int) xr with hlr | ⟨rr,e2,hlr,he2,hrd⟩
      ·have C:=hide (CE.out 0 (DR0'.out (by rw [hlr];omega)))
       rw [hlr]
       clear hlr DR0' DRR'
       generalize chain (depV p es fr) n i=R at *
       go_wp2_with fail
       go_ret2
       exact RetVal.some_ C.out HOWN.out HB5.out
      ·obtain ⟨j,e3,hfj,hej, -, -, -⟩:=from_write (k:=rr) (by rw [HN.out];exact HOK.out) he2 hrd
       have DD:=hide (DRR'.out rr j hlr hfj)
       rw [hlr]
       obtain ⟨b4,o4,rfl,hb4, -⟩:=hf.int hfj
       have hjn:j < n:=by have:=(List.getElem?_eq_some_iff.1 hej).1;have:=HN.out;omega
       have hrn:(rr:Int) < (fr.length:Int):=by have:=(List.getElem?_eq_some_iff.1 hfj).1;omega
       have hr0:decide ((rr:Int) < 0)=false:=by simp
       obtain ⟨b4',o4',h4,hb4w,j0⟩:=((hf.below HB0.out).below HB5.out).int hfj
       simp only [Option.some.injEq,Addr.mk.injEq,and_true] at h4
       obtain ⟨rfl,rfl⟩:=h4
       have ne1:pb≠g:=fun e=>HNE e.symm
       have ne2:b4≠g:=by omega
       obtain ⟨hgl5,f5,hfr5⟩:=O5.out.boolc HBI.out
       have v5:=cell_of_heapV V5.out.blk (k:=5) rfl
       have v1:=cell_of_heapV V5.out.blk (k:=1) rfl
       have hpb5:=lt_of_cell v1
       have HIV:=hide (IH.out (bz.set i true) j (w5.setCell ⟨g,i,none⟩ (.bool true)) (by rw [List.length_set];exact HBZ.out) hjn (by have:=count_set HBI.out;have:=HNN.out;omega)
        (fun b hb=>by
         rw [List.getElem?_set] at hb
         split at hb
         ·rename_i hib
          subst hib
          exact ⟨0, .step DD.out (.zero j)⟩
         ·obtain ⟨m,hm⟩:=HPA.out b hb
          exact ⟨m+1,hm.snoc DD.out⟩)
        ((HB0.out.trans (HB5.out.mono HB0.out.size)).setCell hgw0 _) ⟨(heap_setCell_other w5 ⟨g,i,none⟩ pb _ ne1).trans V5.out.blk⟩ (by have h:=O5.out.setBool HBI.out true;simpa using h))
       have CN:Hid (chain (depV p es fr) n i=chain (depV p es fr) n j):=hide (by
        rw [← HN.out]
        exact chain_next (fun a b h1 h2=>dep_lt (by rw [HN.out];exact HOK.out) a b h1 h2) (by rw [HN.out];exact hi) DD.out)
       have hinb:(i:Int) < (bz.length:Int):=by have:=HBZ.out;omega
       clear hlr hfj DR0' DRR' he2 hej
       generalize chain (depV p es fr) n i=R at *
       generalize chain (depV p es fr) n j=Rj at *
       go_wp2_with fail
       (with_reducible refine HIV.out.mono ?_);rintro e w7 ⟨rfl,own7,hg7⟩
       have hV7:w7.heap[pb]? = w5.heap[pb]?:=(hg7.block pb (by simpa using hpb5) (by simpa [Value.ownBlock] using ne1)).trans (heap_setCell_other w5 ⟨g,i,none⟩ pb _ ne1)
       have V7:=hV7.trans V5.out.blk
       have hbt:(bz.set i true)[i]? = some true:=by rw [List.getElem?_set,if_pos rfl,if_pos (by rw [HBZ.out];exact hi)]
       obtain ⟨hgl7,f7,hfr7⟩:=own7.boolc (by simpa using hbt)
       have u5:=cell_of_heapV V7 (k:=5) rfl
       have hpb7:=lt_of_cell u5
       have OW:=hide (own7.setBool (by simpa using hbt) false)
       have HG:=hide ((((below_grown_row HB5.out (some g)).trans (grown_set (World.grownBy.refl w5 (some g)) i (.bool true))).trans hg7).trans (grown_set (World.grownBy.refl w7 (some g)) i (.bool false)))
       have SB:=hide (set_back HBI.out)
       clear own7 hg7 hV7 V7 hbt v5 v1 j0 f5 hfr5 HIV
       go_wp2_with fail
       go_ret2
       refine ⟨by rw [CN.out];rfl, ?_,HG.out⟩
       have h:=OW.out
       rw [SB.out] at h
       exact h
     ·have C:Hid (chain (depV p es fr) n i=none):=hide (by
       obtain ⟨m,hm⟩:=HPA.out i hbi
       exact chain_cyc hm n)
      clear hbi
      generalize chain (depV p es fr) n i=R at *
      go_wp2_with fail
      go_ret2
      exact RetVal.none_ C.out HOWN.out HBW.out
    ·have k2:(xo != 3)=true:=by simp [hop]
     have C:=hide (CE.out xv (DO.out hop))
     clear hop
     generalize chain (depV p es fr) n i=R at *
     go_wp2_with fail
     go_ret2
     exact RetVal.some_ C.out HOWN.out HBW.out
end Go.Proofs.YtfbgppkdnfljhaaGreatDoor
namespace Go.Proofs.YtfbgppkdnfljhaaGreatDoor
open Go.RowKit
theorem Tryz.infoBool:(Tryz.prog.info? 4).map (fun i=>(i.zero,i.size,i.bytes))=some (some (.bool false),1,1):=by kernel_rfl
def RetNB (w:World) (r:List Int × Bool) (e:Ending) (w':World):Prop:=∃ u:Slc,e = .returned (.tuple #[.slice u.a u.n u.cap, .bool r.2])∧Own IntE 3 w' w.heap.size u.v r.1∧Below w.heap.size w w'
theorem RetNB.no {w w':World} (h:Below w.heap.size w w'):RetNB w ([],false) (.returned (.tuple #[.slice none 0 0, .bool false])) w':=⟨⟨none,0,0⟩,rfl,Own.nil _ _ _,h⟩
theorem VS.ne {α:Type} {E:El α} {T:TypeId} (hT:T≠184) {w:World} {pb:Nat} {ps fs os es vs bs:Slc} (h:VS w pb ps fs os es vs bs) {base:Nat} {v:Value} {xs:List α} (ho:Own E T w base v xs):∀ q,v.ownBlock=some q→q≠pb:=by
 intro q hq e
 subst e
 rcases ho.2 with ⟨rfl, -⟩ | ⟨g',cap',cur,rfl, -,hgg, -⟩
 ·simp [Value.ownBlock] at hq
 ·simp [Value.ownBlock] at hq
  subst hq
  have h2:=h.blk
  rw [hgg] at h2
  simp at h2
  exact hT h2.2
theorem VS.setVals {w:World} {pb:Nat} {ps fs os es vs bs:Slc} (h:VS w pb ps fs os es vs bs) (u:Slc):VS (w.setCell ⟨pb,4,none⟩ (.slice u.a u.n u.cap)) pb ps fs os es u bs:=⟨(heap_setCell_same w pb 4 _ _ (.slice u.a u.n u.cap) h.blk).trans rfl⟩
theorem VS.setBusy {w:World} {pb:Nat} {ps fs os es vs bs:Slc} (h:VS w pb ps fs os es vs bs) (u:Slc):VS (w.setCell ⟨pb,5,none⟩ (.slice u.a u.n u.cap)) pb ps fs os es vs u:=⟨(heap_setCell_same w pb 5 _ _ (.slice u.a u.n u.cap) h.blk).trans rfl⟩
theorem VS.grown {w w':World} {pb:Nat} {ps fs os es vs bs:Slc} (h:VS w pb ps fs os es vs bs) {row:Option Nat} (hg:w.grownBy w' row) (hr:∀ q,row=some q→q≠pb):VS w' pb ps fs os es vs bs:=
 ⟨(hg.block pb (Array.getElem?_eq_some_iff.1 h.blk).1 (fun e=>hr pb e.symm rfl)).trans h.blk⟩
def LV (w0:World) (pb:Nat) (ps fs os ess bs:Slc) (n:Nat) (vals:List Int) (W:World):Prop:=
 ∃ vs:Slc,VS W pb ps fs os ess vs bs∧Own IntE 3 W w0.heap.size vs.v vals∧Own BoolE 4 W w0.heap.size bs.v (List.replicate n false)∧Below w0.heap.size w0 W
theorem valuesOf_any (v vf vo:Value) (p:List (List Ins)) (x:Xc) (w:World) (hp:RepP w v p) (hx:RepX w vf vo x) (hl:p.flatten.length≤1048576) (hok:execOk p x=true) :
 Calls Tryz.prog 100 #[v, .agg #[vf,vo]] w (RetNB w (if valsOk p x.fr=true then (valsL p x.fr,true) else ([],false))):=by
 have HE:=hide (fun w' h=>events_any v p w' h hl)
 unfold execOk at hok
 simp only [Bool.and_eq_true,decide_eq_true_eq] at hok
 obtain ⟨hpv,hfl,hol,hfo,hoo⟩:=hok
 have HFO:=hide hfo;have HFL:=hide hfl
 have hen:=evAll_le hpv
 clear hpv hol hoo hfo hfl
 have HP:=hide hp;have HX:=hide hx
 obtain ⟨pa,pc,rfl, -,hpn, -, -⟩:=hp.open
 obtain ⟨fa,fc,rfl, -,hfn, -, -⟩:=hx.fr.open
 obtain ⟨oa,oc,rfl, -,hon, -, -⟩:=hx.od.open
 clear hp hx
 have HRV:Hid ((if valsOk p x.fr=true then (valsL p x.fr,true) else ([],false))=if okTo (evAll p) (cX p x.fr) (evAll p).length=true then (valTo (evAll p) (cX p x.fr) (evAll p).length,true) else ([],false)):=hide rfl
 generalize (if valsOk p x.fr=true then (valsL p x.fr,true) else ([],false))=R at *
 have HC:Hid (cX p x.fr=chain (depV p (evAll p) x.fr) (evAll p).length):=hide rfl
 generalize cX p x.fr=c at *
 generalize hes:evAll p=es at *
 have HES:=hide hes.symm
 have HVS:=hide (fun k e h=>valTo_succ (es:=es) c (k:=k) (e:=e) h)
 have HOS:=hide (fun k e h=>okTo_succ (es:=es) c (k:=k) (e:=e) h)
 have HON:=hide (fun k e h hw hc=>okTo_no (es:=es) c (k:=k) (e:=e) h hw hc)
 have HVL:=hide (valTo_length es c)
 clear hes
 have HB0:=hide ((Below.refl w.heap.size w).alloc (Nat.le_refl _) (.cells #[.slice fa x.fr.length fc, .slice oa x.od.length oc] 60))
 have HBX:=hide (heap_alloc_new w (.cells #[.slice fa x.fr.length fc, .slice oa x.od.length oc] 60))
 have HP0:=hide (HP.out.below HB0.out);have HX0:=hide (HX.out.below HB0.out)
 generalize hfn':x.fr.length=fn at *
 generalize hon':x.od.length=on at *
 generalize hpn':p.length=pn at *
 have HFN:=hide hfn';clear hfn' hon' hpn'
 have e0:=cell_of_heapV HBX.out (k:=0) rfl
 have e1:=cell_of_heapV HBX.out (k:=1) rfl
 have lb:=lt_of_cell e0
 go_enter Tryz.func100,Tryz.ntmps100
 go_wp2_with fail
 generalize hw1:w.alloc (.cells #[.slice fa fn fc, .slice oa on oc] 60)=w1 at *
 clear hw1
 go_cut [6] (fun s6 W => ∃ (w0:World) (pb:Nat) (ess:Slc),s6 = .pointer (some ⟨pb,0,none⟩)∧VS W pb ⟨pa,pn,pc⟩ ⟨fa,fn,fc⟩ ⟨oa,on,oc⟩ ess ⟨none,0,0⟩ ⟨none,0,0⟩∧w0.heap.size≤pb∧Rep EvE w0 ess.v es∧Below w1.heap.size w1 w0∧Below w0.heap.size w0 W)
 case first =>
  go_region_held3 (fun V=>V.cell? ⟨w.heap.size,0,none⟩=some (.slice fa fn fc)∧V.cell? ⟨w.heap.size,1,none⟩=some (.slice oa on oc)) ((simp [go_sem, *]))
   (first
    | (go_at_call 92;(with_reducible refine (HE.out _ (HP0.out.below (Below.refl _ _).drew)).mono ?_);rintro e' w4 ⟨ve,rfl,ow,hb4⟩;obtain ⟨⟨ea,en,ec⟩,rfl, -⟩:=ow.toSlc;have HOW:=hide ow;have hb5:=(Below.refl w1.heap.size w1).drew.trans (hb4.mono (by simp));have HB4:=hide hb5;have m0:=(hb5.cell (p:=⟨w.heap.size,0,none⟩) lb).trans e0;have m1:=(hb5.cell (p:=⟨w.heap.size,1,none⟩) lb).trans e1;have l1:=Nat.lt_of_lt_of_le lb hb5.size;clear ow hb4 hb5))
  all_goals
   go_wp2_with fail
   go_meet
   exact ⟨w4,w4.heap.size,⟨ea,en,ec⟩,rfl,⟨heap_alloc_new w4 _⟩,Nat.le_refl _,HOW.out.rep,HB4.out,(Below.refl _ _).alloc (Nat.le_refl _) _⟩
 case rest =>
  obtain ⟨w0,pb,ess,rfl,hV,hpb,hre,hb10,hb0c⟩:=hcut
  obtain ⟨ea,en,ec⟩:=ess
  obtain ⟨ea',ec',heq, -, -, -,hre⟩:=hre.open
  simp only [Value.slice.injEq] at heq
  obtain ⟨rfl,rfl,rfl⟩:=heq
  have HRE:=hide hre
  have HP1:=hide (HP0.out.below hb10);have HX1:=hide (HX0.out.below hb10)
  have HB1:=hide (HB0.out.trans (hb10.mono HB0.out.size))
  have HV:=hide hV;have H0C:=hide hb0c
  have HVA:=hide (fun N bz i w' h1 h2 h3 h4 h5 vs bs h6 h7=>value_any pb ⟨pa,pn,pc⟩ ⟨fa,fn,fc⟩ ⟨oa,on,oc⟩ ⟨ea,es.length,ec⟩ vs bs p es HES.out x.fr w0 HP1.out HX1.out.fr HRE.out HFO.out (HFN.out.trans HFL.out) (by omega) N bz i w' h1 h2 h3 h4 h5 h6 h7)
  rw [← HC.out] at HVA
  clear hre hV hb10 hb0c HP0 HX0 HB0 HBX HP HX HFO HE e0 e1 lb
  generalize hn:es.length=n at *
  have HN:=hide hn;clear hn
  have v3:=cell_of_heapV HV.out.blk (k:=3) rfl
  have v5:=cell_of_heapV HV.out.blk (k:=5) rfl
  have vfz:=frozen_of_heapV HV.out.blk
  have hpl:=lt_of_cell v3
  go_wp2_with (at_make;refine wpList_make BoolE 4 false Tryz.infoBool rfl Tryz.underlying182 n (by decide) (by omega) rfl _ _ rfl rfl rfl ?_;intro w5 hown5 hgr5;have V5:=hide (HV.out.below (below_of_grown hgr5));have H05:=hide (H0C.out.trans ((below_of_grown hgr5).mono H0C.out.size));have u3:=cell_of_heapV V5.out.blk (k:=3) rfl;have u5:=cell_of_heapV V5.out.blk (k:=5) rfl;have ufz:=frozen_of_heapV V5.out.blk;have upl:=lt_of_cell u3;have OB:=hide hown5;clear v3 v5 vfz hown5 hgr5)
  have L0:LV w0 pb ⟨pa,pn,pc⟩ ⟨fa,fn,fc⟩ ⟨oa,on,oc⟩ ⟨ea,n,ec⟩ ⟨some ⟨wc.heap.size,0,none⟩,n,n⟩ n [] (w5.setCell ⟨pb,5,none⟩ (.slice (some ⟨wc.heap.size,0,none⟩) n n)):=by
   have ne:=VS.ne (by decide) V5.out OB.out
   exact ⟨⟨none,0,0⟩,V5.out.setBusy ⟨some ⟨wc.heap.size,0,none⟩,n,n⟩,Own.nil _ _ _,(OB.out.mono H0C.out.size).sameV (fun q hq=>heap_setCell_other w5 ⟨pb,5,none⟩ q _ (ne q hq)),H05.out.setCell hpb _⟩
  have HL0:=hide L0
  clear L0 u3 u5 ufz upl V5 H05 OB
  go_loopw [32] (fun i wr => ∃ k:Nat,k≤n∧i = .int .i64 k∧LV w0 pb ⟨pa,pn,pc⟩ ⟨fa,fn,fc⟩ ⟨oa,on,oc⟩ ⟨ea,n,ec⟩ ⟨some ⟨wc.heap.size,0,none⟩,n,n⟩ n (valTo es c k) wr∧Hid (okTo es c k=true)) (fun i _=>n - (intOf i).toNat)
  case atStart=>exact ⟨0,Nat.zero_le _,rfl,HL0.out,hide (by simp [okTo])⟩
  case round =>
   obtain ⟨k,hk,rfl,⟨vs,hvs,hvals,hbusy,hw0r⟩,hok⟩:=hrel
   by_cases hlt:k < n
   ·obtain ⟨e,hek⟩:=get_of_lt (xs:=es) (k:=k) (by rw [HN.out];exact hlt)
    obtain ⟨b,o,rfl,hbl,i0,i1,i2,i3,i4⟩:=(HRE.out.below hw0r).ev hek
    obtain ⟨va,vn,vc⟩:=vs
    have hlt':=nat_of_lt hlt
    have HS:=hide (HVS.out k e hek)
    have OS:=hide (HOS.out k e hek)
    have ON:=hide (HON.out k e hek)
    have hlen:(valTo es c k).length≤68719476736:=by rw [HVL.out k (by omega)];omega
    clear hek
    obtain ⟨et,ei,el,er,ew⟩:=e
    simp only at i0 i1 i2 i3 i4
    have hba:=(Below.refl wr.heap.size wr).alloc (Nat.le_refl _) (.cells #[.int .i64 et, .int .i64 ei, .int .i64 el, .bool er, .bool ew] 130)
    have VA:=hide (hvs.below hba);have OA:=hide (hvals.below hba);have BA:=hide (hbusy.below hba);have DA:=hide (hw0r.trans (hba.mono hw0r.size))
    have hev:=heap_alloc_new wr (.cells #[.int .i64 et, .int .i64 ei, .int .i64 el, .bool er, .bool ew] 130)
    generalize valTo es c k=G at *
    clear hvs hvals hbusy hw0r hba
    cases ew
    ·have HS2:Hid (valTo es c (k+1)=G++[-1]):=hide (by rw [HS.out];rfl)
     have OK2:Hid (okTo es c (k+1)=true):=hide (by rw [OS.out,hok.out];rfl)
     have a4:=cell_of_heapV VA.out.blk (k:=4) rfl
     have afz:=frozen_of_heapV VA.out.blk
     have apl:=lt_of_cell a4
     clear hev
     go_wp2_with (at_builtin;refine wpList_app IntE 3 Tryz.infoInt rfl Tryz.underlying57 w0.heap.size (.slice va vn vc) G (-1) (OA.out.alloc _) (by decide) hlen (by have h:=DA.out.size;simp at h ⊢;omega) rfl _ _ rfl rfl _ 0 1 rfl (news_allocV (by simp)) ?_;intro v' w8 hown8 hgr8;obtain ⟨⟨a8,n8,c8⟩,rfl, -⟩:=hown8.toSlc;have V8:=hide ((VA.out.below ((Below.refl _ _).alloc (Nat.le_refl _) _)).grown hgr8 (VS.ne (by decide) VA.out OA.out));have q4:=cell_of_heapV V8.out.blk (k:=4) rfl;have qfz:=frozen_of_heapV V8.out.blk;have qpl:=lt_of_cell q4;have O8:=hide hown8;have B8:=hide (((BA.out.alloc (.cells #[.int .i64 (-1)] 3)).grown hgr8 (own_or (by decide) OA.out BA.out)));have D8:=hide ((DA.out.alloc DA.out.size _).grown hgr8 (by have h:=DA.out.size;simp at h ⊢;omega) (fun q hq=>(World.ownsRow.lt OA.out q hq).1));clear hown8 hgr8)
     have L8:LV w0 pb ⟨pa,pn,pc⟩ ⟨fa,fn,fc⟩ ⟨oa,on,oc⟩ ⟨some ⟨b,o,none⟩,n,ec⟩ ⟨some ⟨wc.heap.size,0,none⟩,n,n⟩ n (G++[(-1)]) (w8.setCell ⟨pb,4,none⟩ (.slice a8 n8 c8)):=by
      have ne:=VS.ne (by decide) V8.out O8.out
      have ne2:=VS.ne (by decide) V8.out B8.out
      exact ⟨⟨a8,n8,c8⟩,V8.out.setVals ⟨a8,n8,c8⟩,O8.out.sameV (fun q hq=>heap_setCell_other w8 ⟨pb,4,none⟩ q _ (ne q hq)),B8.out.sameV (fun q hq=>heap_setCell_other w8 ⟨pb,4,none⟩ q _ (ne2 q hq)),D8.out.setCell hpb _⟩
     go_roundw
     case rel=>exact ⟨k+1,by omega,by go_num,by rw [HS2.out];exact L8,OK2⟩
     case measure=>simp [intOf];omega
    ·have HCALL:=HVA.out (n+1) (List.replicate n false) k _ (by simp) hlt (by simp [List.countP_replicate]) (fun b hb=>by
      rw [List.getElem?_replicate] at hb
      split at hb
      ·simp at hb
      ·cases hb) DA.out ⟨va,vn,vc⟩ ⟨some ⟨wc.heap.size,0,none⟩,n,n⟩ VA.out BA.out
     have c4:=cell_of_heapV hev (k:=4) rfl
     have cl:=lt_of_cell c4
     cases hck:c k with
     | none =>
      rw [hck] at HCALL
      have HCL:=hide HCALL
      obtain rfl:R=([],false):=by rw [HRV.out,if_neg (by rw [ON.out rfl hck];simp)]
      clear HCALL hev hck
      go_wp2_with fail
      (with_reducible refine HCL.out.mono ?_);rintro e w7 ⟨rfl,own7,hg7⟩
      have D7:=hide (DA.out.grown hg7 DA.out.size (fun q hq=>(World.ownsRow.lt BA.out q hq).1))
      go_wp2_with fail
      go_ret2
      exact RetNB.no (HB1.out.trans (D7.out.mono HB1.out.size))
     | some v =>
      rw [hck] at HCALL
      have HCL:=hide (HCALL.mono fun _ _ h=>(h:_=Ending.returned (.tuple #[.int .i64 v, .bool true])∧_∧_))
      have HS2:Hid (valTo es c (k+1)=G++[v]):=hide (by rw [HS.out];simp [val1,hck])
      have OK2:Hid (okTo es c (k+1)=true):=hide (by rw [OS.out,hok.out,hck];rfl)
      clear HCALL hev hck
      go_wp2_with fail
      (with_reducible refine HCL.out.mono ?_);rintro e w7 ⟨rfl,own7,hg7⟩
      have D7:=hide (DA.out.grown hg7 DA.out.size (fun q hq=>(World.ownsRow.lt BA.out q hq).1))
      have V7:=hide (VA.out.grown hg7 (VS.ne (by decide) VA.out BA.out))
      have O7:=hide (OA.out.grown hg7 (own_or (by decide) BA.out OA.out))
      have B7:=hide own7
      have a4:=cell_of_heapV V7.out.blk (k:=4) rfl
      have afz:=frozen_of_heapV V7.out.blk
      have apl:=lt_of_cell a4
      clear own7 hg7 c4 cl HCL
      go_wp2_with (at_builtin;refine wpList_app IntE 3 Tryz.infoInt rfl Tryz.underlying57 w0.heap.size (.slice va vn vc) G v (O7.out.alloc _) (by decide) hlen (by have h:=D7.out.size;simp at h ⊢;omega) rfl _ _ rfl rfl _ 0 1 rfl (news_allocV (by simp)) ?_;intro v' w8 hown8 hgr8;obtain ⟨⟨a8,n8,c8⟩,rfl, -⟩:=hown8.toSlc;have V8:=hide ((V7.out.below ((Below.refl _ _).alloc (Nat.le_refl _) _)).grown hgr8 (VS.ne (by decide) V7.out O7.out));have q4:=cell_of_heapV V8.out.blk (k:=4) rfl;have qfz:=frozen_of_heapV V8.out.blk;have qpl:=lt_of_cell q4;have O8:=hide hown8;have B8:=hide (((B7.out.alloc (.cells #[.int .i64 v] 3)).grown hgr8 (own_or (by decide) O7.out B7.out)));have D8:=hide ((D7.out.alloc D7.out.size _).grown hgr8 (by have h:=D7.out.size;simp at h ⊢;omega) (fun q hq=>(World.ownsRow.lt O7.out q hq).1));clear hown8 hgr8)
      have L8:LV w0 pb ⟨pa,pn,pc⟩ ⟨fa,fn,fc⟩ ⟨oa,on,oc⟩ ⟨some ⟨b,o,none⟩,n,ec⟩ ⟨some ⟨wc.heap.size,0,none⟩,n,n⟩ n (G++[v]) (w8.setCell ⟨pb,4,none⟩ (.slice a8 n8 c8)):=by
       have ne:=VS.ne (by decide) V8.out O8.out
       have ne2:=VS.ne (by decide) V8.out B8.out
       exact ⟨⟨a8,n8,c8⟩,V8.out.setVals ⟨a8,n8,c8⟩,O8.out.sameV (fun q hq=>heap_setCell_other w8 ⟨pb,4,none⟩ q _ (ne q hq)),B8.out.sameV (fun q hq=>heap_setCell_other w8 ⟨pb,4,none⟩ q _ (ne2 q hq)),D8.out.setCell hpb _⟩
      go_roundw
      case rel=>exact ⟨k+1,by omega,by go_num,by rw [HS2.out];exact L8,OK2⟩
      case measure=>simp [intOf];omega
   ·have e:k=n:=by omega
    subst e
    obtain rfl:R=(valTo es c k,true):=by rw [HRV.out,if_pos hok.out]
    have a4:=cell_of_heapV hvs.blk (k:=4) rfl
    have apl:=lt_of_cell a4
    have HW:=hide hw0r;have HVA2:=hide hvals
    clear hvals hbusy hw0r hvs
    go_wp2_with fail
    go_ret2
    exact ⟨vs,rfl,HVA2.out.mono HB1.out.size,HB1.out.trans (HW.out.mono HB1.out.size)⟩
end Go.Proofs.YtfbgppkdnfljhaaGreatDoor