/-
  All lists with one element of each list of choices, in the program: at numbers and at slices of numbers. Condition: bounds on lengths.
-/
import Derived.Test.YtkfhgnkonaafgaaGreatDoorZx24
import Derived.Test.YtkfhgnkonaafgaaGreatDoorZx08
import Derived.Test.YtkfhgnkonaafgaaGreatDoorZx05
import Derived.Test.YtkfhgnkonaafgaaGreatDoorZx25
import Derived.Test.YtkfhgnkonaafgaaGreatDoorZx15
import Derived.Deep.AppendLies
set_option maxHeartbeats 6400000
set_option maxRecDepth 100000
namespace Go.Proofs.YtkfhgnkonaafgaaGreatDoor
open Go.RowKit
end Go.Proofs.YtkfhgnkonaafgaaGreatDoor
namespace Go.Proofs.YtkfhgnkonaafgaaGreatDoor
open Go.RowKit
end Go.Proofs.YtkfhgnkonaafgaaGreatDoor
namespace Go.Proofs.YtkfhgnkonaafgaaGreatDoor
open Go.RowKit
theorem wpList_appL {α:Type} (E:El α) {P:Program} {w:World} {ops:Array Oper} {rest:List Oper} {o:Oper} {a:Act} {Q:Exit→Act→World→Prop}
 (T:TypeId) {zv:Value} {bytes:Nat} (hinfo:(P.info? T).map (fun i=>(i.zero,i.size,i.bytes))=some (some zv,E.sz,bytes)) (hz:zv.cells.size=E.sz) {t:TypeId} (h1:P.underlying t=some (.slice T))
 (base:Nat) (v:Value) (xs:List α) (x:α) (hown:Own E T w base v xs) (hby:bytes≤256) (hn:xs.length≤68719476736) (hbase:base≤w.heap.size)
 (hg:o.guard=none) (s y:Operand) (hop:o.op = .call { callee:=.builtin .append,args:=#[s,y],argTypes:=#[t,t] })
 (hs:a.eval s=v) (b off c:Nat) (hy:a.eval y = .slice (some ⟨b,off,none⟩) 1 c) (hnews:∀ j u,(E.c x)[j]? = some u→w.cell? ⟨b,off+j,none⟩=some u)
 (hK:∀ (u:Slc) w',Own E T w' base u.v (xs++[x])→w.grownBy w' v.ownBlock→(u.v.ownBlock=v.ownBlock∨u.v.ownBlock=some w.heap.size)→wpList P ops Q rest (a.put o.dst (.slice u.a u.n u.cap)) w') :
 wpList P ops Q (o :: rest) a w:=by
 obtain ⟨it,hi,hz0,hz1,hz2⟩:=info_parts hinfo
 refine wpList_append_lies w hg s y t hop base T it zv E.sz bytes h1 hi hz0 hz1 hz2 hz E.pos v xs.length _ hs hown ⟨b,off,none⟩ 1 c (E.c x) hy (by rw [E.len,Nat.one_mul]) ?_ (E.one x) (by omega) (by unfold maxLen;omega) ?_ hbase _ rfl ?_
 ·intro j u hu
  have hadd:(⟨b,off,none⟩:Addr).add j=⟨b,off+j,none⟩:=by unfold Addr.add;split <;> simp_all
  rw [hadd]
  exact hnews j u hu
 ·have:=Nat.mul_le_mul (show xs.length+1≤68719476737 by omega) hby
  omega
 ·intro g cap w' h2 h3 h4 _
  refine hK ⟨some ⟨g,0,none⟩,xs.length+1,cap⟩ w' ?_ h3 ?_
  ·unfold Own
   simpa [List.flatMap_append,Slc.v] using h2
  ·rcases h4 with h4 | h4
   ·exact .inl (by rw [h4];rfl)
   ·exact .inr (by rw [h4];rfl)
theorem one_nil (w:World):RowsI (w.alloc (.cells #[.slice none 0 0] 24)) w.heap.size (.slice (some ⟨w.heap.size,0,none⟩) 1 1) [[]]:=by
 have h1:=Own.lit1 (E:=SlcE) (T:=24) w (base:=w.heap.size) (Nat.le_refl _) ⟨none,0,0⟩
 refine ⟨[⟨none,0,0⟩],[⟨w.heap.size,w.heap.size,[]⟩],rfl,rfl,by simp,h1,fun i u d x h2 h3 h4 => ?_⟩
 cases i with
 | succ i=>simp at h2
 | zero =>
  simp at h2 h3 h4
  subst h2;subst h3;subst h4
  have h0:=Own.nil (E:=IntE) 3 w w.heap.size
  exact ⟨Nat.le_refl _,(PhiI.loc (u:=⟨none,0,0⟩) h0).below ((Below.refl _ w).alloc (Nat.le_refl _) _)⟩
theorem orders_any (n:Nat):∀ (v:Value) (xs:List Int) (w:World),xs.length=n→fact n≤3000→Rep IntE w v xs →
 Calls Tryz.prog 100 #[v] w fun e w' => ∃ u:Slc,e = .returned (.slice u.a u.n u.cap)∧RowsI w' w.heap.size u.v (permsL xs)∧Below w.heap.size w w':=by
 induction n with
 | zero =>
  intro v xs w hx _ he
  obtain rfl:xs=[]:=List.length_eq_zero_iff.1 hx
  obtain ⟨a,c,rfl, -, -, -, -⟩:=he.open
  rw [permsL_nil]
  go_enter Tryz.func100,Tryz.ntmps100
  go_wp2_with fail
  go_ret
  exact ⟨⟨some ⟨w.heap.size,0,none⟩,1,1⟩,rfl,one_nil w,(Below.refl _ _).alloc (Nat.le_refl _) _⟩
 | succ n ih =>
  intro v xs w hx hfact he
  have hn6:=fact_lt hfact
  have HI:=hide (fun v' xs' w' h1 h2=>ih v' xs' w' h1 (Nat.le_trans (fact_mono (Nat.le_succ n)) hfact) h2)
  have HP0:Hid (permTo xs 0=[]):=hide rfl
  have HPS:=hide (permTo_succ xs)
  have HPL:=hide (fun k (hk:k≤n+1)=>Nat.le_trans (permTo_length xs k (by omega)) (by rw [hx];exact hfact))
  have HPE:Hid (permsL xs=permTo xs (n+1)):=hide (by rw [permsL_step (by omega),hx];rfl)
  have HE:=hide he
  have HXL:=hide hx
  have HCL:=hide (CloneV_any v xs)
  obtain ⟨a,c,rfl,hnc, -, -, -⟩:=he.open
  obtain ⟨x0,hx0⟩:=get_of_lt (xs:=xs) (k:=0) (by omega)
  obtain ⟨b,o,rfl,hbl, -⟩:=he.int hx0
  rw [hx] at hnc ⊢
  have hne:(((n+1:Nat):Int)==0)=false:=by simp;omega
  rw [hx] at HE HCL
  have HFA:Hid (fact (n+1)≤3000):=hide hfact
  clear he ih hx hx0 hfact
  generalize permsL xs=R at *
  generalize hm:n+1=m at *
  have HM:=hide hm
  clear hm
  go_enter Tryz.func100,Tryz.ntmps100
  go_wp2_with fail
  go_loopw [3,14] (fun s i wr => ∃ k:Nat,k≤m∧i = .int .i64 k∧RowsI wr w.heap.size s (permTo xs k)∧Below w.heap.size w wr) (fun _ i _=>m - (intOf i).toNat)
  case atStart=>exact ⟨0,Nat.zero_le _,rfl,by rw [HP0.out];exact OwnF.nil _ w _,Below.refl _ _⟩
  case round =>
   obtain ⟨k,hk,rfl,hrows,hbr⟩:=hrel
   by_cases hlt:k < m
   ·obtain ⟨x,hxk⟩:=get_of_lt (xs:=xs) (k:=k) (by rw [HXL.out];exact hlt)
    have hltk:=nat_of_lt hlt
    have PS:=hide (HPS.out k)
    have hgd:xs.getD k 0=x:=by simp [List.getD,hxk]
    rw [hgd] at PS
    have PL:=hide (HPL.out k hk)
    generalize permTo xs k=G at *
    have HEr:=HE.out.below hbr
    obtain ⟨b',o',hbo,hbf,f0⟩:=HEr.int hxk
    simp only [Option.some.injEq,Addr.mk.injEq,and_true] at hbo
    obtain ⟨rfl,rfl⟩:=hbo
    have hwk:wrap64 ((k:Int)+1)=(k:Int)+1:=by unfold wrap64;omega
    have hwk2:IntKind.i64.wrap ((k:Int)+1)=(k:Int)+1:=by rw [IntKind.wrap_i64];omega
    have HC1:=hide (HCL.out wr HEr (by omega))
    have HEE:=hide HEr
    have HRO:=hide hrows;have HBR:=hide hbr
    clear HEr hrows hbr
    go_wp2_with fail
    (with_reducible refine HC1.out.mono ?_);rintro e w1 ⟨vc,rfl,oc,hb1⟩
    have HD:=hide (Delete_any vc xs w1 wr.heap.size k oc (by rw [HXL.out];exact hlt))
    have HB1:=hide hb1;have HOC:=hide oc
    obtain ⟨⟨ca,cn,cc⟩,rfl, -⟩:=oc.toSlc
    clear oc hb1 HC1
    go_wp2_with fail
    (with_reducible refine HD.out.mono ?_);rintro e w2 ⟨⟨da,dn,dc⟩,rfl,od,hg2⟩
    have HB2:=hide (HB1.out.grown hg2 HB1.out.size (fun q hq=>(World.ownsRow.lt HOC.out q hq).1))
    have HC:=hide (HI.out _ (xs.eraseIdx k) w2 (by rw [List.length_eraseIdx,HXL.out,if_pos hlt];have:=HM.out;omega) od.rep)
    have HRL:=hide (fun r (hr:r∈permsL (xs.eraseIdx k))=>permsL_row n (xs.eraseIdx k) (by rw [List.length_eraseIdx,HXL.out,if_pos hlt];have:=HM.out;omega) r hr)
    have HRN0:=hide (permsL_length (xs.eraseIdx k))
    have HEL:Hid (fact (xs.eraseIdx k).length≤3000):=hide (by
     rw [List.length_eraseIdx,HXL.out,if_pos hlt]
     refine Nat.le_trans (fact_mono (Nat.sub_le m 1)) ?_
     have:=HFA.out
     exact this)
    have HB7:=hide (HBR.out.trans (HB2.out.mono HBR.out.size))
    have HR7:=hide (OwnF.below HRO.out HB2.out)
    have HQ3:Hid (∀ q,u3.ownBlock=some q→q < w2.heap.size):=hide (fun q hq=>by
     obtain ⟨us,ds,hU⟩:=HRO.out
     exact Nat.lt_of_lt_of_le (World.ownsRow.lt hU.own q hq).2 HB2.out.size)
    clear od hg2 HB2 HD HB1 HOC HRO HBR hwk hwk2 hbf f0 HEE
    generalize permsL (xs.eraseIdx k)=RR at *
    go_wp2_with fail
    (with_reducible refine HC.out.mono ?_);rintro e w8 ⟨⟨ra,rn,rc⟩,rfl,ou,hb8⟩
    have hrn:rn=RR.length:=by
     rcases ou.shape with ⟨h1,h2⟩ | ⟨g,cap,h1, -⟩
     ·simp only [Slc.v,Value.slice.injEq] at h1;rw [h1.2.1,h2];rfl
     ·simp only [Slc.v,Value.slice.injEq] at h1;exact h1.2.1
    have HRN:Hid (RR.length=rn):=hide hrn.symm
    have hrb:rn≤3000:=by have:=HRN0.out;have:=HEL.out;omega
    have HRS:=hide ou
    have HQ8:Hid (∀ q,(Slc.v ⟨ra,rn,rc⟩).ownBlock=some q→w2.heap.size≤q∧q < w8.heap.size):=hide (fun q hq=>by
     obtain ⟨us,ds,hU⟩:=ou
     exact World.ownsRow.lt hU.own q hq)
    have HR8:=hide (OwnF.below HR7.out hb8)
    have HB8:=hide (HB7.out.trans (hb8.mono HB7.out.size))
    have h78:=hb8.size
    clear ou hb8 hrn HR7 HB7 HC
    go_wp2_with fail
    go_loopw [3,27] (fun s i wr => ∃ j:Nat,j≤rn∧i = .int .i64 j∧RowsI wr w.heap.size s (G++(RR.take j).map (x :: ·))∧RowsI wr w2.heap.size (.slice ra rn rc) RR∧Hid (∀ q,s.ownBlock=some q→q < w2.heap.size∨w8.heap.size≤q)∧Below w.heap.size w wr∧w8.heap.size≤wr.heap.size) (fun _ i _=>rn - (intOf i).toNat)
    case atStart=>exact ⟨0,Nat.zero_le _,rfl,by rw [List.take_zero,List.map_nil,List.append_nil];exact HR8.out,HRS.out,hide (fun q hq => .inl (HQ3.out q hq)),HB8.out,Nat.le_refl _⟩
    case round =>
     obtain ⟨j,hj,rfl,hrows,hrest,hsq,hbr,hsz⟩:=hrel
     by_cases hltj:j < rn
     ·obtain ⟨r,hrj⟩:=get_of_lt (xs:=RR) (k:=j) (by rw [HRN.out];exact hltj)
      have hltj':=nat_of_lt hltj
      obtain ⟨⟨sa,sn,sc⟩,g,hga,hg,g0,hrep⟩:=RowsI.row hrest hrj
      subst hga
      have hgq:=HQ8.out g rfl
      have RS:Hid (G++(RR.take (j+1)).map (x :: ·)=(G++(RR.take j).map (x :: ·))++[x :: r]):=hide (by rw [map_take_succ (x :: ·) hrj,List.append_assoc])
      have hrl:=HRL.out r (List.mem_of_getElem? hrj)
      have hlen:(G++(RR.take j).map (x :: ·)).length≤68719476736:=by
       rw [List.length_append,List.length_map,List.length_take]
       have:=PL.out;have:=HRN.out;omega
      have hn1:([x]:List Int).length+r.length≤68719476736:=by have:=HM.out;simp;omega
      have HRP:=hide (hrep.below ((Below.refl wr.heap.size wr).alloc (Nat.le_refl _) (.cells #[.int .i64 x] 3)))
      obtain ⟨us,ds,hU⟩:=hrows
      have HUL:Hid (us.length≤68719476736):=hide (by rw [hU.lu];exact hlen)
      have HU:=hide hU
      have HBR2:=hide hbr
      have HRS2:=hide hrest
      have HLT:Hid (Own IntE 3 (wr.alloc (.cells #[.int .i64 x] 3)) wr.heap.size (.slice (some ⟨wr.heap.size,0,none⟩) 1 1) [x]):=hide (Own.lit1 (E:=IntE) (T:=3) wr (Nat.le_refl _) x)
      have hbs:w.heap.size≤wr.heap.size:=hbr.size
      have HQ7:Hid (∀ q,u3.ownBlock=some q→w.heap.size≤q∧q≠g):=hide (fun q hq=>⟨(World.ownsRow.lt hU.own q hq).1,by have:=hsq.out q hq;omega⟩)
      generalize G++(RR.take j).map (x :: ·)=GG at *
      clear hrj hrep hbr hrl hU hlen hrest
      go_wp2_with (at_builtin;first
       | (refine wpList_appS IntE 3 Tryz.infoInt rfl Tryz.underlying24 wr.heap.size _ [x] r _ HLT.out HRP.out (by decide) hn1 (by simp) rfl _ _ rfl rfl rfl ?_;intro v6 w6 hown6 hgr6;obtain ⟨⟨a6,n6,c6⟩,rfl, -⟩:=hown6.toSlc;have O6:=hide hown6;have B6:=hide (((Below.refl wr.heap.size wr).alloc (Nat.le_refl _) (.cells #[.int .i64 x] 3)).grown hgr6 (by simp) (fun q hq=>by simp [Value.ownBlock] at hq;omega));have hb6:=B6.out.size;clear hown6 hgr6)
       | (refine wpList_appL SlcE 24 Tryz.infoIntS rfl Tryz.underlying27 w.heap.size _ us ⟨a6,n6,c6⟩ ((HU.out.own.below B6.out).alloc _) (by decide) HUL.out (by simp;omega) rfl _ _ rfl rfl w6.heap.size 0 1 rfl news_alloc ?_;rintro ⟨ua,un,uc⟩ w9 hown8 hgr8 hv8))
      have R8:=RowsI.app HU.out B6.out hbs rfl O6.out hown8 hgr8
      have B8:=(HBR2.out.trans (B6.out.mono hbs)).alloc (by omega) (.cells #[.slice a6 n6 c6] 24)
      have B9:=B8.grown hgr8 (by simp;omega) (fun q hq=>(HQ7.out q hq).1)
      have ba:=(Below.refl w6.heap.size w6).alloc (Nat.le_refl _) (.cells #[.slice a6 n6 c6] 24)
      have S9:=OwnF.grown_ne (OwnF.below (OwnF.below HRS2.out B6.out) ba) ((HU.out.own.below B6.out).below ba) hgr8 (.inr fun e=>(HQ7.out g e.symm).2 rfl)
      have hs9:=hgr8.size
      simp only [World.size_alloc] at hs9 hv8
      have HQ9:Hid (∀ q,(Value.slice ua un uc).ownBlock=some q→q < w2.heap.size∨w8.heap.size≤q):=hide (fun q hq=>by
       rcases hv8 with h | h
       ·rw [show (Value.slice ua un uc).ownBlock=_ from h] at hq;exact hsq.out q hq
       ·rw [show (Value.slice ua un uc).ownBlock=_ from h] at hq;simp at hq;omega)
      have HR8:=hide R8;have HS9:=hide S9;have HB9:=hide B9
      clear R8 S9 B9 B8
      go_roundw
      case rel=>exact ⟨j+1,by omega,by go_num,by rw [RS.out];exact HR8.out,HS9.out,HQ9,HB9.out,by omega⟩
      case measure=>simp [intOf];omega
     ·obtain rfl:j=rn:=by omega
      rw [List.take_of_length_le (by rw [HRN.out];exact Nat.le_refl _),← PS.out] at hrows
      go_wp2_with fail
      go_roundw
      case rel=>exact ⟨k+1,by omega,by go_num,hrows,hbr⟩
      case measure=>simp [intOf];omega
   ·obtain rfl:k=m:=by omega
    obtain ⟨us,ds,hU⟩:=hrows
    obtain ⟨⟨qa,qn,qc⟩,rfl, -⟩:=hU.own.toSlc
    have hrows:RowsI _ _ _ _:=⟨us,ds,hU⟩
    clear hU
    go_wp2_with fail
    go_ret
    exact ⟨⟨qa,qn,qc⟩,rfl,by rw [HPE.out];exact hrows,hbr⟩
end Go.Proofs.YtkfhgnkonaafgaaGreatDoor
namespace Go.Proofs.YtkfhgnkonaafgaaGreatDoor
open Go.RowKit
def PhiG {α:Type} (E:El α) (T:TypeId) (d:Dd) (W:World) (u:Slc) (x:List α):Prop:=Own E T W d.lo u.v x∧∀ q,u.v.ownBlock=some q→q < d.hi
abbrev RowsG {α:Type} (E:El α) (T TS:TypeId) (w:World) (base:Nat) (v:Value) (L:List (List α)):Prop:=OwnF SlcE TS Rafter (PhiG E T) w base v L
section
variable {α : Type} {E : El α} {T TS : TypeId}
theorem PhiG.loc (hT:T≠TS) {w:World} {lo:Nat} {u:Slc} {x:List α} (h:Own E T w lo u.v x):LocR TS lo w.heap.size w (fun W=>PhiG E T ⟨lo,w.heap.size,[]⟩ W u x):=
 (LocR.own hT h).map fun _ k=>⟨k,fun q hq=>(World.ownsRow.lt h q hq).2⟩
theorem RowsG.row {w:World} {base:Nat} {a:Option Addr} {n c:Nat} {L:List (List α)} (h:RowsG E T TS w base (.slice a n c) L) {k:Nat} {r:List α} (hr:L[k]? = some r) :
 ∃ (u:Slc) (g:Nat),a=some ⟨g,0,none⟩∧g < w.heap.size∧w.cell? ⟨g,k,none⟩=some (.slice u.a u.n u.cap)∧Rep E w u.v r:=by
 obtain ⟨us,ds,h⟩:=h
 obtain ⟨u,d,g, -, -,h1, -,h2,h3, -,h4⟩:=h.at hr
 have h5:=h3 0 _ rfl
 simp only [SlcE,Nat.mul_one,Nat.add_zero] at h5
 exact ⟨u,g,h1,h2,h5,h4.now.1.rep⟩
theorem RowsG.len {w:World} {base:Nat} {a:Option Addr} {n c:Nat} {L:List (List α)} (h:RowsG E T TS w base (.slice a n c) L):n=L.length:=by
 rcases h.shape with ⟨h1,h2⟩ | ⟨g,cap,h1, -⟩
 ·simp only [Value.slice.injEq] at h1;rw [h1.2.1,h2];rfl
 ·simp only [Value.slice.injEq] at h1;exact h1.2.1
theorem RowsG.app (hT:T≠TS) {us:List Slc} {ds:List Dd} {w w1 w2:World} {base lo:Nat} {v v':Value} {L:List (List α)} (h:OwnFU SlcE TS Rafter (PhiG E T) us ds w base v L) (hb:Below w.heap.size w w1) (hbase:base≤w.heap.size) {r:List α} {s:Slc} {ob:Obj}
 (hlo:lo=w.heap.size) (hu:Own E T w1 lo s.v r) (ho:Own SlcE TS w2 base v' (us++[s])) (hg:(w1.alloc ob).grownBy w2 v.ownBlock):RowsG E T TS w2 base v' (L++[r]):=by
 subst hlo
 have hba:=(Below.refl w1.heap.size w1).alloc (Nat.le_refl _) ob
 have hd:=h.hi
 exact ⟨us++[s],ds++[⟨w.heap.size,w1.heap.size,[]⟩],OwnFU.app (d:=⟨w.heap.size,w1.heap.size,[]⟩) ((h.below hb).below hba) ho hg hbase ((PhiG.loc hT hu).below hba) (fun d' h'=>(hd d' h':d'.hi≤w.heap.size))⟩
theorem RowsG.one (hT:T≠TS) (w:World):RowsG E T TS (w.alloc (.cells #[.slice none 0 0] TS)) w.heap.size (.slice (some ⟨w.heap.size,0,none⟩) 1 1) [[]]:=by
 have h1:=Own.lit1 (E:=SlcE) (T:=TS) w (base:=w.heap.size) (Nat.le_refl _) ⟨none,0,0⟩
 refine ⟨[⟨none,0,0⟩],[⟨w.heap.size,w.heap.size,[]⟩],rfl,rfl,by simp,h1,fun i u d x h2 h3 h4 => ?_⟩
 cases i with
 | succ i=>simp at h2
 | zero =>
  simp at h2 h3 h4
  subst h2;subst h3;subst h4
  have h0:=Own.nil (E:=E) T w w.heap.size
  exact ⟨Nat.le_refl _,(PhiG.loc hT (u:=⟨none,0,0⟩) h0).below ((Below.refl _ w).alloc (Nat.le_refl _) _)⟩
end
theorem prodR_part {α:Type} {cs:List (List α)} {c:List α} {k:Nat} (hc:cs[k]? = some c) (hb:∀ k,(prodR (cs.take k)).length≤3000) (i:Nat):(((prodR (cs.take k)).take i).flatMap fun x=>c.map (x++[·])).length≤3000:=by
 have h:=flatMap_take_le (fun x=>c.map (x++[·])) (prodR (cs.take k)) i
 rw [← prodR_take_succ hc] at h
 exact Nat.le_trans h (hb (k+1))
theorem productN_any (v:Value) (cs:List (List Int)) (w:World) (hx:Rep2 IntE w v cs) (hl:cs.length≤1048576) (hcl:∀ c∈cs,c.length≤1048576) (hb:∀ k,(prodR (cs.take k)).length≤3000) :
 Calls Tryz.prog 101 #[v] w fun e w' => ∃ u:Slc,e = .returned (.slice u.a u.n u.cap)∧RowsG IntE 3 24 w' w.heap.size u.v (prodR cs)∧Below w.heap.size w w':=by
 obtain ⟨a0,c0,rfl,hc1,hc2,hc3,hx⟩:=hx.open
 have HX:=hide hx
 have HP:=hide (fun k c hc=>prodR_take_succ (cs:=cs) (k:=k) (c:=c) hc)
 have HPR:=hide (fun k r (hr:r∈prodR (cs.take k))=>prodR_row _ r hr)
 have HPB:=hide hb
 have HPP:=hide (fun k c (hc:cs[k]? = some c) i=>prodR_part hc hb i)
 have HP0:Hid (prodR (cs.take 0)=[[]]):=hide rfl
 have HPE:Hid (prodR cs=prodR (cs.take cs.length)):=hide (by rw [List.take_length])
 have HCLL:=hide hcl
 clear hx hb hcl
 generalize hn:cs.length=n at *
 have H:=hide hn;clear hn
 have HT:Hid (3≠24):=hide (by decide)
 go_enter Tryz.func101,Tryz.ntmps101
 go_wp2_with fail
 go_loopw [3,14] (fun s i wr => ∃ k:Nat,k≤n∧i = .int .i64 k∧RowsG IntE 3 24 wr w.heap.size s (prodR (cs.take k))∧Below w.heap.size w wr) (fun _ i _=>n - (intOf i).toNat)
 case atStart=>exact ⟨0,Nat.zero_le _,rfl,by rw [HP0.out];exact RowsG.one HT.out w,(Below.refl _ _).alloc (Nat.le_refl _) _⟩
 case round =>
  obtain ⟨k,hk,rfl,hrows,hbr⟩:=hrel
  by_cases hlt:k < n
  ·obtain ⟨c,hck⟩:=get_of_lt (xs:=cs) (k:=k) (by rw [H.out];exact hlt)
   have hltk:=nat_of_lt hlt
   obtain ⟨b,o,ca,cc,rfl,hbf,f0,hrow⟩:=(HX.out.below hbr).row hck
   have PS:=hide (HP.out k c hck)
   have PR:=hide (HPR.out k)
   have PB:=hide (HPB.out k)
   have PP:=hide (HPP.out k c hck)
   have hclen:=HCLL.out c (List.mem_of_getElem? hck)
   have HRC:=hide hrow;have HBR:=hide hbr
   obtain ⟨us0,ds0,hU0⟩:=hrows
   obtain ⟨⟨aa,an,ac⟩,hsv, -⟩:=hU0.own.toSlc
   simp only [Slc.v] at hsv
   subst hsv
   have hA:RowsG _ _ _ _ _ _ _:=⟨us0,ds0,hU0⟩
   have HAN:Hid ((prodR (cs.take k)).length=an):=hide (RowsG.len hA).symm
   have HA:=hide hA
   clear hrow hbr hck hU0 hA
   generalize prodR (cs.take k)=A at *
   generalize hcn:c.length=cn at *
   have HCN:=hide hcn;clear hcn
   have hanb:an≤3000:=by have:=PB.out;have:=HAN.out;omega
   obtain ⟨wA,rfl⟩:∃ W:World,W=wr:=⟨_,rfl⟩
   go_wp2_with fail
   go_loopw [6,20] (fun s i wr => ∃ j:Nat,j≤an∧i = .int .i64 j∧RowsG IntE 3 24 wr wA.heap.size s ((A.take j).flatMap fun x=>c.map (x++[·]))∧Below wA.heap.size wA wr) (fun _ i _=>an - (intOf i).toNat)
   case atStart=>exact ⟨0,Nat.zero_le _,rfl,OwnF.nil _ wA _,Below.refl _ _⟩
   case round =>
    obtain ⟨j,hj,rfl,hrows,hbr⟩:=hrel
    by_cases hltj:j < an
    ·obtain ⟨x,hxj⟩:=get_of_lt (xs:=A) (k:=j) (by rw [HAN.out];exact hltj)
     have hltj':=nat_of_lt hltj
     obtain ⟨⟨sa,sn,sc⟩,g,hga,hg,g00,hrep⟩:=RowsG.row HA.out hxj
     subst hga
     have g0:=(hbr.cell (p:=⟨g,j,none⟩) hg).trans g00
     have GS:=hide (flatMap_take_succ (fun x=>c.map (x++[·])) hxj)
     have hxr:=PR.out x (List.mem_of_getElem? hxj)
     have hxl:x.length≤1048576:=by rw [hxr,List.length_take];omega
     have P1:=hide (PP.out (j+1))
     rw [GS.out] at P1
     generalize (A.take j).flatMap (fun x=>c.map (x++[·]))=G at *
     have HXX:=hide hrep
     have HRO:=hide hrows;have HB2:=hide hbr
     clear hrows hbr hxj hrep hxr g00
     go_wp2_with fail
     go_loopw [6,26] (fun s i wr => ∃ t:Nat,t≤cn∧i = .int .i64 t∧RowsG IntE 3 24 wr wA.heap.size s (G++(c.take t).map (x++[·]))∧Below wA.heap.size wA wr) (fun _ i _=>cn - (intOf i).toNat)
     case atStart=>exact ⟨0,Nat.zero_le _,rfl,by rw [List.take_zero,List.map_nil,List.append_nil];exact HRO.out,HB2.out⟩
     case round =>
      obtain ⟨t,ht,rfl,hrows,hbr⟩:=hrel
      by_cases hltt:t < cn
      ·obtain ⟨y,hyt⟩:=get_of_lt (xs:=c) (k:=t) (by rw [HCN.out];exact hltt)
       have hltt':=nat_of_lt hltt
       obtain ⟨d1,e1,rfl,hd1,q0⟩:=(HRC.out.below hbr).int hyt
       have RS:Hid (G++(c.take (t+1)).map (x++[·])=(G++(c.take t).map (x++[·]))++[x++[y]]):=hide (by rw [map_take_succ (x++[·]) hyt,List.append_assoc])
       have hlen:(G++(c.take t).map (x++[·])).length≤68719476736:=by
        have h1:=P1.out
        rw [List.length_append,List.length_map] at h1 ⊢
        rw [List.length_take]
        omega
       have HC:=hide (CloneV_any _ x wr (HXX.out.below hbr) hxl)
       obtain ⟨us,ds,hU⟩:=hrows
       have HUL:Hid (us.length≤68719476736):=hide (by rw [hU.lu];exact hlen)
       have HU:=hide hU;have HB3:=hide hbr
       have hbs:wA.heap.size≤wr.heap.size:=hbr.size
       generalize G++(c.take t).map (x++[·])=GG at *
       clear hyt hU hbr hlen
       go_wp2_with fail
       (with_reducible refine HC.out.mono ?_);rintro e w5 ⟨vc,rfl,oc,hb5⟩
       have O5:=hide oc;have B5:=hide hb5
       clear oc hb5 HC
       go_wp2_with (at_builtin;first
        | (refine wpList_appL IntE 3 Tryz.infoInt rfl Tryz.underlying24 wr.heap.size _ x y (O5.out.alloc _) (by decide) (by omega) (by have:=B5.out.size;simp;omega) rfl _ _ rfl rfl w5.heap.size 0 1 rfl news_alloc ?_;rintro ⟨a6,n6,c6⟩ w6 hown6 hgr6 -;have O6:=hide hown6;have B6:=hide ((B5.out.alloc B5.out.size (.cells #[.int .i64 y] 3)).grown hgr6 (by have:=B5.out.size;simp;omega) (fun q hq=>(World.ownsRow.lt O5.out q hq).1));have hb6:=B6.out.size;clear hown6 hgr6)
        | (refine wpList_appL SlcE 24 Tryz.infoIntS rfl Tryz.underlying27 wA.heap.size _ us ⟨a6,n6,c6⟩ ((HU.out.own.below B6.out).alloc _) (by decide) HUL.out (by simp;omega) rfl _ _ rfl rfl w6.heap.size 0 1 rfl news_alloc ?_;rintro ⟨ua,un,uc⟩ w9 hown8 hgr8 -))
       have R8:=RowsG.app HT.out HU.out B6.out hbs rfl O6.out hown8 hgr8
       have B8:=(HB3.out.trans (B6.out.mono hbs)).alloc (by omega) (.cells #[.slice a6 n6 c6] 24)
       have B9:=B8.grown hgr8 (by simp;omega) (fun q hq=>(World.ownsRow.lt HU.out.own q hq).1)
       have HR8:=hide R8;have HB9:=hide B9
       clear R8 B9 B8
       go_roundw
       case rel=>exact ⟨t+1,by omega,by go_num,by rw [RS.out];exact HR8.out,HB9.out⟩
       case measure=>simp [intOf];omega
      ·obtain rfl:t=cn:=by omega
       rw [List.take_of_length_le (by rw [HCN.out];exact Nat.le_refl _),← GS.out] at hrows
       go_wp2_with fail
       go_roundw
       case rel=>exact ⟨j+1,by omega,by go_num,hrows,hbr⟩
       case measure=>simp [intOf];omega
    ·obtain rfl:j=an:=by omega
     rw [List.take_of_length_le (by rw [HAN.out];exact Nat.le_refl _),← PS.out] at hrows
     have HR:=hide (OwnF.mono hrows HBR.out.size)
     have HB:=hide (HBR.out.trans (hbr.mono HBR.out.size))
     clear hrows hbr
     go_wp2_with fail
     go_roundw
     case rel=>exact ⟨k+1,by omega,by go_num,HR.out,HB.out⟩
     case measure=>simp [intOf];omega
  ·obtain rfl:k=n:=by omega
   obtain ⟨us,ds,hU⟩:=hrows
   obtain ⟨⟨qa,qn,qc⟩,rfl, -⟩:=hU.own.toSlc
   have hrows:RowsG _ _ _ _ _ _ _:=⟨us,ds,hU⟩
   clear hU
   go_wp2_with fail
   go_ret
   exact ⟨⟨qa,qn,qc⟩,rfl,by rw [HPE.out];exact hrows,hbr⟩
theorem CloneS_any (v:Value) (xs:List Slc) (w:World) (hx:Rep SlcE w v xs) (hl:xs.length≤1048576) :
 Calls Tryz.prog 140 #[v] w (RetOwn SlcE 24 w xs):=by
 obtain ⟨a,c,rfl,hc1,hc2,hc3,hx⟩:=hx.open
 have HX:=hide hx;clear hx
 generalize hn:xs.length=n at *
 have H:=hide hn;clear hn
 have hlen:([]:List Slc).length+n≤68719476736:=by simp;omega
 cases a with
 | none =>
  have hE:=fun w':World=>eql_slice_nil Tryz.prog w' 27 24 none n c 0 0 Tryz.underlying27
  have hn0:xs=[]:=by
   cases xs with
   | nil=>rfl
   | cons x xs=>obtain ⟨b,o,he,_⟩:=HX.out.slc (k:=0) (x:=x) rfl;cases he
  subst hn0
  go_enter Tryz.func140,Tryz.ntmps140
  go_wp2_with fail
  go_ret
  exact ⟨_,rfl,Own.nil _ _ _,Below.refl _ _⟩
 | some ad =>
  have hE:=fun w':World=>eql_slice_nil Tryz.prog w' 27 24 (some ad) n c 0 0 Tryz.underlying27
  go_enter Tryz.func140,Tryz.ntmps140
  go_wp2_with (at_builtin;refine wpList_appS SlcE 24 Tryz.infoIntS rfl Tryz.underlying27 w.heap.size _ [] xs _ (Own.empty _ w (Nat.le_refl _)) (HX.out.below ((Below.refl _ _).alloc (Nat.le_refl _) _)) (by decide) (by rw [H.out];exact hlen) (by simp) rfl _ _ rfl rfl rfl ?_;intro v' w1 hown1 hgr1)
  go_ret
  exact ⟨_,rfl,by simpa using hown1,((Below.refl _ _).alloc (Nat.le_refl _) _).grown hgr1 (by simp) (fun k hk=>by simp [Value.ownBlock] at hk;omega)⟩
theorem productS_any (v:Value) (cs:List (List Slc)) (w:World) (hx:Rep2 SlcE w v cs) (hl:cs.length≤1048576) (hcl:∀ c∈cs,c.length≤1048576) (hb:∀ k,(prodR (cs.take k)).length≤3000) :
 Calls Tryz.prog 102 #[v] w fun e w' => ∃ u:Slc,e = .returned (.slice u.a u.n u.cap)∧RowsG SlcE 24 27 w' w.heap.size u.v (prodR cs)∧Below w.heap.size w w':=by
 obtain ⟨a0,c0,rfl,hc1,hc2,hc3,hx⟩:=hx.open
 have HX:=hide hx
 have HP:=hide (fun k c hc=>prodR_take_succ (cs:=cs) (k:=k) (c:=c) hc)
 have HPR:=hide (fun k r (hr:r∈prodR (cs.take k))=>prodR_row _ r hr)
 have HPB:=hide hb
 have HPP:=hide (fun k c (hc:cs[k]? = some c) i=>prodR_part hc hb i)
 have HP0:Hid (prodR (cs.take 0)=[[]]):=hide rfl
 have HPE:Hid (prodR cs=prodR (cs.take cs.length)):=hide (by rw [List.take_length])
 have HCLL:=hide hcl
 clear hx hb hcl
 generalize hn:cs.length=n at *
 have H:=hide hn;clear hn
 have HT:Hid (24≠27):=hide (by decide)
 go_enter Tryz.func102,Tryz.ntmps102
 go_wp2_with fail
 go_loopw [3,14] (fun s i wr => ∃ k:Nat,k≤n∧i = .int .i64 k∧RowsG SlcE 24 27 wr w.heap.size s (prodR (cs.take k))∧Below w.heap.size w wr) (fun _ i _=>n - (intOf i).toNat)
 case atStart=>exact ⟨0,Nat.zero_le _,rfl,by rw [HP0.out];exact RowsG.one HT.out w,(Below.refl _ _).alloc (Nat.le_refl _) _⟩
 case round =>
  obtain ⟨k,hk,rfl,hrows,hbr⟩:=hrel
  by_cases hlt:k < n
  ·obtain ⟨c,hck⟩:=get_of_lt (xs:=cs) (k:=k) (by rw [H.out];exact hlt)
   have hltk:=nat_of_lt hlt
   obtain ⟨b,o,ca,cc,rfl,hbf,f0,hrow⟩:=(HX.out.below hbr).row hck
   have PS:=hide (HP.out k c hck)
   have PR:=hide (HPR.out k)
   have PB:=hide (HPB.out k)
   have PP:=hide (HPP.out k c hck)
   have hclen:=HCLL.out c (List.mem_of_getElem? hck)
   have HRC:=hide hrow;have HBR:=hide hbr
   obtain ⟨us0,ds0,hU0⟩:=hrows
   obtain ⟨⟨aa,an,ac⟩,hsv, -⟩:=hU0.own.toSlc
   simp only [Slc.v] at hsv
   subst hsv
   have hA:RowsG _ _ _ _ _ _ _:=⟨us0,ds0,hU0⟩
   have HAN:Hid ((prodR (cs.take k)).length=an):=hide (RowsG.len hA).symm
   have HA:=hide hA
   clear hrow hbr hck hU0 hA
   generalize prodR (cs.take k)=A at *
   generalize hcn:c.length=cn at *
   have HCN:=hide hcn;clear hcn
   have hanb:an≤3000:=by have:=PB.out;have:=HAN.out;omega
   obtain ⟨wA,rfl⟩:∃ W:World,W=wr:=⟨_,rfl⟩
   go_wp2_with fail
   go_loopw [6,20] (fun s i wr => ∃ j:Nat,j≤an∧i = .int .i64 j∧RowsG SlcE 24 27 wr wA.heap.size s ((A.take j).flatMap fun x=>c.map (x++[·]))∧Below wA.heap.size wA wr) (fun _ i _=>an - (intOf i).toNat)
   case atStart=>exact ⟨0,Nat.zero_le _,rfl,OwnF.nil _ wA _,Below.refl _ _⟩
   case round =>
    obtain ⟨j,hj,rfl,hrows,hbr⟩:=hrel
    by_cases hltj:j < an
    ·obtain ⟨x,hxj⟩:=get_of_lt (xs:=A) (k:=j) (by rw [HAN.out];exact hltj)
     have hltj':=nat_of_lt hltj
     obtain ⟨⟨sa,sn,sc⟩,g,hga,hg,g00,hrep⟩:=RowsG.row HA.out hxj
     subst hga
     have g0:=(hbr.cell (p:=⟨g,j,none⟩) hg).trans g00
     have GS:=hide (flatMap_take_succ (fun x=>c.map (x++[·])) hxj)
     have hxr:=PR.out x (List.mem_of_getElem? hxj)
     have hxl:x.length≤1048576:=by rw [hxr,List.length_take];omega
     have P1:=hide (PP.out (j+1))
     rw [GS.out] at P1
     generalize (A.take j).flatMap (fun x=>c.map (x++[·]))=G at *
     have HXX:=hide hrep
     have HRO:=hide hrows;have HB2:=hide hbr
     clear hrows hbr hxj hrep hxr g00
     go_wp2_with fail
     go_loopw [6,26] (fun s i wr => ∃ t:Nat,t≤cn∧i = .int .i64 t∧RowsG SlcE 24 27 wr wA.heap.size s (G++(c.take t).map (x++[·]))∧Below wA.heap.size wA wr) (fun _ i _=>cn - (intOf i).toNat)
     case atStart=>exact ⟨0,Nat.zero_le _,rfl,by rw [List.take_zero,List.map_nil,List.append_nil];exact HRO.out,HB2.out⟩
     case round =>
      obtain ⟨t,ht,rfl,hrows,hbr⟩:=hrel
      by_cases hltt:t < cn
      ·obtain ⟨y,hyt⟩:=get_of_lt (xs:=c) (k:=t) (by rw [HCN.out];exact hltt)
       have hltt':=nat_of_lt hltt
       obtain ⟨d1,e1,rfl,hd1,q0⟩:=(HRC.out.below hbr).slc hyt
       have RS:Hid (G++(c.take (t+1)).map (x++[·])=(G++(c.take t).map (x++[·]))++[x++[y]]):=hide (by rw [map_take_succ (x++[·]) hyt,List.append_assoc])
       have hlen:(G++(c.take t).map (x++[·])).length≤68719476736:=by
        have h1:=P1.out
        rw [List.length_append,List.length_map] at h1 ⊢
        rw [List.length_take]
        omega
       have HC:=hide (CloneS_any _ x wr (HXX.out.below hbr) hxl)
       obtain ⟨us,ds,hU⟩:=hrows
       have HUL:Hid (us.length≤68719476736):=hide (by rw [hU.lu];exact hlen)
       have HU:=hide hU;have HB3:=hide hbr
       have hbs:wA.heap.size≤wr.heap.size:=hbr.size
       generalize G++(c.take t).map (x++[·])=GG at *
       clear hyt hU hbr hlen
       go_wp2_with fail
       (with_reducible refine HC.out.mono ?_);rintro e w5 ⟨vc,rfl,oc,hb5⟩
       have O5:=hide oc;have B5:=hide hb5
       clear oc hb5 HC
       go_wp2_with (at_builtin;first
        | (refine wpList_appL SlcE 24 Tryz.infoIntS rfl Tryz.underlying27 wr.heap.size _ x y (O5.out.alloc _) (by decide) (by omega) (by have:=B5.out.size;simp;omega) rfl _ _ rfl rfl w5.heap.size 0 1 rfl news_alloc ?_;rintro ⟨a6,n6,c6⟩ w6 hown6 hgr6 -;have O6:=hide hown6;have B6:=hide ((B5.out.alloc B5.out.size (.cells #[.slice y.a y.n y.cap] 24)).grown hgr6 (by have:=B5.out.size;simp;omega) (fun q hq=>(World.ownsRow.lt O5.out q hq).1));have hb6:=B6.out.size;clear hown6 hgr6)
        | (refine wpList_appL SlcE 27 Tryz.infoIntSS rfl Tryz.underlying132 wA.heap.size _ us ⟨a6,n6,c6⟩ ((HU.out.own.below B6.out).alloc _) (by decide) HUL.out (by simp;omega) rfl _ _ rfl rfl w6.heap.size 0 1 rfl news_alloc ?_;rintro ⟨ua,un,uc⟩ w9 hown8 hgr8 -))
       have R8:=RowsG.app HT.out HU.out B6.out hbs rfl O6.out hown8 hgr8
       have B8:=(HB3.out.trans (B6.out.mono hbs)).alloc (by omega) (.cells #[.slice a6 n6 c6] 27)
       have B9:=B8.grown hgr8 (by simp;omega) (fun q hq=>(World.ownsRow.lt HU.out.own q hq).1)
       have HR8:=hide R8;have HB9:=hide B9
       clear R8 B9 B8
       go_roundw
       case rel=>exact ⟨t+1,by omega,by go_num,by rw [RS.out];exact HR8.out,HB9.out⟩
       case measure=>simp [intOf];omega
      ·obtain rfl:t=cn:=by omega
       rw [List.take_of_length_le (by rw [HCN.out];exact Nat.le_refl _),← GS.out] at hrows
       go_wp2_with fail
       go_roundw
       case rel=>exact ⟨j+1,by omega,by go_num,hrows,hbr⟩
       case measure=>simp [intOf];omega
    ·obtain rfl:j=an:=by omega
     rw [List.take_of_length_le (by rw [HAN.out];exact Nat.le_refl _),← PS.out] at hrows
     have HR:=hide (OwnF.mono hrows HBR.out.size)
     have HB:=hide (HBR.out.trans (hbr.mono HBR.out.size))
     clear hrows hbr
     go_wp2_with fail
     go_roundw
     case rel=>exact ⟨k+1,by omega,by go_num,HR.out,HB.out⟩
     case measure=>simp [intOf];omega
  ·obtain rfl:k=n:=by omega
   obtain ⟨us,ds,hU⟩:=hrows
   obtain ⟨⟨qa,qn,qc⟩,rfl, -⟩:=hU.own.toSlc
   have hrows:RowsG _ _ _ _ _ _ _:=⟨us,ds,hU⟩
   clear hU
   go_wp2_with fail
   go_ret
   exact ⟨⟨qa,qn,qc⟩,rfl,by rw [HPE.out];exact hrows,hbr⟩
end Go.Proofs.YtkfhgnkonaafgaaGreatDoor