/-
  DropFences of the reference. Condition: bounds on lengths.
-/
import Derived.Test.YtlddmagfbcomgaaZr06
import Derived.Test.YtlddmagfbcomgaaZr05
import Derived.Test.YtlddmagfbcomgaaZr00
import Derived.Test.YtlddmagfbcomgaaZr02
set_option maxHeartbeats 6400000
set_option maxRecDepth 100000
namespace Go.Proofs.Ytlddmagfbcomgaa
open Go.RowKit
def bitsTo (f:Nat→Bool):Nat→Int
 | 0=>0
 | k+1=>if f k=true then bits .or .i64 (bitsTo f k) (wrap64 ((2:Int) ^ k)) else bitsTo f k
def relOf (n:Nat) (f:Nat→Nat→Bool):List Int:=(List.range n).map fun i=>bitsTo (f i) n
def confB (L:List Ev) (i k:Nat):Bool:=match L[i]?,L[k]? with
 | some a,some b=>decide (0≤a.t)&&(decide (0≤b.t)&&((a.t != b.t)&&((a.l==b.l)&&(a.w||b.w))))
 | _,_=>false
def conflicts (p:List (List Ins)):List Int:=relOf (evAll p).length (confB (evAll p))
theorem mem_evOf {t i:Nat} {x:Ins} {e:Ev} (h:e∈evOf t i x):e=⟨t,i,x.loc,isRop x.op,isWop x.op⟩∧x.op≠4:=by
 unfold evOf at h
 split at h
 ·simp at h
 ·simp at h;exact ⟨h,by assumption⟩
theorem mem_evAll {p:List (List Ins)} {e:Ev} (h:e∈evAll p):(e.t = -1)∨∃ (t i:Nat) (r:List Ins) (x:Ins),p[t]? = some r∧r[i]? = some x∧e=⟨t,i,x.loc,isRop x.op,isWop x.op⟩∧x.op≠4:=by
 unfold evAll at h
 rcases List.mem_append.1 h with h | h
 ·left
  simp only [evHead,List.mem_map,List.mem_range] at h
  obtain ⟨l,_,rfl⟩:=h
  rfl
 ·right
  unfold evTo at h
  rw [List.mem_flatMap] at h
  obtain ⟨t,ht,h⟩:=h
  cases hr:p[t]? with
  | none=>rw [hr] at h;simp at h
  | some r =>
   rw [hr] at h
   simp only [evRow,List.mem_flatMap,List.mem_range] at h
   obtain ⟨i,hi,h⟩:=h
   obtain ⟨x,hx⟩:=get_of_lt (xs:=r) (k:=i) hi
   rw [hx] at h
   obtain ⟨rfl,hx4⟩:=mem_evOf h
   exact ⟨t,i,r,x,hr,hx,rfl,hx4⟩
end Go.Proofs.Ytlddmagfbcomgaa
namespace Go.Proofs.Ytlddmagfbcomgaa
open Go.RowKit
def mapPre {α:Type} (f:α→α) (k:Nat) (xs:List α):List α:=(xs.take k).map f++xs.drop k
section
variable {α : Type} {f : α → α} {k : Nat} {xs : List α}
theorem mapPre_zero:mapPre f 0 xs=xs:=by simp [mapPre]
theorem mapPre_all (h:xs.length≤k):mapPre f k xs=xs.map f:=by simp [mapPre,List.take_of_length_le h,List.drop_of_length_le h]
theorem mapPre_get {x:α} (h:xs[k]? = some x):(mapPre f k xs)[k]? = some x:=by
 have hk:=(List.getElem?_eq_some_iff.1 h).1
 unfold mapPre
 rw [List.getElem?_append_right (by simp;omega),List.getElem?_drop]
 simp only [List.length_map,List.length_take]
 rw [Nat.min_eq_left (by omega),Nat.sub_self,Nat.add_zero,h]
theorem mapPre_set {x:α} (h:xs[k]? = some x):(mapPre f k xs).set k (f x)=mapPre f (k+1) xs:=by
 have hk:=(List.getElem?_eq_some_iff.1 h).1
 unfold mapPre
 rw [List.set_append_right _ _ (by simp;omega),List.drop_eq_getElem_cons hk]
 simp only [List.length_map,List.length_take]
 rw [Nat.min_eq_left (by omega),Nat.sub_self,List.set_cons_zero,List.take_add_one,h]
 simp
end
def RetOwn2B {α:Type} (E:El α) (T1 T2:TypeId) (w:World) (p:List (List α)) (b:Bool) (e:Ending) (w':World):Prop:=∃ v,e = .returned (.tuple #[v, .bool b])∧Own2 E T1 T2 w' w.heap.size v p∧Below w.heap.size w w'
theorem row_of_valid {p:List (List Ins)} (h:progValid p=true):∀ r∈p,r.length≤1048576:=fun r hr=>by
 have:=((valid_le h).2.2.1 r hr).1;omega
end Go.Proofs.Ytlddmagfbcomgaa
namespace Go.Proofs.Ytlddmagfbcomgaa
open Go.RowKit
def opsRow (o:Int) (r:List Ins) (k:Nat):Nat:=((r.take k).filter fun x=>x.op==o).length
def opsTo (o:Int) (p:List (List Ins)) (j:Nat):Nat:=((p.take j).map fun r=>opsRow o r r.length).sum
def opsV (o:Int) (p:List (List Ins)):Nat:=if progValid p=true then opsTo o p p.length else 0
theorem opsRow_succ {o:Int} {r:List Ins} {k:Nat} {x:Ins} (h:r[k]? = some x):opsRow o r (k+1)=opsRow o r k+if x.op==o then 1 else 0:=by
 unfold opsRow
 rw [List.take_add_one,h,List.filter_append,List.length_append]
 simp only [Option.toList_some]
 split <;> rename_i h <;> simp [h]
theorem opsRow_le (o:Int) (r:List Ins) (k:Nat):opsRow o r k≤r.length:=by
 unfold opsRow
 exact Nat.le_trans (List.length_filter_le _ _) (by simp;omega)
theorem opsTo_succ {o:Int} {p:List (List Ins)} {j:Nat} {r:List Ins} (h:p[j]? = some r):opsTo o p (j+1)=opsTo o p j+opsRow o r r.length:=by
 unfold opsTo
 rw [List.take_add_one,h,List.map_append,List.sum_append]
 simp
theorem opsTo_le (o:Int) (p:List (List Ins)):∀ j,opsTo o p j≤p.flatten.length:=by
 intro j
 have h:∀ q:List (List Ins),((q.map fun r=>opsRow o r r.length).sum)≤q.flatten.length:=by
  intro q
  induction q with
  | nil=>simp
  | cons r q ih =>
   have:=opsRow_le o r r.length
   simp only [List.map_cons,List.sum_cons,List.flatten_cons,List.length_append];omega
 unfold opsTo
 refine Nat.le_trans (h _) ?_
 have e:p.flatten.length=(p.take j).flatten.length+(p.drop j).flatten.length:=by
  rw [← List.length_append,← List.flatten_append,List.take_append_drop]
 omega
theorem CountOps_any (v:Value) (p:List (List Ins)) (o:Int) (w:World) (hp:RepP w v p) (hl:p.flatten.length≤1048576) :
 Calls Try.prog 8 #[v, .int .i64 o] w fun e w'=>e = .returned (.int .i64 (opsV o p:Nat))∧Below w.heap.size w w':=by
 have HV:=hide (ProgramValid_any v p w hp hl)
 unfold opsV
 by_cases hv:progValid p=true
 ·rw [if_pos hv]
  rw [hv] at HV
  obtain ⟨a,c,rfl,hc1,hc2,hc3,hp⟩:=hp.open
  have HP:=hide hp;clear hp hv
  have HL:=hide (opsTo_le o p)
  have HL2:=hide hl
  have hlen:=HL2.out
  generalize hn:p.length=n at *
  have H:=hide hn;clear hn
  go_enter Try.func8,Try.ntmps8
  go_wp2_with fail
  (with_reducible refine HV.out.mono ?_);rintro e w1 ⟨rfl,hb1⟩
  go_wp2_with fail
  go_loopw [5,15] (fun s i wr => ∃ j:Nat,j≤n∧i = .int .i64 j∧s = .int .i64 (opsTo o p j:Nat)∧Below w.heap.size w wr) (fun _ i _=>n - (intOf i).toNat)
  case atStart=>exact ⟨0,by omega,rfl,by simp [opsTo],hb1⟩
  case round =>
   obtain ⟨j,hj,rfl,rfl,hb2⟩:=hrel
   by_cases hlt:j < n
   ·obtain ⟨x,hxk⟩:=get_of_lt (xs:=p) (k:=j) (by rw [H.out];exact hlt)
    obtain ⟨b,o1,ra,rc,rfl,hbl,i0,i1⟩:=(HP.out.below hb2).row hxk
    obtain ⟨_,_,_,_,hr2,_,_⟩:=i1.open
    have hlt':=nat_of_lt hlt
    have TS:=hide (opsTo_succ (o:=o) hxk)
    have hxl:=Nat.le_trans (row_le_flatten hxk) HL2.out
    have I1:=hide i1;clear i1 hxk
    have hS:=HL.out j
    have hRl:=hide (opsRow_le o x)
    generalize opsTo o p j=S at *
    go_wp2_with fail
    go_loopw [5,21] (fun s i wr2 => ∃ k:Nat,k≤x.length∧i = .int .i64 k∧s = .int .i64 (S+opsRow o x k:Nat)∧Below wr.heap.size wr wr2) (fun _ i _=>x.length - (intOf i).toNat)
    case atStart=>exact ⟨0,by omega,rfl,by simp [opsRow],Below.refl _ _⟩
    case round =>
     obtain ⟨k,hk,rfl,rfl,hb3⟩:=hrel
     by_cases hlt2:k < x.length
     ·obtain ⟨y,hyk⟩:=get_of_lt (xs:=x) (k:=k) hlt2
      obtain ⟨b2,o2,rfl,hbl2,j0,j1,j2,j3⟩:=(I1.out.below hb3).ins hyk
      have hlt2':=nat_of_lt hlt2
      have RS:=hide (opsRow_succ (o:=o) hyk)
      have hR:=hRl.out k
      clear hyk
      have hSb:S≤1048576:=by omega
      have hRb:opsRow o x k≤1048576:=by omega
      generalize opsRow o x k=R at *
      by_cases ho:y.op=o
      ·have ho':(y.op==o)=true:=by simp [ho]
       have RS2:Hid (opsRow o x (k+1)=R+1):=hide (by rw [RS.out,if_pos ho'])
       clear ho
       go_wp2_with fail
       go_roundw
       case rel=>exact ⟨k+1,by omega,by go_num,by rw [RS2.out];go_num,hb3.alloc hb3.size _⟩
       case measure=>simp [intOf];omega
      ·have ho':(y.op==o)=false:=by simp [ho]
       have RS2:Hid (opsRow o x (k+1)=R):=hide (by rw [RS.out,ho'];simp)
       clear ho
       go_wp2_with fail
       go_roundw
       case rel=>exact ⟨k+1,by omega,by go_num,by rw [RS2.out],hb3.alloc hb3.size _⟩
       case measure=>simp [intOf];omega
     ·have e:k=x.length:=by omega
      subst e
      go_wp2_with fail
      go_roundw
      case rel=>exact ⟨j+1,by omega,by go_num,by rw [TS.out],hb2.trans (hb3.mono hb2.size)⟩
      case measure=>simp [intOf];omega
   ·have e:j=n:=by omega
    subst e
    go_wp2_with fail
    go_ret
    exact ⟨rfl,hb2⟩
 ·have hv':progValid p=false:=by simpa using hv
  rw [if_neg hv]
  rw [hv'] at HV
  clear hv hv' hp
  go_enter Try.func8,Try.ntmps8
  go_wp2_with fail
  (with_reducible refine HV.out.mono ?_);rintro e w1 ⟨rfl,hb1⟩
  go_wp2_with fail
  go_ret
  exact ⟨rfl,hb1⟩
end Go.Proofs.Ytlddmagfbcomgaa
namespace Go.Proofs.Ytlddmagfbcomgaa
open Go.RowKit
end Go.Proofs.Ytlddmagfbcomgaa
namespace Go.Proofs.Ytlddmagfbcomgaa
open Go.RowKit
def isFence (x:Ins):Bool:=x.op==4
def dropI (r:List Ins):List Ins:=r.filter fun x => !isFence x
def dropP (p:List (List Ins)):List (List Ins):=p.map dropI
def dropV (p:List (List Ins)):List (List Ins):=if progValid p=true then dropP p else []
theorem dropI_length (r:List Ins):(dropI r).length≤r.length:=List.length_filter_le _ _
theorem dropP_flatten (p:List (List Ins)):(dropP p).flatten.length≤p.flatten.length:=by
 unfold dropP
 induction p with
 | nil=>exact Nat.le_refl _
 | cons r p ih =>
  have:=dropI_length r
  simp at ih ⊢;omega
theorem dropTest:Tests_i_DropFences_1 isFence:=by
 intro x w
 obtain ⟨x0,x1,x2,x3⟩:=x
 go_enter Try.func15,Try.ntmps15
 go_wp2
 go_ret
 exact ⟨rfl,(Below.refl _ _).alloc (Nat.le_refl _) _⟩
theorem DropFences_any (v:Value) (p:List (List Ins)) (w:World) (hp:RepP w v p) (hl:p.flatten.length≤1048576) :
 Calls Try.prog 5 #[v] w (RetOwn2B InsE 35 38 w (dropV p) (progValid p)):=by
 have HP:=hide hp;clear hp
 have HV:=hide (fun w' h=>ProgramValid_any v p w' h hl)
 have E2:Hid (dropV p=if progValid p=true then dropP p else []):=hide rfl
 generalize hb:progValid p=b at *
 have B:=hide hb;clear hb
 cases b
 ·go_enter Try.func5,Try.ntmps5
  go_wp2_with (go_at_call 12;(with_reducible refine (HV.out _ HP.out).mono ?_);rintro e w1 ⟨rfl,hb1⟩)
  go_ret2
  rw [E2.out]
  exact ⟨_,rfl,Own2.nil _ _ _ _,hb1⟩
 ·obtain ⟨hv1,hv2, -, -, -⟩:=valid_le B.out
  have HR:=hide (row_of_valid B.out)
  generalize hn:p.length=n at *
  have H:=hide hn;clear hn
  go_enter Try.func5,Try.ntmps5
  go_wp2_with fail
  (with_reducible refine (HV.out _ HP.out).mono ?_);rintro e w1 ⟨rfl,hb1⟩
  go_wp2_with fail
  (with_reducible refine (cloneProgram_any v p w1 (HP.out.below hb1) (by rw [H.out];omega) HR.out).mono ?_);rintro e w2 ⟨u,rfl,hu,hb2⟩
  have hb2:=Below.next hb1 hb2
  obtain ⟨us,hU, -⟩:=hu.told
  have hul:=hU.1
  rcases hU.2.1.shape with ⟨-,h0⟩ | ⟨g,cap,rfl,hg1,hg2,hc1,hc2⟩
  ·exfalso;rw [h0,H.out] at hul;simp at hul;omega
  ·have hln:us.length=n:=hul.trans H.out
   rw [hln] at hU hc1 ⊢
   clear hu hul
   have HU:=hide hU;clear hU
   go_wp2_with fail
   go_loopw [13] (fun i wr => ∃ j:Nat,j≤n∧i = .int .i64 j∧(∃ us,Own2U InsE 35 38 us wr w1.heap.size (.slice (some ⟨g,0,none⟩) n cap) (mapPre dropI j p))∧Below w.heap.size w wr) (fun i _=>n - (intOf i).toNat)
   case atStart=>exact ⟨0,by omega,rfl,⟨us,by rw [mapPre_zero];exact HU.out⟩,hb2⟩
   case round =>
    obtain ⟨j,hj,rfl,⟨us',ho⟩,hb⟩:=hrel
    by_cases hlt:j < n
    ·obtain ⟨x,hxk⟩:=get_of_lt (xs:=p) (k:=j) (by rw [H.out];exact hlt)
     have hlt':=nat_of_lt hlt
     obtain ⟨s,hs,hgl,f0,hrow, -⟩:=ho.row (mapPre_get hxk)
     have hxl:=HR.out x (List.mem_of_getElem? hxk)
     have hlo:=hrow.lo
     have hfrz:=ho.2.1.frozen j
     have hgne:some g≠s.v.ownBlock:=fun e=>own_ne (by decide) ho.2.1 hrow g e.symm rfl
     have X:=hide hxk;have HS:=hide hs;have RW:=hide hrow;have HLO:=hide hlo;have HGN:=hide hgne;have HO:=hide ho
     clear hxk hs hrow hlo hgne ho
     have f1:wr.cell? ⟨g,j,none⟩=some s.v:=f0
     go_wp2_with fail
     (with_reducible refine (DeleteFunc_i_DropFences_1 s.v x isFence wr w1.heap.size RW.out hxl dropTest).mono ?_);rintro e w3 ⟨v',rfl,ho3,hgr,hbk⟩
     obtain ⟨s',rfl, -⟩:=ho3.toSlc
     have f2:=hgr.cell f1 HGN.out
     have hfr2:w3.frozen? ⟨g,j,none⟩=false:=(World.frozen?_of_block (w:=wr) (hgr.block g hgl HGN.out)).trans hfrz
     have hgl3:g < w3.heap.size:=lt_of_cell f2
     have hput:=HO.out.rowput HS.out ho3 hgr hbk
     have hput2:Own2U InsE 35 38 (us'.set j s') (w3.setCell ⟨g,j,none⟩ s'.v) w1.heap.size (.slice (some ⟨g,0,none⟩) n cap) (mapPre dropI (j+1) p):=by
      rw [← mapPre_set X.out];exact hput
     have hb3:=hb.grown hgr hb.size (fun k hk=>by have:=(HLO.out k hk).1;have:=hb1.size;omega)
     have HP2:=hide hput2
     clear hput hput2 hbk f0 f1
     go_wp2_with fail
     go_roundw
     case rel=>exact ⟨j+1,by omega,by go_num,⟨_,HP2.out⟩,hb3.setCell (by have:=hb1.size;simp;omega) _⟩
     case measure=>simp [intOf];omega
    ·rw [mapPre_all (by rw [H.out];omega)] at ho
     go_wp2_with fail
     go_ret2
     rw [E2.out]
     exact ⟨_,rfl,(Own2.mono ho.own hb1.size),hb⟩
end Go.Proofs.Ytlddmagfbcomgaa
namespace Go.Proofs.Ytlddmagfbcomgaa
open Go.RowKit
end Go.Proofs.Ytlddmagfbcomgaa
namespace Go.Proofs.Ytlddmagfbcomgaa
open Go.RowKit
theorem dropI_succ {x:List Ins} {t:Nat} {y:Ins} (h:x[t]? = some y):dropI (x.take (t+1))=dropI (x.take t)++if y.op=4 then [] else [y]:=by
 unfold dropI
 rw [List.take_add_one,h,List.filter_append]
 by_cases e:y.op=4 <;> simp [isFence,e]
theorem l9Drop_any (v:Value) (p:List (List Ins)) (w:World) (hp:RepP w v p) (hl:p.length≤1048576) (hl2:∀ r∈p,r.length≤1048576) :
 Calls Try.prog 17 #[v] w (RetOwn2 InsE 35 38 w (dropP p)):=by
 obtain ⟨a,c,rfl,hc1,hc2,hc3,hp⟩:=hp.open
 have HP:=hide hp;clear hp
 have HL2:=hide hl2;clear hl2
 generalize hn:p.length=n at *
 have H:=hide hn;clear hn
 go_enter Try.func17,Try.ntmps17
 go_wp2_with fail
 go_loopw [3,4] (fun s i wr => ∃ j:Nat,j≤n∧i = .int .i64 j∧OwnP wr w.heap.size s (dropP (p.take j))∧Below w.heap.size w wr) (fun _ i _=>n - (intOf i).toNat)
 case atStart=>exact ⟨0,by omega,rfl,by simpa [dropP] using Own2.empty _ _ w (Nat.le_refl _),(Below.refl _ _).alloc (Nat.le_refl _) _⟩
 case round =>
  obtain ⟨j,hj,rfl,ho,hb⟩:=hrel
  by_cases hlt:j < n
  ·obtain ⟨wm,rfl⟩:∃ wm:World,wm=wr:=⟨_,rfl⟩
   obtain ⟨x,hxk⟩:=get_of_lt (xs:=p) (k:=j) (by rw [H.out];exact hlt)
   obtain ⟨b,o,ra,rc,rfl,hbl,i0,i1⟩:=HP.out.row hxk
   have hlt':=nat_of_lt hlt
   have hxl:=HL2.out x (List.mem_of_getElem? hxk)
   have DS:Hid (dropP (p.take (j+1))=dropP (p.take j)++[dropI x]):=hide (by unfold dropP;rw [List.take_add_one,hxk];simp)
   have hdl:(dropP (p.take j)).length≤1048576:=by unfold dropP;simp;omega
   have IW:=hide i0;have I1:=hide i1;have X:=hide hxk
   have i0:=(hb.cell (p:=⟨b,o+j,none⟩) hbl).trans i0
   clear hxk i1
   generalize hD:dropP (p.take j)=D at *
   clear hD
   obtain ⟨us,hU, -⟩:=ho.told
   have HU:=hide hU;have HO:=hide ho
   clear hU ho
   go_wp2_with fail
   go_loopw [5,6] (fun s i wr => ∃ t:Nat,t≤x.length∧i = .int .i64 t∧OwnI wr wm.heap.size s (dropI (x.take t))∧Below wm.heap.size wm wr) (fun _ i _=>x.length - (intOf i).toNat)
   case atStart=>exact ⟨0,by omega,rfl,by simpa [dropI] using Own.empty _ wm (Nat.le_refl _),(Below.refl _ _).alloc (Nat.le_refl _) _⟩
   case round =>
    obtain ⟨t,ht,rfl,hr,hb3⟩:=hrel
    have hbw:=hb.trans (hb3.mono hb.size)
    have i0w:=(hbw.cell (p:=⟨b,o+j,none⟩) hbl).trans IW.out
    by_cases hlt3:t < x.length
    ·obtain ⟨y,hyk⟩:=get_of_lt (xs:=x) (k:=t) hlt3
     obtain ⟨b',o',rfl,hbl',j0,j1,j2,j3⟩:=(I1.out.below hbw).ins hyk
     have hlt3':=nat_of_lt hlt3
     have ST:=hide (dropI_succ hyk)
     have hil:(dropI (x.take t)).length≤68719476736:=by have:=dropI_length (x.take t);simp at this;omega
     have Y:=hide hyk;clear hyk
     generalize hI:dropI (x.take t)=L at *
     clear hI
     by_cases h4:y.op=4
     ·have g4:(y.op != 4)=false:=by simp [h4]
      have ST2:Hid (dropI (x.take (t+1))=L):=hide (by have h:=ST.out;rw [if_pos h4] at h;simpa using h)
      clear h4 ST
      go_wp2_with fail
      go_roundw
      case rel=>exact ⟨t+1,by omega,by go_num,by rw [ST2.out];exact hr,hb3⟩
      case measure=>simp [intOf];omega
     ·have g4:(y.op != 4)=true:=by simp [h4]
      have ST2:Hid (dropI (x.take (t+1))=L++[y]):=hide (by have h:=ST.out;rwa [if_neg h4] at h)
      clear h4 ST
      go_wp2_with (at_builtin;refine wpList_app InsE 38 Try.infoIns rfl Try.underlying35 wm.heap.size _ L y (hr.alloc _) (by decide) hil (by have:=hb3.size;simp;omega) rfl _ _ rfl rfl wr.heap.size 0 1 rfl news_alloc ?_;intro v' w1 hown1 hgr1)
      have hb4:=below_app hb3 hr hgr1
      go_roundw
      case rel=>exact ⟨t+1,by omega,by go_num,by rw [ST2.out];exact hown1,hb4⟩
      case measure=>simp [intOf];omega
    ·have e:t=x.length:=by omega
     rw [e,List.take_length] at hr
     obtain ⟨s,rfl, -⟩:=hr.toSlc
     have hub:us.length≤68719476736:=by have:=HU.out.1;omega
     go_wp2_with (at_builtin;refine wpList_app SlcE 35 Try.infoInsS rfl Try.underlying23 w.heap.size _ us s ((HU.out.2.1.below hb3).alloc _) (by decide) hub (by simp;have:=hb.size;have:=hb3.size;omega) rfl _ _ rfl rfl wr.heap.size 0 1 rfl news_alloc ?_;intro v' w3 hown3 hgr3)
     have ho2:=(HU.out).app (by decide) (hb3.trans ((Below.refl _ _).alloc hb3.size _)) hb.size (hr.alloc _) hown3 hgr3
     rw [← DS.out] at ho2
     have hb5:=below_app hbw (HU.out.2.1.below hb3) hgr3
     go_roundw
     case rel=>exact ⟨j+1,by omega,by go_num,ho2,hb5⟩
     case measure=>simp [intOf];omega
  ·go_wp2_with fail
   go_ret
   rw [List.take_of_length_le (by rw [H.out];omega)] at ho
   exact ⟨_,rfl,ho,hb⟩
theorem sDropFences_any (v:Value) (p:List (List Ins)) (w:World) (hp:RepP w v p) (hl:p.flatten.length≤1048576) (hpl:p.length≤1048576) :
 Calls Try.prog 6 #[v] w (RetOwn2B InsE 35 38 w (dropV p) (progValid p)):=by
 have HP:=hide hp;clear hp
 have HV:=hide (fun w' h=>sProgramValid_any v p w' h hl hpl)
 have E2:Hid (dropV p=if progValid p=true then dropP p else []):=hide rfl
 generalize hb:progValid p=b at *
 have B:=hide hb;clear hb
 cases b
 ·go_enter Try.func6,Try.ntmps6
  go_wp2_with (go_at_call 16;(with_reducible refine (HV.out _ HP.out).mono ?_);rintro e w1 ⟨rfl,hb1⟩)
  go_ret2
  rw [E2.out]
  exact ⟨_,rfl,Own2.empty _ _ _ hb1.size,hb1.alloc hb1.size _⟩
 ·have HR:=hide (row_of_valid B.out)
  go_enter Try.func6,Try.ntmps6
  go_wp2_with (first | (go_at_call 16;(with_reducible refine (HV.out _ HP.out).mono ?_);rintro e w1 ⟨rfl,hb1⟩) | (go_at_call 17;(with_reducible refine (l9Drop_any v p _ (HP.out.below hb1) hpl HR.out).mono ?_);rintro e w2 ⟨u,rfl,hu,hb2⟩))
  go_ret2
  rw [E2.out]
  exact ⟨_,rfl,hu.mono hb1.size,Below.next hb1 hb2⟩
end Go.Proofs.Ytlddmagfbcomgaa