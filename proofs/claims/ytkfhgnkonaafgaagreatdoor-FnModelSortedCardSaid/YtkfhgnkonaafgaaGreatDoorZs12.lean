/-
  The laws' own functions on models: equality, size, copy. No condition but bounds on sizes.
-/
import Derived.Test.YtkfhgnkonaafgaaGreatDoorZs10
import Derived.Test.YtkfhgnkonaafgaaGreatDoorZs05
import Derived.Test.YtkfhgnkonaafgaaGreatDoorZs08
import Derived.Deep.RegionHeld3
import Derived.Deep.DeepCutAuto
import Derived.Test.YtkfhgnkonaafgaaGreatDoorZs11
import Derived.Test.YtkfhgnkonaafgaaGreatDoorZs06
import Derived.Test.YtkfhgnkonaafgaaGreatDoorZs01
import Derived.Shelf.Slices.In.SortNone
import Derived.Sort.OwnSortedInts
set_option maxHeartbeats 6400000
set_option maxRecDepth 100000
namespace Go.Proofs.YtkfhgnkonaafgaaGreatDoor
open Go.RowKit
structure RepX (w:World) (vf vo:Value) (x:Xc):Prop where
 fr:Rep IntE w vf x.fr
 od:RepNN w vo x.od
theorem RepX.below {w w':World} {vf vo:Value} {x:Xc} (h:RepX w vf vo x) (hb:Below w.heap.size w w'):RepX w' vf vo x:=⟨h.fr.below hb,h.od.below hb⟩
theorem wrL_pos {p:List (List Ins)} {l:Nat} (hl:l < 3):0 < (wrL (evAll p) l).length:=by
 have:=head_wrL (p:=p) hl
 cases h:wrL (evAll p) l with
 | nil=>rw [h] at this;cases this
 | cons x xs=>simp
end Go.Proofs.YtkfhgnkonaafgaaGreatDoor
namespace Go.Proofs.YtkfhgnkonaafgaaGreatDoor
open Go.RowKit
theorem IndexN_any (v:Value) (xs:List Int) (x:Int) (w:World) (hx:Rep IntE w v xs) :
 Calls Tryz.prog 238 #[v, .int .i64 x] w fun e w'=>(∃ q:Int,e = .returned (.int .i64 q)∧PlaceOf xs x q)∧w=w':=by
 obtain ⟨a,c,rfl,hc1,hc2,hc3,hx⟩:=hx.open
 have HX:=hide hx;clear hx
 generalize hn:xs.length=n at *
 have H:=hide hn;clear hn
 go_enter Tryz.func238,Tryz.ntmps238
 go_wp2_with fail
 go_loop [8] (fun i => ∃ t:Nat,t≤n∧i = .int .i64 t∧Hid (x∉xs.take t)) (fun i=>n - (intOf i).toNat)
 case atStart=>exact ⟨0,Nat.zero_le _,rfl,hide (by simp)⟩
 case round =>
  obtain ⟨t,ht,rfl,hno⟩:=hrel
  by_cases hlt:t < n
  ·obtain ⟨y,hy⟩:=get_of_lt (xs:=xs) (k:=t) (by rw [H.out];exact hlt)
   obtain ⟨b,o,rfl,hbl,i0⟩:=HX.out.int hy
   have hlt':=nat_of_lt hlt
   have X:=hide hy;clear hy
   by_cases hxy:y=x
   ·have k1:(x==y)=true:=by simp [hxy]
    have XE:=hide hxy
    clear hxy
    go_wp2_with fail
    go_ret
    exact ⟨⟨_,rfl, .inr ⟨t,rfl,XE.out ▸ X.out,hno.out⟩⟩,rfl⟩
   ·have k1:(x==y)=false:=by simpa using fun e=>hxy e.symm
    have NO:Hid (x∉xs.take (t+1)):=hide (notin_succ hno.out X.out hxy)
    clear hxy
    go_wp2_with fail
    go_round
    case rel=>exact ⟨t+1,by omega,by go_num,NO⟩
    case measure=>simp [intOf];omega
  ·go_wp2_with fail
   go_ret
   refine ⟨⟨_,rfl, .inl ⟨rfl, ?_⟩⟩,rfl⟩
   have h:=hno.out
   rwa [List.take_of_length_le (by rw [H.out];omega)] at h
theorem CloneV_any (v:Value) (xs:List Int) (w:World) (hx:Rep IntE w v xs) (hl:xs.length≤1048576) :
 Calls Tryz.prog 139 #[v] w (RetOwn IntE 3 w xs):=by
 obtain ⟨a,c,rfl,hc1,hc2,hc3,hx⟩:=hx.open
 have HX:=hide hx;clear hx
 generalize hn:xs.length=n at *
 have H:=hide hn;clear hn
 have hlen:([]:List Int).length+n≤68719476736:=by simp;omega
 cases a with
 | none =>
  have hE:=fun w':World=>eql_slice_nil Tryz.prog w' 24 3 none n c 0 0 Tryz.underlying24
  have hn0:xs=[]:=by
   cases xs with
   | nil=>rfl
   | cons x xs=>obtain ⟨b,o,he,_⟩:=HX.out.int (k:=0) (x:=x) rfl;cases he
  subst hn0
  go_enter Tryz.func139,Tryz.ntmps139
  go_wp2_with fail
  go_ret
  exact ⟨_,rfl,Own.nil _ _ _,Below.refl _ _⟩
 | some ad =>
  have hE:=fun w':World=>eql_slice_nil Tryz.prog w' 24 3 (some ad) n c 0 0 Tryz.underlying24
  go_enter Tryz.func139,Tryz.ntmps139
  go_wp2_with (at_builtin;refine wpList_appS IntE 3 Tryz.infoInt rfl Tryz.underlying24 w.heap.size _ [] xs _ (Own.empty _ w (Nat.le_refl _)) (HX.out.below ((Below.refl _ _).alloc (Nat.le_refl _) _)) (by decide) (by rw [H.out];exact hlen) (by simp) rfl _ _ rfl rfl rfl ?_;intro v' w1 hown1 hgr1)
  go_ret
  exact ⟨_,rfl,by simpa using hown1,((Below.refl _ _).alloc (Nat.le_refl _) _).grown hgr1 (by simp) (fun k hk=>by simp [Value.ownBlock] at hk;omega)⟩
end Go.Proofs.YtkfhgnkonaafgaaGreatDoor
namespace Go.Proofs.YtkfhgnkonaafgaaGreatDoor
open Go.RowKit
theorem ev_read {p:List (List Ins)} {k:Nat} {e:Ev} (h:(evAll p)[k]? = some e) (hr:e.r=true):∃ (t i:Nat) (r:List Ins),e.t=t∧e.i=i∧p[t]? = some r∧r[i]? = some (insE p e):=by
 rcases ev_cases h with h1 | ⟨t,i,r,h1,h2,h3,h4, -⟩
 ·exfalso
  have h2:=List.mem_of_getElem? h
  unfold evAll at h2
  rcases List.mem_append.1 h2 with h3 | h3
  ·simp [evHead] at h3
   obtain ⟨l, -,rfl⟩:=h3
   cases hr
  ·unfold evTo at h3
   rw [List.mem_flatMap] at h3
   obtain ⟨t,ht,h3⟩:=h3
   cases hp:p[t]? with
   | none=>rw [hp] at h3;simp at h3
   | some r =>
    rw [hp] at h3
    simp only [evRow,List.mem_flatMap,List.mem_range] at h3
    obtain ⟨i,hi,h3⟩:=h3
    obtain ⟨x,hx⟩:=get_of_lt (xs:=r) (k:=i) hi
    rw [hx] at h3
    obtain ⟨rfl, -⟩:=mem_evOf h3
    simp at h1
 ·exact ⟨t,i,r,h1,h2,h3,h4⟩
structure VS (w:World) (pb:Nat) (ps fs os es vs bs:Slc):Prop where
 blk:w.heap[pb]? = some (.cells #[.slice ps.a ps.n ps.cap, .slice fs.a fs.n fs.cap, .slice os.a os.n os.cap, .slice es.a es.n es.cap, .slice vs.a vs.n vs.cap, .slice bs.a bs.n bs.cap] 151 (0,0))
theorem VS.below {w w':World} {pb:Nat} {ps fs os es vs bs:Slc} (h:VS w pb ps fs os es vs bs) (hb:Below w.heap.size w w'):VS w' pb ps fs os es vs bs:=⟨(hb.block pb (Array.getElem?_eq_some_iff.1 h.blk).1).trans h.blk⟩
theorem cell_of_heapV {w:World} {b k:Nat} {cur:Array Value} {t:TypeId} {v:Value} (h:w.heap[b]? = some (.cells cur t (0,0))) (hk:cur[k]? = some v):w.cell? ⟨b,k,none⟩=some v:=by
 simp [World.cell?,h,hk]
theorem frozen_of_heapV {w:World} {b:Nat} {cur:Array Value} {t:TypeId} (h:w.heap[b]? = some (.cells cur t (0,0))) (j:Nat):w.frozen? ⟨b,j,none⟩=false:=by
 simp [World.frozen?,h]
theorem lastRead_any (pb:Nat) (ps fs os ess vs bs:Slc) (p:List (List Ins)) (es:List Ev) (hes:es=evAll p) (t idx reg:Int) (w:World) (hv:VS w pb ps fs os ess vs bs) (hp:RepP w ps.v p) (he:Rep EvE w ess.v es) (hl:es.length≤1048676) :
 Calls Tryz.prog 161 #[.pointer (some ⟨pb,0,none⟩), .int .i64 t, .int .i64 idx, .int .i64 reg] w fun e w'=>e = .returned (.int .i64 (lastRd p es t idx reg))∧Below w.heap.size w w':=by
 obtain ⟨pa,pn,pc⟩:=ps
 obtain ⟨ea,en,ec⟩:=ess
 obtain ⟨ea',ec',heq, -, -, -,he'⟩:=he.open
 simp only [Value.slice.injEq] at heq
 obtain ⟨rfl,rfl,rfl⟩:=heq
 obtain ⟨pa',pc',heq, -, -, -,hp'⟩:=hp.open
 simp only [Value.slice.injEq] at heq
 obtain ⟨rfl,rfl,rfl⟩:=heq
 have HVS:=hide hv;have HP:=hide hp';have HE:=hide he'
 have HER:=hide (fun k e h hr=>ev_read (p:=p) (k:=k) (e:=e) (hes ▸ h) hr)
 have HR:Hid (lastRd p es t idx reg=lastTo p es t idx reg es.length):=hide rfl
 have HS:=hide (fun k e h=>lastTo_succ p (es:=es) t idx reg (k:=k) (e:=e) h)
 have H0:Hid (lastTo p es t idx reg 0 = -1):=hide rfl
 have b3:=cell_of_heapV hv.blk (k:=3) rfl
 have bl:=lt_of_cell b3
 clear hes hp he hp' he' hv
 generalize lastRd p es t idx reg=R at *
 generalize hn:es.length=n at *
 have H:=hide hn;clear hn
 go_enter Tryz.func161,Tryz.ntmps161
 go_wp2_with fail
 clear b3
 go_loopw [9,17] (fun l i wr => ∃ k:Nat,k≤n∧i = .int .i64 k∧l = .int .i64 (lastTo p es t idx reg k)∧Below w.heap.size w wr) (fun _ i _=>n - (intOf i).toNat)
 case atStart=>exact ⟨0,Nat.zero_le _,rfl,by rw [H0.out],Below.refl _ _⟩
 case round =>
  obtain ⟨k,hk,rfl,rfl,hb⟩:=hrel
  by_cases hlt:k < n
  ·obtain ⟨e,hek⟩:=get_of_lt (xs:=es) (k:=k) (by rw [H.out];exact hlt)
   obtain ⟨b,o,rfl,hbl,i0,i1,i2,i3,i4⟩:=(HE.out.below hb).ev hek
   have hlt':=nat_of_lt hlt
   have S:=hide (HS.out k e hek)
   have ER:=hide (fun hr=>HER.out k e hek hr)
   have HH:Hid (hitR p t idx reg e=((e.t==t)&&(decide (e.i < idx)&&(e.r&&((insE p e).reg==reg))))):=hide rfl
   have HBA:=hide (hb.alloc hb.size (.cells #[.int .i64 e.t, .int .i64 e.i, .int .i64 e.l, .bool e.r, .bool e.w] 99))
   clear hek
   generalize lastTo p es t idx reg k=G at *
   by_cases g1:e.t=t
   ·have k1:(e.t==t)=true:=by simp [g1]
    by_cases g2:e.i < idx
    ·have k2:decide (e.i < idx)=true:=by simp [g2]
     cases her:e.r
     ·have S2:Hid (lastTo p es t idx reg (k+1)=G):=hide (by rw [S.out,HH.out,her];simp)
      rw [her] at i3 HBA
      subst g1
      clear g2 HH ER S her
      go_wp2_with fail
      refine wp_region_bw (by kernel_rfl) (by kernel_rfl) ?_
      repeat (go_big_quiet_step (fail))
      refine wpQuiet_nil ?_
      intro w1 hb1
      go_wp2_with fail
      go_roundw
      case rel=>exact ⟨k+1,by omega,by go_num,by rw [S2.out],HBA.out.trans (hb1.mono HBA.out.size)⟩
      case measure=>simp [intOf];omega
     ·obtain ⟨t',i',r,ht,hi,hpt,hri⟩:=ER.out her
      obtain ⟨b2,o2,ra,rc,rfl,hbl2,q0,q1⟩:=(HP.out.below hb).row hpt
      obtain ⟨b3,o3,rfl,hbl3,r0,r1,r2,r3⟩:=q1.ins hri
      have htn:(t':Int) < (p.length:Int):=by have:=(List.getElem?_eq_some_iff.1 hpt).1;omega
      have hin:(i':Int) < (r.length:Int):=by have:=(List.getElem?_eq_some_iff.1 hri).1;omega
      have VB:=HVS.out.below hb
      have c0:=cell_of_heapV VB.blk (k:=0) rfl
      have hbp:=lt_of_cell c0
      have HG1:=hide g1;have HT:=hide ht;have HI:=hide hi
      have HRG:Hid ((insE p e).reg=(insE p e).reg):=hide rfl
      rw [her] at i3 HBA HH
      obtain ⟨et,ei,el,er,ew⟩:=e
      simp only at ht hi g1 k1 k2 g2 i0 i1 i2 i3 i4 her
      subst her
      subst ht
      subst hi
      subst g1
      generalize hins:insE p ⟨(t':Int),(i':Int),el,true,ew⟩=ix at *
      clear hins hpt hri q1 ER VB HG1 HT HI HRG
      by_cases g3:ix.reg=reg
      ·have k3:(ix.reg==reg)=true:=by simp [g3]
       have S2:Hid (lastTo p es (t':Int) idx reg (k+1)=(k:Int)):=hide (by rw [S.out,HH.out,k3,k2];simp)
       clear g3 S HH k1
       go_wp2_with fail
       refine wp_region_bw (by kernel_rfl) (by kernel_rfl) ?_
       repeat (go_big_quiet_step (fail))
       refine wpQuiet_nil ?_
       intro w1 hb1
       go_wp2_with fail
       go_roundw
       case rel=>exact ⟨k+1,by omega,by go_num,by rw [S2.out],HBA.out.trans (hb1.mono HBA.out.size)⟩
       case measure=>simp [intOf];omega
      ·have k3:(ix.reg==reg)=false:=by simp [g3]
       have S2:Hid (lastTo p es (t':Int) idx reg (k+1)=G):=hide (by rw [S.out,HH.out,k3];simp)
       clear g3 S HH k1
       go_wp2_with fail
       refine wp_region_bw (by kernel_rfl) (by kernel_rfl) ?_
       repeat (go_big_quiet_step (fail))
       refine wpQuiet_nil ?_
       intro w1 hb1
       go_wp2_with fail
       go_roundw
       case rel=>exact ⟨k+1,by omega,by go_num,by rw [S2.out],HBA.out.trans (hb1.mono HBA.out.size)⟩
       case measure=>simp [intOf];omega
    ·have k2:decide (e.i < idx)=false:=by simp [g2]
     have S2:Hid (lastTo p es t idx reg (k+1)=G):=hide (by rw [S.out,HH.out,k2];simp)
     subst g1
     clear g2 HH ER S
     go_wp2_with fail
     refine wp_region_bw (by kernel_rfl) (by kernel_rfl) ?_
     repeat (go_big_quiet_step (fail))
     refine wpQuiet_nil ?_
     intro w1 hb1
     go_wp2_with fail
     go_roundw
     case rel=>exact ⟨k+1,by omega,by go_num,by rw [S2.out],HBA.out.trans (hb1.mono HBA.out.size)⟩
     case measure=>simp [intOf];omega
   ·have k1:(e.t==t)=false:=by simp [g1]
    have S2:Hid (lastTo p es t idx reg (k+1)=G):=hide (by rw [S.out,HH.out,k1];simp)
    clear g1
    generalize hitR p t idx reg e=hh at *
    clear HH S ER
    go_wp2_with fail
    refine wp_region_bw (by kernel_rfl) (by kernel_rfl) ?_
    repeat (go_big_quiet_step (fail))
    refine wpQuiet_nil ?_
    intro w1 hb1
    go_wp2_with fail
    go_roundw
    case rel=>exact ⟨k+1,by omega,by go_num,by rw [S2.out],HBA.out.trans (hb1.mono HBA.out.size)⟩
    case measure=>simp [intOf];omega
  ·have e:k=n:=by omega
   subst e
   go_wp2_with fail
   go_ret
   exact ⟨by rw [HR.out];rfl,hb⟩
end Go.Proofs.YtkfhgnkonaafgaaGreatDoor
namespace Go.Proofs.YtkfhgnkonaafgaaGreatDoor
open Go.RowKit
theorem dep_t0 {p:List (List Ins)} {es:List Ev} {fr:List Int} {i:Nat} {e:Ev} (h:es[i]? = some e) (ht:e.t < 0):depV p es fr i = .inl 0:=by
 unfold depV;rw [h];simp only;rw [if_pos ht]
theorem dep_op {p:List (List Ins)} {es:List Ev} {fr:List Int} {i:Nat} {e:Ev} (h:es[i]? = some e) (ht:¬ e.t < 0) (ho:(insE p e).op≠3):depV p es fr i = .inl (insE p e).val:=by
 unfold depV;rw [h];simp only;rw [if_neg ht,if_neg ho]
theorem dep_r0 {p:List (List Ins)} {es:List Ev} {fr:List Int} {i:Nat} {e:Ev} (h:es[i]? = some e) (ht:¬ e.t < 0) (ho:(insE p e).op=3) (hr:lastRd p es e.t e.i (insE p e).reg < 0):depV p es fr i = .inl 0:=by
 unfold depV;rw [h];simp only;rw [if_neg ht,if_pos ho,if_pos hr]
theorem dep_rr {p:List (List Ins)} {es:List Ev} {fr:List Int} {i:Nat} {e:Ev} (h:es[i]? = some e) (ht:¬ e.t < 0) (ho:(insE p e).op=3) {r j:Nat} (hr:lastRd p es e.t e.i (insE p e).reg=(r:Int)) (hj:fr[r]? = some (j:Int)):depV p es fr i = .inr j:=by
 unfold depV;rw [h];simp only;rw [if_neg ht,if_pos ho,if_neg (by omega),hr]
 simp [hj]
theorem lastRd_cases (p:List (List Ins)) (es:List Ev) (t idx reg:Int):lastRd p es t idx reg = -1∨∃ (r:Nat) (e:Ev),lastRd p es t idx reg=r∧es[r]? = some e∧e.r=true:=by
 rcases lastTo_cases p es t idx reg es.length (Nat.le_refl _) with h | ⟨i,e,h1, -,h2,h3⟩
 ·exact .inl h
 ·refine .inr ⟨i,e,h1,h2, ?_⟩
  unfold hitR at h3;simp at h3;exact h3.2.2.1
def BoolE:El Bool:=⟨1,by decide,fun x=>[.bool x],fun _=>rfl,fun x u h=>by simp at h;subst h;rfl⟩
theorem Own.boolc {T:TypeId} {w:World} {base g n cap:Nat} {xs:List Bool} (h:Own BoolE T w base (.slice (some ⟨g,0,none⟩) n cap) xs) {k:Nat} {x:Bool} (hx:xs[k]? = some x) :
 g < w.heap.size∧w.cell? ⟨g,k,none⟩=some (.bool x)∧∀ j,w.frozen? ⟨g,j,none⟩=false:=by
 have:=h.cell hx (j:=0) rfl
 simp only [BoolE,Nat.mul_one,Nat.add_zero] at this
 exact ⟨(World.ownsRow.lt h g rfl).2,this,fun j=>h.frozen j⟩
theorem Own.setBool {T:TypeId} {w:World} {base g n cap:Nat} {xs:List Bool} (h:Own BoolE T w base (.slice (some ⟨g,0,none⟩) n cap) xs) {k:Nat} {z:Bool} (hz:xs[k]? = some z) (x:Bool) :
 Own BoolE T (w.setCell ⟨g,k,none⟩ (.bool x)) base (.slice (some ⟨g,0,none⟩) n cap) (xs.set k x):=by
 have h0:=h.set (i:=k) (j:=0) x (u:=.bool x) (by decide) hz rfl
 simp only [BoolE,Nat.mul_one,Nat.add_zero] at h0
 exact h0
theorem count_set {bz:List Bool} {i:Nat} (h:bz[i]? = some false):(bz.set i true).countP (fun b => !b)+1=bz.countP (fun b => !b):=by
 induction bz generalizing i with
 | nil=>simp at h
 | cons b bz ih =>
  cases i with
  | zero=>simp at h;subst h;simp
  | succ i =>
   simp at h
   have:=ih h
   simp only [List.set_cons_succ,List.countP_cons]
   omega
theorem set_back {bz:List Bool} {i:Nat} (h:bz[i]? = some false):(bz.set i true).set i false=bz:=by
 rw [List.set_set]
 apply List.ext_getElem?
 intro k
 rw [List.getElem?_set]
 split
 ·rename_i hk
  subst hk
  rw [h,if_pos (List.getElem?_eq_some_iff.1 h).1]
 ·rfl
theorem Own.sameV {α:Type} {E:El α} {T:TypeId} {w w':World} {base:Nat} {v:Value} {xs:List α} (h:Own E T w base v xs) (hB:∀ k,v.ownBlock=some k→w'.heap[k]? = w.heap[k]?):Own E T w' base v xs:=by
 refine ⟨h.1, ?_⟩
 rcases h.2 with hn | ⟨g,cap,cur,rfl,hb1,hgg,rest⟩
 ·exact .inl hn
 ·exact .inr ⟨g,cap,cur,rfl,hb1,(hB g rfl).trans hgg,rest⟩
theorem own_or {α β:Type} {E:El α} {F:El β} {T U:TypeId} (hT:T≠U) {w:World} {base base':Nat} {v u:Value} {xs:List α} {ys:List β} (h:Own E T w base v xs) (k:Own F U w base' u ys):u.ownBlock=none∨u.ownBlock≠v.ownBlock:=by
 rcases hq:u.ownBlock with _ | q
 ·exact .inl rfl
 ·exact .inr fun e=>own_ne hT h k q hq e.symm
end Go.Proofs.YtkfhgnkonaafgaaGreatDoor
namespace Go.Proofs.YtkfhgnkonaafgaaGreatDoor
def fromC (es:List Ev) (i:Nat):List Int:=match es[i]? with
 | some e=>if e.r=true then wrL es e.l else [-1]
 | none=>[]
def pre1 (i:Nat) (rest:List (List Int)) (k:Int):List (List Int):=if k=(i:Int) then [] else rest.map (k :: ·)
def fromsD (es:List Ev):Nat→Nat→List (List Int)
 | 0,_=>[[]]
 | n+1,i=>(fromC es i).flatMap (pre1 i (fromsD es n (i+1)))
def fromsL (es:List Ev) (i:Nat):List (List Int):=fromsD es (es.length - i) i
def permsD:Nat→List Int→List (List Int)
 | 0,_=>[[]]
 | n+1,xs=>(List.range xs.length).flatMap fun i=>(permsD n (xs.eraseIdx i)).map (xs.getD i 0 :: ·)
def permsL (xs:List Int):List (List Int):=permsD xs.length xs
def ordsD (es:List Ev):Nat→Nat→List (List (List Int))
 | 0,_=>[[]]
 | n+1,l=>(permsL (wrL es l).tail).flatMap fun q=>(ordsD es n (l+1)).map (((wrL es l).headD 0 :: q) :: ·)
def ordsL (es:List Ev) (l:Nat):List (List (List Int)):=ordsD es (3 - l) l
def allX (es:List Ev):List Xc:=(fromsL es 0).flatMap fun f=>(ordsL es 0).map (⟨f,·⟩)
theorem fromsL_end (es:List Ev):fromsL es es.length=[[]]:=by unfold fromsL;rw [Nat.sub_self];rfl
theorem fromsL_step {es:List Ev} {i:Nat} (h:i < es.length):fromsL es i=(fromC es i).flatMap (pre1 i (fromsL es (i+1))):=by
 unfold fromsL
 rw [show es.length - i=(es.length - (i+1))+1 by omega]
 rfl
theorem permsL_nil:permsL []=[[]]:=rfl
theorem permsL_step {xs:List Int} (h:0 < xs.length):permsL xs=(List.range xs.length).flatMap fun i=>(permsL (xs.eraseIdx i)).map (xs.getD i 0 :: ·):=by
 unfold permsL
 obtain ⟨n,hn⟩:∃ n,xs.length=n+1:=⟨xs.length - 1,by omega⟩
 rw [hn]
 show (List.range xs.length).flatMap _=_
 rw [hn]
 unfold List.flatMap
 congr 1
 apply List.map_congr_left
 intro i hi
 rw [List.mem_range] at hi
 rw [List.length_eraseIdx,if_pos (by omega),hn];rfl
theorem ordsL_end (es:List Ev):ordsL es 3=[[]]:=rfl
theorem ordsL_step {es:List Ev} {l:Nat} (h:l < 3):ordsL es l=(permsL (wrL es l).tail).flatMap fun q=>(ordsL es (l+1)).map (((wrL es l).headD 0 :: q) :: ·):=by
 unfold ordsL
 rw [show 3 - l=(3 - (l+1))+1 by omega]
 rfl
theorem flatMap_take_succ {α β:Type} (f:α→List β) {xs:List α} {k:Nat} {x:α} (h:xs[k]? = some x):(xs.take (k+1)).flatMap f=(xs.take k).flatMap f++f x:=by
 rw [List.take_add_one,h,List.flatMap_append];simp
theorem map_take_succ {α β:Type} (f:α→β) {xs:List α} {k:Nat} {x:α} (h:xs[k]? = some x):(xs.take (k+1)).map f=(xs.take k).map f++[f x]:=by
 rw [List.take_add_one,h,List.map_append];rfl
theorem flatMap_length_le {α β:Type} (f:α→List β) (b:Nat) (xs:List α) (h:∀ x∈xs,(f x).length≤b):(xs.flatMap f).length≤xs.length * b:=by
 induction xs with
 | nil=>simp
 | cons x xs ih =>
  rw [List.flatMap_cons,List.length_append,List.length_cons,Nat.succ_mul]
  have h1:=h x (by simp)
  have h2:=ih (fun y hy=>h y (by simp [hy]))
  omega
theorem flatMap_take_le {α β:Type} (f:α→List β) (xs:List α) (k:Nat):((xs.take k).flatMap f).length≤(xs.flatMap f).length:=by
 have h:xs.flatMap f=(xs.take k).flatMap f++(xs.drop k).flatMap f:=by rw [← List.flatMap_append,List.take_append_drop]
 rw [h,List.length_append];omega
theorem permsD_length:∀ (n:Nat) (xs:List Int),xs.length=n→(permsD n xs).length≤fact n:=by
 intro n
 induction n with
 | zero=>intro xs _;simp [permsD,fact]
 | succ n ih =>
  intro xs hx
  unfold permsD
  have h:=flatMap_length_le (fun i=>(permsD n (xs.eraseIdx i)).map (xs.getD i 0 :: ·)) (fact n) (List.range xs.length) (fun i hi=>by
   rw [List.mem_range] at hi
   rw [List.length_map]
   exact ih _ (by rw [List.length_eraseIdx,if_pos hi,hx];rfl))
  rw [List.length_range,hx] at h
  rw [fact,Nat.mul_comm];rw [hx];exact h
theorem permsL_length (xs:List Int):(permsL xs).length≤fact xs.length:=permsD_length _ xs rfl
def facE (es:List Ev) (e:Ev):Nat:=if e.r=true then (wrL es e.l).length else 1
def prodL (f:Ev→Nat):List Ev→Nat
 | []=>1
 | e :: es=>f e * prodL f es
theorem fromsL_length {es:List Ev}:∀ (n i:Nat),i+n=es.length→(fromsL es i).length≤prodL (facE es) (es.drop i):=by
 intro n
 induction n with
 | zero =>
  intro i hi
  obtain rfl:i=es.length:=by omega
  rw [fromsL_end,List.drop_length];exact Nat.le_refl _
 | succ n ih =>
  intro i hi
  obtain ⟨e,he⟩:=get_of_lt (xs:=es) (k:=i) (by omega)
  obtain ⟨hlt,hee⟩:=List.getElem?_eq_some_iff.1 he
  rw [fromsL_step hlt,List.drop_eq_getElem_cons hlt,hee,prodL]
  have h1:(fromC es i).length=facE es e:=by
   unfold fromC facE;rw [he];simp only
   split <;> rfl
  have h2:=flatMap_length_le (pre1 i (fromsL es (i+1))) (prodL (facE es) (es.drop (i+1))) (fromC es i) (fun k _=>by
   unfold pre1
   split
   ·simp
   ·rw [List.length_map];exact ih (i+1) (by omega))
  rw [h1] at h2;exact h2
theorem facE_pos {es:List Ev} (h:∀ e∈es,e.r=true→1≤(wrL es e.l).length):∀ e∈es,1≤facE es e:=by
 intro e he
 unfold facE
 split
 ·exact h e he (by assumption)
 ·exact Nat.le_refl _
theorem prodL_pos {f:Ev→Nat}:∀ {es:List Ev},(∀ e∈es,1≤f e)→1≤prodL f es:=by
 intro es
 induction es with
 | nil=>intro _;exact Nat.le_refl _
 | cons e es ih=>intro h;exact Nat.mul_pos (h e (by simp)) (ih (fun x hx=>h x (by simp [hx])))
theorem prodL_drop {f:Ev→Nat}:∀ {es:List Ev},(∀ e∈es,1≤f e)→∀ i,prodL f (es.drop i)≤prodL f es:=by
 intro es
 induction es with
 | nil=>intro _ i;simp
 | cons e es ih =>
  intro h i
  cases i with
  | zero=>exact Nat.le_refl _
  | succ i =>
   have h1:=ih (fun x hx=>h x (by simp [hx])) i
   have h2:=h e (by simp)
   simp only [List.drop_succ_cons,prodL]
   exact Nat.le_trans h1 (Nat.le_mul_of_pos_left _ h2)
def rAt (l:Int) (e:Ev):Bool:=e.r&&(e.l==l)
def wAt (l:Int) (e:Ev):Bool:=e.w&&(e.l==l)
theorem prodL_eq (c:Int→Nat):∀ (es:List Ev),(∀ e∈es,e.r=true→e.l=0∨e.l=1∨e.l=2)→prodL (fun e=>if e.r=true then c e.l else 1) es=c 0 ^ es.countP (rAt 0) * c 1 ^ es.countP (rAt 1) * c 2 ^ es.countP (rAt 2):=by
 intro es
 induction es with
 | nil=>intro _;simp [prodL]
 | cons e es ih =>
  intro h
  have h1:=ih (fun x hx=>h x (by simp [hx]))
  rw [prodL,h1]
  cases hr:e.r with
  | false =>
   simp [rAt,hr]
  | true =>
   rcases h e (by simp) hr with hl | hl | hl <;> simp [rAt,hr,hl,Nat.pow_succ] <;> ac_rfl
theorem wrTo_count (es:List Ev) (l:Int):∀ k,k≤es.length→(wrTo es l k).length=(es.take k).countP (wAt l):=by
 intro k
 induction k with
 | zero=>intro _;simp [wrTo]
 | succ k ih =>
  intro hk
  obtain ⟨e,he⟩:=get_of_lt (xs:=es) (k:=k) hk
  rw [wrTo_succ l he,List.length_append,ih (by omega),List.take_add_one,he,List.countP_append]
  unfold wr1 wAt
  cases hw:(e.w&&e.l==l) <;> simp [hw]
theorem wrL_count (es:List Ev) (l:Int):(wrL es l).length=es.countP (wAt l):=by
 unfold wrL
 rw [wrTo_count es l _ (Nat.le_refl _),List.take_length]
theorem evRow_count (G:Ev→Bool) (f:Ins→Bool) (hG:∀ (t i:Nat) (x:Ins),(evOf t i x).countP G=if f x=true then 1 else 0) (t:Nat) (r:List Ins):∀ k,k≤r.length→(evRow t r k).countP G=(r.take k).countP f:=by
 intro k
 induction k with
 | zero=>intro _;simp [evRow]
 | succ k ih =>
  intro hk
  obtain ⟨x,hx⟩:=get_of_lt (xs:=r) (k:=k) hk
  rw [evRow_succ hx,List.countP_append,ih (by omega),List.take_add_one,hx,List.countP_append,hG]
  simp [List.countP_cons]
theorem evTo_count (G:Ev→Bool) (f:Ins→Bool) (hG:∀ (t i:Nat) (x:Ins),(evOf t i x).countP G=if f x=true then 1 else 0) (p:List (List Ins)):∀ j,j≤p.length→(evTo p j).countP G=cnt f (p.take j):=by
 intro j
 induction j with
 | zero=>intro _;simp [evTo,cnt]
 | succ j ih =>
  intro hj
  obtain ⟨r,hr⟩:=get_of_lt (xs:=p) (k:=j) hj
  have h:=evRow_count G f hG j r r.length (Nat.le_refl _)
  rw [List.take_length] at h
  rw [evTo_succ hr,List.countP_append,ih (by omega),cnt_take_succ f hr,h]
theorem evOf_r (l:Int) (t i:Nat) (x:Ins):(evOf t i x).countP (rAt l)=if fR l x=true then 1 else 0:=by
 unfold evOf fR
 by_cases h:x.op=4
 ·rw [if_pos h];simp [isRop,h]
 ·rw [if_neg h];simp [List.countP_cons,rAt,Bool.and_comm]
theorem evOf_w (l:Int) (t i:Nat) (x:Ins):(evOf t i x).countP (wAt l)=if fW l x=true then 1 else 0:=by
 unfold evOf fW
 by_cases h:x.op=4
 ·rw [if_pos h];simp [isWop,h]
 ·rw [if_neg h];simp [List.countP_cons,wAt,Bool.and_comm]
theorem evAll_r (p:List (List Ins)) (l:Int):(evAll p).countP (rAt l)=cnt (fR l) p:=by
 unfold evAll
 rw [List.countP_append,evTo_count (rAt l) (fR l) (evOf_r l) p p.length (Nat.le_refl _),List.take_length]
 simp [evHead,List.range_succ,rAt]
theorem evAll_w (p:List (List Ins)) {l:Nat} (hl:l < 3):(evAll p).countP (wAt l)=cnt (fW l) p+1:=by
 unfold evAll
 rw [List.countP_append,evTo_count (wAt l) (fW l) (evOf_w l) p p.length (Nat.le_refl _),List.take_length]
 have:l=0∨l=1∨l=2:=by omega
 rcases this with rfl | rfl | rfl <;> simp [evHead,List.range_succ,wAt,Nat.add_comm]
theorem ordsL_length (es:List Ev) (f:Nat→Nat) (hf:∀ l:Nat,l < 3→fact (wrL es l).tail.length≤f l):(ordsL es 0).length≤f 0 * (f 1 * f 2)∧(ordsL es 1).length≤f 1 * f 2∧(ordsL es 2).length≤f 2∧ordsL es 3=[[]]:=by
 have st:∀ l:Nat,l < 3→∀ b,(ordsL es (l+1)).length≤b→(ordsL es l).length≤f l * b:=fun l hl b hb=>by
  rw [ordsL_step hl]
  have h:=flatMap_length_le (fun q=>(ordsL es (l+1)).map (((wrL es l).headD 0 :: q) :: ·)) b (permsL (wrL es l).tail) (fun q _=>by rw [List.length_map];exact hb)
  have h2:=Nat.le_trans (permsL_length (wrL es l).tail) (hf l hl)
  exact Nat.le_trans h (Nat.mul_le_mul_right _ h2)
 have h3:(ordsL es 3).length≤1:=Nat.le_refl _
 have h2:=st 2 (by omega) 1 h3
 rw [Nat.mul_one] at h2
 have h1:=st 1 (by omega) _ h2
 have h0:=st 0 (by omega) _ h1
 exact ⟨h0,h1,h2,rfl⟩
structure Few (p:List (List Ins)):Prop where
 froms:∀ i,(fromsL (evAll p) i).length≤3000
 ords:∀ l,(ordsL (evAll p) l).length≤3000
 perms:∀ l:Nat,l < 3→fact (wrL (evAll p) l).tail.length≤3000
 all:(fromsL (evAll p) 0).length * (ordsL (evAll p) 0).length≤3000
theorem insValid_loc {x:Ins} (h:insValid x=true):x.loc=0∨x.loc=1∨x.loc=2:=by
 unfold insValid inB at h
 split at h
 ·simp at h;omega
 ·split at h
  ·simp at h;omega
  ·split at h
   ·simp at h;omega
   ·split at h
    ·simp at h;omega
    ·cases h
theorem few {p:List (List Ins)} (h:progValid p=true):Few p:=by
 have hv:=valid_le h
 unfold progValid at h
 simp only [Bool.and_eq_true,decide_eq_true_eq] at h
 have hP:=h.2
 have hloc:∀ e∈evAll p,e.r=true→e.l=0∨e.l=1∨e.l=2:=fun e he hr=>by
  obtain ⟨k,hk⟩:=List.mem_iff_getElem?.1 he
  obtain ⟨t',i',r,h1, -⟩:=ev_read (p:=p) hk hr
  rcases ev_cases hk with h2 | ⟨t2,i2,r2, -, -,h5,h6, -, -,h9⟩
  ·omega
  ·rw [h9];exact insValid_loc ((hv.2.2.1 r2 (List.mem_of_getElem? h5)).2 _ (List.mem_of_getElem? h6))
 have hc:∀ l:Nat,l < 3→(wrL (evAll p) l).length=cnt (fW l) p+1:=fun l hl=>by rw [wrL_count,evAll_w p hl]
 have hpos:∀ e∈evAll p,1≤facE (evAll p) e:=facE_pos fun e he hr=>by
  rcases hloc e he hr with hl | hl | hl
  ·rw [hl];have:=hc 0 (by omega);simp at this;omega
  ·rw [hl];have:=hc 1 (by omega);simp at this;omega
  ·rw [hl];have:=hc 2 (by omega);simp at this;omega
 have hA:=prodL_eq (fun l=>(wrL (evAll p) l).length) (evAll p) hloc
 have hA2:prodL (facE (evAll p)) (evAll p)=(cnt (fW (0:Nat)) p+1) ^ cnt (fR (0:Nat)) p * (cnt (fW (1:Nat)) p+1) ^ cnt (fR (1:Nat)) p * (cnt (fW (2:Nat)) p+1) ^ cnt (fR (2:Nat)) p:=by
  refine Eq.trans hA ?_
  rw [← hc 0 (by omega),← hc 1 (by omega),← hc 2 (by omega),← evAll_r,← evAll_r,← evAll_r]
  rfl
 have ht:∀ l:Nat,l < 3→fact (wrL (evAll p) l).tail.length≤fact (cnt (fW l) p):=fun l hl=>by
  rw [List.length_tail,hc l hl];exact Nat.le_refl _
 have t0:=ht 0 (by omega);have t1:=ht 1 (by omega);have t2:=ht 2 (by omega)
 obtain ⟨o0,o1,o2,o3⟩:=ordsL_length (evAll p) (fun l=>fact (cnt (fW l) p)) ht
 have hfr:∀ i,(fromsL (evAll p) i).length≤prodL (facE (evAll p)) (evAll p):=fun i=>by
  by_cases hi:i≤(evAll p).length
  ·exact Nat.le_trans (fromsL_length ((evAll p).length - i) i (by omega)) (prodL_drop hpos i)
  ·unfold fromsL
   rw [show (evAll p).length - i=0 by omega]
   exact prodL_pos hpos
 generalize prodL (facE (evAll p)) (evAll p)=A at *
 have f0:=fact_pos (cnt (fW (0:Nat)) p);have f1:=fact_pos (cnt (fW (1:Nat)) p);have f2:=fact_pos (cnt (fW (2:Nat)) p)
 have hA1:1≤A:=by rw [hA2];exact Nat.mul_pos (Nat.mul_pos (Nat.pow_pos (by omega)) (Nat.pow_pos (by omega))) (Nat.pow_pos (by omega))
 have hPe:A * (fact (cnt (fW (0:Nat)) p) * (fact (cnt (fW (1:Nat)) p) * fact (cnt (fW (2:Nat)) p)))≤3000:=by
  refine Nat.le_trans (Nat.le_of_eq ?_) hP
  rw [hA2]
  simp only [prodP,prodTo,pl]
  simp only [Nat.one_mul]
  ac_rfl
 clear hA hA2 hP hpos hloc hv hc h ht
 generalize fact (cnt (fW (0:Nat)) p)=F0 at *
 generalize fact (cnt (fW (1:Nat)) p)=F1 at *
 generalize fact (cnt (fW (2:Nat)) p)=F2 at *
 have h12:F1 * F2≤F0 * (F1 * F2):=Nat.le_mul_of_pos_left _ f0
 have h2:F2≤F1 * F2:=Nat.le_mul_of_pos_left _ f1
 have h1:F1≤F1 * F2:=Nat.le_mul_of_pos_right _ f2
 have h0:F0≤F0 * (F1 * F2):=Nat.le_mul_of_pos_right _ (Nat.mul_pos f1 f2)
 have hB1:1≤F0 * (F1 * F2):=Nat.mul_pos f0 (Nat.mul_pos f1 f2)
 have hB:F0 * (F1 * F2)≤A * (F0 * (F1 * F2)):=Nat.le_mul_of_pos_left _ hA1
 have hAB:A≤A * (F0 * (F1 * F2)):=Nat.le_mul_of_pos_right _ hB1
 refine ⟨fun i=>Nat.le_trans (hfr i) (by omega),fun l => ?_,fun l hl => ?_, ?_⟩
 ·have hl:l=0∨l=1∨l=2∨3≤l:=by omega
  rcases hl with rfl | rfl | rfl | hl
  ·omega
  ·omega
  ·omega
  ·unfold ordsL;rw [show 3 - l=0 by omega];show 1≤3000;omega
 ·have hl':l=0∨l=1∨l=2:=by omega
  rcases hl' with rfl | rfl | rfl
  ·exact Nat.le_trans t0 (by omega)
  ·exact Nat.le_trans t1 (by omega)
  ·exact Nat.le_trans t2 (by omega)
 ·exact Nat.le_trans (Nat.mul_le_mul (hfr 0) o0) hPe
end Go.Proofs.YtkfhgnkonaafgaaGreatDoor
namespace Go.Proofs.YtkfhgnkonaafgaaGreatDoor
def plc:List Int→Int→Int
 | [],_ => -1
 | y :: ys,x=>if y=x then 0 else if plc ys x < 0 then -1 else plc ys x+1
theorem plc_cases:∀ (xs:List Int) (x:Int),(plc xs x = -1∧x∉xs)∨∃ k:Nat,plc xs x=k∧xs[k]? = some x∧x∉xs.take k:=by
 intro xs x
 induction xs with
 | nil=>exact .inl ⟨rfl,by simp⟩
 | cons y ys ih =>
  unfold plc
  by_cases e:y=x
  ·rw [if_pos e];exact .inr ⟨0,rfl,by simp [e],by simp⟩
  ·rw [if_neg e]
   rcases ih with ⟨h1,h2⟩ | ⟨k,h1,h2,h3⟩
   ·rw [if_pos (by omega)];exact .inl ⟨rfl,by simp [h2];exact fun h=>e h.symm⟩
   ·rw [if_neg (by omega)]
    refine .inr ⟨k+1,by omega,by simpa using h2, ?_⟩
    rw [List.take_succ_cons];simp [h3];exact fun h=>e h.symm
theorem PlaceOf.eq {xs:List Int} {x q:Int} (h:PlaceOf xs x q):q=plc xs x:=by
 rcases h with ⟨h1,h2⟩ | ⟨k,h1,h2,h3⟩
 ·rcases plc_cases xs x with ⟨e1, -⟩ | ⟨j, -,e2, -⟩
  ·rw [h1,e1]
  ·exact absurd (List.mem_of_getElem? e2) h2
 ·rcases plc_cases xs x with ⟨-,e2⟩ | ⟨j,e1,e2,e3⟩
  ·exact absurd (List.mem_of_getElem? h2) e2
  ·rw [h1,e1]
   rcases Nat.lt_trichotomy k j with hlt | heq | hgt
   ·exact absurd (List.mem_of_getElem? (by rw [List.getElem?_take_of_lt hlt];exact h2)) e3
   ·rw [heq]
   ·exact absurd (List.mem_of_getElem? (by rw [List.getElem?_take_of_lt hgt];exact e2)) h3
def bef (o:List Int) (i k:Int):Bool:=decide (0≤plc o i)&&(decide (0≤plc o k)&&decide (plc o i < plc o k))
def odA (x:Xc) (l:Int):List Int:=(x.od[l.toNat]?).getD []
def frA (x:Xc) (i:Nat):Int:=(x.fr[i]?).getD (-1)
def poE (a b:Ev):Bool:=decide (0≤a.t)&&((a.t==b.t)&&decide (a.i < b.i))
def fenB (p:List (List Ins)) (a b:Ev):Bool:=(((p[a.t.toNat]?).getD []).drop a.i.toNat |>.take (b.i - a.i).toNat).any fun y=>y.op==4
def relE (p:List (List Ins)) (x:Xc) (k:Nat) (a b:Ev) (i j:Nat):Bool:=
 match k with
 | 0=>poE a b
 | 1=>a.l==b.l
 | 2=>(a.t != b.t)||decide (a.t < 0)
 | 3=>frA x j==(i:Int)
 | 4=>bef (odA x a.l) i j
 | 5=>a.r&&(b.w&&((i != j)&&bef (odA x a.l) (frA x i) j))
 | 6=>poE a b&&fenB p a b
 | 7=>(a.w && !a.r)&&(b.r && !b.w)
 | 8=>(a.w && !a.r)&&(b.w && !b.r)
 | _=>i==j
def relN (p:List (List Ins)) (x:Xc) (k:Nat) (i j:Nat):Bool:=match (evAll p)[i]?,(evAll p)[j]? with
 | some a,some b=>relE p x k a b i j
 | _,_=>false
theorem relN_eq {p:List (List Ins)} {x:Xc} {k i j:Nat} {a b:Ev} (hi:(evAll p)[i]? = some a) (hj:(evAll p)[j]? = some b):relN p x k i j=relE p x k a b i j:=by
 simp [relN,hi,hj]
def nameId (nm:ByteArray):Nat:=nameTab.findIdx fun s=>nm.toList==s.toList
def fMinus (f g:Nat→Nat→Bool):Nat→Nat→Bool:=fun i k=>f i k && !g i k
def kidR (c:Re) (k:Nat):Re:=(c.kids[k]?).getD (.mk 0 ByteArray.empty [])
def evalD (p:List (List Ins)) (x:Xc):Nat→Re→Nat→Nat→Bool
 | 0,_=>fun _ _=>false
 | d+1,c =>
  if c.op=1 then relN p x (nameId c.nm)
  else if c.op=6 then fInv (evalD p x d (kidR c 0))
  else if c.op=7 then fClo (evAll p).length (evalD p x d (kidR c 0))
  else if c.op=2 then fOr (evalD p x d (kidR c 0)) (evalD p x d (kidR c 1))
  else if c.op=3 then fAnd (evalD p x d (kidR c 0)) (evalD p x d (kidR c 1))
  else if c.op=4 then fMinus (evalD p x d (kidR c 0)) (evalD p x d (kidR c 1))
  else fComp (evAll p).length (evalD p x d (kidR c 0)) (evalD p x d (kidR c 1))
structure Ru where
 kind:Int
 e:Re
def holdsB (n:Nat) (k:Int) (f:Nat→Nat→Bool):Bool:=if k=1 then acyB n f else if k=2 then irrB n f else empB n f
def ruleB (p:List (List Ins)) (x:Xc) (r:Ru):Bool:=holdsB (evAll p).length r.kind (evalD p x 12 r.e)
def allowB (p:List (List Ins)) (m:List Ru) (x:Xc):Bool:=valsOk p x.fr&&m.all (ruleB p x)
def allowL (p:List (List Ins)) (m:List Ru):List Xc:=(allX (evAll p)).filter (allowB p m)
def ruleOk (r:Ru):Bool:=inB r.kind 1 3&&validR r.e
def modelOk (m:List Ru):Bool:=decide (1≤m.length)&&(decide (m.length≤5)&&m.all ruleOk)
end Go.Proofs.YtkfhgnkonaafgaaGreatDoor
namespace Go.Proofs.YtkfhgnkonaafgaaGreatDoor
def lexE (a b:Ev):Prop:=a.t < b.t∨(a.t=b.t∧a.i < b.i)
theorem evHead_lex:∀ k,(evHead k).Pairwise lexE:=by
 intro k
 induction k with
 | zero=>exact List.Pairwise.nil
 | succ k ih =>
  rw [evHead_succ,List.pairwise_append]
  refine ⟨ih,by simp,fun a ha b hb => ?_⟩
  simp only [evHead,List.mem_map,List.mem_range] at ha
  obtain ⟨l,hl,rfl⟩:=ha
  simp at hb;subst hb
  exact .inr ⟨rfl,by show (l:Int) < k;omega⟩
theorem mem_evRowL {t:Nat} {r:List Ins} {e:Ev}:∀ {k},e∈evRow t r k→e.t=t∧0≤e.i∧e.i < k:=by
 intro k he
 simp only [evRow,List.mem_flatMap,List.mem_range] at he
 obtain ⟨i,hi,h⟩:=he
 cases hr:r[i]? with
 | none=>rw [hr] at h;cases h
 | some x =>
  rw [hr] at h
  obtain ⟨rfl, -⟩:=mem_evOf h
  exact ⟨rfl,by show (0:Int)≤i;omega,by show (i:Int) < k;omega⟩
theorem mem_evToL {p:List (List Ins)} {e:Ev}:∀ {j},e∈evTo p j→0≤e.t∧e.t < j:=by
 intro j he
 simp only [evTo,List.mem_flatMap,List.mem_range] at he
 obtain ⟨t,ht,h⟩:=he
 cases hr:p[t]? with
 | none=>rw [hr] at h;cases h
 | some r =>
  rw [hr] at h
  obtain ⟨h1, -⟩:=mem_evRowL h
  rw [h1];omega
structure Cand (p:List (List Ins)) (x:Xc):Prop where
 rf:∀ (j:Nat) (b:Ev),(evAll p)[j]? = some b→b.r=true→∃ (i:Nat) (a:Ev),frA x j=(i:Int)∧(evAll p)[i]? = some a∧a.w=true∧a.l=b.l∧i≠j
 nrf:∀ (j:Nat) (b:Ev),(evAll p)[j]? = some b→b.r=false→frA x j = -1
 od:∀ (i:Nat) (a b:Ev) (j:Nat),(evAll p)[i]? = some a→(evAll p)[j]? = some b→((j:Int)∈odA x a.l↔b.w=true∧b.l=a.l)
theorem ev_loc {p:List (List Ins)} (hp:progValid p=true) {i:Nat} {a:Ev} (h:(evAll p)[i]? = some a):∃ l:Nat,l < 3∧a.l=l:=by
 rcases mem_evAll (List.mem_of_getElem? h) with h1 | ⟨t,k,r,y,h1,h2,rfl,h4⟩
 ·have hm:=List.mem_of_getElem? h
  unfold evAll at hm
  rcases List.mem_append.1 hm with hm | hm
  ·simp only [evHead,List.mem_map,List.mem_range] at hm
   obtain ⟨l,hl,rfl⟩:=hm
   exact ⟨l,hl,rfl⟩
  ·have:=(mem_evToL hm).1;omega
 ·have hv:insValid y=true:=by
   unfold progValid shapeOk at hp
   simp only [Bool.and_eq_true,List.all_eq_true] at hp
   have h5:=hp.1.1.1.2 r (List.mem_of_getElem? h1)
   unfold rowOk at h5
   simp only [Bool.and_eq_true,List.all_eq_true] at h5
   exact h5.1 y (List.mem_of_getElem? h2)
  rcases insValid_loc hv with h5 | h5 | h5
  ·exact ⟨0,by omega,h5⟩
  ·exact ⟨1,by omega,h5⟩
  ·exact ⟨2,by omega,h5⟩
theorem cand_of {p:List (List Ins)} {x:Xc} (h:execOk p x=true):Cand p x:=by
 unfold execOk at h
 simp only [Bool.and_eq_true,decide_eq_true_eq] at h
 obtain ⟨hp,hfl,hol,hf,ho⟩:=h
 have hfr:∀ (j:Nat) (b:Ev),(evAll p)[j]? = some b→∃ f,frA x j=f∧fromOk (evAll p) j b f=true:=fun j b hb=>by
  obtain ⟨e,f,h1,h2,h3⟩:=fromsOk_get hf (List.getElem?_eq_some_iff.1 hb).1
  rw [hb] at h1;simp only [Option.some.injEq] at h1;subst h1
  exact ⟨f,by simp [frA,h2],h3⟩
 refine ⟨fun j b hb hr => ?_,fun j b hb hr => ?_,fun i a b j ha hb => ?_⟩
 ·obtain ⟨f,h1,h2⟩:=hfr j b hb
  unfold fromOk at h2
  rw [if_pos hr] at h2
  simp only [Bool.and_eq_true,bne_iff_ne,ne_eq,List.contains_iff_mem] at h2
  obtain ⟨k,e,h3,h4,h5,h6,h7⟩:=mem_wrL.1 h2.2
  subst h4
  exact ⟨k,e,h1,h5,h6,h7,fun e=>h2.1 (by rw [e])⟩
 ·obtain ⟨f,h1,h2⟩:=hfr j b hb
  unfold fromOk at h2
  rw [if_neg (by rw [hr];simp)] at h2
  rw [h1];simpa using h2
 ·obtain ⟨l,hl,hal⟩:=ev_loc hp ha
  obtain ⟨o,h1,h2⟩:=ordersOk_get ho hl
  unfold orderOk at h2
  simp only [Bool.and_eq_true,decide_eq_true_eq] at h2
  have ho':odA x a.l=o:=by unfold odA;rw [hal];simp [h1]
  rw [ho',h2.1.mem_iff,mem_wrL]
  constructor
  ·rintro ⟨k,e, -,h4,h5,h6,h7⟩
   have:k=j:=by omega
   subst this
   rw [hb] at h5;simp only [Option.some.injEq] at h5;subst h5
   exact ⟨h6,by rw [h7,hal]⟩
  ·rintro ⟨h4,h5⟩
   exact ⟨j,b,(List.getElem?_eq_some_iff.1 hb).1,rfl,hb,h4,by rw [h5,hal]⟩
end Go.Proofs.YtkfhgnkonaafgaaGreatDoor
namespace Go.Proofs.YtkfhgnkonaafgaaGreatDoor
section
variable (p : List (List Ins)) (x : Xc)
end
section
variable {p : List (List Ins)} {x : Xc}
theorem plc_mem {xs:List Int} {y:Int}:y∈xs↔0≤plc xs y:=by
 rcases plc_cases xs y with ⟨h1,h2⟩ | ⟨k,h1,h2, -⟩
 ·exact ⟨fun h=>absurd h h2,fun h=>by omega⟩
 ·exact ⟨fun _=>by omega,fun _=>List.mem_of_getElem? h2⟩
theorem plc_inj {xs:List Int} {y z:Int} (h0:0≤plc xs y) (h:plc xs y=plc xs z):y=z:=by
 rcases plc_cases xs y with ⟨h1, -⟩ | ⟨k,h1,h2, -⟩
 ·omega
 ·rcases plc_cases xs z with ⟨h3, -⟩ | ⟨j,h3,h4, -⟩
  ·omega
  ·have:k=j:=by omega
   subst this
   rw [h2] at h4;simpa using h4
theorem co_mk (C:Cand p x) {i j:Nat} {a b:Ev} (ha:(evAll p)[i]? = some a) (hb:(evAll p)[j]? = some b) (h1:a.w=true) (h2:b.w=true) (hl:b.l=a.l) (h:plc (odA x a.l) i < plc (odA x a.l) j):relN p x 4 i j=true:=by
 rw [relN_eq ha hb]
 simp only [relE,bef,Bool.and_eq_true,decide_eq_true_eq]
 exact ⟨plc_mem.1 ((C.od i a a i ha ha).2 ⟨h1,rfl⟩),plc_mem.1 ((C.od i a b j ha hb).2 ⟨h2,hl⟩),h⟩
theorem fr_ends (C:Cand p x) {i j:Nat} {a b:Ev} (ha:(evAll p)[i]? = some a) (hb:(evAll p)[j]? = some b) (h:relN p x 5 i j=true):a.r=true∧b.w=true∧b.l=a.l∧i≠j∧plc (odA x a.l) (frA x i) < plc (odA x a.l) j:=by
 rw [relN_eq ha hb] at h
 simp only [relE,bef,Bool.and_eq_true,decide_eq_true_eq,bne_iff_ne,ne_eq] at h
 have h2:=(C.od i a b j ha hb).1 (plc_mem.2 h.2.2.2.2.1)
 exact ⟨h.1,h2.1,h2.2,h.2.2.1,h.2.2.2.2.2⟩
theorem fr_mk (C:Cand p x) {i j:Nat} {a b:Ev} (ha:(evAll p)[i]? = some a) (hb:(evAll p)[j]? = some b) (h1:a.r=true) (h2:b.w=true) (hl:b.l=a.l) (hne:i≠j) (h:plc (odA x a.l) (frA x i) < plc (odA x a.l) j):relN p x 5 i j=true:=by
 obtain ⟨s,c,h3,h4,h5,h6, -⟩:=C.rf i a ha h1
 have h7:=(C.od i a c s ha h4).2 ⟨h5,h6⟩
 rw [relN_eq ha hb]
 simp only [relE,bef,Bool.and_eq_true,decide_eq_true_eq,bne_iff_ne,ne_eq]
 exact ⟨h1,h2,hne,plc_mem.1 (by rw [h3];exact h7),plc_mem.1 ((C.od i a b j ha hb).2 ⟨h2,hl⟩),h⟩
theorem rf_mk {i j:Nat} {a b:Ev} (ha:(evAll p)[i]? = some a) (hb:(evAll p)[j]? = some b) (h:frA x j=(i:Int)):relN p x 3 i j=true:=by
 rw [relN_eq ha hb];simp [relE,h]
def posE (x:Xc) (i:Nat) (a:Ev):Int:=if a.w=true then 2 * plc (odA x a.l) i else 2 * plc (odA x a.l) (frA x i)+1
theorem L1 (C:Cand p x) {i k:Nat} {a b:Ev} (ha:(evAll p)[i]? = some a) (hb:(evAll p)[k]? = some b) (hrwa:a.w=false→a.r=true) (hrwb:b.w=false→b.r=true) (hl:a.l=b.l) (h:posE x i a < posE x k b) :
 (b.w=true∧(relN p x 4 i k=true∨relN p x 5 i k=true))∨(b.w=false∧∃ (s:Nat) (c:Ev),(evAll p)[s]? = some c∧c.w=true∧c.l=b.l∧relN p x 3 s k=true∧(s=i∨relN p x 4 i s=true∨relN p x 5 i s=true)):=by
 unfold posE at h
 rw [← hl] at h
 cases hbw:b.w with
 | true =>
  rw [if_pos hbw] at h
  refine .inl ⟨rfl, ?_⟩
  cases haw:a.w with
  | true =>
   rw [if_pos haw] at h
   exact .inl (co_mk C ha hb haw hbw hl.symm (by omega))
  | false =>
   rw [if_neg (by rw [haw];simp)] at h
   exact .inr (fr_mk C ha hb (hrwa haw) hbw hl.symm (fun e=>by subst e;rw [ha] at hb;simp only [Option.some.injEq] at hb;subst hb;rw [haw] at hbw;cases hbw) (by omega))
 | false =>
  rw [if_neg (show ¬ b.w=true by rw [hbw];simp)] at h
  refine .inr ⟨rfl, ?_⟩
  obtain ⟨s,c,h3,h4,h5,h6,h7⟩:=C.rf k b hb (hrwb hbw)
  rw [h3] at h
  refine ⟨s,c,h4,h5,h6,rf_mk h4 hb h3, ?_⟩
  cases haw:a.w with
  | true =>
   rw [if_pos haw] at h
   by_cases e:plc (odA x a.l) i=plc (odA x a.l) s
   ·have:=plc_inj (plc_mem.1 ((C.od i a a i ha ha).2 ⟨haw,rfl⟩)) e
    exact .inl (by omega)
   ·exact .inr (.inl (co_mk C ha h4 haw h5 (by rw [h6,hl]) (by omega)))
  | false =>
   rw [if_neg (by rw [haw];simp)] at h
   exact .inr (.inr (fr_mk C ha h4 (hrwa haw) h5 (by rw [h6,hl]) (fun e=>by subst e;rw [ha] at h4;simp only [Option.some.injEq] at h4;subst h4;rw [haw] at h5;cases h5) (by omega)))
end
end Go.Proofs.YtkfhgnkonaafgaaGreatDoor
namespace Go.Proofs.YtkfhgnkonaafgaaGreatDoor
open Go.RowKit Go.Shelf Go.Sort
end Go.Proofs.YtkfhgnkonaafgaaGreatDoor
namespace Go.Proofs.YtkfhgnkonaafgaaGreatDoor
open Go.RowKit
end Go.Proofs.YtkfhgnkonaafgaaGreatDoor
namespace Go.Proofs.YtkfhgnkonaafgaaGreatDoor
def prodR {α:Type}:List (List α)→List (List α)
 | []=>[[]]
 | c :: cs=>c.flatMap fun y=>(prodR cs).map (y :: ·)
theorem prodR_snoc {α : Type} (c : List α) : ∀ cs : List (List α), prodR (cs ++ [c]) = (prodR cs).flatMap fun x => c.map (x ++ [·]) := by
  intro cs
  induction cs with
  | nil => simp [prodR, List.flatMap_def]
           induction c with
           | nil => rfl
           | cons y c ih => simp [ih]
  | cons d cs ih =>
    rw [List.cons_append, prodR, ih, prodR, List.flatMap_assoc]
    congr 1
    funext y
    rw [List.map_flatMap, List.flatMap_map]
    congr 1
    funext x
    rw [List.map_map]
    rfl
theorem prodR_map {α β:Type} (f:α→β):∀ cs:List (List α),prodR (cs.map (List.map f))=(prodR cs).map (List.map f):=by
 intro cs
 induction cs with
 | nil=>rfl
 | cons c cs ih =>
  rw [List.map_cons,prodR,ih,prodR,List.map_flatMap,List.flatMap_map]
  congr 1
  funext y
  rw [List.map_map,List.map_map]
  rfl
theorem prodR_take_succ {α:Type} {cs:List (List α)} {k:Nat} {c:List α} (h:cs[k]? = some c):prodR (cs.take (k+1))=(prodR (cs.take k)).flatMap fun x=>c.map (x++[·]):=by
 rw [List.take_add_one,h];exact prodR_snoc c _
theorem prodR_row {α:Type}:∀ cs:List (List α),∀ r∈prodR cs,r.length=cs.length:=by
 intro cs
 induction cs with
 | nil=>intro r hr;simp [prodR] at hr;simp [hr]
 | cons c cs ih =>
  intro r hr
  rw [prodR,List.mem_flatMap] at hr
  obtain ⟨y, -,hr⟩:=hr
  rw [List.mem_map] at hr
  obtain ⟨q,hq,rfl⟩:=hr
  simp [ih q hq]
theorem prodR_mem {α:Type}:∀ cs:List (List α),∀ r∈prodR cs,∀ x∈r,∃ c∈cs,x∈c:=by
 intro cs
 induction cs with
 | nil=>intro r hr;simp [prodR] at hr;simp [hr]
 | cons c cs ih =>
  intro r hr x hx
  rw [prodR,List.mem_flatMap] at hr
  obtain ⟨y,hy,hr⟩:=hr
  rw [List.mem_map] at hr
  obtain ⟨q,hq,rfl⟩:=hr
  rcases List.mem_cons.1 hx with rfl | hx
  ·exact ⟨c,by simp,hy⟩
  ·obtain ⟨d,hd,h⟩:=ih q hq x hx
   exact ⟨d,by simp [hd],h⟩
theorem prodR_length {α:Type} (c:List α) (cs:List (List α)):(prodR (c :: cs)).length=c.length * (prodR cs).length:=by
 rw [prodR]
 induction c with
 | nil=>simp
 | cons y c ih=>rw [List.flatMap_cons,List.length_append,ih,List.length_map,List.length_cons,Nat.succ_mul,Nat.add_comm]
theorem prodR_pos {α:Type}:∀ {cs:List (List α)},(∀ c∈cs,0 < c.length)→0 < (prodR cs).length:=by
 intro cs
 induction cs with
 | nil=>intro _;simp [prodR]
 | cons c cs ih=>intro h;rw [prodR_length];exact Nat.mul_pos (h c (by simp)) (ih fun d hd=>h d (by simp [hd]))
theorem prodR_take_le {α:Type}:∀ {cs:List (List α)},(∀ c∈cs,0 < c.length)→∀ k,(prodR (cs.take k)).length≤(prodR cs).length:=by
 intro cs
 induction cs with
 | nil=>intro _ k;simp
 | cons c cs ih =>
  intro h k
  cases k with
  | zero=>simp only [List.take_zero];exact prodR_pos h
  | succ k =>
   rw [List.take_succ_cons,prodR_length,prodR_length]
   exact Nat.mul_le_mul_left _ (ih (fun d hd=>h d (by simp [hd])) k)
def chF (es:List Ev) (i:Nat):List Int:=match es[i]? with
 | some e=>if e.r=true then (wrL es e.l).filter (fun k => !(k==(i:Int))) else [-1]
 | none=>[]
def chsF (es:List Ev):List (List Int):=(List.range es.length).map (chF es)
def chO (es:List Ev) (l:Nat):List (List Int):=(permsL (wrL es l).tail).map ((l:Int) :: ·)
def chsO (es:List Ev):List (List (List Int)):=(List.range 3).map (chO es)
theorem pre1_flat (i:Nat) (rest:List (List Int)):∀ xs:List Int,xs.flatMap (pre1 i rest)=(xs.filter (fun k => !(k==(i:Int)))).flatMap fun k=>rest.map (k :: ·):=by
 intro xs
 induction xs with
 | nil=>rfl
 | cons x xs ih =>
  rw [List.flatMap_cons,ih]
  by_cases h:x=(i:Int)
  ·simp [pre1,h]
  ·simp [pre1,h]
theorem fromsL_prod {es:List Ev}:∀ (n i:Nat),i+n=es.length→fromsL es i=prodR ((chsF es).drop i):=by
 intro n
 induction n with
 | zero =>
  intro i hi
  obtain rfl:i=es.length:=by omega
  rw [fromsL_end,List.drop_of_length_le (by simp [chsF])];rfl
 | succ n ih =>
  intro i hi
  have hlt:i < es.length:=by omega
  rw [fromsL_step hlt,List.drop_eq_getElem_cons (by simp [chsF];exact hlt),prodR,← ih (i+1) (by omega),pre1_flat]
  congr 1
  simp only [chsF,List.getElem_map,List.getElem_range]
  unfold fromC chF
  rw [List.getElem?_eq_getElem hlt]
  simp only
  split
  ·rfl
  ·have:¬ ((-1:Int)=(i:Int)):=by omega
   simp [this]
theorem fromsL_eq (es:List Ev):fromsL es 0=prodR (chsF es):=fromsL_prod es.length 0 (by omega)
theorem ordsL_eq (p:List (List Ins)):ordsL (evAll p) 0=prodR (chsO (evAll p)):=by
 have h:∀ l:Nat,l < 3→(wrL (evAll p) l).headD 0=(l:Int):=fun l hl=>by
  have:=head_wrL (p:=p) hl
  cases hw:wrL (evAll p) l with
  | nil=>rw [hw] at this;cases this
  | cons y ys=>rw [hw] at this;simpa using this
 have st:∀ l:Nat,l < 3→∀ X,ordsL (evAll p) (l+1)=X→ordsL (evAll p) l=(chO (evAll p) l).flatMap fun y=>X.map (y :: ·):=fun l hl X hX=>by
  rw [ordsL_step hl,h l hl,hX,chO,List.flatMap_map]
 rw [st 0 (by omega) _ (st 1 (by omega) _ (st 2 (by omega) _ (ordsL_end _)))]
 rfl
theorem allX_eq (p:List (List Ins)):allX (evAll p)=(prodR (chsF (evAll p))).flatMap fun f=>(prodR (chsO (evAll p))).map (⟨f,·⟩):=by
 unfold allX;rw [fromsL_eq,ordsL_eq]
section
variable {es es' : List Ev}
end
structure FewC (p:List (List Ins)):Prop where
 fr:∀ k,(prodR ((chsF (evAll p)).take k)).length≤3000
 od:∀ k,(prodR ((chsO (evAll p)).take k)).length≤3000
theorem prodR_ne {α:Type}:∀ {cs:List (List α)},0 < (prodR cs).length→∀ c∈cs,0 < c.length:=by
 intro cs
 induction cs with
 | nil=>intro _ c hc;simp at hc
 | cons d cs ih =>
  intro h c hc
  rw [prodR_length] at h
  rcases List.mem_cons.1 hc with rfl | hc
  ·exact Nat.pos_of_mul_pos_right h |> fun _=>(Nat.pos_iff_ne_zero.2 fun e=>by rw [e,Nat.zero_mul] at h;omega)
  ·exact ih (Nat.pos_iff_ne_zero.2 fun e=>by rw [e,Nat.mul_zero] at h;omega) c hc
theorem fewC {p:List (List Ins)} (h:progValid p=true) (hf:0 < (fromsL (evAll p) 0).length) (ho:0 < (ordsL (evAll p) 0).length):FewC p:=by
 have hw:=few h
 have h1:=hw.froms 0;have h2:=hw.ords 0
 rw [fromsL_eq] at h1 hf;rw [ordsL_eq] at h2 ho
 exact ⟨fun k=>Nat.le_trans (prodR_take_le (prodR_ne hf) k) h1,fun k=>Nat.le_trans (prodR_take_le (prodR_ne ho) k) h2⟩
end Go.Proofs.YtkfhgnkonaafgaaGreatDoor
namespace Go.Proofs.YtkfhgnkonaafgaaGreatDoor
open Go.RowKit
theorem Tryz.infoRule:(Tryz.prog.info? 77).map (fun i=>(i.zero,i.size,i.bytes))=some (some (.agg #[.int .i64 0, .int .i64 0, .string ⟨#[]⟩, .slice none 0 0]),4,56):=by kernel_rfl
structure Us where
 kind:Int
 op:Int
 nm:ByteArray
 s:Slc
def UsE:El Us:=⟨4,by decide,fun x=>[.int .i64 x.kind, .int .i64 x.op, .string x.nm, .slice x.s.a x.s.n x.s.cap],fun _=>rfl,fun x u h=>by simp at h;rcases h with rfl | rfl | rfl | rfl <;> rfl⟩
def RepU (lo:Nat) (w:World) (u:Us) (r:Ru):Prop:=u.kind=r.kind∧u.op=r.e.op∧u.nm=r.e.nm∧RepRk lo w u.s r.e.kids
def RepM (lo:Nat) (w:World) (s:Slc) (m:List Ru):Prop:=
 ∃ us:List Us,us.length=m.length∧Rep UsE w s.v us∧From lo s us∧∀ (i:Nat) (u:Us) (r:Ru),us[i]? = some u→m[i]? = some r→RepU lo w u r
theorem Ru.eta (r:Ru):Ru.mk r.kind (.mk r.e.op r.e.nm r.e.kids)=r:=by cases r;simp [Re.eta]
theorem Rep.fromE {α:Type} {E:El α} {lo:Nat} {w w':World} {s:Slc} {us:List α} (h:Rep E w s.v us) (hf:From lo s us) (hk:∀ q,lo≤q→q < w.heap.size→w'.heap[q]? = w.heap[q]?):Rep E w' s.v us:=by
 obtain ⟨a,c,hv,h1,h2,h⟩:=h
 refine ⟨a,c,hv,h1,h2,fun i x hx => ?_⟩
 obtain ⟨b,o,rfl,hi⟩:=h i x hx
 refine ⟨b,o,rfl,fun j u hu => ?_⟩
 have hc:=hi j u hu
 rw [← hc]
 refine cell_of_block (hk b ?_ (lt_of_cell hc)) _
 rcases hf with rfl | hf
 ·simp at hx
 ·simp only [Slc.v,Value.slice.injEq] at hv
  exact hf b o hv.1
theorem RepU.keep {lo:Nat} {w w':World} {u:Us} {r:Ru} (h:RepU lo w u r) (hk:∀ q,lo≤q→q < w.heap.size→w'.heap[q]? = w.heap[q]?):RepU lo w' u r:=⟨h.1,h.2.1,h.2.2.1,h.2.2.2.keep hk⟩
theorem RepU.low {lo lo':Nat} {w:World} {u:Us} {r:Ru} (h:RepU lo w u r) (hl:lo'≤lo):RepU lo' w u r:=⟨h.1,h.2.1,h.2.2.1,h.2.2.2.low hl⟩
theorem RepM.keep {lo:Nat} {w w':World} {s:Slc} {m:List Ru} (h:RepM lo w s m) (hk:∀ q,lo≤q→q < w.heap.size→w'.heap[q]? = w.heap[q]?):RepM lo w' s m:=by
 obtain ⟨us,h1,h2,h3,h4⟩:=h
 exact ⟨us,h1,h2.fromE h3 hk,h3,fun i u k hu hk'=>(h4 i u k hu hk').keep hk⟩
theorem RepM.low {lo lo':Nat} {w:World} {s:Slc} {m:List Ru} (h:RepM lo w s m) (hl:lo'≤lo):RepM lo' w s m:=by
 obtain ⟨us,h1,h2,h3,h4⟩:=h
 refine ⟨us,h1,h2, ?_,fun i u k hu hk'=>(h4 i u k hu hk').low hl⟩
 rcases h3 with h3 | h3
 ·exact .inl h3
 ·exact .inr fun b o e=>Nat.le_trans hl (h3 b o e)
theorem RepM.below {lo:Nat} {w w':World} {s:Slc} {m:List Ru} (h:RepM lo w s m) (hb:Below w.heap.size w w'):RepM lo w' s m:=h.keep fun q _ hq=>hb.block q hq
theorem RepM.open {lo:Nat} {w:World} {s:Slc} {m:List Ru} (h:RepM lo w s m):s.n=m.length∧m.length≤s.cap∧m.length≤9223372036854775807∧s.cap≤maxLen:=by
 obtain ⟨us,h1,h2,h3,h4⟩:=h
 obtain ⟨a,c,hv,h5,h6,h7,_⟩:=h2.open
 simp only [Slc.v,Value.slice.injEq] at hv
 obtain ⟨_,e2,e3⟩:=hv
 rw [e2,e3];omega
theorem RepM.row {lo:Nat} {w:World} {a:Option Addr} {n c:Nat} {m:List Ru} (h:RepM lo w ⟨a,n,c⟩ m) {k:Nat} {r:Ru} (hx:m[k]? = some r) :
 ∃ (b o:Nat) (s:Slc),a=some ⟨b,o,none⟩∧b < w.heap.size∧w.cell? ⟨b,o+k * 4,none⟩=some (.int .i64 r.kind)∧w.cell? ⟨b,o+k * 4+1,none⟩=some (.int .i64 r.e.op)∧w.cell? ⟨b,o+k * 4+2,none⟩=some (.string r.e.nm)∧w.cell? ⟨b,o+k * 4+3,none⟩=some (.slice s.a s.n s.cap)∧RepRk lo w s r.e.kids:=by
 obtain ⟨us,h1,h2,h3,h4⟩:=h
 obtain ⟨u,hu⟩:=get_of_lt (xs:=us) (k:=k) (by rw [h1];exact (List.getElem?_eq_some_iff.1 hx).1)
 obtain ⟨e0,e1,e2,hk⟩:=h4 k u r hu hx
 obtain ⟨a',c',hv,_,_,h⟩:=h2
 simp only [Slc.v,Value.slice.injEq] at hv
 obtain ⟨rfl,_,_⟩:=hv
 obtain ⟨b,o,rfl,h'⟩:=h k u hu
 rw [← e0,← e1,← e2]
 exact ⟨b,o,u.s,rfl,lt_of_cell (h' 0 _ rfl),h' 0 _ rfl,h' 1 _ rfl,h' 2 _ rfl,h' 3 _ rfl,hk⟩
def wtM (m:List Ru):Nat:=(m.map fun r=>r.e.nm.size+wtR r.e.kids+1).sum
theorem wtM_take_succ {m:List Ru} {k:Nat} {r:Ru} (h:m[k]? = some r):wtM (m.take (k+1))=wtM (m.take k)+(r.e.nm.size+wtR r.e.kids+1):=by
 unfold wtM
 rw [List.take_add_one,h,List.map_append,List.sum_append]
 simp
theorem wtM_split (m:List Ru) (k:Nat):wtM m=wtM (m.take k)+wtM (m.drop k):=by
 unfold wtM
 rw [← List.sum_append,← List.map_append,List.take_append_drop]
theorem wtM_mem {m:List Ru} {r:Ru} (h:r∈m):r.e.nm.size+wtR r.e.kids+1≤wtM m:=by
 obtain ⟨k,hk⟩:=List.getElem?_of_mem h
 have h1:=wtM_take_succ hk
 have h2:=wtM_split m (k+1)
 omega
theorem Own.usr {T:TypeId} {w:World} {base g n cap:Nat} {xs:List Us} (h:Own UsE T w base (.slice (some ⟨g,0,none⟩) n cap) xs) {k:Nat} {x:Us} (hx:xs[k]? = some x) :
 g < w.heap.size∧w.cell? ⟨g,k * 4,none⟩=some (.int .i64 x.kind)∧w.cell? ⟨g,k * 4+1,none⟩=some (.int .i64 x.op)∧w.cell? ⟨g,k * 4+2,none⟩=some (.string x.nm) ∧
  w.cell? ⟨g,k * 4+3,none⟩=some (.slice x.s.a x.s.n x.s.cap)∧∀ j,w.frozen? ⟨g,j,none⟩=false:=
 ⟨(World.ownsRow.lt h g rfl).2,h.cell hx (j:=0) rfl,h.cell hx (j:=1) rfl,h.cell hx (j:=2) rfl,h.cell hx (j:=3) rfl,fun j=>h.frozen j⟩
end Go.Proofs.YtkfhgnkonaafgaaGreatDoor