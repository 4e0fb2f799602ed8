/-
  OutcomeCond of the reference. Condition: bounds on lengths.
-/
import Derived.Test.YtlddmagfbcomgaaGreatZq51
import Derived.Test.YtlddmagfbcomgaaGreatZq52
import Derived.Test.YtlddmagfbcomgaaGreatZq02
import Derived.Test.YtlddmagfbcomgaaGreatZq00
import Derived.Test.YtlddmagfbcomgaaGreatZq54
import Derived.Test.YtlddmagfbcomgaaGreatZq53
import Derived.Test.YtlddmagfbcomgaaGreatZq04
import Derived.Deep.RegionLaw
import Derived.Deep.DeepCutAuto
set_option maxHeartbeats 6400000
set_option maxRecDepth 100000
namespace Go.Proofs.YtlddmagfbcomgaaGreat
open Go.RowKit
theorem wr3 (j:Nat) (h:j≤1048576):IntKind.i64.wrap (3 * (j:Int))=3 * (j:Int):=by rw [IntKind.wrap_i64];omega
theorem wr3k (j k:Nat) (h:j≤1048576) (hk:k≤3):IntKind.i64.wrap (3 * (j:Int)+(k:Int))=((3 * j+k:Nat):Int):=by rw [IntKind.wrap_i64];omega
theorem kept_drew {w w':World} {ob:Obj} {row:Option Nat} (hg:(w.drew.alloc ob).grownBy w' row) {b:Nat} (hb:b < w.heap.size) (hne:∀ q,row=some q→q≠b) (o:Nat):w'.cell? ⟨b,o,none⟩=w.cell? ⟨b,o,none⟩:=
 kept_cell (w:=w.drew) hg hb hne o
theorem said_any (v v':Value) (p:List (List Ins)) (os:List Int) (w:World) (hp:RepP w v p) (ho:Rep IntE w v' os) (hl:p.flatten.length≤1048576) (hpl:p.length≤1048576) (hol:os.length=3 * p.length+3) :
 Calls Tryz.prog 72 #[v,v'] w (RetOwn CsE 45 w (saidL p os)):=by
 obtain ⟨a,c,rfl,hc1,hc2,hc3,hp⟩:=hp.open
 obtain ⟨oa,oc,rfl, -, -, -,ho⟩:=ho.open
 have HP:=hide hp;clear hp
 have HO:=hide ho;clear ho
 have HL:=hide hl;clear hl
 have PP:Hid (saidL p os=sayTo p os p.length++sayM p os 3):=hide rfl
 have HTS:=hide (fun j r h=>sayTo_succ (p:=p) os (j:=j) (r:=r) h)
 have HMS:=hide (fun k x h=>sayM_succ p (o:=os) k (x:=x) h)
 have HTL:=hide (sayTo_length p os)
 have HML:=hide (sayM_length p os)
 have HCM:=hide (fun g l w' (h:RepP w' (.slice a p.length c) p) h2 h3=>ContainsFuncM ⟨g,0,none⟩ _ p _ w' h (testM g l w' h2 h3))
 have HWP:Hid (∀ l,writesP p l=p.any fun row=>row.any fun x=>isWop x.op&&x.loc==l):=hide (fun _=>rfl)
 have H0:Hid (sayTo p os 0=[]):=hide (by simp [sayTo])
 have HM0:Hid (sayM p os 0=[]):=hide (by simp [sayM])
 have HGET:=hide (fun k (h:k < os.length)=>get_of_lt (xs:=os) (k:=k) h)
 generalize hn:p.length=n at *
 have H:=hide hn;clear hn
 generalize os.length=m at *
 have HOL:=hide hol;clear hol
 go_enter Tryz.func72,Tryz.ntmps72
 go_wp2_with fail
 go_loopw [5,13] (fun s i wr => ∃ j:Nat,j≤n∧i = .int .i64 j∧Own CsE 45 wr w.heap.size s (sayTo p os j)∧Below w.heap.size w wr) (fun _ i _=>n - (intOf i).toNat)
 case atStart=>exact ⟨0,Nat.zero_le _,rfl,by rw [H0.out];exact Own.nil _ _ _,Below.refl _ _⟩
 case round =>
  obtain ⟨j,hj,rfl,hown,hb2⟩:=hrel
  by_cases hlt:j < n
  ·obtain ⟨x,hxk⟩:=get_of_lt (xs:=p) (k:=j) (by rw [H.out];exact hlt)
   obtain ⟨b,o,ra,rc,rfl,hbl0,i00,i1⟩:=HP.out.row hxk
   have i0:=(hb2.cell (p:=⟨b,o+j,none⟩) hbl0).trans i00
   have hbl:b < wr.heap.size:=by have:=hb2.size;omega
   have I1:=hide i1
   have hlt2':=nat_of_lt hlt
   have GS:=hide (HTS.out j x hxk)
   have hgl:=HTL.out j
   have HCR:=hide (fun g l w' (h:Rep InsE w' (.slice ra x.length rc) x) h2 h3=>ContainsFuncR ⟨g,0,none⟩ _ x _ w' h (testR g l w' h2 h3))
   have HRR:Hid (∀ l,readsR x l=x.any fun x=>isRop x.op&&x.reg==l):=hide (fun _=>rfl)
   have HRS:=hide (fun k y h=>sayR_succ j x (o:=os) k (x:=y) h)
   have HRL:=hide (sayR_length j x os)
   have HR0:Hid (sayR j x os 0=[]):=hide (by simp [sayR])
   clear hxk i1 i00
   generalize hG:sayTo p os j=G at *
   clear hG
   have HOW:=hide hown;clear hown
   go_wp2_with fail
   go_loopw [5,18] (fun s i wr => ∃ k:Nat,k≤3∧i = .int .i64 k∧Own CsE 45 wr w.heap.size s (G++sayR j x os k)∧Below w.heap.size w wr) (fun _ i _=>3 - (intOf i).toNat)
   case atStart=>exact ⟨0,by omega,rfl,by rw [HR0.out,List.append_nil];exact HOW.out,hb2⟩
   case round =>
    obtain ⟨k,hk,rfl,hown,hb3⟩:=hrel
    by_cases hlt3:k < 3
    ·have hlt3':(k:Int) < 3:=by omega
     obtain ⟨y,hy⟩:=HGET.out (3 * j+k) (by have:=HOL.out;omega)
     have hqm':((3 * j+k:Nat):Int) < (m:Int):=by have:=HOL.out;omega
     obtain ⟨d,e,rfl,hdw,q00⟩:=HO.out.int hy
     have q0:=(hb3.cell (p:=⟨d,e+(3 * j+k),none⟩) hdw).trans q00
     have hd:d < wr.heap.size:=by have:=hb3.size;omega
     have HDW:=hide hdw;clear hdw q00
     have RS:=hide (HRS.out k y hy)
     have hrl:=HRL.out k
     have HOK:=hide (hown.alloc (.cells #[.int .i64 (k:Int)] 3))
     have HBK:=hide (hb3.alloc hb3.size (.cells #[.int .i64 (k:Int)] 3))
     have hcall:=HCR.out wr.heap.size k (wr.alloc (.cells #[.int .i64 (k:Int)] 3)) (I1.out.below HBK.out) (by simp) (by simp [go_sem])
     rw [← HRR.out k] at hcall
     have HC:=hide hcall
     clear hcall hy
     have K0:Hid ((wr.alloc (.cells #[.int .i64 (k:Int)] 3)).cell? ⟨wr.heap.size,0,none⟩=some (.int .i64 (k:Int))):=hide (by simp [go_sem])
     have Z0:Hid (wr.heap.size < (wr.alloc (.cells #[.int .i64 (k:Int)] 3)).heap.size):=hide (by simp)
     have HQ0:=hide (((Below.refl wr.heap.size wr).alloc (Nat.le_refl _) (.cells #[.int .i64 (k:Int)] 3)).cell (p:=⟨d,e+(3 * j+k),none⟩) hd |>.trans q0)
     have HD:=hide hd
     clear q0 hd
     generalize hRG:sayR j x os k=RG at *
     clear hRG
     cases hrr:readsR x k
     ·rw [hrr] at HC
      have RS2:Hid (sayR j x os (k+1)=RG):=hide (by rw [RS.out,hrr];simp)
      clear hrr RS
      go_wp2_with fail
      (with_reducible refine HC.out.mono ?_);rintro e w2 ⟨rfl,hb4⟩
      go_wp2_with fail
      go_roundw
      case rel=>exact ⟨k+1,by omega,by go_num,by rw [RS2.out];exact HOK.out.below hb4,HBK.out.trans (hb4.mono HBK.out.size)⟩
      case measure=>simp [intOf];omega
     ·rw [hrr] at HC
      have RS2:Hid (sayR j x os (k+1)=RG++[leafR j k y]):=hide (by rw [RS.out,hrr];rfl)
      clear hrr RS
      have hlen:(G++RG).length≤68719476736:=by rw [List.length_append];omega
      have HOW2:=hide hown;clear hown
      go_wp2_with fail
      (with_reducible refine HC.out.mono ?_);rintro e w2 ⟨rfl,hb4⟩
      have c0:=(hb4.cell (p:=⟨wr.heap.size,0,none⟩) Z0.out).trans K0.out
      have z0:=Nat.lt_of_lt_of_le Z0.out hb4.size
      have q0:=(hb4.cell (p:=⟨d,e+(3 * j+k),none⟩) (by have h1:=HD.out;have h2:=Z0.out;show d < _;omega)).trans HQ0.out
      have hd:d < w2.heap.size:=by have:=HD.out;omega
      have HB4:=hide (HBK.out.trans (hb4.mono HBK.out.size))
      have HO4:=hide (HOK.out.below hb4)
      have HV2:Hid (IntKind.i64.wrap (3 * (j:Int)+(k:Int))=((3 * j+k:Nat):Int)):=hide (wr3k j k (by omega) (by omega))
      generalize 3 * j+k=q at *
      go_wp2_with fail
      have hv1:IntKind.i64.wrap (3 * (j:Int))=3 * (j:Int):=wr3 j (by omega)
      have hv2:IntKind.i64.wrap (3 * (j:Int)+(k:Int))=(q:Int):=HV2.out
      have hq0:(0:Int)≤(q:Int):=Int.natCast_nonneg q
      go_region_held3 (fun V=>V.cell? ⟨wr.heap.size,0,none⟩=some (.int .i64 (k:Int))∧V.cell? ⟨d,e+q,none⟩=some (.int .i64 y)) ((simp [go_sem, *]))
       (first
        | (refine step_app CsE 45 Tryz.infoCond rfl Tryz.underlying43 w.heap.size _ _ (leafR j k y) ((HO4.out.below (Below.refl _ _).drew).alloc _) (by decide) hlen (by have:=HB4.out.size;simp;omega) (by rfl) _ _ (by rfl) (by rfl) w2.heap.size 0 1 (by rfl) news_alloc ?_;intro v' w6 hown6 hgr6;have hk6:(∀ o,w6.cell? ⟨wr.heap.size,o,none⟩=w2.cell? ⟨wr.heap.size,o,none⟩):=(kept_drew hgr6 z0 (fun q hq=>Nat.ne_of_lt (World.ownsRow.lt HOW2.out q hq).2));have hk7:(∀ o,w6.cell? ⟨d,o,none⟩=w2.cell? ⟨d,o,none⟩):=(kept_drew hgr6 hd (fun q hq=>Nat.ne_of_gt (Nat.lt_of_lt_of_le HDW.out (World.ownsRow.lt HOW2.out q hq).1)))))
      have hb8:=below_app HB4.out.drew (HO4.out.below (Below.refl _ _).drew) hgr6
      go_wp2_with fail
      go_roundw
      case rel =>
       have hown7:Own CsE 45 w6 w.heap.size v' (G++sayR j x os (k+1)):=by rw [RS2.out];simpa [List.append_assoc] using hown6
       exact ⟨k+1,by omega,by go_num,hown7,hb8⟩
      case measure=>simp [intOf];omega
    ·obtain rfl:k=3:=by omega
     go_wp2_with fail
     go_roundw
     case rel=>exact ⟨j+1,by omega,by go_num,by rw [GS.out];exact hown,hb3⟩
     case measure=>simp [intOf];omega
  ·obtain rfl:j=n:=by omega
   have hgl:=HTL.out j
   generalize hG:sayTo p os j=G at *
   clear hG
   have HOW:=hide hown;clear hown
   go_wp2_with fail
   go_loopw [5,39] (fun s i wr => ∃ k:Nat,k≤3∧i = .int .i64 k∧Own CsE 45 wr w.heap.size s (G++sayM p os k)∧Below w.heap.size w wr) (fun _ i _=>3 - (intOf i).toNat)
   case atStart=>exact ⟨0,by omega,rfl,by rw [HM0.out,List.append_nil];exact HOW.out,hb2⟩
   case round =>
    obtain ⟨k,hk,rfl,hown,hb3⟩:=hrel
    by_cases hlt3:k < 3
    ·have hlt3':(k:Int) < 3:=by omega
     obtain ⟨y,hy⟩:=HGET.out (3 * j+k) (by have:=HOL.out;omega)
     have hqm':((3 * j+k:Nat):Int) < (m:Int):=by have:=HOL.out;omega
     obtain ⟨d,e,rfl,hdw,q00⟩:=HO.out.int hy
     have q0:=(hb3.cell (p:=⟨d,e+(3 * j+k),none⟩) hdw).trans q00
     have hd:d < wr.heap.size:=by have:=hb3.size;omega
     have HDW:=hide hdw;clear hdw q00
     have RS:=hide (HMS.out k y hy)
     have hrl:=HML.out k
     have HOK:=hide (hown.alloc (.cells #[.int .i64 (k:Int)] 3))
     have HBK:=hide (hb3.alloc hb3.size (.cells #[.int .i64 (k:Int)] 3))
     have hcall:=HCM.out wr.heap.size k (wr.alloc (.cells #[.int .i64 (k:Int)] 3)) (HP.out.below HBK.out) (by simp) (by simp [go_sem])
     rw [← HWP.out k] at hcall
     have HC:=hide hcall
     clear hcall hy
     have K0:Hid ((wr.alloc (.cells #[.int .i64 (k:Int)] 3)).cell? ⟨wr.heap.size,0,none⟩=some (.int .i64 (k:Int))):=hide (by simp [go_sem])
     have Z0:Hid (wr.heap.size < (wr.alloc (.cells #[.int .i64 (k:Int)] 3)).heap.size):=hide (by simp)
     have HQ0:=hide (((Below.refl wr.heap.size wr).alloc (Nat.le_refl _) (.cells #[.int .i64 (k:Int)] 3)).cell (p:=⟨d,e+(3 * j+k),none⟩) hd |>.trans q0)
     have HD:=hide hd
     clear q0 hd
     generalize hRG:sayM p os k=RG at *
     clear hRG
     cases hrr:writesP p k
     ·rw [hrr] at HC
      have RS2:Hid (sayM p os (k+1)=RG):=hide (by rw [RS.out,hrr];simp)
      clear hrr RS
      go_wp2_with fail
      (with_reducible refine HC.out.mono ?_);rintro e w2 ⟨rfl,hb4⟩
      go_wp2_with fail
      go_roundw
      case rel=>exact ⟨k+1,by omega,by go_num,by rw [RS2.out];exact HOK.out.below hb4,HBK.out.trans (hb4.mono HBK.out.size)⟩
      case measure=>simp [intOf];omega
     ·rw [hrr] at HC
      have RS2:Hid (sayM p os (k+1)=RG++[leafM k y]):=hide (by rw [RS.out,hrr];rfl)
      clear hrr RS
      have hlen:(G++RG).length≤68719476736:=by rw [List.length_append];omega
      have HOW2:=hide hown;clear hown
      go_wp2_with fail
      (with_reducible refine HC.out.mono ?_);rintro e w2 ⟨rfl,hb4⟩
      have c0:=(hb4.cell (p:=⟨wr.heap.size,0,none⟩) Z0.out).trans K0.out
      have z0:=Nat.lt_of_lt_of_le Z0.out hb4.size
      have q0:=(hb4.cell (p:=⟨d,e+(3 * j+k),none⟩) (by have h1:=HD.out;have h2:=Z0.out;show d < _;omega)).trans HQ0.out
      have hd:d < w2.heap.size:=by have:=HD.out;omega
      have HB4:=hide (HBK.out.trans (hb4.mono HBK.out.size))
      have HO4:=hide (HOK.out.below hb4)
      have HV2:Hid (IntKind.i64.wrap (3 * (j:Int)+(k:Int))=((3 * j+k:Nat):Int)):=hide (wr3k j k (by omega) (by omega))
      generalize 3 * j+k=q at *
      go_wp2_with fail
      have hv1:IntKind.i64.wrap (3 * (j:Int))=3 * (j:Int):=wr3 j (by omega)
      have hv2:IntKind.i64.wrap (3 * (j:Int)+(k:Int))=(q:Int):=HV2.out
      have hq0:(0:Int)≤(q:Int):=Int.natCast_nonneg q
      go_region_held3 (fun V=>V.cell? ⟨wr.heap.size,0,none⟩=some (.int .i64 (k:Int))∧V.cell? ⟨d,e+q,none⟩=some (.int .i64 y)) ((simp [go_sem, *]))
       (first
        | (refine step_app CsE 45 Tryz.infoCond rfl Tryz.underlying43 w.heap.size _ _ (leafM k y) ((HO4.out.below (Below.refl _ _).drew).alloc _) (by decide) hlen (by have:=HB4.out.size;simp;omega) (by rfl) _ _ (by rfl) (by rfl) w2.heap.size 0 1 (by rfl) news_alloc ?_;intro v' w6 hown6 hgr6;have hk6:(∀ o,w6.cell? ⟨wr.heap.size,o,none⟩=w2.cell? ⟨wr.heap.size,o,none⟩):=(kept_drew hgr6 z0 (fun q hq=>Nat.ne_of_lt (World.ownsRow.lt HOW2.out q hq).2));have hk7:(∀ o,w6.cell? ⟨d,o,none⟩=w2.cell? ⟨d,o,none⟩):=(kept_drew hgr6 hd (fun q hq=>Nat.ne_of_gt (Nat.lt_of_lt_of_le HDW.out (World.ownsRow.lt HOW2.out q hq).1)))))
      have hb8:=below_app HB4.out.drew (HO4.out.below (Below.refl _ _).drew) hgr6
      go_wp2_with fail
      go_roundw
      case rel =>
       have hown7:Own CsE 45 w6 w.heap.size v' (G++sayM p os (k+1)):=by rw [RS2.out];simpa [List.append_assoc] using hown6
       exact ⟨k+1,by omega,by go_num,hown7,hb8⟩
      case measure=>simp [intOf];omega
    ·obtain rfl:k=3:=by omega
     go_wp2_with fail
     go_ret
     rw [PP.out]
     exact ⟨_,rfl,hown,hb3⟩
end Go.Proofs.YtlddmagfbcomgaaGreat
namespace Go.Proofs.YtlddmagfbcomgaaGreat
open Go.RowKit Go.Shelf
attribute [local go_sem] Oper.semAt_some
def zC:Cd:=.mk 0 0 0 0 []
def leafC (u:Cs):Cd:=.mk u.op u.th u.pl u.val []
def andF (c:Cd) (u:Cs):Cd:=.mk 3 0 0 0 [leafC u,c]
def andB (z:Cs) (us:List Cs):Cd:=us.foldl andF (leafC z)
def andL:List Cs→Cd
 | []=>zC
 | x :: xs=>match xs with
  | []=>leafC x
  | _ :: _ => .mk 3 0 0 0 [leafC x,andL xs]
theorem andL_two (x y:Cs) (xs:List Cs):andL (x :: y :: xs) = .mk 3 0 0 0 [leafC x,andL (y :: xs)]:=rfl
theorem andB_eq (z:Cs) (xs:List Cs):andB z xs.reverse=andL (xs++[z]):=by
 unfold andB
 rw [List.foldl_reverse]
 induction xs with
 | nil=>rfl
 | cons x xs ih =>
  rw [List.foldr_cons,ih]
  cases xs with
  | nil=>rfl
  | cons y ys=>rfl
def outC (p:List (List Ins)) (o:List Int):Cd × Bool:=
 if outValid p o=true∧saidL p o≠[]∧validC (andL (saidL p o))=true then (andL (saidL p o),true) else (zC,false)
def RetCB (w:World) (r:Cd × Bool) (e:Ending) (w':World):Prop:=
 ∃ (o t q x:Int) (ks:List Cd) (s:Slc),r.1 = .mk o t q x ks∧e = .returned (.tuple #[.agg #[.int .i64 o, .int .i64 t, .int .i64 q, .int .i64 x, .slice s.a s.n s.cap], .bool r.2])∧OwnC 45 w' w.heap.size w'.heap.size s ks∧Below w.heap.size w w'
theorem RetCB.no {w w':World} (h:Below w.heap.size w w'):RetCB w (zC,false) (.returned (.tuple #[.agg #[.int .i64 0, .int .i64 0, .int .i64 0, .int .i64 0, .slice none 0 0], .bool false])) w':=
 ⟨0,0,0,0,[],⟨none,0,0⟩,rfl,rfl, .nil,h⟩
theorem OwnC.keepCells {T:TypeId} {w w':World} {lo hi:Nat} {s:Slc} {ks:List Cd} (h:OwnC T w lo hi s ks) (hk:∀ q cur,lo≤q→w.heap[q]? = some (.cells cur T (0,0))→w'.heap[q]? = w.heap[q]?):OwnC T w' lo hi s ks:=by
 induction h with
 | nil=>exact .nil
 | node cut h1 h2 h3 h4 h5 h6 h7 h8 ih =>
  rename_i lo hi g n cap us ks
  have hg:=World.ownsRow.lt h2 g rfl
  refine .node cut h1 ?_ h3 h4 h5 h6 h7 (fun i u k hu hkk=>ih i u k hu hkk (fun q cur hq=>hk q cur (Nat.le_trans h4 (Nat.le_trans (cut_mono h5 (Nat.zero_le i)) hq))))
  refine ⟨h2.1, ?_⟩
  rcases h2.2 with ⟨hn,_⟩ | ⟨g',cap',cur,hv,hb1,hgg,rest⟩
  ·simp at hn
  ·simp only [Value.slice.injEq,Option.some.injEq,Addr.mk.injEq,and_true] at hv
   obtain ⟨rfl,rfl,rfl⟩:=hv
   exact .inr ⟨g,cap,cur,rfl,hb1,(hk g cur hg.1 hgg).trans hgg,rest⟩
theorem heap_keptO {W W':World} {row:Option Nat} {b:Nat} {cur:Array Value} {T:TypeId} {fr:Nat × Nat} (h:W.heap[b]? = some (.cells cur T fr)) (hg:W.grownBy W' row) (hr:∀ r,row=some r→∃ o:Obj,W.heap[r]? = some o∧o.isCells=false):W'.heap[b]? = some (.cells cur T fr):=by
 rw [hg.block b (Array.getElem?_eq_some_iff.1 h).1 (fun e => ?_),h]
 obtain ⟨o,h1,h2⟩:=hr b e.symm
 rw [h] at h1
 simp at h1;subst h1
 cases h2
structure RndO (w:World) (A4 A7 Bs bg base:Nat) (vg:Value) (og:Obj) (c:Cd) (W:World):Prop where
 a7:∃ s hi,W.heap[A7]? = some (.cells #[.int .i64 c.op, .int .i64 c.th, .int .i64 c.pl, .int .i64 c.val, .slice s.a s.n s.cap] 45 (0,0))∧OwnC 45 W base hi s c.kids∧base≤hi∧hi≤W.heap.size
 a4:W.heap[A4]? = some (.cells #[.int .i64 0, .int .i64 0, .int .i64 0, .int .i64 0, .slice none 0 0] 45 (0,0))
 bs:W.heap[Bs]? = some (.cells #[vg] 43 (0,0))
 bg:W.heap[bg]? = some og
 bel:Below w.heap.size w W
theorem RndO.below {w:World} {A4 A7 Bs bg base:Nat} {vg:Value} {og:Obj} {c:Cd} {W W':World} (h:RndO w A4 A7 Bs bg base vg og c W) (hb:Below W.heap.size W W'):RndO w A4 A7 Bs bg base vg og c W':=by
 obtain ⟨⟨s,hi,h1,h2,h3,h4⟩,h5,h6,h7,h8⟩:=h
 have k:∀ {b:Nat} {o:Obj},W.heap[b]? = some o→W'.heap[b]? = some o:=fun h=>(hb.block _ (Array.getElem?_eq_some_iff.1 h).1).trans h
 exact ⟨⟨s,hi,k h1,h2.keepB hb,h3,Nat.le_trans h4 hb.size⟩,k h5,k h6,k h7,h8.trans (hb.mono h8.size)⟩
theorem rndO_own {β:Type} {w:World} {A4 A7 Bs bg base B:Nat} {vg:Value} {og:Obj} (f:β→Cd) (hog:og.isCells=true) (hB:w.heap.size≤B):OwnFrom B (fun s W=>RndO w A4 A7 Bs bg base vg og (f s) W):=by
 intro x W W' row h hg hr
 have hr':∀ r,row=some r→∃ o:Obj,W.heap[r]? = some o∧o.isCells=false:=fun r e=>(hr r e).2
 obtain ⟨⟨s,hi,h1,h2,h3,h4⟩,h5,h6,h7,h8⟩:=h
 refine ⟨⟨s,hi,heap_keptO h1 hg hr',h2.keepCells (fun q cur _ hq=>(heap_keptO hq hg hr').trans hq.symm),h3,Nat.le_trans h4 hg.size⟩,heap_keptO h5 hg hr',heap_keptO h6 hg hr', ?_,h8.grown hg h8.size (fun k e=>by have:=(hr k e).1;omega)⟩
 rw [hg.block bg (Array.getElem?_eq_some_iff.1 h7).1 (fun e => ?_),h7]
 obtain ⟨o,e1,e2⟩:=hr' bg e.symm
 rw [h7] at e1
 simp at e1;subst e1
 rw [hog] at e2;cases e2
theorem RndO.step {w:World} {A4 A7 Bs bg base:Nat} {vg:Value} {og:Obj} {c:Cd} {W:World} (h:RndO w A4 A7 Bs bg base vg og c W) (u:Cs) (h47:A4≠A7) (hbs:Bs≠A7) (hbg:bg≠A7) (hb:A7 < base) (hw7:w.heap.size≤A7) {s:Slc} {hi:Nat}
 (h1:W.heap[A7]? = some (.cells #[.int .i64 c.op, .int .i64 c.th, .int .i64 c.pl, .int .i64 c.val, .slice s.a s.n s.cap] 45 (0,0))) (h2:OwnC 45 W base hi s c.kids) (h3:base≤hi) (h4:hi≤W.heap.size) :
 RndO w A4 A7 Bs bg base vg og (andF c u) ((((((W.alloc (.cells #[.int .i64 u.op, .int .i64 u.th, .int .i64 u.pl, .int .i64 u.val, .slice none 0 0, .int .i64 c.op, .int .i64 c.th, .int .i64 c.pl, .int .i64 c.val, .slice s.a s.n s.cap] 45)).setCell ⟨A7,0,none⟩ (.int .i64 3)).setCell ⟨A7,1,none⟩ (.int .i64 0)).setCell ⟨A7,2,none⟩ (.int .i64 0)).setCell ⟨A7,3,none⟩ (.int .i64 0)).setCell ⟨A7,4,none⟩ (.slice (some ⟨W.heap.size,0,none⟩) 2 2)):=by
 have ho:OwnC 45 W base base ⟨none,0,0⟩ []:=.nil
 have ht:=ho.two h2 (Nat.le_refl _) h3 h4 u.op u.th u.pl u.val c.op c.th c.pl c.val
 rw [Cd.eta] at ht
 obtain ⟨-,h5,h6,h7,h8⟩:=h
 have hlt:=(Array.getElem?_eq_some_iff.1 h1).1
 have hb1:=(Below.refl W.heap.size W).alloc (Nat.le_refl _) (.cells #[.int .i64 u.op, .int .i64 u.th, .int .i64 u.pl, .int .i64 u.val, .slice none 0 0, .int .i64 c.op, .int .i64 c.th, .int .i64 c.pl, .int .i64 c.val, .slice s.a s.n s.cap] 45)
 have hn:=(hb1.block A7 hlt).trans h1
 have n5:=(hb1.block A4 (Array.getElem?_eq_some_iff.1 h5).1).trans h5
 have n6:=(hb1.block Bs (Array.getElem?_eq_some_iff.1 h6).1).trans h6
 have n7:=(hb1.block bg (Array.getElem?_eq_some_iff.1 h7).1).trans h7
 have hsz:(W.alloc (.cells #[.int .i64 u.op, .int .i64 u.th, .int .i64 u.pl, .int .i64 u.val, .slice none 0 0, .int .i64 c.op, .int .i64 c.th, .int .i64 c.pl, .int .i64 c.val, .slice s.a s.n s.cap] 45)).heap.size=W.heap.size+1:=by simp
 have hbel:=h8.trans (hb1.mono h8.size)
 generalize W.alloc (.cells #[.int .i64 u.op, .int .i64 u.th, .int .i64 u.pl, .int .i64 u.val, .slice none 0 0, .int .i64 c.op, .int .i64 c.th, .int .i64 c.pl, .int .i64 c.val, .slice s.a s.n s.cap] 45)=V at *
 have oth:∀ (X:World) (b j:Nat) (v:Value),b≠A7→(X.setCell ⟨A7,j,none⟩ v).heap[b]? = X.heap[b]?:=fun X b j v hne=>heap_setCell_other X ⟨A7,j,none⟩ b v hne
 refine ⟨⟨⟨some ⟨W.heap.size,0,none⟩,2,2⟩,W.heap.size+1, ?_, ?_,by omega,by simp [hsz]⟩, ?_, ?_, ?_, ?_⟩
 ·have s0:=heap_setCell_same V A7 0 _ _ (.int .i64 3) hn
  have s1:=heap_setCell_same _ A7 1 _ _ (.int .i64 0) s0
  have s2:=heap_setCell_same _ A7 2 _ _ (.int .i64 0) s1
  have s3:=heap_setCell_same _ A7 3 _ _ (.int .i64 0) s2
  have s4:=heap_setCell_same _ A7 4 _ _ (.slice (some ⟨W.heap.size,0,none⟩) 2 2) s3
  rw [s4];rfl
 ·refine ht.keep fun q hq1 _ _ => ?_
  have hne:q≠A7:=by omega
  rw [oth _ q 4 _ hne,oth _ q 3 _ hne,oth _ q 2 _ hne,oth _ q 1 _ hne,oth _ q 0 _ hne]
 ·rw [oth _ _ 4 _ h47,oth _ _ 3 _ h47,oth _ _ 2 _ h47,oth _ _ 1 _ h47,oth _ _ 0 _ h47];exact n5
 ·rw [oth _ _ 4 _ hbs,oth _ _ 3 _ hbs,oth _ _ 2 _ hbs,oth _ _ 1 _ hbs,oth _ _ 0 _ hbs];exact n6
 ·rw [oth _ _ 4 _ hbg,oth _ _ 3 _ hbg,oth _ _ 2 _ hbg,oth _ _ 1 _ hbg,oth _ _ 0 _ hbg];exact n7
 ·exact ((((hbel.setCell hw7 _).setCell hw7 _).setCell hw7 _).setCell hw7 _).setCell hw7 _
end Go.Proofs.YtlddmagfbcomgaaGreat
namespace Go.Proofs.YtlddmagfbcomgaaGreat
open Go.RowKit Go.Shelf
attribute [local go_sem] Oper.semAt_some
theorem cell_of_heapO {w:World} {b k:Nat} {cur:Array Value} {t:TypeId} {v:Value} (h:w.heap[b]? = some (.cells cur t (0,0))) (hk:cur[k]? = some v):w.cell? ⟨b,k,none⟩=some v:=by
 simp [World.cell?,h,hk]
theorem frozen_of_heapO {w:World} {b:Nat} {cur:Array Value} {t:TypeId} (h:w.heap[b]? = some (.cells cur t (0,0))) (j:Nat):w.frozen? ⟨b,j,none⟩=false:=by
 simp [World.frozen?,h]
theorem Own.toSlO {α:Type} {E:El α} {T:TypeId} {w:World} {base:Nat} {v:Value} {xs:List α} (h:Own E T w base v xs):∃ a n c,v = .slice a n c∧n=xs.length:=by
 obtain ⟨⟨a,n,c⟩,e,h⟩:=h.toSlc
 exact ⟨a,n,c,e,h⟩
theorem Rep.front {α:Type} {E:El α} {w:World} {a:Option Addr} {n c:Nat} {xs:List α} {z:α} (h:Rep E w (.slice a n c) (xs++[z])):Rep E w (.slice a xs.length c) xs:=by
 obtain ⟨a',c',hv,h1,h2,h3⟩:=h
 simp only [Value.slice.injEq] at hv
 obtain ⟨rfl,rfl,rfl⟩:=hv
 refine ⟨_,_,rfl,by simp at h1;omega,h2,fun i x hx=>h3 i x ?_⟩
 rw [List.getElem?_append_left (List.getElem?_eq_some_iff.1 hx).1];exact hx
theorem Own.lastC {T:TypeId} {w:World} {base g n cap:Nat} {xs:List Cs} {z:Cs} (h:Own CsE T w base (.slice (some ⟨g,0,none⟩) n cap) (xs++[z])) :
 w.cell? ⟨g,xs.length * 5,none⟩=some (.int .i64 z.op)∧w.cell? ⟨g,xs.length * 5+1,none⟩=some (.int .i64 z.th)∧w.cell? ⟨g,xs.length * 5+2,none⟩=some (.int .i64 z.pl)∧w.cell? ⟨g,xs.length * 5+3,none⟩=some (.int .i64 z.val)∧w.cell? ⟨g,xs.length * 5+4,none⟩=some (.slice z.s.a z.s.n z.s.cap):=by
 obtain ⟨a',c',hv,h1,h2,h3⟩:=h.rep
 simp only [Value.slice.injEq] at hv
 obtain ⟨rfl,rfl,rfl⟩:=hv
 obtain ⟨b,o,hb,hi⟩:=h3 xs.length z (by simp)
 simp only [Option.some.injEq,Addr.mk.injEq,and_true] at hb
 obtain ⟨rfl,rfl⟩:=hb
 have h0:=hi 0 _ rfl;have h1:=hi 1 _ rfl;have h2:=hi 2 _ rfl;have h3:=hi 3 _ rfl;have h4:=hi 4 _ rfl
 simp only [CsE,Nat.zero_add,Nat.add_zero] at h0 h1 h2 h3 h4
 exact ⟨h0,h1,h2,h3,h4⟩
theorem st5_other (V:World) (A k:Nat) (a b c d e:Value) (h:k≠A):(((((V.setCell ⟨A,0,none⟩ a).setCell ⟨A,1,none⟩ b).setCell ⟨A,2,none⟩ c).setCell ⟨A,3,none⟩ d).setCell ⟨A,4,none⟩ e).heap[k]? = V.heap[k]?:=by
 rw [heap_setCell_other _ ⟨A,4,none⟩ k _ h,heap_setCell_other _ ⟨A,3,none⟩ k _ h,heap_setCell_other _ ⟨A,2,none⟩ k _ h,heap_setCell_other _ ⟨A,1,none⟩ k _ h,heap_setCell_other _ ⟨A,0,none⟩ k _ h]
theorem st5_same (V:World) (A:Nat) (T:TypeId) (x0 x1 x2 x3 x4 a b c d e:Value) (h:V.heap[A]? = some (.cells #[x0,x1,x2,x3,x4] T (0,0))):(((((V.setCell ⟨A,0,none⟩ a).setCell ⟨A,1,none⟩ b).setCell ⟨A,2,none⟩ c).setCell ⟨A,3,none⟩ d).setCell ⟨A,4,none⟩ e).heap[A]? = some (.cells #[a,b,c,d,e] T (0,0)):=by
 have s0:=heap_setCell_same V A 0 _ _ a h
 have s1:=heap_setCell_same _ A 1 _ _ b s0
 have s2:=heap_setCell_same _ A 2 _ _ c s1
 have s3:=heap_setCell_same _ A 3 _ _ d s2
 have s4:=heap_setCell_same _ A 4 _ _ e s3
 rw [s4];rfl
theorem st5_size (V:World) (A:Nat) (a b c d e:Value):(((((V.setCell ⟨A,0,none⟩ a).setCell ⟨A,1,none⟩ b).setCell ⟨A,2,none⟩ c).setCell ⟨A,3,none⟩ d).setCell ⟨A,4,none⟩ e).heap.size=V.heap.size:=by simp
theorem st5_below {B:Nat} {U V:World} (A:Nat) (a b c d e:Value) (h:Below B U V) (hA:B≤A):Below B U (((((V.setCell ⟨A,0,none⟩ a).setCell ⟨A,1,none⟩ b).setCell ⟨A,2,none⟩ c).setCell ⟨A,3,none⟩ d).setCell ⟨A,4,none⟩ e):=((((h.setCell hA _).setCell hA _).setCell hA _).setCell hA _).setCell hA _
theorem done_retO {V:World} {A D T:Nat} {a b c d e:Value} (hV:V.heap[A]? = some (.cells #[a,b,c,d,e] T (0,0))) (hD:A≠D) (o:Obj):(V.putObj D o).heap[A]? = some (.cells #[a,b,c,d,e] T (0,0)):=
 (World.putObj_heap_other hD).trans hV
abbrev CsIn (xs:List Cs):={u:Cs // u∈xs}
def csOf {xs:List Cs} (pre:List (CsIn xs × Nat)):List Cs:=pre.map fun x=>x.1.1
theorem csOf_all (xs:List Cs):csOf (xs:=xs) xs.attach.zipIdx.reverse=xs.reverse:=by
 unfold csOf
 rw [List.map_reverse]
 congr 1
 have h1:(fun x:CsIn xs × Nat=>x.1.1)=(fun g:CsIn xs=>g.1) ∘ Prod.fst:=rfl
 rw [h1,← List.map_map,List.zipIdx_map_fst,List.attach_map_subtype_val]
theorem own_typeO {α:Type} {E:El α} {T:TypeId} {W:World} {base:Nat} {v:Value} {xs:List α} (h:Own E T W base v xs) {q:Nat} (hq:v.ownBlock=some q):∃ cur,W.heap[q]? = some (.cells cur T (0,0)):=by
 rcases h.2 with ⟨hn, -⟩ | ⟨g,cap,cur,rfl,hb1,hgg, -⟩
 ·rw [hn] at hq;cases hq
 ·simp [Value.ownBlock] at hq;subst hq;exact ⟨cur,hgg⟩
theorem commO (X:World) (o:Obj) (A j:Nat) (v:Value) (h:A < X.heap.size):(X.alloc o).setCell ⟨A,j,none⟩ v=(X.setCell ⟨A,j,none⟩ v).alloc o:=by simp [go_sem,h]
theorem bodyO {α:Type} {B Bs g A4 A7 base:Nat} {vg:Value} {og:Obj} {w W WX:World} {f:List α→Cd} {pre':List α} {a':Act} {cu:Array Value} {T:TypeId} {fr:Nat × Nat} {c:Cd} (hst:RndO w A4 A7 Bs g base vg og (f pre') WX)
 (hoth:∀ (k:Nat) (o:Obj),W.heap[k]? = some o→k≠A7→WX.heap[k]? = some o) (hsz:W.heap.size≤WX.heap.size) (k1:W.heap[A7]? = some (.cells cu T fr)) (hi:RndO w A4 A7 Bs g base vg og c W) (h1:Bs≠A7) (h2:g≠A7) :
 ownPostG B (Keep2 Bs g) (fun pre W=>RndO w A4 A7 Bs g base vg og (f pre) W) (fun _ _ _=>False) pre' W Exit.normal a' WX:=by
 refine ⟨⟨hsz,fun k o _ hk ho=>hoth k o hk (fun e => ?_)⟩,⟨?_, ?_,hsz⟩,hst⟩
 ·rw [e,k1] at hk;simp at hk;subst hk;cases ho
 ·rw [hoth _ _ hi.bs h1,hi.bs]
 ·rw [hoth _ _ hi.bg h2,hi.bg]
theorem OutcomeCond_any (v v':Value) (p:List (List Ins)) (os:List Int) (w:World) (hp:RepP w v p) (ho:Rep IntE w v' os) (hl:p.flatten.length≤1048576) (hpl:p.length≤1048576) :
 Calls Tryz.prog 25 #[v,v'] w (RetCB w (outC p os)):=by
 have HB0:=hide ((Below.refl w.heap.size w).alloc (Nat.le_refl _) (.cells #[.int .i64 0, .int .i64 0, .int .i64 0, .int .i64 0, .slice none 0 0] 45))
 have hA4:(w.alloc (.cells #[.int .i64 0, .int .i64 0, .int .i64 0, .int .i64 0, .slice none 0 0] 45)).heap[w.heap.size]? = some (.cells #[.int .i64 0, .int .i64 0, .int .i64 0, .int .i64 0, .slice none 0 0] 45 (0,0)):=heap_alloc_new w _
 have HA4:=hide hA4
 have HP:=hide (hp.below HB0.out);have HO:=hide (ho.below HB0.out)
 have HV:=hide (OutcomeValid_any v v' p os _ HP.out HO.out hl hpl)
 have HS:=hide (fun w' h1 h2 h3=>said_any v v' p os w' h1 h2 hl hpl h3)
 have HLEN:=hide (saidL_length p os)
 have HEQ:Hid (outC p os=if outValid p os=true∧saidL p os≠[]∧validC (andL (saidL p os))=true then (andL (saidL p os),true) else (zC,false)):=hide rfl
 have HOV:Hid (outValid p os=true→os.length=3 * p.length+3∧p.length≤3):=hide (fun h=>by
  unfold outValid at h
  simp only [Bool.and_eq_true,decide_eq_true_eq] at h
  exact ⟨h.2.1,(valid_le h.1).1⟩)
 have HNS:=hide (fun u (h:u∈saidL p os)=>mem_said h)
 clear hp ho hA4
 generalize outC p os=R at *
 generalize hb:outValid p os=b at *
 clear hb
 generalize saidL p os=L at *
 refine (callsIn_wide (n:=9)).1 ?_
 refine callsIn_of_wp_marks Tryz.func25 rfl trivial ?_ rfl
 simp only [Tryz.ntmps25,List.size_toArray,List.length_cons,List.length_nil,Nat.reduceAdd,Nat.reduceSub,Array.replicate_succ,Array.replicate_zero,List.push_toArray,List.append_toArray,List.nil_append,List.cons_append]
 cases b
 ·obtain rfl:R=(zC,false):=by rw [HEQ.out,if_neg (by simp)]
  gi_wp2_with (refine ⟨trivial, ?_⟩;gi_at_call 71;(with_reducible refine (callsIn_wide.2 HV.out).mono ?_);rintro e w1 ⟨rfl,hb1⟩;have hbl:=(hb1.block w.heap.size (by simp)).trans HA4.out;have e0:=cell_of_heapO hbl (k:=0) rfl;have e1:=cell_of_heapO hbl (k:=1) rfl;have e2:=cell_of_heapO hbl (k:=2) rfl;have e3:=cell_of_heapO hbl (k:=3) rfl;have e4:=cell_of_heapO hbl (k:=4) rfl;have hll:=lt_of_cell e0;have ef:=frozen_of_heapO hbl)
  refine ⟨.tuple #[.agg #[.int .i64 0, .int .i64 0, .int .i64 0, .int .i64 0, .slice none 0 0], .bool false],by simp [results,Tryz.results25,go_sem,e0,e1,e2,e3,e4], ?_⟩
  exact RetCB.no ((((((HB0.out.trans (hb1.mono HB0.out.size)).setCell (Nat.le_refl _) _).setCell (Nat.le_refl _) _).setCell (Nat.le_refl _) _).setCell (Nat.le_refl _) _).setCell (Nat.le_refl _) _)
 ·obtain ⟨hol,hp3⟩:=HOV.out rfl
  have HOL:=hide hol
  clear hol HOV
  have hLc:L=[]∨∃ xs z,L=xs++[z]:=by
   rcases List.eq_nil_or_concat L with h | ⟨xs,z,h⟩
   ·exact .inl h
   ·exact .inr ⟨xs,z,by rw [h,List.concat_eq_append]⟩
  rcases hLc with rfl | ⟨xs,z,rfl⟩
  ·obtain rfl:R=(zC,false):=by rw [HEQ.out,if_neg (by simp)]
   gi_wp2_with (first
    | (refine ⟨trivial, ?_⟩;gi_at_call 71;(with_reducible refine (callsIn_wide.2 HV.out).mono ?_);rintro e w1 ⟨rfl,hb1⟩;have HP1:=hide (HP.out.below hb1);have HO1:=hide (HO.out.below hb1))
    | (refine ⟨trivial, ?_⟩;gi_at_call 72;(with_reducible refine (callsIn_wide.2 (HS.out _ HP1.out HO1.out HOL.out)).mono ?_);rintro e w2 ⟨vl,rfl,o2,hb2⟩;obtain ⟨la,ln,lc,rfl,hln⟩:=o2.toSlO;obtain rfl:ln=0:=hln;have hbl:=(hb2.block w.heap.size (by have:=hb1.size;simp at this;omega)).trans ((hb1.block w.heap.size (by simp)).trans HA4.out);have e0:=cell_of_heapO hbl (k:=0) rfl;have e1:=cell_of_heapO hbl (k:=1) rfl;have e2:=cell_of_heapO hbl (k:=2) rfl;have e3:=cell_of_heapO hbl (k:=3) rfl;have e4:=cell_of_heapO hbl (k:=4) rfl;have hll:=lt_of_cell e0;have ef:=frozen_of_heapO hbl))
   refine ⟨.tuple #[.agg #[.int .i64 0, .int .i64 0, .int .i64 0, .int .i64 0, .slice none 0 0], .bool false],by simp [results,Tryz.results25,go_sem,e0,e1,e2,e3,e4], ?_⟩
   have hb12:=HB0.out.trans ((hb1.trans (hb2.mono hb1.size)).mono HB0.out.size)
   exact RetCB.no (((((hb12.setCell (Nat.le_refl _) _).setCell (Nat.le_refl _) _).setCell (Nat.le_refl _) _).setCell (Nat.le_refl _) _).setCell (Nat.le_refl _) _)
  ·obtain ⟨n,hn⟩:∃ n,xs.length=n:=⟨_,rfl⟩
   have HN:=hide hn
   have HXS:=hide (csOf_all xs)
   have hn12:n≤11:=by have:=HLEN.out;rw [List.length_append] at this;simp at this;omega
   have hz0:z.s=⟨none,0,0⟩:=HNS.out z (by simp)
   have HEQ2:Hid (R=if validC (andB z xs.reverse)=true then (andB z xs.reverse,true) else (zC,false)):=hide (by
    rw [HEQ.out,← andB_eq]
    by_cases hv:validC (andB z xs.reverse)=true
    ·rw [if_pos hv,if_pos ⟨rfl,by simp,hv⟩]
    ·rw [if_neg hv,if_neg (fun h=>hv h.2.2)])
   have hne:(((n+1:Nat):Int)==0)=false:=by simp;omega
   have hw1:IntKind.i64.wrap (((n+1:Nat):Int) - 1)=(n:Int):=by rw [show ((n+1:Nat):Int) - 1=(n:Int) by omega,IntKind.wrap_i64];omega
   have hln':(n:Int) < ((n+1:Nat):Int):=by omega
   have hln2:(n:Int)≤((n+1:Nat):Int):=by omega
   obtain ⟨zo,zt,zp,zv,zs⟩:=z
   simp only at hz0
   subst hz0
   clear HEQ hn HLEN
   have hlen1:(xs++[(⟨zo,zt,zp,zv,⟨none,0,0⟩⟩:Cs)]).length=n+1:=by rw [List.length_append,HN.out];rfl
   have HLN:=hide hlen1;clear hlen1
   gi_wp2
   refine ⟨trivial, ?_⟩;(with_reducible refine (callsIn_wide.2 HV.out).mono ?_);rintro e w1 ⟨rfl,hb1⟩
   have HP1:=hide (HP.out.below hb1);have HO1:=hide (HO.out.below hb1)
   have HBA:=hide hb1
   clear hb1
   gi_wp2
   refine ⟨trivial, ?_⟩;(with_reducible refine (callsIn_wide.2 (HS.out _ HP1.out HO1.out HOL.out)).mono ?_);rintro e w2 ⟨vl,rfl,o2,hb2⟩
   rcases o2.shape with ⟨-,h0⟩ | ⟨g,cap,rfl,hg1,hg2,hc1,hc2⟩
   ·exfalso;simp at h0
   ·rw [HLN.out] at o2 hc1 ⊢
    have HB2:=hide (HBA.out.trans (hb2.mono HBA.out.size))
    have hbl:=(HB2.out.block w.heap.size (by simp)).trans HA4.out
    have HBL:=hide hbl
    obtain ⟨l0,l1,l2,l3,l4⟩:=o2.lastC
    rw [HN.out] at l0 l1 l2 l3 l4
    have hgl:=lt_of_cell l0
    have hA4l:=(Array.getElem?_eq_some_iff.1 hbl).1
    obtain ⟨cur,hcur⟩:=own_typeO o2 (q:=g) rfl
    have HCUR:=hide hcur
    have HO2:=hide o2
    clear o2 hb2 hbl hcur
    gi_wp2_with (refine ⟨trivial, ?_⟩;gi_at_call 73;(with_reducible refine (callsIn_wide.2 (BackwardC_any _ _ _ _)).mono ?_);rintro e w' ⟨rfl,rfl⟩)
    have hB3:Below w2.heap.size w2 ((w2.alloc (.cells #[.int .i64 zo, .int .i64 zt, .int .i64 zp, .int .i64 zv, .slice none 0 0] 45)).alloc (.cells #[.slice (some ⟨g,0,none⟩) n cap] 43)):=((Below.refl _ _).alloc (Nat.le_refl _) _).alloc (by simp) _
    have ha7:((w2.alloc (.cells #[.int .i64 zo, .int .i64 zt, .int .i64 zp, .int .i64 zv, .slice none 0 0] 45)).alloc (.cells #[.slice (some ⟨g,0,none⟩) n cap] 43)).heap[w2.heap.size]? = some (.cells #[.int .i64 zo, .int .i64 zt, .int .i64 zp, .int .i64 zv, .slice none 0 0] 45 (0,0)):=by
     rw [heap_alloc_old _ _ (by simp)];exact heap_alloc_new w2 _
    have hbs:((w2.alloc (.cells #[.int .i64 zo, .int .i64 zt, .int .i64 zp, .int .i64 zv, .slice none 0 0] 45)).alloc (.cells #[.slice (some ⟨g,0,none⟩) n cap] 43)).heap[w2.heap.size+1]? = some (.cells #[.slice (some ⟨g,0,none⟩) n cap] 43 (0,0)):=by
     have:=heap_alloc_new (w2.alloc (.cells #[.int .i64 zo, .int .i64 zt, .int .i64 zp, .int .i64 zv, .slice none 0 0] 45)) (.cells #[.slice (some ⟨g,0,none⟩) n cap] 43)
     simpa using this
    have hsz3:((w2.alloc (.cells #[.int .i64 zo, .int .i64 zt, .int .i64 zp, .int .i64 zv, .slice none 0 0] 45)).alloc (.cells #[.slice (some ⟨g,0,none⟩) n cap] 43)).heap.size=w2.heap.size+2:=by simp
    generalize hW3:(w2.alloc (.cells #[.int .i64 zo, .int .i64 zt, .int .i64 zp, .int .i64 zv, .slice none 0 0] 45)).alloc (.cells #[.slice (some ⟨g,0,none⟩) n cap] 43)=W3 at *
    clear hW3
    have hbg3:=(hB3.block g hgl).trans HCUR.out
    have hA43:=(hB3.block w.heap.size hA4l).trans HBL.out
    have hrep:Rep CsE W3 (.slice (some ⟨g,0,none⟩) n cap) xs:=by
     have h:=(HO2.out.rep.front).below hB3
     rw [HN.out] at h;exact h
    have hW0:(w.alloc (.cells #[.int .i64 0, .int .i64 0, .int .i64 0, .int .i64 0, .slice none 0 0] 45)).heap.size=w.heap.size+1:=by simp
    have hB2s:=HB2.out.size
    have hR0:RndO (w.alloc (.cells #[.int .i64 0, .int .i64 0, .int .i64 0, .int .i64 0, .slice none 0 0] 45)) w.heap.size w2.heap.size (w2.heap.size+1) g (w2.heap.size+1) (.slice (some ⟨g,0,none⟩) n cap) (.cells cur 45 (0,0)) (andB ⟨zo,zt,zp,zv,⟨none,0,0⟩⟩ (csOf (xs:=xs) [])) W3:=
     ⟨⟨⟨none,0,0⟩,w2.heap.size+1,ha7, .nil,Nat.le_refl _,by omega⟩,hA43,hbs,hbg3,HB2.out.trans (hB3.mono hB2s)⟩
    have HST:=backC_stops (Pr:=fun u=>u∈xs) 8 (by omega) (w2.heap.size+1) g (.slice (some ⟨g,0,none⟩) n cap) xs.attach (by rw [List.length_attach,HN.out];omega) W3 (by omega) (cell_of_heapO hbs rfl) (by rw [List.attach_map_subtype_val];exact hrep) (fun q o e _=>by
     simp only [Value.slice.injEq,Option.some.injEq,Addr.mk.injEq] at e
     exact e.1.1.symm)
    have HR0:=hide hR0
    have hbgl:=(Array.getElem?_eq_some_iff.1 hbg3).1
    clear hR0 hrep hA43
    refine wpIn_rangeFunc_ownH rfl (by omega) (gf:=131) (lb:=#[.pointer (some ⟨w2.heap.size+1,0,none⟩)]) rfl trivial (enters_of Tryz.func131 (by kernel_rfl) rfl)
     HST Keep2.trans (keep2_b (by omega) hbgl) (Below.refl _ _) (fun _=>rfl)
     (fun pre W=>RndO (w.alloc (.cells #[.int .i64 0, .int .i64 0, .int .i64 0, .int .i64 0, .slice none 0 0] 45)) w.heap.size w2.heap.size (w2.heap.size+1) g (w2.heap.size+1) (.slice (some ⟨g,0,none⟩) n cap) (.cells cur 45 (0,0)) (andB ⟨zo,zt,zp,zv,⟨none,0,0⟩⟩ (csOf pre)) W)
     (fun _ _ _=>False)
     (rndO_own (fun pre=>andB ⟨zo,zt,zp,zv,⟨none,0,0⟩⟩ (csOf pre)) rfl (by omega))
     (fun _ _ _ _ _ hs _ _=>hs)
     HR0.out
     (fun x a' W => ∃ A9,W.heap[A9]? = some (.cells #[.int .i64 x.1.1.op, .int .i64 x.1.1.th, .int .i64 x.1.1.pl, .int .i64 x.1.1.val, .slice x.1.1.s.a x.1.1.s.n x.1.1.s.cap] 45 (0,0))∧a' = { tmps:=#[v,v',undef,undef, .pointer (some ⟨w.heap.size,0,none⟩), .bool false, .slice (some ⟨g,0,none⟩) (n+1) cap, .pointer (some ⟨w2.heap.size,0,none⟩),undef, .pointer (some ⟨A9,0,none⟩),v,v', .bool true, .bool false,undef,v,v', .slice (some ⟨g,0,none⟩) (n+1) cap, .slice (some ⟨g,0,none⟩) (n+1) cap, .int .i64 ((n:Int)+1), .bool false,undef, .slice (some ⟨g,0,none⟩) (n+1) cap, .slice (some ⟨g,0,none⟩) (n+1) cap, .int .i64 ((n:Int)+1), .int .i64 (n:Int), .pointer (some ⟨g,n * 5,none⟩), .agg #[.int .i64 zo, .int .i64 zt, .int .i64 zp, .int .i64 zv, .slice none 0 0], .slice (some ⟨g,0,none⟩) (n+1) cap, .slice (some ⟨g,0,none⟩) (n+1) cap, .int .i64 ((n:Int)+1), .int .i64 (n:Int), .slice (some ⟨g,0,none⟩) n cap, .func (.func 131) #[] #[.pointer (some ⟨w2.heap.size+1,0,none⟩)], .int .i64 (x.2:Int),Cs.v x.1.1,undef,undef,undef,undef,undef,undef,undef,undef,undef],defers:=[] })
     (fun x a' _ W W' row h hg hr=>by
      obtain ⟨A9,h1,h2⟩:=h
      exact ⟨A9,heap_keptO h1 hg (fun r e=>(hr r e).2),h2⟩)
     ?assign ?body ?done ?stop
    case assign =>
     rintro l pre ⟨⟨⟨uo,ut,up,uv,us⟩,hum⟩,ix⟩ W K hi hK
     gi_wp2
     refine hK _ _ ((KeepsOthers.alloc _ _).from _) ⟨heap_alloc_old _ _ ?_,heap_alloc_old _ _ ?_,by simp⟩ (hi.below ((Below.refl _ _).alloc (Nat.le_refl _) _)) ⟨W.heap.size,heap_alloc_new W _,rfl⟩
     ·exact (Array.getElem?_eq_some_iff.1 hi.bs).1
     ·exact (Array.getElem?_eq_some_iff.1 hi.bg).1
    case body =>
     rintro l pre ⟨⟨⟨uo,ut,up,uv,us⟩,hum⟩,ix⟩ a' W hl ⟨r0,hr0⟩ hi ⟨A9,h9,rfl⟩ hlt
     have hus:us=⟨none,0,0⟩:=HNS.out _ (List.mem_append_left _ hum)
     subst hus
     have hstep:andB ⟨zo,zt,zp,zv,⟨none,0,0⟩⟩ (csOf (pre++[(⟨⟨uo,ut,up,uv,⟨none,0,0⟩⟩,hum⟩,ix)]))=andF (andB ⟨zo,zt,zp,zv,⟨none,0,0⟩⟩ (csOf pre)) ⟨uo,ut,up,uv,⟨none,0,0⟩⟩:=by
      unfold csOf andB;rw [List.map_append,List.foldl_append];rfl
     obtain ⟨s,hh,k1,k2,k3,k4⟩:=hi.a7
     have HI:=hide hi;have HST':=hide hstep;have K1:=hide k1;have K2:=hide k2;have K3:=hide k3;have K4:=hide k4;have H9:=hide h9
     clear hi hstep k2 k3 k4
     generalize andB ⟨zo,zt,zp,zv,⟨none,0,0⟩⟩ (csOf pre)=c at *
     have n0:=cell_of_heapO h9 (k:=0) rfl;have n1:=cell_of_heapO h9 (k:=1) rfl;have n2:=cell_of_heapO h9 (k:=2) rfl;have n3:=cell_of_heapO h9 (k:=3) rfl;have n4:=cell_of_heapO h9 (k:=4) rfl
     have m0:=cell_of_heapO k1 (k:=0) rfl;have m1:=cell_of_heapO k1 (k:=1) rfl;have m2:=cell_of_heapO k1 (k:=2) rfl;have m3:=cell_of_heapO k1 (k:=3) rfl;have m4:=cell_of_heapO k1 (k:=4) rfl
     have mf:=frozen_of_heapO k1
     have n5:=lt_of_cell n0;have m5:=lt_of_cell m0
     clear h9 k1
     dsimp only
     gi_wp2
     have hst:=HI.out.step ⟨uo,ut,up,uv,⟨none,0,0⟩⟩ (by omega) (by omega) (by omega) (by omega) (by omega) K1.out K2.out K3.out K4.out
     rw [commO _ _ _ 0 _ m5,commO _ _ _ 1 _ (by simpa using m5),commO _ _ _ 2 _ (by simpa using m5),commO _ _ _ 3 _ (by simpa using m5),commO _ _ _ 4 _ (by simpa using m5)] at hst
     rw [← HST'.out] at hst
     refine bodyO (f:=fun pre=>andB ⟨zo,zt,zp,zv,⟨none,0,0⟩⟩ (csOf pre)) hst ?_ ?_ K1.out HI.out (by omega) (by omega)
     ·intro k o hk hne
      rw [heap_alloc_old _ _ (by simpa using (Array.getElem?_eq_some_iff.1 hk).1),st5_other _ _ k _ _ _ _ _ hne,hk]
     ·simp
    case done =>
     rintro D ys W hD rfl h hK
     rw [HXS.out] at h
     obtain ⟨s,hh,k1,k2,k3,k4⟩:=h.a7
     generalize andB ⟨zo,zt,zp,zv,⟨none,0,0⟩⟩ xs.reverse=c at *
     have HCV:=CondValid_raw c.op c.th c.pl c.val c.kids s.a s.n s.cap W (k2.rep.low (Nat.zero_le _))
     rw [Cd.eta] at HCV
     have HCV:=hide HCV
     have m0:=cell_of_heapO k1 (k:=0) rfl;have m1:=cell_of_heapO k1 (k:=1) rfl;have m2:=cell_of_heapO k1 (k:=2) rfl;have m3:=cell_of_heapO k1 (k:=3) rfl;have m4:=cell_of_heapO k1 (k:=4) rfl
     have m5:=lt_of_cell m0
     have HH:=hide h;have K1:=hide k1;have K2:=hide k2;have K3:=hide k3;have K4:=hide k4;have HK:=hide hK
     clear h k1 k2 k3 k4 hK
     generalize hvb:validC c=vb at *
     clear hvb
     have a40:=HH.out.a4
     have HA:=hide a40
     have hA4W:=(Array.getElem?_eq_some_iff.1 a40).1
     clear a40
     cases vb
     ·obtain rfl:R=(zC,false):=by rw [HEQ2.out,if_neg (by simp)]
      gi_wp2_with (refine ⟨trivial, ?_⟩;gi_at_call 31;(with_reducible refine (callsIn_wide.2 HCV.out).mono ?_);rintro e w8 ⟨rfl,hb8⟩;have hbl:=(hb8.block w.heap.size hA4W).trans HA.out;have e0:=cell_of_heapO hbl (k:=0) rfl;have e1:=cell_of_heapO hbl (k:=1) rfl;have e2:=cell_of_heapO hbl (k:=2) rfl;have e3:=cell_of_heapO hbl (k:=3) rfl;have e4:=cell_of_heapO hbl (k:=4) rfl;have hll:=lt_of_cell e0;have ef:=frozen_of_heapO hbl)
      have hK8:=(st5_other w8 w.heap.size D (.int .i64 0) (.int .i64 0) (.int .i64 0) (.int .i64 0) (.slice none 0 0) (by omega)).trans ((hb8.block D (Array.getElem?_eq_some_iff.1 HK.out).1).trans HK.out)
      refine ⟨by simp, .inl ⟨_,_,rfl,run_takeDeferred hK8, ?_⟩⟩
      have hq:=done_retO (D:=D) (st5_same w8 w.heap.size _ _ _ _ _ _ (.int .i64 0) (.int .i64 0) (.int .i64 0) (.int .i64 0) (.slice none 0 0) hbl) (by omega) (.deferred none)
      have q0:=cell_of_heapO hq (k:=0) rfl;have q1:=cell_of_heapO hq (k:=1) rfl;have q2:=cell_of_heapO hq (k:=2) rfl;have q3:=cell_of_heapO hq (k:=3) rfl;have q4:=cell_of_heapO hq (k:=4) rfl
      have hb9:=st5_below w.heap.size (.int .i64 0) (.int .i64 0) (.int .i64 0) (.int .i64 0) (.slice none 0 0) (HB0.out.trans ((HH.out.bel.trans (hb8.mono HH.out.bel.size)).mono HB0.out.size)) (Nat.le_refl _)
      refine ⟨.tuple #[.agg #[.int .i64 0, .int .i64 0, .int .i64 0, .int .i64 0, .slice none 0 0], .bool false],by simp [results,Tryz.results25,go_sem,q0,q1,q2,q3,q4], ?_⟩
      exact RetCB.no (hb9.trans (belowK_b (w:=W3) (by omega) _ D _ _ hD hK8 rfl rfl))
     ·obtain rfl:R=(c,true):=by rw [HEQ2.out,if_pos rfl]
      gi_wp2_with (refine ⟨trivial, ?_⟩;gi_at_call 31;(with_reducible refine (callsIn_wide.2 HCV.out).mono ?_);rintro e w8 ⟨rfl,hb8⟩;have hbl:=(hb8.block w.heap.size hA4W).trans HA.out;have e0:=cell_of_heapO hbl (k:=0) rfl;have e1:=cell_of_heapO hbl (k:=1) rfl;have e2:=cell_of_heapO hbl (k:=2) rfl;have e3:=cell_of_heapO hbl (k:=3) rfl;have e4:=cell_of_heapO hbl (k:=4) rfl;have hll:=lt_of_cell e0;have ef:=frozen_of_heapO hbl;have hb7:=(hb8.block w2.heap.size m5).trans K1.out;have d0:=cell_of_heapO hb7 (k:=0) rfl;have d1:=cell_of_heapO hb7 (k:=1) rfl;have d2:=cell_of_heapO hb7 (k:=2) rfl;have d3:=cell_of_heapO hb7 (k:=3) rfl;have d4:=cell_of_heapO hb7 (k:=4) rfl;have dl:=lt_of_cell d0)
      have hK8:=(st5_other w8 w.heap.size D (.int .i64 c.op) (.int .i64 c.th) (.int .i64 c.pl) (.int .i64 c.val) (.slice s.a s.n s.cap) (by omega)).trans ((hb8.block D (Array.getElem?_eq_some_iff.1 HK.out).1).trans HK.out)
      refine ⟨by simp, .inl ⟨_,_,rfl,run_takeDeferred hK8, ?_⟩⟩
      have hq:=done_retO (D:=D) (st5_same w8 w.heap.size _ _ _ _ _ _ (.int .i64 c.op) (.int .i64 c.th) (.int .i64 c.pl) (.int .i64 c.val) (.slice s.a s.n s.cap) hbl) (by omega) (.deferred none)
      have q0:=cell_of_heapO hq (k:=0) rfl;have q1:=cell_of_heapO hq (k:=1) rfl;have q2:=cell_of_heapO hq (k:=2) rfl;have q3:=cell_of_heapO hq (k:=3) rfl;have q4:=cell_of_heapO hq (k:=4) rfl
      have hb9:=st5_below w.heap.size (.int .i64 c.op) (.int .i64 c.th) (.int .i64 c.pl) (.int .i64 c.val) (.slice s.a s.n s.cap) (HB0.out.trans ((HH.out.bel.trans (hb8.mono HH.out.bel.size)).mono HB0.out.size)) (Nat.le_refl _)
      have ho9:=((K2.out.keepB hb8).keep (fun q h1 _ _=>st5_other w8 w.heap.size q (.int .i64 c.op) (.int .i64 c.th) (.int .i64 c.pl) (.int .i64 c.val) (.slice s.a s.n s.cap) (by omega))).keepCells (fun q cu _ hqc=>(heap_keptO hqc (grownBy_putObj' _ D (.deferred none)) (fun r e=>by cases e;exact ⟨_,hK8,rfl⟩)).trans hqc.symm)
      refine ⟨.tuple #[.agg #[.int .i64 c.op, .int .i64 c.th, .int .i64 c.pl, .int .i64 c.val, .slice s.a s.n s.cap], .bool true],by simp [results,Tryz.results25,go_sem,q0,q1,q2,q3,q4], ?_⟩
      exact ⟨c.op,c.th,c.pl,c.val,c.kids,s,(Cd.eta c).symm,rfl,ho9.wide (by omega) (by have:=hb8.size;have:=K4.out;simp;omega),hb9.trans (belowK_b (w:=W3) (by omega) _ D _ _ hD hK8 rfl rfl)⟩
    case stop =>
     rintro D c pre W _ _ h _
     exact h.elim
end Go.Proofs.YtlddmagfbcomgaaGreat
namespace Go.Proofs.YtlddmagfbcomgaaGreat
open Go.RowKit
theorem writes_cnt (p:List (List Ins)) (l:Int):writesP p l=decide (0 < cnt (fRW true l) p):=by
 unfold writesP cnt
 rw [Bool.eq_iff_iff,decide_eq_true_eq,List.countP_pos_iff,List.any_eq_true]
 constructor
 ·rintro ⟨r,hr,h⟩
  obtain ⟨x,hx,h2⟩:=List.any_eq_true.1 h
  simp only [Bool.and_eq_true,beq_iff_eq] at h2
  exact ⟨x,List.mem_flatten.2 ⟨r,hr,hx⟩,by simp [fRW,h2.1,h2.2]⟩
 ·rintro ⟨x,hx,h⟩
  obtain ⟨r,hr,hxr⟩:=List.mem_flatten.1 hx
  simp [fRW] at h
  exact ⟨r,hr,List.any_eq_true.2 ⟨x,hxr,by simp [h.1,h.2]⟩⟩
theorem cell_of_heapP {w:World} {b k:Nat} {cur:Array Value} {t:TypeId} {v:Value} (h:w.heap[b]? = some (.cells cur t (0,0))) (hk:cur[k]? = some v):w.cell? ⟨b,k,none⟩=some v:=by
 simp [World.cell?,h,hk]
theorem frozen_of_heapP {w:World} {b:Nat} {cur:Array Value} {t:TypeId} (h:w.heap[b]? = some (.cells cur t (0,0))) (j:Nat):w.frozen? ⟨b,j,none⟩=false:=by
 simp [World.frozen?,h]
def RetC1 (w:World) (c:Cd) (e:Ending) (w':World):Prop:=
 ∃ (o t q x:Int) (ks:List Cd) (s:Slc),c = .mk o t q x ks∧e = .returned (.agg #[.int .i64 o, .int .i64 t, .int .i64 q, .int .i64 x, .slice s.a s.n s.cap])∧OwnC 45 w' w.heap.size w'.heap.size s ks∧Below w.heap.size w w'
theorem Rep.cs {w:World} {a:Option Addr} {n c:Nat} {xs:List Cs} (h:Rep CsE w (.slice a n c) xs) {k:Nat} {x:Cs} (hx:xs[k]? = some x) :
 ∃ b o,a=some ⟨b,o,none⟩∧b < w.heap.size∧w.cell? ⟨b,o+k * 5,none⟩=some (.int .i64 x.op)∧w.cell? ⟨b,o+k * 5+1,none⟩=some (.int .i64 x.th) ∧
  w.cell? ⟨b,o+k * 5+2,none⟩=some (.int .i64 x.pl)∧w.cell? ⟨b,o+k * 5+3,none⟩=some (.int .i64 x.val)∧w.cell? ⟨b,o+k * 5+4,none⟩=some (.slice x.s.a x.s.n x.s.cap):=by
 obtain ⟨a',c',hv,_,_,h⟩:=h
 simp only [Value.slice.injEq] at hv
 obtain ⟨rfl,_,_⟩:=hv
 obtain ⟨b,o,rfl,h'⟩:=h k x hx
 exact ⟨b,o,rfl,lt_of_cell (h' 0 _ rfl),h' 0 _ rfl,h' 1 _ rfl,h' 2 _ rfl,h' 3 _ rfl,h' 4 _ rfl⟩
theorem andL_last {xs:List Cs} {i:Nat} {x:Cs} (h:xs[i]? = some x) (hi:i+1=xs.length):andL (xs.drop i)=leafC x:=by
 obtain ⟨h1,h2⟩:=List.getElem?_eq_some_iff.1 h
 rw [List.drop_eq_getElem_cons h1,h2,List.drop_of_length_le (by omega)];rfl
theorem andL_more {xs:List Cs} {i:Nat} {x:Cs} (h:xs[i]? = some x) (hi:i+1 < xs.length):andL (xs.drop i) = .mk 3 0 0 0 [leafC x,andL (xs.drop (i+1))]:=by
 obtain ⟨h1,h2⟩:=List.getElem?_eq_some_iff.1 h
 rw [List.drop_eq_getElem_cons h1,h2,List.drop_eq_getElem_cons hi]
 rfl
theorem l11And_any (xs:List Cs) (hxs:∀ u∈xs,u.s=⟨none,0,0⟩) (hl:xs.length≤1048576):∀ (k i:Nat) (a:Option Addr) (c:Nat) (w:World),i+k+1=xs.length→Rep CsE w (.slice a xs.length c) xs →
 Calls Tryz.prog 79 #[.slice a xs.length c, .int .i64 i] w (RetC1 w (andL (xs.drop i))):=by
 intro k
 induction k with
 | zero =>
  intro i a c w hi hx
  obtain ⟨x,hxi⟩:=get_of_lt (xs:=xs) (k:=i) (by omega)
  obtain ⟨b,o,rfl,hbl,i0,i1,i2,i3,i4⟩:=hx.cs hxi
  have hs:=hxs x (List.mem_of_getElem? hxi)
  have HA:=hide (andL_last hxi (by omega))
  obtain ⟨xo,xt,xp,xv,xss⟩:=x
  simp only at hs i0 i1 i2 i3 i4
  subst hs
  obtain ⟨n,hn⟩:∃ n,xs.length=n:=⟨_,rfl⟩
  rw [hn] at hi ⊢
  have hb:=(Below.refl w.heap.size w).alloc (Nat.le_refl _) (.cells #[.int .i64 0, .int .i64 0, .int .i64 0, .int .i64 0, .slice none 0 0] 45)
  have he:((i:Int)==(n:Int) - 1)=true:=by simp;omega
  have hw1:wrap64 ((n:Int) - 1)=(n:Int) - 1:=by rw [hn] at hl;unfold wrap64;omega
  have hlt:(i:Int) < (n:Int):=by omega
  clear hxi hx hxs hl hn
  go_enter Tryz.func79,Tryz.ntmps79
  go_wp2_with fail
  refine bodyPost_ret (v:=.agg #[.int .i64 xo, .int .i64 xt, .int .i64 xp, .int .i64 xv, .slice none 0 0]) (by simp [results,Tryz.results79,go_sem]) rfl ⟨xo,xt,xp,xv,[],⟨none,0,0⟩,HA.out,rfl, .nil, ?_⟩
  exact (Below.refl w.heap.size w).alloc (Nat.le_refl _) _
 | succ k ih =>
  intro i a c w hi hx
  obtain ⟨x,hxi⟩:=get_of_lt (xs:=xs) (k:=i) (by omega)
  obtain ⟨b,o,rfl,hbl,i0,i1,i2,i3,i4⟩:=hx.cs hxi
  have hs:=hxs x (List.mem_of_getElem? hxi)
  have HA:=hide (andL_more hxi (by omega))
  have HI:=hide (fun w' h=>ih (i+1) (some ⟨b,o,none⟩) c w' (by omega) h)
  obtain ⟨xo,xt,xp,xv,xss⟩:=x
  simp only at hs i0 i1 i2 i3 i4
  subst hs
  have HX:=hide hx
  obtain ⟨n,hn⟩:∃ n,xs.length=n:=⟨_,rfl⟩
  rw [hn] at hi HI HX ⊢
  have hb:=(Below.refl w.heap.size w).alloc (Nat.le_refl _) (.cells #[.int .i64 0, .int .i64 0, .int .i64 0, .int .i64 0, .slice none 0 0] 45)
  have HB:=hide hb
  have he:((i:Int)==(n:Int) - 1)=false:=by simp;omega
  have hw1:wrap64 ((n:Int) - 1)=(n:Int) - 1:=by rw [hn] at hl;unfold wrap64;omega
  have hw2:IntKind.i64.wrap ((i:Int)+1)=((i+1:Nat):Int):=by rw [hn] at hl;rw [IntKind.wrap_i64];omega
  have hlt:(i:Int) < (n:Int):=by omega
  clear hxi hx hxs hl hn hb ih
  generalize andL (xs.drop (i+1))=c2 at *
  generalize andL (xs.drop i)=c1 at *
  obtain ⟨i',hi'⟩:∃ i',i+1=i':=⟨_,rfl⟩
  rw [hi'] at HI hw2
  clear hi'
  go_enter Tryz.func79,Tryz.ntmps79
  go_wp2_with fail
  have j0:=(HB.out.cell (p:=⟨b,o+i * 5,none⟩) hbl).trans i0;have j1:=(HB.out.cell (p:=⟨b,o+i * 5+1,none⟩) hbl).trans i1;have j2:=(HB.out.cell (p:=⟨b,o+i * 5+2,none⟩) hbl).trans i2;have j3:=(HB.out.cell (p:=⟨b,o+i * 5+3,none⟩) hbl).trans i3;have j4:=(HB.out.cell (p:=⟨b,o+i * 5+4,none⟩) hbl).trans i4
  have hbl0:=Nat.lt_of_lt_of_le hbl HB.out.size
  have hz:=heap_alloc_new w (.cells #[.int .i64 0, .int .i64 0, .int .i64 0, .int .i64 0, .slice none 0 0] 45)
  have HZ:=hide hz
  have HXd:=hide ((HX.out.below HB.out).below (Below.refl _ _).drew)
  have hlw:=(Array.getElem?_eq_some_iff.1 hz).1
  clear hz i0 i1 i2 i3 i4
  have hsz0:(w.alloc (.cells #[.int .i64 0, .int .i64 0, .int .i64 0, .int .i64 0, .slice none 0 0] 45)).heap.size=w.heap.size+1:=by simp
  generalize w.alloc (.cells #[.int .i64 0, .int .i64 0, .int .i64 0, .int .i64 0, .slice none 0 0] 45)=W0 at *
  go_region_law
   (first
    | (go_simp;go_at_call 79;(with_reducible refine (HI.out _ HXd.out).mono ?_);rintro e u1 ⟨ro,rt,rp,rv,rks,rs,rfl,rfl,own5,hb5⟩;have OW:=hide own5;have HB5:=hide hb5;have j0:=(hb5.cell (p:=⟨b,o+i * 5,none⟩) hbl0).trans j0;have j1:=(hb5.cell (p:=⟨b,o+i * 5+1,none⟩) hbl0).trans j1;have j2:=(hb5.cell (p:=⟨b,o+i * 5+2,none⟩) hbl0).trans j2;have j3:=(hb5.cell (p:=⟨b,o+i * 5+3,none⟩) hbl0).trans j3;have j4:=(hb5.cell (p:=⟨b,o+i * 5+4,none⟩) hbl0).trans j4;have hblu:=Nat.lt_of_lt_of_le hbl0 hb5.size;have hbz:=(hb5.block w.heap.size hlw).trans HZ.out;have e0:=cell_of_heapP hbz (k:=0) rfl;have e1:=cell_of_heapP hbz (k:=1) rfl;have e2:=cell_of_heapP hbz (k:=2) rfl;have e3:=cell_of_heapP hbz (k:=3) rfl;have e4:=cell_of_heapP hbz (k:=4) rfl;have hll:=lt_of_cell e0;have ef:=frozen_of_heapP hbz;have HBZ:=hide hbz;clear own5 hb5 hbz))
  all_goals
   go_wp2_with fail
   have hgg:=st5_same u1 w.heap.size _ _ _ _ _ _ (.int .i64 3) (.int .i64 0) (.int .i64 0) (.int .i64 0) (.slice (some ⟨u1.heap.size,0,none⟩) 2 2) HBZ.out
   have hq:=(heap_alloc_old _ (.cells #[.int .i64 xo, .int .i64 xt, .int .i64 xp, .int .i64 xv, .slice none 0 0, .int .i64 ro, .int .i64 rt, .int .i64 rp, .int .i64 rv, .slice rs.a rs.n rs.cap] 45) (Array.getElem?_eq_some_iff.1 hgg).1).trans hgg
   have q0:=cell_of_heapO hq (k:=0) rfl;have q1:=cell_of_heapO hq (k:=1) rfl;have q2:=cell_of_heapO hq (k:=2) rfl;have q3:=cell_of_heapO hq (k:=3) rfl;have q4:=cell_of_heapO hq (k:=4) rfl
   have hsz5:=st5_size u1 w.heap.size (.int .i64 3) (.int .i64 0) (.int .i64 0) (.int .i64 0) (.slice (some ⟨u1.heap.size,0,none⟩) 2 2)
   have hBu:=HB5.out.size
   have ho5:=OW.out.keep (fun q h1 _ _=>st5_other u1 w.heap.size q (.int .i64 3) (.int .i64 0) (.int .i64 0) (.int .i64 0) (.slice (some ⟨u1.heap.size,0,none⟩) 2 2) (by simp at h1;omega))
   have ht:=OwnC.two (.nil (lo:=W0.drew.heap.size)) ho5 (Nat.le_refl _) hBu (Nat.le_of_eq hsz5.symm) xo xt xp xv ro rt rp rv
   have hb9:=(st5_below w.heap.size (.int .i64 3) (.int .i64 0) (.int .i64 0) (.int .i64 0) (.slice (some ⟨u1.heap.size,0,none⟩) 2 2) (HB.out.drew.trans (HB5.out.mono HB.out.drew.size)) (by omega)).alloc (by rw [hsz5];have:=HB.out.size;simp at hBu;omega) (.cells #[.int .i64 xo, .int .i64 xt, .int .i64 xp, .int .i64 xv, .slice none 0 0, .int .i64 ro, .int .i64 rt, .int .i64 rp, .int .i64 rv, .slice rs.a rs.n rs.cap] 45)
   rw [hsz5] at ht
   refine bodyPost_ret (v:=.agg #[.int .i64 3, .int .i64 0, .int .i64 0, .int .i64 0, .slice (some ⟨u1.heap.size,0,none⟩) 2 2]) (by simp [results,Tryz.results79,go_sem,q0,q1,q2,q3,q4]) rfl ⟨3,0,0,0,_,⟨some ⟨u1.heap.size,0,none⟩,2,2⟩,HA.out,rfl,ht.wide (by have:=HB.out.size;simp;omega) (by simp), ?_⟩
   exact hb9
end Go.Proofs.YtlddmagfbcomgaaGreat
namespace Go.Proofs.YtlddmagfbcomgaaGreat
open Go.RowKit
theorem descs_andL:∀ (xs:List Cs),descs (andL xs).kids≤2 * xs.length:=by
 intro xs
 induction xs with
 | nil=>simp [andL,zC,Cd.kids,descs]
 | cons x xs ih =>
  cases xs with
  | nil=>simp [andL,leafC,Cd.kids,descs]
  | cons y ys =>
   rw [andL_two]
   generalize andL (y :: ys)=c at *
   have e:∀ a b:Cd,descs [a,b]=(descs a.kids+1)+(descs b.kids+1):=fun a b=>by rw [← Cd.desc_eq,← Cd.desc_eq];simp [descs]
   show descs [leafC x,c]≤_
   rw [e]
   have e2:descs (leafC x).kids=0:=by simp [leafC,Cd.kids,descs]
   simp only [List.length_cons] at ih ⊢
   omega
theorem sOutcomeCond_any (v v':Value) (p:List (List Ins)) (os:List Int) (w:World) (hp:RepP w v p) (ho:Rep IntE w v' os) (hl:p.flatten.length≤1048576) (hpl:p.length≤1048576) :
 Calls Tryz.prog 26 #[v,v'] w (RetCB w (outC p os)):=by
 have HB0:=hide ((Below.refl w.heap.size w).alloc (Nat.le_refl _) (.cells #[.int .i64 0, .int .i64 0, .int .i64 0, .int .i64 0, .slice none 0 0] 45))
 have hA4:(w.alloc (.cells #[.int .i64 0, .int .i64 0, .int .i64 0, .int .i64 0, .slice none 0 0] 45)).heap[w.heap.size]? = some (.cells #[.int .i64 0, .int .i64 0, .int .i64 0, .int .i64 0, .slice none 0 0] 45 (0,0)):=heap_alloc_new w _
 have HA4:=hide hA4
 have HP:=hide (hp.below HB0.out);have HO:=hide (ho.below HB0.out)
 have HV:=hide (sOutcomeValid_any v v' p os _ HP.out HO.out hl hpl)
 have HRD:=hide (fun v xs r w' h=>l11Read_any v xs r w' h)
 have HL1:=hide (fun (k:Nat) w' h=>(l1Count_any v p (k:Int) true w' h hl hpl))
 have HWC:=hide (writes_cnt p)
 have HEQ:Hid (outC p os=if outValid p os=true∧saidL p os≠[]∧validC (andL (saidL p os))=true then (andL (saidL p os),true) else (zC,false)):=hide rfl
 have PP:Hid (saidL p os=sayTo p os p.length++sayM p os 3):=hide rfl
 have HTS:=hide (fun j r h=>sayTo_succ (p:=p) os (j:=j) (r:=r) h)
 have HMS:=hide (fun k x h=>sayM_succ p (o:=os) k (x:=x) h)
 have HTL:=hide (sayTo_length p os)
 have HML:=hide (sayM_length p os)
 have H0:Hid (sayTo p os 0=[]):=hide (by simp [sayTo])
 have HM0:Hid (sayM p os 0=[]):=hide (by simp [sayM])
 have HGET:=hide (fun k (h:k < os.length)=>get_of_lt (xs:=os) (k:=k) h)
 have HOV:Hid (outValid p os=true→os.length=3 * p.length+3∧p.length≤3):=hide (fun h=>by
  unfold outValid at h
  simp only [Bool.and_eq_true,decide_eq_true_eq] at h
  exact ⟨h.2.1,(valid_le h.1).1⟩)
 have HNS:=hide (fun u (h:u∈saidL p os)=>mem_said h)
 have HDS:=hide (descs_andL (saidL p os))
 have HSL:=hide (saidL_length p os)
 obtain ⟨a,c,rfl,hc1,hc2,hc3,hp⟩:=hp.open
 obtain ⟨oa,oc,rfl, -, -, -,ho⟩:=ho.open
 clear hp ho hA4
 generalize outC p os=R at *
 generalize hb:outValid p os=b at *
 clear hb
 generalize hn:p.length=n at *
 have H:=hide hn;clear hn
 generalize os.length=m at *
 go_enter Tryz.func26,Tryz.ntmps26
 cases b
 ·obtain rfl:R=(zC,false):=by rw [HEQ.out,if_neg (by simp)]
  go_wp2_with (go_at_call 74;(with_reducible refine HV.out.mono ?_);rintro e w1 ⟨rfl,hb1⟩;have hbl:=(hb1.block w.heap.size (by simp)).trans HA4.out;have e0:=cell_of_heapP hbl (k:=0) rfl;have e1:=cell_of_heapP hbl (k:=1) rfl;have e2:=cell_of_heapP hbl (k:=2) rfl;have e3:=cell_of_heapP hbl (k:=3) rfl;have e4:=cell_of_heapP hbl (k:=4) rfl;have hll:=lt_of_cell e0;have ef:=frozen_of_heapP hbl)
  refine bodyPost_ret (v:=.tuple #[.agg #[.int .i64 0, .int .i64 0, .int .i64 0, .int .i64 0, .slice none 0 0], .bool false]) (by simp [results,Tryz.results26,go_sem,e0,e1,e2,e3,e4]) rfl ?_
  exact RetCB.no ((((((HB0.out.trans (hb1.mono HB0.out.size)).setCell (Nat.le_refl _) _).setCell (Nat.le_refl _) _).setCell (Nat.le_refl _) _).setCell (Nat.le_refl _) _).setCell (Nat.le_refl _) _)
 ·obtain ⟨hol,hp3⟩:=HOV.out rfl
  have HOL:=hide hol
  clear hol HOV
  go_wp2_with fail
  (with_reducible refine HV.out.mono ?_);rintro e w1 ⟨rfl,hb1⟩
  have HA1:=hide ((hb1.block w.heap.size (by simp)).trans HA4.out)
  have HB1:=hide (HB0.out.trans (hb1.mono HB0.out.size))
  have HP1:=hide (HP.out.below hb1);have HO1:=hide (HO.out.below hb1)
  clear hb1 HV HA4 HP HO HB0
  go_wp2_with fail
  go_loopw [6,7] (fun s i wr => ∃ j:Nat,j≤n∧i = .int .i64 j∧Own CsE 45 wr w1.heap.size s (sayTo p os j)∧Below w1.heap.size w1 wr) (fun _ i _=>n - (intOf i).toNat)
  case atStart=>exact ⟨0,Nat.zero_le _,rfl,by rw [H0.out];exact Own.empty (E:=CsE) _ w1 (Nat.le_refl _),(Below.refl _ _).alloc (Nat.le_refl _) _⟩
  case round =>
   obtain ⟨j,hj,rfl,hown,hb2⟩:=hrel
   by_cases hlt:j < n
   ·obtain ⟨x,hxk⟩:=get_of_lt (xs:=p) (k:=j) (by rw [H.out];exact hlt)
    obtain ⟨b,o,ra,rc,rfl,hbl0,i00,i1⟩:=HP1.out.row hxk
    have hlt2':=nat_of_lt hlt
    have GS:=hide (HTS.out j x hxk)
    have hgl:=HTL.out j
    have HRS:=hide (fun k y h=>sayR_succ j x (o:=os) k (x:=y) h)
    have HRL:=hide (sayR_length j x os)
    have HR0:Hid (sayR j x os 0=[]):=hide (by simp [sayR])
    have I1:=hide i1;have I00:=hide i00;have HBL0:=hide hbl0
    clear hxk i1 i00
    generalize hG:sayTo p os j=G at *
    clear hG
    have HOW:=hide hown;clear hown
    go_wp2_with fail
    go_loopw [6,8] (fun s i wr => ∃ k:Nat,k≤3∧i = .int .i64 k∧Own CsE 45 wr w1.heap.size s (G++sayR j x os k)∧Below w1.heap.size w1 wr) (fun _ i _=>3 - (intOf i).toNat)
    case atStart=>exact ⟨0,by omega,rfl,by rw [HR0.out,List.append_nil];exact HOW.out,hb2⟩
    case round =>
     obtain ⟨k,hk,rfl,hown,hb3⟩:=hrel
     have i0:=(hb3.cell (p:=⟨b,o+j,none⟩) hbl0).trans I00.out
     have hbl:b < wr.heap.size:=by have:=hb3.size;omega
     by_cases hlt3:k < 3
     ·have hlt3':(k:Int)≤2:=by omega
      have HRR:=hide (HRD.out _ x k wr (I1.out.below hb3))
      obtain ⟨y,hy⟩:=HGET.out (3 * j+k) (by have:=HOL.out;omega)
      have RS:=hide (HRS.out k y hy)
      have hrl:=HRL.out k
      obtain ⟨d,e,rfl,hdw,q00⟩:=HO1.out.int hy
      have Q0:=hide ((hb3.cell (p:=⟨d,e+(3 * j+k),none⟩) hdw).trans q00)
      have hd:d < wr.heap.size:=by have:=hb3.size;omega
      have HRG:=hide (fun w'=>l3Reg_any (j:Int) (k:Int) w' (by omega) (by omega) (by omega) (by omega))
      clear q00 hy
      generalize hRG:sayR j x os k=RG at *
      clear hRG
      cases hrr:readsR x k
      ·rw [hrr] at HRR
       have RS2:Hid (sayR j x os (k+1)=RG):=hide (by rw [RS.out,hrr];simp)
       clear hrr RS
       go_wp2_with fail
       (with_reducible refine HRR.out.mono ?_);rintro e w2 ⟨rfl,hb4⟩
       go_wp2_with fail
       go_roundw
       case rel=>exact ⟨k+1,by omega,by go_num,by rw [RS2.out];exact hown.below hb4,hb3.trans (hb4.mono hb3.size)⟩
       case measure=>simp [intOf];omega
      ·rw [hrr] at HRR
       have RS2:Hid (sayR j x os (k+1)=RG++[leafR j k y]):=hide (by rw [RS.out,hrr];rfl)
       clear hrr RS
       have hlen:(G++RG).length≤68719476736:=by rw [List.length_append];omega
       go_wp2_with fail
       (with_reducible refine HRR.out.mono ?_);rintro e w2 ⟨rfl,hb4⟩
       have q0:=(hb4.cell (p:=⟨d,e+(3 * j+k),none⟩) hd).trans Q0.out
       have hd2:d < w2.heap.size:=Nat.lt_of_lt_of_le hd hb4.size
       have HB4:=hide (hb3.trans (hb4.mono hb3.size))
       have HO4:=hide (hown.below hb4)
       have hqm:((3 * j+k:Nat):Int) < (m:Int):=by have:=HOL.out;omega
       have HV2:Hid ((3 * (j:Int)+(k:Int))=((3 * j+k:Nat):Int)):=hide (by omega)
       clear hb4 hown
       rw [HV2.out] at HRG
       generalize 3 * j+k=q at *
       go_wp2_with (first | (go_at_call 76;(with_reducible refine (HRG.out _).mono ?_);rintro e w3 ⟨rfl,rfl⟩) | (at_builtin;refine wpList_app CsE 45 Tryz.infoCond rfl Tryz.underlying43 w1.heap.size _ _ (leafR j k y) (HO4.out.alloc _) (by decide) hlen (by have:=HB4.out.size;simp;omega) rfl _ _ rfl rfl w2.heap.size 0 1 rfl news_alloc ?_;intro v' w6 hown6 hgr6))
       have hb8:=below_app HB4.out HO4.out hgr6
       go_roundw
       case rel =>
        have hown7:Own CsE 45 w6 w1.heap.size v' (G++sayR j x os (k+1)):=by rw [RS2.out];simpa [List.append_assoc] using hown6
        exact ⟨k+1,by omega,by go_num,hown7,hb8⟩
       case measure=>simp [intOf];omega
     ·obtain rfl:k=3:=by omega
      go_wp2_with fail
      go_roundw
      case rel=>exact ⟨j+1,by omega,by go_num,by rw [GS.out];exact hown,hb3⟩
      case measure=>simp [intOf];omega
   ·obtain rfl:j=n:=by omega
    have hgl:=HTL.out j
    generalize hG:sayTo p os j=G at *
    clear hG
    have HOW:=hide hown;clear hown
    go_wp2_with fail
    go_loopw [6,9] (fun s i wr => ∃ k:Nat,k≤3∧i = .int .i64 k∧Own CsE 45 wr w1.heap.size s (G++sayM p os k)∧Below w1.heap.size w1 wr) (fun _ i _=>3 - (intOf i).toNat)
    case atStart=>exact ⟨0,by omega,rfl,by rw [HM0.out,List.append_nil];exact HOW.out,hb2⟩
    case round =>
     obtain ⟨k,hk,rfl,hown,hb3⟩:=hrel
     by_cases hlt3:k < 3
     ·have hlt3':(k:Int)≤2:=by omega
      have HRR:=hide (HL1.out k wr (HP1.out.below hb3))
      obtain ⟨y,hy⟩:=HGET.out (3 * j+k) (by have:=HOL.out;omega)
      have RS:=hide (HMS.out k y hy)
      have hrl:=HML.out k
      obtain ⟨d,e,rfl,hdw,q00⟩:=HO1.out.int hy
      have Q0:=hide ((hb3.cell (p:=⟨d,e+(3 * j+k),none⟩) hdw).trans q00)
      have hd:d < wr.heap.size:=by have:=hb3.size;omega
      have HSZ:=hide (fun w'=>l3Size_any a j c w' (by omega))
      have hw:=HWC.out k
      clear q00 hy
      generalize hRG:sayM p os k=RG at *
      clear hRG
      generalize cnt (fRW true k) p=cn at *
      cases hrr:writesP p k
      ·rw [hrr] at hw
       have RS2:Hid (sayM p os (k+1)=RG):=hide (by rw [RS.out,hrr];simp)
       have hcn:decide (0 < cn)=false:=hw.symm
       clear hrr RS hw
       go_wp2_with fail
       (with_reducible refine HRR.out.mono ?_);rintro e w2 ⟨rfl,hb4⟩
       go_wp2_with fail
       go_roundw
       case rel=>exact ⟨k+1,by omega,by go_num,by rw [RS2.out];exact hown.below hb4,hb3.trans (hb4.mono hb3.size)⟩
       case measure=>simp [intOf];omega
      ·rw [hrr] at hw
       have RS2:Hid (sayM p os (k+1)=RG++[leafM k y]):=hide (by rw [RS.out,hrr];rfl)
       have hcn:decide (0 < cn)=true:=hw.symm
       clear hrr RS hw
       have hlen:(G++RG).length≤68719476736:=by rw [List.length_append];omega
       go_wp2_with fail
       (with_reducible refine HRR.out.mono ?_);rintro e w2 ⟨rfl,hb4⟩
       have q0:=(hb4.cell (p:=⟨d,e+(3 * j+k),none⟩) hd).trans Q0.out
       have hd2:d < w2.heap.size:=Nat.lt_of_lt_of_le hd hb4.size
       have HB4:=hide (hb3.trans (hb4.mono hb3.size))
       have HO4:=hide (hown.below hb4)
       have hqm:((3 * j+k:Nat):Int) < (m:Int):=by have:=HOL.out;omega
       have HV2:Hid (3 * (j:Int)+3 - 1 - 2+(k:Int)=((3 * j+k:Nat):Int)):=hide (by omega)
       clear hb4 hown
       generalize 3 * j+k=q at *
       have hv2:=HV2.out
       go_wp2_with (first | (go_at_call 78;(with_reducible refine (HSZ.out _).mono ?_);rintro e w3 ⟨rfl,rfl⟩) | (at_builtin;refine wpList_app CsE 45 Tryz.infoCond rfl Tryz.underlying43 w1.heap.size _ _ (leafM k y) (HO4.out.alloc _) (by decide) hlen (by have:=HB4.out.size;simp;omega) rfl _ _ rfl rfl w2.heap.size 0 1 rfl news_alloc ?_;intro v' w6 hown6 hgr6))
       have hb8:=below_app HB4.out HO4.out hgr6
       go_roundw
       case rel =>
        have hown7:Own CsE 45 w6 w1.heap.size v' (G++sayM p os (k+1)):=by rw [RS2.out];simpa [List.append_assoc] using hown6
        exact ⟨k+1,by omega,by go_num,hown7,hb8⟩
       case measure=>simp [intOf];omega
     ·obtain rfl:k=3:=by omega
      rw [← PP.out] at hown
      have hwl:=(Array.getElem?_eq_some_iff.1 HA1.out).1
      have HA3:=hide ((hb3.block w.heap.size hwl).trans HA1.out)
      have HB3:=hide (HB1.out.trans (hb3.mono HB1.out.size))
      have hw1r:=hb3.size
      clear hb3 hb2
      rcases hown.shape with ⟨rfl,hnil⟩ | ⟨g,cap,rfl,hg1,hg2,hc1',hc2'⟩
      ·obtain rfl:R=(zC,false):=by rw [HEQ.out,if_neg (fun h=>h.2.1 hnil)]
       have hbl:=HA3.out
       have e0:=cell_of_heapP hbl (k:=0) rfl;have e1:=cell_of_heapP hbl (k:=1) rfl;have e2:=cell_of_heapP hbl (k:=2) rfl;have e3:=cell_of_heapP hbl (k:=3) rfl;have e4:=cell_of_heapP hbl (k:=4) rfl;have hll:=lt_of_cell e0;have ef:=frozen_of_heapP hbl
       clear hbl hnil
       go_wp2_with fail
       refine bodyPost_ret (v:=.tuple #[.agg #[.int .i64 0, .int .i64 0, .int .i64 0, .int .i64 0, .slice none 0 0], .bool false]) (by simp [results,Tryz.results26,go_sem,e0,e1,e2,e3,e4]) rfl ?_
       exact RetCB.no (((((HB3.out.setCell (Nat.le_refl _) _).setCell (Nat.le_refl _) _).setCell (Nat.le_refl _) _).setCell (Nat.le_refl _) _).setCell (Nat.le_refl _) _)
      ·by_cases hS:saidL p os=[]
       ·obtain rfl:R=(zC,false):=by rw [HEQ.out,if_neg (fun h=>h.2.1 hS)]
        have hbl:=HA3.out
        have e0:=cell_of_heapP hbl (k:=0) rfl;have e1:=cell_of_heapP hbl (k:=1) rfl;have e2:=cell_of_heapP hbl (k:=2) rfl;have e3:=cell_of_heapP hbl (k:=3) rfl;have e4:=cell_of_heapP hbl (k:=4) rfl;have hll:=lt_of_cell e0;have ef:=frozen_of_heapP hbl
        rw [hS]
        clear hbl hS
        go_wp2_with fail
        refine bodyPost_ret (v:=.tuple #[.agg #[.int .i64 0, .int .i64 0, .int .i64 0, .int .i64 0, .slice none 0 0], .bool false]) (by simp [results,Tryz.results26,go_sem,e0,e1,e2,e3,e4]) rfl ?_
        exact RetCB.no (((((HB3.out.setCell (Nat.le_refl _) _).setCell (Nat.le_refl _) _).setCell (Nat.le_refl _) _).setCell (Nat.le_refl _) _).setCell (Nat.le_refl _) _)
       ·have hSl:0 < (saidL p os).length:=List.length_pos_iff.2 hS
        have hI:Calls Tryz.prog 79 #[.slice (some ⟨g,0,none⟩) (saidL p os).length cap, .int .i64 0] wr (RetC1 wr (andL (saidL p os))):=
         l11And_any (saidL p os) (fun u h=>HNS.out u h) (by have:=HSL.out;omega) ((saidL p os).length - 1) 0 (some ⟨g,0,none⟩) cap wr (by omega) hown.rep
        have HI:=hide hI
        have HEQ2:Hid (R=if validC (andL (saidL p os))=true then (andL (saidL p os),true) else (zC,false)):=hide (by
         rw [HEQ.out]
         by_cases hv:validC (andL (saidL p os))=true
         ·rw [if_pos hv,if_pos ⟨trivial,hS,hv⟩]
         ·rw [if_neg hv,if_neg (fun h=>hv h.2.2)])
        have hne:(((saidL p os).length:Int)==0)=false:=by simp;omega
        have hsl12:(saidL p os).length≤12:=by have:=HSL.out;omega
        clear hI hown HEQ hS PP HNS HSL
        generalize saidL p os=S at *
        generalize S.length=sl at *
        generalize andL S=AS at *
        go_wp2_with fail
        (with_reducible refine HI.out.mono ?_);rintro e w3 ⟨ro,rt,rq,rx,rks,rs,hce,rfl,own,hb5⟩
        have HCE:=hide hce
        have HB5:=hide (HB3.out.trans (hb5.mono HB3.out.size))
        have HA5:=hide ((hb5.block w.heap.size (Array.getElem?_eq_some_iff.1 HA3.out).1).trans HA3.out)
        have hbw:=(Below.refl w3.heap.size w3).alloc (Nat.le_refl _) (.cells #[.int .i64 ro, .int .i64 rt, .int .i64 rq, .int .i64 rx, .slice rs.a rs.n rs.cap] 45)
        have hdk:descs rks≤1048576:=by
         have h:=HDS.out
         rw [hce] at h
         simp only [Cd.kids] at h
         omega
        have HCV:=hide (CondValidS_raw ro rt rq rx rks rs.a rs.n rs.cap _ ((own.keepB hbw).rep.low (Nat.zero_le _)) hdk)
        rw [hce] at HEQ2
        have HOWN:=hide (own.keepB hbw)
        have HB6:=hide (HB5.out.trans (hbw.mono HB5.out.size))
        have HA6:=hide ((hbw.block w.heap.size (Array.getElem?_eq_some_iff.1 HA5.out).1).trans HA5.out)
        have HT:=hide (heap_alloc_new w3 (.cells #[.int .i64 ro, .int .i64 rt, .int .i64 rq, .int .i64 rx, .slice rs.a rs.n rs.cap] 45))
        clear own hb5 hbw hce
        generalize hvb:validC (.mk ro rt rq rx rks)=vb at *
        clear hvb
        cases vb
        ·obtain rfl:R=(zC,false):=by rw [HEQ2.out,if_neg (by simp)]
         go_wp2_with (go_at_call 80;(with_reducible refine HCV.out.mono ?_);rintro e w8 ⟨rfl,hb8⟩;have hbl:=(hb8.block w.heap.size (Array.getElem?_eq_some_iff.1 HA6.out).1).trans HA6.out;have e0:=cell_of_heapP hbl (k:=0) rfl;have e1:=cell_of_heapP hbl (k:=1) rfl;have e2:=cell_of_heapP hbl (k:=2) rfl;have e3:=cell_of_heapP hbl (k:=3) rfl;have e4:=cell_of_heapP hbl (k:=4) rfl;have hll:=lt_of_cell e0;have ef:=frozen_of_heapP hbl)
         refine bodyPost_ret (v:=.tuple #[.agg #[.int .i64 0, .int .i64 0, .int .i64 0, .int .i64 0, .slice none 0 0], .bool false]) (by simp [results,Tryz.results26,go_sem,e0,e1,e2,e3,e4]) rfl ?_
         exact RetCB.no ((((((HB6.out.trans (hb8.mono HB6.out.size)).setCell (Nat.le_refl _) _).setCell (Nat.le_refl _) _).setCell (Nat.le_refl _) _).setCell (Nat.le_refl _) _).setCell (Nat.le_refl _) _)
        ·obtain rfl:R=(.mk ro rt rq rx rks,true):=by rw [HEQ2.out,if_pos rfl]
         have hne2:w.heap.size≠w3.heap.size:=by have:=(Array.getElem?_eq_some_iff.1 HA5.out).1;omega
         have hlt3:w.heap.size < w3.heap.size:=by have:=(Array.getElem?_eq_some_iff.1 HA5.out).1;omega
         go_wp2_with (go_at_call 80;(with_reducible refine HCV.out.mono ?_);rintro e w8 ⟨rfl,hb8⟩;have hbl:=(hb8.block w.heap.size (Array.getElem?_eq_some_iff.1 HA6.out).1).trans HA6.out;have e0:=cell_of_heapP hbl (k:=0) rfl;have e1:=cell_of_heapP hbl (k:=1) rfl;have e2:=cell_of_heapP hbl (k:=2) rfl;have e3:=cell_of_heapP hbl (k:=3) rfl;have e4:=cell_of_heapP hbl (k:=4) rfl;have hll:=lt_of_cell e0;have ef:=frozen_of_heapP hbl;have hb7:=(hb8.block w3.heap.size (Array.getElem?_eq_some_iff.1 HT.out).1).trans HT.out;have d0:=cell_of_heapP hb7 (k:=0) rfl;have d1:=cell_of_heapP hb7 (k:=1) rfl;have d2:=cell_of_heapP hb7 (k:=2) rfl;have d3:=cell_of_heapP hb7 (k:=3) rfl;have d4:=cell_of_heapP hb7 (k:=4) rfl;have dl:=lt_of_cell d0)
         have hq:=st5_same w8 w.heap.size _ _ _ _ _ _ (.int .i64 ro) (.int .i64 rt) (.int .i64 rq) (.int .i64 rx) (.slice rs.a rs.n rs.cap) hbl
         have q0:=cell_of_heapP hq (k:=0) rfl;have q1:=cell_of_heapP hq (k:=1) rfl;have q2:=cell_of_heapP hq (k:=2) rfl;have q3:=cell_of_heapP hq (k:=3) rfl;have q4:=cell_of_heapP hq (k:=4) rfl
         refine bodyPost_ret (v:=.tuple #[.agg #[.int .i64 ro, .int .i64 rt, .int .i64 rq, .int .i64 rx, .slice rs.a rs.n rs.cap], .bool true]) (by simp [results,Tryz.results26,go_sem,q0,q1,q2,q3,q4]) rfl ⟨ro,rt,rq,rx,rks,rs,rfl,rfl, ?_, ?_⟩
         ·exact ((HOWN.out.keepB hb8).keep (fun q h1 _ _=>st5_other w8 w.heap.size q (.int .i64 ro) (.int .i64 rt) (.int .i64 rq) (.int .i64 rx) (.slice rs.a rs.n rs.cap) (by omega))).wide (by omega) (by have:=hb8.size;simp at this ⊢;omega)
         ·exact (((((HB6.out.trans (hb8.mono HB6.out.size)).setCell (Nat.le_refl _) _).setCell (Nat.le_refl _) _).setCell (Nat.le_refl _) _).setCell (Nat.le_refl _) _).setCell (Nat.le_refl _) _
end Go.Proofs.YtlddmagfbcomgaaGreat