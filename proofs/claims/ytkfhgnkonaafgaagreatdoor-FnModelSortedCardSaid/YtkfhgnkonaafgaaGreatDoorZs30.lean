/-
  All candidates as the program lays them: what its parts read as. No condition.
-/
import Derived.Test.YtkfhgnkonaafgaaGreatDoorZs12
import Derived.Test.YtkfhgnkonaafgaaGreatDoorZs27
import Derived.Test.YtkfhgnkonaafgaaGreatDoorZs07
set_option maxHeartbeats 6400000
set_option maxRecDepth 100000
namespace Go.Proofs.YtkfhgnkonaafgaaGreatDoor
open Go.RowKit
def PhiG {α:Type} (E:El α) (T:TypeId) (d:Dd) (W:World) (u:Slc) (x:List α):Prop:=Own E T W d.lo u.v x∧∀ q,u.v.ownBlock=some q→q < d.hi
abbrev RowsG {α:Type} (E:El α) (T TS:TypeId) (w:World) (base:Nat) (v:Value) (L:List (List α)):Prop:=OwnF SlcE TS Rafter (PhiG E T) w base v L
section
variable {α : Type} {E : El α} {T TS : TypeId}
theorem PhiG.loc (hT:T≠TS) {w:World} {lo:Nat} {u:Slc} {x:List α} (h:Own E T w lo u.v x):LocR TS lo w.heap.size w (fun W=>PhiG E T ⟨lo,w.heap.size,[]⟩ W u x):=
 (LocR.own hT h).map fun _ k=>⟨k,fun q hq=>(World.ownsRow.lt h q hq).2⟩
theorem RowsG.row {w:World} {base:Nat} {a:Option Addr} {n c:Nat} {L:List (List α)} (h:RowsG E T TS w base (.slice a n c) L) {k:Nat} {r:List α} (hr:L[k]? = some r) :
 ∃ (u:Slc) (g:Nat),a=some ⟨g,0,none⟩∧g < w.heap.size∧w.cell? ⟨g,k,none⟩=some (.slice u.a u.n u.cap)∧Rep E w u.v r:=by
 obtain ⟨us,ds,h⟩:=h
 obtain ⟨u,d,g, -, -,h1, -,h2,h3, -,h4⟩:=h.at hr
 have h5:=h3 0 _ rfl
 simp only [SlcE,Nat.mul_one,Nat.add_zero] at h5
 exact ⟨u,g,h1,h2,h5,h4.now.1.rep⟩
theorem RowsG.len {w:World} {base:Nat} {a:Option Addr} {n c:Nat} {L:List (List α)} (h:RowsG E T TS w base (.slice a n c) L):n=L.length:=by
 rcases h.shape with ⟨h1,h2⟩ | ⟨g,cap,h1, -⟩
 ·simp only [Value.slice.injEq] at h1;rw [h1.2.1,h2];rfl
 ·simp only [Value.slice.injEq] at h1;exact h1.2.1
theorem RowsG.app (hT:T≠TS) {us:List Slc} {ds:List Dd} {w w1 w2:World} {base lo:Nat} {v v':Value} {L:List (List α)} (h:OwnFU SlcE TS Rafter (PhiG E T) us ds w base v L) (hb:Below w.heap.size w w1) (hbase:base≤w.heap.size) {r:List α} {s:Slc} {ob:Obj}
 (hlo:lo=w.heap.size) (hu:Own E T w1 lo s.v r) (ho:Own SlcE TS w2 base v' (us++[s])) (hg:(w1.alloc ob).grownBy w2 v.ownBlock):RowsG E T TS w2 base v' (L++[r]):=by
 subst hlo
 have hba:=(Below.refl w1.heap.size w1).alloc (Nat.le_refl _) ob
 have hd:=h.hi
 exact ⟨us++[s],ds++[⟨w.heap.size,w1.heap.size,[]⟩],OwnFU.app (d:=⟨w.heap.size,w1.heap.size,[]⟩) ((h.below hb).below hba) ho hg hbase ((PhiG.loc hT hu).below hba) (fun d' h'=>(hd d' h':d'.hi≤w.heap.size))⟩
theorem RowsG.one (hT:T≠TS) (w:World):RowsG E T TS (w.alloc (.cells #[.slice none 0 0] TS)) w.heap.size (.slice (some ⟨w.heap.size,0,none⟩) 1 1) [[]]:=by
 have h1:=Own.lit1 (E:=SlcE) (T:=TS) w (base:=w.heap.size) (Nat.le_refl _) ⟨none,0,0⟩
 refine ⟨[⟨none,0,0⟩],[⟨w.heap.size,w.heap.size,[]⟩],rfl,rfl,by simp,h1,fun i u d x h2 h3 h4 => ?_⟩
 cases i with
 | succ i=>simp at h2
 | zero =>
  simp at h2 h3 h4
  subst h2;subst h3;subst h4
  have h0:=Own.nil (E:=E) T w w.heap.size
  exact ⟨Nat.le_refl _,(PhiG.loc hT (u:=⟨none,0,0⟩) h0).below ((Below.refl _ w).alloc (Nat.le_refl _) _)⟩
end
theorem prodR_part {α:Type} {cs:List (List α)} {c:List α} {k:Nat} (hc:cs[k]? = some c) (hb:∀ k,(prodR (cs.take k)).length≤3000) (i:Nat):(((prodR (cs.take k)).take i).flatMap fun x=>c.map (x++[·])).length≤3000:=by
 have h:=flatMap_take_le (fun x=>c.map (x++[·])) (prodR (cs.take k)) i
 rw [← prodR_take_succ hc] at h
 exact Nat.le_trans h (hb (k+1))
theorem productN_any (v:Value) (cs:List (List Int)) (w:World) (hx:Rep2 IntE w v cs) (hl:cs.length≤1048576) (hcl:∀ c∈cs,c.length≤1048576) (hb:∀ k,(prodR (cs.take k)).length≤3000) :
 Calls Tryz.prog 101 #[v] w fun e w' => ∃ u:Slc,e = .returned (.slice u.a u.n u.cap)∧RowsG IntE 3 24 w' w.heap.size u.v (prodR cs)∧Below w.heap.size w w':=by
 obtain ⟨a0,c0,rfl,hc1,hc2,hc3,hx⟩:=hx.open
 have HX:=hide hx
 have HP:=hide (fun k c hc=>prodR_take_succ (cs:=cs) (k:=k) (c:=c) hc)
 have HPR:=hide (fun k r (hr:r∈prodR (cs.take k))=>prodR_row _ r hr)
 have HPB:=hide hb
 have HPP:=hide (fun k c (hc:cs[k]? = some c) i=>prodR_part hc hb i)
 have HP0:Hid (prodR (cs.take 0)=[[]]):=hide rfl
 have HPE:Hid (prodR cs=prodR (cs.take cs.length)):=hide (by rw [List.take_length])
 have HCLL:=hide hcl
 clear hx hb hcl
 generalize hn:cs.length=n at *
 have H:=hide hn;clear hn
 have HT:Hid (3≠24):=hide (by decide)
 go_enter Tryz.func101,Tryz.ntmps101
 go_wp2_with fail
 go_loopw [3,14] (fun s i wr => ∃ k:Nat,k≤n∧i = .int .i64 k∧RowsG IntE 3 24 wr w.heap.size s (prodR (cs.take k))∧Below w.heap.size w wr) (fun _ i _=>n - (intOf i).toNat)
 case atStart=>exact ⟨0,Nat.zero_le _,rfl,by rw [HP0.out];exact RowsG.one HT.out w,(Below.refl _ _).alloc (Nat.le_refl _) _⟩
 case round =>
  obtain ⟨k,hk,rfl,hrows,hbr⟩:=hrel
  by_cases hlt:k < n
  ·obtain ⟨c,hck⟩:=get_of_lt (xs:=cs) (k:=k) (by rw [H.out];exact hlt)
   have hltk:=nat_of_lt hlt
   obtain ⟨b,o,ca,cc,rfl,hbf,f0,hrow⟩:=(HX.out.below hbr).row hck
   have PS:=hide (HP.out k c hck)
   have PR:=hide (HPR.out k)
   have PB:=hide (HPB.out k)
   have PP:=hide (HPP.out k c hck)
   have hclen:=HCLL.out c (List.mem_of_getElem? hck)
   have HRC:=hide hrow;have HBR:=hide hbr
   obtain ⟨us0,ds0,hU0⟩:=hrows
   obtain ⟨⟨aa,an,ac⟩,hsv, -⟩:=hU0.own.toSlc
   simp only [Slc.v] at hsv
   subst hsv
   have hA:RowsG _ _ _ _ _ _ _:=⟨us0,ds0,hU0⟩
   have HAN:Hid ((prodR (cs.take k)).length=an):=hide (RowsG.len hA).symm
   have HA:=hide hA
   clear hrow hbr hck hU0 hA
   generalize prodR (cs.take k)=A at *
   generalize hcn:c.length=cn at *
   have HCN:=hide hcn;clear hcn
   have hanb:an≤3000:=by have:=PB.out;have:=HAN.out;omega
   obtain ⟨wA,rfl⟩:∃ W:World,W=wr:=⟨_,rfl⟩
   go_wp2_with fail
   go_loopw [6,20] (fun s i wr => ∃ j:Nat,j≤an∧i = .int .i64 j∧RowsG IntE 3 24 wr wA.heap.size s ((A.take j).flatMap fun x=>c.map (x++[·]))∧Below wA.heap.size wA wr) (fun _ i _=>an - (intOf i).toNat)
   case atStart=>exact ⟨0,Nat.zero_le _,rfl,OwnF.nil _ wA _,Below.refl _ _⟩
   case round =>
    obtain ⟨j,hj,rfl,hrows,hbr⟩:=hrel
    by_cases hltj:j < an
    ·obtain ⟨x,hxj⟩:=get_of_lt (xs:=A) (k:=j) (by rw [HAN.out];exact hltj)
     have hltj':=nat_of_lt hltj
     obtain ⟨⟨sa,sn,sc⟩,g,hga,hg,g00,hrep⟩:=RowsG.row HA.out hxj
     subst hga
     have g0:=(hbr.cell (p:=⟨g,j,none⟩) hg).trans g00
     have GS:=hide (flatMap_take_succ (fun x=>c.map (x++[·])) hxj)
     have hxr:=PR.out x (List.mem_of_getElem? hxj)
     have hxl:x.length≤1048576:=by rw [hxr,List.length_take];omega
     have P1:=hide (PP.out (j+1))
     rw [GS.out] at P1
     generalize (A.take j).flatMap (fun x=>c.map (x++[·]))=G at *
     have HXX:=hide hrep
     have HRO:=hide hrows;have HB2:=hide hbr
     clear hrows hbr hxj hrep hxr g00
     go_wp2_with fail
     go_loopw [6,26] (fun s i wr => ∃ t:Nat,t≤cn∧i = .int .i64 t∧RowsG IntE 3 24 wr wA.heap.size s (G++(c.take t).map (x++[·]))∧Below wA.heap.size wA wr) (fun _ i _=>cn - (intOf i).toNat)
     case atStart=>exact ⟨0,Nat.zero_le _,rfl,by rw [List.take_zero,List.map_nil,List.append_nil];exact HRO.out,HB2.out⟩
     case round =>
      obtain ⟨t,ht,rfl,hrows,hbr⟩:=hrel
      by_cases hltt:t < cn
      ·obtain ⟨y,hyt⟩:=get_of_lt (xs:=c) (k:=t) (by rw [HCN.out];exact hltt)
       have hltt':=nat_of_lt hltt
       obtain ⟨d1,e1,rfl,hd1,q0⟩:=(HRC.out.below hbr).int hyt
       have RS:Hid (G++(c.take (t+1)).map (x++[·])=(G++(c.take t).map (x++[·]))++[x++[y]]):=hide (by rw [map_take_succ (x++[·]) hyt,List.append_assoc])
       have hlen:(G++(c.take t).map (x++[·])).length≤68719476736:=by
        have h1:=P1.out
        rw [List.length_append,List.length_map] at h1 ⊢
        rw [List.length_take]
        omega
       have HC:=hide (CloneV_any _ x wr (HXX.out.below hbr) hxl)
       obtain ⟨us,ds,hU⟩:=hrows
       have HUL:Hid (us.length≤68719476736):=hide (by rw [hU.lu];exact hlen)
       have HU:=hide hU;have HB3:=hide hbr
       have hbs:wA.heap.size≤wr.heap.size:=hbr.size
       generalize G++(c.take t).map (x++[·])=GG at *
       clear hyt hU hbr hlen
       go_wp2_with fail
       (with_reducible refine HC.out.mono ?_);rintro e w5 ⟨vc,rfl,oc,hb5⟩
       have O5:=hide oc;have B5:=hide hb5
       clear oc hb5 HC
       go_wp2_with (at_builtin;first
        | (refine wpList_appL IntE 3 Tryz.infoInt rfl Tryz.underlying24 wr.heap.size _ x y (O5.out.alloc _) (by decide) (by omega) (by have:=B5.out.size;simp;omega) rfl _ _ rfl rfl w5.heap.size 0 1 rfl news_alloc ?_;rintro ⟨a6,n6,c6⟩ w6 hown6 hgr6 -;have O6:=hide hown6;have B6:=hide ((B5.out.alloc B5.out.size (.cells #[.int .i64 y] 3)).grown hgr6 (by have:=B5.out.size;simp;omega) (fun q hq=>(World.ownsRow.lt O5.out q hq).1));have hb6:=B6.out.size;clear hown6 hgr6)
        | (refine wpList_appL SlcE 24 Tryz.infoIntS rfl Tryz.underlying27 wA.heap.size _ us ⟨a6,n6,c6⟩ ((HU.out.own.below B6.out).alloc _) (by decide) HUL.out (by simp;omega) rfl _ _ rfl rfl w6.heap.size 0 1 rfl news_alloc ?_;rintro ⟨ua,un,uc⟩ w9 hown8 hgr8 -))
       have R8:=RowsG.app HT.out HU.out B6.out hbs rfl O6.out hown8 hgr8
       have B8:=(HB3.out.trans (B6.out.mono hbs)).alloc (by omega) (.cells #[.slice a6 n6 c6] 24)
       have B9:=B8.grown hgr8 (by simp;omega) (fun q hq=>(World.ownsRow.lt HU.out.own q hq).1)
       have HR8:=hide R8;have HB9:=hide B9
       clear R8 B9 B8
       go_roundw
       case rel=>exact ⟨t+1,by omega,by go_num,by rw [RS.out];exact HR8.out,HB9.out⟩
       case measure=>simp [intOf];omega
      ·obtain rfl:t=cn:=by omega
       rw [List.take_of_length_le (by rw [HCN.out];exact Nat.le_refl _),← GS.out] at hrows
       go_wp2_with fail
       go_roundw
       case rel=>exact ⟨j+1,by omega,by go_num,hrows,hbr⟩
       case measure=>simp [intOf];omega
    ·obtain rfl:j=an:=by omega
     rw [List.take_of_length_le (by rw [HAN.out];exact Nat.le_refl _),← PS.out] at hrows
     have HR:=hide (OwnF.mono hrows HBR.out.size)
     have HB:=hide (HBR.out.trans (hbr.mono HBR.out.size))
     clear hrows hbr
     go_wp2_with fail
     go_roundw
     case rel=>exact ⟨k+1,by omega,by go_num,HR.out,HB.out⟩
     case measure=>simp [intOf];omega
  ·obtain rfl:k=n:=by omega
   obtain ⟨us,ds,hU⟩:=hrows
   obtain ⟨⟨qa,qn,qc⟩,rfl, -⟩:=hU.own.toSlc
   have hrows:RowsG _ _ _ _ _ _ _:=⟨us,ds,hU⟩
   clear hU
   go_wp2_with fail
   go_ret
   exact ⟨⟨qa,qn,qc⟩,rfl,by rw [HPE.out];exact hrows,hbr⟩
theorem CloneS_any (v:Value) (xs:List Slc) (w:World) (hx:Rep SlcE w v xs) (hl:xs.length≤1048576) :
 Calls Tryz.prog 140 #[v] w (RetOwn SlcE 24 w xs):=by
 obtain ⟨a,c,rfl,hc1,hc2,hc3,hx⟩:=hx.open
 have HX:=hide hx;clear hx
 generalize hn:xs.length=n at *
 have H:=hide hn;clear hn
 have hlen:([]:List Slc).length+n≤68719476736:=by simp;omega
 cases a with
 | none =>
  have hE:=fun w':World=>eql_slice_nil Tryz.prog w' 27 24 none n c 0 0 Tryz.underlying27
  have hn0:xs=[]:=by
   cases xs with
   | nil=>rfl
   | cons x xs=>obtain ⟨b,o,he,_⟩:=HX.out.slc (k:=0) (x:=x) rfl;cases he
  subst hn0
  go_enter Tryz.func140,Tryz.ntmps140
  go_wp2_with fail
  go_ret
  exact ⟨_,rfl,Own.nil _ _ _,Below.refl _ _⟩
 | some ad =>
  have hE:=fun w':World=>eql_slice_nil Tryz.prog w' 27 24 (some ad) n c 0 0 Tryz.underlying27
  go_enter Tryz.func140,Tryz.ntmps140
  go_wp2_with (at_builtin;refine wpList_appS SlcE 24 Tryz.infoIntS rfl Tryz.underlying27 w.heap.size _ [] xs _ (Own.empty _ w (Nat.le_refl _)) (HX.out.below ((Below.refl _ _).alloc (Nat.le_refl _) _)) (by decide) (by rw [H.out];exact hlen) (by simp) rfl _ _ rfl rfl rfl ?_;intro v' w1 hown1 hgr1)
  go_ret
  exact ⟨_,rfl,by simpa using hown1,((Below.refl _ _).alloc (Nat.le_refl _) _).grown hgr1 (by simp) (fun k hk=>by simp [Value.ownBlock] at hk;omega)⟩
theorem productS_any (v:Value) (cs:List (List Slc)) (w:World) (hx:Rep2 SlcE w v cs) (hl:cs.length≤1048576) (hcl:∀ c∈cs,c.length≤1048576) (hb:∀ k,(prodR (cs.take k)).length≤3000) :
 Calls Tryz.prog 102 #[v] w fun e w' => ∃ u:Slc,e = .returned (.slice u.a u.n u.cap)∧RowsG SlcE 24 27 w' w.heap.size u.v (prodR cs)∧Below w.heap.size w w':=by
 obtain ⟨a0,c0,rfl,hc1,hc2,hc3,hx⟩:=hx.open
 have HX:=hide hx
 have HP:=hide (fun k c hc=>prodR_take_succ (cs:=cs) (k:=k) (c:=c) hc)
 have HPR:=hide (fun k r (hr:r∈prodR (cs.take k))=>prodR_row _ r hr)
 have HPB:=hide hb
 have HPP:=hide (fun k c (hc:cs[k]? = some c) i=>prodR_part hc hb i)
 have HP0:Hid (prodR (cs.take 0)=[[]]):=hide rfl
 have HPE:Hid (prodR cs=prodR (cs.take cs.length)):=hide (by rw [List.take_length])
 have HCLL:=hide hcl
 clear hx hb hcl
 generalize hn:cs.length=n at *
 have H:=hide hn;clear hn
 have HT:Hid (24≠27):=hide (by decide)
 go_enter Tryz.func102,Tryz.ntmps102
 go_wp2_with fail
 go_loopw [3,14] (fun s i wr => ∃ k:Nat,k≤n∧i = .int .i64 k∧RowsG SlcE 24 27 wr w.heap.size s (prodR (cs.take k))∧Below w.heap.size w wr) (fun _ i _=>n - (intOf i).toNat)
 case atStart=>exact ⟨0,Nat.zero_le _,rfl,by rw [HP0.out];exact RowsG.one HT.out w,(Below.refl _ _).alloc (Nat.le_refl _) _⟩
 case round =>
  obtain ⟨k,hk,rfl,hrows,hbr⟩:=hrel
  by_cases hlt:k < n
  ·obtain ⟨c,hck⟩:=get_of_lt (xs:=cs) (k:=k) (by rw [H.out];exact hlt)
   have hltk:=nat_of_lt hlt
   obtain ⟨b,o,ca,cc,rfl,hbf,f0,hrow⟩:=(HX.out.below hbr).row hck
   have PS:=hide (HP.out k c hck)
   have PR:=hide (HPR.out k)
   have PB:=hide (HPB.out k)
   have PP:=hide (HPP.out k c hck)
   have hclen:=HCLL.out c (List.mem_of_getElem? hck)
   have HRC:=hide hrow;have HBR:=hide hbr
   obtain ⟨us0,ds0,hU0⟩:=hrows
   obtain ⟨⟨aa,an,ac⟩,hsv, -⟩:=hU0.own.toSlc
   simp only [Slc.v] at hsv
   subst hsv
   have hA:RowsG _ _ _ _ _ _ _:=⟨us0,ds0,hU0⟩
   have HAN:Hid ((prodR (cs.take k)).length=an):=hide (RowsG.len hA).symm
   have HA:=hide hA
   clear hrow hbr hck hU0 hA
   generalize prodR (cs.take k)=A at *
   generalize hcn:c.length=cn at *
   have HCN:=hide hcn;clear hcn
   have hanb:an≤3000:=by have:=PB.out;have:=HAN.out;omega
   obtain ⟨wA,rfl⟩:∃ W:World,W=wr:=⟨_,rfl⟩
   go_wp2_with fail
   go_loopw [6,20] (fun s i wr => ∃ j:Nat,j≤an∧i = .int .i64 j∧RowsG SlcE 24 27 wr wA.heap.size s ((A.take j).flatMap fun x=>c.map (x++[·]))∧Below wA.heap.size wA wr) (fun _ i _=>an - (intOf i).toNat)
   case atStart=>exact ⟨0,Nat.zero_le _,rfl,OwnF.nil _ wA _,Below.refl _ _⟩
   case round =>
    obtain ⟨j,hj,rfl,hrows,hbr⟩:=hrel
    by_cases hltj:j < an
    ·obtain ⟨x,hxj⟩:=get_of_lt (xs:=A) (k:=j) (by rw [HAN.out];exact hltj)
     have hltj':=nat_of_lt hltj
     obtain ⟨⟨sa,sn,sc⟩,g,hga,hg,g00,hrep⟩:=RowsG.row HA.out hxj
     subst hga
     have g0:=(hbr.cell (p:=⟨g,j,none⟩) hg).trans g00
     have GS:=hide (flatMap_take_succ (fun x=>c.map (x++[·])) hxj)
     have hxr:=PR.out x (List.mem_of_getElem? hxj)
     have hxl:x.length≤1048576:=by rw [hxr,List.length_take];omega
     have P1:=hide (PP.out (j+1))
     rw [GS.out] at P1
     generalize (A.take j).flatMap (fun x=>c.map (x++[·]))=G at *
     have HXX:=hide hrep
     have HRO:=hide hrows;have HB2:=hide hbr
     clear hrows hbr hxj hrep hxr g00
     go_wp2_with fail
     go_loopw [6,26] (fun s i wr => ∃ t:Nat,t≤cn∧i = .int .i64 t∧RowsG SlcE 24 27 wr wA.heap.size s (G++(c.take t).map (x++[·]))∧Below wA.heap.size wA wr) (fun _ i _=>cn - (intOf i).toNat)
     case atStart=>exact ⟨0,Nat.zero_le _,rfl,by rw [List.take_zero,List.map_nil,List.append_nil];exact HRO.out,HB2.out⟩
     case round =>
      obtain ⟨t,ht,rfl,hrows,hbr⟩:=hrel
      by_cases hltt:t < cn
      ·obtain ⟨y,hyt⟩:=get_of_lt (xs:=c) (k:=t) (by rw [HCN.out];exact hltt)
       have hltt':=nat_of_lt hltt
       obtain ⟨d1,e1,rfl,hd1,q0⟩:=(HRC.out.below hbr).slc hyt
       have RS:Hid (G++(c.take (t+1)).map (x++[·])=(G++(c.take t).map (x++[·]))++[x++[y]]):=hide (by rw [map_take_succ (x++[·]) hyt,List.append_assoc])
       have hlen:(G++(c.take t).map (x++[·])).length≤68719476736:=by
        have h1:=P1.out
        rw [List.length_append,List.length_map] at h1 ⊢
        rw [List.length_take]
        omega
       have HC:=hide (CloneS_any _ x wr (HXX.out.below hbr) hxl)
       obtain ⟨us,ds,hU⟩:=hrows
       have HUL:Hid (us.length≤68719476736):=hide (by rw [hU.lu];exact hlen)
       have HU:=hide hU;have HB3:=hide hbr
       have hbs:wA.heap.size≤wr.heap.size:=hbr.size
       generalize G++(c.take t).map (x++[·])=GG at *
       clear hyt hU hbr hlen
       go_wp2_with fail
       (with_reducible refine HC.out.mono ?_);rintro e w5 ⟨vc,rfl,oc,hb5⟩
       have O5:=hide oc;have B5:=hide hb5
       clear oc hb5 HC
       go_wp2_with (at_builtin;first
        | (refine wpList_appL SlcE 24 Tryz.infoIntS rfl Tryz.underlying27 wr.heap.size _ x y (O5.out.alloc _) (by decide) (by omega) (by have:=B5.out.size;simp;omega) rfl _ _ rfl rfl w5.heap.size 0 1 rfl news_alloc ?_;rintro ⟨a6,n6,c6⟩ w6 hown6 hgr6 -;have O6:=hide hown6;have B6:=hide ((B5.out.alloc B5.out.size (.cells #[.slice y.a y.n y.cap] 24)).grown hgr6 (by have:=B5.out.size;simp;omega) (fun q hq=>(World.ownsRow.lt O5.out q hq).1));have hb6:=B6.out.size;clear hown6 hgr6)
        | (refine wpList_appL SlcE 27 Tryz.infoIntSS rfl Tryz.underlying132 wA.heap.size _ us ⟨a6,n6,c6⟩ ((HU.out.own.below B6.out).alloc _) (by decide) HUL.out (by simp;omega) rfl _ _ rfl rfl w6.heap.size 0 1 rfl news_alloc ?_;rintro ⟨ua,un,uc⟩ w9 hown8 hgr8 -))
       have R8:=RowsG.app HT.out HU.out B6.out hbs rfl O6.out hown8 hgr8
       have B8:=(HB3.out.trans (B6.out.mono hbs)).alloc (by omega) (.cells #[.slice a6 n6 c6] 27)
       have B9:=B8.grown hgr8 (by simp;omega) (fun q hq=>(World.ownsRow.lt HU.out.own q hq).1)
       have HR8:=hide R8;have HB9:=hide B9
       clear R8 B9 B8
       go_roundw
       case rel=>exact ⟨t+1,by omega,by go_num,by rw [RS.out];exact HR8.out,HB9.out⟩
       case measure=>simp [intOf];omega
      ·obtain rfl:t=cn:=by omega
       rw [List.take_of_length_le (by rw [HCN.out];exact Nat.le_refl _),← GS.out] at hrows
       go_wp2_with fail
       go_roundw
       case rel=>exact ⟨j+1,by omega,by go_num,hrows,hbr⟩
       case measure=>simp [intOf];omega
    ·obtain rfl:j=an:=by omega
     rw [List.take_of_length_le (by rw [HAN.out];exact Nat.le_refl _),← PS.out] at hrows
     have HR:=hide (OwnF.mono hrows HBR.out.size)
     have HB:=hide (HBR.out.trans (hbr.mono HBR.out.size))
     clear hrows hbr
     go_wp2_with fail
     go_roundw
     case rel=>exact ⟨k+1,by omega,by go_num,HR.out,HB.out⟩
     case measure=>simp [intOf];omega
  ·obtain rfl:k=n:=by omega
   obtain ⟨us,ds,hU⟩:=hrows
   obtain ⟨⟨qa,qn,qc⟩,rfl, -⟩:=hU.own.toSlc
   have hrows:RowsG _ _ _ _ _ _ _:=⟨us,ds,hU⟩
   clear hU
   go_wp2_with fail
   go_ret
   exact ⟨⟨qa,qn,qc⟩,rfl,by rw [HPE.out];exact hrows,hbr⟩
end Go.Proofs.YtkfhgnkonaafgaaGreatDoor
namespace Go.Proofs.YtkfhgnkonaafgaaGreatDoor
open Go.RowKit
theorem step_make {α:Type} (E:El α) {P:Program} {w:World} {ops:Array Oper} {o:Oper} {a:Act} {K:Act→World→Prop} {Q:Exit→Act→World→Prop} {F:Prop}
 (T:TypeId) (z:α) {zv:Value} {bytes:Nat} (hinfo:(P.info? T).map (fun i=>(i.zero,i.size,i.bytes))=some (some zv,E.sz,bytes)) (hz:zv.cells.toList=E.c z) {t:TypeId} (h1:P.underlying t=some (.slice T))
 (n:Nat) (hby:bytes≤256) (hn:n≤1099511627776) (hg:o.guard=none) (l c:Operand) (hop:o.op=Op.makeSlice t l c) (hl:a.eval l = .int .i64 n) (hc:a.eval c = .int .i64 n)
 (hK:∀ w',Own E T w' w.heap.size (.slice (some ⟨w.heap.size,0,none⟩) n n) (List.replicate n z)→w.grownBy w' none→K (a.put o.dst (.slice (some ⟨w.heap.size,0,none⟩) n n)) w') :
 if Region.wanted o (yielded ops a.tmps)=true then Oper.wp P o a w K Q else F:=by
 obtain ⟨it,hi,hz0,hz1,hz2⟩:=info_parts hinfo
 have hw:Region.wanted o (yielded ops a.tmps)=true:=by simp [Region.wanted,hg]
 rw [if_pos hw]
 obtain ⟨w',hrun,r1,r2⟩:=run_make_full (P:=P) w w.heap.size t T it zv E.sz h1 hi hz0 hz1 .i64 .i64 n (by rw [hz2];have:=Nat.mul_le_mul hby hn;omega) (by unfold maxLen;omega) (Nat.le_refl _)
 unfold Oper.wp
 simp [execOp,hop,hl,hc,hrun,Result.andThen]
 refine hK w' ?_ r2
 unfold Own
 rw [List.length_replicate,← made_eq z zv hz n]
 exact r1
structure JC (A0:World) (B on:Nat) (fr:List Int) (c1 c2 c3:Bool) (f:Slc) (m bo:Nat) (W:World):Prop where
 out:Below B A0 W
 f:c1=true→Own IntE 3 W B f.v fr
 o:c2=true→Own SlcE 24 W B (.slice (some ⟨m,0,none⟩) on on) (List.replicate on ⟨none,0,0⟩)
 b:c3=true→W.heap[bo]? = some (.cells #[.slice none 0 0, .slice none 0 0] 29 (0,0))∧B≤bo
theorem JC.below {A0:World} {B on:Nat} {fr:List Int} {c1 c2 c3:Bool} {f:Slc} {m bo:Nat} {W W':World} (h:JC A0 B on fr c1 c2 c3 f m bo W) (hB:B≤W.heap.size) (hb:Below W.heap.size W W'):JC A0 B on fr c1 c2 c3 f m bo W':=
 ⟨h.out.trans (hb.mono hB),fun e=>(h.f e).below hb,fun e=>(h.o e).below hb,fun e=>⟨(hb.block bo (Array.getElem?_eq_some_iff.1 (h.b e).1).1).trans (h.b e).1,(h.b e).2⟩⟩
structure JR (A0:World) (B:Nat) (r:List Int) (c:Bool) (g:Slc) (W:World):Prop where
 out:Below A0.heap.size A0 W
 f:c=true→Own IntE 3 W B g.v r
structure ClI (W:World) (B bo m on:Nat) (f:Slc) (fr:List Int) (od:List (List Int)) (k:Nat) (us:List Slc):Prop where
 bo:W.heap[bo]? = some (.cells #[.slice f.a f.n f.cap, .slice (some ⟨m,0,none⟩) on on] 29 (0,0))
 sp:∀ (i:Nat) (s:Slc),i < k→us[i]? = some s→∀ q,s.v.ownBlock=some q→f.v.ownBlock≠some q
 sq:∀ (i j:Nat) (s s':Slc),i < k→j < k→us[i]? = some s→us[j]? = some s'→i≠j→∀ q,s.v.ownBlock=some q→s'.v.ownBlock≠some q
 f:Own IntE 3 W B f.v fr
 o:Own SlcE 24 W B (.slice (some ⟨m,0,none⟩) on on) us
 r:∀ (i:Nat) (s:Slc) (r:List Int),i < k→us[i]? = some s→od[i]? = some r→Own IntE 3 W B s.v r
theorem ClI.below {W W':World} {B bo m on:Nat} {f:Slc} {fr:List Int} {od:List (List Int)} {k:Nat} {us:List Slc} (h:ClI W B bo m on f fr od k us) (hb:Below W.heap.size W W'):ClI W' B bo m on f fr od k us:=
 ⟨(hb.block bo (Array.getElem?_eq_some_iff.1 h.bo).1).trans h.bo,h.sp,h.sq,h.f.below hb,h.o.below hb,fun i s r h1 h2 h3=>(h.r i s r h1 h2 h3).below hb⟩
theorem Own.slcc {T:TypeId} {w:World} {base g n cap:Nat} {xs:List Slc} (h:Own SlcE T w base (.slice (some ⟨g,0,none⟩) n cap) xs) {k:Nat} {x:Slc} (hx:xs[k]? = some x) :
 g < w.heap.size∧w.cell? ⟨g,k,none⟩=some (.slice x.a x.n x.cap)∧∀ j,w.frozen? ⟨g,j,none⟩=false:=by
 have:=h.cell hx (j:=0) rfl
 simp only [SlcE,Nat.mul_one,Nat.add_zero] at this
 exact ⟨(World.ownsRow.lt h g rfl).2,this,fun j=>h.frozen j⟩
theorem Own.setSlc {T:TypeId} {w:World} {base g n cap:Nat} {xs:List Slc} (h:Own SlcE T w base (.slice (some ⟨g,0,none⟩) n cap) xs) {k:Nat} {z:Slc} (hz:xs[k]? = some z) (x:Slc) :
 Own SlcE T (w.setCell ⟨g,k,none⟩ (.slice x.a x.n x.cap)) base (.slice (some ⟨g,0,none⟩) n cap) (xs.set k x):=by
 have h0:=h.set (i:=k) (j:=0) x (u:=.slice x.a x.n x.cap) (by decide) hz rfl
 simp only [SlcE,Nat.mul_one,Nat.add_zero] at h0
 exact h0
theorem Own.otherT {α:Type} {E:El α} {U T:TypeId} (hT:U≠T) {w:World} {base g j:Nat} {a:Array Value} {v u:Value} {xs:List α} (h:Own E U w base v xs) (hg:w.heap[g]? = some (.cells a T (0,0))):Own E U (w.setCell ⟨g,j,none⟩ u) base v xs:=
 h.sameV fun q hq=>by
  obtain ⟨b,hb⟩:=h.typed hq
  refine heap_setCell_other w ⟨g,j,none⟩ q _ (show q≠g from ?_)
  rintro rfl
  rw [hg] at hb
  simp at hb
  exact hT hb.2.symm
theorem ClI.lt {W:World} {B bo m on:Nat} {f:Slc} {fr:List Int} {od:List (List Int)} {k:Nat} {us:List Slc} (h:ClI W B bo m on f fr od k us) (hk:k≤od.length) :
 (∀ q,f.v.ownBlock=some q→q < W.heap.size)∧∀ (i:Nat) (s:Slc),i < k→us[i]? = some s→∀ q,s.v.ownBlock=some q→q < W.heap.size:=
 ⟨fun q hq=>(World.ownsRow.lt h.f q hq).2,fun i s hi hs q hq=>by
  obtain ⟨r,hr⟩:=get_of_lt (xs:=od) (k:=i) (by omega)
  exact (World.ownsRow.lt (h.r i s r hi hs hr) q hq).2⟩
theorem ClI.put {W:World} {B bo m on N:Nat} {f:Slc} {fr:List Int} {od:List (List Int)} {k:Nat} {us:List Slc} (h:ClI W B bo m on f fr od k us) {s z:Slc} {r:List Int} (hz:us[k]? = some z) (hr:od[k]? = some r) (ho:Own IntE 3 W N s.v r) (hBN:B≤N)
 (hN:(∀ q,f.v.ownBlock=some q→q < N)∧∀ (i:Nat) (s:Slc),i < k→us[i]? = some s→∀ q,s.v.ownBlock=some q→q < N) :
 ClI (W.setCell ⟨m,k,none⟩ (.slice s.a s.n s.cap)) B bo m on f fr od (k+1) (us.set k s):=by
 obtain ⟨cur,hm⟩:=h.o.typed (g:=m) rfl
 have hne:bo≠m:=by
  rintro rfl
  have h1:=h.bo
  rw [hm] at h1;simp at h1
 have hlt:=(List.getElem?_eq_some_iff.1 hz).1
 have hnew:∀ q,s.v.ownBlock=some q→N≤q:=fun q hq=>(World.ownsRow.lt ho q hq).1
 have split:∀ (i:Nat) (s':Slc),i < k+1→(us.set k s)[i]? = some s'→(i=k∧s'=s)∨(i < k∧us[i]? = some s'):=by
  intro i s' h1 h2
  by_cases hi:i=k
  ·subst hi
   rw [List.getElem?_set,if_pos rfl,if_pos hlt] at h2
   simp only [Option.some.injEq] at h2
   exact .inl ⟨rfl,h2.symm⟩
  ·rw [List.getElem?_set,if_neg (fun e=>hi e.symm)] at h2
   exact .inr ⟨by omega,h2⟩
 refine ⟨(heap_setCell_other W ⟨m,k,none⟩ bo _ hne).trans h.bo,fun i s' h1 h2 q hq e => ?_,fun i j s1 s2 h1 h2 h3 h4 hij q hq e => ?_,h.f.otherT (by decide) hm,h.o.setSlc hz s,fun i s' r' h1 h2 h3 => ?_⟩
 ·rcases split i s' h1 h2 with ⟨rfl,rfl⟩ | ⟨h4,h5⟩
  ·have:=hnew q hq;have:=hN.1 q e;omega
  ·exact h.sp i s' h4 h5 q hq e
 ·rcases split i s1 h1 h3 with ⟨rfl,rfl⟩ | ⟨h5,h6⟩
  ·rcases split j s2 h2 h4 with ⟨rfl,rfl⟩ | ⟨h7,h8⟩
   ·exact hij rfl
   ·have:=hnew q hq;have:=hN.2 j s2 h7 h8 q e;omega
  ·rcases split j s2 h2 h4 with ⟨rfl,rfl⟩ | ⟨h7,h8⟩
   ·have:=hnew q e;have:=hN.2 i s1 h5 h6 q hq;omega
   ·exact h.sq i j s1 s2 h5 h7 h6 h8 hij q hq e
 ·rcases split i s' h1 h2 with ⟨rfl,rfl⟩ | ⟨h4,h5⟩
  ·rw [hr] at h3
   simp only [Option.some.injEq] at h3
   subst h3
   exact (ho.mono hBN).otherT (by decide) hm
  ·exact (h.r i s' r' h4 h5 h3).otherT (by decide) hm
def XO (lo hi:Nat) (W:World) (f o:Slc) (x:Xc):Prop:=∃ us:List Slc,Own2U IntE 24 3 us W lo o.v x.od∧Own IntE 3 W lo f.v x.fr ∧
 (∀ (i:Nat) (s:Slc),us[i]? = some s→∀ q,s.v.ownBlock=some q→f.v.ownBlock≠some q∧q < hi)∧(∀ q,f.v.ownBlock=some q→q < hi)∧(∀ q,o.v.ownBlock=some q→q < hi)
theorem XO.rep {lo hi:Nat} {W:World} {f o:Slc} {x:Xc} (h:XO lo hi W f o x):RepX W f.v o.v x:=by
 obtain ⟨us,⟨h1,h2,h3, -, -⟩,hf, -⟩:=h
 exact ⟨hf.rep,us,h1,h2.rep,fun i s r hs hr=>(h3 i s r hs hr).rep⟩
def PhiXo (d:Dd) (W:World) (u:Sl2) (x:Xc):Prop:=XO d.lo d.hi W u.f u.o x
abbrev RowsXo (w:World) (base:Nat) (v:Value) (L:List Xc):Prop:=OwnF XE 29 Rafter PhiXo w base v L
theorem RowsXo.weak {w:World} {base:Nat} {v:Value} {L:List Xc} (h:RowsXo w base v L):RowsX w base v L:=by
 obtain ⟨us,ds,h⟩:=h
 exact ⟨us,ds,h.lu,h.ld,h.pw,h.own,fun i u d x h1 h2 h3=>⟨(h.rows i u d x h1 h2 h3).1,(h.rows i u d x h1 h2 h3).2.map fun _ k=>k.rep⟩⟩
theorem RowsXo.app {us:List Sl2} {ds:List Dd} {w w1 w2:World} {base:Nat} {v v':Value} {L:List Xc} (h:OwnFU XE 29 Rafter PhiXo us ds w base v L) (hb:Below w.heap.size w w1) (hbase:base≤w.heap.size) {x:Xc} {s:Sl2} {ob:Obj}
 (hu:LocR 29 w.heap.size w1.heap.size w1 (fun W=>XO w.heap.size w1.heap.size W s.f s.o x)) (ho:Own XE 29 w2 base v' (us++[s])) (hg:(w1.alloc ob).grownBy w2 v.ownBlock):RowsXo w2 base v' (L++[x]):=by
 have hba:=(Below.refl w1.heap.size w1).alloc (Nat.le_refl _) ob
 have hd:=h.hi
 exact ⟨us++[s],ds++[⟨w.heap.size,w1.heap.size,[]⟩],OwnFU.app (d:=⟨w.heap.size,w1.heap.size,[]⟩) ((h.below hb).below hba) ho hg hbase (hu.below hba) (fun d' h'=>(hd d' h':d'.hi≤w.heap.size))⟩
def RetXL (w:World) (x:Xc) (e:Ending) (w':World):Prop:=∃ f o:Slc,e = .returned (.agg #[.slice f.a f.n f.cap, .slice o.a o.n o.cap])∧LocR 29 w.heap.size w'.heap.size w' (fun W=>XO w.heap.size w'.heap.size W f o x)∧Below w.heap.size w w'
theorem ClI.loc {W:World} {B bo m on lo:Nat} {f:Slc} {x:Xc} {us:List Slc} (h:ClI W B bo m on f x.fr x.od on us) (hn:x.od.length=on) (hlo:lo≤B):LocR 29 lo W.heap.size W (fun V=>XO lo W.heap.size V f ⟨some ⟨m,0,none⟩,on,on⟩ x):=by
 have hul:us.length=on:=h.o.len.symm
 obtain ⟨cur,hm⟩:=h.o.typed (g:=m) rfl
 have hlt:=h.lt (by omega)
 have hrow:∀ (i:Nat) (s:Slc),us[i]? = some s→i < on:=fun i s hs=>by rw [← hul];exact (List.getElem?_eq_some_iff.1 hs).1
 have h1:=(LocR.own (T:=29) (by decide) (h.f.mono hlo)).and (LocR.own (T:=29) (by decide) (h.o.mono hlo))
 have h2:LocR 29 lo W.heap.size W (fun V => ∀ (i:Nat) (s:Slc) (r:List Int),us[i]? = some s→x.od[i]? = some r→Own IntE 3 V lo s.v r):=
  LocR.all (Nat.le_refl _) fun i=>LocR.all (Nat.le_refl _) fun s=>LocR.all (Nat.le_refl _) fun r=>LocR.imp (Nat.le_refl _) fun hs=>LocR.imp (Nat.le_refl _) fun hr =>
   LocR.own (T:=29) (by decide) ((h.r i s r (by rw [← hn];exact (List.getElem?_eq_some_iff.1 hr).1) hs hr).mono hlo)
 refine (h1.and h2).map fun V k=>⟨us,⟨by rw [hul,hn],k.1.2,k.2,fun i j s s' hs hs' hij=>h.sq i j s s' (hrow i s hs) (hrow j s' hs') hs hs' hij,fun i s hs q hq e => ?_⟩,k.1.1,fun i s hs q hq=>⟨h.sp i s (hrow i s hs) hs q hq,hlt.2 i s (hrow i s hs) hs q hq⟩,hlt.1,fun q hq=>(World.ownsRow.lt h.o q hq).2⟩
 obtain ⟨r,hr⟩:=get_of_lt (xs:=x.od) (k:=i) (by rw [hn];exact hrow i s hs)
 obtain ⟨a,ha⟩:=(h.r i s r (hrow i s hs) hs hr).typed hq
 simp [Value.ownBlock] at e
 subst e
 rw [hm] at ha
 simp at ha
theorem cloneExec_any (vf vo:Value) (x:Xc) (w:World) (hx:RepX w vf vo x) (hl:x.fr.length≤1048576) (hol:x.od.length≤1048576) (hrl:∀ o∈x.od,o.length≤1048576) :
 Calls Tryz.prog 103 #[.agg #[vf,vo]] w (RetXL w x):=by
 have HX:=hide hx
 obtain ⟨fa,fc,rfl, -, -, -, -⟩:=hx.fr.open
 obtain ⟨oa,oc,rfl, -, -, -, -⟩:=hx.od.open
 clear hx
 generalize hfn:x.fr.length=fn at *
 generalize hon:x.od.length=on at *
 have HFN:=hide hfn;have HON:=hide hon
 have HW:Hid (∃ A0,A0=((w.alloc (.cells #[.slice fa fn fc, .slice oa on oc] 29)).alloc (.cells #[.slice none 0 0, .slice none 0 0] 29))):=hide ⟨_,rfl⟩
 obtain ⟨A0,hA0⟩:=HW.out
 have HX2:Hid (A0.heap[w.heap.size]? = some (.cells #[.slice fa fn fc, .slice oa on oc] 29 (0,0))):=hide (by rw [hA0,heap_alloc_old _ _ (by simp)];exact heap_alloc_new w _)
 have HR2:Hid (A0.heap[w.heap.size+1]? = some (.cells #[.slice none 0 0, .slice none 0 0] 29 (0,0))):=hide (by
  have h:=heap_alloc_new (w.alloc (.cells #[.slice fa fn fc, .slice oa on oc] 29)) (.cells #[.slice none 0 0, .slice none 0 0] 29)
  rw [hA0];simpa using h)
 have HZ:Hid (A0.heap.size=w.heap.size+2):=hide (by rw [hA0];simp)
 have HB:Hid (Below w.heap.size w A0):=hide (by rw [hA0];exact ((Below.refl w.heap.size w).alloc (Nat.le_refl _) _).alloc (by simp) _)
 have HA0:=hide hA0
 clear hfn hon hA0 HW
 go_enter Tryz.func103,Tryz.ntmps103
 go_wp2_with fail
 rw [← HA0.out]
 have hz:=HZ.out
 -- reg clone
 refine wp_region_inv (n:=9) (by kernel_rfl) rfl (by kernel_rfl) (by kernel_rfl) (fun A ls a' W => ∃ (f:Slc) (m:Nat) (bo:Nat) (x6 x7 x8 x9 x10 x11 x12 x13 x3:Value),a'=putAll A [(6,x6),(7,x7),(8,x8),(9,x9),(10,x10),(11,x11),(12,x12),(13,x13),(3,x3)]∧Vd ls 0 [] x6 (.pointer (some ⟨w.heap.size,0,none⟩))∧Vd ls 1 [] x7 (.slice fa fn fc)∧Vd ls 2 [] x8 (.slice f.a f.n f.cap)∧Vd ls 3 [] x9 (.pointer (some ⟨w.heap.size,1,none⟩))∧Vd ls 4 [] x10 (.slice oa on oc)∧Vd ls 5 [] x11 (.int .i64 on)∧Vd ls 6 [] x12 (.slice (some ⟨m,0,none⟩) on on)∧Vd ls 7 [2,6] x13 (.agg #[.slice f.a f.n f.cap, .slice (some ⟨m,0,none⟩) on on])∧Vd ls 8 [] x3 (.pointer (some ⟨bo,0,none⟩))∧JC A0 (w.heap.size+2) on x.fr (fl ls 2) (fl ls 6) (fl ls 8) f m bo W) ?r0 ?rs ?re
 case r0 =>
  exact ⟨⟨none,0,0⟩,0,0,undef,undef,undef,undef,undef,undef,undef,undef,undef,by simp only [putAll,Act.put,List.setIfInBounds_toArray,List.set_cons_succ,List.set_cons_zero],Vd.start,Vd.start,Vd.start,Vd.start,Vd.start,Vd.start,Vd.start,Vd.start,Vd.start,by simp only [fl_start];exact ⟨by rw [← hz];exact (Below.refl _ _).drew,fun h=>(nomatch h),fun h=>(nomatch h),fun h=>(nomatch h)⟩⟩
 case rs =>
  rintro ls a' W hs hnl ⟨f,m,bo,x6,x7,x8,x9,x10,x11,x12,x13,x3,ha,cv0,cv1,cv2,cv3,cv4,cv5,cv6,cv7,cv8,hJ⟩ k o hkn mc K hK
  simp only [putAll,Act.put,List.setIfInBounds_toArray,List.set_cons_succ,List.set_cons_zero] at ha
  subst ha
  have hkc:k=0∨k=1∨k=2∨k=3∨k=4∨k=5∨k=6∨k=7∨k=8:=by omega
  have hop:=mc.op
  have haf:=mc.after
  rcases hkc with rfl | rfl | rfl | rfl | rfl | rfl | rfl | rfl | rfl
  ·simp at hop;subst hop;simp [Region.binds] at haf
   have hbk:=(hJ.out.block w.heap.size (by omega)).trans HX2.out
   have d0:W.cell? ⟨w.heap.size,0,none⟩=some (.slice fa fn fc):=cell_of_heapV hbk (k:=0) rfl
   have d1:W.cell? ⟨w.heap.size,1,none⟩=some (.slice oa on oc):=cell_of_heapV hbk (k:=1) rfl
   have dl:=lt_of_cell d0
   go_simp
   exact hK _ _ ⟨f,m,bo,_,_,_,_,_,_,_,_,_,by simp only [putAll,Act.put,List.setIfInBounds_toArray,List.set_cons_succ,List.set_cons_zero],Vd.same (by simp),cv1.set (by decide),cv2.set (by decide),cv3.set (by decide),cv4.set (by decide),cv5.set (by decide),cv6.set (by decide),cv7.set (by decide),cv8.set (by decide),by rw [fl_set (show 0≠2 by decide),fl_set (show 0≠6 by decide),fl_set (show 0≠8 by decide)];exact hJ⟩
  ·simp at hop;subst hop;simp [Region.binds] at haf
   obtain rfl:=(cv0.get (by simp [haf])).symm
   have hbk:=(hJ.out.block w.heap.size (by omega)).trans HX2.out
   have d0:W.cell? ⟨w.heap.size,0,none⟩=some (.slice fa fn fc):=cell_of_heapV hbk (k:=0) rfl
   have d1:W.cell? ⟨w.heap.size,1,none⟩=some (.slice oa on oc):=cell_of_heapV hbk (k:=1) rfl
   have dl:=lt_of_cell d0
   go_simp
   exact hK _ _ ⟨f,m,bo,_,_,_,_,_,_,_,_,_,by simp only [putAll,Act.put,List.setIfInBounds_toArray,List.set_cons_succ,List.set_cons_zero],cv0.set (by decide),Vd.same (by simp),cv2.set (by decide),cv3.set (by decide),cv4.set (by decide),cv5.set (by decide),cv6.set (by decide),cv7.set (by decide),cv8.set (by decide),by rw [fl_set (show 1≠2 by decide),fl_set (show 1≠6 by decide),fl_set (show 1≠8 by decide)];exact hJ⟩
  ·simp at hop;subst hop;simp [Region.binds] at haf
   obtain rfl:=(cv1.get (by simp [haf])).symm
   have f2:=fl_no mc.new;rw [f2] at hJ
   go_simp
   have hsz:=hJ.out.size
   go_at_call 139
   (with_reducible refine (CloneV_any (.slice fa fn fc) x.fr W ((HX.out.fr.below HB.out).below (hz ▸ hJ.out)) (by rw [HFN.out];exact hl)).mono ?_);rintro e u' ⟨v',rfl,ho,hb⟩
   obtain ⟨⟨f1,f2,f3⟩,rfl, -⟩:=ho.toSlc
   exact hK _ _ ⟨⟨f1,f2,f3⟩,m,bo,_,_,_,_,_,_,_,_,_,by simp only [putAll,Act.put,List.setIfInBounds_toArray,List.set_cons_succ,List.set_cons_zero],cv0.set (by decide),cv1.set (by decide),Vd.same (by simp),cv3.set (by decide),cv4.set (by decide),cv5.set (by decide),cv6.set (by decide),cv7.void (by decide) (by decide) mc.new,cv8.set (by decide),by rw [fl_got hs (by decide),fl_set (show 2≠6 by decide),fl_set (show 2≠8 by decide)];exact ⟨(hJ.below (by omega) hb).out,fun _=>ho.mono (by omega),(hJ.below (by omega) hb).o,(hJ.below (by omega) hb).b⟩⟩
  ·simp at hop;subst hop;simp [Region.binds] at haf
   have hbk:=(hJ.out.block w.heap.size (by omega)).trans HX2.out
   have d0:W.cell? ⟨w.heap.size,0,none⟩=some (.slice fa fn fc):=cell_of_heapV hbk (k:=0) rfl
   have d1:W.cell? ⟨w.heap.size,1,none⟩=some (.slice oa on oc):=cell_of_heapV hbk (k:=1) rfl
   have dl:=lt_of_cell d0
   go_simp
   exact hK _ _ ⟨f,m,bo,_,_,_,_,_,_,_,_,_,by simp only [putAll,Act.put,List.setIfInBounds_toArray,List.set_cons_succ,List.set_cons_zero],cv0.set (by decide),cv1.set (by decide),cv2.set (by decide),Vd.same (by simp),cv4.set (by decide),cv5.set (by decide),cv6.set (by decide),cv7.set (by decide),cv8.set (by decide),by rw [fl_set (show 3≠2 by decide),fl_set (show 3≠6 by decide),fl_set (show 3≠8 by decide)];exact hJ⟩
  ·simp at hop;subst hop;simp [Region.binds] at haf
   obtain rfl:=(cv3.get (by simp [haf])).symm
   have hbk:=(hJ.out.block w.heap.size (by omega)).trans HX2.out
   have d0:W.cell? ⟨w.heap.size,0,none⟩=some (.slice fa fn fc):=cell_of_heapV hbk (k:=0) rfl
   have d1:W.cell? ⟨w.heap.size,1,none⟩=some (.slice oa on oc):=cell_of_heapV hbk (k:=1) rfl
   have dl:=lt_of_cell d0
   go_simp
   exact hK _ _ ⟨f,m,bo,_,_,_,_,_,_,_,_,_,by simp only [putAll,Act.put,List.setIfInBounds_toArray,List.set_cons_succ,List.set_cons_zero],cv0.set (by decide),cv1.set (by decide),cv2.set (by decide),cv3.set (by decide),Vd.same (by simp),cv5.set (by decide),cv6.set (by decide),cv7.set (by decide),cv8.set (by decide),by rw [fl_set (show 4≠2 by decide),fl_set (show 4≠6 by decide),fl_set (show 4≠8 by decide)];exact hJ⟩
  ·simp at hop;subst hop;simp [Region.binds] at haf
   obtain rfl:=(cv4.get (by simp [haf])).symm
   go_simp
   exact hK _ _ ⟨f,m,bo,_,_,_,_,_,_,_,_,_,by simp only [putAll,Act.put,List.setIfInBounds_toArray,List.set_cons_succ,List.set_cons_zero],cv0.set (by decide),cv1.set (by decide),cv2.set (by decide),cv3.set (by decide),cv4.set (by decide),Vd.same (by simp),cv6.set (by decide),cv7.set (by decide),cv8.set (by decide),by rw [fl_set (show 5≠2 by decide),fl_set (show 5≠6 by decide),fl_set (show 5≠8 by decide)];exact hJ⟩
  ·simp at hop;subst hop;simp [Region.binds] at haf
   obtain rfl:=(cv5.get (by simp [haf])).symm
   have f6:=fl_no mc.new;rw [f6] at hJ
   have hsz:=hJ.out.size
   refine step_make SlcE 24 ⟨none,0,0⟩ Tryz.infoIntS rfl Tryz.underlying27 on (by decide) (by omega) (by rfl) _ _ (by rfl) (by rfl) (by rfl) ?_;intro w6 ho hg
   have hb:=Below.grown (Below.refl W.heap.size W) hg (Nat.le_refl _) (fun q hq=>(nomatch hq))
   exact hK _ _ ⟨f,W.heap.size,bo,_,_,_,_,_,_,_,_,_,by simp only [putAll,Act.put,List.setIfInBounds_toArray,List.set_cons_succ,List.set_cons_zero],cv0.set (by decide),cv1.set (by decide),cv2.set (by decide),cv3.set (by decide),cv4.set (by decide),cv5.set (by decide),Vd.same (by simp),cv7.void (by decide) (by decide) mc.new,cv8.set (by decide),by rw [fl_set (show 6≠2 by decide),fl_got hs (by decide),fl_set (show 6≠8 by decide)];exact ⟨(hJ.below (by omega) hb).out,(hJ.below (by omega) hb).f,fun _=>ho.mono (by omega),(hJ.below (by omega) hb).b⟩⟩
  ·simp at hop;subst hop;simp [Region.binds] at haf
   obtain rfl:=(cv2.get (by simp [haf])).symm
   obtain rfl:=(cv6.get (by simp [haf])).symm
   go_simp
   exact hK _ _ ⟨f,m,bo,_,_,_,_,_,_,_,_,_,by simp only [putAll,Act.put,List.setIfInBounds_toArray,List.set_cons_succ,List.set_cons_zero],cv0.set (by decide),cv1.set (by decide),cv2.set (by decide),cv3.set (by decide),cv4.set (by decide),cv5.set (by decide),cv6.set (by decide),Vd.same (by simp [haf]),cv8.set (by decide),by rw [fl_set (show 7≠2 by decide),fl_set (show 7≠6 by decide),fl_set (show 7≠8 by decide)];exact hJ⟩
  ·simp at hop;subst hop;simp [Region.binds] at haf
   have f8:=fl_no mc.new;rw [f8] at hJ
   go_simp
   have hsz:=hJ.out.size
   have hb:=(Below.refl W.heap.size W).alloc (Nat.le_refl _) (.cells #[.slice none 0 0, .slice none 0 0] 29)
   exact hK _ _ ⟨f,m,W.heap.size,_,_,_,_,_,_,_,_,_,by simp only [putAll,Act.put,List.setIfInBounds_toArray,List.set_cons_succ,List.set_cons_zero],cv0.set (by decide),cv1.set (by decide),cv2.set (by decide),cv3.set (by decide),cv4.set (by decide),cv5.set (by decide),cv6.set (by decide),cv7.set (by decide),Vd.same (by simp),by rw [fl_set (show 8≠2 by decide),fl_set (show 8≠6 by decide),fl_got hs (by decide)];exact ⟨(hJ.below (by omega) hb).out,(hJ.below (by omega) hb).f,(hJ.below (by omega) hb).o,fun _=>⟨heap_alloc_new W _,by omega⟩⟩⟩
 case re =>
  rintro ls a' W hall ⟨f,m,bo,x6,x7,x8,x9,x10,x11,x12,x13,x3,ha,cv0,cv1,cv2,cv3,cv4,cv5,cv6,cv7,cv8,hJ⟩ o hop
  simp only [putAll,Act.put,List.setIfInBounds_toArray,List.set_cons_succ,List.set_cons_zero] at ha
  subst ha
  simp at hop;subst hop
  obtain rfl:=(cv0.get (hall 0 (by decide))).symm
  obtain rfl:=(cv1.get (hall 1 (by decide))).symm
  obtain rfl:=(cv2.get (hall 2 (by decide))).symm
  obtain rfl:=(cv3.get (hall 3 (by decide))).symm
  obtain rfl:=(cv4.get (hall 4 (by decide))).symm
  obtain rfl:=(cv5.get (hall 5 (by decide))).symm
  obtain rfl:=(cv6.get (hall 6 (by decide))).symm
  obtain rfl:=(cv7.get (hall 7 (by decide))).symm
  obtain rfl:=(cv8.get (hall 8 (by decide))).symm
  rw [fl_yes (hall 2 (by decide))] at hJ
  rw [fl_yes (hall 6 (by decide))] at hJ
  rw [fl_yes (hall 8 (by decide))] at hJ
  obtain ⟨hbo,hbB⟩:=hJ.b rfl
  have hbk:=(hJ.out.block w.heap.size (by omega)).trans HX2.out
  have d1:W.cell? ⟨w.heap.size,1,none⟩=some (.slice oa on oc):=cell_of_heapV hbk (k:=1) rfl
  have dl:=lt_of_cell d1
  have hne1:w.heap.size≠bo:=by omega
  have c0:W.cell? ⟨bo,0,none⟩=some (.slice none 0 0):=cell_of_heapV hbo (k:=0) rfl
  have c1:W.cell? ⟨bo,1,none⟩=some (.slice none 0 0):=cell_of_heapV hbo (k:=1) rfl
  have cfz:=frozen_of_heapV hbo
  have cl:=lt_of_cell c0
  go_simp
  have hb1:=heap_setCell_same W bo 0 _ _ (.slice f.a f.n f.cap) hbo
  have hb2:=heap_setCell_same (W.setCell ⟨bo,0,none⟩ (.slice f.a f.n f.cap)) bo 1 _ _ (.slice (some ⟨m,0,none⟩) on on) hb1
  have HC:=hide (ClI.mk (k:=0) (us:=List.replicate on ⟨none,0,0⟩) (od:=x.od) hb2 (fun i s h=>absurd h (Nat.not_lt_zero i)) (fun i j s s' h=>absurd h (Nat.not_lt_zero i)) (((hJ.f rfl).otherT (j:=0) (u:=.slice f.a f.n f.cap) (by decide) hbo).otherT (j:=1) (u:=.slice (some ⟨m,0,none⟩) on on) (by decide) hb1) (((hJ.o rfl).otherT (j:=0) (u:=.slice f.a f.n f.cap) (by decide) hbo).otherT (j:=1) (u:=.slice (some ⟨m,0,none⟩) on on) (by decide) hb1) (fun i s r h=>absurd h (Nat.not_lt_zero i)))
  have HO:=hide ((hJ.out.setCell (p:=⟨bo,0,none⟩) hbB (.slice f.a f.n f.cap)).setCell (p:=⟨bo,1,none⟩) hbB (.slice (some ⟨m,0,none⟩) on on))
  have HBO:=hide hbB
  clear hb1 hb2 hJ hbk c0 c1 cfz cl hbo
  go_wp2_with fail
  clear d1 dl hne1 hbB
  go_loopw [17] (fun i wr => ∃ j:Nat,j≤on∧i = .int .i64 j∧(∃ us:List Slc,us.length=on∧ClI wr (w.heap.size+2) bo m on f x.fr x.od j us)∧Below (w.heap.size+2) A0 wr) (fun i _=>on - (intOf i).toNat)
  case atStart=>exact ⟨0,Nat.zero_le _,rfl,⟨_,List.length_replicate,HC.out⟩,HO.out⟩
  case round =>
   obtain ⟨j,hj,rfl,⟨us,hul,hc⟩,hbr⟩:=hrel
   by_cases hlt:j < on
   ·obtain ⟨r,hrk⟩:=get_of_lt (xs:=x.od) (k:=j) (by rw [HON.out];exact hlt)
    obtain ⟨z,hz⟩:=get_of_lt (xs:=us) (k:=j) (by rw [hul];exact hlt)
    have hltk:=nat_of_lt hlt
    obtain ⟨b2,o2,ra,rc,rfl,hbl2,q0,q1⟩:=((HX.out.od.below HB.out).below (HZ.out ▸ hbr)).row hrk
    have hrl1:=hrl r (List.mem_of_getElem? hrk)
    have HC2:=hide hc;have HQ:=hide q1;have HBR:=hide hbr;have HRK:=hide hrk;have HZK:=hide hz;have HUL:=hide hul;have HRL:=hide hrl1
    clear hc q1 hbr hrk hz hul hrl1
    go_wp2_with fail
    -- reg row
    refine wp_region_inv (n:=6) (by kernel_rfl) rfl (by kernel_rfl) (by kernel_rfl) (fun A ls a' W => ∃ (g:Slc) (x22 x23 x24 x25 x26 x27:Value),a'=putAll A [(22,x22),(23,x23),(24,x24),(25,x25),(26,x26),(27,x27)]∧Vd ls 0 [] x22 (.pointer (some ⟨bo,1,none⟩))∧Vd ls 1 [] x23 (.slice (some ⟨m,0,none⟩) on on)∧Vd ls 2 [] x24 (.int .i64 j)∧Vd ls 3 [] x25 (.slice ra r.length rc)∧Vd ls 4 [] x26 (.slice g.a g.n g.cap)∧Vd ls 5 [] x27 (.pointer (some ⟨m,j,none⟩))∧JR wr wr.heap.size r (fl ls 4) g W) ?r0 ?rs ?re
    case r0 =>
     exact ⟨⟨none,0,0⟩,u22,u23,u24,u25,u26,u27,by simp only [putAll,Act.put,List.setIfInBounds_toArray,List.set_cons_succ,List.set_cons_zero],Vd.start,Vd.start,Vd.start,Vd.start,Vd.start,Vd.start,by simp only [fl_start];exact ⟨(Below.refl _ _).drew,fun h=>(nomatch h)⟩⟩
    case rs =>
     rintro ls a' W hs hnl ⟨g,x22,x23,x24,x25,x26,x27,ha,cv0,cv1,cv2,cv3,cv4,cv5,hJ⟩ k o hkn mc K hK
     simp only [putAll,Act.put,List.setIfInBounds_toArray,List.set_cons_succ,List.set_cons_zero] at ha
     subst ha
     have hkc:k=0∨k=1∨k=2∨k=3∨k=4∨k=5:=by omega
     have hop:=mc.op
     have haf:=mc.after
     rcases hkc with rfl | rfl | rfl | rfl | rfl | rfl
     ·simp at hop;subst hop;simp [Region.binds] at haf
      go_simp
      exact hK _ _ ⟨g,_,_,_,_,_,_,by simp only [putAll,Act.put,List.setIfInBounds_toArray,List.set_cons_succ,List.set_cons_zero],Vd.same (by simp),cv1.set (by decide),cv2.set (by decide),cv3.set (by decide),cv4.set (by decide),cv5.set (by decide),by rw [fl_set (show 0≠4 by decide)];exact hJ⟩
     ·simp at hop;subst hop;simp [Region.binds] at haf
      obtain rfl:=(cv0.get (by simp [haf])).symm
      have e1:W.cell? ⟨bo,1,none⟩=some (.slice (some ⟨m,0,none⟩) on on):=cell_of_heapV (HC2.out.below hJ.out).bo (k:=1) rfl
      have el:=lt_of_cell e1
      go_simp
      exact hK _ _ ⟨g,_,_,_,_,_,_,by simp only [putAll,Act.put,List.setIfInBounds_toArray,List.set_cons_succ,List.set_cons_zero],cv0.set (by decide),Vd.same (by simp),cv2.set (by decide),cv3.set (by decide),cv4.set (by decide),cv5.set (by decide),by rw [fl_set (show 1≠4 by decide)];exact hJ⟩
     ·simp at hop;subst hop;simp [Region.binds] at haf
      go_simp
      exact hK _ _ ⟨g,_,_,_,_,_,_,by simp only [putAll,Act.put,List.setIfInBounds_toArray,List.set_cons_succ,List.set_cons_zero],cv0.set (by decide),cv1.set (by decide),Vd.same (by simp),cv3.set (by decide),cv4.set (by decide),cv5.set (by decide),by rw [fl_set (show 2≠4 by decide)];exact hJ⟩
     ·simp at hop;subst hop;simp [Region.binds] at haf
      go_simp
      exact hK _ _ ⟨g,_,_,_,_,_,_,by simp only [putAll,Act.put,List.setIfInBounds_toArray,List.set_cons_succ,List.set_cons_zero],cv0.set (by decide),cv1.set (by decide),cv2.set (by decide),Vd.same (by simp),cv4.set (by decide),cv5.set (by decide),by rw [fl_set (show 3≠4 by decide)];exact hJ⟩
     ·simp at hop;subst hop;simp [Region.binds] at haf
      obtain rfl:=(cv3.get (by simp [haf])).symm
      have f4:=fl_no mc.new;rw [f4] at hJ
      go_simp
      have hsz:=hJ.out.size
      have hsz2:=HBR.out.size
      go_at_call 139
      (with_reducible refine (CloneV_any (.slice ra r.length rc) r W (HQ.out.below hJ.out) HRL.out).mono ?_);rintro e u' ⟨v',rfl,ho,hb⟩
      obtain ⟨⟨f1,f2,f3⟩,rfl, -⟩:=ho.toSlc
      exact hK _ _ ⟨⟨f1,f2,f3⟩,_,_,_,_,_,_,by simp only [putAll,Act.put,List.setIfInBounds_toArray,List.set_cons_succ,List.set_cons_zero],cv0.set (by decide),cv1.set (by decide),cv2.set (by decide),cv3.set (by decide),Vd.same (by simp),cv5.set (by decide),by rw [fl_got hs (by decide)];exact ⟨hJ.out.trans (hb.mono hsz),fun _=>ho.mono hsz⟩⟩
     ·simp at hop;subst hop;simp [Region.binds] at haf
      obtain rfl:=(cv1.get (by simp [haf])).symm
      obtain rfl:=(cv2.get (by simp [haf])).symm
      go_simp
      exact hK _ _ ⟨g,_,_,_,_,_,_,by simp only [putAll,Act.put,List.setIfInBounds_toArray,List.set_cons_succ,List.set_cons_zero],cv0.set (by decide),cv1.set (by decide),cv2.set (by decide),cv3.set (by decide),cv4.set (by decide),Vd.same (by simp),by rw [fl_set (show 5≠4 by decide)];exact hJ⟩
    case re =>
     rintro ls a' W hall ⟨g,x22,x23,x24,x25,x26,x27,ha,cv0,cv1,cv2,cv3,cv4,cv5,hJ⟩ o hop
     simp only [putAll,Act.put,List.setIfInBounds_toArray,List.set_cons_succ,List.set_cons_zero] at ha
     subst ha
     simp at hop;subst hop
     obtain rfl:=(cv0.get (hall 0 (by decide))).symm
     obtain rfl:=(cv1.get (hall 1 (by decide))).symm
     obtain rfl:=(cv2.get (hall 2 (by decide))).symm
     obtain rfl:=(cv3.get (hall 3 (by decide))).symm
     obtain rfl:=(cv4.get (hall 4 (by decide))).symm
     obtain rfl:=(cv5.get (hall 5 (by decide))).symm
     rw [fl_yes (hall 4 (by decide))] at hJ
     have hC3:=HC2.out.below hJ.out
     obtain ⟨zl,zc,zf⟩:=hC3.o.slcc HZK.out
     have hmB:=(World.ownsRow.lt hC3.o m rfl).1
     go_simp
     have hP:=hC3.put HZK.out HRK.out (hJ.f rfl) (by have:=HBR.out.size;have:=HZ.out;omega) (HC2.out.lt (by rw [HON.out];exact hj))
     have hBo:=HBR.out.trans (hJ.out.mono (by have:=HBR.out.size;have:=HZ.out;omega))
     have HP:=hide hP;have HBo:=hide hBo
     have HMB:=hide hmB
     clear hP hBo hC3 zc zl zf hJ hmB
     go_wp2_with fail
     go_roundw
     case rel=>exact ⟨j+1,by omega,by go_num,⟨_,by rw [List.length_set];exact HUL.out,HP.out⟩,HBo.out.setCell (p:=⟨m,j,none⟩) HMB.out _⟩
     case measure=>simp [intOf];omega
    -- end row
   ·obtain rfl:j=on:=by omega
    have b0:wr.cell? ⟨bo,0,none⟩=some (.slice f.a f.n f.cap):=cell_of_heapV hc.bo (k:=0) rfl
    have b1:wr.cell? ⟨bo,1,none⟩=some (.slice (some ⟨m,0,none⟩) j j):=cell_of_heapV hc.bo (k:=1) rfl
    have hr2:=(hbr.block (w.heap.size+1) (by omega)).trans HR2.out
    have r0:wr.cell? ⟨w.heap.size+1,0,none⟩=some (.slice none 0 0):=cell_of_heapV hr2 (k:=0) rfl
    have r1:wr.cell? ⟨w.heap.size+1,1,none⟩=some (.slice none 0 0):=cell_of_heapV hr2 (k:=1) rfl
    have rfz:=frozen_of_heapV hr2
    have rl:=lt_of_cell r0
    go_wp2_with fail
    refine bodyPost_ret (v:=.agg #[.slice f.a f.n f.cap, .slice (some ⟨m,0,none⟩) j j]) (by simp [results,Tryz.results103,go_sem, *]) rfl ⟨f,⟨some ⟨m,0,none⟩,j,j⟩,rfl, ?_, ?_⟩
    ·have h1:=hc.loc (lo:=w.heap.size) HON.out (by omega)
     have h2:LocR 29 w.heap.size wr.heap.size ((wr.setCell ⟨w.heap.size+1,0,none⟩ (.slice f.a f.n f.cap)).setCell ⟨w.heap.size+1,1,none⟩ (.slice (some ⟨m,0,none⟩) j j)) (fun V=>XO w.heap.size wr.heap.size V f ⟨some ⟨m,0,none⟩,j,j⟩ x):=h1.step (by simp) (fun k ob hk1 hk2 hk3 hk4=>by
      have hne:k≠w.heap.size+1:=by rintro rfl;rw [hr2] at hk3;simp at hk3;subst hk3;exact hk4 _ _ rfl
      rw [heap_setCell_other _ ⟨w.heap.size+1,1,none⟩ k _ hne,heap_setCell_other _ ⟨w.heap.size+1,0,none⟩ k _ hne];exact hk3)
     simpa using h2
    ·exact (((hbr.mono (show w.heap.size≤w.heap.size+2 by omega)) |> fun h=>HB.out.trans h).setCell (p:=⟨w.heap.size+1,0,none⟩) (show w.heap.size≤w.heap.size+1 by omega) _).setCell (p:=⟨w.heap.size+1,1,none⟩) (show w.heap.size≤w.heap.size+1 by omega) _
 -- end clone
end Go.Proofs.YtkfhgnkonaafgaaGreatDoor
namespace Go.Proofs.YtkfhgnkonaafgaaGreatDoor
open Go.RowKit
theorem RowsG.loc {α:Type} {E:El α} {T TS T':TypeId} (h1:TS≠T') (h2:T≠T') {w:World} {base:Nat} {a:Option Addr} {n c:Nat} {L:List (List α)} (h:RowsG E T TS w base (.slice a n c) L) :
 LocR T' base w.heap.size w (fun V => ∀ (k:Nat) (r:List α),L[k]? = some r→∃ (u:Slc) (g:Nat),a=some ⟨g,0,none⟩∧g < V.heap.size∧V.cell? ⟨g,k,none⟩=some (.slice u.a u.n u.cap)∧Rep E V u.v r):=by
 obtain ⟨us,ds,h⟩:=h
 have k1:=LocR.own h1 h.own
 have k2:LocR T' base w.heap.size w (fun W => ∀ (i:Nat) (u:Slc) (r:List α),us[i]? = some u→L[i]? = some r→Rep E W u.v r):=by
  refine LocR.all (Nat.le_refl _) fun i=>LocR.all (Nat.le_refl _) fun u=>LocR.all (Nat.le_refl _) fun r=>LocR.imp (Nat.le_refl _) fun hu=>LocR.imp (Nat.le_refl _) fun hr => ?_
  obtain ⟨d,hd⟩:=get_of_lt (xs:=ds) (k:=i) (by rw [h.ld];exact (List.getElem?_eq_some_iff.1 hr).1)
  obtain ⟨r1,r2⟩:=h.rows i u d r hu hd hr
  exact ((LocR.own h2 r2.now.1).wide r1 (Nat.le_refl _) (Nat.le_refl _)).map fun V k=>k.rep
 refine (k1.and k2).map fun V ⟨ha,hb⟩ k r hr => ?_
 obtain ⟨u,hu⟩:=get_of_lt (xs:=us) (k:=k) (by rw [h.lu];exact (List.getElem?_eq_some_iff.1 hr).1)
 rcases ha.shape with ⟨-,hn⟩ | ⟨g,cap,hv, -⟩
 ·rw [hn] at hu;simp at hu
 ·simp only [Value.slice.injEq] at hv
  obtain ⟨rfl,rfl,rfl⟩:=hv
  obtain ⟨z1,z2, -⟩:=ha.slcc hu
  exact ⟨u,g,rfl,z1,z2,hb k u r hu hr⟩
theorem RowsI.locO {w:World} {base:Nat} {s:Slc} {L:List (List Int)} (h:RowsI w base s.v L):∃ us:List Slc,LocR 27 base w.heap.size w (fun W=>PhiO ⟨base,w.heap.size,us⟩ W s L):=by
 obtain ⟨us,ds,h⟩:=h
 have k1:=LocR.own (T:=27) (by decide) h.own
 have k2:LocR 27 base w.heap.size w (fun W => ∀ (i:Nat) (u:Slc) (r:List Int),us[i]? = some u→L[i]? = some r→Rep IntE W u.v r):=by
  refine LocR.all (Nat.le_refl _) fun i=>LocR.all (Nat.le_refl _) fun u=>LocR.all (Nat.le_refl _) fun r=>LocR.imp (Nat.le_refl _) fun hu=>LocR.imp (Nat.le_refl _) fun hr => ?_
  obtain ⟨d,hd⟩:=get_of_lt (xs:=ds) (k:=i) (by rw [h.ld];exact (List.getElem?_eq_some_iff.1 hr).1)
  obtain ⟨r1,r2⟩:=h.rows i u d r hu hd hr
  exact ((LocR.own (by decide) r2.now.1).wide r1 (Nat.le_refl _) (Nat.le_refl _)).map fun V k=>k.rep
 exact ⟨us,(k1.and k2).map fun V ⟨a,b⟩=>⟨h.lu,a.rep,b⟩⟩
theorem RowsO.app {us:List Slc} {ds:List Dd} {w w1 w2:World} {base:Nat} {v v':Value} {L:List (List (List Int))} (h:OwnFU SlcE 27 Rany PhiO us ds w base v L) (hb:Below w.heap.size w w1) {lo:Nat} (hlo:base≤lo) {o:List (List Int)} {s:Slc} {ob:Obj}
 (hu:RowsI w1 lo s.v o) (ho:Own SlcE 27 w2 base v' (us++[s])) (hg:(w1.alloc ob).grownBy w2 v.ownBlock):RowsO w2 base v' (L++[o]):=by
 have hba:=(Below.refl w1.heap.size w1).alloc (Nat.le_refl _) ob
 obtain ⟨xs,hx⟩:=hu.locO
 exact ⟨us++[s],ds++[⟨lo,w1.heap.size,xs⟩],OwnFU.app (d:=⟨lo,w1.heap.size,xs⟩) ((h.below hb).below hba) ho hg hlo (hx.below hba) (fun _ _=>trivial)⟩
def Reads2 (w:World) (Ps:List (List (Slc × List Int))):Prop:=∀ c∈Ps,∀ q∈c,Rep IntE w q.1.v q.2
theorem Reads2.below {w w':World} {Ps:List (List (Slc × List Int))} (h:Reads2 w Ps) (hb:Below w.heap.size w w'):Reads2 w' Ps:=fun c hc q hq=>(h c hc q hq).below hb
theorem RowsO.pairs {w:World} {base:Nat} {v:Value} {L:List (List (List Int))} (h:RowsO w base v L):∃ Ps:List (List (Slc × List Int)),L=Ps.map (List.map Prod.snd)∧Rep2 SlcE w v (Ps.map (List.map Prod.fst))∧Reads2 w Ps:=by
 obtain ⟨us,ds,h⟩:=h
 have hz:∀ (i:Nat) (d:Dd) (l:List (List Int)),ds[i]? = some d→L[i]? = some l→d.us.length=l.length:=fun i d l h1 h2=>by
  obtain ⟨u,hu⟩:=get_of_lt (xs:=us) (k:=i) (by rw [h.lu];exact (List.getElem?_eq_some_iff.1 h2).1)
  exact (h.rows i u d l hu h1 h2).2.now.1
 refine ⟨(ds.zip L).map fun q=>q.1.us.zip q.2, ?_, ?_, ?_⟩
 ·apply List.ext_getElem?
  intro i
  simp only [List.getElem?_map,List.map_map]
  cases hL:L[i]? with
  | none=>rw [List.getElem?_eq_none (by simp;have:=List.getElem?_eq_none_iff.1 hL;omega)];rfl
  | some l =>
   obtain ⟨d,hd⟩:=get_of_lt (xs:=ds) (k:=i) (by rw [h.ld];exact (List.getElem?_eq_some_iff.1 hL).1)
   have hzl:(ds.zip L)[i]? = some (d,l):=List.getElem?_zip_eq_some.2 ⟨hd,hL⟩
   rw [hzl]
   simp only [Option.map_some,Function.comp,Option.some.injEq]
   rw [List.map_snd_zip (by rw [hz i d l hd hL];exact Nat.le_refl _)]
 ·refine ⟨us,by simp [h.lu,h.ld],h.own.rep,fun i u r h1 h2 => ?_⟩
  simp only [List.getElem?_map,List.map_map] at h2
  cases hL:L[i]? with
  | none=>rw [List.getElem?_eq_none (by simp;have:=List.getElem?_eq_none_iff.1 hL;omega)] at h2;cases h2
  | some l =>
   obtain ⟨d,hd⟩:=get_of_lt (xs:=ds) (k:=i) (by rw [h.ld];exact (List.getElem?_eq_some_iff.1 hL).1)
   have hzl:(ds.zip L)[i]? = some (d,l):=List.getElem?_zip_eq_some.2 ⟨hd,hL⟩
   rw [hzl] at h2
   simp only [Option.map_some,Function.comp,Option.some.injEq] at h2
   rw [List.map_fst_zip (by rw [hz i d l hd hL];exact Nat.le_refl _)] at h2
   subst h2
   exact (h.rows i u d l h1 hd hL).2.now.2.1
 ·intro c hc q hq
  obtain ⟨⟨d,l⟩,hm,rfl⟩:=List.mem_map.1 hc
  obtain ⟨i,hi⟩:=List.mem_iff_getElem?.1 hm
  obtain ⟨hd,hL⟩:=List.getElem?_zip_eq_some.1 hi
  obtain ⟨j,hj⟩:=List.mem_iff_getElem?.1 hq
  obtain ⟨e1,e2⟩:=List.getElem?_zip_eq_some.1 hj
  obtain ⟨u,hu⟩:=get_of_lt (xs:=us) (k:=i) (by rw [h.lu];exact (List.getElem?_eq_some_iff.1 hL).1)
  exact (h.rows i u d l hu hd hL).2.now.2.2 j q.1 q.2 e1 e2
theorem prodR_read {w:World} {Ps:List (List (Slc × List Int))} (h:Reads2 w Ps) {j:Nat} {o:List (List Int)} (ho:(prodR (Ps.map (List.map Prod.snd)))[j]? = some o) :
 ∃ r:List Slc,(prodR (Ps.map (List.map Prod.fst)))[j]? = some r∧r.length=o.length∧∀ (i:Nat) (s:Slc) (x:List Int),r[i]? = some s→o[i]? = some x→Rep IntE w s.v x:=by
 rw [prodR_map,List.getElem?_map] at ho
 cases hq:(prodR Ps)[j]? with
 | none=>rw [hq] at ho;cases ho
 | some q =>
  rw [hq] at ho
  simp only [Option.map_some,Option.some.injEq] at ho
  subst ho
  refine ⟨q.map Prod.fst,by rw [prodR_map,List.getElem?_map,hq];rfl,by simp,fun i s x h1 h2 => ?_⟩
  rw [List.getElem?_map] at h1 h2
  cases hp:q[i]? with
  | none=>rw [hp] at h1;cases h1
  | some y =>
   rw [hp] at h1 h2
   simp only [Option.map_some,Option.some.injEq] at h1 h2
   subst h1;subst h2
   obtain ⟨c,hc,hy⟩:=prodR_mem Ps q (List.mem_of_getElem? hq) y (List.mem_of_getElem? hp)
   exact h c hc y hy
theorem chsF_get {es:List Ev} {k:Nat} {e:Ev} (h:es[k]? = some e):(chsF es)[k]? = some (if e.r=true then (wrL es e.l).filter (fun x => !(x==(k:Int))) else [-1]):=by
 obtain ⟨hk,rfl⟩:=List.getElem?_eq_some_iff.1 h
 simp [chsF,hk,chF]
theorem chsF_length (es:List Ev):(chsF es).length=es.length:=by simp [chsF]
theorem chsF_row {es:List Ev} {c:List Int} (h:c∈chsF es):c.length≤es.length+1:=by
 obtain ⟨i,hi,rfl⟩:=List.mem_map.1 h
 unfold chF
 split
 ·split
  ·have h1:=List.length_filter_le (fun x => !(x==(i:Int))) (wrL es ‹Ev›.l)
   have:=wrL_length es ‹Ev›.l
   omega
  ·simp
 ·simp
theorem chsO_get (es:List Ev) {k:Nat} (h:k < 3):(chsO es)[k]? = some (chO es k):=by simp [chsO,h]
theorem chsO_length (es:List Ev):(chsO es).length=3:=by simp [chsO]
end Go.Proofs.YtkfhgnkonaafgaaGreatDoor