/-
  The reference's list of events. Condition: bounds on lengths.
-/
import Derived.Test.YtlddmagfbcomgaaGreatZq02
set_option maxHeartbeats 6400000
set_option maxRecDepth 100000
namespace Go.Proofs.YtlddmagfbcomgaaGreat
open Go.RowKit
theorem l6Events_any (v:Value) (p:List (List Ins)) (w:World) (hp:RepP w v p) (hl:p.flatten.length≤1048576) :
 Calls Tryz.prog 158 #[v] w (RetOwn EvE 112 w (evAll p)):=by
 obtain ⟨a,c,rfl,hc1,hc2,hc3,hp⟩:=hp.open
 have HP:=hide hp;clear hp
 have HL:=hide hl;clear hl
 have PP:Hid (evAll p=evHead 3++evTo p p.length):=hide rfl
 have HGL:=hide (evTo_length p)
 generalize hn:p.length=n at *
 have H:=hide hn;clear hn
 go_enter Tryz.func158,Tryz.ntmps158
 go_wp2_with fail
 go_loopw [3,4] (fun s i wr => ∃ j:Nat,j≤3∧i = .int .i64 j∧OwnE wr w.heap.size s (evHead j)∧Below w.heap.size w wr) (fun _ i _=>3 - (intOf i).toNat)
 case atStart=>exact ⟨0,by omega,rfl,Own.empty (E:=EvE) _ w (Nat.le_refl _),(Below.refl _ _).alloc (Nat.le_refl _) _⟩
 case round =>
  obtain ⟨j,hj,rfl,hown,hb⟩:=hrel
  by_cases hlt:j < 3
  ·have hlt':(j:Int)≤2:=by omega
   have HS:=hide (evHead_succ j)
   have hlen:(evHead j).length≤68719476736:=by rw [evHead_length];omega
   generalize evHead j=G at *
   go_wp2_with (at_builtin;refine wpList_app EvE 112 Tryz.infoEvent rfl Tryz.underlying108 w.heap.size _ _ ⟨-1,(j:Int),(j:Int),false,true⟩ (hown.alloc _) (by decide) hlen (by simp;have:=hb.size;omega) rfl _ _ rfl rfl wr.heap.size 0 1 rfl news_alloc ?_;intro v' w1 hown1 hgr1)
   have hb1:=below_app hb hown hgr1
   go_roundw
   case rel=>exact ⟨j+1,by omega,by go_num,by rw [HS.out];exact hown1,hb1⟩
   case measure=>simp [intOf];omega
  ·obtain rfl:j=3:=by omega
   have E3:Hid (evHead 3=evHead 3++evTo p 0):=hide (by simp [evTo])
   have H3:Hid ((evHead 3).length=3):=hide (evHead_length 3)
   generalize evHead 3=G3 at *
   go_wp2_with fail
   go_loopw [3,5] (fun s i wr => ∃ j:Nat,j≤n∧i = .int .i64 j∧OwnE wr w.heap.size s (G3++evTo p j)∧Below w.heap.size w wr) (fun _ i _=>n - (intOf i).toNat)
   case atStart=>exact ⟨0,by omega,rfl,by rw [← E3.out];exact hown,hb⟩
   case round =>
    obtain ⟨j,hj,rfl,hown,hb2⟩:=hrel
    by_cases hlt2:j < n
    ·obtain ⟨x,hxk⟩:=get_of_lt (xs:=p) (k:=j) (by rw [H.out];exact hlt2)
     obtain ⟨b,o,ra,rc,rfl,hbl0,i00,i1⟩:=HP.out.row hxk
     have i0:=(hb2.cell (p:=⟨b,o+j,none⟩) hbl0).trans i00
     have hbl:b < wr.heap.size:=by have:=hb2.size;omega
     have I1:=hide i1
     have hlt2':=nat_of_lt hlt2
     have GS:=hide (evTo_succ hxk)
     have hgl:(evTo p j).length≤1048576:=Nat.le_trans (HGL.out j (by omega)) (Nat.le_trans (flatten_take_le p j) HL.out)
     have hxl:=Nat.le_trans (row_le_flatten hxk) HL.out
     have I00:=hide i00
     clear hxk i1 i00
     generalize hG:evTo p j=G at *
     clear hG
     have HO:=hide hown;clear hown
     go_wp2_with fail
     go_loopw [3,6] (fun s i wr => ∃ t:Nat,t≤x.length∧i = .int .i64 t∧OwnE wr w.heap.size s (G3++(G++evRow j x t))∧Below w.heap.size w wr) (fun _ i _=>x.length - (intOf i).toNat)
     case atStart=>exact ⟨0,by omega,rfl,by simpa [evRow] using HO.out,hb2⟩
     case round =>
      obtain ⟨t,ht,rfl,hown,hb3⟩:=hrel
      have i0:=(hb3.cell (p:=⟨b,o+j,none⟩) hbl0).trans I00.out
      have hbl:b < wr.heap.size:=by have:=hb3.size;omega
      by_cases hlt3:t < x.length
      ·obtain ⟨y,hy⟩:=get_of_lt (xs:=x) (k:=t) hlt3
       obtain ⟨d1,e1,rfl,hd1,q0,q1,q2,q3⟩:=(I1.out.below hb3).ins hy
       have hlt3':=nat_of_lt hlt3
       have RS:=hide (evRow_succ (t:=j) hy)
       have hrl:=evRow_length j x t
       have Y:=hide hy;clear hy
       by_cases hop:y.op=4
       ·have k1:(y.op != 4)=false:=by simp [hop]
        have RS2:Hid (evRow j x (t+1)=evRow j x t):=hide (by rw [RS.out,evOf,if_pos hop,List.append_nil])
        clear hop
        go_wp2_with fail
        go_roundw
        case rel=>exact ⟨t+1,by omega,by go_num,by rw [RS2.out];exact hown.alloc _,hb3.alloc hb3.size _⟩
        case measure=>simp [intOf];omega
       ·have k1:(y.op != 4)=true:=by simp [hop]
        have RS2:Hid (evRow j x (t+1)=evRow j x t++[⟨j,t,y.loc,isRop y.op,isWop y.op⟩]):=hide (by rw [RS.out,evOf,if_neg hop])
        have hlen:(G3++(G++evRow j x t)).length≤68719476736:=by rw [List.length_append,List.length_append,H3.out];omega
        clear hop hrl
        generalize evRow j x t=RG at *
        have HO3:=hide (hown.alloc (.cells #[.int .i64 y.op, .int .i64 y.loc, .int .i64 y.reg, .int .i64 y.val] 74))
        have HB3:=hide (hb3.alloc hb3.size (.cells #[.int .i64 y.op, .int .i64 y.loc, .int .i64 y.reg, .int .i64 y.val] 74))
        have HRd:=hide (fun w'=>l1Reads_raw y.op y.loc y.reg y.val w')
        have HWr:=hide (fun w'=>l1Writes_raw y.op y.loc y.reg y.val w')
        generalize isRop y.op=rb at *
        generalize isWop y.op=wb at *
        have HOW:=hide hown
        clear hown
        go_wp2_with fail
        go_region_held3 (fun V=>V.cell? ⟨wr.heap.size,0,none⟩=some (.int .i64 y.op)∧V.cell? ⟨wr.heap.size,1,none⟩=some (.int .i64 y.loc)∧V.cell? ⟨wr.heap.size,2,none⟩=some (.int .i64 y.reg)∧V.cell? ⟨wr.heap.size,3,none⟩=some (.int .i64 y.val)) ((simp [go_sem, *]))
         (first
          | (go_at_call 133;(with_reducible refine (HRd.out _).mono ?_);rintro e u1 ⟨rfl,hb4⟩;have hb5:=hide (HB3.out.drew.trans (hb4.mono HB3.out.drew.size));have hO5:=hide ((HO3.out.below (Below.refl _ _).drew).below hb4);obtain ⟨hc4,hf4⟩:=bcell hb4)
          | (go_at_call 134;(with_reducible refine (HWr.out _).mono ?_);rintro e u2 ⟨rfl,hb6⟩;have hb7:=hide (hb5.out.trans (hb6.mono hb5.out.size));have hO7:=hide (hO5.out.below hb6);obtain ⟨hc6,hf6⟩:=bcell (hb4.trans (hb6.mono hb4.size));have hz6:wr.heap.size < u2.heap.size:=(by have h1:=hb4.size;have h2:=hb6.size;simp at h1;omega))
          | (refine step_app EvE 112 Tryz.infoEvent rfl Tryz.underlying108 w.heap.size _ _ ⟨(j:Int),(t:Int),y.loc,rb,wb⟩ (hO7.out.alloc _) (by decide) hlen (by have:=hb7.out.size;simp;omega) (by rfl) _ _ (by rfl) (by rfl) u2.heap.size 0 1 (by rfl) news_alloc ?_;intro v' w6 hown6 hgr6;have hk6:(∀ o,w6.cell? ⟨wr.heap.size,o,none⟩=u2.cell? ⟨wr.heap.size,o,none⟩):=(kept_cell hgr6 hz6 (fun q hq=>by have:=(World.ownsRow.lt HOW.out q hq).2;omega))))
        have hb8:=below_app hb7.out hO7.out hgr6
        go_wp2_with fail
        go_roundw
        case rel =>
         have hown7:OwnE w6 w.heap.size v' (G3++(G++evRow j x (t+1))):=by rw [RS2.out];simpa [List.append_assoc] using hown6
         repeat apply Exists.intro
         exact ⟨⟨t+1,by omega,by go_num,hown7,hb8⟩,rfl⟩
        case measure=>simp [intOf];omega
      ·have e:t=x.length:=by omega
       rw [e] at hown
       go_wp2_with fail
       go_roundw
       case rel=>exact ⟨j+1,by omega,by go_num,by rw [GS.out];exact hown,hb3⟩
       case measure=>simp [intOf];omega
    ·have e:j=n:=by omega
     go_wp2_with fail
     go_ret
     rw [PP.out,← e]
     exact ⟨_,rfl,hown,hb2⟩
end Go.Proofs.YtlddmagfbcomgaaGreat