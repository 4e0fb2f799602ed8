/-
  Conflicts and the list of all instructions. No condition but bounds on lengths.
-/
import Derived.Test.YtlddmagfbcomgaaGreatZq23
import Derived.Test.YtlddmagfbcomgaaGreatZq02
set_option maxHeartbeats 6400000
set_option maxRecDepth 100000
namespace Go.Proofs.YtlddmagfbcomgaaGreat
open Go.RowKit
theorem conflict_raw (a0 a1 a2 a3 b0 b1 b2 b3:Int) (w:World) :
 Calls Tryz.prog 69 #[.agg #[.int .i64 a0, .int .i64 a1, .int .i64 a2, .int .i64 a3], .agg #[.int .i64 b0, .int .i64 b1, .int .i64 b2, .int .i64 b3]] w fun e w'=>e = .returned (.bool (conflictR a0 a1 b0 b1))∧Below w.heap.size w w':=by
 have CR:Hid (conflictR a0 a1 b0 b1=(a0 != 4&&b0 != 4&&a1==b1&&(isWop a0||isWop b0))):=hide rfl
 generalize conflictR a0 a1 b0 b1=R at *
 have W1:=fun w'=>writes_raw a0 a1 a2 a3 w'
 have W2:=fun w'=>writes_raw b0 b1 b2 b3 w'
 generalize isWop a0=x at *
 generalize isWop b0=y at *
 have HW1:=hide W1;have HW2:=hide W2;clear W1 W2
 have hbase:=((Below.refl w.heap.size w).alloc (Nat.le_refl _) (.cells #[.int .i64 a0, .int .i64 a1, .int .i64 a2, .int .i64 a3] 74)).alloc (by simp) (.cells #[.int .i64 b0, .int .i64 b1, .int .i64 b2, .int .i64 b3] 74)
 have HB:=hide hbase;clear hbase
 by_cases h1:a0=4
 ·have g1:(a0 != 4)=false:=by simp [h1]
  have E:Hid (R=false):=hide (by rw [CR.out,g1];rfl)
  clear h1
  go_enter Tryz.func69,Tryz.ntmps69
  go_wp2_with fail
  go_ret
  rw [E.out];exact ⟨rfl,HB.out⟩
 ·have g1:(a0 != 4)=true:=by simp [h1]
  clear h1
  by_cases h2:b0=4
  ·have g2:(b0 != 4)=false:=by simp [h2]
   have E:Hid (R=false):=hide (by rw [CR.out,g1,g2];rfl)
   clear h2
   go_enter Tryz.func69,Tryz.ntmps69
   go_wp2_with fail
   go_ret
   rw [E.out];exact ⟨rfl,HB.out⟩
  ·have g2:(b0 != 4)=true:=by simp [h2]
   clear h2
   by_cases h3:a1=b1
   ·have g3:(a1==b1)=true:=by simp [h3]
    have E:Hid (R=(x||y)):=hide (by rw [CR.out,g1,g2,g3];rfl)
    clear h3
    cases x
    ·go_enter Tryz.func69,Tryz.ntmps69
     go_wp2_with fail
     (with_reducible refine (HW1.out _).mono ?_);rintro e w1 ⟨rfl,hb1⟩
     obtain ⟨hc1,hf1⟩:=bcell hb1
     go_wp2_with fail
     (with_reducible refine (HW2.out _).mono ?_);rintro e w2 ⟨rfl,hb2⟩
     go_wp2_with fail
     go_ret
     rw [E.out]
     exact ⟨by simp,(HB.out.trans (hb1.mono HB.out.size)).trans (hb2.mono (by have:=HB.out.size;have:=hb1.size;omega))⟩
    ·go_enter Tryz.func69,Tryz.ntmps69
     go_wp2_with fail
     (with_reducible refine (HW1.out _).mono ?_);rintro e w1 ⟨rfl,hb1⟩
     go_wp2_with fail
     go_ret
     rw [E.out]
     exact ⟨by simp,HB.out.trans (hb1.mono HB.out.size)⟩
   ·have g3:(a1==b1)=false:=by simp [h3]
    have E:Hid (R=false):=hide (by rw [CR.out,g1,g2,g3];rfl)
    clear h3
    go_enter Tryz.func69,Tryz.ntmps69
    go_wp2_with fail
    go_ret
    rw [E.out];exact ⟨rfl,HB.out⟩
theorem l10Conflict_raw (a0 a1 a2 a3 b0 b1 b2 b3:Int) (w:World) :
 Calls Tryz.prog 119 #[.agg #[.int .i64 a0, .int .i64 a1, .int .i64 a2, .int .i64 a3], .agg #[.int .i64 b0, .int .i64 b1, .int .i64 b2, .int .i64 b3]] w fun e w'=>e = .returned (.bool (conflictR a0 a1 b0 b1))∧Below w.heap.size w w':=by
 have CR:Hid (conflictR a0 a1 b0 b1=(a0 != 4&&b0 != 4&&a1==b1&&(isWop a0||isWop b0))):=hide rfl
 generalize conflictR a0 a1 b0 b1=R at *
 have W1:=fun w'=>l1Writes_raw a0 a1 a2 a3 w'
 have W2:=fun w'=>l1Writes_raw b0 b1 b2 b3 w'
 generalize isWop a0=x at *
 generalize isWop b0=y at *
 have HW1:=hide W1;have HW2:=hide W2;clear W1 W2
 have hbase:=((Below.refl w.heap.size w).alloc (Nat.le_refl _) (.cells #[.int .i64 a0, .int .i64 a1, .int .i64 a2, .int .i64 a3] 74)).alloc (by simp) (.cells #[.int .i64 b0, .int .i64 b1, .int .i64 b2, .int .i64 b3] 74)
 have HB:=hide hbase;clear hbase
 by_cases h1:a0=4
 ·have g1:(a0 != 4)=false:=by simp [h1]
  have E:Hid (R=false):=hide (by rw [CR.out,g1];rfl)
  clear h1
  go_enter Tryz.func119,Tryz.ntmps119
  go_wp2_with fail
  go_ret
  rw [E.out];exact ⟨rfl,HB.out⟩
 ·have g1:(a0 != 4)=true:=by simp [h1]
  clear h1
  by_cases h2:b0=4
  ·have g2:(b0 != 4)=false:=by simp [h2]
   have E:Hid (R=false):=hide (by rw [CR.out,g1,g2];rfl)
   clear h2
   go_enter Tryz.func119,Tryz.ntmps119
   go_wp2_with fail
   go_ret
   rw [E.out];exact ⟨rfl,HB.out⟩
  ·have g2:(b0 != 4)=true:=by simp [h2]
   clear h2
   by_cases h3:a1=b1
   ·have g3:(a1==b1)=true:=by simp [h3]
    have E:Hid (R=(x||y)):=hide (by rw [CR.out,g1,g2,g3];rfl)
    clear h3
    cases x
    ·go_enter Tryz.func119,Tryz.ntmps119
     go_wp2_with fail
     (with_reducible refine (HW1.out _).mono ?_);rintro e w1 ⟨rfl,hb1⟩
     obtain ⟨hc1,hf1⟩:=bcell hb1
     go_wp2_with fail
     (with_reducible refine (HW2.out _).mono ?_);rintro e w2 ⟨rfl,hb2⟩
     go_wp2_with fail
     go_ret
     rw [E.out]
     exact ⟨by simp,(HB.out.trans (hb1.mono HB.out.size)).trans (hb2.mono (by have:=HB.out.size;have:=hb1.size;omega))⟩
    ·go_enter Tryz.func119,Tryz.ntmps119
     go_wp2_with fail
     (with_reducible refine (HW1.out _).mono ?_);rintro e w1 ⟨rfl,hb1⟩
     go_wp2_with fail
     go_ret
     rw [E.out]
     exact ⟨by simp,HB.out.trans (hb1.mono HB.out.size)⟩
   ·have g3:(a1==b1)=false:=by simp [h3]
    have E:Hid (R=false):=hide (by rw [CR.out,g1,g2,g3];rfl)
    clear h3
    go_enter Tryz.func119,Tryz.ntmps119
    go_wp2_with fail
    go_ret
    rw [E.out];exact ⟨rfl,HB.out⟩
theorem l10Plain_raw (a0 a1 a2 a3:Int) (w:World):Calls Tryz.prog 120 #[.agg #[.int .i64 a0, .int .i64 a1, .int .i64 a2, .int .i64 a3]] w fun e w'=>e = .returned (.bool (a0 != 5))∧Below w.heap.size w w':=by
 go_enter Tryz.func120,Tryz.ntmps120
 go_wp2
 go_ret
 exact ⟨rfl,(Below.refl _ _).alloc (Nat.le_refl _) _⟩
theorem instrs_any (v:Value) (p:List (List Ins)) (w:World) (hp:RepP w v p) (hl:p.flatten.length≤1048576) :
 Calls Tryz.prog 68 #[v] w (RetOwn GapE 64 w (insAll p)):=by
 obtain ⟨a,c,rfl,hc1,hc2,hc3,hp⟩:=hp.open
 have HP:=hide hp;clear hp
 have HL:=hide hl;clear hl
 have PP:Hid (insAll p=instrsTo p p.length):=hide rfl
 have HGL:=hide (instrsTo_length p)
 generalize hn:p.length=n at *
 have H:=hide hn;clear hn
 go_enter Tryz.func68,Tryz.ntmps68
 go_wp2_with fail
 go_loopw [3,9] (fun s i wr => ∃ j:Nat,j≤n∧i = .int .i64 j∧OwnG wr w.heap.size s (instrsTo p j)∧Below w.heap.size w wr) (fun _ i _=>n - (intOf i).toNat)
 case atStart=>exact ⟨0,by omega,rfl,World.ownsRow_nil _ _ _ _,Below.refl _ _⟩
 case round =>
  obtain ⟨j,hj,rfl,hown,hb2⟩:=hrel
  by_cases hlt2:j < n
  ·obtain ⟨x,hxk⟩:=get_of_lt (xs:=p) (k:=j) (by rw [H.out];exact hlt2)
   obtain ⟨b,o,ra,rc,rfl,hbl,i0,i1⟩:=(HP.out.below hb2).row hxk
   have hlt2':=nat_of_lt hlt2
   have GS:=hide (instrsTo_succ hxk)
   have hgl:(instrsTo p j).length≤1048576:=by rw [HGL.out j hj];exact Nat.le_trans (flatten_take_le p j) HL.out
   have hxl:=Nat.le_trans (row_le_flatten hxk) HL.out
   clear hxk i1
   generalize hG:instrsTo p j=G at *
   clear hG
   have HO:=hide hown;clear hown
   go_wp2_with fail
   go_loopw [3,16] (fun s i wr => ∃ t:Nat,t≤x.length∧i = .int .i64 t∧OwnG wr w.heap.size s (G++rowIns j t)∧Below w.heap.size w wr) (fun _ i _=>x.length - (intOf i).toNat)
   case atStart=>exact ⟨0,by omega,rfl,by simpa [rowIns] using HO.out,hb2⟩
   case round =>
    obtain ⟨t,ht,rfl,hown,hb3⟩:=hrel
    by_cases hlt3:t < x.length
    ·have hlt3':=nat_of_lt hlt3
     have ST:=hide (rowIns_succ j t)
     have hlen:(G++rowIns j t).length≤68719476736:=by rw [List.length_append,rowIns_length];omega
     generalize hRG:rowIns j t=RG at *
     clear hRG
     go_wp2_with (at_builtin;refine wpList_app GapE 64 Tryz.infoGap rfl Tryz.underlying24 w.heap.size _ _ ⟨(j:Int),(t:Int)⟩ (hown.alloc _) (by decide) hlen (by simp;have:=hb3.size;omega) rfl _ _ rfl rfl wr.heap.size 0 1 rfl news_alloc ?_;intro v' w1 hown1 hgr1)
     have hb4:=below_app hb3 hown hgr1
     go_roundw
     case rel=>exact ⟨t+1,by omega,by go_num,by rw [ST.out,← List.append_assoc];exact hown1,hb4⟩
     case measure=>simp [intOf];omega
    ·have e:t=x.length:=by omega
     rw [e] at hown
     go_wp2_with fail
     go_roundw
     case rel=>exact ⟨j+1,by omega,by go_num,by rw [GS.out];exact hown,hb3⟩
     case measure=>simp [intOf];omega
  ·have e:j=n:=by omega
   go_wp2_with fail
   go_ret
   rw [PP.out,← e]
   exact ⟨_,rfl,hown,hb2⟩
end Go.Proofs.YtlddmagfbcomgaaGreat