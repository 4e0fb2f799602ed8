/-
  The programs that are drawn for ProgramValid and GapsOf. Condition: bytes.
-/
import Derived.Test.YtkfhgnkonaafgaaGreatDoorZs21
import Derived.Test.YtkfhgnkonaafgaaGreatDoorZs22
import Derived.Test.YtkfhgnkonaafgaaGreatDoorZs09
import Derived.Test.YtkfhgnkonaafgaaGreatDoorZs23
set_option maxHeartbeats 6400000
set_option maxRecDepth 100000
namespace Go.Proofs.YtkfhgnkonaafgaaGreatDoor
open Go.RowKit
theorem byteR_get (s:ByteArray) (i:Int) (h:i.toNat < s.size):s.data.toList[i.toNat]? = some (s[i.toNat]'h):=by
 rw [Array.getElem?_toList,Array.getElem?_eq_getElem (show i.toNat < s.data.size from h)]
 rfl
theorem byteR_none (s:ByteArray) (i:Int) (h:(s.size:Int)≤i):s.data.toList[i.toNat]? = none:=by
 rw [Array.getElem?_toList,Array.getElem?_eq_none (show s.data.size≤i.toNat by have:s.data.size=s.size:=rfl;omega)]
theorem u8R_ne {a b:UInt8} (h:a≠b):((a.toNat:Int)==(b.toNat:Int))=false:=by
 rw [beq_eq_false_iff_ne]
 intro e
 exact h (UInt8.toNat_inj.1 (by omega))
theorem isAt_yes {s:ByteArray} {i:Int} {k:UInt8} (h:isAt s i k=true):0≤i∧i < s.size∧∃ hg:i.toNat < s.size,s[i.toNat]'hg=k:=by
 unfold isAt at h
 rw [Bool.and_eq_true,decide_eq_true_eq,beq_iff_eq] at h
 obtain ⟨h0,h1⟩:=h
 by_cases hi:i < s.size
 ·have hg:i.toNat < s.size:=by omega
  refine ⟨h0,hi,hg, ?_⟩
  rw [byteR_get s i hg] at h1
  exact Option.some.inj h1
 ·rw [byteR_none s i (by omega)] at h1
  cases h1
theorem isAt_no {s:ByteArray} {i:Int} {k:UInt8} (h:isAt s i k=false) (h0:0≤i) (hg:i.toNat < s.size):s[i.toNat]'hg≠k:=by
 intro e
 unfold isAt at h
 rw [byteR_get s i hg,e] at h
 simp [h0] at h
theorem isAt_any (s:ByteArray) (i:Int) (k:UInt8) (c:Int) (hk:(k.toNat:Int)=c) (w:World) :
 Calls Tryz.prog 237 #[.string s, .int .i64 i, .int .u8 c] w fun e w'=>e = .returned (.bool (isAt s i k))∧w=w':=by
 have E:Hid (isAt s i k=(decide (0≤i)&&(s.data.toList[i.toNat]? == some k))):=hide rfl
 generalize isAt s i k=r at *
 by_cases h0:0≤i
 ·have t0:decide (i≥0)=true:=decide_eq_true h0
  by_cases h1:i < s.size
  ·have t1:decide (i < (s.size:Int))=true:=decide_eq_true h1
   have hg:i.toNat < s.size:=by omega
   have hii:0≤i∧i < s.size:=⟨h0,h1⟩
   rw [byteR_get s i hg] at E
   have hu:((s[i.toNat]'hg).toNat:Int)≤255:=by have:=(s[i.toNat]'hg).toNat_lt;omega
   by_cases h2:(s[i.toNat]'hg)=k
   ·have t2:(((s[i.toNat]'hg).toNat:Int)==c)=true:=by rw [beq_iff_eq,h2,hk]
    obtain rfl:r=true:=by rw [E.out,h2];simp [h0]
    clear E h2
    go_enter Tryz.func237,Tryz.ntmps237
    go_wp2_with fail
    go_ret
    exact ⟨rfl,rfl⟩
   ·have t2:(((s[i.toNat]'hg).toNat:Int)==c)=false:=by
     rw [← hk];exact u8R_ne h2
    obtain rfl:r=false:=by rw [E.out];simp [h2]
    clear E h2
    go_enter Tryz.func237,Tryz.ntmps237
    go_wp2_with fail
    go_ret
    exact ⟨rfl,rfl⟩
  ·have t1:decide (i < (s.size:Int))=false:=decide_eq_false h1
   obtain rfl:r=false:=by rw [E.out,byteR_none s i (by omega)];simp
   clear E
   go_enter Tryz.func237,Tryz.ntmps237
   go_wp2_with fail
   go_ret
   exact ⟨rfl,rfl⟩
 ·have t0:decide (i≥0)=false:=decide_eq_false h0
  obtain rfl:r=false:=by rw [E.out];simp [h0]
  clear E
  go_enter Tryz.func237,Tryz.ntmps237
  go_wp2_with fail
  go_ret
  exact ⟨rfl,rfl⟩
theorem l7Level_any (o:Int) (w:World):Calls Tryz.prog 228 #[.int .i64 o] w fun e w'=>e = .returned (.int .i64 (lvlR o))∧w=w':=by
 by_cases h2:o=2
 ·subst h2
  go_enter Tryz.func228,Tryz.ntmps228
  go_wp2
  go_ret
  exact ⟨rfl,rfl⟩
 by_cases h3:o=3
 ·subst h3
  go_enter Tryz.func228,Tryz.ntmps228
  go_wp2
  go_ret
  exact ⟨rfl,rfl⟩
 by_cases h4:o=4
 ·subst h4
  go_enter Tryz.func228,Tryz.ntmps228
  go_wp2
  go_ret
  exact ⟨rfl,rfl⟩
 by_cases h5:o=5
 ·subst h5
  go_enter Tryz.func228,Tryz.ntmps228
  go_wp2
  go_ret
  exact ⟨rfl,rfl⟩
 have g2:(o==2)=false:=by simp [h2]
 have g3:(o==3)=false:=by simp [h3]
 have g4:(o==4)=false:=by simp [h4]
 have g5:(o==5)=false:=by simp [h5]
 have hk:lvlR o=0:=by simp [lvlR,h2,h3,h4,h5]
 rw [hk]
 clear hk h2 h3 h4 h5
 go_enter Tryz.func228,Tryz.ntmps228
 go_wp2
 go_ret
 exact ⟨rfl,rfl⟩
theorem l7Sign_0 (w:World):Calls Tryz.prog 226 #[.int .i64 0] w fun e w'=>e = .returned (.string (sgnR 0))∧Below w.heap.size w w':=by
 go_enter Tryz.func226,Tryz.ntmps226
 go_wp2
 go_ret
 exact ⟨rfl,belowAlloc _ _⟩
theorem l7Sign_1 (w:World):Calls Tryz.prog 226 #[.int .i64 1] w fun e w'=>e = .returned (.string (sgnR 1))∧Below w.heap.size w w':=by
 go_enter Tryz.func226,Tryz.ntmps226
 go_wp2
 go_ret
 exact ⟨rfl,belowAlloc _ _⟩
theorem l7Sign_2 (w:World):Calls Tryz.prog 226 #[.int .i64 2] w fun e w'=>e = .returned (.string (sgnR 2))∧Below w.heap.size w w':=by
 go_enter Tryz.func226,Tryz.ntmps226
 go_wp2
 go_ret
 exact ⟨rfl,belowAlloc _ _⟩
theorem l7Sign_3 (w:World):Calls Tryz.prog 226 #[.int .i64 3] w fun e w'=>e = .returned (.string (sgnR 3))∧Below w.heap.size w w':=by
 go_enter Tryz.func226,Tryz.ntmps226
 go_wp2
 go_ret
 exact ⟨rfl,belowAlloc _ _⟩
theorem l7Sign_4 (w:World):Calls Tryz.prog 226 #[.int .i64 4] w fun e w'=>e = .returned (.string (sgnR 4))∧Below w.heap.size w w':=by
 go_enter Tryz.func226,Tryz.ntmps226
 go_wp2
 go_ret
 exact ⟨rfl,belowAlloc _ _⟩
theorem l7Sign_5 (w:World):Calls Tryz.prog 226 #[.int .i64 5] w fun e w'=>e = .returned (.string (sgnR 5))∧Below w.heap.size w w':=by
 go_enter Tryz.func226,Tryz.ntmps226
 go_wp2
 go_ret
 exact ⟨rfl,belowAlloc _ _⟩
theorem l7Sign_6 (w:World):Calls Tryz.prog 226 #[.int .i64 6] w fun e w'=>e = .returned (.string (sgnR 6))∧Below w.heap.size w w':=by
 go_enter Tryz.func226,Tryz.ntmps226
 go_wp2
 go_ret
 exact ⟨rfl,belowAlloc _ _⟩
theorem l7Sign_7 (w:World):Calls Tryz.prog 226 #[.int .i64 7] w fun e w'=>e = .returned (.string (sgnR 7))∧Below w.heap.size w w':=by
 go_enter Tryz.func226,Tryz.ntmps226
 go_wp2
 go_ret
 exact ⟨rfl,belowAlloc _ _⟩
theorem l7Sign_any (o:Int) (h0:0≤o) (h7:o≤7) (w:World):Calls Tryz.prog 226 #[.int .i64 o] w fun e w'=>e = .returned (.string (sgnR o))∧Below w.heap.size w w':=by
 have h:o=0∨o=1∨o=2∨o=3∨o=4∨o=5∨o=6∨o=7:=by omega
 rcases h with rfl | rfl | rfl | rfl | rfl | rfl | rfl | rfl
 ·exact l7Sign_0 w
 ·exact l7Sign_1 w
 ·exact l7Sign_2 w
 ·exact l7Sign_3 w
 ·exact l7Sign_4 w
 ·exact l7Sign_5 w
 ·exact l7Sign_6 w
 ·exact l7Sign_7 w
def NoHit (s:ByteArray) (i lv:Int) (o:Nat):Prop:=∀ j:Nat,2≤j→j < o→hitO s i lv j=false
theorem NoHit.op {s:ByteArray} {i lv:Int} {o:Nat} (h:NoHit s i lv o) (h2:2≤o) (h5:o≤5) (hh:hitO s i lv o=true):opAt s i lv=o:=by
 have hc:o=2∨o=3∨o=4∨o=5:=by omega
 unfold opAt
 rcases hc with rfl | rfl | rfl | rfl
 ·rw [if_pos (show hitO s i lv 2=true from hh)];rfl
 ·have a2:hitO s i lv 2=false:=h 2 (by omega) (by omega)
  rw [a2,if_neg (by simp),if_pos (show hitO s i lv 3=true from hh)];rfl
 ·have a2:hitO s i lv 2=false:=h 2 (by omega) (by omega)
  have a3:hitO s i lv 3=false:=h 3 (by omega) (by omega)
  rw [a2,a3,if_neg (by simp),if_neg (by simp),if_pos (show hitO s i lv 4=true from hh)];rfl
 ·have a2:hitO s i lv 2=false:=h 2 (by omega) (by omega)
  have a3:hitO s i lv 3=false:=h 3 (by omega) (by omega)
  have a4:hitO s i lv 4=false:=h 4 (by omega) (by omega)
  rw [a2,a3,a4,if_neg (by simp),if_neg (by simp),if_neg (by simp),if_pos (show hitO s i lv 5=true from hh)];rfl
theorem NoHit.none {s:ByteArray} {i lv:Int} (h:NoHit s i lv 6):opAt s i lv=0:=by
 have a2:hitO s i lv 2=false:=h 2 (by omega) (by omega)
 have a3:hitO s i lv 3=false:=h 3 (by omega) (by omega)
 have a4:hitO s i lv 4=false:=h 4 (by omega) (by omega)
 have a5:hitO s i lv 5=false:=h 5 (by omega) (by omega)
 unfold opAt
 rw [a2,a3,a4,a5];simp
theorem NoHit.succ {s:ByteArray} {i lv:Int} {o:Nat} (h:NoHit s i lv o) (hh:hitO s i lv o=false):NoHit s i lv (o+1):=by
 intro j h1 h2
 by_cases e:j=o
 ·rw [e];exact hh
 ·exact h j h1 (by omega)
theorem l7Op_any (s:ByteArray) (i lv:Int) (w:World):Calls Tryz.prog 225 #[.string s, .int .i64 i, .int .i64 lv] w fun e w'=>e = .returned (.int .i64 (opAt s i lv))∧Below w.heap.size w w':=by
 have HO:=hide (fun o (h:NoHit s i lv o) h2 h5 hh=>h.op h2 h5 hh)
 have HN:=hide (fun (h:NoHit s i lv 6)=>h.none)
 generalize opAt s i lv=R at *
 go_enter Tryz.func225,Tryz.ntmps225
 go_wp2_with fail
 go_loopw [7] (fun q wr => ∃ o:Nat,2≤o∧o≤6∧q = .int .i64 o∧Hid (NoHit s i lv o)∧Below w.heap.size w wr) (fun q _=>6 - (intOf q).toNat)
 case atStart=>exact ⟨2,by omega,by omega,rfl,hide (fun j h1 h2=>by omega),Below.refl _ _⟩
 case round =>
  obtain ⟨o,h2,h6,rfl,N,hb⟩:=hrel
  by_cases h5:o≤5
  ·have hc:o=2∨o=3∨o=4∨o=5:=by omega
   rcases hc with rfl | rfl | rfl | rfl
   ·have HL:Hid (∀ w':World,Calls Tryz.prog 228 #[.int .i64 2] w' fun e w''=>e = .returned (.int .i64 3)∧w'=w''):=hide (l7Level_any 2)
    have HS:Hid (∀ w':World,Calls Tryz.prog 226 #[.int .i64 2] w' fun e w''=>e = .returned (.string ⟨#[124]⟩)∧Below w'.heap.size w' w''):=hide (l7Sign_2)
    have HI:=hide (fun c hc w'=>isAt_any s i 124 c hc w')
    have EH:Hid (hitO s i lv ((2:Nat):Int)=(((3:Int)==lv)&&isAt s i 124)):=hide rfl
    by_cases hl:(3:Int)=lv
    ·subst hl
     generalize isAt s i 124=b at *
     cases b
     ·have NS:=hide (N.out.succ (by rw [EH.out];rfl))
      go_wp2_with fail
      (with_reducible refine (HL.out _).mono ?_);rintro e w1 ⟨rfl,rfl⟩
      go_wp2_with fail
      (with_reducible refine (HS.out _).mono ?_);rintro e w2 ⟨rfl,hb2⟩
      go_wp2_with fail
      (with_reducible refine (HI.out _ (by first | rfl | decide) _).mono ?_);rintro e w3 ⟨rfl,rfl⟩
      go_wp2_with fail
      go_roundw
      case rel=>exact ⟨3,by omega,by omega,by go_num,NS,hb.trans (hb2.mono hb.size)⟩
      case measure=>simp [intOf]
     ·have RO:=hide (HO.out 2 N.out (by omega) (by omega) (by rw [EH.out];rfl))
      go_wp2_with fail
      (with_reducible refine (HL.out _).mono ?_);rintro e w1 ⟨rfl,rfl⟩
      go_wp2_with fail
      (with_reducible refine (HS.out _).mono ?_);rintro e w2 ⟨rfl,hb2⟩
      go_wp2_with fail
      (with_reducible refine (HI.out _ (by first | rfl | decide) _).mono ?_);rintro e w3 ⟨rfl,rfl⟩
      go_wp2_with fail
      go_ret
      exact ⟨by rw [RO.out];rfl,hb.trans (hb2.mono hb.size)⟩
    ·have hl':((3:Int)==lv)=false:=by simp [hl]
     have NS:=hide (N.out.succ (by rw [EH.out,hl'];rfl))
     clear hl
     go_wp2_with fail
     (with_reducible refine (HL.out _).mono ?_);rintro e w1 ⟨rfl,rfl⟩
     go_wp2_with fail
     go_roundw
     case rel=>exact ⟨3,by omega,by omega,by go_num,NS,hb⟩
     case measure=>simp [intOf]
   ·have HL:Hid (∀ w':World,Calls Tryz.prog 228 #[.int .i64 3] w' fun e w''=>e = .returned (.int .i64 2)∧w'=w''):=hide (l7Level_any 3)
    have HS:Hid (∀ w':World,Calls Tryz.prog 226 #[.int .i64 3] w' fun e w''=>e = .returned (.string ⟨#[38]⟩)∧Below w'.heap.size w' w''):=hide (l7Sign_3)
    have HI:=hide (fun c hc w'=>isAt_any s i 38 c hc w')
    have EH:Hid (hitO s i lv ((3:Nat):Int)=(((2:Int)==lv)&&isAt s i 38)):=hide rfl
    by_cases hl:(2:Int)=lv
    ·subst hl
     generalize isAt s i 38=b at *
     cases b
     ·have NS:=hide (N.out.succ (by rw [EH.out];rfl))
      go_wp2_with fail
      (with_reducible refine (HL.out _).mono ?_);rintro e w1 ⟨rfl,rfl⟩
      go_wp2_with fail
      (with_reducible refine (HS.out _).mono ?_);rintro e w2 ⟨rfl,hb2⟩
      go_wp2_with fail
      (with_reducible refine (HI.out _ (by first | rfl | decide) _).mono ?_);rintro e w3 ⟨rfl,rfl⟩
      go_wp2_with fail
      go_roundw
      case rel=>exact ⟨4,by omega,by omega,by go_num,NS,hb.trans (hb2.mono hb.size)⟩
      case measure=>simp [intOf]
     ·have RO:=hide (HO.out 3 N.out (by omega) (by omega) (by rw [EH.out];rfl))
      go_wp2_with fail
      (with_reducible refine (HL.out _).mono ?_);rintro e w1 ⟨rfl,rfl⟩
      go_wp2_with fail
      (with_reducible refine (HS.out _).mono ?_);rintro e w2 ⟨rfl,hb2⟩
      go_wp2_with fail
      (with_reducible refine (HI.out _ (by first | rfl | decide) _).mono ?_);rintro e w3 ⟨rfl,rfl⟩
      go_wp2_with fail
      go_ret
      exact ⟨by rw [RO.out];rfl,hb.trans (hb2.mono hb.size)⟩
    ·have hl':((2:Int)==lv)=false:=by simp [hl]
     have NS:=hide (N.out.succ (by rw [EH.out,hl'];rfl))
     clear hl
     go_wp2_with fail
     (with_reducible refine (HL.out _).mono ?_);rintro e w1 ⟨rfl,rfl⟩
     go_wp2_with fail
     go_roundw
     case rel=>exact ⟨4,by omega,by omega,by go_num,NS,hb⟩
     case measure=>simp [intOf]
   ·have HL:Hid (∀ w':World,Calls Tryz.prog 228 #[.int .i64 4] w' fun e w''=>e = .returned (.int .i64 2)∧w'=w''):=hide (l7Level_any 4)
    have HS:Hid (∀ w':World,Calls Tryz.prog 226 #[.int .i64 4] w' fun e w''=>e = .returned (.string ⟨#[45]⟩)∧Below w'.heap.size w' w''):=hide (l7Sign_4)
    have HI:=hide (fun c hc w'=>isAt_any s i 45 c hc w')
    have EH:Hid (hitO s i lv ((4:Nat):Int)=(((2:Int)==lv)&&isAt s i 45)):=hide rfl
    by_cases hl:(2:Int)=lv
    ·subst hl
     generalize isAt s i 45=b at *
     cases b
     ·have NS:=hide (N.out.succ (by rw [EH.out];rfl))
      go_wp2_with fail
      (with_reducible refine (HL.out _).mono ?_);rintro e w1 ⟨rfl,rfl⟩
      go_wp2_with fail
      (with_reducible refine (HS.out _).mono ?_);rintro e w2 ⟨rfl,hb2⟩
      go_wp2_with fail
      (with_reducible refine (HI.out _ (by first | rfl | decide) _).mono ?_);rintro e w3 ⟨rfl,rfl⟩
      go_wp2_with fail
      go_roundw
      case rel=>exact ⟨5,by omega,by omega,by go_num,NS,hb.trans (hb2.mono hb.size)⟩
      case measure=>simp [intOf]
     ·have RO:=hide (HO.out 4 N.out (by omega) (by omega) (by rw [EH.out];rfl))
      go_wp2_with fail
      (with_reducible refine (HL.out _).mono ?_);rintro e w1 ⟨rfl,rfl⟩
      go_wp2_with fail
      (with_reducible refine (HS.out _).mono ?_);rintro e w2 ⟨rfl,hb2⟩
      go_wp2_with fail
      (with_reducible refine (HI.out _ (by first | rfl | decide) _).mono ?_);rintro e w3 ⟨rfl,rfl⟩
      go_wp2_with fail
      go_ret
      exact ⟨by rw [RO.out];rfl,hb.trans (hb2.mono hb.size)⟩
    ·have hl':((2:Int)==lv)=false:=by simp [hl]
     have NS:=hide (N.out.succ (by rw [EH.out,hl'];rfl))
     clear hl
     go_wp2_with fail
     (with_reducible refine (HL.out _).mono ?_);rintro e w1 ⟨rfl,rfl⟩
     go_wp2_with fail
     go_roundw
     case rel=>exact ⟨5,by omega,by omega,by go_num,NS,hb⟩
     case measure=>simp [intOf]
   ·have HL:Hid (∀ w':World,Calls Tryz.prog 228 #[.int .i64 5] w' fun e w''=>e = .returned (.int .i64 1)∧w'=w''):=hide (l7Level_any 5)
    have HS:Hid (∀ w':World,Calls Tryz.prog 226 #[.int .i64 5] w' fun e w''=>e = .returned (.string ⟨#[59]⟩)∧Below w'.heap.size w' w''):=hide (l7Sign_5)
    have HI:=hide (fun c hc w'=>isAt_any s i 59 c hc w')
    have EH:Hid (hitO s i lv ((5:Nat):Int)=(((1:Int)==lv)&&isAt s i 59)):=hide rfl
    by_cases hl:(1:Int)=lv
    ·subst hl
     generalize isAt s i 59=b at *
     cases b
     ·have NS:=hide (N.out.succ (by rw [EH.out];rfl))
      go_wp2_with fail
      (with_reducible refine (HL.out _).mono ?_);rintro e w1 ⟨rfl,rfl⟩
      go_wp2_with fail
      (with_reducible refine (HS.out _).mono ?_);rintro e w2 ⟨rfl,hb2⟩
      go_wp2_with fail
      (with_reducible refine (HI.out _ (by first | rfl | decide) _).mono ?_);rintro e w3 ⟨rfl,rfl⟩
      go_wp2_with fail
      go_roundw
      case rel=>exact ⟨6,by omega,by omega,by go_num,NS,hb.trans (hb2.mono hb.size)⟩
      case measure=>simp [intOf]
     ·have RO:=hide (HO.out 5 N.out (by omega) (by omega) (by rw [EH.out];rfl))
      go_wp2_with fail
      (with_reducible refine (HL.out _).mono ?_);rintro e w1 ⟨rfl,rfl⟩
      go_wp2_with fail
      (with_reducible refine (HS.out _).mono ?_);rintro e w2 ⟨rfl,hb2⟩
      go_wp2_with fail
      (with_reducible refine (HI.out _ (by first | rfl | decide) _).mono ?_);rintro e w3 ⟨rfl,rfl⟩
      go_wp2_with fail
      go_ret
      exact ⟨by rw [RO.out];rfl,hb.trans (hb2.mono hb.size)⟩
    ·have hl':((1:Int)==lv)=false:=by simp [hl]
     have NS:=hide (N.out.succ (by rw [EH.out,hl'];rfl))
     clear hl
     go_wp2_with fail
     (with_reducible refine (HL.out _).mono ?_);rintro e w1 ⟨rfl,rfl⟩
     go_wp2_with fail
     go_roundw
     case rel=>exact ⟨6,by omega,by omega,by go_num,NS,hb⟩
     case measure=>simp [intOf]
  ·obtain rfl:o=6:=by omega
   have RO:=hide (HN.out N.out)
   go_wp2_with fail
   go_ret
   exact ⟨by rw [RO.out];rfl,hb⟩
end Go.Proofs.YtkfhgnkonaafgaaGreatDoor
namespace Go.Proofs.YtkfhgnkonaafgaaGreatDoor
open Go.RowKit
def PrimeAt (s:ByteArray) (f:Nat):Prop:=∀ (i d:Int) (r:Re × Int) (w:World),pR s f (.prime i d)=some r→0≤d→d≤12→-1≤i→i≤301→Calls Tryz.prog 224 #[.string s, .int .i64 i, .int .i64 d] w (RetPR w r)
def ParseAtR (s:ByteArray) (f:Nat):Prop:=∀ (i d lv:Int) (r:Re × Int) (w:World),pR s f (.parse i d lv)=some r→0≤d→d≤12→-1≤i→i≤301→0≤lv→lv≤3→Calls Tryz.prog 203 #[.string s, .int .i64 i, .int .i64 d, .int .i64 lv] w (RetPR w r)
theorem RetPR.no {w w':World} (h:Below w.heap.size w w'):RetPR w (zR, -1) (.returned (.tuple #[.agg #[.int .i64 0, .string ⟨#[]⟩, .slice none 0 0], .int .i64 (-1)])) w':=⟨0,⟨#[]⟩,[],⟨none,0,0⟩,rfl,rfl, .nil,h⟩
theorem notMade {w W0 w1:World} (h:W0.heap.size=w.heap.size+1):¬ Made' W0 w1 w.heap.size:=fun hq=>by have:=hq.1;omega
structure BoxR (w:World) (g:Nat) (o:Int) (p:ByteArray) (s:Slc):Prop where
 lt:g < w.heap.size
 c0:w.cell? ⟨g,0,none⟩=some (.int .i64 o)
 c1:w.cell? ⟨g,1,none⟩=some (.string p)
 c2:w.cell? ⟨g,2,none⟩=some (.slice s.a s.n s.cap)
 fz:∀ j,w.frozen? ⟨g,j,none⟩=false
theorem BoxR.new (w:World) (o:Int) (p:ByteArray) (s:Slc) (T:TypeId):BoxR (w.alloc (.cells #[.int .i64 o, .string p, .slice s.a s.n s.cap] T)) w.heap.size o p s:=
 ⟨by simp,by simp [go_sem],by simp [go_sem],by simp [go_sem],fun j=>by simp [go_sem]⟩
theorem BoxR.below {w w':World} {g:Nat} {o:Int} {p:ByteArray} {s:Slc} (h:BoxR w g o p s) (hb:Below w.heap.size w w'):BoxR w' g o p s:=
 ⟨Nat.lt_of_lt_of_le h.lt hb.size,(hb.cell (p:=⟨g,0,none⟩) h.lt).trans h.c0,(hb.cell (p:=⟨g,1,none⟩) h.lt).trans h.c1,(hb.cell (p:=⟨g,2,none⟩) h.lt).trans h.c2,fun j=>(hb.frozen (p:=⟨g,j,none⟩) h.lt).trans (h.fz j)⟩
theorem prime_no (s:ByteArray) (i d:Int) (w:World) (h:d < 1∨i < 0∨(s.size:Int)≤i):Calls Tryz.prog 224 #[.string s, .int .i64 i, .int .i64 d] w (RetPR w (zR, -1)):=by
 have HB:=hide (belowAlloc w (.cells #[.int .i64 0, .string ⟨#[]⟩, .slice none 0 0] 75))
 by_cases h1:d < 1
 ·have t1:decide (d < 1)=true:=decide_eq_true h1
  clear h h1
  go_enter Tryz.func224,Tryz.ntmps224
  go_wp2_with fail
  refine bodyPost_ret (v:=.tuple #[.agg #[.int .i64 0, .string ⟨#[]⟩, .slice none 0 0], .int .i64 (-1)]) (by simp [results,Tryz.results224,go_sem]) rfl (RetPR.no ?_)
  exact HB.out
 ·have t1:decide (d < 1)=false:=decide_eq_false h1
  by_cases h2:i < 0
  ·have t2:decide (i < 0)=true:=decide_eq_true h2
   clear h h1 h2
   go_enter Tryz.func224,Tryz.ntmps224
   go_wp2_with fail
   refine bodyPost_ret (v:=.tuple #[.agg #[.int .i64 0, .string ⟨#[]⟩, .slice none 0 0], .int .i64 (-1)]) (by simp [results,Tryz.results224,go_sem]) rfl (RetPR.no ?_)
   exact HB.out
  ·have t2:decide (i < 0)=false:=decide_eq_false h2
   have t3:decide (i≥(s.size:Int))=true:=decide_eq_true (by omega)
   clear h h1 h2
   go_enter Tryz.func224,Tryz.ntmps224
   go_wp2_with fail
   refine bodyPost_ret (v:=.tuple #[.agg #[.int .i64 0, .string ⟨#[]⟩, .slice none 0 0], .int .i64 (-1)]) (by simp [results,Tryz.results224,go_sem]) rfl (RetPR.no ?_)
   exact HB.out
theorem prime_par (s:ByteArray) (hs:s.size≤300) (i d:Int) (e:Re) (n:Int) (w:World) (hd:1≤d) (hd2:d≤12) (ha:isAt s i 40=true) (hn:n = -1∨(0≤n∧n≤s.size))
 (hq:∀ w',Calls Tryz.prog 203 #[.string s, .int .i64 (i+1), .int .i64 d, .int .i64 3] w' (RetPR w' (e,n))) :
 Calls Tryz.prog 224 #[.string s, .int .i64 i, .int .i64 d] w (RetPR w (if isAt s n 41=true then (e,n+1) else (zR, -1))):=by
 have hn1 : -1≤n:=by omega
 have hn2:n≤300:=by omega
 clear hn
 obtain ⟨h0,h1,hg,hbyte⟩:=isAt_yes ha
 have hii:0≤i∧i < s.size:=⟨h0,h1⟩
 have t1:decide (d < 1)=false:=decide_eq_false (by omega)
 have t2:decide (i < 0)=false:=decide_eq_false (by omega)
 have t3:decide (i≥(s.size:Int))=false:=decide_eq_false (by omega)
 have hby:(((s[i.toNat]'hg).toNat:Int)==40)=true:=by rw [hbyte];rfl
 have HB:=hide (belowAlloc w (.cells #[.int .i64 0, .string ⟨#[]⟩, .slice none 0 0] 75))
 have BX:=hide (BoxR.new w 0 ⟨#[]⟩ ⟨none,0,0⟩ 75)
 have HQ:=hide (hq (w.alloc (.cells #[.int .i64 0, .string ⟨#[]⟩, .slice none 0 0] 75)))
 have HI:=hide (fun w'=>isAt_any s n 41 41 rfl w')
 have hz0:(w.alloc (.cells #[.int .i64 0, .string ⟨#[]⟩, .slice none 0 0] 75)).heap.size=w.heap.size+1:=by simp
 clear ha hbyte hq
 generalize isAt s n 41=b at *
 obtain ⟨R,hR⟩:∃ R,R=if b=true then (e,n+1) else (zR, -1):=⟨_,rfl⟩
 rw [← hR]
 have HR:=hide hR
 clear hR
 go_enter Tryz.func224,Tryz.ntmps224
 go_wp2_with fail
 (with_reducible refine HQ.out.mono ?_);rintro e' w1 ⟨eo,en,ek,sk,he,rfl,own,hb1⟩
 simp only at he
 subst he
 obtain ⟨bl,r0,r1,r2,rf⟩:=BX.out.below hb1
 have HB1:=hide (HB.out.trans (hb1.mono HB.out.size))
 have hz1:=hb1.size
 rw [hz0] at hz1
 have HV:=hide (belowAlloc w1 (.cells #[.int .i64 eo, .string en, .slice sk.a sk.n sk.cap] 75))
 have OWN:=hide own
 have BX1:=hide (BoxR.new w1 eo en sk 75)
 clear own hb1 HQ BX
 go_wp2_with fail
 (with_reducible refine (HI.out _).mono ?_);rintro e' w2 ⟨rfl,rfl⟩
 cases b
 ·obtain rfl:R=(zR, -1):=by rw [HR.out];rfl
  go_wp2_with fail
  refine bodyPost_ret (v:=.tuple #[.agg #[.int .i64 0, .string ⟨#[]⟩, .slice none 0 0], .int .i64 (-1)]) (by simp [results,Tryz.results224,go_sem, *]) rfl (RetPR.no ?_)
  exact (((HB1.out.setCell (Nat.le_refl _) _).setCell (Nat.le_refl _) _).setCell (Nat.le_refl _) _).alloc (by simp;omega) _
 ·obtain rfl:R=(.mk eo en ek,n+1):=by rw [HR.out];rfl
  go_wp2_with fail
  refine bodyPost_ret (v:=.tuple #[.agg #[.int .i64 eo, .string en, .slice sk.a sk.n sk.cap], .int .i64 (n+1)]) (by simp [results,Tryz.results224,go_sem, *]) rfl ⟨eo,en,ek,sk,rfl,rfl, ?_, ?_⟩
  ·refine ((((OWN.out.set (notMade hz0) _ _).set (notMade hz0) _ _).set (notMade hz0) _ _).bel (belowAlloc _ _)).wide fun q hq=>⟨?_, ?_⟩
   ·have:=hq.1;rw [hz0] at this;omega
   ·have:=hq.2;simp;omega
  ·exact (((HB1.out.setCell (Nat.le_refl _) _).setCell (Nat.le_refl _) _).setCell (Nat.le_refl _) _).alloc (by simp;omega) _
theorem prime_un6 (s:ByteArray) (hs:s.size≤300) (i d:Int) (e:Re) (n:Int) (w:World) (hd:1≤d) (hd2:d≤12) (ha:isAt s i 126=true)
 (hq:∀ w',Calls Tryz.prog 224 #[.string s, .int .i64 (i+1), .int .i64 (d - 1)] w' (RetPR w' (e,n))) :
 Calls Tryz.prog 224 #[.string s, .int .i64 i, .int .i64 d] w (RetPR w (.mk 6 ⟨#[]⟩ [e],n)):=by
 obtain ⟨h0,h1,hg,hbyte⟩:=isAt_yes ha
 have hii:0≤i∧i < s.size:=⟨h0,h1⟩
 have t1:decide (d < 1)=false:=decide_eq_false (by omega)
 have t2:decide (i < 0)=false:=decide_eq_false (by omega)
 have t3:decide (i≥(s.size:Int))=false:=decide_eq_false (by omega)
 have hby0:(((s[i.toNat]'hg).toNat:Int)==40)=false:=by rw [hbyte];rfl
 have hby1:(((s[i.toNat]'hg).toNat:Int)==126)=true:=by rw [hbyte];rfl
 have hby2:(((s[i.toNat]'hg).toNat:Int)==43)=false:=by rw [hbyte];rfl
 have HB:=hide (belowAlloc w (.cells #[.int .i64 0, .string ⟨#[]⟩, .slice none 0 0] 75))
 have BX:=hide (BoxR.new w 0 ⟨#[]⟩ ⟨none,0,0⟩ 75)
 have HQ:=hide (hq (w.alloc (.cells #[.int .i64 0, .string ⟨#[]⟩, .slice none 0 0] 75)))
 have hz0:(w.alloc (.cells #[.int .i64 0, .string ⟨#[]⟩, .slice none 0 0] 75)).heap.size=w.heap.size+1:=by simp
 clear ha hbyte hq
 go_enter Tryz.func224,Tryz.ntmps224
 go_wp2_with fail
 (with_reducible refine HQ.out.mono ?_);rintro e' w1 ⟨eo,en,ek,sk,he,rfl,own,hb1⟩
 simp only at he
 subst he
 obtain ⟨bl,r0,r1,r2,rf⟩:=BX.out.below hb1
 have HB1:=hide (HB.out.trans (hb1.mono HB.out.size))
 have hz1:=hb1.size
 rw [hz0] at hz1
 have OWN:=hide own
 clear own hb1 HQ BX
 go_wp2_with fail
 refine bodyPost_ret (v:=.tuple #[.agg #[.int .i64 6, .string ⟨#[]⟩, .slice (some ⟨w1.heap.size+1,0,none⟩) 1 1], .int .i64 n]) (by simp [results,Tryz.results224,go_sem, *]) rfl ⟨6,⟨#[]⟩,[.mk eo en ek],⟨some ⟨w1.heap.size+1,0,none⟩,1,1⟩,rfl,rfl, ?_, ?_⟩
 ·have h2:=(((OWN.out.set (notMade hz0) 0 (.int .i64 6)).set (notMade hz0) 1 (.string ⟨#[]⟩)).set (notMade hz0) 2 (.slice (some ⟨w1.heap.size+1,0,none⟩) 1 1)).bel (belowAlloc _ (.cells #[.int .i64 eo, .string en, .slice sk.a sk.n sk.cap] 75))
  have h3:=OwnR.one (S':=Made' w ((((((w1.setCell ⟨w.heap.size,0,none⟩ (.int .i64 6)).setCell ⟨w.heap.size,1,none⟩ (.string ⟨#[]⟩)).setCell ⟨w.heap.size,2,none⟩ (.slice (some ⟨w1.heap.size+1,0,none⟩) 1 1)).alloc (.cells #[.int .i64 eo, .string en, .slice sk.a sk.n sk.cap] 75))).alloc (.cells #[.int .i64 eo, .string en, .slice sk.a sk.n sk.cap] 75))) h2 (fun q hq=>by have:=hq.2;simp;omega) (fun q hq=>⟨by have:=hq.1;rw [hz0] at this;omega,by have:=hq.2;simp;omega⟩) ⟨by simp;omega,by simp⟩ eo en
  simpa using h3
 ·exact ((((HB1.out.setCell (Nat.le_refl _) _).setCell (Nat.le_refl _) _).setCell (Nat.le_refl _) _).alloc (by simp;omega) _).alloc (by simp;omega) _
theorem prime_un7 (s:ByteArray) (hs:s.size≤300) (i d:Int) (e:Re) (n:Int) (w:World) (hd:1≤d) (hd2:d≤12) (ha:isAt s i 43=true)
 (hq:∀ w',Calls Tryz.prog 224 #[.string s, .int .i64 (i+1), .int .i64 (d - 1)] w' (RetPR w' (e,n))) :
 Calls Tryz.prog 224 #[.string s, .int .i64 i, .int .i64 d] w (RetPR w (.mk 7 ⟨#[]⟩ [e],n)):=by
 obtain ⟨h0,h1,hg,hbyte⟩:=isAt_yes ha
 have hii:0≤i∧i < s.size:=⟨h0,h1⟩
 have t1:decide (d < 1)=false:=decide_eq_false (by omega)
 have t2:decide (i < 0)=false:=decide_eq_false (by omega)
 have t3:decide (i≥(s.size:Int))=false:=decide_eq_false (by omega)
 have hby0:(((s[i.toNat]'hg).toNat:Int)==40)=false:=by rw [hbyte];rfl
 have hby1:(((s[i.toNat]'hg).toNat:Int)==126)=false:=by rw [hbyte];rfl
 have hby2:(((s[i.toNat]'hg).toNat:Int)==43)=true:=by rw [hbyte];rfl
 have HB:=hide (belowAlloc w (.cells #[.int .i64 0, .string ⟨#[]⟩, .slice none 0 0] 75))
 have BX:=hide (BoxR.new w 0 ⟨#[]⟩ ⟨none,0,0⟩ 75)
 have HQ:=hide (hq (w.alloc (.cells #[.int .i64 0, .string ⟨#[]⟩, .slice none 0 0] 75)))
 have hz0:(w.alloc (.cells #[.int .i64 0, .string ⟨#[]⟩, .slice none 0 0] 75)).heap.size=w.heap.size+1:=by simp
 clear ha hbyte hq
 go_enter Tryz.func224,Tryz.ntmps224
 go_wp2_with fail
 (with_reducible refine HQ.out.mono ?_);rintro e' w1 ⟨eo,en,ek,sk,he,rfl,own,hb1⟩
 simp only at he
 subst he
 obtain ⟨bl,r0,r1,r2,rf⟩:=BX.out.below hb1
 have HB1:=hide (HB.out.trans (hb1.mono HB.out.size))
 have hz1:=hb1.size
 rw [hz0] at hz1
 have OWN:=hide own
 clear own hb1 HQ BX
 go_wp2_with fail
 refine bodyPost_ret (v:=.tuple #[.agg #[.int .i64 7, .string ⟨#[]⟩, .slice (some ⟨w1.heap.size+1,0,none⟩) 1 1], .int .i64 n]) (by simp [results,Tryz.results224,go_sem, *]) rfl ⟨7,⟨#[]⟩,[.mk eo en ek],⟨some ⟨w1.heap.size+1,0,none⟩,1,1⟩,rfl,rfl, ?_, ?_⟩
 ·have h2:=(((OWN.out.set (notMade hz0) 0 (.int .i64 7)).set (notMade hz0) 1 (.string ⟨#[]⟩)).set (notMade hz0) 2 (.slice (some ⟨w1.heap.size+1,0,none⟩) 1 1)).bel (belowAlloc _ (.cells #[.int .i64 eo, .string en, .slice sk.a sk.n sk.cap] 75))
  have h3:=OwnR.one (S':=Made' w ((((((w1.setCell ⟨w.heap.size,0,none⟩ (.int .i64 7)).setCell ⟨w.heap.size,1,none⟩ (.string ⟨#[]⟩)).setCell ⟨w.heap.size,2,none⟩ (.slice (some ⟨w1.heap.size+1,0,none⟩) 1 1)).alloc (.cells #[.int .i64 eo, .string en, .slice sk.a sk.n sk.cap] 75))).alloc (.cells #[.int .i64 eo, .string en, .slice sk.a sk.n sk.cap] 75))) h2 (fun q hq=>by have:=hq.2;simp;omega) (fun q hq=>⟨by have:=hq.1;rw [hz0] at this;omega,by have:=hq.2;simp;omega⟩) ⟨by simp;omega,by simp⟩ eo en
  simpa using h3
 ·exact ((((HB1.out.setCell (Nat.le_refl _) _).setCell (Nat.le_refl _) _).setCell (Nat.le_refl _) _).alloc (by simp;omega) _).alloc (by simp;omega) _
theorem endL_stop {l:List UInt8} {f i:Nat} (h:∀ c,l[i]? = some c→isLow c=false):endL l f i=i:=by
 cases f with
 | zero=>rfl
 | succ f =>
  unfold endL
  cases hc:l[i]? with
  | none=>rfl
  | some c=>simp only;rw [h c hc];rfl
theorem endL_go {l:List UInt8} {f i:Nat} {c:UInt8} (hc:l[i]? = some c) (h:isLow c=true):endL l (f+1) i=endL l f (i+1):=by
 show (match l[i]? with
  | some c=>if isLow c=true then endL l f (i+1) else i
  | none=>i)=_
 rw [hc];simp only;rw [if_pos h]
theorem prime_word (s:ByteArray) (hs:s.size≤300) (i0:Nat) (d:Int) (w:World) (hd:1≤d) (hd2:d≤12) (hi:i0 < s.size) (n1:isAt s i0 40=false) (n2:isAt s i0 126=false) (n3:isAt s i0 43=false) (r:Re × Int)
 (hr:r=if endL s.data.toList s.size i0=i0 then (zR, -1) else (.mk 1 (s.extract i0 (endL s.data.toList s.size i0)) [],((endL s.data.toList s.size i0:Nat):Int))) :
 Calls Tryz.prog 224 #[.string s, .int .i64 i0, .int .i64 d] w (RetPR w r):=by
 have hii:0≤(i0:Int)∧(i0:Int) < s.size:=by omega
 have t1:decide (d < 1)=false:=decide_eq_false (by omega)
 have t2:decide ((i0:Int) < 0)=false:=decide_eq_false (by omega)
 have t3:decide ((i0:Int)≥(s.size:Int))=false:=decide_eq_false (by omega)
 have hby0:(((s[i0]'hi).toNat:Int)==40)=false:=u8R_ne (b:=40) (isAt_no n1 (by omega) (by simpa using hi))
 have hby1:(((s[i0]'hi).toNat:Int)==126)=false:=u8R_ne (b:=126) (isAt_no n2 (by omega) (by simpa using hi))
 have hby2:(((s[i0]'hi).toNat:Int)==43)=false:=u8R_ne (b:=43) (isAt_no n3 (by omega) (by simpa using hi))
 have HB:=hide (belowAlloc w (.cells #[.int .i64 0, .string ⟨#[]⟩, .slice none 0 0] 75))
 have BX:=hide (BoxR.new w 0 ⟨#[]⟩ ⟨none,0,0⟩ 75)
 have hz0:(w.alloc (.cells #[.int .i64 0, .string ⟨#[]⟩, .slice none 0 0] 75)).heap.size=w.heap.size+1:=by simp
 have HR:=hide hr
 have LE:s.data.toList.length=s.size:=by simp
 have HGO:=hide (fun (f i:Nat) (c:UInt8) (hc:s.data.toList[i]? = some c) (h:isLow c=true)=>endL_go (f:=f) hc h)
 have HST:=hide (fun (f i:Nat) (h:∀ c,s.data.toList[i]? = some c→isLow c=false)=>endL_stop (f:=f) h)
 have LG:=hide (fun (j:Nat) (hj:j < s.size)=>(by have h:=byteR_get s (j:Int) (by simpa using hj);simpa using h:s.data.toList[j]? = some (s[j]'hj)))
 have LN:=hide (fun (j:Nat) (hj:s.size≤j)=>(List.getElem?_eq_none (by omega):s.data.toList[j]? = none))
 have E0:Hid (endL s.data.toList s.size i0=endL s.data.toList s.size i0):=hide rfl
 generalize hE:endL s.data.toList s.size i0=E at *
 have HE:=hide hE
 clear n1 n2 n3 hr hE E0 LE
 go_enter Tryz.func224,Tryz.ntmps224
 go_wp2_with fail
 obtain ⟨bl,r0,r1,r2,rf⟩:=BX.out
 generalize hW:w.alloc (.cells #[.int .i64 0, .string ⟨#[]⟩, .slice none 0 0] 75)=W0 at *
 clear hW BX
 go_loopw [13] (fun q wr => ∃ j f:Nat,i0≤j∧j≤s.size∧q = .int .i64 j∧Hid (endL s.data.toList f j=E)∧s.size≤j+f∧wr=W0) (fun q _=>s.size - (intOf q).toNat)
 case atStart=>exact ⟨i0,s.size,Nat.le_refl _,by omega,rfl,HE,by omega,rfl⟩
 case round =>
  obtain ⟨j,f,hj0,hj,rfl,HF,hf,rfl⟩:=hrel
  by_cases hlt:j < s.size
  ·have hlt':(j:Int) < s.size:=by omega
   have hki:0≤(j:Int)∧(j:Int) < s.size:=by omega
   have hsj:=LG.out j hlt
   obtain ⟨f',rfl⟩:∃ f',f=f'+1:=⟨f - 1,by omega⟩
   by_cases g1:((s[j]'hlt).toNat:Int)≥97
   ·have g1':decide (((s[j]'hlt).toNat:Int)≥97)=true:=decide_eq_true g1
    by_cases g2:((s[j]'hlt).toNat:Int)≤122
    ·have g2':decide (((s[j]'hlt).toNat:Int)≤122)=true:=decide_eq_true g2
     have NF:=hide ((HGO.out f' j _ hsj (by unfold isLow;rw [decide_eq_true (by omega),decide_eq_true (by omega)];rfl)).symm.trans HF.out)
     clear hsj g1 g2
     go_wp2_with fail
     go_roundw
     case rel=>exact ⟨j+1,f',by omega,by omega,by go_num,NF,by omega,by first | rfl | trivial⟩
     case measure=>simp [intOf];omega
    ·have g2':decide (((s[j]'hlt).toNat:Int)≤122)=false:=decide_eq_false g2
     have NE:Hid (E=j):=hide (by rw [← HF.out];exact HST.out _ _ (fun c hc=>by rw [hsj] at hc;simp only [Option.some.injEq] at hc;subst hc;unfold isLow;rw [decide_eq_false (show ¬ (s[j]'hlt).toNat≤122 by omega),Bool.and_false]))
     clear hsj g1 g2
     by_cases he:j=i0
     ·have he':((j:Int)==(i0:Int))=true:=by simp [he]
      obtain rfl:r=(zR, -1):=by rw [HR.out,if_pos (by rw [NE.out];exact he)]
      clear he
      go_wp2_with fail
      refine bodyPost_ret (v:=.tuple #[.agg #[.int .i64 0, .string ⟨#[]⟩, .slice none 0 0], .int .i64 (-1)]) (by simp [results,Tryz.results224,go_sem, *]) rfl (RetPR.no ?_)
      exact ((HB.out.setCell (Nat.le_refl _) _).setCell (Nat.le_refl _) _).setCell (Nat.le_refl _) _
     ·have he':((j:Int)==(i0:Int))=false:=by simp;omega
      obtain rfl:r=(.mk 1 (s.extract i0 j) [],((j:Nat):Int)):=by rw [HR.out,NE.out,if_neg he]
      clear he
      go_wp2_with fail
      refine bodyPost_ret (v:=.tuple #[.agg #[.int .i64 1, .string (s.extract i0 j), .slice none 0 0], .int .i64 j]) (by simp [results,Tryz.results224,go_sem, *]) rfl ⟨1,s.extract i0 j,[],⟨none,0,0⟩,rfl,rfl, .nil, ?_⟩
      exact ((HB.out.setCell (Nat.le_refl _) _).setCell (Nat.le_refl _) _).setCell (Nat.le_refl _) _
   ·have g1':decide (((s[j]'hlt).toNat:Int)≥97)=false:=decide_eq_false g1
    have NE:Hid (E=j):=hide (by rw [← HF.out];exact HST.out _ _ (fun c hc=>by rw [hsj] at hc;simp only [Option.some.injEq] at hc;subst hc;unfold isLow;rw [decide_eq_false (show ¬ 97≤(s[j]'hlt).toNat by omega)];rfl))
    clear hsj g1
    by_cases he:j=i0
    ·have he':((j:Int)==(i0:Int))=true:=by simp [he]
     obtain rfl:r=(zR, -1):=by rw [HR.out,if_pos (by rw [NE.out];exact he)]
     clear he
     go_wp2_with fail
     refine bodyPost_ret (v:=.tuple #[.agg #[.int .i64 0, .string ⟨#[]⟩, .slice none 0 0], .int .i64 (-1)]) (by simp [results,Tryz.results224,go_sem, *]) rfl (RetPR.no ?_)
     exact ((HB.out.setCell (Nat.le_refl _) _).setCell (Nat.le_refl _) _).setCell (Nat.le_refl _) _
    ·have he':((j:Int)==(i0:Int))=false:=by simp;omega
     obtain rfl:r=(.mk 1 (s.extract i0 j) [],((j:Nat):Int)):=by rw [HR.out,NE.out,if_neg he]
     clear he
     go_wp2_with fail
     refine bodyPost_ret (v:=.tuple #[.agg #[.int .i64 1, .string (s.extract i0 j), .slice none 0 0], .int .i64 j]) (by simp [results,Tryz.results224,go_sem, *]) rfl ⟨1,s.extract i0 j,[],⟨none,0,0⟩,rfl,rfl, .nil, ?_⟩
     exact ((HB.out.setCell (Nat.le_refl _) _).setCell (Nat.le_refl _) _).setCell (Nat.le_refl _) _
  ·obtain rfl:j=s.size:=by omega
   have hltf:decide ((s.size:Int) < (s.size:Int))=false:=decide_eq_false (by omega)
   have NE:Hid (E=s.size):=hide (by rw [← HF.out];exact HST.out _ _ (fun c hc=>by rw [LN.out _ (Nat.le_refl _)] at hc;cases hc))
   have he:s.size≠i0:=by omega
   have he':((s.size:Int)==(i0:Int))=false:=by simp;omega
   obtain rfl:r=(.mk 1 (s.extract i0 s.size) [],((s.size:Nat):Int)):=by rw [HR.out,NE.out,if_neg he]
   clear he hlt
   go_wp2_with fail
   refine bodyPost_ret (v:=.tuple #[.agg #[.int .i64 1, .string (s.extract i0 s.size), .slice none 0 0], .int .i64 s.size]) (by simp [results,Tryz.results224,go_sem, *]) rfl ⟨1,s.extract i0 s.size,[],⟨none,0,0⟩,rfl,rfl, .nil, ?_⟩
   exact ((HB.out.setCell (Nat.le_refl _) _).setCell (Nat.le_refl _) _).setCell (Nat.le_refl _) _
end Go.Proofs.YtkfhgnkonaafgaaGreatDoor
namespace Go.Proofs.YtkfhgnkonaafgaaGreatDoor
open Go.RowKit
theorem prime_step (s:ByteArray) (hs:s.size≤300) (f:Nat) (IP:PrimeAt s f) (IQ:ParseAtR s f):PrimeAt s (f+1):=by
 intro i d r w h hd hd2 hi hi2
 unfold pR at h
 split at h
 ·rename_i hc
  simp only [Option.some.injEq] at h;subst h
  exact prime_no s i d w hc
 ·rename_i hc
  have hc1:¬ d < 1:=fun a=>hc (.inl a)
  have hc2:¬ i < 0:=fun a=>hc (.inr (.inl a))
  have hc3:¬ (s.size:Int)≤i:=fun a=>hc (.inr (.inr a))
  split at h
  ·rename_i ha
   split at h
   ·cases h
   ·rename_i e n hp
    have hb:n = -1∨(0≤i+1∧i+1 < n∧n≤s.size):=pR_bd s f _ _ hp
    have h1:=prime_par s hs i d e n w (by omega) hd2 ha (by omega) (fun w'=>IQ _ _ _ _ w' hp hd hd2 (by omega) (by omega) (by omega) (by omega))
    split at h
    ·rename_i hb'
     rw [if_pos hb'] at h1
     simp only [Option.some.injEq] at h;subst h;exact h1
    ·rename_i hb'
     rw [if_neg hb'] at h1
     simp only [Option.some.injEq] at h;subst h;exact h1
  ·rename_i na
   split at h
   ·rename_i ha
    split at h
    ·cases h
    ·rename_i e n hp
     simp only [Option.some.injEq] at h;subst h
     exact prime_un6 s hs i d e n w (by omega) hd2 ha (fun w'=>IP _ _ _ w' hp (by omega) (by omega) (by omega) (by omega))
   ·rename_i nb
    split at h
    ·rename_i ha
     split at h
     ·cases h
     ·rename_i e n hp
      simp only [Option.some.injEq] at h;subst h
      exact prime_un7 s hs i d e n w (by omega) hd2 ha (fun w'=>IP _ _ _ w' hp (by omega) (by omega) (by omega) (by omega))
    ·rename_i nc
     obtain ⟨i0,rfl⟩:=Int.eq_ofNat_of_zero_le (show 0≤i by omega)
     have h2:i0 < s.size:=by omega
     refine prime_word s hs i0 d w (by omega) hd2 h2 (by simpa using na) (by simpa using nb) (by simpa using nc) r ?_
     simp only [Int.toNat_natCast] at h
     split at h
     ·rename_i hq
      simp only [Option.some.injEq] at h
      rw [if_pos hq];exact h.symm
     ·rename_i hq
      simp only [Option.some.injEq] at h
      rw [if_neg hq];exact h.symm
theorem parse_zero (s:ByteArray) (i d:Int) (r:Re × Int) (w:World) (hq:∀ w',Calls Tryz.prog 224 #[.string s, .int .i64 i, .int .i64 d] w' (RetPR w' r)) :
 Calls Tryz.prog 203 #[.string s, .int .i64 i, .int .i64 d, .int .i64 0] w (RetPR w r):=by
 have HB:=hide (belowAlloc w (.cells #[.int .i64 0, .string ⟨#[]⟩, .slice none 0 0] 75))
 have BX:=hide (BoxR.new w 0 ⟨#[]⟩ ⟨none,0,0⟩ 75)
 have HQ:=hide (hq (w.alloc (.cells #[.int .i64 0, .string ⟨#[]⟩, .slice none 0 0] 75)))
 have hz0:(w.alloc (.cells #[.int .i64 0, .string ⟨#[]⟩, .slice none 0 0] 75)).heap.size=w.heap.size+1:=by simp
 clear hq
 go_enter Tryz.func203,Tryz.ntmps203
 go_wp2_with fail
 (with_reducible refine HQ.out.mono ?_);rintro e' w1 ⟨eo,en,ek,sk,he,rfl,own,hb1⟩
 obtain ⟨re,rn⟩:=r
 simp only at he
 subst he
 obtain ⟨bl,r0,r1,r2,rf⟩:=BX.out.below hb1
 have HB1:=hide (HB.out.trans (hb1.mono HB.out.size))
 have hz1:=hb1.size
 rw [hz0] at hz1
 have OWN:=hide own
 clear own hb1 HQ BX
 go_wp2_with fail
 refine bodyPost_ret (v:=.tuple #[.agg #[.int .i64 eo, .string en, .slice sk.a sk.n sk.cap], .int .i64 rn]) (by simp [results,Tryz.results203,go_sem, *]) rfl ⟨eo,en,ek,sk,rfl,rfl, ?_, ?_⟩
 ·refine (((OWN.out.set (notMade hz0) _ _).set (notMade hz0) _ _).set (notMade hz0) _ _).wide fun q hq=>⟨?_, ?_⟩
  ·have:=hq.1;rw [hz0] at this;omega
  ·have:=hq.2;simp;omega
 ·exact ((HB1.out.setCell (Nat.le_refl _) _).setCell (Nat.le_refl _) _).setCell (Nat.le_refl _) _
def msR (z:Nat) (v:Value):Nat:=if intOf v < 0 then 0 else z+1 - (intOf v).toNat
theorem msR_int (z:Nat) (n:Int):msR z (.int .i64 n)=if n < 0 then 0 else z+1 - n.toNat:=rfl
theorem msR_lt {z:Nat} {n e:Int} (h0:0≤n) (h1:n≤z) (h:e = -1∨n < e):msR z (.int .i64 e) < msR z (.int .i64 n):=by
 have hn:¬ n < 0:=by omega
 simp only [msR_int,if_neg hn]
 split <;> omega
theorem BoxR.put {w:World} {g:Nat} {o:Int} {p:ByteArray} {s:Slc} (h:BoxR w g o p s) (o':Int) (p':ByteArray) (s':Slc) :
 BoxR (((w.setCell ⟨g,0,none⟩ (.int .i64 o')).setCell ⟨g,1,none⟩ (.string p')).setCell ⟨g,2,none⟩ (.slice s'.a s'.n s'.cap)) g o' p' s':=by
 obtain ⟨h1,h2,h3,h4,h5⟩:=h
 exact ⟨by simpa using h1,by simp [go_sem,h2],by simp [go_sem,h3],by simp [go_sem,h4],fun j=>by simp [go_sem,h5]⟩
theorem BoxR.other {w:World} {g b j:Nat} {u:Value} {o:Int} {p:ByteArray} {s:Slc} (h:BoxR w g o p s) (hb:g≠b):BoxR (w.setCell ⟨b,j,none⟩ u) g o p s:=by
 have e:=heap_setCell_other w ⟨b,j,none⟩ g u hb
 obtain ⟨h1,h2,h3,h4,h5⟩:=h
 exact ⟨by simpa using h1,(cell_of_block e _).trans h2,(cell_of_block e _).trans h3,(cell_of_block e _).trans h4,fun k=>by
  have h6:=h5 k
  unfold World.frozen? at h6 ⊢
  rw [e];exact h6⟩
theorem loop_cases {s:ByteArray} {g:Nat} {d lv:Int} {l:Re} {n:Int} {r:Re × Int} (h:pR s g (.loop d lv l n)=some r) (h0:0≤n) (ho:opAt s n lv≠0) :
 ∃ (g':Nat) (q:Re) (e:Int),g=g'+1∧pR s g' (.parse (n+1) d (lv - 1))=some (q,e)∧pR s g' (.loop d lv (.mk (opAt s n lv) ⟨#[]⟩ [l,q]) e)=some r:=by
 cases g with
 | zero=>simp [pR] at h
 | succ g =>
  unfold pR at h
  rw [if_neg (by omega),if_neg ho] at h
  split at h
  ·cases h
  ·rename_i q e hp
   exact ⟨g,q,e,rfl,hp,h⟩
theorem loop_neg {s:ByteArray} {g:Nat} {d lv:Int} {l:Re} {n:Int} {r:Re × Int} (h:pR s g (.loop d lv l n)=some r) (h0:n < 0):r=(zR, -1):=by
 cases g with
 | zero=>simp [pR] at h
 | succ g=>unfold pR at h;rw [if_pos h0] at h;exact (Option.some.inj h).symm
theorem loop_end {s:ByteArray} {g:Nat} {d lv:Int} {l:Re} {n:Int} {r:Re × Int} (h:pR s g (.loop d lv l n)=some r) (h0:0≤n) (ho:opAt s n lv=0):r=(l,n):=by
 cases g with
 | zero=>simp [pR] at h
 | succ g=>unfold pR at h;rw [if_neg (by omega),if_pos ho] at h;exact (Option.some.inj h).symm
theorem parse_more (s:ByteArray) (hs:s.size≤300) (f:Nat) (IQ:∀ g,g≤f→ParseAtR s g) (i d lv:Int) (l:Re) (n:Int) (r:Re × Int) (w:World) (hp:pR s f (.parse i d (lv - 1))=some (l,n)) (hl:pR s f (.loop d lv l n)=some r) (hd:0≤d) (hd2:d≤12) (hi : -1≤i) (hi2:i≤301) (hlv:1≤lv) (hlv2:lv≤3) :
 Calls Tryz.prog 203 #[.string s, .int .i64 i, .int .i64 d, .int .i64 lv] w (RetPR w r):=by
 have hlv0:(lv==0)=false:=by simp;omega
 have hb:n = -1∨(0≤i∧i < n∧n≤s.size):=pR_bd s f _ _ hp
 have hn1 : -1≤n:=by omega
 have hn2:n≤s.size:=by omega
 have HB:=hide (belowAlloc w (.cells #[.int .i64 0, .string ⟨#[]⟩, .slice none 0 0] 75))
 have BX:=hide (BoxR.new w 0 ⟨#[]⟩ ⟨none,0,0⟩ 75)
 have HQ:=hide (IQ f (Nat.le_refl _) i d (lv - 1) (l,n) (w.alloc (.cells #[.int .i64 0, .string ⟨#[]⟩, .slice none 0 0] 75)) hp hd hd2 hi hi2 (by omega) (by omega))
 have hz0:(w.alloc (.cells #[.int .i64 0, .string ⟨#[]⟩, .slice none 0 0] 75)).heap.size=w.heap.size+1:=by simp
 have HIQ:=hide (fun (g:Nat) (hg:g≤f) (n:Int) (q:Re) (e:Int) (h:pR s g (.parse (n+1) d (lv - 1))=some (q,e)) (w':World) (h0:0≤n) (h1:n≤300)=>IQ g hg (n+1) d (lv - 1) (q,e) w' h hd hd2 (by omega) (by omega) (by omega) (by omega))
 have HOP:=hide (fun (n:Int) w'=>l7Op_any s n lv w')
 have HL:=hide hl
 clear hp hl hb IQ
 go_enter Tryz.func203,Tryz.ntmps203
 go_wp2_with fail
 (with_reducible refine HQ.out.mono ?_);rintro e' w1 ⟨lo,ln,lk,sl,he,rfl,own,hb1⟩
 simp only at he
 subst he
 have BX1:=hide (BX.out.below hb1)
 have HB1:=hide (HB.out.trans (hb1.mono HB.out.size))
 have hz1:=hb1.size
 rw [hz0] at hz1
 have HBL:=hide (belowAlloc w1 (.cells #[.int .i64 lo, .string ln, .slice sl.a sl.n sl.cap] 75))
 have BL:=hide (BoxR.new w1 lo ln sl 75)
 have OWN:=hide ((own.bel HBL.out).wide (S':=fun q=>w.heap.size+1≤q∧q≠w1.heap.size∧q < w1.heap.size+1) (fun q hq=>⟨by have:=hq.1;rw [hz0] at this;exact this,by have:=hq.2;omega,by have:=hq.2;omega⟩))
 have hz2:(w1.alloc (.cells #[.int .i64 lo, .string ln, .slice sl.a sl.n sl.cap] 75)).heap.size=w1.heap.size+1:=by simp
 have BX2:=hide (BX1.out.below HBL.out)
 have HB2:=hide (HB1.out.trans (HBL.out.mono HB1.out.size))
 rw [← hz2] at OWN
 clear own hb1 HQ BX BX1 hz0
 generalize hW:w1.alloc (.cells #[.int .i64 lo, .string ln, .slice sl.a sl.n sl.cap] 75)=w2 at *
 go_wp2_with fail
 clear hW
 go_loopw [11] (fun q wr => ∃ (g:Nat) (lo:Int) (ln:ByteArray) (lk:List Re) (sl:Slc) (n:Int),g≤f∧q = .int .i64 n∧Hid (pR s g (.loop d lv (.mk lo ln lk) n)=some r)∧-1≤n∧n≤s.size∧Hid (BoxR wr w1.heap.size lo ln sl)∧Hid (OwnR 75 wr (fun q=>w.heap.size+1≤q∧q≠w1.heap.size∧q < wr.heap.size) sl lk)∧Hid (BoxR wr w.heap.size 0 ⟨#[]⟩ ⟨none,0,0⟩)∧Hid (Below w.heap.size w wr)) (fun q _=>msR s.size q)
 case atStart=>exact ⟨f,lo,ln,lk,sl,n,Nat.le_refl _,rfl,HL,hn1,hn2,BL,OWN,BX2,HB2⟩
 case round =>
  obtain ⟨g,lo,ln,lk,sl,n,hgf,rfl,HLP,hn1,hn2,BL,OWN,BXR,HBR⟩:=hrel
  obtain ⟨bl,b0,b1,b2,bf⟩:=BL.out
  obtain ⟨cl,r0,r1,r2,rf⟩:=BXR.out
  have hne:w.heap.size≠w1.heap.size:=by omega
  have hne':w1.heap.size≠w.heap.size:=by omega
  by_cases h0:0≤n
  ·have HO1:=hide (HOP.out n wr)
   have HLC:=hide (fun h=>loop_cases HLP.out h0 h)
   have HLE:=hide (fun h=>loop_end HLP.out h0 h)
   generalize opAt s n lv=op at *
   go_wp2_with fail
   (with_reducible refine HO1.out.mono ?_);rintro e' w3 ⟨rfl,hb3⟩
   have BL3:=hide (BL.out.below hb3)
   have BX3:=hide (BXR.out.below hb3)
   have OWN3:=hide (OWN.out.bel hb3)
   have HB3:=hide (HBR.out.trans (hb3.mono HBR.out.size))
   have hz3:=hb3.size
   clear bl b0 b1 b2 bf cl r0 r1 r2 rf hb3
   by_cases hop:op=0
   ·have hop':(op==0)=true:=by simp [hop]
    obtain rfl:=HLE.out hop
    obtain ⟨bl,b0,b1,b2,bf⟩:=BL3.out
    obtain ⟨cl,r0,r1,r2,rf⟩:=BX3.out
    clear hop
    go_wp2_with fail
    refine bodyPost_ret (v:=.tuple #[.agg #[.int .i64 lo, .string ln, .slice sl.a sl.n sl.cap], .int .i64 n]) (by simp [results,Tryz.results203,go_sem, *]) rfl ⟨lo,ln,lk,sl,rfl,rfl, ?_, ?_⟩
    ·refine (((OWN3.out.set (by omega) _ _).set (by omega) _ _).set (by omega) _ _).wide fun q hq=>⟨by omega, ?_⟩
     simp;omega
    ·exact ((HB3.out.setCell (Nat.le_refl _) _).setCell (Nat.le_refl _) _).setCell (Nat.le_refl _) _
   ·have hop':(op==0)=false:=by simp [hop]
    obtain ⟨g',qr,en,rfl,hpar,hloop⟩:=HLC.out hop
    have hbd:en = -1∨(0≤n+1∧n+1 < en∧en≤s.size):=pR_bd s g' _ _ hpar
    have he1 : -1≤en:=by omega
    have he2:en≤s.size:=by omega
    have hms:msR s.size (.int .i64 en) < msR s.size (.int .i64 n):=msR_lt h0 hn2 (by omega)
    have HMS:=hide hms
    have HP3:=hide (HIQ.out g' (by omega) n qr en hpar w3 h0 (by omega))
    have HLP':=hide hloop
    clear hop hpar hloop hbd hms
    go_wp2_with fail
    (with_reducible refine HP3.out.mono ?_);rintro e' w4 ⟨ro,rn,rk,sr,he,rfl,own4,hb4⟩
    simp only at he
    subst he
    have BL4:=hide (BL3.out.below hb4)
    obtain ⟨bl,b0,b1,b2,bf⟩:=BL4.out
    have BX4:=hide (BX3.out.below hb4)
    have OWN4:=hide (OWN3.out.bel hb4)
    have HB4:=hide (HB3.out.trans (hb4.mono HB3.out.size))
    have hz4:=hb4.size
    have OWR:=hide own4
    have hbl3:=BL3.out.lt
    clear own4 hb4 HP3
    go_wp2_with fail
    go_roundw
    case rel =>
     refine ⟨g',op,⟨#[]⟩,[.mk lo ln lk, .mk ro rn rk],⟨some ⟨w4.heap.size+1,0,none⟩,2,2⟩,en,by omega,rfl,HLP',he1,he2,hide ?_,hide ?_,hide ?_,hide ?_⟩
     ·exact (((BL4.out.put op ⟨#[]⟩ ⟨some ⟨w4.heap.size+1,0,none⟩,2,2⟩).below (belowAlloc _ _)).below (belowAlloc _ _))
     ·have h1:=(((OWN4.out.set (g:=w1.heap.size) (by omega) 0 (.int .i64 op)).set (g:=w1.heap.size) (by omega) 1 (.string ⟨#[]⟩)).set (g:=w1.heap.size) (by omega) 2 (.slice (some ⟨w4.heap.size+1,0,none⟩) 2 2)).bel (belowAlloc _ (.cells #[.int .i64 ro, .string rn, .slice sr.a sr.n sr.cap] 75))
      have h2:=(((OWR.out.set (g:=w1.heap.size) (fun h=>by have:=h.1;omega) 0 (.int .i64 op)).set (g:=w1.heap.size) (fun h=>by have:=h.1;omega) 1 (.string ⟨#[]⟩)).set (g:=w1.heap.size) (fun h=>by have:=h.1;omega) 2 (.slice (some ⟨w4.heap.size+1,0,none⟩) 2 2)).bel (belowAlloc _ (.cells #[.int .i64 ro, .string rn, .slice sr.a sr.n sr.cap] 75))
      have h3:=OwnR.two (S':=fun q=>w.heap.size+1≤q∧q≠w1.heap.size∧q < w4.heap.size+2) h1 h2 (fun q hq=>by have:=hq.2.2;simp;omega) (fun q hq=>by have:=hq.2;simp;omega) (fun q a b=>by have h4:=a.2.2;have h5:=b.1;omega) (fun q hq=>⟨hq.1,hq.2.1,by have:=hq.2.2;omega⟩) (fun q hq=>⟨by have:=hq.1;omega,by have:=hq.1;omega,by have:=hq.2;omega⟩) ⟨by simp;omega,by simp;omega,by simp⟩ lo ro ln rn
      refine OwnR.wide (S:=fun q=>w.heap.size+1≤q∧q≠w1.heap.size∧q < w4.heap.size+2) (by simpa using h3) (fun q hq=>⟨hq.1,hq.2.1, ?_⟩)
      have:=hq.2.2;simp;omega
     ·exact ((((BX4.out.other hne).other hne).other hne).below (belowAlloc _ _)).below (belowAlloc _ _)
     ·exact ((((HB4.out.setCell (p:=⟨w1.heap.size,0,none⟩) (by show w.heap.size≤w1.heap.size;omega) _).setCell (p:=⟨w1.heap.size,1,none⟩) (by show w.heap.size≤w1.heap.size;omega) _).setCell (p:=⟨w1.heap.size,2,none⟩) (by show w.heap.size≤w1.heap.size;omega) _).alloc (by simp;omega) _).alloc (by simp;omega) _
    case measure=>exact HMS.out
  ·have hn0:decide (n≥0)=false:=decide_eq_false (by omega)
   obtain rfl:=loop_neg HLP.out (by omega)
   go_wp2_with fail
   refine bodyPost_ret (v:=.tuple #[.agg #[.int .i64 0, .string ⟨#[]⟩, .slice none 0 0], .int .i64 (-1)]) (by simp [results,Tryz.results203,go_sem, *]) rfl (RetPR.no ?_)
   exact ((HBR.out.setCell (Nat.le_refl _) _).setCell (Nat.le_refl _) _).setCell (Nat.le_refl _) _
end Go.Proofs.YtkfhgnkonaafgaaGreatDoor
namespace Go.Proofs.YtkfhgnkonaafgaaGreatDoor
open Go.RowKit
theorem flatten_bound9 {P:List (List Ins)} (hl:P.length≤5) (h:∀ r∈P,r.length≤9):P.flatten.length≤45:=by
 have:=flatten_bound P 9 h
 have:P.length * 9≤5 * 9:=Nat.mul_le_mul_right _ hl
 omega
end Go.Proofs.YtkfhgnkonaafgaaGreatDoor
namespace Go.Proofs.YtkfhgnkonaafgaaGreatDoor
open Go.RowKit
end Go.Proofs.YtkfhgnkonaafgaaGreatDoor