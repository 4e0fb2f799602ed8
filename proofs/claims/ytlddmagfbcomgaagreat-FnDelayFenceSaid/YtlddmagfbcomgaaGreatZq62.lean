/-
  The number of pairs of a relation. Condition: at most 15 elements.
-/
import Derived.Test.YtlddmagfbcomgaaGreatZq37
set_option maxHeartbeats 6400000
set_option maxRecDepth 100000
namespace Go.Proofs.YtlddmagfbcomgaaGreat
open Go.RowKit
theorem bits_andu (a b:Nat) (ha:a < 18446744073709551616) (hb:b < 18446744073709551616):bits .and .u64 (a:Int) (b:Int)=((a &&& b:Nat):Int):=by
 have h1:(BitVec.ofInt 64 (a:Int)).toNat=a:=by
  rw [BitVec.ofInt_natCast,BitVec.toNat_ofNat];exact Nat.mod_eq_of_lt (by omega)
 have h2:(BitVec.ofInt 64 (b:Int)).toNat=b:=by
  rw [BitVec.ofInt_natCast,BitVec.toNat_ofNat];exact Nat.mod_eq_of_lt (by omega)
 have h3:a &&& b≤a:=Nat.and_le_left
 show IntKind.u64.wrap ((BitVec.ofInt 64 (a:Int) &&& BitVec.ofInt 64 (b:Int)).toNat:Int)=_
 rw [BitVec.toNat_and,h1,h2,IntKind.wrap_u64]
 omega
def oc1 (x:Nat):Nat:=(x / 2 &&& 6148914691236517205)+(x &&& 6148914691236517205)
def oc2 (y:Nat):Nat:=(y / 4 &&& 3689348814741910323)+(y &&& 3689348814741910323)
def oc3 (y:Nat):Nat:=(y / 16+y) &&& 1085102592571150095
def oc4 (y:Nat):Nat:=y+y / 256
def oc5 (y:Nat):Nat:=y+y / 65536
def oc6 (y:Nat):Nat:=y+y / 4294967296
def ones (x:Nat):Nat:=oc6 (oc5 (oc4 (oc3 (oc2 (oc1 x))))) &&& 127
theorem oc1_le (x:Nat):oc1 x≤2 * x:=by have h1:x / 2 &&& 6148914691236517205≤x / 2:=Nat.and_le_left;have h2:x &&& 6148914691236517205≤x:=Nat.and_le_left;unfold oc1;omega
theorem oc2_le (x:Nat):oc2 x≤2 * x:=by have h1:x / 4 &&& 3689348814741910323≤x / 4:=Nat.and_le_left;have h2:x &&& 3689348814741910323≤x:=Nat.and_le_left;unfold oc2;omega
theorem oc3_le (x:Nat):oc3 x≤2 * x:=by have h1:(x / 16+x) &&& 1085102592571150095≤x / 16+x:=Nat.and_le_left;unfold oc3;omega
theorem OnesCount64_any (x:Nat) (w:World) (hx:x < 32768) :
 Calls Tryz.prog 157 #[.int .u64 x] w fun e w'=>e = .returned (.int .i64 (ones x:Nat))∧w'=w:=by
 obtain ⟨y1,hy1⟩:∃ y,oc1 x=y:=⟨_,rfl⟩
 obtain ⟨y2,hy2⟩:∃ y,oc2 y1=y:=⟨_,rfl⟩
 obtain ⟨y3,hy3⟩:∃ y,oc3 y2=y:=⟨_,rfl⟩
 obtain ⟨y4,hy4⟩:∃ y,oc4 y3=y:=⟨_,rfl⟩
 obtain ⟨y5,hy5⟩:∃ y,oc5 y4=y:=⟨_,rfl⟩
 obtain ⟨y6,hy6⟩:∃ y,oc6 y5=y:=⟨_,rfl⟩
 have b1:=oc1_le x;have b2:=oc2_le y1;have b3:=oc3_le y2
 rw [hy1] at b1;rw [hy2] at b2;rw [hy3] at b3
 have b4:y4≤2 * y3:=by rw [← hy4];unfold oc4;omega
 have b5:y5≤2 * y4:=by rw [← hy5];unfold oc5;omega
 have b6:y6≤2 * y5:=by rw [← hy6];unfold oc6;omega
 have E0:Hid (ones x=y6 &&& 127):=hide (by unfold ones;rw [hy1,hy2,hy3,hy4,hy5,hy6])
 have E1:IntKind.u64.wrap (bits .and .u64 ((x:Int) / 2) 6148914691236517205+bits .and .u64 (x:Int) 6148914691236517205)=(y1:Int):=by
  have h1:=bits_andu (x / 2) 6148914691236517205 (by omega) (by omega)
  have h2:=bits_andu x 6148914691236517205 (by omega) (by omega)
  rw [show ((x / 2:Nat):Int)=(x:Int) / 2 by omega] at h1
  have h1':bits .and .u64 ((x:Int) / 2) 6148914691236517205=((x / 2 &&& 6148914691236517205:Nat):Int):=h1
  have h2':bits .and .u64 (x:Int) 6148914691236517205=((x &&& 6148914691236517205:Nat):Int):=h2
  rw [h1',h2',IntKind.wrap_u64]
  unfold oc1 at hy1
  omega
 have E2:IntKind.u64.wrap (bits .and .u64 ((y1:Int) / 4) 3689348814741910323+bits .and .u64 (y1:Int) 3689348814741910323)=(y2:Int):=by
  have h1:=bits_andu (y1 / 4) 3689348814741910323 (by omega) (by omega)
  have h2:=bits_andu y1 3689348814741910323 (by omega) (by omega)
  rw [show ((y1 / 4:Nat):Int)=(y1:Int) / 4 by omega] at h1
  have h1':bits .and .u64 ((y1:Int) / 4) 3689348814741910323=((y1 / 4 &&& 3689348814741910323:Nat):Int):=h1
  have h2':bits .and .u64 (y1:Int) 3689348814741910323=((y1 &&& 3689348814741910323:Nat):Int):=h2
  rw [h1',h2',IntKind.wrap_u64]
  unfold oc2 at hy2
  omega
 have E3:bits .and .u64 ((y2:Int) / 16+(y2:Int)) 1085102592571150095=(y3:Int):=by
  have h1:=bits_andu (y2 / 16+y2) 1085102592571150095 (by omega) (by omega)
  have e:(y2:Int) / 16+(y2:Int)=((y2 / 16+y2:Nat):Int):=by omega
  rw [e]
  unfold oc3 at hy3
  rw [← hy3]
  exact h1
 have E4:IntKind.u64.wrap ((y3:Int)+(y3:Int) / 256)=(y4:Int):=by rw [IntKind.wrap_u64];unfold oc4 at hy4;omega
 have E5:IntKind.u64.wrap ((y4:Int)+(y4:Int) / 65536)=(y5:Int):=by rw [IntKind.wrap_u64];unfold oc5 at hy5;omega
 have E6:IntKind.u64.wrap ((y5:Int)+(y5:Int) / 4294967296)=(y6:Int):=by rw [IntKind.wrap_u64];unfold oc6 at hy6;omega
 have E7:bits .and .i64 (y6:Int) 127=((y6 &&& 127:Nat):Int):=bits_and_nat y6 127 (by omega) (by omega)
 have E8:wrap64 (y6:Int)=(y6:Int):=by unfold wrap64;omega
 clear hy1 hy2 hy3 hy4 hy5 hy6
 go_enter Tryz.func157,Tryz.ntmps157
 go_wp2
 go_ret
 rw [E0.out]
 exact ⟨rfl,rfl⟩
theorem OnesCount_any (x:Nat) (w:World) (hx:x < 32768) :
 Calls Tryz.prog 92 #[.int .u64 x] w fun e w'=>e = .returned (.int .i64 (ones x:Nat))∧w'=w:=by
 have HC:=hide (OnesCount64_any x w hx)
 generalize ones x=q at *
 go_enter Tryz.func92,Tryz.ntmps92
 go_wp2_with fail
 (with_reducible refine HC.out.mono ?_);rintro e w1 ⟨rfl,rfl⟩
 go_wp2_with fail
 go_ret
 exact ⟨rfl,rfl⟩
end Go.Proofs.YtlddmagfbcomgaaGreat