/-
  Programs that are drawn for fences and races. Condition: not too many numbers were taken.
-/
import Derived.Test.YtfbgppkdnfljhaaDoorZn07
import Derived.Test.YtfbgppkdnfljhaaDoorZn05
import Derived.Test.YtfbgppkdnfljhaaDoorZn00
set_option maxHeartbeats 6400000
set_option maxRecDepth 100000
namespace Go.Proofs.YtfbgppkdnfljhaaDoor
open Go.RowKit
def OneStr (ys:List ByteArray) (v:Value) (_:World):Prop:=∃ y∈ys,v = .string y
theorem of_any (b:Nat) (a:Option Addr) (c:Nat) (xs:List Int) (p:Int) (v:Value) (ys:List ByteArray) (w:World) (base:Nat) (hr:Rd w b a c xs p) (hp:p≤1000000000) (hy:Own StrE 9 w base v ys) (hl:ys.length≤100) (h0:1≤ys.length) (hb:b < base) :
 Calls Tryd.prog 27 #[.pointer (some ⟨b,0,none⟩),v] w (RetRd w b a c xs p 1 (OneStr ys)):=by
 obtain ⟨a2,n,c2,rfl,hn⟩:=hy.toSl
 have HY:=hide hy;clear hy
 have H:=hide hn
 have HP:=hide (fun w' h=>pick_any b a c xs p n w' h hp (by omega) (by omega))
 clear hn
 go_enter Tryd.func27,Tryd.ntmps27
 go_wp2_with fail
 (with_reducible refine (HP.out _ hr).mono ?_);rintro e w1 ⟨v1,p1,rfl,⟨q,rfl,hq0,hq1⟩,hp1,hr1,ho1⟩
 obtain ⟨Q,rfl⟩:=Int.eq_ofNat_of_zero_le hq0
 have hQ:Q < n:=by have:=hq1 (by have:=H.out;omega);omega
 obtain ⟨y,hyq⟩:=get_of_lt (xs:=ys) (k:=Q) (by rw [← H.out];exact hQ)
 have hy1:=ho1.ownHi HY.out hb
 obtain ⟨g,o,rfl,hg,i0⟩:=hy1.rep.str hyq
 have hQ':=nat_of_lt hQ
 have hm:=List.mem_of_getElem? hyq
 clear hyq hy1
 go_wp2_with fail
 go_ret
 exact ⟨_,p1,rfl,⟨y,hm,rfl⟩,hp1,hr1,ho1⟩
end Go.Proofs.YtfbgppkdnfljhaaDoor