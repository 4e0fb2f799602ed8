/-
  Conditions that hold, in the program and in the reference. No condition but bounds on sizes.
-/
import Derived.Test.YtpnmphfdfadlcaaN3
import Derived.Test.YtpnmphfdfadlcaaT7
namespace Go.Proofs.Ytpnmphfdfadlcaa
open Go.RowKit

/-- Does a valid condition hold for an outcome of N threads? -/
def holdsF : Nat → Nat → List Int → Cd → Bool
  | 0, _, _, _ => false
  | d + 1, N, os, c =>
    if c.op = 1 then (if c.th < (N : Int) then os.getD (3 * c.th + c.pl).toNat 0 else 0) == c.val
    else if c.op = 2 then os.getD (3 * (N : Int) + c.pl).toNat 0 == c.val
    else if c.op = 3 then holdsF d N os (c.kid 0) && holdsF d N os (c.kid 1)
    else if c.op = 4 then holdsF d N os (c.kid 0) || holdsF d N os (c.kid 1)
    else !holdsF d N os (c.kid 0)

theorem l3Reg_any (t p : Int) (w : World) (h0 : 0 ≤ t) (h1 : t ≤ 2) (h2 : 0 ≤ p) (h3 : p ≤ 2) : Calls Try.prog 116 #[.int .i64 t, .int .i64 p] w fun e w' => e = .returned (.int .i64 (3 * t + p)) ∧ w = w' := by
  have hc : t * 3 = 3 * t := Int.mul_comm _ _
  go_enter Try.func116, Try.ntmps116
  go_wp2_with fail
  go_ret
  first | exact ⟨rfl, rfl⟩ | (refine ⟨congrArg Ending.returned (congrArg (Value.int .i64) ?_), rfl⟩; omega)

def HoldsAt (fn : FuncId) (d : Nat) : Prop := ∀ (o t p x : Int) (ks : List Cd) (a : Option Addr) (n c : Nat) (oa : Option Addr) (on oc : Nat) (os : List Int) (N : Nat) (w : World), RepK 0 w ⟨a, n, c⟩ ks → Rep IntE w (.slice oa on oc) os →
  os.length = 3 * N + 3 → N ≤ 3 → shapeF d (.mk o t p x ks) = true →
  Calls Try.prog fn #[.int .i64 N, .slice oa on oc, .agg #[.int .i64 o, .int .i64 t, .int .i64 p, .int .i64 x, .slice a n c]] w fun e w' => e = .returned (.bool (holdsF d N os (.mk o t p x ks))) ∧ Below w.heap.size w w'


end Go.Proofs.Ytpnmphfdfadlcaa