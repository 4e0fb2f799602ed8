/-
  Plain: what the sizes leave.
-/
import Derived.Test.YtngekjpklkjnbaaGreatZu03
set_option maxHeartbeats 6400000
set_option maxRecDepth 100000
namespace Go.Proofs.YtngekjpklkjnbaaGreat
theorem Fh (p:List (List Ins)) (l:Int) (h:¬ Cl p l < 0) (hl:l≤1048576):(0≤Cl p l∧Cl p l≤1048576)∧p.length≤1048576∧p.flatten.length≤1048576∧∀ r∈p,r.length≤1048576:=by
 unfold Cl at h ⊢;split at h
 ·omega
 ·rename_i hl2
  rw[if_neg hl2];have h1:=I8 p _ (Int.not_lt.1 h);refine⟨Om,Om,?_,fun r hr=>by have:=h1.2 r hr;omega⟩;rcases I7 p _ (Int.not_lt.1 h) with h2 | h2
  ·rw[h2]at h1 h;omega
  ·subst h2;simp
end Go.Proofs.YtngekjpklkjnbaaGreat