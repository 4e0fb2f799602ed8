/-
  RobustProgram where all delays are parted: it answers true at both machines with buffers. Condition: a valid program.
-/
import Derived.Test.YtlddmagfbcomgaaGreatZq23
import Derived.Test.YtlddmagfbcomgaaGreatZq30
set_option maxHeartbeats 6400000
set_option maxRecDepth 100000
namespace Go.Proofs.YtlddmagfbcomgaaGreat
open Go.RowKit
theorem Robust_true (split:Bool) (q:Value) (Q:List (List Ins)) (w:World) (hq:RepP w q Q) (hl:Q.flatten.length≤1048576) (hv:progValid Q=true) (hd:∀ t i k,Delayed Q t i k→Sep Q t i k) :
 Calls Tryz.prog 19 #[q, .string (nmBuf split)] w fun e w'=>e = .returned (.bool true)∧Below w.heap.size w w':=by
 refine (RobustProgram_buf split q Q w hq hl).mono ?_
 rintro e w' ⟨b,rfl,h1,h2⟩
 obtain rfl:=h1.2 ⟨hv,fun o h=>robust_of hd o h⟩
 exact ⟨rfl,h2⟩
theorem Robust_tso (q:Value) (Q:List (List Ins)) (w:World) (hq:RepP w q Q) (hl:Q.flatten.length≤1048576) (hv:progValid Q=true) (hd:∀ t i k,Delayed Q t i k→Sep Q t i k) :
 Calls Tryz.prog 19 #[q, .string ⟨#[116,115,111]⟩] w fun e w'=>e = .returned (.bool true)∧Below w.heap.size w w':=Robust_true false q Q w hq hl hv hd
theorem Robust_pso (q:Value) (Q:List (List Ins)) (w:World) (hq:RepP w q Q) (hl:Q.flatten.length≤1048576) (hv:progValid Q=true) (hd:∀ t i k,Delayed Q t i k→Sep Q t i k) :
 Calls Tryz.prog 19 #[q, .string ⟨#[112,115,111]⟩] w fun e w'=>e = .returned (.bool true)∧Below w.heap.size w w':=Robust_true true q Q w hq hl hv hd
end Go.Proofs.YtlddmagfbcomgaaGreat