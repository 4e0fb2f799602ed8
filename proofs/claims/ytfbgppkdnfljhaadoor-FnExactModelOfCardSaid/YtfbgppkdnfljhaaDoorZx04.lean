/-
  Programs that are drawn. Condition: not too many numbers were taken.
-/
import Derived.Test.YtfbgppkdnfljhaaDoorZx00
import Derived.Deep.RegionHeld3
import Derived.Deep.DeepCutAuto
set_option maxHeartbeats 6400000
set_option maxRecDepth 100000
namespace Go.Proofs.YtfbgppkdnfljhaaDoor
open Go.RowKit
end Go.Proofs.YtfbgppkdnfljhaaDoor
namespace Go.Proofs.YtfbgppkdnfljhaaDoor
open Go.RowKit
theorem below_of_outside {b:Nat} {w w':World} {B:Nat} (h:Outside b (b+1) w w') (hB:B≤b) (hB2:B≤w.heap.size):Below B w w':=h.below hB hB2
end Go.Proofs.YtfbgppkdnfljhaaDoor
namespace Go.Proofs.YtfbgppkdnfljhaaDoor
open Go.RowKit
theorem Tryd.infoStr:(Tryd.prog.info? 9).map (fun i=>(i.zero,i.size,i.bytes))=some (some (.string ⟨#[]⟩),1,16):=by kernel_rfl
def StrE:El ByteArray:=⟨1,by decide,fun x=>[.string x],fun _=>rfl,fun x u h=>by simp at h;subst h;rfl⟩
theorem Rep.str {w:World} {a:Option Addr} {n c:Nat} {xs:List ByteArray} (h:Rep StrE w (.slice a n c) xs) {k:Nat} {x:ByteArray} (hx:xs[k]? = some x) :
 ∃ b o,a=some ⟨b,o,none⟩∧b < w.heap.size∧w.cell? ⟨b,o+k,none⟩=some (.string x):=by
 obtain ⟨a',c',hv,_,_,h⟩:=h
 simp only [Value.slice.injEq] at hv
 obtain ⟨rfl,rfl,rfl⟩:=hv
 obtain ⟨b,o,rfl,h'⟩:=h k x hx
 have:=h' 0 _ rfl
 simp only [StrE,Nat.mul_one,Nat.add_zero] at this
 exact ⟨b,o,rfl,lt_of_cell this,this⟩
end Go.Proofs.YtfbgppkdnfljhaaDoor
namespace Go.Proofs.YtfbgppkdnfljhaaDoor
open Go.RowKit
end Go.Proofs.YtfbgppkdnfljhaaDoor
namespace Go.Proofs.YtfbgppkdnfljhaaDoor
open Go.RowKit
end Go.Proofs.YtfbgppkdnfljhaaDoor
namespace Go.Proofs.YtfbgppkdnfljhaaDoor
open Go.RowKit
theorem Own.lit {α:Type} {E:El α} {T:TypeId} {w:World} {base:Nat} (hb:base≤w.heap.size) (xs:List α) (cur:Array Value) (n:Nat) (hc:cur.toList=xs.flatMap E.c) (hn:n=xs.length) (hl:n≤1000) :
 Own E T (w.alloc (.cells cur T)) base (.slice (some ⟨w.heap.size,0,none⟩) n n) xs:=by
 subst hn
 have hsz:(xs.flatMap E.c).length=xs.length * E.sz:=El.length E xs
 refine ⟨hsz, .inr ⟨w.heap.size,xs.length,cur,rfl,hb,heap_alloc_new w _,Nat.le_refl _,by unfold maxLen;omega, ?_, ?_⟩⟩
 ·rw [← hsz,← hc];simp
 ·rw [hc,← hsz,List.take_length]
end Go.Proofs.YtfbgppkdnfljhaaDoor
namespace Go.Proofs.YtfbgppkdnfljhaaDoor
open Go.RowKit
end Go.Proofs.YtfbgppkdnfljhaaDoor