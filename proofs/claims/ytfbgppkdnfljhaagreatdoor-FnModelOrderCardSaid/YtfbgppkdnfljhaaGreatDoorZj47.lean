/-
  What the listed variables give: the names of relations and the words of rules. No condition.
-/
import Derived.Test.YtfbgppkdnfljhaaGreatDoorZj25
import Derived.Test.YtfbgppkdnfljhaaGreatDoorZj45
import Derived.LaidSub
import Derived.Lay
set_option maxHeartbeats 6400000
set_option maxRecDepth 100000
namespace Go.Proofs.YtfbgppkdnfljhaaGreatDoor
open Go.ChangeShapes Go.WideShapes Go.ChangeAt Go.WideMaps Go.WideElems Go.RowKit
abbrev laidM : List (String × DataW Unit) := [("unicode/utf8.acceptRanges", Rows.laid_unicode_utf8_acceptRanges), ("loop.example/weakmemory/impl.relNames", Rows.laid_loop_example_weakmemory_impl_relNames), ("loop.example/weakmemory/impl.ruleWords", Rows.laid_loop_example_weakmemory_impl_ruleWords), ("unicode/utf8.first", Rows.laid_unicode_utf8_first)]
abbrev laidW : List (String × DataW Unit) := [("loop.example/weakmemory/impl.ruleWords", Rows.laid_loop_example_weakmemory_impl_ruleWords)]
theorem laidM_L : laidM.filter (fun x => x.1 == "loop.example/weakmemory/impl.relNames") = laidL := rfl
theorem laidM_W : laidM.filter (fun x => x.1 == "loop.example/weakmemory/impl.ruleWords") = laidW := rfl
theorem gWords : Tryz.prog.globalNamed "loop.example/weakmemory/impl.ruleWords" = some 0 := by kernel_rfl
theorem tWords:(Tryz.prog.globals[0]?).map (·.type)=some 159:=by kernel_rfl
theorem glob2_of_laid {W:World} (h:laidMetH Tryz.prog laidW W):Glob2 W:=by
 rw [MakeChecks.laidMetH_plain _ _ _ (by kernel_rfl)] at h
 obtain ⟨ps,⟨g0,t0,cs0,f0,p0,q0,hg0,ht0,hv0,hd0,_⟩,_,_⟩:=h
 obtain rfl:=Option.some.inj (gWords.symm.trans hg0)
 obtain rfl:=Option.some.inj (tWords.symm.trans ht0)
 obtain ⟨xs,m1, -,hx1,hlen,hn3,hel⟩:=DataW.trod_array Tryz.underlying159 hd0
 have c3:Tryz.prog.cellsOf 9=1:=by kernel_rfl
 intro k s hs
 have hk:k < 4:=(List.getElem?_eq_some_iff.1 hs).1
 have h0:=hel k hk
 obtain ⟨y,hy⟩:=get_of_lt (xs:=xs) (k:=k) (by rw [hn3];exact hk)
 rw [hy,c3,Nat.mul_one] at h0
 obtain ⟨s',e1,e2, -⟩:=DataW.trod_string Tryz.underlying9 h0
 simp only [Prod.mk.injEq] at hx1
 have hx2:xs.map (·.1)=wordsR.map fun s=>(DataW.lit (.string s.data.toList):DataW Unit):=by
  have h4:(Rows.laid_loop_example_weakmemory_impl_ruleWords:DataW Unit) = .agg (wordsR.map fun s=>(DataW.lit (.string s.data.toList):DataW Unit)):=by kernel_rfl
  exact (DataW.agg.inj (h4.symm.trans hx1.1)).symm
 have h5:(xs.map (·.1))[k]? = some y.1:=by rw [List.getElem?_map,hy];rfl
 rw [hx2,List.getElem?_map,hs] at h5
 simp only [Option.map_some,Option.some.injEq] at h5
 rw [e2] at h5
 simp only [DataW.lit.injEq,Lit.string.injEq] at h5
 have h6:s'=s:=by
  have h7:s'.data=s.data:=by
   have:=congrArg List.toArray h5
   simpa using this.symm
  cases s';cases s;simp_all
 subst h6
 have h7:=World.var?_cell hg0 hv0 k
 rw [h7]
 have h8:cs0.toList[k]? = some (.string s'):=by
  have h9:(cs0.toList.drop k)[0]? = some (.string s'):=by
   have:=congrArg (fun l=>l[0]?) e1
   simp only [List.getElem?_cons_zero] at this
   rw [List.getElem?_take_of_lt (by omega)] at this
   exact this
  rw [List.getElem?_drop] at h9
  simpa using h9
 simpa using h8
theorem globs_of_laid {W:World} (h:laidMetH Tryz.prog laidM W):Glob W∧Glob2 W:=by
 have h1 := h.filter (fun x => x.1 == "loop.example/weakmemory/impl.relNames")
 have h2 := h.filter (fun x => x.1 == "loop.example/weakmemory/impl.ruleWords")
 rw [laidM_L] at h1
 rw [laidM_W] at h2
 exact ⟨glob_of_laid h1,glob2_of_laid h2⟩
theorem laidAll_met (os:Os) (args:Array Value):laidMetH Tryz.prog laidM ((World.laidAll Tryz.prog os laidM).forCall (fun _ _=>0) ⟨#[],args,[]⟩).memory:=by
 rw [MakeChecks.laidMetH_plain _ _ _ (by kernel_rfl)]
 exact laidMet_laidAll args (by kernel_rfl) (by kernel_rfl)
theorem laidAll_shaped (os:Os):(World.laidAll Tryz.prog os laidM).Shaped Tryz.prog:=World.shaped_of_ZipB (by kernel_rfl) (by kernel_rfl)
end Go.Proofs.YtfbgppkdnfljhaaGreatDoor