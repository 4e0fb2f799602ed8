/-
  The walk of FnAllowedExecs: it answers true and turns nothing that was there. No condition but the bytes' own, and the listed variable's cells.
-/
import Derived.Test.YtfbgppkdnfljhaaGreatDoorZj37
import Derived.Test.YtfbgppkdnfljhaaGreatDoorZj18
import Derived.Test.YtfbgppkdnfljhaaGreatDoorZj40
import Derived.Test.YtfbgppkdnfljhaaGreatDoorZj06
import Derived.Test.YtfbgppkdnfljhaaGreatDoorZj34
set_option maxHeartbeats 6400000
set_option maxRecDepth 100000
namespace Go.Proofs.YtfbgppkdnfljhaaGreatDoor
open Go.RowKit
theorem allowB_rules {p:List (List Ins)} {m:List Ru} {x:Xc} (h:allowB p m x=true):m.all (ruleB p x)=true:=by
 rw [allowB_eq] at h
 simp only [Bool.and_eq_true] at h
 exact h.2
theorem allowV_mem {p:List (List Ins)} {m:List Ru} {x:Xc} (h:x∈allowV p m):progValid p=true∧modelOk m=true∧execOk p x=true∧m.all (ruleB p x)=true:=by
 unfold allowV at h
 split at h
 ·rename_i hv
  unfold allowL at h
  rw [List.mem_filter] at h
  exact ⟨hv.1,hv.2,allX_ok hv.1 h.1,allowB_rules h.2⟩
 ·simp at h
theorem allowB_more {p:List (List Ins)} {m:List Ru} {r:Ru} {x:Xc} (h:allowB p (m++[r]) x=true):allowB p m x=true:=by
 rw [allowB_eq] at h ⊢
 simp only [Bool.and_eq_true,List.all_append] at h ⊢
 exact ⟨h.1,h.2.1⟩
theorem allowV_more {p:List (List Ins)} {m:List Ru} (r:Ru) (hm:modelOk m=true):(allowV p (m++[r])).length≤(allowV p m).length:=by
 unfold allowV
 by_cases hp:progValid p=true
 ·by_cases h2:modelOk (m++[r])=true
  ·rw [if_pos ⟨hp,h2⟩,if_pos ⟨hp,hm⟩]
   unfold allowL
   rw [← List.countP_eq_length_filter,← List.countP_eq_length_filter]
   exact List.countP_mono_left fun x _ h=>allowB_more h
  ·rw [if_neg (fun h=>h2 h.2)];exact Nat.zero_le _
 ·rw [if_neg (fun h=>hp h.1)];exact Nat.zero_le _
theorem BrokenRule_yes (pv:Value) (f1 o1 a:Option Addr) (f2 f3 o2 o3 n c:Nat) (p:List (List Ins)) (x:Xc) (m:List Ru) (w:World) (hp:RepP w pv p) (hx:RepX w (.slice f1 f2 f3) (.slice o1 o2 o3) x) (hm:RepM 0 w ⟨a,n,c⟩ m) (hX:execOk p x=true) (hok:modelOk m=true) (ha:m.all (ruleB p x)=true) (hl:p.flatten.length≤1048576) (hol:∀ o∈x.od,o.length≤1048576) (hg:Glob w) :
 Calls Tryz.prog 27 #[pv, .agg #[.slice f1 f2 f3, .slice o1 o2 o3], .slice a n c] w fun e w'=>e = .returned (.tuple #[.int .i64 (-1), .bool true])∧Below w.heap.size w w':=by
 have HB:=hide (belowAlloc w (.cells #[.slice f1 f2 f3, .slice o1 o2 o3] 60))
 have HBX:=hide (heap_alloc_new w (.cells #[.slice f1 f2 f3, .slice o1 o2 o3] 60))
 have HV:=hide (ExecValid_any pv (.slice f1 f2 f3) (.slice o1 o2 o3) p x _ (hp.below HB.out) (hx.below HB.out) hl hol)
 rw [hX] at HV
 have HM:=hide (fun W (hb:Below w.heap.size w W)=>ModelValid_any a n c m W (hm.below hb) (hg.below hb))
 rw [hok] at HM
 have HK:=hide (fun W (hb:Below w.heap.size w W)=>brokenRule_any pv f1 o1 a f2 f3 o2 o3 n c p x m W (hp.below hb) (hx.below hb) (hm.below hb) hX (modelOk_rules hok) hl)
 have HA:=hide ha
 clear hp hx hm hX hok ha hl hol hg
 generalize hW:w.alloc (.cells #[.slice f1 f2 f3, .slice o1 o2 o3] 60)=W at *
 have x0:W.cell? ⟨w.heap.size,0,none⟩=some (.slice f1 f2 f3):=cell_of_heapV HBX.out (k:=0) rfl
 have x1:W.cell? ⟨w.heap.size,1,none⟩=some (.slice o1 o2 o3):=cell_of_heapV HBX.out (k:=1) rfl
 have xl:=lt_of_cell x0
 clear HBX
 go_enter Tryz.func27,Tryz.ntmps27
 go_wp2_with fail
 clear hW
 (with_reducible refine HV.out.mono ?_);rintro e w1 ⟨rfl,hb1⟩
 have y0:=(hb1.cell (p:=⟨w.heap.size,0,none⟩) xl).trans x0
 have y1:=(hb1.cell (p:=⟨w.heap.size,1,none⟩) xl).trans x1
 have yl:=lt_of_cell y0
 have HB1:=hide (HB.out.trans (hb1.mono HB.out.size))
 have HM1:=hide (HM.out _ HB1.out)
 clear x0 x1 xl hb1 HV
 go_wp2_with fail
 (with_reducible refine HM1.out.mono ?_);rintro e w2 ⟨rfl,hb2⟩
 have z0:=(hb2.cell (p:=⟨w.heap.size,0,none⟩) yl).trans y0
 have z1:=(hb2.cell (p:=⟨w.heap.size,1,none⟩) yl).trans y1
 have zl:=lt_of_cell z0
 have HB2:=hide (HB1.out.trans (hb2.mono HB1.out.size))
 have HK2:=hide (HK.out _ HB2.out)
 clear y0 y1 yl hb2 HM1
 go_wp2_with fail
 (with_reducible refine HK2.out.mono ?_);rintro e w3 ⟨q,v,rfl,hq,hb3⟩
 obtain rfl:q = -1:=by
  rcases hq with ⟨h,_⟩ | ⟨_,_,h⟩
  ·exact h
  ·rw [HA.out] at h;cases h
 clear hq
 go_wp2_with fail
 refine bodyPost_ret (v:=.tuple #[.int .i64 (-1), .bool true]) (by simp [results,Tryz.results27,go_sem, *]) rfl ⟨rfl,HB2.out.trans (hb3.mono HB2.out.size)⟩
end Go.Proofs.YtfbgppkdnfljhaaGreatDoor
namespace Go.Proofs.YtfbgppkdnfljhaaGreatDoor
open Go.RowKit
structure JB (A0:World) (us:List Us) (u1:Us) (c0 c2 c6 c7:Bool) (e0:Nat) (v:Slc) (G:Nat) (v':Slc) (W:World):Prop where
 out:Below A0.heap.size A0 W
 d2:c2=true→c0=true
 d7:c7=true→c2=true∧c6=true
 e:c0=true→c2=false→Own UsE 54 W A0.heap.size (.slice (some ⟨e0,0,none⟩) 0 0) []
 o:c2=true→c7=false→Own UsE 54 W A0.heap.size (.slice v.a v.n v.cap) us
 g:c6=true→c7=false→(∀ j u,(UsE.c u1)[j]? = some u→W.cell? ⟨G,0+j,none⟩=some u)∧G < W.heap.size
 ne:c6=true→c0=true→c2=false→e0≠G
 f:c7=true→Own UsE 54 W A0.heap.size (.slice v'.a v'.n v'.cap) (us++[u1])
section
variable {A0 W W' : World} {us : List Us} {u1 : Us} {c0 c2 c6 c7 : Bool} {e0 G : Nat} {v v' : Slc}
theorem JB.start (h:Below A0.heap.size A0 W):JB A0 us u1 false false false false e0 v G v' W:=
 ⟨h,fun h=>(nomatch h),fun h=>(nomatch h),fun h=>(nomatch h),fun h=>(nomatch h),fun h=>(nomatch h),fun h=>(nomatch h),fun h=>(nomatch h)⟩
theorem JB.lit0 (h:JB A0 us u1 false c2 c6 c7 e0 v G v' W):JB A0 us u1 true c2 c6 c7 W.heap.size v G v' (W.alloc (.cells #[] 54)):=by
 have e2:=bno h.d2 rfl
 subst e2
 have e7:c7=false:=bno (fun e=>(h.d7 e).1) rfl
 subst e7
 have hb:=belowAlloc W (.cells #[] 54)
 exact ⟨h.out.trans (hb.mono h.out.size),fun h=>(nomatch h),fun h=>(nomatch h),fun _ _=>Own.empty _ W h.out.size,fun h=>(nomatch h),fun a b=>⟨fun j u hu=>(hb.cell (p:=⟨G,0+j,none⟩) (h.g a b).2).trans ((h.g a b).1 j u hu),Nat.lt_of_lt_of_le (h.g a b).2 hb.size⟩,fun a _ _ e=>by have:=(h.g a rfl).2;omega,fun h=>(nomatch h)⟩
theorem JB.app0 (h:JB A0 us u1 true false c6 c7 e0 v G v' W) {v2:Slc} (ho:Own UsE 54 W' A0.heap.size (.slice v2.a v2.n v2.cap) us) (hg:W.grownBy W' (some e0)):JB A0 us u1 true true c6 c7 e0 v2 G v' W':=by
 have e7:c7=false:=bno (fun e=>(h.d7 e).1) rfl
 subst e7
 have he:=World.ownsRow.lt (h.e rfl rfl) e0 rfl
 exact ⟨h.out.grown hg h.out.size (fun k hk=>by simp at hk;omega),fun _=>rfl,fun h=>(nomatch h),fun _ h=>(nomatch h),fun _ _=>ho,fun a b=>⟨fun j u hu=>(cell_of_block (hg.block G (h.g a b).2 (fun e=>h.ne a rfl rfl (by simpa using e.symm))) _).trans ((h.g a b).1 j u hu),Nat.lt_of_lt_of_le (h.g a b).2 hg.size⟩,fun _ _ h=>(nomatch h),fun h=>(nomatch h)⟩
theorem JB.lit1 (h:JB A0 us u1 c0 c2 false c7 e0 v G v' W):JB A0 us u1 c0 c2 true c7 e0 v W.heap.size v' (W.alloc (.cells #[.int .i64 u1.kind, .int .i64 u1.op, .string u1.nm, .slice u1.s.a u1.s.n u1.s.cap] 54)):=by
 have e7:c7=false:=bno (fun e=>(h.d7 e).2) rfl
 subst e7
 have hb:=belowAlloc W (.cells #[.int .i64 u1.kind, .int .i64 u1.op, .string u1.nm, .slice u1.s.a u1.s.n u1.s.cap] 54)
 exact ⟨h.out.trans (hb.mono h.out.size),h.d2,fun h=>(nomatch h),fun a b=>(h.e a b).below hb,fun a b=>(h.o a b).below hb,fun _ _=>⟨news_alloc (l:=[.int .i64 u1.kind, .int .i64 u1.op, .string u1.nm, .slice u1.s.a u1.s.n u1.s.cap]),by simp⟩,fun _ a b e=>by have:=(World.ownsRow.lt (h.e a b) e0 rfl).2;omega,fun h=>(nomatch h)⟩
theorem JB.app1 (h:JB A0 us u1 c0 true true false e0 v G v' W) {v2:Slc} (ho:Own UsE 54 W' A0.heap.size (.slice v2.a v2.n v2.cap) (us++[u1])) (hg:W.grownBy W' (Value.slice v.a v.n v.cap).ownBlock):JB A0 us u1 c0 true true true e0 v G v2 W':=by
 have h0:=h.d2 rfl
 subst h0
 exact ⟨h.out.grown hg h.out.size (fun k hk=>(World.ownsRow.lt (h.o rfl rfl) k hk).1),fun _=>rfl,fun _=>⟨rfl,rfl⟩,fun _ h=>(nomatch h),fun _ h=>(nomatch h),fun _ h=>(nomatch h),fun _ _ h=>(nomatch h),fun _=>ho⟩
end
theorem RepM.snoc {w:World} {base:Nat} {s:Slc} {us:List Us} {u1:Us} {m:List Ru} {r1:Ru} (ho:Own UsE 54 w base (.slice s.a s.n s.cap) (us++[u1])) (hl:us.length=m.length) (hk:∀ (i:Nat) (u:Us) (r:Ru),us[i]? = some u→m[i]? = some r→RepU 0 w u r) (h1:RepU 0 w u1 r1):RepM 0 w s (m++[r1]):=by
 refine ⟨us++[u1],by simp [hl],ho.rep, .inr fun b o e=>Nat.zero_le _,fun i u r hu hr => ?_⟩
 by_cases hi:i < us.length
 ·rw [List.getElem?_append_left hi] at hu
  rw [List.getElem?_append_left (by omega)] at hr
  exact hk i u r hu hr
 ·rw [List.getElem?_append_right (by omega)] at hu
  rw [List.getElem?_append_right (by omega)] at hr
  have h0:i - us.length=0:=by
   rcases Nat.eq_zero_or_pos (i - us.length) with h | h
   ·exact h
   ·rw [List.getElem?_eq_none (by simp;omega)] at hu;cases hu
  rw [h0] at hu
  rw [← hl,h0] at hr
  simp at hu hr;subst hu;subst hr;exact h1
theorem RowsX.len2 {w:World} {base:Nat} {a:Option Addr} {n c:Nat} {L:List Xc} (h:RowsX w base (.slice a n c) L):n=L.length:=by
 rcases h.shape with ⟨h1,h2⟩ | ⟨g,cap,h1, -⟩
 ·simp only [Value.slice.injEq] at h1;rw [h1.2.1,h2];rfl
 ·simp only [Value.slice.injEq] at h1;exact h1.2.1
theorem RowsX.row2 {w:World} {base:Nat} {a:Option Addr} {n c:Nat} {L:List Xc} (h:RowsX w base (.slice a n c) L) {k:Nat} {x:Xc} (hr:L[k]? = some x) :
 ∃ (f o:Slc) (g:Nat),a=some ⟨g,0,none⟩∧g < w.heap.size∧w.cell? ⟨g,k * 2,none⟩=some (.slice f.a f.n f.cap)∧w.cell? ⟨g,k * 2+1,none⟩=some (.slice o.a o.n o.cap)∧RepX w f.v o.v x:=by
 obtain ⟨us,ds,h⟩:=h
 obtain ⟨u,d,g, -, -,h1, -,h2,h3, -,h4⟩:=h.at hr
 have h5:=h3 0 _ rfl
 have h6:=h3 1 _ rfl
 simp only [XE,Nat.add_zero] at h5 h6
 exact ⟨u.f,u.o,g,h1,h2,h5,h6,h4.now⟩
end Go.Proofs.YtfbgppkdnfljhaaGreatDoor
namespace Go.Proofs.YtfbgppkdnfljhaaGreatDoor
open Go.RowKit
theorem odLenA {p:List (List Ins)} {x:Xc} (h:execOk p x=true):∀ o∈x.od,o.length≤(evAll p).length:=by
 intro o ho
 unfold execOk at h
 simp only [Bool.and_eq_true,decide_eq_true_eq] at h
 obtain ⟨i,hi⟩:=List.mem_iff_getElem?.1 ho
 have hlt:=(List.getElem?_eq_some_iff.1 hi).1
 obtain ⟨o',h1,h2⟩:=ordersOk_get h.2.2.2.2 (by rw [← h.2.2.1];exact hlt)
 rw [hi] at h1;simp only [Option.some.injEq] at h1;subst h1
 unfold orderOk at h2
 simp only [Bool.and_eq_true,decide_eq_true_eq] at h2
 rw [h2.1.length_eq];exact wrL_length _ _
theorem RowsX.bound {w:World} {base:Nat} {a:Option Addr} {n c:Nat} {L:List Xc} (h:RowsX w base (.slice a n c) L):L.length≤maxLen:=by
 obtain ⟨us,ds,h⟩:=h
 have:=h.lu
 rcases h.own.shape with ⟨_,h2⟩ | ⟨g,cap,_,_,_,h5,h6⟩
 ·rw [h2] at this;simp at this;omega
 ·omega
theorem lawFnAllowedExecs (v v2:Value) (xs xs2:List Int) (w:World) (h:Rep ByteE w v xs∧∀ x∈xs,0≤x∧x≤255) (h2:Rep ByteE w v2 xs2∧∀ x∈xs2,0≤x∧x≤255) (hg:Glob w) :
 Calls Tryz.prog 5 #[v,v2] w fun e w'=>e = .returned (.bool true)∧Below w.heap.size w w':=by
 obtain ⟨hx,hb⟩:=h
 obtain ⟨a0,c0,rfl, -,hm0, -,hx⟩:=hx.open
 obtain ⟨hx2,hb2⟩:=h2
 obtain ⟨a2,c2,rfl, -,hm2, -,hx2⟩:=hx2.open
 have HD:=hide (DrawAllowedExecs_any (.slice a0 xs.length c0) xs w hx hb)
 have HD2:=hide (fun W (hbb:Below w.heap.size w W)=>DrawAllowedExecs_any (.slice a2 xs2.length c2) xs2 W (hx2.below hbb) hb2)
 have HG:=hide hg
 clear hx hb hx2 hb2 hg
 generalize xs.length=n at *
 generalize xs2.length=n2 at *
 by_cases hl:(n:Int) > 1048576
 ·go_enter Tryz.func5,Tryz.ntmps5
  go_wp2_with fail
  go_ret
  exact ⟨rfl,Below.refl _ _⟩
 have hl':decide ((n:Int) > 1048576)=false:=decide_eq_false hl
 by_cases hl2:(n2:Int) > 1048576
 ·go_enter Tryz.func5,Tryz.ntmps5
  go_wp2_with fail
  go_ret
  exact ⟨rfl,Below.refl _ _⟩
 have hl2':decide ((n2:Int) > 1048576)=false:=decide_eq_false hl2
 go_enter Tryz.func5,Tryz.ntmps5
 go_wp2_with fail
 (with_reducible refine HD.out.mono ?_);rintro e w1 ⟨vp,s,P,m,rfl,hP,hPl,hPr,hm,hml,hmw,hb1⟩
 have hfl:=flatten_bound9 hPl hPr
 have hrm:=hm.rep.low (Nat.zero_le _)
 have HA:=hide (AllowedExecs_any vp s.a s.n s.cap P m w1 hP hrm (by omega) (HG.out.below hb1))
 have HS:=hide (fun W h1 h2=>sAllowedExecs_any vp s.a s.n s.cap P m W h1 h2 (by omega) (by omega) (by omega))
 obtain ⟨E,hE⟩:∃ E,allowV P m=E:=⟨_,rfl⟩
 have HMEM:=hide (fun x (hx:x∈E)=>allowV_mem (p:=P) (m:=m) (x:=x) (by rw [hE];exact hx))
 have HMORE:=hide (fun (r:Ru) (hm:modelOk m=true)=>(by rw [← hE];exact allowV_more r hm:(allowV P (m++[r])).length≤E.length))
 rw [hE] at HA HS
 obtain ⟨en,hen⟩:∃ en,E.length=en:=⟨_,rfl⟩
 have HN:=hide hen
 rw [hen] at HMORE
 clear hE
 have HP:=hide hP;have HM:=hide hrm;have HB1:=hide hb1
 clear hP hPr hm hrm hb1 HD hen
 go_wp2_with fail
 (with_reducible refine HA.out.mono ?_);rintro e w2 ⟨⟨la,ln,lc⟩,rfl,hr2,hb2⟩
 have HB2:=hide (HB1.out.trans (hb2.mono HB1.out.size))
 obtain rfl:ln=en:=(RowsX.len2 hr2).trans HN.out
 have hbnd:=RowsX.bound hr2
 rw [HN.out] at hbnd
 have hbnd:ln≤9223372036854775807:=by unfold maxLen at hbnd;omega
 have HP2:=hide (HP.out.below hb2);have HM2:=hide (HM.out.below hb2)
 have HR2:=hide hr2
 have HS2:=hide (HS.out w2 HP2.out HM2.out)
 clear hb2 hr2 HA HB1 HP HM
 go_wp2_with fail
 (with_reducible refine HS2.out.mono ?_);rintro e w3 ⟨⟨sa,sn,sc⟩,rfl,hr3,hb3⟩
 have HB3:=hide (HB2.out.trans (hb3.mono HB2.out.size))
 obtain rfl:sn=ln:=(RowsX.len2 hr3).trans HN.out
 have HP3:=hide (HP2.out.below hb3);have HM3:=hide (HM2.out.below hb3)
 have HR3:=hide (OwnF.below HR2.out hb3)
 have HQ3:=hide hr3
 clear hb3 hr3 HS HS2 HB2 HP2 HM2 HR2
 have hne:((sn:Int)==(sn:Int))=true:=by simp
 have HDD:=hide (HD2.out _ HB3.out)
 go_wp2_with fail
 (with_reducible refine HDD.out.mono ?_);rintro e w4 ⟨vq,s2,P2,m2,rfl, -, -, -,hm2,hml2,hmw2,hb4⟩
 have HB4:=hide (HB3.out.trans (hb4.mono HB3.out.size))
 have HM4:=hide (HM3.out.below hb4);have HP4:=hide (HP3.out.below hb4)
 have HR4:=hide (OwnF.below HR3.out hb4);have HQ4:=hide (OwnF.below HQ3.out hb4)
 have HM24:=hide (hm2.rep.low (Nat.zero_le _))
 have HV4:=hide (ModelValid_any s.a s.n s.cap m w4 HM4.out (HG.out.below HB4.out))
 clear hm2 hb4 HDD HD2 HB3 HM3 HP3 HR3 HQ3
 cases hok:modelOk m with
 | false =>
  rw [hok] at HV4
  go_wp2_with fail
  (with_reducible refine HV4.out.mono ?_);rintro e w5 ⟨rfl,hb5⟩
  have HB5:=hide (HB4.out.trans (hb5.mono HB4.out.size))
  clear hb5
  go_wp2_with fail
  go_ret
  exact ⟨by simp,HB5.out⟩
 | true =>
  rw [hok] at HV4
  go_wp2_with fail
  (with_reducible refine HV4.out.mono ?_);rintro e w5 ⟨rfl,hb5⟩
  have HB5:=hide (HB4.out.trans (hb5.mono HB4.out.size))
  have HM5:=hide (HM4.out.below hb5);have HP5:=hide (HP4.out.below hb5)
  have HR5:=hide (OwnF.below HR4.out hb5);have HQ5:=hide (OwnF.below HQ4.out hb5)
  have HM25:=hide (HM24.out.below hb5)
  have HV5:=hide (ModelValid_any s2.a s2.n s2.cap m2 w5 HM25.out (HG.out.below HB5.out))
  clear hb5 HV4 HB4 HM4 HP4 HR4 HQ4 HM24
  cases hok2:modelOk m2 with
  | false =>
   rw [hok2] at HV5
   go_wp2_with fail
   (with_reducible refine HV5.out.mono ?_);rintro e w6 ⟨rfl,hb6⟩
   have HB6:=hide (HB5.out.trans (hb6.mono HB5.out.size))
   clear hb6
   go_wp2_with fail
   go_ret
   exact ⟨by simp,HB6.out⟩
  | true =>
   rw [hok2] at HV5
   go_wp2_with fail
   (with_reducible refine HV5.out.mono ?_);rintro e w6 ⟨rfl,hb6⟩
   have HB6:=hide (HB5.out.trans (hb6.mono HB5.out.size))
   have HM6:=hide (HM5.out.below hb6);have HP6:=hide (HP5.out.below hb6)
   have HR6:=hide (OwnF.below HR5.out hb6);have HQ6:=hide (OwnF.below HQ5.out hb6)
   have hm26:=HM25.out.below hb6
   have h1m2:1≤m2.length:=by
    unfold modelOk at hok2;simp only [Bool.and_eq_true,decide_eq_true_eq] at hok2;exact hok2.1
   obtain ⟨r1,hr1⟩:=get_of_lt (xs:=m2) (k:=0) (by omega)
   have hs2n:=hm26.open.1
   obtain ⟨s2a,s2n,s2c⟩:=s2
   obtain ⟨ob,oo,t1,hs2,hobl,i0,i1,i2,i3,hkr⟩:=hm26.row hr1
   simp only at hs2 hs2n
   subst hs2
   simp only [Nat.zero_mul,Nat.add_zero] at i0 i1 i2 i3
   have hi2:(0:Int) < (s2n:Int):=by omega
   have hi2n:0 < s2n:=by omega
   obtain ⟨us,hul,hus, -,hku⟩:=HM6.out
   have HUS:=hide hus;have HKU:=hide hku;have HKR:=hide hkr;have HUL:=hide hul
   have hull:us.length≤6:=by omega
   clear hb6 HV5 HB5 HM5 HP5 HR5 HQ5 HM25 hm26 hus hku hkr hul hr1 h1m2 hs2n
   go_wp2_with fail
   -- reg both
   refine wp_region_inv3 (n:=8) (by kernel_rfl) rfl (by kernel_rfl) (by kernel_rfl) (fun A ls a' W => ∃ (e0:Nat) (v3:Slc) (G:Nat) (v4:Slc) (x59 x60 x61 x62 x63 x64 x65 x66:Value),a'=putAll A [(59,x59),(60,x60),(61,x61),(62,x62),(63,x63),(64,x64),(65,x65),(66,x66)]∧Vd ls 0 [] x59 (.slice (some ⟨e0,0,none⟩) 0 0)∧Vd ls 1 [] x60 (.slice s.a s.n s.cap)∧Vd ls 2 [0] x61 (.slice v3.a v3.n v3.cap)∧Vd ls 3 [] x62 (.slice (some ⟨ob,oo,none⟩) s2n s2c)∧Vd ls 4 [] x63 (.pointer (some ⟨ob,oo,none⟩))∧Vd ls 5 [] x64 (.agg #[.int .i64 r1.kind, .int .i64 r1.e.op, .string r1.e.nm, .slice t1.a t1.n t1.cap])∧Vd ls 6 [] x65 (.slice (some ⟨G,0,none⟩) 1 1)∧Vd ls 7 [0,2,6] x66 (.slice v4.a v4.n v4.cap)∧JB w6 us ⟨r1.kind,r1.e.op,r1.e.nm,t1⟩ (fl ls 0) (fl ls 2) (fl ls 6) (fl ls 7) e0 v3 G v4 W) ?r0 ?rs ?re
   case r0 =>
    exact ⟨0,⟨none,0,0⟩,0,⟨none,0,0⟩,undef,undef,undef,undef,undef,undef,undef,undef,by simp only [putAll,Act.put,List.setIfInBounds_toArray,List.set_cons_succ,List.set_cons_zero],Vd.start,Vd.start,Vd.start,Vd.start,Vd.start,Vd.start,Vd.start,Vd.start,by simp only [fl_start];exact JB.start (Below.refl _ _).drew⟩
   case rs =>
    rintro ls a' W hs hnl ⟨e0,v3,G,v4,x59,x60,x61,x62,x63,x64,x65,x66,ha,cv0,cv1,cv2,cv3,cv4,cv5,cv6,cv7,hJ⟩ k o hkn mc K hK
    simp only [putAll,Act.put,List.setIfInBounds_toArray,List.set_cons_succ,List.set_cons_zero] at ha
    subst ha
    have hkc:k=0∨k=1∨k=2∨k=3∨k=4∨k=5∨k=6∨k=7:=by omega
    have hop:=mc.op
    have haf:=mc.after
    rcases hkc with rfl | rfl | rfl | rfl | rfl | rfl | rfl | rfl
    ·simp at hop;subst hop;simp [Region.binds] at haf
     have f0:=fl_no mc.new;rw [f0] at hJ
     go_simp
     exact hK _ _ ⟨W.heap.size,v3,G,v4,_,_,_,_,_,_,_,_,by simp only [putAll,Act.put,List.setIfInBounds_toArray,List.set_cons_succ,List.set_cons_zero],Vd.same (by simp),cv1.set (by decide),cv2.void (by decide) (by decide) mc.new,cv3.set (by decide),cv4.set (by decide),cv5.set (by decide),cv6.set (by decide),cv7.void (by decide) (by decide) mc.new,by rw [fl_got hs (by decide),fl_set (show 0≠2 by decide),fl_set (show 0≠6 by decide),fl_set (show 0≠7 by decide)];exact hJ.lit0⟩
    ·simp at hop;subst hop;simp [Region.binds] at haf
     go_simp
     exact hK _ _ ⟨e0,v3,G,v4,_,_,_,_,_,_,_,_,by simp only [putAll,Act.put,List.setIfInBounds_toArray,List.set_cons_succ,List.set_cons_zero],cv0.set (by decide),Vd.same (by simp),cv2.set (by decide),cv3.set (by decide),cv4.set (by decide),cv5.set (by decide),cv6.set (by decide),cv7.set (by decide),by rw [fl_set (show 1≠0 by decide),fl_set (show 1≠2 by decide),fl_set (show 1≠6 by decide),fl_set (show 1≠7 by decide)];exact hJ⟩
    ·simp at hop;subst hop;simp [Region.binds] at haf
     obtain rfl:=(cv0.get (by simp [haf])).symm
     obtain rfl:=(cv1.get (by simp [haf])).symm
     have f2:=fl_no mc.new;rw [f2] at hJ
     have f0:=fl_yes (show ls[0]? = some true by simp [haf]);rw [f0] at hJ
     refine step_appS UsE 54 Tryz.infoRule rfl Tryz.underlying30 w6.heap.size (.slice (some ⟨e0,0,none⟩) 0 0) [] us (.slice s.a s.n s.cap) (hJ.e rfl rfl) (HUS.out.below hJ.out) (by decide) (by simp;omega) hJ.out.size (by rfl) _ _ (by rfl) (by rfl) (by rfl) ?_;intro v' w7 ho7 hg7
     obtain ⟨⟨g1,g2,g3⟩,rfl, -⟩:=ho7.toSlc
     exact hK _ _ ⟨e0,⟨g1,g2,g3⟩,G,v4,_,_,_,_,_,_,_,_,by simp only [putAll,Act.put,List.setIfInBounds_toArray,List.set_cons_succ,List.set_cons_zero],cv0.set (by decide),cv1.set (by decide),Vd.same (by simp [haf]),cv3.set (by decide),cv4.set (by decide),cv5.set (by decide),cv6.set (by decide),cv7.void (by decide) (by decide) mc.new,by rw [fl_set (show 2≠0 by decide),fl_got hs (by decide),fl_set (show 2≠6 by decide),fl_set (show 2≠7 by decide),f0];exact hJ.app0 (by simpa using ho7) hg7⟩
    ·simp at hop;subst hop;simp [Region.binds] at haf
     go_simp
     exact hK _ _ ⟨e0,v3,G,v4,_,_,_,_,_,_,_,_,by simp only [putAll,Act.put,List.setIfInBounds_toArray,List.set_cons_succ,List.set_cons_zero],cv0.set (by decide),cv1.set (by decide),cv2.set (by decide),Vd.same (by simp),cv4.set (by decide),cv5.set (by decide),cv6.set (by decide),cv7.set (by decide),by rw [fl_set (show 3≠0 by decide),fl_set (show 3≠2 by decide),fl_set (show 3≠6 by decide),fl_set (show 3≠7 by decide)];exact hJ⟩
    ·simp at hop;subst hop;simp [Region.binds] at haf
     obtain rfl:=(cv3.get (by simp [haf])).symm
     go_simp
     exact hK _ _ ⟨e0,v3,G,v4,_,_,_,_,_,_,_,_,by simp only [putAll,Act.put,List.setIfInBounds_toArray,List.set_cons_succ,List.set_cons_zero],cv0.set (by decide),cv1.set (by decide),cv2.set (by decide),cv3.set (by decide),Vd.same (by simp),cv5.set (by decide),cv6.set (by decide),cv7.set (by decide),by rw [fl_set (show 4≠0 by decide),fl_set (show 4≠2 by decide),fl_set (show 4≠6 by decide),fl_set (show 4≠7 by decide)];exact hJ⟩
    ·simp at hop;subst hop;simp [Region.binds] at haf
     obtain rfl:=(cv4.get (by simp [haf])).symm
     have c0:=(hJ.out.cell (p:=⟨ob,oo,none⟩) hobl).trans i0
     have c1:=(hJ.out.cell (p:=⟨ob,oo+1,none⟩) hobl).trans i1
     have c2:=(hJ.out.cell (p:=⟨ob,oo+2,none⟩) hobl).trans i2
     have c3:=(hJ.out.cell (p:=⟨ob,oo+3,none⟩) hobl).trans i3
     have cl:=lt_of_cell c0
     go_simp
     exact hK _ _ ⟨e0,v3,G,v4,_,_,_,_,_,_,_,_,by simp only [putAll,Act.put,List.setIfInBounds_toArray,List.set_cons_succ,List.set_cons_zero],cv0.set (by decide),cv1.set (by decide),cv2.set (by decide),cv3.set (by decide),cv4.set (by decide),Vd.same (by simp),cv6.set (by decide),cv7.set (by decide),by rw [fl_set (show 5≠0 by decide),fl_set (show 5≠2 by decide),fl_set (show 5≠6 by decide),fl_set (show 5≠7 by decide)];exact hJ⟩
    ·simp at hop;subst hop;simp [Region.binds] at haf
     obtain rfl:=(cv5.get (by simp [haf])).symm
     have f6:=fl_no mc.new;rw [f6] at hJ
     go_simp
     exact hK _ _ ⟨e0,v3,W.heap.size,v4,_,_,_,_,_,_,_,_,by simp only [putAll,Act.put,List.setIfInBounds_toArray,List.set_cons_succ,List.set_cons_zero],cv0.set (by decide),cv1.set (by decide),cv2.set (by decide),cv3.set (by decide),cv4.set (by decide),cv5.set (by decide),Vd.same (by simp),cv7.void (by decide) (by decide) mc.new,by rw [fl_set (show 6≠0 by decide),fl_set (show 6≠2 by decide),fl_got hs (by decide),fl_set (show 6≠7 by decide)];exact hJ.lit1⟩
    ·simp at hop;subst hop;simp [Region.binds] at haf
     have q2:=(cv2 (by simp [haf])).1;simp at q2
     obtain rfl:=(cv2.get (by simp [haf])).symm
     obtain rfl:=(cv6.get (by simp [haf])).symm
     have f7:=fl_no mc.new;rw [f7] at hJ
     have f2:=fl_yes (show ls[2]? = some true by simp [haf]);rw [f2] at hJ
     have f6:=fl_yes (show ls[6]? = some true by simp [haf]);rw [f6] at hJ
     refine step_appAt UsE 54 Tryz.infoRule rfl Tryz.underlying30 w6.heap.size (.slice v3.a v3.n v3.cap) us ⟨r1.kind,r1.e.op,r1.e.nm,t1⟩ (hJ.o rfl rfl) (by decide) (by omega) hJ.out.size (by rfl) _ _ (by rfl) (by rfl) G 0 1 (by rfl) (hJ.g rfl rfl).1 ?_;intro s' w7 ho7 hg7 _
     exact hK _ _ ⟨e0,v3,G,s',_,_,_,_,_,_,_,_,by simp only [putAll,Act.put,List.setIfInBounds_toArray,List.set_cons_succ,List.set_cons_zero],cv0.set (by decide),cv1.set (by decide),cv2.set (by decide),cv3.set (by decide),cv4.set (by decide),cv5.set (by decide),cv6.set (by decide),Vd.same (by simp [haf,q2]),by rw [fl_set (show 7≠0 by decide),fl_set (show 7≠2 by decide),fl_set (show 7≠6 by decide),fl_got hs (by decide),f2,f6];exact hJ.app1 ho7 hg7⟩
   case re =>
    rintro ls a' W hall ⟨e0,v3,G,v4,x59,x60,x61,x62,x63,x64,x65,x66,ha,cv0,cv1,cv2,cv3,cv4,cv5,cv6,cv7,hJ⟩ o hop
    simp only [putAll,Act.put,List.setIfInBounds_toArray,List.set_cons_succ,List.set_cons_zero] at ha
    subst ha
    simp at hop;subst hop
    obtain rfl:=(cv0.get (hall 0 (by decide))).symm
    obtain rfl:=(cv1.get (hall 1 (by decide))).symm
    obtain rfl:=(cv2.get (hall 2 (by decide))).symm
    obtain rfl:=(cv3.get (hall 3 (by decide))).symm
    obtain rfl:=(cv4.get (hall 4 (by decide))).symm
    obtain rfl:=(cv5.get (hall 5 (by decide))).symm
    obtain rfl:=(cv6.get (hall 6 (by decide))).symm
    obtain rfl:=(cv7.get (hall 7 (by decide))).symm
    rw [fl_yes (hall 0 (by decide))] at hJ
    rw [fl_yes (hall 2 (by decide))] at hJ
    rw [fl_yes (hall 6 (by decide))] at hJ
    rw [fl_yes (hall 7 (by decide))] at hJ
    have hof:=hJ.f rfl
    have hout:=hJ.out
    clear hJ
    go_simp
    go_wp2_with fail
    have HRB:=hide (RepM.snoc (m:=m) (r1:=r1) hof HUL.out (fun i u r hu hr=>(HKU.out i u r hu hr).belowW hout) ⟨rfl,rfl,rfl,HKR.out.below hout⟩)
    have HB7:=hide (HB6.out.trans (hout.mono HB6.out.size))
    have HP7:=hide (HP6.out.below hout);have HM7:=hide (HM6.out.below hout)
    have HR7:=hide (OwnF.below HR6.out hout);have HQ7:=hide (OwnF.below HQ6.out hout)
    clear hof hout i0 i1 i2 i3
    go_loopw [12] (fun i wr => ∃ k:Nat,k≤sn∧i = .int .i64 k∧Below W.heap.size W wr) (fun i _=>sn - (intOf i).toNat)
    case atStart=>exact ⟨0,Nat.zero_le _,rfl,Below.refl _ _⟩
    case round =>
     obtain ⟨k,hk,rfl,hbr⟩:=hrel
     have HBR:=hide hbr
     have hbW:=HB7.out.trans (hbr.mono HB7.out.size)
     have HBW:=hide hbW
     by_cases hlt:k < sn
     ·obtain ⟨x,hxk⟩:=get_of_lt (xs:=E) (k:=k) (by rw [HN.out];exact hlt)
      obtain ⟨hpv, -,hX,hrules⟩:=HMEM.out x (List.mem_of_getElem? hxk)
      obtain ⟨f,o,g,hga,hgl,c0',c1',hXr⟩:=RowsX.row2 (OwnF.below HR7.out hbr) hxk
      obtain ⟨f',o',g',hga',hgl',e0',e1',hXr'⟩:=RowsX.row2 (OwnF.below HQ7.out hbr) hxk
      subst hga;subst hga'
      have hlt':=nat_of_lt hlt
      have hol:∀ o∈x.od,o.length≤1048576:=fun o ho=>by have h1:=odLenA hX o ho;have h2:=evAll_le hpv;omega
      have HBK:=hide (BrokenRule_yes vp f.a o.a s.a f.n f.cap o.n o.cap s.n s.cap P x m wr (HP7.out.below hbr) hXr (HM7.out.below hbr) hX hok hrules (by omega) hol (HG.out.below hbW))
      have HXR:=hide hXr;have HXR':=hide hXr'
      clear hxk hpv hX hrules hXr hXr' hol hbr hbW
      go_wp2_with fail
      (with_reducible refine HBK.out.mono ?_);rintro e w8 ⟨rfl,hb8⟩
      have c0':=(hb8.cell (p:=⟨g,k * 2,none⟩) hgl).trans c0'
      have c1':=(hb8.cell (p:=⟨g,k * 2+1,none⟩) hgl).trans c1'
      have e0':=(hb8.cell (p:=⟨g',k * 2,none⟩) hgl').trans e0'
      have e1':=(hb8.cell (p:=⟨g',k * 2+1,none⟩) hgl').trans e1'
      have hgl:=lt_of_cell c0'
      have hgl':=lt_of_cell e0'
      have HBR8:=hide (HBR.out.trans (hb8.mono HBR.out.size))
      have HC:=hide (fun (y:BW w8)=>ExecSame_any f o f' o' x x y.val (HXR.out.below (hb8.trans (y.prop.mono hb8.size))) (HXR'.out.below (hb8.trans (y.prop.mono hb8.size))))
      simp only [decide_true] at HC
      clear hb8
      go_wp2_with fail
      refine wp_region_bw (by kernel_rfl) (by kernel_rfl) ?_
      repeat (go_big_quiet_step ((go_at_call 28;(with_reducible exact Calls.bw (HC.out _)))))
      refine wpQuiet_nil ?_
      intro w9 hb9
      have HBR9:=hide (HBR8.out.trans (hb9.mono HBR8.out.size))
      clear hb9
      go_wp2_with fail
      go_roundw
      case rel=>exact ⟨k+1,by omega,by go_num,HBR9.out⟩
      case measure=>simp [intOf];omega
     ·obtain rfl:k=sn:=by omega
      have hkg:decide ((k:Int) < (k:Int))=false:=by simp
      have hkg2:decide (k < k)=false:=by simp
      have HMV:=hide (ModelValid_any v4.a v4.n v4.cap (m++[r1]) wr (HRB.out.below hbr) (HG.out.below hbW))
      have HLE:=hide (HMORE.out r1 hok)
      have HAB:=hide (fun w' (hb:Below wr.heap.size wr w')=>AllowedExecs_any vp v4.a v4.n v4.cap P (m++[r1]) w' ((HP7.out.below hbr).below hb) ((HRB.out.below hbr).below hb) (by omega) (HG.out.below (hbW.trans (hb.mono hbW.size))))
      clear hbr hbW
      generalize allowV P (m++[r1])=E2 at *
      cases hok3:modelOk (m++[r1]) with
      | false =>
       rw [hok3] at HMV
       go_wp2_with fail
       (with_reducible refine HMV.out.mono ?_);rintro e w8 ⟨rfl,hb8⟩
       have HB8:=hide (HBW.out.trans (hb8.mono HBW.out.size))
       clear hb8
       go_wp2_with fail
       go_ret
       exact ⟨by simp,HB8.out⟩
      | true =>
       rw [hok3] at HMV
       go_wp2_with fail
       (with_reducible refine HMV.out.mono ?_);rintro e w8 ⟨rfl,hb8⟩
       have HB8:=hide (HBW.out.trans (hb8.mono HBW.out.size))
       have HAB8:=hide (HAB.out w8 hb8)
       clear hb8
       go_wp2_with fail
       (with_reducible refine HAB8.out.mono ?_);rintro e w9 ⟨⟨ua,un,uc⟩,rfl,hru,hb9⟩
       have hun:un≤k:=by have h1:un=E2.length:=RowsX.len2 hru;have h2:=HLE.out;omega
       have hui:decide ((un:Int)≤(k:Int))=true:=by simp;exact hun
       have HB9:=hide (HB8.out.trans (hb9.mono HB8.out.size))
       clear hb9 hru
       go_wp2_with fail
       go_ret
       exact ⟨by simp,HB9.out⟩
   -- end both
end Go.Proofs.YtfbgppkdnfljhaaGreatDoor