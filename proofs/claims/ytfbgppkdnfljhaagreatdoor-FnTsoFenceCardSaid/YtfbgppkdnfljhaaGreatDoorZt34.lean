/-
  Models that a call made; texts of models that are read. No condition.
-/
import Derived.Test.YtfbgppkdnfljhaaGreatDoorZt32
import Derived.Test.YtfbgppkdnfljhaaGreatDoorZt16
import Derived.Test.YtfbgppkdnfljhaaGreatDoorZt07
import Derived.Test.YtfbgppkdnfljhaaGreatDoorZt27
import Derived.Test.YtfbgppkdnfljhaaGreatDoorZt22
set_option maxHeartbeats 6400000
set_option maxRecDepth 100000
namespace Go.Proofs.YtfbgppkdnfljhaaGreatDoor
open Go.RowKit
def wordsR:List ByteArray:=[⟨#[]⟩,⟨#[97,99,121,99,108,105,99]⟩,⟨#[105,114,114,101,102]⟩,⟨#[101,109,112,116,121]⟩]
theorem l7Words_any (w:World):Calls Tryz.prog 159 #[] w fun e w'=>e = .returned (.slice (some ⟨w.heap.size,0,none⟩) 4 4)∧Own StrE 9 w' w.heap.size (.slice (some ⟨w.heap.size,0,none⟩) 4 4) wordsR∧Below w.heap.size w w':=by
 go_enter Tryz.func159,Tryz.ntmps159
 go_wp2
 go_ret
 exact ⟨rfl,Own.lit (E:=StrE) (Nat.le_refl _) wordsR _ 4 rfl rfl (by decide),(Below.refl _ _).alloc (Nat.le_refl _) _⟩
structure JW (A0:World) (c1:Bool) (G:Nat) (W:World):Prop where
 out:Below A0.heap.size A0 W
 f:c1=true→Own StrE 9 W A0.heap.size (.slice (some ⟨G,0,none⟩) 4 4) wordsR
theorem JW.below {A0:World} {c1:Bool} {G:Nat} {W W':World} (h:JW A0 c1 G W) (hb:Below W.heap.size W W'):JW A0 c1 G W':=
 ⟨h.out.trans (hb.mono h.out.size),fun e=>(h.f e).below hb⟩
theorem words_at {k:Int} (h:k=1∨k=2∨k=3):∃ q:Nat,k=(q:Int)∧q < 4∧wordsR[q]? = some (wordR k):=by
 rcases h with rfl | rfl | rfl
 ·exact ⟨1,rfl,by decide,rfl⟩
 ·exact ⟨2,rfl,by decide,rfl⟩
 ·exact ⟨3,rfl,by decide,rfl⟩
theorem modelTo_succ {m:List Ru} {k:Nat} {r:Ru} (h:m[k]? = some r):modelTo m (k+1)=(if 0 < k then modelTo m k++⟨#[47]⟩ else modelTo m k)++wordR r.kind++⟨#[32]⟩++textR 12 r.e:=by
 conv=>lhs;unfold modelTo
 rw [h]
theorem wordR_size (k:Int):(wordR k).size≤7:=by
 unfold wordR
 repeat (first | decide | split)
theorem validR_size {c:Re} (h:validR c=true):(textR 12 c).size≤320:=by
 unfold validR at h
 simp only [Bool.and_eq_true,decide_eq_true_eq] at h
 have:=textR_size 12 c h.1
 omega
theorem ruleOk_kind {r:Ru} (h:ruleOk r=true):(r.kind=1∨r.kind=2∨r.kind=3)∧validR r.e=true:=by
 unfold ruleOk inB at h
 simp only [Bool.and_eq_true,decide_eq_true_eq] at h
 exact ⟨by omega,h.2⟩
theorem modelTo_size {m:List Ru} (h:∀ r∈m,ruleOk r=true):∀ k,k≤m.length→(modelTo m k).size≤400 * k:=by
 intro k
 induction k with
 | zero=>intro _;exact Nat.le_refl _
 | succ k ih =>
  intro hk
  obtain ⟨r,hr⟩:=get_of_lt (xs:=m) (k:=k) (by omega)
  rw [modelTo_succ hr]
  have h1:=ih (by omega)
  have h2:=wordR_size r.kind
  have h3:=validR_size (ruleOk_kind (h r (List.mem_of_getElem? hr))).2
  rw [ByteArray.size_append,ByteArray.size_append,ByteArray.size_append]
  have h4:(⟨#[32]⟩:ByteArray).size=1:=rfl
  have h5:(if 0 < k then modelTo m k++⟨#[47]⟩ else modelTo m k).size≤(modelTo m k).size+1:=by
   split
   ·rw [ByteArray.size_append];exact Nat.le_refl _
   ·omega
  omega
theorem l7Model_any (a:Option Addr) (n c:Nat) (m:List Ru) (w:World) (hx:RepM 0 w ⟨a,n,c⟩ m) (hv:∀ r∈m,ruleOk r=true) (hl:m.length≤5) :
 Calls Tryz.prog 161 #[.slice a n c] w fun e w'=>e = .returned (.string (modelTo m m.length))∧Below w.heap.size w w':=by
 obtain ⟨e1,hc1,hc2,hc3⟩:=hx.open
 simp only at e1 hc1 hc2 hc3
 have HX:=hide hx
 clear hx
 have H:=hide e1.symm;clear e1
 rw [H.out] at hc1 hc2 hl ⊢
 have HSZ:=hide (modelTo_size hv)
 have HRK:=hide (fun r (hr:r∈m)=>ruleOk_kind (hv r hr))
 have HMS:=hide (fun k r (h:m[k]? = some r)=>modelTo_succ h)
 have H0:Hid (modelTo m 0=⟨#[]⟩):=hide rfl
 have HW:=hide l7Words_any
 clear hv
 rw [H.out] at HSZ
 generalize modelTo m=MT at *
 go_enter Tryz.func161,Tryz.ntmps161
 go_wp2_with fail
 go_loopw [3,4] (fun q i wr => ∃ k:Nat,k≤n∧i = .int .i64 k∧q = .string (MT k)∧Below w.heap.size w wr) (fun _ i _=>n - (intOf i).toNat)
 case atStart=>exact ⟨0,Nat.zero_le _,rfl,by rw [H0.out],Below.refl _ _⟩
 case round =>
  obtain ⟨k,hk,rfl,rfl,hb⟩:=hrel
  by_cases hlt:k < n
  ·have hlt':=nat_of_lt hlt
   obtain ⟨r,hrk⟩:=get_of_lt (xs:=m) (k:=k) (by rw [H.out];exact hlt)
   obtain ⟨b,o,s,rfl,hbl,i0,i1,i2,i3,i4⟩:=(HX.out.below hb).row hrk
   obtain ⟨hkd,hvr⟩:=HRK.out r (List.mem_of_getElem? hrk)
   have hs12:shapeR 12 r.e=true:=by unfold validR at hvr;simp only [Bool.and_eq_true] at hvr;exact hvr.1
   have hnd:nodesR r.e≤400:=by unfold validR at hvr;simp only [Bool.and_eq_true,decide_eq_true_eq] at hvr;omega
   have HT:=hide (fun W (hb:Below wr.heap.size wr W)=>l7Text_any 12 r.e s.a s.n s.cap W hs12 hnd (i4.below hb))
   have zt:=validR_size hvr
   have MS:=hide (HMS.out k r hrk)
   have zk:=HSZ.out k (by omega)
   have HBW:=hide hb
   clear hrk i4 hvr hs12 hnd hb
   generalize textR 12 r.e=t at *
   generalize MT k=acc at *
   obtain ⟨q,hq,hq4,hqw⟩:=words_at hkd
   have zx:=wordR_size r.kind
   rw [hq] at i0
   have HQ:=hide hqw
   have hqi:(0:Int)≤(q:Int):=by omega
   have hqj:(q:Int) < 4:=by omega
   clear hkd hq hqw
   generalize wordR r.kind=x at *
   by_cases h0:0 < k
   ·have MS3:Hid (MT (k+1)=acc++⟨#[47]⟩++x++⟨#[32]⟩++t):=hide (by rw [MS.out,if_pos h0])
    have g0:decide (0 < k)=true:=decide_eq_true h0
    have z1:(acc++⟨#[47]⟩:ByteArray).size≤2001:=by rw [ByteArray.size_append];have:(⟨#[47]⟩:ByteArray).size=1:=rfl;omega
    clear MS
    go_wp2_with fail
    generalize acc++⟨#[47]⟩=ac at *
    -- reg one
    refine wp_region_inv (n:=18) (by kernel_rfl) rfl (by kernel_rfl) (by kernel_rfl) (fun A ls a' W => ∃ (G:Nat) (x15 x16 x17 x18 x19 x20 x21 x22 x23 x24 x25 x26 x27 x28 x29 x30 x31 x32:Value),a'=putAll A [(15,x15),(16,x16),(17,x17),(18,x18),(19,x19),(20,x20),(21,x21),(22,x22),(23,x23),(24,x24),(25,x25),(26,x26),(27,x27),(28,x28),(29,x29),(30,x30),(31,x31),(32,x32)]∧Vd ls 0 [] x15 (.string ac)∧Vd ls 1 [] x16 (.slice (some ⟨G,0,none⟩) 4 4)∧Vd ls 2 [] x17 (.slice (some ⟨b,o,none⟩) n c)∧Vd ls 3 [] x18 (.int .i64 k)∧Vd ls 4 [] x19 (.pointer (some ⟨b,o+k * 4,none⟩))∧Vd ls 5 [] x20 (.pointer (some ⟨b,o+k * 4,none⟩))∧Vd ls 6 [] x21 (.int .i64 q)∧Vd ls 7 [1] x22 (.pointer (some ⟨G,q,none⟩))∧Vd ls 8 [1] x23 (.string x)∧Vd ls 9 [1] x24 (.string (ac++x))∧Vd ls 10 [1] x25 (.string (ac++x++⟨#[32]⟩))∧Vd ls 11 [] x26 (.slice (some ⟨b,o,none⟩) n c)∧Vd ls 12 [] x27 (.int .i64 k)∧Vd ls 13 [] x28 (.pointer (some ⟨b,o+k * 4,none⟩))∧Vd ls 14 [] x29 (.pointer (some ⟨b,o+k * 4+1,none⟩))∧Vd ls 15 [] x30 (.agg #[.int .i64 r.e.op, .string r.e.nm, .slice s.a s.n s.cap])∧Vd ls 16 [] x31 (.string t)∧Vd ls 17 [1] x32 (.string (ac++x++⟨#[32]⟩++t))∧JW wr (fl ls 1) G W) ?r0 ?rs ?re
    case r0 =>
     exact ⟨0,u15,u16,u17,u18,u19,u20,u21,u22,u23,u24,u25,u26,u27,u28,u29,u30,u31,u32,by simp only [putAll,Act.put,List.setIfInBounds_toArray,List.set_cons_succ,List.set_cons_zero],Vd.start,Vd.start,Vd.start,Vd.start,Vd.start,Vd.start,Vd.start,Vd.start,Vd.start,Vd.start,Vd.start,Vd.start,Vd.start,Vd.start,Vd.start,Vd.start,Vd.start,Vd.start,by simp only [fl_start];exact ⟨(Below.refl _ _).drew,fun h=>(nomatch h)⟩⟩
    case rs =>
     rintro ls a' W hs hnl ⟨G,x15,x16,x17,x18,x19,x20,x21,x22,x23,x24,x25,x26,x27,x28,x29,x30,x31,x32,ha,cv0,cv1,cv2,cv3,cv4,cv5,cv6,cv7,cv8,cv9,cv10,cv11,cv12,cv13,cv14,cv15,cv16,cv17,hJ⟩ k o hkn mc K hK
     simp only [putAll,Act.put,List.setIfInBounds_toArray,List.set_cons_succ,List.set_cons_zero] at ha
     subst ha
     have hkc:k=0∨k=1∨k=2∨k=3∨k=4∨k=5∨k=6∨k=7∨k=8∨k=9∨k=10∨k=11∨k=12∨k=13∨k=14∨k=15∨k=16∨k=17:=by omega
     have hop:=mc.op
     have haf:=mc.after
     rcases hkc with rfl | rfl | rfl | rfl | rfl | rfl | rfl | rfl | rfl | rfl | rfl | rfl | rfl | rfl | rfl | rfl | rfl | rfl
     ·simp at hop;subst hop;simp [Region.binds] at haf
      go_simp
      exact hK _ _ ⟨G,_,_,_,_,_,_,_,_,_,_,_,_,_,_,_,_,_,_,by simp only [putAll,Act.put,List.setIfInBounds_toArray,List.set_cons_succ,List.set_cons_zero],Vd.same (by simp),cv1.set (by decide),cv2.set (by decide),cv3.set (by decide),cv4.set (by decide),cv5.set (by decide),cv6.set (by decide),cv7.set (by decide),cv8.set (by decide),cv9.set (by decide),cv10.set (by decide),cv11.set (by decide),cv12.set (by decide),cv13.set (by decide),cv14.set (by decide),cv15.set (by decide),cv16.set (by decide),cv17.set (by decide),by rw [fl_set (show 0≠1 by decide)];exact hJ⟩
     ·simp at hop;subst hop;simp [Region.binds] at haf
      have f1:=fl_no mc.new;rw [f1] at hJ
      go_simp
      have hsz:=hJ.out.size
      go_at_call 159
      (with_reducible refine (HW.out W).mono ?_);rintro e u ⟨rfl,ho,hb⟩
      exact hK _ _ ⟨W.heap.size,_,_,_,_,_,_,_,_,_,_,_,_,_,_,_,_,_,_,by simp only [putAll,Act.put,List.setIfInBounds_toArray,List.set_cons_succ,List.set_cons_zero],cv0.set (by decide),Vd.same (by simp),cv2.set (by decide),cv3.set (by decide),cv4.set (by decide),cv5.set (by decide),cv6.set (by decide),cv7.void (by decide) (by decide) mc.new,cv8.void (by decide) (by decide) mc.new,cv9.void (by decide) (by decide) mc.new,cv10.void (by decide) (by decide) mc.new,cv11.set (by decide),cv12.set (by decide),cv13.set (by decide),cv14.set (by decide),cv15.set (by decide),cv16.set (by decide),cv17.void (by decide) (by decide) mc.new,by rw [fl_got hs (by decide)];exact ⟨(hJ.below hb).out,fun _=>ho.mono hsz⟩⟩
     ·simp at hop;subst hop;simp [Region.binds] at haf
      go_simp
      exact hK _ _ ⟨G,_,_,_,_,_,_,_,_,_,_,_,_,_,_,_,_,_,_,by simp only [putAll,Act.put,List.setIfInBounds_toArray,List.set_cons_succ,List.set_cons_zero],cv0.set (by decide),cv1.set (by decide),Vd.same (by simp),cv3.set (by decide),cv4.set (by decide),cv5.set (by decide),cv6.set (by decide),cv7.set (by decide),cv8.set (by decide),cv9.set (by decide),cv10.set (by decide),cv11.set (by decide),cv12.set (by decide),cv13.set (by decide),cv14.set (by decide),cv15.set (by decide),cv16.set (by decide),cv17.set (by decide),by rw [fl_set (show 2≠1 by decide)];exact hJ⟩
     ·simp at hop;subst hop;simp [Region.binds] at haf
      go_simp
      exact hK _ _ ⟨G,_,_,_,_,_,_,_,_,_,_,_,_,_,_,_,_,_,_,by simp only [putAll,Act.put,List.setIfInBounds_toArray,List.set_cons_succ,List.set_cons_zero],cv0.set (by decide),cv1.set (by decide),cv2.set (by decide),Vd.same (by simp),cv4.set (by decide),cv5.set (by decide),cv6.set (by decide),cv7.set (by decide),cv8.set (by decide),cv9.set (by decide),cv10.set (by decide),cv11.set (by decide),cv12.set (by decide),cv13.set (by decide),cv14.set (by decide),cv15.set (by decide),cv16.set (by decide),cv17.set (by decide),by rw [fl_set (show 3≠1 by decide)];exact hJ⟩
     ·simp at hop;subst hop;simp [Region.binds] at haf
      obtain rfl:=(cv2.get (by simp [haf])).symm
      obtain rfl:=(cv3.get (by simp [haf])).symm
      go_simp
      exact hK _ _ ⟨G,_,_,_,_,_,_,_,_,_,_,_,_,_,_,_,_,_,_,by simp only [putAll,Act.put,List.setIfInBounds_toArray,List.set_cons_succ,List.set_cons_zero],cv0.set (by decide),cv1.set (by decide),cv2.set (by decide),cv3.set (by decide),Vd.same (by simp),cv5.set (by decide),cv6.set (by decide),cv7.set (by decide),cv8.set (by decide),cv9.set (by decide),cv10.set (by decide),cv11.set (by decide),cv12.set (by decide),cv13.set (by decide),cv14.set (by decide),cv15.set (by decide),cv16.set (by decide),cv17.set (by decide),by rw [fl_set (show 4≠1 by decide)];exact hJ⟩
     ·simp at hop;subst hop;simp [Region.binds] at haf
      obtain rfl:=(cv4.get (by simp [haf])).symm
      go_simp
      exact hK _ _ ⟨G,_,_,_,_,_,_,_,_,_,_,_,_,_,_,_,_,_,_,by simp only [putAll,Act.put,List.setIfInBounds_toArray,List.set_cons_succ,List.set_cons_zero],cv0.set (by decide),cv1.set (by decide),cv2.set (by decide),cv3.set (by decide),cv4.set (by decide),Vd.same (by simp),cv6.set (by decide),cv7.set (by decide),cv8.set (by decide),cv9.set (by decide),cv10.set (by decide),cv11.set (by decide),cv12.set (by decide),cv13.set (by decide),cv14.set (by decide),cv15.set (by decide),cv16.set (by decide),cv17.set (by decide),by rw [fl_set (show 5≠1 by decide)];exact hJ⟩
     ·simp at hop;subst hop;simp [Region.binds] at haf
      obtain rfl:=(cv5.get (by simp [haf])).symm
      have c0:W.cell? ⟨b,o+k * 4,none⟩=some (.int .i64 q):=(cell_of_block (hJ.out.block b hbl) _).trans i0
      have cl:=lt_of_cell c0
      go_simp
      exact hK _ _ ⟨G,_,_,_,_,_,_,_,_,_,_,_,_,_,_,_,_,_,_,by simp only [putAll,Act.put,List.setIfInBounds_toArray,List.set_cons_succ,List.set_cons_zero],cv0.set (by decide),cv1.set (by decide),cv2.set (by decide),cv3.set (by decide),cv4.set (by decide),cv5.set (by decide),Vd.same (by simp),cv7.set (by decide),cv8.set (by decide),cv9.set (by decide),cv10.set (by decide),cv11.set (by decide),cv12.set (by decide),cv13.set (by decide),cv14.set (by decide),cv15.set (by decide),cv16.set (by decide),cv17.set (by decide),by rw [fl_set (show 6≠1 by decide)];exact hJ⟩
     ·simp at hop;subst hop;simp [Region.binds] at haf
      obtain rfl:=(cv1.get (by simp [haf])).symm
      obtain rfl:=(cv6.get (by simp [haf])).symm
      go_simp
      exact hK _ _ ⟨G,_,_,_,_,_,_,_,_,_,_,_,_,_,_,_,_,_,_,by simp only [putAll,Act.put,List.setIfInBounds_toArray,List.set_cons_succ,List.set_cons_zero],cv0.set (by decide),cv1.set (by decide),cv2.set (by decide),cv3.set (by decide),cv4.set (by decide),cv5.set (by decide),cv6.set (by decide),Vd.same (by simp [haf]),cv8.set (by decide),cv9.set (by decide),cv10.set (by decide),cv11.set (by decide),cv12.set (by decide),cv13.set (by decide),cv14.set (by decide),cv15.set (by decide),cv16.set (by decide),cv17.set (by decide),by rw [fl_set (show 7≠1 by decide)];exact hJ⟩
     ·simp at hop;subst hop;simp [Region.binds] at haf
      have q7:=(cv7 (by simp [haf])).1;simp at q7
      obtain rfl:=(cv7.get (by simp [haf])).symm
      obtain ⟨wb,wo,he,cwl,cw⟩:=(hJ.f (fl_yes q7)).rep.str HQ.out
      simp only [Option.some.injEq,Addr.mk.injEq,and_true] at he
      obtain ⟨rfl,rfl⟩:=he
      simp only [Nat.zero_add] at cw
      go_simp
      exact hK _ _ ⟨G,_,_,_,_,_,_,_,_,_,_,_,_,_,_,_,_,_,_,by simp only [putAll,Act.put,List.setIfInBounds_toArray,List.set_cons_succ,List.set_cons_zero],cv0.set (by decide),cv1.set (by decide),cv2.set (by decide),cv3.set (by decide),cv4.set (by decide),cv5.set (by decide),cv6.set (by decide),cv7.set (by decide),Vd.same (by simp [q7]),cv9.set (by decide),cv10.set (by decide),cv11.set (by decide),cv12.set (by decide),cv13.set (by decide),cv14.set (by decide),cv15.set (by decide),cv16.set (by decide),cv17.set (by decide),by rw [fl_set (show 8≠1 by decide)];exact hJ⟩
     ·simp at hop;subst hop;simp [Region.binds] at haf
      have q8:=(cv8 (by simp [haf])).1;simp at q8
      obtain rfl:=(cv0.get (by simp [haf])).symm
      obtain rfl:=(cv8.get (by simp [haf])).symm
      have y1:(ac++x:ByteArray).size≤2100:=by rw [ByteArray.size_append];omega
      go_simp
      rw [if_neg (by omega)]
      try go_simp
      exact hK _ _ ⟨G,_,_,_,_,_,_,_,_,_,_,_,_,_,_,_,_,_,_,by simp only [putAll,Act.put,List.setIfInBounds_toArray,List.set_cons_succ,List.set_cons_zero],cv0.set (by decide),cv1.set (by decide),cv2.set (by decide),cv3.set (by decide),cv4.set (by decide),cv5.set (by decide),cv6.set (by decide),cv7.set (by decide),cv8.set (by decide),Vd.same (by simp [q8]),cv10.set (by decide),cv11.set (by decide),cv12.set (by decide),cv13.set (by decide),cv14.set (by decide),cv15.set (by decide),cv16.set (by decide),cv17.set (by decide),by rw [fl_set (show 9≠1 by decide)];exact hJ⟩
     ·simp at hop;subst hop;simp [Region.binds] at haf
      have q9:=(cv9 (by simp [haf])).1;simp at q9
      obtain rfl:=(cv9.get (by simp [haf])).symm
      have y1:(ac++x:ByteArray).size≤2100:=by rw [ByteArray.size_append];omega
      have y2:(ac++x++⟨#[32]⟩:ByteArray).size≤2101:=by rw [ByteArray.size_append];have:(⟨#[32]⟩:ByteArray).size=1:=rfl;omega
      go_simp
      rw [if_neg (by first | omega | (have:(⟨#[32]⟩:ByteArray).size=1:=rfl;omega))]
      try go_simp
      exact hK _ _ ⟨G,_,_,_,_,_,_,_,_,_,_,_,_,_,_,_,_,_,_,by simp only [putAll,Act.put,List.setIfInBounds_toArray,List.set_cons_succ,List.set_cons_zero],cv0.set (by decide),cv1.set (by decide),cv2.set (by decide),cv3.set (by decide),cv4.set (by decide),cv5.set (by decide),cv6.set (by decide),cv7.set (by decide),cv8.set (by decide),cv9.set (by decide),Vd.same (by simp [q9]),cv11.set (by decide),cv12.set (by decide),cv13.set (by decide),cv14.set (by decide),cv15.set (by decide),cv16.set (by decide),cv17.set (by decide),by rw [fl_set (show 10≠1 by decide)];exact hJ⟩
     ·simp at hop;subst hop;simp [Region.binds] at haf
      go_simp
      exact hK _ _ ⟨G,_,_,_,_,_,_,_,_,_,_,_,_,_,_,_,_,_,_,by simp only [putAll,Act.put,List.setIfInBounds_toArray,List.set_cons_succ,List.set_cons_zero],cv0.set (by decide),cv1.set (by decide),cv2.set (by decide),cv3.set (by decide),cv4.set (by decide),cv5.set (by decide),cv6.set (by decide),cv7.set (by decide),cv8.set (by decide),cv9.set (by decide),cv10.set (by decide),Vd.same (by simp),cv12.set (by decide),cv13.set (by decide),cv14.set (by decide),cv15.set (by decide),cv16.set (by decide),cv17.set (by decide),by rw [fl_set (show 11≠1 by decide)];exact hJ⟩
     ·simp at hop;subst hop;simp [Region.binds] at haf
      go_simp
      exact hK _ _ ⟨G,_,_,_,_,_,_,_,_,_,_,_,_,_,_,_,_,_,_,by simp only [putAll,Act.put,List.setIfInBounds_toArray,List.set_cons_succ,List.set_cons_zero],cv0.set (by decide),cv1.set (by decide),cv2.set (by decide),cv3.set (by decide),cv4.set (by decide),cv5.set (by decide),cv6.set (by decide),cv7.set (by decide),cv8.set (by decide),cv9.set (by decide),cv10.set (by decide),cv11.set (by decide),Vd.same (by simp),cv13.set (by decide),cv14.set (by decide),cv15.set (by decide),cv16.set (by decide),cv17.set (by decide),by rw [fl_set (show 12≠1 by decide)];exact hJ⟩
     ·simp at hop;subst hop;simp [Region.binds] at haf
      obtain rfl:=(cv11.get (by simp [haf])).symm
      obtain rfl:=(cv12.get (by simp [haf])).symm
      go_simp
      exact hK _ _ ⟨G,_,_,_,_,_,_,_,_,_,_,_,_,_,_,_,_,_,_,by simp only [putAll,Act.put,List.setIfInBounds_toArray,List.set_cons_succ,List.set_cons_zero],cv0.set (by decide),cv1.set (by decide),cv2.set (by decide),cv3.set (by decide),cv4.set (by decide),cv5.set (by decide),cv6.set (by decide),cv7.set (by decide),cv8.set (by decide),cv9.set (by decide),cv10.set (by decide),cv11.set (by decide),cv12.set (by decide),Vd.same (by simp),cv14.set (by decide),cv15.set (by decide),cv16.set (by decide),cv17.set (by decide),by rw [fl_set (show 13≠1 by decide)];exact hJ⟩
     ·simp at hop;subst hop;simp [Region.binds] at haf
      obtain rfl:=(cv13.get (by simp [haf])).symm
      go_simp
      exact hK _ _ ⟨G,_,_,_,_,_,_,_,_,_,_,_,_,_,_,_,_,_,_,by simp only [putAll,Act.put,List.setIfInBounds_toArray,List.set_cons_succ,List.set_cons_zero],cv0.set (by decide),cv1.set (by decide),cv2.set (by decide),cv3.set (by decide),cv4.set (by decide),cv5.set (by decide),cv6.set (by decide),cv7.set (by decide),cv8.set (by decide),cv9.set (by decide),cv10.set (by decide),cv11.set (by decide),cv12.set (by decide),cv13.set (by decide),Vd.same (by simp),cv15.set (by decide),cv16.set (by decide),cv17.set (by decide),by rw [fl_set (show 14≠1 by decide)];exact hJ⟩
     ·simp at hop;subst hop;simp [Region.binds] at haf
      obtain rfl:=(cv14.get (by simp [haf])).symm
      have c1:W.cell? ⟨b,o+k * 4+1,none⟩=some (.int .i64 r.e.op):=(cell_of_block (hJ.out.block b hbl) _).trans i1
      have c2:W.cell? ⟨b,o+k * 4+2,none⟩=some (.string r.e.nm):=(cell_of_block (hJ.out.block b hbl) _).trans i2
      have c3:W.cell? ⟨b,o+k * 4+3,none⟩=some (.slice s.a s.n s.cap):=(cell_of_block (hJ.out.block b hbl) _).trans i3
      have cl:=lt_of_cell c1
      go_simp
      exact hK _ _ ⟨G,_,_,_,_,_,_,_,_,_,_,_,_,_,_,_,_,_,_,by simp only [putAll,Act.put,List.setIfInBounds_toArray,List.set_cons_succ,List.set_cons_zero],cv0.set (by decide),cv1.set (by decide),cv2.set (by decide),cv3.set (by decide),cv4.set (by decide),cv5.set (by decide),cv6.set (by decide),cv7.set (by decide),cv8.set (by decide),cv9.set (by decide),cv10.set (by decide),cv11.set (by decide),cv12.set (by decide),cv13.set (by decide),cv14.set (by decide),Vd.same (by simp),cv16.set (by decide),cv17.set (by decide),by rw [fl_set (show 15≠1 by decide)];exact hJ⟩
     ·simp at hop;subst hop;simp [Region.binds] at haf
      obtain rfl:=(cv15.get (by simp [haf])).symm
      go_simp
      have hsz:=hJ.out.size
      go_at_call 207
      (with_reducible refine (HT.out W hJ.out).mono ?_);rintro e u ⟨rfl,hb⟩
      exact hK _ _ ⟨G,_,_,_,_,_,_,_,_,_,_,_,_,_,_,_,_,_,_,by simp only [putAll,Act.put,List.setIfInBounds_toArray,List.set_cons_succ,List.set_cons_zero],cv0.set (by decide),cv1.set (by decide),cv2.set (by decide),cv3.set (by decide),cv4.set (by decide),cv5.set (by decide),cv6.set (by decide),cv7.set (by decide),cv8.set (by decide),cv9.set (by decide),cv10.set (by decide),cv11.set (by decide),cv12.set (by decide),cv13.set (by decide),cv14.set (by decide),cv15.set (by decide),Vd.same (by simp),cv17.set (by decide),by rw [fl_set (show 16≠1 by decide)];exact hJ.below hb⟩
     ·simp at hop;subst hop;simp [Region.binds] at haf
      have q10:=(cv10 (by simp [haf])).1;simp at q10
      obtain rfl:=(cv10.get (by simp [haf])).symm
      obtain rfl:=(cv16.get (by simp [haf])).symm
      have y1:(ac++x:ByteArray).size≤2100:=by rw [ByteArray.size_append];omega
      have y2:(ac++x++⟨#[32]⟩:ByteArray).size≤2101:=by rw [ByteArray.size_append];have:(⟨#[32]⟩:ByteArray).size=1:=rfl;omega
      go_simp
      rw [if_neg (by omega)]
      try go_simp
      exact hK _ _ ⟨G,_,_,_,_,_,_,_,_,_,_,_,_,_,_,_,_,_,_,by simp only [putAll,Act.put,List.setIfInBounds_toArray,List.set_cons_succ,List.set_cons_zero],cv0.set (by decide),cv1.set (by decide),cv2.set (by decide),cv3.set (by decide),cv4.set (by decide),cv5.set (by decide),cv6.set (by decide),cv7.set (by decide),cv8.set (by decide),cv9.set (by decide),cv10.set (by decide),cv11.set (by decide),cv12.set (by decide),cv13.set (by decide),cv14.set (by decide),cv15.set (by decide),cv16.set (by decide),Vd.same (by simp [q10]),by rw [fl_set (show 17≠1 by decide)];exact hJ⟩
    case re =>
     rintro ls a' W hall ⟨G,x15,x16,x17,x18,x19,x20,x21,x22,x23,x24,x25,x26,x27,x28,x29,x30,x31,x32,ha,cv0,cv1,cv2,cv3,cv4,cv5,cv6,cv7,cv8,cv9,cv10,cv11,cv12,cv13,cv14,cv15,cv16,cv17,hJ⟩ o hop
     simp only [putAll,Act.put,List.setIfInBounds_toArray,List.set_cons_succ,List.set_cons_zero] at ha
     subst ha
     simp at hop;subst hop
     obtain rfl:=(cv0.get (hall 0 (by decide))).symm
     obtain rfl:=(cv1.get (hall 1 (by decide))).symm
     obtain rfl:=(cv2.get (hall 2 (by decide))).symm
     obtain rfl:=(cv3.get (hall 3 (by decide))).symm
     obtain rfl:=(cv4.get (hall 4 (by decide))).symm
     obtain rfl:=(cv5.get (hall 5 (by decide))).symm
     obtain rfl:=(cv6.get (hall 6 (by decide))).symm
     obtain rfl:=(cv7.get (hall 7 (by decide))).symm
     obtain rfl:=(cv8.get (hall 8 (by decide))).symm
     obtain rfl:=(cv9.get (hall 9 (by decide))).symm
     obtain rfl:=(cv10.get (hall 10 (by decide))).symm
     obtain rfl:=(cv11.get (hall 11 (by decide))).symm
     obtain rfl:=(cv12.get (hall 12 (by decide))).symm
     obtain rfl:=(cv13.get (hall 13 (by decide))).symm
     obtain rfl:=(cv14.get (hall 14 (by decide))).symm
     obtain rfl:=(cv15.get (hall 15 (by decide))).symm
     obtain rfl:=(cv16.get (hall 16 (by decide))).symm
     obtain rfl:=(cv17.get (hall 17 (by decide))).symm
     rw [fl_yes (hall 1 (by decide))] at hJ
     go_simp
     have HB4:=hide (HBW.out.trans (hJ.out.mono HBW.out.size))
     clear hJ i0 i1 i2 i3
     go_wp2_with fail
     go_roundw
     case rel=>exact ⟨k+1,by omega,by go_num,by rw [MS3.out],HB4.out⟩
     case measure=>simp [intOf];omega
    -- end one
   ·have MS3:Hid (MT (k+1)=acc++x++⟨#[32]⟩++t):=hide (by rw [MS.out,if_neg h0])
    have g0:decide (0 < k)=false:=decide_eq_false h0
    have z1:acc.size≤2001:=by omega
    clear MS
    go_wp2_with fail
    generalize acc=ac at *
    -- reg two
    refine wp_region_inv (n:=18) (by kernel_rfl) rfl (by kernel_rfl) (by kernel_rfl) (fun A ls a' W => ∃ (G:Nat) (x15 x16 x17 x18 x19 x20 x21 x22 x23 x24 x25 x26 x27 x28 x29 x30 x31 x32:Value),a'=putAll A [(15,x15),(16,x16),(17,x17),(18,x18),(19,x19),(20,x20),(21,x21),(22,x22),(23,x23),(24,x24),(25,x25),(26,x26),(27,x27),(28,x28),(29,x29),(30,x30),(31,x31),(32,x32)]∧Vd ls 0 [] x15 (.string ac)∧Vd ls 1 [] x16 (.slice (some ⟨G,0,none⟩) 4 4)∧Vd ls 2 [] x17 (.slice (some ⟨b,o,none⟩) n c)∧Vd ls 3 [] x18 (.int .i64 k)∧Vd ls 4 [] x19 (.pointer (some ⟨b,o+k * 4,none⟩))∧Vd ls 5 [] x20 (.pointer (some ⟨b,o+k * 4,none⟩))∧Vd ls 6 [] x21 (.int .i64 q)∧Vd ls 7 [1] x22 (.pointer (some ⟨G,q,none⟩))∧Vd ls 8 [1] x23 (.string x)∧Vd ls 9 [1] x24 (.string (ac++x))∧Vd ls 10 [1] x25 (.string (ac++x++⟨#[32]⟩))∧Vd ls 11 [] x26 (.slice (some ⟨b,o,none⟩) n c)∧Vd ls 12 [] x27 (.int .i64 k)∧Vd ls 13 [] x28 (.pointer (some ⟨b,o+k * 4,none⟩))∧Vd ls 14 [] x29 (.pointer (some ⟨b,o+k * 4+1,none⟩))∧Vd ls 15 [] x30 (.agg #[.int .i64 r.e.op, .string r.e.nm, .slice s.a s.n s.cap])∧Vd ls 16 [] x31 (.string t)∧Vd ls 17 [1] x32 (.string (ac++x++⟨#[32]⟩++t))∧JW wr (fl ls 1) G W) ?r0 ?rs ?re
    case r0 =>
     exact ⟨0,u15,u16,u17,u18,u19,u20,u21,u22,u23,u24,u25,u26,u27,u28,u29,u30,u31,u32,by simp only [putAll,Act.put,List.setIfInBounds_toArray,List.set_cons_succ,List.set_cons_zero],Vd.start,Vd.start,Vd.start,Vd.start,Vd.start,Vd.start,Vd.start,Vd.start,Vd.start,Vd.start,Vd.start,Vd.start,Vd.start,Vd.start,Vd.start,Vd.start,Vd.start,Vd.start,by simp only [fl_start];exact ⟨(Below.refl _ _).drew,fun h=>(nomatch h)⟩⟩
    case rs =>
     rintro ls a' W hs hnl ⟨G,x15,x16,x17,x18,x19,x20,x21,x22,x23,x24,x25,x26,x27,x28,x29,x30,x31,x32,ha,cv0,cv1,cv2,cv3,cv4,cv5,cv6,cv7,cv8,cv9,cv10,cv11,cv12,cv13,cv14,cv15,cv16,cv17,hJ⟩ k o hkn mc K hK
     simp only [putAll,Act.put,List.setIfInBounds_toArray,List.set_cons_succ,List.set_cons_zero] at ha
     subst ha
     have hkc:k=0∨k=1∨k=2∨k=3∨k=4∨k=5∨k=6∨k=7∨k=8∨k=9∨k=10∨k=11∨k=12∨k=13∨k=14∨k=15∨k=16∨k=17:=by omega
     have hop:=mc.op
     have haf:=mc.after
     rcases hkc with rfl | rfl | rfl | rfl | rfl | rfl | rfl | rfl | rfl | rfl | rfl | rfl | rfl | rfl | rfl | rfl | rfl | rfl
     ·simp at hop;subst hop;simp [Region.binds] at haf
      go_simp
      exact hK _ _ ⟨G,_,_,_,_,_,_,_,_,_,_,_,_,_,_,_,_,_,_,by simp only [putAll,Act.put,List.setIfInBounds_toArray,List.set_cons_succ,List.set_cons_zero],Vd.same (by simp),cv1.set (by decide),cv2.set (by decide),cv3.set (by decide),cv4.set (by decide),cv5.set (by decide),cv6.set (by decide),cv7.set (by decide),cv8.set (by decide),cv9.set (by decide),cv10.set (by decide),cv11.set (by decide),cv12.set (by decide),cv13.set (by decide),cv14.set (by decide),cv15.set (by decide),cv16.set (by decide),cv17.set (by decide),by rw [fl_set (show 0≠1 by decide)];exact hJ⟩
     ·simp at hop;subst hop;simp [Region.binds] at haf
      have f1:=fl_no mc.new;rw [f1] at hJ
      go_simp
      have hsz:=hJ.out.size
      go_at_call 159
      (with_reducible refine (HW.out W).mono ?_);rintro e u ⟨rfl,ho,hb⟩
      exact hK _ _ ⟨W.heap.size,_,_,_,_,_,_,_,_,_,_,_,_,_,_,_,_,_,_,by simp only [putAll,Act.put,List.setIfInBounds_toArray,List.set_cons_succ,List.set_cons_zero],cv0.set (by decide),Vd.same (by simp),cv2.set (by decide),cv3.set (by decide),cv4.set (by decide),cv5.set (by decide),cv6.set (by decide),cv7.void (by decide) (by decide) mc.new,cv8.void (by decide) (by decide) mc.new,cv9.void (by decide) (by decide) mc.new,cv10.void (by decide) (by decide) mc.new,cv11.set (by decide),cv12.set (by decide),cv13.set (by decide),cv14.set (by decide),cv15.set (by decide),cv16.set (by decide),cv17.void (by decide) (by decide) mc.new,by rw [fl_got hs (by decide)];exact ⟨(hJ.below hb).out,fun _=>ho.mono hsz⟩⟩
     ·simp at hop;subst hop;simp [Region.binds] at haf
      go_simp
      exact hK _ _ ⟨G,_,_,_,_,_,_,_,_,_,_,_,_,_,_,_,_,_,_,by simp only [putAll,Act.put,List.setIfInBounds_toArray,List.set_cons_succ,List.set_cons_zero],cv0.set (by decide),cv1.set (by decide),Vd.same (by simp),cv3.set (by decide),cv4.set (by decide),cv5.set (by decide),cv6.set (by decide),cv7.set (by decide),cv8.set (by decide),cv9.set (by decide),cv10.set (by decide),cv11.set (by decide),cv12.set (by decide),cv13.set (by decide),cv14.set (by decide),cv15.set (by decide),cv16.set (by decide),cv17.set (by decide),by rw [fl_set (show 2≠1 by decide)];exact hJ⟩
     ·simp at hop;subst hop;simp [Region.binds] at haf
      go_simp
      exact hK _ _ ⟨G,_,_,_,_,_,_,_,_,_,_,_,_,_,_,_,_,_,_,by simp only [putAll,Act.put,List.setIfInBounds_toArray,List.set_cons_succ,List.set_cons_zero],cv0.set (by decide),cv1.set (by decide),cv2.set (by decide),Vd.same (by simp),cv4.set (by decide),cv5.set (by decide),cv6.set (by decide),cv7.set (by decide),cv8.set (by decide),cv9.set (by decide),cv10.set (by decide),cv11.set (by decide),cv12.set (by decide),cv13.set (by decide),cv14.set (by decide),cv15.set (by decide),cv16.set (by decide),cv17.set (by decide),by rw [fl_set (show 3≠1 by decide)];exact hJ⟩
     ·simp at hop;subst hop;simp [Region.binds] at haf
      obtain rfl:=(cv2.get (by simp [haf])).symm
      obtain rfl:=(cv3.get (by simp [haf])).symm
      go_simp
      exact hK _ _ ⟨G,_,_,_,_,_,_,_,_,_,_,_,_,_,_,_,_,_,_,by simp only [putAll,Act.put,List.setIfInBounds_toArray,List.set_cons_succ,List.set_cons_zero],cv0.set (by decide),cv1.set (by decide),cv2.set (by decide),cv3.set (by decide),Vd.same (by simp),cv5.set (by decide),cv6.set (by decide),cv7.set (by decide),cv8.set (by decide),cv9.set (by decide),cv10.set (by decide),cv11.set (by decide),cv12.set (by decide),cv13.set (by decide),cv14.set (by decide),cv15.set (by decide),cv16.set (by decide),cv17.set (by decide),by rw [fl_set (show 4≠1 by decide)];exact hJ⟩
     ·simp at hop;subst hop;simp [Region.binds] at haf
      obtain rfl:=(cv4.get (by simp [haf])).symm
      go_simp
      exact hK _ _ ⟨G,_,_,_,_,_,_,_,_,_,_,_,_,_,_,_,_,_,_,by simp only [putAll,Act.put,List.setIfInBounds_toArray,List.set_cons_succ,List.set_cons_zero],cv0.set (by decide),cv1.set (by decide),cv2.set (by decide),cv3.set (by decide),cv4.set (by decide),Vd.same (by simp),cv6.set (by decide),cv7.set (by decide),cv8.set (by decide),cv9.set (by decide),cv10.set (by decide),cv11.set (by decide),cv12.set (by decide),cv13.set (by decide),cv14.set (by decide),cv15.set (by decide),cv16.set (by decide),cv17.set (by decide),by rw [fl_set (show 5≠1 by decide)];exact hJ⟩
     ·simp at hop;subst hop;simp [Region.binds] at haf
      obtain rfl:=(cv5.get (by simp [haf])).symm
      have c0:W.cell? ⟨b,o+k * 4,none⟩=some (.int .i64 q):=(cell_of_block (hJ.out.block b hbl) _).trans i0
      have cl:=lt_of_cell c0
      go_simp
      exact hK _ _ ⟨G,_,_,_,_,_,_,_,_,_,_,_,_,_,_,_,_,_,_,by simp only [putAll,Act.put,List.setIfInBounds_toArray,List.set_cons_succ,List.set_cons_zero],cv0.set (by decide),cv1.set (by decide),cv2.set (by decide),cv3.set (by decide),cv4.set (by decide),cv5.set (by decide),Vd.same (by simp),cv7.set (by decide),cv8.set (by decide),cv9.set (by decide),cv10.set (by decide),cv11.set (by decide),cv12.set (by decide),cv13.set (by decide),cv14.set (by decide),cv15.set (by decide),cv16.set (by decide),cv17.set (by decide),by rw [fl_set (show 6≠1 by decide)];exact hJ⟩
     ·simp at hop;subst hop;simp [Region.binds] at haf
      obtain rfl:=(cv1.get (by simp [haf])).symm
      obtain rfl:=(cv6.get (by simp [haf])).symm
      go_simp
      exact hK _ _ ⟨G,_,_,_,_,_,_,_,_,_,_,_,_,_,_,_,_,_,_,by simp only [putAll,Act.put,List.setIfInBounds_toArray,List.set_cons_succ,List.set_cons_zero],cv0.set (by decide),cv1.set (by decide),cv2.set (by decide),cv3.set (by decide),cv4.set (by decide),cv5.set (by decide),cv6.set (by decide),Vd.same (by simp [haf]),cv8.set (by decide),cv9.set (by decide),cv10.set (by decide),cv11.set (by decide),cv12.set (by decide),cv13.set (by decide),cv14.set (by decide),cv15.set (by decide),cv16.set (by decide),cv17.set (by decide),by rw [fl_set (show 7≠1 by decide)];exact hJ⟩
     ·simp at hop;subst hop;simp [Region.binds] at haf
      have q7:=(cv7 (by simp [haf])).1;simp at q7
      obtain rfl:=(cv7.get (by simp [haf])).symm
      obtain ⟨wb,wo,he,cwl,cw⟩:=(hJ.f (fl_yes q7)).rep.str HQ.out
      simp only [Option.some.injEq,Addr.mk.injEq,and_true] at he
      obtain ⟨rfl,rfl⟩:=he
      simp only [Nat.zero_add] at cw
      go_simp
      exact hK _ _ ⟨G,_,_,_,_,_,_,_,_,_,_,_,_,_,_,_,_,_,_,by simp only [putAll,Act.put,List.setIfInBounds_toArray,List.set_cons_succ,List.set_cons_zero],cv0.set (by decide),cv1.set (by decide),cv2.set (by decide),cv3.set (by decide),cv4.set (by decide),cv5.set (by decide),cv6.set (by decide),cv7.set (by decide),Vd.same (by simp [q7]),cv9.set (by decide),cv10.set (by decide),cv11.set (by decide),cv12.set (by decide),cv13.set (by decide),cv14.set (by decide),cv15.set (by decide),cv16.set (by decide),cv17.set (by decide),by rw [fl_set (show 8≠1 by decide)];exact hJ⟩
     ·simp at hop;subst hop;simp [Region.binds] at haf
      have q8:=(cv8 (by simp [haf])).1;simp at q8
      obtain rfl:=(cv0.get (by simp [haf])).symm
      obtain rfl:=(cv8.get (by simp [haf])).symm
      have y1:(ac++x:ByteArray).size≤2100:=by rw [ByteArray.size_append];omega
      go_simp
      rw [if_neg (by omega)]
      try go_simp
      exact hK _ _ ⟨G,_,_,_,_,_,_,_,_,_,_,_,_,_,_,_,_,_,_,by simp only [putAll,Act.put,List.setIfInBounds_toArray,List.set_cons_succ,List.set_cons_zero],cv0.set (by decide),cv1.set (by decide),cv2.set (by decide),cv3.set (by decide),cv4.set (by decide),cv5.set (by decide),cv6.set (by decide),cv7.set (by decide),cv8.set (by decide),Vd.same (by simp [q8]),cv10.set (by decide),cv11.set (by decide),cv12.set (by decide),cv13.set (by decide),cv14.set (by decide),cv15.set (by decide),cv16.set (by decide),cv17.set (by decide),by rw [fl_set (show 9≠1 by decide)];exact hJ⟩
     ·simp at hop;subst hop;simp [Region.binds] at haf
      have q9:=(cv9 (by simp [haf])).1;simp at q9
      obtain rfl:=(cv9.get (by simp [haf])).symm
      have y1:(ac++x:ByteArray).size≤2100:=by rw [ByteArray.size_append];omega
      have y2:(ac++x++⟨#[32]⟩:ByteArray).size≤2101:=by rw [ByteArray.size_append];have:(⟨#[32]⟩:ByteArray).size=1:=rfl;omega
      go_simp
      rw [if_neg (by first | omega | (have:(⟨#[32]⟩:ByteArray).size=1:=rfl;omega))]
      try go_simp
      exact hK _ _ ⟨G,_,_,_,_,_,_,_,_,_,_,_,_,_,_,_,_,_,_,by simp only [putAll,Act.put,List.setIfInBounds_toArray,List.set_cons_succ,List.set_cons_zero],cv0.set (by decide),cv1.set (by decide),cv2.set (by decide),cv3.set (by decide),cv4.set (by decide),cv5.set (by decide),cv6.set (by decide),cv7.set (by decide),cv8.set (by decide),cv9.set (by decide),Vd.same (by simp [q9]),cv11.set (by decide),cv12.set (by decide),cv13.set (by decide),cv14.set (by decide),cv15.set (by decide),cv16.set (by decide),cv17.set (by decide),by rw [fl_set (show 10≠1 by decide)];exact hJ⟩
     ·simp at hop;subst hop;simp [Region.binds] at haf
      go_simp
      exact hK _ _ ⟨G,_,_,_,_,_,_,_,_,_,_,_,_,_,_,_,_,_,_,by simp only [putAll,Act.put,List.setIfInBounds_toArray,List.set_cons_succ,List.set_cons_zero],cv0.set (by decide),cv1.set (by decide),cv2.set (by decide),cv3.set (by decide),cv4.set (by decide),cv5.set (by decide),cv6.set (by decide),cv7.set (by decide),cv8.set (by decide),cv9.set (by decide),cv10.set (by decide),Vd.same (by simp),cv12.set (by decide),cv13.set (by decide),cv14.set (by decide),cv15.set (by decide),cv16.set (by decide),cv17.set (by decide),by rw [fl_set (show 11≠1 by decide)];exact hJ⟩
     ·simp at hop;subst hop;simp [Region.binds] at haf
      go_simp
      exact hK _ _ ⟨G,_,_,_,_,_,_,_,_,_,_,_,_,_,_,_,_,_,_,by simp only [putAll,Act.put,List.setIfInBounds_toArray,List.set_cons_succ,List.set_cons_zero],cv0.set (by decide),cv1.set (by decide),cv2.set (by decide),cv3.set (by decide),cv4.set (by decide),cv5.set (by decide),cv6.set (by decide),cv7.set (by decide),cv8.set (by decide),cv9.set (by decide),cv10.set (by decide),cv11.set (by decide),Vd.same (by simp),cv13.set (by decide),cv14.set (by decide),cv15.set (by decide),cv16.set (by decide),cv17.set (by decide),by rw [fl_set (show 12≠1 by decide)];exact hJ⟩
     ·simp at hop;subst hop;simp [Region.binds] at haf
      obtain rfl:=(cv11.get (by simp [haf])).symm
      obtain rfl:=(cv12.get (by simp [haf])).symm
      go_simp
      exact hK _ _ ⟨G,_,_,_,_,_,_,_,_,_,_,_,_,_,_,_,_,_,_,by simp only [putAll,Act.put,List.setIfInBounds_toArray,List.set_cons_succ,List.set_cons_zero],cv0.set (by decide),cv1.set (by decide),cv2.set (by decide),cv3.set (by decide),cv4.set (by decide),cv5.set (by decide),cv6.set (by decide),cv7.set (by decide),cv8.set (by decide),cv9.set (by decide),cv10.set (by decide),cv11.set (by decide),cv12.set (by decide),Vd.same (by simp),cv14.set (by decide),cv15.set (by decide),cv16.set (by decide),cv17.set (by decide),by rw [fl_set (show 13≠1 by decide)];exact hJ⟩
     ·simp at hop;subst hop;simp [Region.binds] at haf
      obtain rfl:=(cv13.get (by simp [haf])).symm
      go_simp
      exact hK _ _ ⟨G,_,_,_,_,_,_,_,_,_,_,_,_,_,_,_,_,_,_,by simp only [putAll,Act.put,List.setIfInBounds_toArray,List.set_cons_succ,List.set_cons_zero],cv0.set (by decide),cv1.set (by decide),cv2.set (by decide),cv3.set (by decide),cv4.set (by decide),cv5.set (by decide),cv6.set (by decide),cv7.set (by decide),cv8.set (by decide),cv9.set (by decide),cv10.set (by decide),cv11.set (by decide),cv12.set (by decide),cv13.set (by decide),Vd.same (by simp),cv15.set (by decide),cv16.set (by decide),cv17.set (by decide),by rw [fl_set (show 14≠1 by decide)];exact hJ⟩
     ·simp at hop;subst hop;simp [Region.binds] at haf
      obtain rfl:=(cv14.get (by simp [haf])).symm
      have c1:W.cell? ⟨b,o+k * 4+1,none⟩=some (.int .i64 r.e.op):=(cell_of_block (hJ.out.block b hbl) _).trans i1
      have c2:W.cell? ⟨b,o+k * 4+2,none⟩=some (.string r.e.nm):=(cell_of_block (hJ.out.block b hbl) _).trans i2
      have c3:W.cell? ⟨b,o+k * 4+3,none⟩=some (.slice s.a s.n s.cap):=(cell_of_block (hJ.out.block b hbl) _).trans i3
      have cl:=lt_of_cell c1
      go_simp
      exact hK _ _ ⟨G,_,_,_,_,_,_,_,_,_,_,_,_,_,_,_,_,_,_,by simp only [putAll,Act.put,List.setIfInBounds_toArray,List.set_cons_succ,List.set_cons_zero],cv0.set (by decide),cv1.set (by decide),cv2.set (by decide),cv3.set (by decide),cv4.set (by decide),cv5.set (by decide),cv6.set (by decide),cv7.set (by decide),cv8.set (by decide),cv9.set (by decide),cv10.set (by decide),cv11.set (by decide),cv12.set (by decide),cv13.set (by decide),cv14.set (by decide),Vd.same (by simp),cv16.set (by decide),cv17.set (by decide),by rw [fl_set (show 15≠1 by decide)];exact hJ⟩
     ·simp at hop;subst hop;simp [Region.binds] at haf
      obtain rfl:=(cv15.get (by simp [haf])).symm
      go_simp
      have hsz:=hJ.out.size
      go_at_call 207
      (with_reducible refine (HT.out W hJ.out).mono ?_);rintro e u ⟨rfl,hb⟩
      exact hK _ _ ⟨G,_,_,_,_,_,_,_,_,_,_,_,_,_,_,_,_,_,_,by simp only [putAll,Act.put,List.setIfInBounds_toArray,List.set_cons_succ,List.set_cons_zero],cv0.set (by decide),cv1.set (by decide),cv2.set (by decide),cv3.set (by decide),cv4.set (by decide),cv5.set (by decide),cv6.set (by decide),cv7.set (by decide),cv8.set (by decide),cv9.set (by decide),cv10.set (by decide),cv11.set (by decide),cv12.set (by decide),cv13.set (by decide),cv14.set (by decide),cv15.set (by decide),Vd.same (by simp),cv17.set (by decide),by rw [fl_set (show 16≠1 by decide)];exact hJ.below hb⟩
     ·simp at hop;subst hop;simp [Region.binds] at haf
      have q10:=(cv10 (by simp [haf])).1;simp at q10
      obtain rfl:=(cv10.get (by simp [haf])).symm
      obtain rfl:=(cv16.get (by simp [haf])).symm
      have y1:(ac++x:ByteArray).size≤2100:=by rw [ByteArray.size_append];omega
      have y2:(ac++x++⟨#[32]⟩:ByteArray).size≤2101:=by rw [ByteArray.size_append];have:(⟨#[32]⟩:ByteArray).size=1:=rfl;omega
      go_simp
      rw [if_neg (by omega)]
      try go_simp
      exact hK _ _ ⟨G,_,_,_,_,_,_,_,_,_,_,_,_,_,_,_,_,_,_,by simp only [putAll,Act.put,List.setIfInBounds_toArray,List.set_cons_succ,List.set_cons_zero],cv0.set (by decide),cv1.set (by decide),cv2.set (by decide),cv3.set (by decide),cv4.set (by decide),cv5.set (by decide),cv6.set (by decide),cv7.set (by decide),cv8.set (by decide),cv9.set (by decide),cv10.set (by decide),cv11.set (by decide),cv12.set (by decide),cv13.set (by decide),cv14.set (by decide),cv15.set (by decide),cv16.set (by decide),Vd.same (by simp [q10]),by rw [fl_set (show 17≠1 by decide)];exact hJ⟩
    case re =>
     rintro ls a' W hall ⟨G,x15,x16,x17,x18,x19,x20,x21,x22,x23,x24,x25,x26,x27,x28,x29,x30,x31,x32,ha,cv0,cv1,cv2,cv3,cv4,cv5,cv6,cv7,cv8,cv9,cv10,cv11,cv12,cv13,cv14,cv15,cv16,cv17,hJ⟩ o hop
     simp only [putAll,Act.put,List.setIfInBounds_toArray,List.set_cons_succ,List.set_cons_zero] at ha
     subst ha
     simp at hop;subst hop
     obtain rfl:=(cv0.get (hall 0 (by decide))).symm
     obtain rfl:=(cv1.get (hall 1 (by decide))).symm
     obtain rfl:=(cv2.get (hall 2 (by decide))).symm
     obtain rfl:=(cv3.get (hall 3 (by decide))).symm
     obtain rfl:=(cv4.get (hall 4 (by decide))).symm
     obtain rfl:=(cv5.get (hall 5 (by decide))).symm
     obtain rfl:=(cv6.get (hall 6 (by decide))).symm
     obtain rfl:=(cv7.get (hall 7 (by decide))).symm
     obtain rfl:=(cv8.get (hall 8 (by decide))).symm
     obtain rfl:=(cv9.get (hall 9 (by decide))).symm
     obtain rfl:=(cv10.get (hall 10 (by decide))).symm
     obtain rfl:=(cv11.get (hall 11 (by decide))).symm
     obtain rfl:=(cv12.get (hall 12 (by decide))).symm
     obtain rfl:=(cv13.get (hall 13 (by decide))).symm
     obtain rfl:=(cv14.get (hall 14 (by decide))).symm
     obtain rfl:=(cv15.get (hall 15 (by decide))).symm
     obtain rfl:=(cv16.get (hall 16 (by decide))).symm
     obtain rfl:=(cv17.get (hall 17 (by decide))).symm
     rw [fl_yes (hall 1 (by decide))] at hJ
     go_simp
     have HB4:=hide (HBW.out.trans (hJ.out.mono HBW.out.size))
     clear hJ i0 i1 i2 i3
     go_wp2_with fail
     go_roundw
     case rel=>exact ⟨k+1,by omega,by go_num,by rw [MS3.out],HB4.out⟩
     case measure=>simp [intOf];omega
    -- end two
  ·obtain rfl:k=n:=by omega
   go_wp2_with fail
   go_ret
   exact ⟨rfl,hb⟩
end Go.Proofs.YtfbgppkdnfljhaaGreatDoor
namespace Go.Proofs.YtfbgppkdnfljhaaGreatDoor
open Go.RowKit
def PhiM (d:Dd) (W:World) (u:Us) (r:Ru):Prop:=u.kind=r.kind∧u.op=r.e.op∧u.nm=r.e.nm∧OwnR 52 W (fun q=>d.lo≤q∧q < d.hi) u.s r.e.kids
abbrev OwnM (w:World) (base:Nat) (v:Value) (m:List Ru):Prop:=OwnF UsE 54 Rany PhiM w base v m
theorem OwnR.keepT {T:TypeId} {w w':World} {S:Nat→Prop} {s:Slc} {ks:List Re} (h:OwnR T w S s ks) (hk:∀ q a,S q→w.heap[q]? = some (.cells a T (0,0))→w'.heap[q]? = some (.cells a T (0,0))):OwnR T w' S s ks:=by
 induction h with
 | nil=>exact .nil
 | node C h1 h2 h3 h4 h5 h6 h7 h8 ih =>
  rename_i S g n cap us ks
  refine .node C h1 ?_ h3 h4 h5 h6 h7 (fun i u k hu hkk=>ih i u k hu hkk (fun q a hq1 hq2=>hk q a (h4 i q hq1) hq2))
  refine ⟨h2.1, ?_⟩
  rcases h2.2 with ⟨hn,_⟩ | ⟨g',cap',cur,hv,hb1,hgg,rest⟩
  ·simp at hn
  ·simp only [Value.slice.injEq,Option.some.injEq,Addr.mk.injEq,and_true] at hv
   obtain ⟨rfl,rfl,rfl⟩:=hv
   exact .inr ⟨g,cap,cur,rfl,hb1,hk g cur h3 hgg,rest⟩
theorem OwnR.loc {U T:TypeId} (hT:U≠T) {lo hi:Nat} {w:World} {s:Slc} {ks:List Re} (h:OwnR U w (fun q=>lo≤q∧q < hi) s ks) (hb:hi≤w.heap.size):LocR T lo hi w (fun W=>OwnR U W (fun q=>lo≤q∧q < hi) s ks):=
 ⟨h,hb,fun w' k=>h.keepT fun q a hq he=>k q _ hq.1 hq.2 he (fun a' fz e=>by simp at e;exact hT e.2.1)⟩
theorem OwnR.locM {lo hi:Nat} {w:World} {s:Slc} {r:Ru} (h:OwnR 52 w (fun q=>lo≤q∧q < hi) s r.e.kids) (hb:hi≤w.heap.size):LocR 54 lo hi w (fun W=>PhiM ⟨lo,hi,[]⟩ W ⟨r.kind,r.e.op,r.e.nm,s⟩ r):=
 (h.loc (T:=54) (by decide) hb).map fun _ h=>⟨rfl,rfl,rfl,h⟩
theorem OwnM.rep {w:World} {base:Nat} {a:Option Addr} {n c:Nat} {m:List Ru} (h:OwnM w base (.slice a n c) m):RepM base w ⟨a,n,c⟩ m:=by
 obtain ⟨us,ds,h⟩:=h
 refine ⟨us,h.lu,h.own.rep, ?_,fun i u r hu hr => ?_⟩
 ·rcases h.own.shape with ⟨h1,h0⟩ | ⟨g,cap,h1,h2,_⟩
  ·exact .inl h0
  ·simp only [Value.slice.injEq] at h1;exact .inr fun b o e=>by rw [h1.1] at e;simp at e;rw [← e.1];exact h2
 ·obtain ⟨d,hd⟩:=get_of_lt (xs:=ds) (k:=i) (by rw [h.ld,← h.lu];exact (List.getElem?_eq_some_iff.1 hu).1)
  obtain ⟨r1,r2⟩:=h.rows i u d r hu hd hr
  obtain ⟨e1,e2,e3,e4⟩:=r2.now
  exact ⟨e1,e2,e3,e4.rep fun q hq=>Nat.le_trans r1 hq.1⟩
theorem OwnM.toSlc {w:World} {base:Nat} {v:Value} {m:List Ru} (h:OwnM w base v m):∃ s:Slc,v = .slice s.a s.n s.cap∧s.n=m.length:=by
 rcases h.shape with ⟨rfl,h1⟩ | ⟨g,cap,rfl,_⟩
 ·exact ⟨⟨none,0,0⟩,rfl,by rw [h1];rfl⟩
 ·exact ⟨⟨some ⟨g,0,none⟩,m.length,cap⟩,rfl,rfl⟩
theorem OwnM.app {w w':World} {base lo hi:Nat} {us:List Us} {ds:List Dd} {v v':Value} {m:List Ru} (h:OwnFU UsE 54 Rany PhiM us ds w base v m) {r:Ru} {s:Slc} (hn:LocR 54 lo hi w (fun W=>PhiM ⟨lo,hi,[]⟩ W ⟨r.kind,r.e.op,r.e.nm,s⟩ r)) (hb:base≤lo)
 (ho:Own UsE 54 w' base v' (us++[⟨r.kind,r.e.op,r.e.nm,s⟩])) (hg:w.grownBy w' v.ownBlock):OwnM w' base v' (m++[r]):=
 ⟨_,_,OwnFU.app (d:=⟨lo,hi,[]⟩) h ho hg hb hn (fun _ _=>trivial)⟩
structure BoxU (w:World) (g:Nat) (k o:Int) (p:ByteArray) (s:Slc):Prop where
 lt:g < w.heap.size
 c0:w.cell? ⟨g,0,none⟩=some (.int .i64 k)
 c1:w.cell? ⟨g,1,none⟩=some (.int .i64 o)
 c2:w.cell? ⟨g,2,none⟩=some (.string p)
 c3:w.cell? ⟨g,3,none⟩=some (.slice s.a s.n s.cap)
 fz:∀ j,w.frozen? ⟨g,j,none⟩=false
theorem BoxU.new (w:World) (k o:Int) (p:ByteArray) (s:Slc) (T:TypeId):BoxU (w.alloc (.cells #[.int .i64 k, .int .i64 o, .string p, .slice s.a s.n s.cap] T)) w.heap.size k o p s:=
 ⟨by simp,by simp [go_sem],by simp [go_sem],by simp [go_sem],by simp [go_sem],fun j=>by simp [go_sem]⟩
theorem BoxU.below {w w':World} {g:Nat} {k o:Int} {p:ByteArray} {s:Slc} (h:BoxU w g k o p s) (hb:Below w.heap.size w w'):BoxU w' g k o p s:=
 ⟨Nat.lt_of_lt_of_le h.lt hb.size,(hb.cell (p:=⟨g,0,none⟩) h.lt).trans h.c0,(hb.cell (p:=⟨g,1,none⟩) h.lt).trans h.c1,(hb.cell (p:=⟨g,2,none⟩) h.lt).trans h.c2,(hb.cell (p:=⟨g,3,none⟩) h.lt).trans h.c3,fun j=>(hb.frozen (p:=⟨g,j,none⟩) h.lt).trans (h.fz j)⟩
theorem BoxU.kind {w:World} {g:Nat} {k o:Int} {p:ByteArray} {s:Slc} (h:BoxU w g k o p s) (k':Int):BoxU (w.setCell ⟨g,0,none⟩ (.int .i64 k')) g k' o p s:=by
 obtain ⟨h1,h2,h3,h4,h5,h6⟩:=h
 exact ⟨by simpa using h1,by simp [go_sem,h2],by simp [go_sem,h3],by simp [go_sem,h4],by simp [go_sem,h5],fun j=>by simp [go_sem,h6]⟩
def GoodP (x:ByteArray) (r:Ru):Prop:=x.size≤1000∧∃ t:ByteArray,cutL x 32=[wordR r.kind,t]∧pR t 60 (.parse 0 12 3)=some (r.e,(t.size:Int))∧validR r.e=true∧textR 12 r.e=t∧0 < t.size∧t.size≤300∧(r.kind=1∨r.kind=2∨r.kind=3)
structure GoodM (s:ByteArray) (m:List Ru):Prop where
 sz:s.size≤1000
 len:(cutL s 47).length=m.length
 part:∀ (i:Nat) (x:ByteArray) (r:Ru),(cutL s 47)[i]? = some x→m[i]? = some r→GoodP x r
 ok:modelOk m=true
 text:modelTo m m.length=s
 wt:wtM m≤100000
def kindW (w:List UInt8):Int:=if w==(wordR 1).data.toList then 1 else if w==(wordR 2).data.toList then 2 else if w==(wordR 3).data.toList then 3 else 0
def partM (x:ByteArray):Option Ru:=
 match cutL x 32 with
 | [w,t]=>match pR t 60 (.parse 0 12 3) with
  | some (c,n)=>if (n==(t.size:Int)&&validR c&&((textR 12 c).data.toList==t.data.toList)&&decide (0 < t.size)&&decide (t.size≤300)&&decide (x.size≤1000) && !(kindW w.data.toList==0))=true then some ⟨kindW w.data.toList,c⟩ else none
  | none=>none
 | _=>none
def allM:List ByteArray→Option (List Ru)
 | []=>some []
 | x :: xs=>match partM x with
  | none=>none
  | some r=>match allM xs with
   | none=>none
   | some rs=>some (r :: rs)
def readM (s:ByteArray):Option (List Ru):=
 match allM (cutL s 47) with
 | none=>none
 | some m=>if (modelOk m&&((modelTo m m.length).data.toList==s.data.toList)&&decide (s.size≤1000)&&decide (wtM m≤100000))=true then some m else none
theorem bytes_ext {x y:ByteArray} (h:(x.data.toList==y.data.toList)=true):x=y:=by
 have:=of_eq_true (eq_true (beq_iff_eq.1 h))
 exact ByteArray.ext (Array.ext' this)
theorem kindW_word {w:List UInt8} (h:(kindW w==0)=false):(kindW w=1∨kindW w=2∨kindW w=3)∧(wordR (kindW w)).data.toList=w:=by
 unfold kindW at h ⊢
 split
 ·rename_i e;exact ⟨.inl rfl,(beq_iff_eq.1 e).symm⟩
 ·split
  ·rename_i e;exact ⟨.inr (.inl rfl),(beq_iff_eq.1 e).symm⟩
  ·split
   ·rename_i e;exact ⟨.inr (.inr rfl),(beq_iff_eq.1 e).symm⟩
   ·rename_i e1 e2 e3;rw [if_neg e1,if_neg e2,if_neg e3] at h;simp at h
theorem partM_good {x:ByteArray} {r:Ru} (h:partM x=some r):GoodP x r:=by
 unfold partM at h
 split at h
 ·rename_i w t hc
  split at h
  ·rename_i c n hp
   split at h
   ·rename_i hb
    simp only [Bool.and_eq_true,decide_eq_true_eq,Bool.not_eq_true',beq_iff_eq] at hb
    obtain ⟨⟨⟨⟨⟨⟨b1,b2⟩,b3⟩,b4⟩,b5⟩,b6⟩,b7⟩:=hb
    obtain ⟨k1,k2⟩:=kindW_word b7
    simp only [Option.some.injEq] at h
    subst h
    subst b1
    refine ⟨b6,t, ?_,hp,b2,bytes_ext (by simpa using b3),b4,b5,k1⟩
    rw [hc]
    have:wordR (kindW w.data.toList)=w:=bytes_ext (by simpa using k2)
    rw [this]
   ·cases h
  ·cases h
 ·cases h
theorem allM_good:∀ {xs:List ByteArray} {m:List Ru},allM xs=some m→xs.length=m.length∧∀ (i:Nat) (x:ByteArray) (r:Ru),xs[i]? = some x→m[i]? = some r→GoodP x r:=by
 intro xs
 induction xs with
 | nil=>intro m h;simp [allM] at h;subst h;exact ⟨rfl,fun i x r h=>by simp at h⟩
 | cons y ys ih =>
  intro m h
  unfold allM at h
  split at h
  ·cases h
  ·rename_i r hr
   split at h
   ·cases h
   ·rename_i rs hrs
    simp only [Option.some.injEq] at h
    subst h
    obtain ⟨e1,e2⟩:=ih hrs
    refine ⟨by simp [e1],fun i x q hx hq => ?_⟩
    cases i with
    | zero=>simp at hx hq;subst hx;subst hq;exact partM_good hr
    | succ i=>simp at hx hq;exact e2 i x q hx hq
theorem readM_good {s:ByteArray} {m:List Ru} (h:readM s=some m):GoodM s m:=by
 unfold readM at h
 split at h
 ·cases h
 ·rename_i m' hm
  split at h
  ·rename_i hb
   simp only [Bool.and_eq_true,decide_eq_true_eq] at hb
   obtain ⟨⟨⟨b1,b2⟩,b3⟩,b4⟩:=hb
   simp only [Option.some.injEq] at h
   subst h
   obtain ⟨e1,e2⟩:=allM_good hm
   exact ⟨b3,e1,e2,b1,bytes_ext b2,b4⟩
  ·cases h
theorem good_of {s:ByteArray} (h:(readM s).isSome=true):∃ m,GoodM s m:=by
 cases hm:readM s with
 | none=>rw [hm] at h;cases h
 | some m=>exact ⟨m,readM_good hm⟩
def textsM:List ByteArray:=[⟨#[97,99,121,99,108,105,99,32,112,111,124,114,102,124,99,111,124,102,114]⟩,⟨#[97,99,121,99,108,105,99,32,112,111,38,108,111,99,124,114,102,124,99,111,124,102,114,47,97,99,121,99,108,105,99,32,112,111,45,119,114,124,102,101,110,99,101,124,114,102,38,101,120,116,124,99,111,124,102,114,47,105,114,114,101,102,32,102,114,59,99,111]⟩,⟨#[97,99,121,99,108,105,99,32,112,111,38,108,111,99,124,114,102,124,99,111,124,102,114,47,97,99,121,99,108,105,99,32,112,111,45,40,119,114,124,119,119,41,124,102,101,110,99,101,124,114,102,38,101,120,116,124,99,111,124,102,114,47,105,114,114,101,102,32,102,114,59,99,111]⟩,⟨#[97,99,121,99,108,105,99,32,112,111,124,114,102,47,97,99,121,99,108,105,99,32,43,40,112,111,124,114,102,41,38,108,111,99,124,99,111,124,102,114,47,105,114,114,101,102,32,102,114,59,99,111]⟩,⟨#[97,99,121,99,108,105,99,32,112,111,38,108,111,99,124,114,102,124,99,111,124,102,114]⟩,⟨#[101,109,112,116,121,32,112,111]⟩,⟨#[105,114,114,101,102,32,126,114,102,59,99,111]⟩]
theorem textsM_good:∀ s∈textsM,∃ m,GoodM s m:=by
 intro s hs
 simp only [textsM,List.mem_cons,List.not_mem_nil,or_false] at hs
 rcases hs with rfl | rfl | rfl | rfl | rfl | rfl | rfl <;> exact good_of (by decide +kernel)
end Go.Proofs.YtfbgppkdnfljhaaGreatDoor