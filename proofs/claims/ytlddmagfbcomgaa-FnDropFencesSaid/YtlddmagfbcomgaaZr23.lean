/-
  FnDropFences: for every input the law returns true and the input reads afterwards as it read before. No condition.
-/
import Derived.Test.YtlddmagfbcomgaaZr19
import Derived.Test.YtlddmagfbcomgaaZr20
import Derived.Test.YtlddmagfbcomgaaZr21
import Derived.Test.YtlddmagfbcomgaaZr18
import Derived.Test.YtlddmagfbcomgaaZr15
import Derived.Test.YtlddmagfbcomgaaZr09
import Derived.Test.YtlddmagfbcomgaaZr07
import Derived.Test.YtlddmagfbcomgaaZr16
import Derived.Test.YtlddmagfbcomgaaZr13
import Derived.Test.YtlddmagfbcomgaaZr04
import Derived.Test.YtlddmagfbcomgaaZr12
import Derived.Test.YtlddmagfbcomgaaZr22
import Derived.Test.YtlddmagfbcomgaaZr02
set_option maxHeartbeats 6400000
set_option maxRecDepth 100000
namespace Go.Proofs.Ytlddmagfbcomgaa
open Go.RowKit
theorem bufThread_any (b t:Nat) (vp:Value) (split:Bool) (wv:Slc) (us:List Slc) (p:List (List Ins)) (s s':Bf) (i:Ins) (w:World) (hp:RepP w vp p) (hx:BufB w b vp split wv s) (hus:Rep SlcE w wv.v us) (hul:us.length=s.bf.length)
 (hrows:∀ (k:Nat) (u:Slc) (r:List (Int × Int)),us[k]? = some u→s.bf[k]? = some r→Rep ByteE w u.v (encR2 r)) (hok:BfOk p split s) (hlen:∀ r∈s.bf,r.length≤42) (hpl:p.length≤3) (hpr:∀ r∈p,r.length≤7) (ht:t < p.length) (hi:sqIns p s.q t=some i) (hv:insValid i=true) (hd:bfDo s split t (s.q.pc.getD t 0) i=some s') :
 Calls Try.prog 99 #[.pointer (some ⟨b,0,none⟩), .int .i64 (t:Int)] w (RetTh w vp split s s' us):=by
 rcases ins_op hv with h | h | h | h | h
 ·exact bufThread1_any b t vp split wv us p s s' i w hp hx hus hul hrows hok hlen hpl hpr ht hi hv h hd
 ·exact bufThread2_any b t vp split wv us p s s' i w hp hx hus hul hrows hok hlen hpl hpr ht hi hv h hd
 ·exact bufThread3_any b t vp split wv us p s s' i w hp hx hus hul hrows hok hlen hpl hpr ht hi hv h hd
 ·exact bufThread4_any b t vp split wv us p s s' i w hp hx hus hul hrows hok hlen hpl hpr ht hi hv h hd
 ·exact bufThread5_any b t vp split wv us p s s' i w hp hx hus hul hrows hok hlen hpl hpr ht hi hv h hd
end Go.Proofs.Ytlddmagfbcomgaa
namespace Go.Proofs.Ytlddmagfbcomgaa
open Go.RowKit
def bufRaw (vp:Value) (p:List (List Ins)) (split:Bool) (B:Nat) (W:World) (b:Nat) (s:Bf):Prop:=
 ∃ (wv:Slc) (us:List Slc),BufB W b vp split wv s∧us.length=s.bf.length∧LocU LM B W (fun V=>Rep SlcE V wv.v us) ∧
  (∀ (i:Nat) (u:Slc) (r:List (Int × Int)),us[i]? = some u→s.bf[i]? = some r→LocU LM B W (fun V=>Rep ByteE V u.v (encR2 r))) ∧
  (∀ W',Below B W W'→RepP W' vp p)∧B≤W.heap.size∧ReachM (bfStart p split) (bfNext p split) s
theorem bufRaw.loc {vp:Value} {p:List (List Ins)} {split:Bool} {B:Nat} {w:World} {b:Nat} {s:Bf} (h:bufRaw vp p split B w b s):LocU LM B w (fun W=>bufRaw vp p split B W b s):=by
 refine ⟨h,fun w' k => ?_⟩
 obtain ⟨wv,us,h1,h2,h3,h4,h5,h6,h7⟩:=h
 exact ⟨wv,us,k.block b _ _ _ h1 (by decide),h2,h3.step k,fun i u r hu hr=>(h4 i u r hu hr).step k,fun W' hW=>h5 W' ((k.below h6).trans hW),Nat.le_trans h6 k.size,h7⟩
theorem bufRaw.rep2 {w:World} {wv:Slc} {us:List Slc} {s:Bf} (h2:us.length=s.bf.length) (h3:Rep SlcE w wv.v us) (h4:∀ (i:Nat) (u:Slc) (r:List (Int × Int)),us[i]? = some u→s.bf[i]? = some r→Rep ByteE w u.v (encR2 r)):BufW w wv s:=
 ⟨us,by rw [List.length_map];exact h2,h3,fun i u r hu hr=>by
  rw [List.getElem?_map] at hr
  obtain ⟨r0,h,rfl⟩:=Option.map_eq_some_iff.1 hr
  exact h4 i u r0 hu h⟩
theorem rows_set {w:World} {B k:Nat} {us:List Slc} {rs:List (List (Int × Int))} {u':Slc} {r':List (Int × Int)} (h4:∀ (i:Nat) (u:Slc) (r:List (Int × Int)),us[i]? = some u→rs[i]? = some r→LocU LM B w (fun V=>Rep ByteE V u.v (encR2 r)))
 (hn:LocU LM B w (fun V=>Rep ByteE V u'.v (encR2 r'))):∀ (i:Nat) (u:Slc) (r:List (Int × Int)),(us.set k u')[i]? = some u→(rs.set k r')[i]? = some r→LocU LM B w (fun V=>Rep ByteE V u.v (encR2 r)):=by
 intro i u r hu hr
 rw [List.getElem?_set] at hu hr
 by_cases e:k=i
 ·subst e
  rw [if_pos rfl] at hu hr
  split at hu
  ·split at hr
   ·simp only [Option.some.injEq] at hu hr
    subst hu;subst hr;exact hn
   ·cases hr
  ·cases hu
 ·rw [if_neg e] at hu hr
  exact h4 i u r hu hr
theorem sqIns_of {p:List (List Ins)} {s:Sq} {t:Nat} {r:List Ins} {k:Int} {x:Ins} (hr:p[t]? = some r) (hk:s.pc[t]? = some k) (hx:r[k.toNat]? = some x):sqIns p s t=some x:=by
 unfold sqIns
 rw [hr,hk]
 simp only [Option.bind_some]
 exact hx
theorem bufAfter_any {vp:Value} {p:List (List Ins)} {split:Bool} {B:Nat} (hv:progValid p=true) (w:World) (b:Nat) (s:Bf) (m:Nat) (hB:B≤w.heap.size) (h:bufRaw vp p split B w b s) (hm:m∈bfMv p split s) :
 Calls Try.prog 99 #[.pointer (some ⟨b,0,none⟩), .int .i64 (m:Int)] w fun e w' => ∃ b',e = .returned (mcV 76 b')∧LocU LM B w' (fun W=>bufRaw vp p split B W b' (bfAf p split s m))∧Below w.heap.size w w':=by
 obtain ⟨wv,us,h1,h2,h3,h4,h5,h6,h7⟩:=h
 have hok:=(BfOk.reach' (valid_ins hv) h7).1
 have hlen:=bf_rows hv h7
 have hpl:=(valid_le hv).1
 have hpr:=fun r hr=>((valid_le hv).2.2.1 r hr).1
 obtain ⟨s',hs'⟩:=Option.isSome_iff_exists.1 ((mem_bfMv m).1 hm)
 rw [bfAf_next hs']
 have hre:ReachM (bfStart p split) (bfNext p split) s':=.step h7 hs'
 by_cases hmt:m < p.length
 ·obtain ⟨r,k,x,hr,hk,hx,hd⟩:=bfNext_thread hs' hmt
  have hv2:=valid_ins hv r (List.mem_of_getElem? hr) x (List.mem_of_getElem? hx)
  have hkd:s.q.pc.getD m 0=k:=by rw [List.getD_eq_getElem?_getD,hk];rfl
  refine (bufThread_any b m vp split wv us p s s' x w (h5 w (Below.refl _ _)) h1 h3.now h2 (fun i u r hu hr=>(h4 i u r hu hr).now) hok hlen hpl hpr hmt (sqIns_of hr hk hx) hv2 (by rw [hkd];exact hd)).mono ?_
  rintro e w' ⟨b',wv',rfl,hb,hbb,hbl,hcase⟩
  refine ⟨b',rfl,bufRaw.loc ?_,hbl⟩
  have K:KpU LM B w w':=.of_below hbl
  rcases hcase with ⟨hbf,hown⟩ | ⟨k2,r2,u2,hbf,hown,hown2⟩
  ·exact ⟨wv',us,hb,by rw [hbf];exact h2,(LocU.own hown (by decide)).map fun V h=>h.rep,fun i u r hu hr=>((h4 i u r hu (by rw [← hbf];exact hr)).step K),fun W' hW=>h5 W' ((hbl.mono hB).trans hW),Nat.le_trans h6 hbl.size,hre⟩
  ·refine ⟨wv',us.set k2 u2,hb,by rw [hbf,List.length_set,List.length_set];exact h2,(LocU.own hown (by decide)).map fun V h=>h.rep, ?_,fun W' hW=>h5 W' ((hbl.mono hB).trans hW),Nat.le_trans h6 hbl.size,hre⟩
   rw [hbf]
   exact rows_set (fun i u r hu hr=>(h4 i u r hu hr).step K) ((LocU.own hown2 (by decide)).map fun V h=>h.rep)
 ·obtain ⟨l,v,rest,hb,rfl⟩:=bfNext_flush hs' hmt
  obtain ⟨k,rfl⟩:∃ k,m=p.length+k:=⟨m - p.length,by omega⟩
  rw [Nat.add_sub_cancel_left] at hb hre ⊢
  obtain ⟨u,hu⟩:=get_of_lt (xs:=us) (k:=k) (by rw [h2];exact (List.getElem?_eq_some_iff.1 hb).1)
  have hl:=hlen _ (List.mem_of_getElem? hb)
  refine (bufFlush_any b k vp split wv u us p s l v rest w (h5 w (Below.refl _ _)) h1 h3.now h2 hu (h4 k u _ hu hb).now hok hpl hb (by simp at hl;omega)).mono ?_
  rintro e w' ⟨b',wv',u',rfl,hb',hown,hrow,hbb,hbl⟩
  refine ⟨b',rfl,bufRaw.loc ?_,hbl⟩
  have K:KpU LM B w w':=.of_below hbl
  exact ⟨wv',us.set k u',hb',by rw [List.length_set,List.length_set];exact h2,(LocU.own hown (by decide)).map fun V h=>h.rep,rows_set (fun i u r hu hr=>(h4 i u r hu hr).step K) (((h4 k u _ hu hb).step K).map fun V h=>hrow V h),fun W' hW=>h5 W' ((hbl.mono hB).trans hW),Nat.le_trans h6 hbl.size,hre⟩
def bufK (vp:Value) (p:List (List Ins)) (split:Bool) (B:Nat) (hv:progValid p=true):MK LM B Bf where
 T:=76
 raw:=bufRaw vp p split B
 done:=bfDone p
 out:=bfOut
 mv:=bfMv p split
 af:=bfAf p split
 key:=fun s=>strOfNums (bufB s)
 fD:=101
 fO:=104
 fM:=103
 fA:=99
 fK:=102
 mD:=fun _ _=>by kernel_rfl
 mO:=fun _ _=>by kernel_rfl
 mM:=fun _ _=>by kernel_rfl
 mA:=fun _ _=>by kernel_rfl
 mK:=fun _ _=>by kernel_rfl
 cD:=fun _ _=>by kernel_rfl
 cO:=fun _ _=>by kernel_rfl
 cM:=fun _ _=>by kernel_rfl
 cA:=fun _ _=>by kernel_rfl
 cK:=fun _ _=>by kernel_rfl
 hD:=fun w b s h=>by
  obtain ⟨wv,us,h1,h2,h3,h4,h5,h6,h7⟩:=h
  exact bufDone_any b vp split wv p s w (h5 w (Below.refl _ _)) h1 (bufRaw.rep2 h2 h3.now fun i u r hu hr=>(h4 i u r hu hr).now) (BfOk.reach' (valid_ins hv) h7).1 (valid_le hv).1 (fun r hr=>((valid_le hv).2.2.1 r hr).1)
 hO:=fun w b s h=>by
  obtain ⟨wv,us,h1,h2,h3,h4,h5,h6,h7⟩:=h
  exact outcome_any b vp p s.q w (h5 w (Below.refl _ _)) (ValAt.ofMore h1) (BfOk.reach' (valid_ins hv) h7).1.q (valid_le hv).1
 hM:=fun w b s h=>by
  obtain ⟨wv,us,h1,h2,h3,h4,h5,h6,h7⟩:=h
  exact bufMoves_any b vp split wv p s w (h5 w (Below.refl _ _)) h1 (bufRaw.rep2 h2 h3.now fun i u r hu hr=>(h4 i u r hu hr).now) (BfOk.reach' (valid_ins hv) h7).1 (valid_le hv).1 (fun r hr=>((valid_le hv).2.2.1 r hr).1)
 hK:=fun w b s h=>by
  obtain ⟨wv,us,h1,h2,h3,h4,h5,h6,h7⟩:=h
  exact bufKey_any b vp split wv p s w h1 (bufRaw.rep2 h2 h3.now fun i u r hu hr=>(h4 i u r hu hr).now) (BfOk.reach' (valid_ins hv) h7).1 (valid_le hv).1 (fun r hr=>((valid_le hv).2.2.1 r hr).1) (fun r hr=>Nat.le_trans (bf_rows hv h7 r hr) (by decide))
 hA:=fun w b s m hB hl hm=>bufAfter_any hv w b s m hB hl.now hm
def bufO (split:Bool) (p:List (List Ins)) (o:List Int):Prop:=progValid p=true∧∃ s,ReachM (bfStart p split) (bfNext p split) s∧bfDone p s=true∧bfOut s=o
theorem bf_reach {p:List (List Ins)} {split:Bool} (hv:progValid p=true) (s:Bf):ReachM (bfStart p split) (nxM (bfMv p split) (bfAf p split)) s↔ReachM (bfStart p split) (bfNext p split) s:=
 reach_mv (ok:=BfOk p split) (BfOk.start p split) (fun _ _ _ h hn=>h.next (valid_ins hv) hn) (fun _ _ i=>mem_bfMv i) (fun _ _ _ _ h=>bfAf_next h) s
theorem bfMv_few {p:List (List Ins)} {split:Bool} {s:Bf} (h:BfOk p split s) (hp:p.length≤3):(bfMv p split s).length≤12:=by
 unfold bfMv
 rw [List.length_append,List.length_map]
 have h1:=filter_len (fun t=>bfCan p split s t) p.length
 have h2:=filter_len (fun k=>bfHas s k) s.bf.length
 have h3:=h.lb
 have h4:bfN split≤3:=by cases split <;> simp [bfN]
 have h5:=Nat.mul_le_mul hp h4
 omega
theorem bfOut_ok {p:List (List Ins)} {split:Bool} {s:Bf} (h:BfOk p split s):(bfOut s).length=p.length * 3+3∧∀ x∈bfOut s,0≤x∧x≤3:=by
 refine ⟨sqOut_length h.q,fun x hx => ?_⟩
 rcases List.mem_append.1 hx with g | g
 ·exact h.q.rg x g
 ·exact h.q.mm x g
theorem bufReach_any (vp:Value) (p:List (List Ins)) (split:Bool) (hv:progValid p=true) (b0 B:Nat) (w:World) (hB:B≤w.heap.size) (hraw:bufRaw vp p split B w b0 (bfStart p split)) (hsort : @SortsTo (p.length * 3+3) 16777216) :
 Calls Try.prog 35 #[mcV 76 b0] w (ReachPost (p.length * 3+3) (bfStart p split) (bfMv p split) (bfAf p split) (bfDone p) bfOut w):=by
 have hpr:=fun r hr=>((valid_le hv).2.2.1 r hr).1
 have hpl:=(valid_le hv).1
 have hre:∀ s,ReachM (bfStart p split) (nxM (bfMv p split) (bfAf p split)) s→ReachM (bfStart p split) (bfNext p split) s:=fun s h=>(bf_reach hv s).1 h
 have hok:∀ s,ReachM (bfStart p split) (nxM (bfMv p split) (bfAf p split)) s→BfOk p split s:=fun s h=>(BfOk.reach' (valid_ins hv) (hre s h)).1
 refine reach_any (bufK vp p split B hv) 12 (p.length * 3+3) 16777216 (bfLeft p) (bfStart p split) b0 w hB (bufRaw.loc hraw) (fun s hs => ?_) (by decide) ?_ (fun s hs m hm => ?_) (fun a b ha hb e => ?_) (fun l hn hl => ?_) (by decide) (fun s hs => ?_) hsort
 ·exact bfMv_few (hok s hs) hpl
 ·have:=bfLeft_start (split:=split) hv
  omega
 ·show bfLeft p (bfAf p split s m) < bfLeft p s
  obtain ⟨s',hs'⟩:=Option.isSome_iff_exists.1 ((mem_bfMv m).1 hm)
  rw [bfAf_next hs']
  exact bfLeft_next (hok s hs) hs'
 ·exact bufB_inj (hok a ha) (hok b hb) hpl (strNums_inj (bufB_bytes (hok a ha) hpr (bf_rows hv (hre a ha))) (bufB_bytes (hok b hb) hpr (bf_rows hv (hre b hb))) e)
 ·have h1:=done_few (out:=bfOut) (n:=p.length * 3+3) hn (fun s hs=>bfOut_ok (hok s (hl s hs).1)) fun a ha b hb e=>bf_done_pc (hok a (hl a ha).1) (hok b (hl b hb).1) (hl a ha).2 (hl b hb).2 e
  refine Nat.le_trans h1 ?_
  have:4 ^ (p.length * 3+3)≤4 ^ 12:=Nat.pow_le_pow_right (by decide) (by omega)
  exact Nat.le_trans this (by decide)
 ·exact (bfOut_ok (hok s hs)).1
theorem bufRaw.start {va:Option Addr} {n vc:Nat} {p:List (List Ins)} {split:Bool} {B:Nat} {w w':World} {b:Nat} {wv:Slc} (hp:RepP w (.slice va n vc) p) (hB:w.heap.size=B) (hx:BufB w' b (.slice va n vc) split wv (bfStart p split)) {base:Nat} (ho:Own SlcE 22 w' base wv.v (List.replicate (p.length * bfN split) ⟨none,0,0⟩)) (hb:Below w.heap.size w w'):bufRaw (.slice va n vc) p split B w' b (bfStart p split):=by
 subst hB
 refine ⟨wv,_,hx,by simp [bfStart],(LocU.own ho (by decide)).map fun V h=>h.rep,fun i u r hu hr => ?_,fun W' hW=>hp.below (hb.trans hW),hb.size, .start⟩
 unfold bfStart at hr
 simp only [List.getElem?_replicate] at hu hr
 split at hu
 ·rename_i hi
  rw [if_pos hi] at hr
  simp at hu hr
  subst hu;subst hr
  exact ⟨Rep.nil _,fun W' _=>Rep.nil _⟩
 ·cases hu
theorem runBuffers_any (vp:Value) (p:List (List Ins)) (split:Bool) (w:World) (hp:RepP w vp p) (hl:p.flatten.length≤1048576) (hsort : @SortsTo (p.length * 3+3) 16777216) :
 Calls Try.prog 22 #[vp, .bool split] w fun e w' => ∃ (cn:Int) (v:Value),e = .returned (.tuple #[v, .int .i64 cn])∧OutsPost (p.length * 3+3) (bufO split p) w (.returned v) w':=by
 obtain ⟨va,vc,rfl,hc1,hc2,hc3,hp⟩:=hp.open
 have HP:=hide hp
 have HV:=hide (fun w' h=>ProgramValid_any (.slice va p.length vc) p w' h hl)
 have HS:=hide hsort
 clear hp hsort
 cases hv:progValid p
 ·have B:=hide hv
  have F:Hid (∀ w1,Below w.heap.size w w1→OutsPost (p.length * 3+3) (bufO split p) w (.returned (.slice none 0 0)) w1):=hide fun w1 hb=>⟨_,[],rfl, .nil _ _,⟨fun o h=>by simp at h, .nil⟩,fun o=>by simp [bufO,B.out],hb⟩
  clear hv
  generalize p.length=n at *
  go_enter Try.func22,Try.ntmps22
  go_wp2_with (go_at_call 12;(with_reducible refine (HV.out _ HP.out).mono ?_);rintro e w1 ⟨rfl,hb1⟩;have B1:=hide hb1;rw [B.out];clear hb1)
  go_ret2
  exact ⟨_,_,rfl,F.out _ B1.out⟩
 ·have B:=hide hv
  have hpl:=(valid_le hv).1
  have HR:=hide (fun b0 B0 W hB0 hr=>bufReach_any (.slice va p.length vc) p split B.out b0 B0 W hB0 hr HS.out)
  have HRE:=hide (fun s=>bf_reach (split:=split) B.out s)
  have HN:=hide (fun W=>newBuffers_any va vc split p W hpl)
  have HRW:Hid (∀ (b0:Nat) (wv:Slc) (W0 W:World),w.heap.size≤W0.heap.size→BufB W b0 (.slice va p.length vc) split wv (bfStart p split)→Own SlcE 22 W W0.heap.size wv.v (List.replicate (p.length * bfN split) ⟨none,0,0⟩)→Below w.heap.size w W→bufRaw (.slice va p.length vc) p split w.heap.size W b0 (bfStart p split)):=hide fun b0 wv W0 W h0 h h2 hb=>bufRaw.start HP.out rfl h h2 hb
  clear hv hpl
  generalize hn:p.length=n at *
  clear hn
  go_enter Try.func22,Try.ntmps22
  go_wp2_with (first
   | (go_at_call 12;(with_reducible refine (HV.out _ HP.out).mono ?_);rintro e w1 ⟨rfl,hb1⟩;have B1:=hide hb1;rw [B.out];clear hb1)
   | (go_at_call 36;(with_reducible refine (HN.out w1).mono ?_);rintro e w2 ⟨b0,wv0,rfl,hx2,ho2,hb2⟩;have X2:=hide hx2;have O2:=hide ho2;have B2:=hide (B1.out.trans (hb2.mono B1.out.size));clear hx2 ho2 hb2)
   | (go_at_call 35;(with_reducible refine (HR.out b0 w.heap.size w2 B2.out.size (HRW.out b0 wv0 w1 w2 B1.out.size X2.out O2.out B2.out)).mono ?_);rintro e w3 ⟨cn,v,l,rfl,ho,hk,hm,hb3⟩;have F:Hid (OutsPost (n * 3+3) (bufO split p) w (.returned v) w3):=hide ⟨v,l,rfl,ho.mono B2.out.size,hk,fun o=>(hm o).trans ⟨fun ⟨s,h1,h2,h3⟩=>⟨B.out,s,(HRE.out s).1 h1,h2,h3⟩,fun ⟨_,s,h1,h2,h3⟩=>⟨s,(HRE.out s).2 h1,h2,h3⟩⟩,B2.out.trans (hb3.mono B2.out.size)⟩;clear ho hk hm hb3))
  go_ret2
  exact ⟨_,_,rfl,F.out⟩
theorem RunTso_any (vp:Value) (p:List (List Ins)) (w:World) (hp:RepP w vp p) (hl:p.flatten.length≤1048576) (hsort : @SortsTo (p.length * 3+3) 16777216) :
 Calls Try.prog 10 #[vp] w (OutsPost (p.length * 3+3) (bufO false p) w):=by
 have H:=hide (runBuffers_any vp p false w hp hl hsort)
 clear hp hsort
 generalize p.length=n at *
 go_enter Try.func10,Try.ntmps10
 go_wp2_with (go_at_call 22;(with_reducible refine H.out.mono ?_);rintro e w1 ⟨cn,v,rfl,h1⟩;have F:=hide h1;clear h1)
 go_ret
 exact F.out
end Go.Proofs.Ytlddmagfbcomgaa
namespace Go.Proofs.Ytlddmagfbcomgaa
open Go.RowKit
theorem Fd_filter (r:List Ins):Fd r (dropI r):=by
 induction r with
 | nil=>exact .nil
 | cons x r ih =>
  unfold dropI at *
  by_cases h:x.op=4
  ·rw [List.filter_cons_of_neg (by simp [isFence,h])]
   exact .drop x h ih
  ·rw [List.filter_cons_of_pos (by simp [isFence,h])]
   exact .keep x ih
theorem FdP_drop (p:List (List Ins)):FdP p (dropP p):=by
 refine ⟨by simp [dropP],fun t r r' hr hr' => ?_⟩
 unfold dropP at hr'
 rw [List.getElem?_map,hr,Option.map_some,Option.some.injEq] at hr'
 subst hr'
 exact Fd_filter r
theorem drop_within {p:List (List Ins)} {split:Bool} (hv:progValid p=true) (o:List Int) (h:bufO split p o):bufO split (dropP p) o:=
 ⟨progValid_drop hv,bf_out_drop (valid_ins hv) (valid_ins (progValid_drop hv)) (FdP_drop p) h.2⟩
theorem ops_drop (p:List (List Ins)):opsV 4 (dropP p)=0:=by
 unfold opsV
 split
 ·unfold opsTo
  rw [List.take_length]
  have h:∀ l:List (List Ins),((dropP l).map fun r=>opsRow 4 r r.length).sum=0:=by
   intro l
   induction l with
   | nil=>rfl
   | cons r l ih =>
    unfold dropP at *
    rw [List.map_cons,List.map_cons,List.sum_cons,ih,Nat.add_zero]
    unfold opsRow dropI
    rw [List.take_length,List.filter_filter,List.length_eq_zero_iff,List.filter_eq_nil_iff]
    intro x _
    simp [isFence]
  exact h p
 ·rfl
end Go.Proofs.Ytlddmagfbcomgaa
namespace Go.Proofs.Ytlddmagfbcomgaa
open Go.RowKit
theorem OutsU.repD {w:World} {base:Nat} {v:Value} {l:List (List Int)} (h:OutsU w base v l):RepNN w v l:=by
 obtain ⟨us,h1,h2,h3⟩:=h
 exact ⟨us,h1,h2.rep,fun i u r hu hr=>(h3 i u r hu hr).rep⟩
theorem subN_iffD {a b:List (List Int)}:subN a b=true↔∀ o∈a,o∈b:=by
 simp [subN,hasN]
theorem DrawDropFences_any (v:Value) (xs0:List Int) (w:World) (hx:Rep ByteE w v xs0) (hb:∀ x∈xs0,0≤x∧x≤255) :
 Calls Try.prog 4 #[v] w (RetProg w):=by
 have HO:=hide (DrawProgramValid_any v xs0 w hx hb)
 clear hx hb
 go_enter Try.func4,Try.ntmps4
 go_wp2_with fail
 (with_reducible refine HO.out.mono ?_);rintro e w1 ⟨v1,P,rfl,hP,hl,hl2,hb1⟩
 have HL2:=hide hl2
 clear hl2
 go_wp2_with fail
 go_ret
 exact ⟨_,P,rfl,hP,hl,HL2.out,hb1⟩
theorem drop_facts {P:List (List Ins)} (h:progValid P=true):progValid (dropV P)=true∧dropV (dropV P)=dropV P∧opsV 4 (dropV P)=0∧(∀ split o,bufO split P o→bufO split (dropV P) o):=by
 have e:dropV P=dropP P:=by unfold dropV;rw [if_pos h]
 rw [e]
 refine ⟨progValid_drop h, ?_,ops_drop P,fun split o k=>drop_within h o k⟩
 unfold dropV
 rw [if_pos (progValid_drop h),dropP_idem]
theorem dropV_flat (P:List (List Ins)):(dropV P).flatten.length≤P.flatten.length:=by
 unfold dropV
 split
 ·exact dropP_flatten P
 ·simp
theorem lawFnDropFences (v:Value) (xs:List Int) (w:World) (h:Rep ByteE w v xs∧∀ x∈xs,0≤x∧x≤255) :
 Calls Try.prog 3 #[v] w fun e w'=>e = .returned (.bool true)∧Below w.heap.size w w':=by
 obtain ⟨hx,hb⟩:=h
 obtain ⟨a0,c0,rfl, -,hm, -,hx⟩:=hx.open
 have HD:=hide (DrawDropFences_any (.slice a0 xs.length c0) xs w hx hb)
 clear hx hb
 generalize xs.length=n at *
 by_cases hl:(n:Int) > 1048576
 ·go_enter Try.func3,Try.ntmps3
  go_wp2_with fail
  go_ret
  exact ⟨rfl,Below.refl _ _⟩
 ·have hl':decide ((n:Int) > 1048576)=false:=decide_eq_false hl
  go_enter Try.func3,Try.ntmps3
  go_wp2_with fail
  (with_reducible refine HD.out.mono ?_);rintro e w1 ⟨v1,P,rfl,hP,hPl,hPr,hb1⟩
  have hfl:=flatten_bound9 hPl hPr
  have hfq:=dropV_flat P
  have HP:=hide hP;have HB1:=hide hb1
  have HI:=hide (DropFences_any v1 P w1 hP (by omega))
  have HS:=hide (fun w' h=>sDropFences_any v1 P w' h (by omega) (by omega))
  have HT:=hide (fun h=>drop_facts (P:=P) h)
  have HDQ:=hide (fun q w' h=>DropFences_any q (dropV P) w' h (by omega))
  have HCQ:=hide (fun q w' h=>CountOps_any q (dropV P) 4 w' h (by omega))
  have HTP:=hide (fun w' h=>RunTso_any v1 P w' h (by omega) (sortedOutcomes_any _ _ (by decide)))
  have HTQ:=hide (fun q w' h=>RunTso_any q (dropV P) w' h (by omega) (sortedOutcomes_any _ _ (by decide)))
  clear hP hb1 HD hPr hfl hfq hPl
  generalize dropV P=Q at *
  generalize progValid P=B at *
  go_wp2_with fail
  (with_reducible refine HI.out.mono ?_);rintro e w2 ⟨q,rfl,o2,hb2⟩
  have O2:=hide o2;have HB2:=hide (HB1.out.trans (hb2.mono HB1.out.size));have HP2:=hide (HP.out.below hb2)
  clear o2 hb2 HI HP HB1
  go_wp2_with fail
  (with_reducible refine (HS.out _ HP2.out).mono ?_);rintro e w3 ⟨q',rfl,o3,hb3⟩
  have R3:=hide o3.rep;have HB3:=hide (HB2.out.trans (hb3.mono HB2.out.size));have HP3:=hide (HP2.out.below hb3);have R2:=hide (O2.out.below hb3).rep
  clear o3 hb3 HS HP2 HB2 O2
  have hBB:(B != B)=false:=by simp
  go_wp2_with fail
  (with_reducible refine (ProgramSame_any q q' Q Q _ R2.out R3.out).mono ?_);rintro e w4 ⟨rfl,hb4⟩
  rw [decide_eq_true (rfl:Q=Q)]
  have HB4:=hide (HB3.out.trans (hb4.mono HB3.out.size));have HP4:=hide (HP3.out.below hb4);have R4:=hide (R2.out.below hb4);have R4':=hide (R3.out.below hb4)
  clear hb4 HB3 HP3 R2 R3
  cases B
  ·clear HT
   go_wp2_with fail
   (with_reducible refine (ProgramSame_any q q' Q Q _ R4.out R4'.out).mono ?_);rintro e w5 ⟨rfl,hb5⟩
   rw [decide_eq_true (rfl:Q=Q)]
   go_wp2_with fail
   go_ret
   exact ⟨rfl,HB4.out.trans (hb5.mono HB4.out.size)⟩
  ·obtain ⟨hvQ,hdd,hop,hwi⟩:=HT.out rfl
   have HW:=hide hwi
   rw [hvQ,hdd] at HDQ
   rw [hop] at HCQ
   clear HT hBB hvQ hdd hop hwi
   generalize P.length * 3+3=kp at *
   generalize Q.length * 3+3=kq at *
   go_wp2_with fail
   (with_reducible refine (HDQ.out q _ R4.out).mono ?_);rintro e w5 ⟨va,rfl,o5,hb5⟩
   have A5:=hide o5.rep;have HB5:=hide (HB4.out.trans (hb5.mono HB4.out.size));have HP5:=hide (HP4.out.below hb5);have R5:=hide (R4.out.below hb5)
   clear o5 hb5 HB4 HP4 R4 R4' HDQ
   go_wp2_with fail
   (with_reducible refine (ProgramSame_any va q Q Q _ A5.out R5.out).mono ?_);rintro e w6 ⟨rfl,hb6⟩
   rw [decide_eq_true (rfl:Q=Q)]
   have HB6:=hide (HB5.out.trans (hb6.mono HB5.out.size));have HP6:=hide (HP5.out.below hb6);have R6:=hide (R5.out.below hb6)
   clear hb6 HB5 HP5 R5 A5
   go_wp2_with fail
   (with_reducible refine (HCQ.out q _ R6.out).mono ?_);rintro e w7 ⟨rfl,hb7⟩
   have HB7:=hide (HB6.out.trans (hb7.mono HB6.out.size));have HP7:=hide (HP6.out.below hb7);have R7:=hide (R6.out.below hb7)
   clear hb7 HB6 HP6 R6 HCQ
   go_wp2_with fail
   (with_reducible refine (HTP.out _ HP7.out).mono ?_);rintro e w8 ⟨vc,lc1,rfl,hc, -,hmc,hb8⟩
   have A8:=hide hc;have MC:=hide hmc;have HB8:=hide (HB7.out.trans (hb8.mono HB7.out.size));have R8:=hide (R7.out.below hb8)
   clear hc hmc hb8 HB7 HP7 R7 HTP
   go_wp2_with fail
   (with_reducible refine (HTQ.out q _ R8.out).mono ?_);rintro e w9 ⟨vd,ld1,rfl,hd, -,hmd,hb9⟩
   have S2:=hide (subN_iffD.2 fun o ho=>(hmd o).2 (HW.out false o ((MC.out o).1 ho)))
   have A9:=hide (A8.out.below hb9).repD;have A9':=hide hd.repD;have HB9:=hide (HB8.out.trans (hb9.mono HB8.out.size))
   clear hd hmd hb9 HB8 R8 HTQ A8 MC
   go_wp2_with fail
   (with_reducible refine (wmWithin_any vc vd lc1 ld1 _ A9.out A9'.out).mono ?_);rintro e w10 ⟨rfl,hb10⟩
   rw [S2.out]
   go_wp2_with fail
   go_ret
   exact ⟨rfl,HB9.out.trans (hb10.mono HB9.out.size)⟩
end Go.Proofs.Ytlddmagfbcomgaa
namespace Go.Proofs.Ytlddmagfbcomgaa
open Go.RowKit Go.ChangeShapes Go.WideShapes Go.ChangeAt
open Go.ChangeMaps (open_string)
theorem fnDropFences_reads:∀ t∈Try.f3.params.toList,Try.prog.readableRec t=true∧t < Try.prog.types.size:=by
 intro t ht
 have:t=22:=by simpa [Try.params3] using ht
 subst this
 exact ⟨by kernel_rfl,of_decide_eq_true (by kernel_rfl)⟩
theorem fnDropFences_lifted (os:Os) (started:os.Started) (H:Type) (enc:TypeId × Value→H) :
 ReturnsInHanded {} Try.checked os 3 .any (Rows.fnDropFencesSpec.pre6 enc Try.prog Try.f3 Rows.fnDropFencesRow.domain false) (Rows.fnDropFencesSpec.post enc Try.prog Try.f3 false true false false):=by
 refine returnsInHanded_of_change (C:=Try.checked) Try.own started (by kernel_rfl) Try.func3
  (ChangeSpec.witness6 (enc:=enc) (C:=Try.checked) false ⟨#[],#[.slice none 0 0],[]⟩ 8 (by kernel_rfl) (by kernel_rfl) (by kernel_rfl) (by kernel_rfl)) ?_
 intro W base args ds gs before hval0 hW hcnd _
 have hval:∀ (j:Nat) t v,Try.f3.params[j]? = some t→args[j]? = some v→Value.okWide Try.prog W .any base t v:=hval0
 have hW':=hW
 obtain ⟨p,q,hA0,hV,rfl,hfz,hnd⟩:=hW
 have hA:DataW.TrodAll enc Try.prog W 0 (fun _=>true) true Try.f3.params.toList args.toList ds p:=hA0
 rw [Try.params3] at hA hval
 obtain ⟨v0,d0,rfl,rfl,h0⟩:=trodAll_one hA
 obtain ⟨rfl,rfl⟩:=trodVars_none hV
 obtain ⟨B0,hB0⟩:=bytes_of_trod (okWide_slice Try.underlying22 (hval 0 22 v0 rfl rfl)) h0
 refine (lawFnDropFences v0 B0 W hB0).mono fun e W' ⟨he,hb⟩ => ?_
 exact ⟨_,he,post_law Try.laidOut fnDropFences_reads rfl rfl (by kernel_rfl) Try.underlying4 hW' hb⟩
theorem fnDropFences_holds:Rows.FnDropFencesSaid:=
 OpenClaim.holds_of_wide 3 Try.f3 rfl rfl rfl rfl rfl rfl rfl ⟨rfl,rfl,rfl,rfl,rfl⟩ rfl rfl rfl rfl rfl (by kernel_rfl) Try.func3 (by kernel_rfl)
  (of_decide_eq_true (by kernel_rfl)) (by unfold Func.isWrapper;first | (rw [if_pos (by decide +kernel)];kernel_rfl) | (rw [if_neg (by decide +kernel)];exact ⟨rfl,rfl⟩))
  (fun os started H enc _=>fnDropFences_lifted os started H enc)
end Go.Proofs.Ytlddmagfbcomgaa