/-
  Store buffers as a kind of machines, put together; runBuffers. Condition: a valid program; how outcomes are sorted is a hypothesis here.
-/
import Derived.Test.YtlddmagfbcomgaaGreatZq19
import Derived.Test.YtlddmagfbcomgaaGreatZq17
import Derived.Test.YtlddmagfbcomgaaGreatZq18
import Derived.Test.YtlddmagfbcomgaaGreatZq20
import Derived.Test.YtlddmagfbcomgaaGreatZq16
import Derived.Test.YtlddmagfbcomgaaGreatZq13
set_option maxHeartbeats 6400000
set_option maxRecDepth 100000
namespace Go.Proofs.YtlddmagfbcomgaaGreat
open Go.RowKit
theorem bufThread_any (b t:Nat) (vp:Value) (split:Bool) (wv:Slc) (us:List Slc) (p:List (List Ins)) (s s':Bf) (i:Ins) (w:World) (hp:RepP w vp p) (hx:BufB w b vp split wv s) (hus:Rep SlcE w wv.v us) (hul:us.length=s.bf.length)
 (hrows:∀ (k:Nat) (u:Slc) (r:List (Int × Int)),us[k]? = some u→s.bf[k]? = some r→Rep ByteE w u.v (encR2 r)) (hok:BfOk p split s) (hlen:∀ r∈s.bf,r.length≤42) (hpl:p.length≤3) (hpr:∀ r∈p,r.length≤7) (ht:t < p.length) (hi:sqIns p s.q t=some i) (hv:insValid i=true) (hd:bfDo s split t (s.q.pc.getD t 0) i=some s') :
 Calls Tryz.prog 250 #[.pointer (some ⟨b,0,none⟩), .int .i64 (t:Int)] w (RetTh w vp split s s' us):=by
 rcases ins_op hv with h | h | h | h | h
 ·exact bufThread1_any b t vp split wv us p s s' i w hp hx hus hul hrows hok hlen hpl hpr ht hi hv h hd
 ·exact bufThread2_any b t vp split wv us p s s' i w hp hx hus hul hrows hok hlen hpl hpr ht hi hv h hd
 ·exact bufThread3_any b t vp split wv us p s s' i w hp hx hus hul hrows hok hlen hpl hpr ht hi hv h hd
 ·exact bufThread4_any b t vp split wv us p s s' i w hp hx hus hul hrows hok hlen hpl hpr ht hi hv h hd
 ·exact bufThread5_any b t vp split wv us p s s' i w hp hx hus hul hrows hok hlen hpl hpr ht hi hv h hd
end Go.Proofs.YtlddmagfbcomgaaGreat
namespace Go.Proofs.YtlddmagfbcomgaaGreat
open Go.RowKit
def bufRaw (vp:Value) (p:List (List Ins)) (split:Bool) (B:Nat) (W:World) (b:Nat) (s:Bf):Prop:=
 ∃ (wv:Slc) (us:List Slc),BufB W b vp split wv s∧us.length=s.bf.length∧LocU LM B W (fun V=>Rep SlcE V wv.v us) ∧
  (∀ (i:Nat) (u:Slc) (r:List (Int × Int)),us[i]? = some u→s.bf[i]? = some r→LocU LM B W (fun V=>Rep ByteE V u.v (encR2 r))) ∧
  (∀ W',Below B W W'→RepP W' vp p)∧B≤W.heap.size∧ReachM (bfStart p split) (bfNext p split) s
theorem bufRaw.loc {vp:Value} {p:List (List Ins)} {split:Bool} {B:Nat} {w:World} {b:Nat} {s:Bf} (h:bufRaw vp p split B w b s):LocU LM B w (fun W=>bufRaw vp p split B W b s):=by
 refine ⟨h,fun w' k => ?_⟩
 obtain ⟨wv,us,h1,h2,h3,h4,h5,h6,h7⟩:=h
 exact ⟨wv,us,k.block b _ _ _ h1 (by decide),h2,h3.step k,fun i u r hu hr=>(h4 i u r hu hr).step k,fun W' hW=>h5 W' ((k.below h6).trans hW),Nat.le_trans h6 k.size,h7⟩
theorem bufRaw.rep2 {w:World} {wv:Slc} {us:List Slc} {s:Bf} (h2:us.length=s.bf.length) (h3:Rep SlcE w wv.v us) (h4:∀ (i:Nat) (u:Slc) (r:List (Int × Int)),us[i]? = some u→s.bf[i]? = some r→Rep ByteE w u.v (encR2 r)):BufW w wv s:=
 ⟨us,by rw [List.length_map];exact h2,h3,fun i u r hu hr=>by
  rw [List.getElem?_map] at hr
  obtain ⟨r0,h,rfl⟩:=Option.map_eq_some_iff.1 hr
  exact h4 i u r0 hu h⟩
theorem rows_set {w:World} {B k:Nat} {us:List Slc} {rs:List (List (Int × Int))} {u':Slc} {r':List (Int × Int)} (h4:∀ (i:Nat) (u:Slc) (r:List (Int × Int)),us[i]? = some u→rs[i]? = some r→LocU LM B w (fun V=>Rep ByteE V u.v (encR2 r)))
 (hn:LocU LM B w (fun V=>Rep ByteE V u'.v (encR2 r'))):∀ (i:Nat) (u:Slc) (r:List (Int × Int)),(us.set k u')[i]? = some u→(rs.set k r')[i]? = some r→LocU LM B w (fun V=>Rep ByteE V u.v (encR2 r)):=by
 intro i u r hu hr
 rw [List.getElem?_set] at hu hr
 by_cases e:k=i
 ·subst e
  rw [if_pos rfl] at hu hr
  split at hu
  ·split at hr
   ·simp only [Option.some.injEq] at hu hr
    subst hu;subst hr;exact hn
   ·cases hr
  ·cases hu
 ·rw [if_neg e] at hu hr
  exact h4 i u r hu hr
theorem sqIns_of {p:List (List Ins)} {s:Sq} {t:Nat} {r:List Ins} {k:Int} {x:Ins} (hr:p[t]? = some r) (hk:s.pc[t]? = some k) (hx:r[k.toNat]? = some x):sqIns p s t=some x:=by
 unfold sqIns
 rw [hr,hk]
 simp only [Option.bind_some]
 exact hx
theorem bufAfter_any {vp:Value} {p:List (List Ins)} {split:Bool} {B:Nat} (hv:progValid p=true) (w:World) (b:Nat) (s:Bf) (m:Nat) (hB:B≤w.heap.size) (h:bufRaw vp p split B w b s) (hm:m∈bfMv p split s) :
 Calls Tryz.prog 250 #[.pointer (some ⟨b,0,none⟩), .int .i64 (m:Int)] w fun e w' => ∃ b',e = .returned (mcV 164 b')∧LocU LM B w' (fun W=>bufRaw vp p split B W b' (bfAf p split s m))∧Below w.heap.size w w':=by
 obtain ⟨wv,us,h1,h2,h3,h4,h5,h6,h7⟩:=h
 have hok:=(BfOk.reach' (valid_ins hv) h7).1
 have hlen:=bf_rows hv h7
 have hpl:=(valid_le hv).1
 have hpr:=fun r hr=>((valid_le hv).2.2.1 r hr).1
 obtain ⟨s',hs'⟩:=Option.isSome_iff_exists.1 ((mem_bfMv m).1 hm)
 rw [bfAf_next hs']
 have hre:ReachM (bfStart p split) (bfNext p split) s':=.step h7 hs'
 by_cases hmt:m < p.length
 ·obtain ⟨r,k,x,hr,hk,hx,hd⟩:=bfNext_thread hs' hmt
  have hv2:=valid_ins hv r (List.mem_of_getElem? hr) x (List.mem_of_getElem? hx)
  have hkd:s.q.pc.getD m 0=k:=by rw [List.getD_eq_getElem?_getD,hk];rfl
  refine (bufThread_any b m vp split wv us p s s' x w (h5 w (Below.refl _ _)) h1 h3.now h2 (fun i u r hu hr=>(h4 i u r hu hr).now) hok hlen hpl hpr hmt (sqIns_of hr hk hx) hv2 (by rw [hkd];exact hd)).mono ?_
  rintro e w' ⟨b',wv',rfl,hb,hbb,hbl,hcase⟩
  refine ⟨b',rfl,bufRaw.loc ?_,hbl⟩
  have K:KpU LM B w w':=.of_below hbl
  rcases hcase with ⟨hbf,hown⟩ | ⟨k2,r2,u2,hbf,hown,hown2⟩
  ·exact ⟨wv',us,hb,by rw [hbf];exact h2,(LocU.own hown (by decide)).map fun V h=>h.rep,fun i u r hu hr=>((h4 i u r hu (by rw [← hbf];exact hr)).step K),fun W' hW=>h5 W' ((hbl.mono hB).trans hW),Nat.le_trans h6 hbl.size,hre⟩
  ·refine ⟨wv',us.set k2 u2,hb,by rw [hbf,List.length_set,List.length_set];exact h2,(LocU.own hown (by decide)).map fun V h=>h.rep, ?_,fun W' hW=>h5 W' ((hbl.mono hB).trans hW),Nat.le_trans h6 hbl.size,hre⟩
   rw [hbf]
   exact rows_set (fun i u r hu hr=>(h4 i u r hu hr).step K) ((LocU.own hown2 (by decide)).map fun V h=>h.rep)
 ·obtain ⟨l,v,rest,hb,rfl⟩:=bfNext_flush hs' hmt
  obtain ⟨k,rfl⟩:∃ k,m=p.length+k:=⟨m - p.length,by omega⟩
  rw [Nat.add_sub_cancel_left] at hb hre ⊢
  obtain ⟨u,hu⟩:=get_of_lt (xs:=us) (k:=k) (by rw [h2];exact (List.getElem?_eq_some_iff.1 hb).1)
  have hl:=hlen _ (List.mem_of_getElem? hb)
  refine (bufFlush_any b k vp split wv u us p s l v rest w (h5 w (Below.refl _ _)) h1 h3.now h2 hu (h4 k u _ hu hb).now hok hpl hb (by simp at hl;omega)).mono ?_
  rintro e w' ⟨b',wv',u',rfl,hb',hown,hrow,hbb,hbl⟩
  refine ⟨b',rfl,bufRaw.loc ?_,hbl⟩
  have K:KpU LM B w w':=.of_below hbl
  exact ⟨wv',us.set k u',hb',by rw [List.length_set,List.length_set];exact h2,(LocU.own hown (by decide)).map fun V h=>h.rep,rows_set (fun i u r hu hr=>(h4 i u r hu hr).step K) (((h4 k u _ hu hb).step K).map fun V h=>hrow V h),fun W' hW=>h5 W' ((hbl.mono hB).trans hW),Nat.le_trans h6 hbl.size,hre⟩
def bufK (vp:Value) (p:List (List Ins)) (split:Bool) (B:Nat) (hv:progValid p=true):MK LM B Bf where
 T:=164
 raw:=bufRaw vp p split B
 done:=bfDone p
 out:=bfOut
 mv:=bfMv p split
 af:=bfAf p split
 key:=fun s=>strOfNums (bufB s)
 fD:=251
 fO:=246
 fM:=253
 fA:=250
 fK:=252
 mD:=fun _ _=>by kernel_rfl
 mO:=fun _ _=>by kernel_rfl
 mM:=fun _ _=>by kernel_rfl
 mA:=fun _ _=>by kernel_rfl
 mK:=fun _ _=>by kernel_rfl
 cD:=fun _ _=>by kernel_rfl
 cO:=fun _ _=>by kernel_rfl
 cM:=fun _ _=>by kernel_rfl
 cA:=fun _ _=>by kernel_rfl
 cK:=fun _ _=>by kernel_rfl
 hD:=fun w b s h=>by
  obtain ⟨wv,us,h1,h2,h3,h4,h5,h6,h7⟩:=h
  exact bufDone_any b vp split wv p s w (h5 w (Below.refl _ _)) h1 (bufRaw.rep2 h2 h3.now fun i u r hu hr=>(h4 i u r hu hr).now) (BfOk.reach' (valid_ins hv) h7).1 (valid_le hv).1 (fun r hr=>((valid_le hv).2.2.1 r hr).1)
 hO:=fun w b s h=>by
  obtain ⟨wv,us,h1,h2,h3,h4,h5,h6,h7⟩:=h
  exact outcome_any b vp p s.q w (h5 w (Below.refl _ _)) (ValAt.ofMore h1) (BfOk.reach' (valid_ins hv) h7).1.q (valid_le hv).1
 hM:=fun w b s h=>by
  obtain ⟨wv,us,h1,h2,h3,h4,h5,h6,h7⟩:=h
  exact bufMoves_any b vp split wv p s w (h5 w (Below.refl _ _)) h1 (bufRaw.rep2 h2 h3.now fun i u r hu hr=>(h4 i u r hu hr).now) (BfOk.reach' (valid_ins hv) h7).1 (valid_le hv).1 (fun r hr=>((valid_le hv).2.2.1 r hr).1)
 hK:=fun w b s h=>by
  obtain ⟨wv,us,h1,h2,h3,h4,h5,h6,h7⟩:=h
  exact bufKey_any b vp split wv p s w h1 (bufRaw.rep2 h2 h3.now fun i u r hu hr=>(h4 i u r hu hr).now) (BfOk.reach' (valid_ins hv) h7).1 (valid_le hv).1 (fun r hr=>((valid_le hv).2.2.1 r hr).1) (fun r hr=>Nat.le_trans (bf_rows hv h7 r hr) (by decide))
 hA:=fun w b s m hB hl hm=>bufAfter_any hv w b s m hB hl.now hm
def bufO (split:Bool) (p:List (List Ins)) (o:List Int):Prop:=progValid p=true∧∃ s,ReachM (bfStart p split) (bfNext p split) s∧bfDone p s=true∧bfOut s=o
theorem bf_reach {p:List (List Ins)} {split:Bool} (hv:progValid p=true) (s:Bf):ReachM (bfStart p split) (nxM (bfMv p split) (bfAf p split)) s↔ReachM (bfStart p split) (bfNext p split) s:=
 reach_mv (ok:=BfOk p split) (BfOk.start p split) (fun _ _ _ h hn=>h.next (valid_ins hv) hn) (fun _ _ i=>mem_bfMv i) (fun _ _ _ _ h=>bfAf_next h) s
theorem bfMv_few {p:List (List Ins)} {split:Bool} {s:Bf} (h:BfOk p split s) (hp:p.length≤3):(bfMv p split s).length≤12:=by
 unfold bfMv
 rw [List.length_append,List.length_map]
 have h1:=filter_len (fun t=>bfCan p split s t) p.length
 have h2:=filter_len (fun k=>bfHas s k) s.bf.length
 have h3:=h.lb
 have h4:bfN split≤3:=by cases split <;> simp [bfN]
 have h5:=Nat.mul_le_mul hp h4
 omega
theorem bfOut_ok {p:List (List Ins)} {split:Bool} {s:Bf} (h:BfOk p split s):(bfOut s).length=p.length * 3+3∧∀ x∈bfOut s,0≤x∧x≤3:=by
 refine ⟨sqOut_length h.q,fun x hx => ?_⟩
 rcases List.mem_append.1 hx with g | g
 ·exact h.q.rg x g
 ·exact h.q.mm x g
theorem bufReach_any (vp:Value) (p:List (List Ins)) (split:Bool) (hv:progValid p=true) (b0 B:Nat) (w:World) (hB:B≤w.heap.size) (hraw:bufRaw vp p split B w b0 (bfStart p split)) (hsort : @SortsTo (p.length * 3+3) 16777216) :
 Calls Tryz.prog 61 #[mcV 164 b0] w (ReachPost (p.length * 3+3) (bfStart p split) (bfMv p split) (bfAf p split) (bfDone p) bfOut w):=by
 have hpr:=fun r hr=>((valid_le hv).2.2.1 r hr).1
 have hpl:=(valid_le hv).1
 have hre:∀ s,ReachM (bfStart p split) (nxM (bfMv p split) (bfAf p split)) s→ReachM (bfStart p split) (bfNext p split) s:=fun s h=>(bf_reach hv s).1 h
 have hok:∀ s,ReachM (bfStart p split) (nxM (bfMv p split) (bfAf p split)) s→BfOk p split s:=fun s h=>(BfOk.reach' (valid_ins hv) (hre s h)).1
 refine reach_any (bufK vp p split B hv) 12 (p.length * 3+3) 16777216 (bfLeft p) (bfStart p split) b0 w hB (bufRaw.loc hraw) (fun s hs => ?_) (by decide) ?_ (fun s hs m hm => ?_) (fun a b ha hb e => ?_) (fun l hn hl => ?_) (by decide) (fun s hs => ?_) hsort
 ·exact bfMv_few (hok s hs) hpl
 ·have:=bfLeft_start (split:=split) hv
  omega
 ·show bfLeft p (bfAf p split s m) < bfLeft p s
  obtain ⟨s',hs'⟩:=Option.isSome_iff_exists.1 ((mem_bfMv m).1 hm)
  rw [bfAf_next hs']
  exact bfLeft_next (hok s hs) hs'
 ·exact bufB_inj (hok a ha) (hok b hb) hpl (strNums_inj (bufB_bytes (hok a ha) hpr (bf_rows hv (hre a ha))) (bufB_bytes (hok b hb) hpr (bf_rows hv (hre b hb))) e)
 ·have h1:=done_few (out:=bfOut) (n:=p.length * 3+3) hn (fun s hs=>bfOut_ok (hok s (hl s hs).1)) fun a ha b hb e=>bf_done_pc (hok a (hl a ha).1) (hok b (hl b hb).1) (hl a ha).2 (hl b hb).2 e
  refine Nat.le_trans h1 ?_
  have:4 ^ (p.length * 3+3)≤4 ^ 12:=Nat.pow_le_pow_right (by decide) (by omega)
  exact Nat.le_trans this (by decide)
 ·exact (bfOut_ok (hok s hs)).1
theorem bufRaw.start {va:Option Addr} {n vc:Nat} {p:List (List Ins)} {split:Bool} {B:Nat} {w w':World} {b:Nat} {wv:Slc} (hp:RepP w (.slice va n vc) p) (hB:w.heap.size=B) (hx:BufB w' b (.slice va n vc) split wv (bfStart p split)) {base:Nat} (ho:Own SlcE 22 w' base wv.v (List.replicate (p.length * bfN split) ⟨none,0,0⟩)) (hb:Below w.heap.size w w'):bufRaw (.slice va n vc) p split B w' b (bfStart p split):=by
 subst hB
 refine ⟨wv,_,hx,by simp [bfStart],(LocU.own ho (by decide)).map fun V h=>h.rep,fun i u r hu hr => ?_,fun W' hW=>hp.below (hb.trans hW),hb.size, .start⟩
 unfold bfStart at hr
 simp only [List.getElem?_replicate] at hu hr
 split at hu
 ·rename_i hi
  rw [if_pos hi] at hr
  simp at hu hr
  subst hu;subst hr
  exact ⟨Rep.nil _,fun W' _=>Rep.nil _⟩
 ·cases hu
theorem runBuffers_any (vp:Value) (p:List (List Ins)) (split:Bool) (w:World) (hp:RepP w vp p) (hl:p.flatten.length≤1048576) (hsort : @SortsTo (p.length * 3+3) 16777216) :
 Calls Tryz.prog 60 #[vp, .bool split] w fun e w' => ∃ (cn:Int) (v:Value),e = .returned (.tuple #[v, .int .i64 cn])∧OutsPost (p.length * 3+3) (bufO split p) w (.returned v) w':=by
 obtain ⟨va,vc,rfl,hc1,hc2,hc3,hp⟩:=hp.open
 have HP:=hide hp
 have HV:=hide (fun w' h=>ProgramValid_any (.slice va p.length vc) p w' h hl)
 have HS:=hide hsort
 clear hp hsort
 cases hv:progValid p
 ·have B:=hide hv
  have F:Hid (∀ w1,Below w.heap.size w w1→OutsPost (p.length * 3+3) (bufO split p) w (.returned (.slice none 0 0)) w1):=hide fun w1 hb=>⟨_,[],rfl, .nil _ _,⟨fun o h=>by simp at h, .nil⟩,fun o=>by simp [bufO,B.out],hb⟩
  clear hv
  generalize p.length=n at *
  go_enter Tryz.func60,Tryz.ntmps60
  go_wp2_with (go_at_call 35;(with_reducible refine (HV.out _ HP.out).mono ?_);rintro e w1 ⟨rfl,hb1⟩;have B1:=hide hb1;rw [B.out];clear hb1)
  go_ret2
  exact ⟨_,_,rfl,F.out _ B1.out⟩
 ·have B:=hide hv
  have hpl:=(valid_le hv).1
  have HR:=hide (fun b0 B0 W hB0 hr=>bufReach_any (.slice va p.length vc) p split B.out b0 B0 W hB0 hr HS.out)
  have HRE:=hide (fun s=>bf_reach (split:=split) B.out s)
  have HN:=hide (fun W=>newBuffers_any va vc split p W hpl)
  have HRW:Hid (∀ (b0:Nat) (wv:Slc) (W0 W:World),w.heap.size≤W0.heap.size→BufB W b0 (.slice va p.length vc) split wv (bfStart p split)→Own SlcE 22 W W0.heap.size wv.v (List.replicate (p.length * bfN split) ⟨none,0,0⟩)→Below w.heap.size w W→bufRaw (.slice va p.length vc) p split w.heap.size W b0 (bfStart p split)):=hide fun b0 wv W0 W h0 h h2 hb=>bufRaw.start HP.out rfl h h2 hb
  clear hv hpl
  generalize hn:p.length=n at *
  clear hn
  go_enter Tryz.func60,Tryz.ntmps60
  go_wp2_with (first
   | (go_at_call 35;(with_reducible refine (HV.out _ HP.out).mono ?_);rintro e w1 ⟨rfl,hb1⟩;have B1:=hide hb1;rw [B.out];clear hb1)
   | (go_at_call 112;(with_reducible refine (HN.out w1).mono ?_);rintro e w2 ⟨b0,wv0,rfl,hx2,ho2,hb2⟩;have X2:=hide hx2;have O2:=hide ho2;have B2:=hide (B1.out.trans (hb2.mono B1.out.size));clear hx2 ho2 hb2)
   | (go_at_call 61;(with_reducible refine (HR.out b0 w.heap.size w2 B2.out.size (HRW.out b0 wv0 w1 w2 B1.out.size X2.out O2.out B2.out)).mono ?_);rintro e w3 ⟨cn,v,l,rfl,ho,hk,hm,hb3⟩;have F:Hid (OutsPost (n * 3+3) (bufO split p) w (.returned v) w3):=hide ⟨v,l,rfl,ho.mono B2.out.size,hk,fun o=>(hm o).trans ⟨fun ⟨s,h1,h2,h3⟩=>⟨B.out,s,(HRE.out s).1 h1,h2,h3⟩,fun ⟨_,s,h1,h2,h3⟩=>⟨s,(HRE.out s).2 h1,h2,h3⟩⟩,B2.out.trans (hb3.mono B2.out.size)⟩;clear ho hk hm hb3))
  go_ret2
  exact ⟨_,_,rfl,F.out⟩
theorem RunTso_any (vp:Value) (p:List (List Ins)) (w:World) (hp:RepP w vp p) (hl:p.flatten.length≤1048576) (hsort : @SortsTo (p.length * 3+3) 16777216) :
 Calls Tryz.prog 14 #[vp] w (OutsPost (p.length * 3+3) (bufO false p) w):=by
 have H:=hide (runBuffers_any vp p false w hp hl hsort)
 clear hp hsort
 generalize p.length=n at *
 go_enter Tryz.func14,Tryz.ntmps14
 go_wp2_with (go_at_call 60;(with_reducible refine H.out.mono ?_);rintro e w1 ⟨cn,v,rfl,h1⟩;have F:=hide h1;clear h1)
 go_ret
 exact F.out
theorem RunPso_any (vp:Value) (p:List (List Ins)) (w:World) (hp:RepP w vp p) (hl:p.flatten.length≤1048576) (hsort : @SortsTo (p.length * 3+3) 16777216) :
 Calls Tryz.prog 15 #[vp] w (OutsPost (p.length * 3+3) (bufO true p) w):=by
 have H:=hide (runBuffers_any vp p true w hp hl hsort)
 clear hp hsort
 generalize p.length=n at *
 go_enter Tryz.func15,Tryz.ntmps15
 go_wp2_with (go_at_call 60;(with_reducible refine H.out.mono ?_);rintro e w1 ⟨cn,v,rfl,h1⟩;have F:=hide h1;clear h1)
 go_ret
 exact F.out
end Go.Proofs.YtlddmagfbcomgaaGreat