/-
  The laws' marking of models. Condition: bounds on sizes.
-/
import Derived.Test.YtkfhgnkonaafgaaGreatDoorZx37
import Derived.Test.YtkfhgnkonaafgaaGreatDoorZx04
import Derived.Test.YtkfhgnkonaafgaaGreatDoorZx19
import Derived.Test.YtkfhgnkonaafgaaGreatDoorZx08
import Derived.Test.YtkfhgnkonaafgaaGreatDoorZx25
set_option maxHeartbeats 6400000
set_option maxRecDepth 100000
namespace Go.Proofs.YtkfhgnkonaafgaaGreatDoor
open Go.RowKit
end Go.Proofs.YtkfhgnkonaafgaaGreatDoor
namespace Go.Proofs.YtkfhgnkonaafgaaGreatDoor
open Go.RowKit
def Rlt (d d':Dd):Prop:=d.hi≤d'.lo
abbrev OwnMD (w:World) (base:Nat) (v:Value) (m:List Ru):Prop:=OwnF UsE 77 Rlt PhiM w base v m
theorem OwnMD.weak {w:World} {base:Nat} {v:Value} {m:List Ru} (h:OwnMD w base v m):OwnM w base v m:=by
 obtain ⟨us,ds,h⟩:=h
 exact ⟨us,ds,h.lu,h.ld,h.pw.imp fun _=>trivial,h.own,h.rows⟩
end Go.Proofs.YtkfhgnkonaafgaaGreatDoor
namespace Go.Proofs.YtkfhgnkonaafgaaGreatDoor
open Go.RowKit
inductive MkM:Int→List Ru→Int→Prop
 | nil {m:Int}:MkM m [] m
 | cons {m m1 m2:Int} {ks:List Re} {rest:List Ru} (h1:MkR (m+1+1+1) ks m1) (h2:MkM m1 rest m2):MkM m (⟨m, .mk (m+1) (mtB (m+1+1)) ks⟩ :: rest) m2
def dscM (m:List Ru):Nat:=(m.map fun r=>2 * descR r.e.kids+3).sum
theorem MkM.snoc {m m1 m2:Int} {xs:List Ru} {ks:List Re} (h:MkM m xs m1) (h1:MkR (m1+1+1+1) ks m2):MkM m (xs++[⟨m1, .mk (m1+1) (mtB (m1+1+1)) ks⟩]) m2:=by
 induction h with
 | nil=>exact .cons h1 .nil
 | cons a b ih2=>exact .cons a (ih2 h1)
theorem dscM_cons (r:Ru) (rest:List Ru):dscM (r :: rest)=2 * descR r.e.kids+3+dscM rest:=rfl
theorem MkM.le {m m':Int} {xs:List Ru} (h:MkM m xs m'):m'=m+(dscM xs:Nat):=by
 induction h with
 | nil=>simp [dscM]
 | cons a b ihb =>
  have:=a.le
  rw [dscM_cons]
  simp only [Re.kids]
  omega
theorem MkM.pos {m q:Int} {xs:List Ru} (h:MkM m xs q):m≤q:=by have:=h.le;omega
theorem dscM_take_succ {m:List Ru} {k:Nat} {r:Ru} (h:m[k]? = some r):dscM (m.take (k+1))=dscM (m.take k)+(2 * descR r.e.kids+3):=by
 unfold dscM
 rw [List.take_add_one,h]
 simp [List.map_append,List.sum_append]
theorem dscM_take_le (m:List Ru) (k:Nat):dscM (m.take k)≤dscM m:=by
 have:dscM m=dscM (m.take k)+dscM (m.drop k):=by
  conv=>lhs;rw [← List.take_append_drop k m]
  unfold dscM
  rw [List.map_append,List.sum_append]
 omega
theorem dscM_kid {m:List Ru} {k:Nat} {r:Ru} (h:m[k]? = some r):dscM (m.take k)+(2 * descR r.e.kids+3)≤dscM m:=by
 rw [← dscM_take_succ h];exact dscM_take_le _ _
theorem dscM_wt (m:List Ru):dscM m≤3 * wtM m:=by
 unfold dscM wtM
 induction m with
 | nil=>simp
 | cons r m ih =>
  have:=descR_le_wtR r.e.kids
  simp only [List.map_cons,List.sum_cons]
  omega
theorem OwnR.ne {U T:TypeId} (hT:U≠T) {w:World} {S:Nat→Prop} {s:Slc} {ks:List Re} {g:Nat} {a:Array Value} {fz:Nat × Nat} (hg:w.heap[g]? = some (.cells a T fz)) (h:OwnR U w S s ks):OwnR U w (fun q=>S q∧q≠g) s ks:=by
 induction h with
 | nil=>exact .nil
 | node C h1 h2 h3 h4 h5 h6 h7 h8 ih =>
  rename_i S g' n cap us ks
  refine .node (fun i q=>C i q∧q≠g) h1 h2 ⟨h3,fun e => ?_⟩ (fun i q hq=>⟨h4 i q hq.1,hq.2⟩) (fun i hq=>h5 i hq.1) (fun i j q a b=>h6 i j q a.1 b.1) h7 ih
  obtain ⟨b,hb⟩:=h2.typed (g:=g') rfl
  rw [e,hg] at hb
  simp only [Option.some.injEq,Obj.cells.injEq] at hb
  exact hT hb.2.1.symm
structure MkSm (w0 wr:World) (base H g n cap:Nat) (C:Nat→Nat→Prop) (ks:List Ru) (m:Int) (i:Nat) (q:Int) (us:List Us) (xs:List Ru):Prop where
 ul:us.length=n
 xl:xs.length=n
 own:Own UsE 77 wr base (.slice (some ⟨g,0,none⟩) n cap) us
 fld:∀ (j:Nat) (u:Us) (k:Ru),us[j]? = some u→xs[j]? = some k→u.kind=k.kind∧u.op=k.e.op∧u.nm=k.e.nm
 kid:∀ (j:Nat) (u:Us) (k:Ru),us[j]? = some u→xs[j]? = some k→OwnR 75 wr (C j) u.s k.e.kids
 mkd:MkM m (xs.take i) q
 ds:dscM (xs.take i)=dscM (ks.take i)
 dr:xs.drop i=ks.drop i
 out:Turn (fun b=>base≤b∧b < H) w0 wr
theorem MkSm.step {w0 wr w3 w2:World} {base H g n cap:Nat} {C:Nat→Nat→Prop} {ks:List Ru} {m:Int} {i:Nat} {q q2:Int} {us:List Us} {xs:List Ru} (h:MkSm w0 wr base H g n cap C ks m i q us xs)
 (c3:base≤g∧g < H) (c4:∀ i q,C i q→base≤q∧q < H) (c5:∀ i,¬ C i g) (c6:∀ i j q,C i q→C j q→i=j) {x:Ru} (hx:ks[i]? = some x) {u:Us} (hu:us[i]? = some u) {ks2:List Re}
 (ho3:Own UsE 77 w3 base (.slice (some ⟨g,0,none⟩) n cap) (us.set i ⟨q,q+1,mtB (q+1+1),u.s⟩)) (ht3:Turn (fun b=>b=g) wr w3)
 (hmk:MkR (q+1+1+1) ks2 q2) (hds:descR ks2=descR x.e.kids) (hown:OwnR 75 w2 (C i) u.s ks2) (hout:Turn (C i) w3 w2) :
 MkSm w0 w2 base H g n cap C ks m (i+1) q2 (us.set i ⟨q,q+1,mtB (q+1+1),u.s⟩) (xs.set i ⟨q, .mk (q+1) (mtB (q+1+1)) ks2⟩):=by
 have hiu:i < us.length:=(List.getElem?_eq_some_iff.1 hu).1
 have hix:i < xs.length:=by rw [h.xl,← h.ul];exact hiu
 refine ⟨by rw [List.length_set];exact h.ul,by rw [List.length_set];exact h.xl, ?_, ?_, ?_, ?_, ?_, ?_, ?_⟩
 ·exact hout.own ho3 (fun b hb=>by simp [Value.ownBlock] at hb;subst hb;exact c5 i)
 ·intro j v k hv hk
  rcases set_split us _ _ j v hv with ⟨e1,e2⟩ | ⟨e1,e2⟩
  ·rcases set_split xs _ _ j k hk with ⟨e3,e4⟩ | ⟨e3,e4⟩
   ·rw [e2,e4];exact ⟨rfl,rfl,rfl⟩
   ·exact absurd e1 e3
  ·rcases set_split xs _ _ j k hk with ⟨e3,e4⟩ | ⟨e3,e4⟩
   ·exact absurd e3 e1
   ·exact h.fld j v k e2 e4
 ·intro j v k hv hk
  rcases set_split us _ _ j v hv with ⟨e1,e2⟩ | ⟨e1,e2⟩
  ·rcases set_split xs _ _ j k hk with ⟨e3,e4⟩ | ⟨e3,e4⟩
   ·rw [e1,e2,e4];exact hown
   ·exact absurd e1 e3
  ·rcases set_split xs _ _ j k hk with ⟨e3,e4⟩ | ⟨e3,e4⟩
   ·exact absurd e3 e1
   ·refine ((h.kid j v k e2 e4).keep (fun b hb1 hb2=>ht3.block b hb2 (fun e=>c5 j (e ▸ hb1)))).keep (fun b hb1 hb2=>hout.block b hb2 (fun e=>e1 (c6 j i b hb1 e)))
 ·rw [List.take_add_one,List.getElem?_set,if_pos rfl,if_pos hix,List.take_set_of_le (Nat.le_refl _)]
  exact h.mkd.snoc hmk
 ·have e:(xs.set i (⟨q, .mk (q+1) (mtB (q+1+1)) ks2⟩:Ru))[i]? = some ⟨q, .mk (q+1) (mtB (q+1+1)) ks2⟩:=by rw [List.getElem?_set,if_pos rfl,if_pos hix]
  rw [dscM_take_succ e,dscM_take_succ hx,List.take_set_of_le (Nat.le_refl _),h.ds,← hds]
  rfl
 ·rw [List.drop_set_of_lt (Nat.lt_succ_self _)]
  have:=congrArg (List.drop 1) h.dr
  simpa [List.drop_drop] using this
 ·exact h.out.trans ((ht3.weak (fun b e=>e ▸ c3)).trans (hout.weak (c4 i)))
theorem MkSm.start {w:World} {base H g n cap:Nat} {us:List Us} {ds:List Dd} {m:List Ru} (h:OwnFU UsE 77 Rlt PhiM us ds w base (.slice (some ⟨g,0,none⟩) n cap) m) (hgH:g < H) (hle:∀ d∈ds,d.hi≤H) (k:Int) :
 ∃ (C:Nat→Nat→Prop),MkSm w w base H g n cap C m k 0 k us m∧(base≤g∧g < H)∧(∀ i q,C i q→base≤q∧q < H)∧(∀ i,¬ C i g)∧(∀ i j q,C i q→C j q→i=j):=by
 have hg:base≤g∧g < H:=⟨(World.ownsRow.lt h.own g rfl).1,hgH⟩
 have hn:=h.own.len
 obtain ⟨a,ha⟩:=h.own.typed (g:=g) rfl
 have hw:∀ (i j:Nat) (d d':Dd),i < j→ds[i]? = some d→ds[j]? = some d'→d.hi≤d'.lo:=by
  intro i j d d' hij h1 h2
  obtain ⟨l1,rfl⟩:=List.getElem?_eq_some_iff.1 h1
  obtain ⟨l2,rfl⟩:=List.getElem?_eq_some_iff.1 h2
  exact List.pairwise_iff_getElem.1 h.pw i j l1 l2 hij
 refine ⟨fun i q => ∃ d u r,ds[i]? = some d∧us[i]? = some u∧m[i]? = some r∧(d.lo≤q∧q < d.hi)∧q≠g,⟨hn.symm,by rw [hn,h.lu],h.own, ?_, ?_, .nil,rfl,rfl,Turn.refl _ _⟩,hg, ?_, ?_, ?_⟩
 ·intro j u r hu hr
  obtain ⟨d,hd⟩:=get_of_lt (xs:=ds) (k:=j) (by rw [h.ld];exact (List.getElem?_eq_some_iff.1 hr).1)
  obtain ⟨e1,e2,e3, -⟩:=(h.rows j u d r hu hd hr).2.now
  exact ⟨e1,e2,e3⟩
 ·intro j u r hu hr
  obtain ⟨d,hd⟩:=get_of_lt (xs:=ds) (k:=j) (by rw [h.ld];exact (List.getElem?_eq_some_iff.1 hr).1)
  obtain ⟨-, -, -,e4⟩:=(h.rows j u d r hu hd hr).2.now
  exact (e4.ne (by decide) ha).wide fun q hq=>⟨d,u,r,hd,hu,hr,hq.1,hq.2⟩
 ·rintro i q ⟨d,u,r,hd,hu,hr,hq, -⟩
  have h1:=(h.rows i u d r hu hd hr).1
  have h2:=hle d (List.mem_of_getElem? hd)
  omega
 ·rintro i ⟨d,u,r, -, -, -, -,hq⟩
  exact hq rfl
 ·rintro i j q ⟨d, -, -,hd, -, -,hq, -⟩ ⟨d', -, -,hd', -, -,hq', -⟩
  rcases Nat.lt_trichotomy i j with hij | hij | hij
  ·have:=hw i j d d' hij hd hd';omega
  ·exact hij
  ·have:=hw j i d' d hij hd' hd;omega
theorem MkSm.rep {w0 wr:World} {base H g n cap:Nat} {C:Nat→Nat→Prop} {ks:List Ru} {m:Int} {i:Nat} {q:Int} {us:List Us} {xs:List Ru} (h:MkSm w0 wr base H g n cap C ks m i q us xs):RepM 0 wr ⟨some ⟨g,0,none⟩,n,cap⟩ xs:=
 ⟨us,by rw [h.ul,h.xl],by have:=h.own.rep;exact this, .inr fun b o e=>Nat.zero_le _,fun j u r hu hr=>by
  obtain ⟨e1,e2,e3⟩:=h.fld j u r hu hr
  exact ⟨e1,e2,e3,(h.kid j u r hu hr).rep fun q _=>Nat.zero_le _⟩⟩
end Go.Proofs.YtkfhgnkonaafgaaGreatDoor
namespace Go.Proofs.YtkfhgnkonaafgaaGreatDoor
open Go.RowKit
theorem Own.us {T:TypeId} {w:World} {base g n cap:Nat} {xs:List Us} (h:Own UsE T w base (.slice (some ⟨g,0,none⟩) n cap) xs) {k:Nat} {x:Us} (hx:xs[k]? = some x) :
 g < w.heap.size∧w.cell? ⟨g,k * 4,none⟩=some (.int .i64 x.kind)∧w.cell? ⟨g,k * 4+1,none⟩=some (.int .i64 x.op)∧w.cell? ⟨g,k * 4+2,none⟩=some (.string x.nm) ∧
  w.cell? ⟨g,k * 4+3,none⟩=some (.slice x.s.a x.s.n x.s.cap)∧∀ j,w.frozen? ⟨g,j,none⟩=false:=
 ⟨(World.ownsRow.lt h g rfl).2,h.cell hx (j:=0) rfl,h.cell hx (j:=1) rfl,h.cell hx (j:=2) rfl,h.cell hx (j:=3) rfl,fun j=>h.frozen j⟩
theorem markRuleS_any (ks:List Ru) (base:Nat) (a:Option Addr) (n c:Nat) (m:Int) (w:World) (us:List Us) (ds:List Dd) (HH:Nat) (h:OwnFU UsE 77 Rlt PhiM us ds w base (.slice a n c) ks) (hgH:∀ g,(Value.slice a n c).ownBlock=some g→g < HH) (hle:∀ d∈ds,d.hi≤HH) (hm0:0≤m) (hm1:m+(dscM ks:Nat)≤1000000000) :
 Calls Tryz.prog 18 #[.slice a n c, .int .i64 m] w fun e w' => ∃ (q:Int) (xs:List Ru),e = .returned (.int .i64 q)∧MkM m xs q∧q≤1000000000∧RepM 0 w' ⟨a,n,c⟩ xs∧Turn (fun b=>base≤b∧b < HH) w w':=by
 rcases (show OwnMD w base (.slice a n c) ks from ⟨us,ds,h⟩).shape with ⟨he,rfl⟩ | ⟨g,cap,he, -, -⟩
 ·simp only [Value.slice.injEq] at he
  obtain ⟨rfl,rfl,rfl⟩:=he
  go_enter Tryz.func18,Tryz.ntmps18
  go_wp2_with fail
  go_loopw [1,5] (fun q i wr=>i = .int .i64 0∧q = .int .i64 m∧wr=w) (fun _ i _=>(intOf i).toNat)
  case atStart=>exact ⟨rfl,rfl,rfl⟩
  case round =>
   obtain ⟨rfl,rfl,rfl⟩:=hrel
   go_wp2_with fail
   go_ret
   exact ⟨m,[],rfl, .nil,by simp [dscM] at hm1;exact hm1,RepM.nil _ _,Turn.refl _ _⟩
 ·have hkl:ks.length=n:=(show OwnMD w base (.slice a n c) ks from ⟨us,ds,h⟩).weak.len
  simp only [Value.slice.injEq] at he
  obtain ⟨rfl, -,rfl⟩:=he
  obtain ⟨C,ST0,h3,h4,h5,h6⟩:=MkSm.start h (hgH g rfl) hle m
  have hcap:us.length≤c∧c≤maxLen:=by
   rcases ST0.own.shape with ⟨he, -⟩ | ⟨g',c',he, -, -,h9,h10⟩
   ·simp at he
   ·simp only [Value.slice.injEq] at he
    obtain ⟨-, -,rfl⟩:=he
    exact ⟨h9,h10⟩
  have hnc:n≤c:=by have:=ST0.ul;omega
  have hnb:n≤9223372036854775807:=by have:=hcap.2;unfold maxLen at this;omega
  have ST:=hide ST0
  have HD:=hide (fun i x hx=>dscM_kid (m:=ks) (k:=i) (r:=x) hx)
  have HKL:=hide hkl
  have H3:=hide h3;have H4:=hide h4;have H5:=hide h5;have H6:=hide h6
  clear h hgH hle ST0 h3 h4 h5 h6 hcap hkl
  go_enter Tryz.func18,Tryz.ntmps18
  go_wp2_with fail
  go_loopw [1,5] (fun q i wr => ∃ (k:Nat) (p:Int) (vs:List Us) (xs:List Ru),k≤n∧i = .int .i64 k∧q = .int .i64 p∧Hid (MkSm w wr base HH g n c C ks m k p vs xs)) (fun _ i _=>n - (intOf i).toNat)
  case atStart=>exact ⟨0,m,us,ks,Nat.zero_le _,rfl,rfl,ST⟩
  case round =>
   obtain ⟨k,p,vs,xs,hk,rfl,rfl,HS⟩:=hrel
   have hp:=HS.out.mkd.le
   rw [HS.out.ds] at hp
   by_cases hlt:k < n
   ·obtain ⟨x,hx⟩:=get_of_lt (xs:=ks) (k:=k) (by rw [HKL.out];exact hlt)
    obtain ⟨u,hu⟩:=get_of_lt (xs:=vs) (k:=k) (by rw [HS.out.ul];exact hlt)
    have hlt':=nat_of_lt hlt
    have hxx:xs[k]? = some x:=by
     have:=congrArg (fun l=>l[0]?) HS.out.dr
     simpa [List.getElem?_drop,hx] using this
    have hdk:=HD.out k x hx
    have hkid:=HS.out.kid k u x hu hxx
    obtain ⟨hgl,f0,f1,f2,f3,hfr⟩:=HS.out.own.us hu
    have hp0:0≤p:=by omega
    have hpb:p+2 * ((descR x.e.kids:Nat):Int)+3≤1000000000:=by omega
    obtain ⟨uk,uo,un,⟨sa,sn,sc⟩⟩:=u
    have HC:=hide (fun W hW=>markR_any x.e.kids (C k) sa sn sc (p+1+1+1) W hW (by omega) (by omega))
    have HKID:=hide hkid
    have HT:=hide (fun W=>markText_any (p+1+1) W (by omega) (by omega))
    have HX:=hide hx;have HU:=hide hu
    clear hx hu hxx hdk hkid hp
    go_wp2_with fail
    (with_reducible refine (HT.out _).mono ?_);rintro e w1 ⟨rfl,hb1⟩
    have HO0:=hide ((HS.out.own.set (i:=k) (j:=0) ⟨p,uo,un,⟨sa,sn,sc⟩⟩ (u:=.int .i64 p) (by decide) HU.out rfl).set (i:=k) (j:=1) ⟨p,p+1,un,⟨sa,sn,sc⟩⟩ (u:=.int .i64 (p+1)) (by decide) (get_set_self HU.out _) rfl)
    simp only [List.set_set,UsE,Nat.add_zero] at HO0
    have HO1:=hide (HO0.out.below hb1)
    have HU1:=hide (get_set_self HU.out (⟨p,p+1,un,⟨sa,sn,sc⟩⟩:Us))
    have HT1:=hide (((Turn.put (S:=fun b=>b=g) (w:=wr) rfl (k * 4) (.int .i64 p)).trans (Turn.put (S:=fun b=>b=g) rfl (k * 4+1) (.int .i64 (p+1)))).trans (Turn.of_below hb1))
    obtain ⟨hgl1,e0,e1,e2,e3,efr⟩:=HO1.out.us HU1.out
    have HO2:=hide (HO1.out.set (i:=k) (j:=2) ⟨p,p+1,mtB (p+1+1),⟨sa,sn,sc⟩⟩ (u:=.string (mtB (p+1+1))) (by decide) HU1.out rfl)
    simp only [List.set_set] at HO2
    have HT2:=hide (HT1.out.trans (Turn.put (S:=fun b=>b=g) (w:=w1) rfl (k * 4+2) (.string (mtB (p+1+1)))))
    have HC2:=hide (HC.out _ (HKID.out.keep fun b hb1 hb2=>HT2.out.block b hb2 (fun e=>H5.out k (e ▸ hb1))))
    clear hb1 HC HKID HT HT1 HO0 f0 f1 f2 f3 hgl hfr
    go_wp2_with fail
    (with_reducible refine HC2.out.mono ?_);rintro e w2 ⟨q2,ks2,rfl,hmk,hds,hown,hout⟩
    have HST:=hide (HS.out.step H3.out H4.out H5.out H6.out HX.out HU.out HO2.out HT2.out hmk hds hown hout)
    clear hmk hds hown hout HC2 HO1 HO2 HT2
    go_wp2_with fail
    go_roundw
    case rel=>exact ⟨k+1,q2,_,_,by omega,by go_num,rfl,HST⟩
    case measure=>simp [intOf];omega
   ·have e:k=n:=by omega
    subst e
    have hp1:p≤1000000000:=by
     have:=dscM_take_le ks k
     omega
    go_wp2_with fail
    go_ret
    refine ⟨p,xs,rfl, ?_,hp1,HS.out.rep,HS.out.out⟩
    have:=HS.out.mkd
    rwa [List.take_of_length_le (by rw [HS.out.xl];exact Nat.le_refl _)] at this
end Go.Proofs.YtkfhgnkonaafgaaGreatDoor