/-
  The laws' marking of expressions of relations. Condition: bounds on sizes.
-/
import Derived.Test.YtkfhgnkonaafgaaGreatDoorZx06
import Derived.Test.YtkfhgnkonaafgaaGreatDoorZx04
import Derived.Test.YtkfhgnkonaafgaaGreatDoorZx05
import Derived.Test.YtkfhgnkonaafgaaGreatDoorZx03
import Derived.Deep.LoopGhost
set_option maxHeartbeats 6400000
set_option maxRecDepth 100000
namespace Go.Proofs.YtkfhgnkonaafgaaGreatDoor
open Go.RowKit
theorem Tryz.infoRel:(Tryz.prog.info? 75).map (fun i=>(i.zero,i.size,i.bytes))=some (some (.agg #[.int .i64 0, .string ⟨#[]⟩, .slice none 0 0]),3,48):=by kernel_rfl
theorem Own.setRs {T:TypeId} {w:World} {base g n cap:Nat} {xs:List Rs} (h:Own RsE T w base (.slice (some ⟨g,0,none⟩) n cap) xs) {k:Nat} {z:Rs} (hz:xs[k]? = some z) (x:Rs) :
 Own RsE T (((w.setCell ⟨g,k * 3,none⟩ (.int .i64 x.op)).setCell ⟨g,k * 3+1,none⟩ (.string x.nm)).setCell ⟨g,k * 3+2,none⟩ (.slice x.s.a x.s.n x.s.cap)) base (.slice (some ⟨g,0,none⟩) n cap) (xs.set k x):=by
 have h0:=h.set (i:=k) (j:=0) ⟨x.op,z.nm,z.s⟩ (u:=.int .i64 x.op) (by decide) hz rfl
 have h1:=h0.set (i:=k) (j:=1) ⟨x.op,x.nm,z.s⟩ (u:=.string x.nm) (by decide) (get_set_self hz _) rfl
 have h2:=h1.set (i:=k) (j:=2) x (u:=.slice x.s.a x.s.n x.s.cap) (by decide) (get_set_self (get_set_self hz _) _) rfl
 simp only [List.set_set] at h2
 exact h2
theorem Own.rs {T:TypeId} {w:World} {base g n cap:Nat} {xs:List Rs} (h:Own RsE T w base (.slice (some ⟨g,0,none⟩) n cap) xs) {k:Nat} {x:Rs} (hx:xs[k]? = some x) :
 g < w.heap.size∧w.cell? ⟨g,k * 3,none⟩=some (.int .i64 x.op)∧w.cell? ⟨g,k * 3+1,none⟩=some (.string x.nm) ∧
  w.cell? ⟨g,k * 3+2,none⟩=some (.slice x.s.a x.s.n x.s.cap)∧∀ j,w.frozen? ⟨g,j,none⟩=false:=
 ⟨(World.ownsRow.lt h g rfl).2,h.cell hx (j:=0) rfl,h.cell hx (j:=1) rfl,h.cell hx (j:=2) rfl,fun j=>h.frozen j⟩
end Go.Proofs.YtkfhgnkonaafgaaGreatDoor
namespace Go.Proofs.YtkfhgnkonaafgaaGreatDoor
open Go.RowKit
inductive OwnR (T:TypeId) (w:World):(Nat→Prop)→Slc→List Re→Prop
 | nil {S:Nat→Prop}:OwnR T w S ⟨none,0,0⟩ []
 | node {S:Nat→Prop} {g n cap:Nat} {us:List Rs} {ks:List Re} (C:Nat→Nat→Prop) (h1:us.length=ks.length) (h2:Own RsE T w 0 (.slice (some ⟨g,0,none⟩) n cap) us) (h3:S g)
  (h4:∀ i q,C i q→S q) (h5:∀ i,¬ C i g) (h6:∀ i j q,C i q→C j q→i=j)
  (h7:∀ (i:Nat) (u:Rs) (k:Re),us[i]? = some u→ks[i]? = some k→u.op=k.op∧u.nm=k.nm)
  (h8:∀ (i:Nat) (u:Rs) (k:Re),us[i]? = some u→ks[i]? = some k→OwnR T w (C i) u.s k.kids) :
  OwnR T w S ⟨some ⟨g,0,none⟩,n,cap⟩ ks
theorem OwnR.keep {T:TypeId} {w w':World} {S:Nat→Prop} {s:Slc} {ks:List Re} (h:OwnR T w S s ks) (hk:∀ q,S q→q < w.heap.size→w'.heap[q]? = w.heap[q]?):OwnR T w' S s ks:=by
 induction h with
 | nil=>exact .nil
 | node C h1 h2 h3 h4 h5 h6 h7 h8 ih =>
  rename_i S g n cap us ks
  have hg:=World.ownsRow.lt h2 g rfl
  refine .node C h1 ?_ h3 h4 h5 h6 h7 (fun i u k hu hkk=>ih i u k hu hkk (fun q hq1 hq2=>hk q (h4 i q hq1) hq2))
  refine ⟨h2.1, ?_⟩
  rcases h2.2 with ⟨hn,_⟩ | ⟨g',cap',cur,hv,hb1,hgg,rest⟩
  ·simp at hn
  ·simp only [Value.slice.injEq,Option.some.injEq,Addr.mk.injEq,and_true] at hv
   obtain ⟨rfl,rfl,rfl⟩:=hv
   exact .inr ⟨g,cap,cur,rfl,hb1,(hk g h3 hg.2).trans hgg,rest⟩
theorem OwnR.bel {T:TypeId} {w w':World} {S:Nat→Prop} {s:Slc} {ks:List Re} (h:OwnR T w S s ks) (hb:Below w.heap.size w w'):OwnR T w' S s ks:=h.keep fun q _ hq=>hb.block q hq
theorem OwnR.set {T:TypeId} {w:World} {S:Nat→Prop} {s:Slc} {ks:List Re} (h:OwnR T w S s ks) {g:Nat} (hg:¬ S g) (j:Nat) (u:Value):OwnR T (w.setCell ⟨g,j,none⟩ u) S s ks:=
 h.keep fun q hq _=>heap_setCell_other w ⟨g,j,none⟩ q u (show q≠g from fun e=>hg (e ▸ hq))
theorem OwnR.wide {T:TypeId} {w:World} {S S':Nat→Prop} {s:Slc} {ks:List Re} (h:OwnR T w S s ks) (hs:∀ q,S q→S' q):OwnR T w S' s ks:=by
 cases h with
 | nil=>exact .nil
 | node C h1 h2 h3 h4 h5 h6 h7 h8=>exact .node C h1 h2 (hs _ h3) (fun i q hq=>hs q (h4 i q hq)) h5 h6 h7 h8
theorem OwnR.rep {T:TypeId} {w:World} {S:Nat→Prop} {s:Slc} {ks:List Re} {lo:Nat} (h:OwnR T w S s ks) (hl:∀ q,S q→lo≤q):RepRk lo w s ks:=by
 induction h with
 | nil=>exact RepRk.nil _ _
 | node C h1 h2 h3 h4 h5 h6 h7 h8 ih =>
  rename_i S g n cap us ks
  have hn:=h2.len
  subst hn
  refine ⟨us,h1,h2.rep, .inr fun b o e => ?_,fun i u k hu hkk => ?_⟩
  ·simp only [Option.some.injEq,Addr.mk.injEq,and_true] at e;rw [← e.1];exact hl g h3
  ·have hr:=ih i u k hu hkk (fun q hq=>hl q (h4 i q hq))
   obtain ⟨e1,e2⟩:=h7 i u k hu hkk
   have e:=hr.cond u.op u.nm
   rw [e1,e2,Re.eta] at e
   rw [← e1,← e2] at e
   exact e
def Made' (w w':World) (q:Nat):Prop:=w.heap.size≤q∧q < w'.heap.size
end Go.Proofs.YtkfhgnkonaafgaaGreatDoor
namespace Go.Proofs.YtkfhgnkonaafgaaGreatDoor
open Go.RowKit
inductive MkR:Int→List Re→Int→Prop
 | nil {m:Int}:MkR m [] m
 | cons {m m1 m2:Int} {ks rest:List Re} (h1:MkR (m+1+1) ks m1) (h2:MkR m1 rest m2):MkR m (.mk m (mtB (m+1)) ks :: rest) m2
theorem MkR.snoc {m m1 m2:Int} {xs ks:List Re} (h:MkR m xs m1) (h1:MkR (m1+1+1) ks m2):MkR m (xs++[.mk m1 (mtB (m1+1)) ks]) m2:=by
 induction h with
 | nil=>exact .cons h1 .nil
 | cons a b _ ih2=>exact .cons a (ih2 h1)
theorem descR_cons (k:Re) (rest:List Re):descR (k :: rest)=descR k.kids+1+descR rest:=by
 show ((k :: rest).map fun k=>k.desc+1).sum=_
 rw [List.map_cons,List.sum_cons,Re.desc_eq];rfl
theorem MkR.le {m m':Int} {xs:List Re} (h:MkR m xs m'):m'=m+2 * (descR xs:Nat):=by
 induction h with
 | nil=>simp [descR]
 | cons a b iha ihb =>
  rw [descR_cons]
  simp only [Re.kids]
  omega
structure Turn (S:Nat→Prop) (w w':World):Prop where
 os:w'.os=w.os
 tape:w'.tape=w.tape
 output:w'.output=w.output
 size:w.heap.size≤w'.heap.size
 block:∀ k,k < w.heap.size→¬ S k→w'.heap[k]? = w.heap[k]?
theorem Turn.refl (S:Nat→Prop) (w:World):Turn S w w:=⟨rfl,rfl,rfl,Nat.le_refl _,fun _ _ _=>rfl⟩
theorem Turn.trans {S:Nat→Prop} {a b c:World} (h:Turn S a b) (k:Turn S b c):Turn S a c:=
 ⟨k.os.trans h.os,k.tape.trans h.tape,k.output.trans h.output,Nat.le_trans h.size k.size,fun q hq hs=>(k.block q (Nat.lt_of_lt_of_le hq h.size) hs).trans (h.block q hq hs)⟩
theorem Turn.weak {S S':Nat→Prop} {w w':World} (h:Turn S w w') (hs:∀ q,S q→S' q):Turn S' w w':=⟨h.os,h.tape,h.output,h.size,fun q hq hn=>h.block q hq fun e=>hn (hs q e)⟩
theorem Turn.of_below {S:Nat→Prop} {w w':World} (h:Below w.heap.size w w'):Turn S w w':=⟨h.os,h.tape,h.output,h.size,fun q hq _=>h.block q hq⟩
theorem Turn.put {S:Nat→Prop} {w:World} {g:Nat} (hg:S g) (j:Nat) (u:Value):Turn S w (w.setCell ⟨g,j,none⟩ u):=
 ⟨rfl,rfl,rfl,by simp,fun q _ hn=>heap_setCell_other w ⟨g,j,none⟩ q u (show q≠g from fun e=>hn (e ▸ hg))⟩
theorem Turn.below {S:Nat→Prop} {w w':World} (h:Turn S w w') {B:Nat} (hs:∀ q,S q→B≤q) (hB:B≤w.heap.size):Below B w w':=
 ⟨h.os,h.tape,h.output,h.size,fun q hq=>h.block q (by omega) fun e=>by have:=hs q e;omega⟩
theorem Turn.own {α:Type} {E:El α} {T:TypeId} {S:Nat→Prop} {w w':World} (h:Turn S w w') {base:Nat} {v:Value} {xs:List α} (ho:Own E T w base v xs) (hn:∀ q,v.ownBlock=some q→¬ S q):Own E T w' base v xs:=by
 refine ⟨ho.1, ?_⟩
 rcases ho.2 with hv | ⟨g,cap,cur,rfl,hb1,hgg,rest⟩
 ·exact .inl hv
 ·exact .inr ⟨g,cap,cur,rfl,hb1,(h.block g (Array.getElem?_eq_some_iff.1 hgg).1 (hn g rfl)).trans hgg,rest⟩
structure MkSr (T:TypeId) (w0 wr:World) (S:Nat→Prop) (g n cap:Nat) (C:Nat→Nat→Prop) (ks:List Re) (m:Int) (i:Nat) (q:Int) (us:List Rs) (xs:List Re):Prop where
 ul:us.length=n
 xl:xs.length=n
 own:Own RsE T wr 0 (.slice (some ⟨g,0,none⟩) n cap) us
 fld:∀ (j:Nat) (u:Rs) (k:Re),us[j]? = some u→xs[j]? = some k→u.op=k.op∧u.nm=k.nm
 kid:∀ (j:Nat) (u:Rs) (k:Re),us[j]? = some u→xs[j]? = some k→OwnR T wr (C j) u.s k.kids
 mkd:MkR m (xs.take i) q
 ds:descR (xs.take i)=descR (ks.take i)
 dr:xs.drop i=ks.drop i
 out:Turn S w0 wr
theorem set_split {β:Type} (L:List β) (i:Nat) (c:β) (j:Nat) (v:β) (hv:(L.set i c)[j]? = some v):(j=i∧v=c)∨(j≠i∧L[j]? = some v):=by
 rw [List.getElem?_set] at hv
 by_cases e:i=j
 ·subst e
  rw [if_pos rfl] at hv
  split at hv
  ·simp at hv;exact .inl ⟨rfl,hv.symm⟩
  ·simp at hv
 ·rw [if_neg e] at hv;exact .inr ⟨fun h=>e h.symm,hv⟩
theorem MkSr.step {T:TypeId} {w0 wr w3 w2:World} {S:Nat→Prop} {g n cap:Nat} {C:Nat→Nat→Prop} {ks:List Re} {m:Int} {i:Nat} {q q2:Int} {us:List Rs} {xs:List Re} (h:MkSr T w0 wr S g n cap C ks m i q us xs)
 (c3:S g) (c4:∀ i q,C i q→S q) (c5:∀ i,¬ C i g) (c6:∀ i j q,C i q→C j q→i=j) {x:Re} (hx:ks[i]? = some x) {u:Rs} (hu:us[i]? = some u) {ks2:List Re}
 (ho3:Own RsE T w3 0 (.slice (some ⟨g,0,none⟩) n cap) (us.set i ⟨q,mtB (q+1),u.s⟩)) (ht3:Turn (fun b=>b=g) wr w3)
 (hmk:MkR (q+1+1) ks2 q2) (hds:descR ks2=descR x.kids) (hown:OwnR T w2 (C i) u.s ks2) (hout:Turn (C i) w3 w2) :
 MkSr T w0 w2 S g n cap C ks m (i+1) q2 (us.set i ⟨q,mtB (q+1),u.s⟩) (xs.set i (.mk q (mtB (q+1)) ks2)):=by
 have hiu:i < us.length:=(List.getElem?_eq_some_iff.1 hu).1
 have hix:i < xs.length:=by rw [h.xl,← h.ul];exact hiu
 refine ⟨by rw [List.length_set];exact h.ul,by rw [List.length_set];exact h.xl, ?_, ?_, ?_, ?_, ?_, ?_, ?_⟩
 ·exact hout.own ho3 (fun b hb=>by simp [Value.ownBlock] at hb;subst hb;exact c5 i)
 ·intro j v k hv hk
  rcases set_split us _ _ j v hv with ⟨e1,e2⟩ | ⟨e1,e2⟩
  ·rcases set_split xs _ _ j k hk with ⟨e3,e4⟩ | ⟨e3,e4⟩
   ·rw [e2,e4];exact ⟨rfl,rfl⟩
   ·exact absurd e1 e3
  ·rcases set_split xs _ _ j k hk with ⟨e3,e4⟩ | ⟨e3,e4⟩
   ·exact absurd e3 e1
   ·exact h.fld j v k e2 e4
 ·intro j v k hv hk
  rcases set_split us _ _ j v hv with ⟨e1,e2⟩ | ⟨e1,e2⟩
  ·rcases set_split xs _ _ j k hk with ⟨e3,e4⟩ | ⟨e3,e4⟩
   ·rw [e1,e2,e4];exact hown
   ·exact absurd e1 e3
  ·rcases set_split xs _ _ j k hk with ⟨e3,e4⟩ | ⟨e3,e4⟩
   ·exact absurd e3 e1
   ·refine ((h.kid j v k e2 e4).keep (fun b hb1 hb2=>ht3.block b hb2 (fun e=>c5 j (e ▸ hb1)))).keep (fun b hb1 hb2=>hout.block b hb2 (fun e=>e1 (c6 j i b hb1 e)))
 ·rw [List.take_add_one,List.getElem?_set,if_pos rfl,if_pos hix,List.take_set_of_le (Nat.le_refl _)]
  exact h.mkd.snoc hmk
 ·have e:(xs.set i (.mk q (mtB (q+1)) ks2))[i]? = some (.mk q (mtB (q+1)) ks2):=by rw [List.getElem?_set,if_pos rfl,if_pos hix]
  rw [descR_take_succ e,descR_take_succ hx,List.take_set_of_le (Nat.le_refl _),h.ds,← hds]
  rfl
 ·rw [List.drop_set_of_lt (Nat.lt_succ_self _)]
  have:=congrArg (List.drop 1) h.dr
  simpa [List.drop_drop] using this
 ·exact h.out.trans ((ht3.weak (fun b e=>e ▸ c3)).trans (hout.weak (c4 i)))
end Go.Proofs.YtkfhgnkonaafgaaGreatDoor
namespace Go.Proofs.YtkfhgnkonaafgaaGreatDoor
open Go.RowKit
def RetMr (T:TypeId) (S:Nat→Prop) (s:Slc) (ks:List Re) (m:Int) (w:World) (e:Ending) (w':World):Prop:=
 ∃ (q:Int) (xs:List Re),e = .returned (.int .i64 q)∧MkR m xs q∧descR xs=descR ks∧OwnR T w' S s xs∧Turn S w w'
def MarkR (ks:List Re):Prop:=∀ (S:Nat→Prop) (a:Option Addr) (n c:Nat) (m:Int) (w:World),OwnR 75 w S ⟨a,n,c⟩ ks→0≤m→m+2 * (descR ks:Nat)≤1000000000 →
 Calls Tryz.prog 49 #[.slice a n c, .int .i64 m] w (RetMr 75 S ⟨a,n,c⟩ ks m w)
theorem markR_any:∀ ks,MarkR ks:=Re.all (by
 intro ks ih S a n c m w h hm0 hm1
 cases h with
 | nil =>
  go_enter Tryz.func49,Tryz.ntmps49
  go_wp2_with fail
  go_loopw [1,5] (fun q i wr=>i = .int .i64 0∧q = .int .i64 m∧wr=w) (fun _ i _=>(intOf i).toNat)
  case atStart=>exact ⟨rfl,rfl,rfl⟩
  case round =>
   obtain ⟨rfl,rfl,rfl⟩:=hrel
   go_wp2_with fail
   go_ret
   exact ⟨m,[],rfl, .nil,rfl, .nil,Turn.refl _ _⟩
 | node C h1 h2 h3 h4 h5 h6 h7 h8 =>
  rename_i g us
  have hn:=h2.len
  have hcap:us.length≤c∧c≤maxLen:=by
   rcases h2.shape with ⟨he, -⟩ | ⟨g',c',he, -, -,h9,h10⟩
   ·simp at he
   ·simp only [Value.slice.injEq] at he
    obtain ⟨-, -,rfl⟩:=he
    exact ⟨h9,h10⟩
  have hnb:n≤9223372036854775807:=by have:=hcap.2;unfold maxLen at this;omega
  have ST:=hide (show MkSr 75 w w S g n c C ks m 0 m us ks from ⟨hn.symm,by rw [hn,h1],h2,h7,h8, .nil,rfl,rfl,Turn.refl _ _⟩)
  have IH:=hide ih
  have HD:=hide (fun i x hx=>descR_kid (ks:=ks) (k:=i) (x:=x) hx)
  have HKL:Hid (ks.length=n):=hide (by rw [hn,h1])
  have H3:=hide h3;have H4:=hide h4;have H5:=hide h5;have H6:=hide h6
  clear h1 h2 h7 h8 hn hcap ih h3 h4 h5 h6
  go_enter Tryz.func49,Tryz.ntmps49
  go_wp2_with fail
  go_loopw [1,5] (fun q i wr => ∃ (k:Nat) (p:Int) (vs:List Rs) (xs:List Re),k≤n∧i = .int .i64 k∧q = .int .i64 p∧Hid (MkSr 75 w wr S g n c C ks m k p vs xs)) (fun _ i _=>n - (intOf i).toNat)
  case atStart=>exact ⟨0,m,us,ks,Nat.zero_le _,rfl,rfl,ST⟩
  case round =>
   obtain ⟨k,p,vs,xs,hk,rfl,rfl,HS⟩:=hrel
   have hp:=HS.out.mkd.le
   rw [HS.out.ds] at hp
   by_cases hlt:k < n
   ·obtain ⟨x,hx⟩:=get_of_lt (xs:=ks) (k:=k) (by rw [HKL.out];exact hlt)
    obtain ⟨u,hu⟩:=get_of_lt (xs:=vs) (k:=k) (by rw [HS.out.ul];exact hlt)
    have hlt':=nat_of_lt hlt
    have hxx:xs[k]? = some x:=by
     have:=congrArg (fun l=>l[0]?) HS.out.dr
     simpa [List.getElem?_drop,hx] using this
    have hdk:=HD.out k x hx
    have hkid:=HS.out.kid k u x hu hxx
    obtain ⟨hgl,f0,f1,f2,hfr⟩:=HS.out.own.rs hu
    have hp0:0≤p:=by omega
    have hpb:p+2 * ((descR x.kids:Nat):Int)+2≤1000000000:=by omega
    obtain ⟨uo,un,⟨sa,sn,sc⟩⟩:=u
    have HC:=hide (fun W hW=>IH.out x (List.mem_of_getElem? hx) (C k) sa sn sc (p+1+1) W hW (by omega) (by omega))
    have HKID:=hide hkid
    have HT:=hide (fun W=>markText_any (p+1) W (by omega) (by omega))
    have HX:=hide hx;have HU:=hide hu
    clear hx hu hxx hdk hkid hp
    go_wp2_with fail
    (with_reducible refine (HT.out _).mono ?_);rintro e w1 ⟨rfl,hb1⟩
    have HO1:=hide ((HS.out.own.set (i:=k) (j:=0) ⟨p,un,⟨sa,sn,sc⟩⟩ (u:=.int .i64 p) (by decide) HU.out rfl).below hb1)
    have HU1:=hide (get_set_self HU.out (⟨p,un,⟨sa,sn,sc⟩⟩:Rs))
    have HT1:=hide ((Turn.put (S:=fun b=>b=g) (w:=wr) rfl (k * 3) (.int .i64 p)).trans (Turn.of_below hb1))
    simp only [RsE] at HO1
    obtain ⟨hgl1,e0,e1,e2,efr⟩:=HO1.out.rs HU1.out
    have HO2:=hide (HO1.out.set (i:=k) (j:=1) ⟨p,mtB (p+1),⟨sa,sn,sc⟩⟩ (u:=.string (mtB (p+1))) (by decide) HU1.out rfl)
    simp only [List.set_set] at HO2
    have HT2:=hide (HT1.out.trans (Turn.put (S:=fun b=>b=g) (w:=w1) rfl (k * 3+1) (.string (mtB (p+1)))))
    have HC2:=hide (HC.out _ (HKID.out.keep fun b hb1 hb2=>HT2.out.block b hb2 (fun e=>H5.out k (e ▸ hb1))))
    clear hb1 HC HKID HT HT1 f0 f1 f2 hgl hfr
    go_wp2_with fail
    (with_reducible refine HC2.out.mono ?_);rintro e w2 ⟨q2,ks2,rfl,hmk,hds,hown,hout⟩
    have HST:=hide (HS.out.step H3.out H4.out H5.out H6.out HX.out HU.out HO2.out HT2.out hmk hds hown hout)
    clear hmk hds hown hout HC2 HO1 HO2 HT2
    go_wp2_with fail
    go_roundw
    case rel=>exact ⟨k+1,q2,_,_,by omega,by go_num,rfl,HST⟩
    case measure=>simp [intOf];omega
   ·have e:k=n:=by omega
    subst e
    go_wp2_with fail
    go_ret
    refine ⟨p,xs,rfl, ?_, ?_, ?_,HS.out.out⟩
    ·have:=HS.out.mkd
     rwa [List.take_of_length_le (by rw [HS.out.xl];exact Nat.le_refl _)] at this
    ·have:=HS.out.ds
     rwa [List.take_of_length_le (by rw [HS.out.xl];exact Nat.le_refl _),List.take_of_length_le (by rw [HKL.out];exact Nat.le_refl _)] at this
    ·exact .node C (by rw [HS.out.ul,HS.out.xl]) HS.out.own H3.out H4.out H5.out H6.out HS.out.fld HS.out.kid)
end Go.Proofs.YtkfhgnkonaafgaaGreatDoor