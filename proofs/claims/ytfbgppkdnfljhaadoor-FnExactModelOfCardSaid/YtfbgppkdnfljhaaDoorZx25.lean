/-
  The walk of FnExactModelOf: it answers true and turns nothing that was there. No condition but the listed variables' cells.
-/
import Derived.Test.YtfbgppkdnfljhaaDoorZx23
import Derived.Test.YtfbgppkdnfljhaaDoorZx24
import Derived.Test.YtfbgppkdnfljhaaDoorZx09
import Derived.Test.YtfbgppkdnfljhaaDoorZx14
import Derived.Test.YtfbgppkdnfljhaaDoorZx17
import Derived.Test.YtfbgppkdnfljhaaDoorZx10
set_option maxHeartbeats 6400000
set_option maxRecDepth 100000
namespace Go.Proofs.YtfbgppkdnfljhaaDoor
open Go.RowKit
theorem word_at {k:Int} (h:k=1∨k=2∨k=3):∃ q:Nat,k=(q:Int)∧1≤q∧q≤3∧wordsR[q]? = some (wordR k)∧∀ j z,j < q→wordsR[j]? = some z→((wordR k).toList==z.toList)=false:=by
 rcases h with rfl | rfl | rfl
 ·refine ⟨1,rfl,by decide,by decide,rfl,fun j z hj hz => ?_⟩
  have:j=0:=by omega
  subst this;cases hz;decide +kernel
 ·refine ⟨2,rfl,by decide,by decide,rfl,fun j z hj hz => ?_⟩
  have:j=0∨j=1:=by omega
  rcases this with rfl | rfl <;> (cases hz;decide +kernel)
 ·refine ⟨3,rfl,by decide,by decide,rfl,fun j z hj hz => ?_⟩
  have:j=0∨j=1∨j=2:=by omega
  rcases this with rfl | rfl | rfl <;> (cases hz;decide +kernel)
def Rlt (d d':Dd):Prop:=d.hi≤d'.lo
abbrev OwnMD (w:World) (base:Nat) (v:Value) (m:List Ru):Prop:=OwnF UsE 40 Rlt PhiM w base v m
theorem OwnMD.weak {w:World} {base:Nat} {v:Value} {m:List Ru} (h:OwnMD w base v m):OwnM w base v m:=by
 obtain ⟨us,ds,h⟩:=h
 exact ⟨us,ds,h.lu,h.ld,h.pw.imp fun _=>trivial,h.own,h.rows⟩
def RetPMD (w:World) (m:List Ru) (e:Ending) (w':World):Prop:=∃ v,e = .returned (.tuple #[v, .bool true])∧OwnMD w' w.heap.size v m∧Below w.heap.size w w'
theorem ParseModel_okD (s:ByteArray) (m:List Ru) (hg:GoodMI s m) (w:World) (hgl:Glob w) (hg2:Glob2 w):Calls Tryd.prog 17 #[.string s] w (RetPMD w m):=by
 obtain ⟨hsz,hlen,hpart,hok,htx,hwt⟩:=hg
 have hml:1≤m.length∧m.length≤5:=by
  unfold modelOk at hok
  simp only [Bool.and_eq_true,decide_eq_true_eq,List.all_eq_true] at hok
  exact ⟨hok.1,hok.2.1⟩
 obtain ⟨hm1,hm5⟩:=hml
 have HC1:=hide (strSplit_one s 47 w hsz)
 have HT:=hide (fun (a:Option Addr) (n c:Nat) (W:World) (h:RepM 0 W ⟨a,n,c⟩ m) g1 g2=>FormatModel_any a n c m W h hok g1 g2)
 rw [htx] at HT
 have hss:(s.toList==s.toList)=true:=by simp
 have HP:=hide hpart
 have HL:Hid (m.length=(piecesM s).length):=hide hlen.symm
 have HG:=hide hgl;have HG2:=hide hg2
 clear hpart hok htx hwt hlen hgl hg2
 have HC1':Hid (Calls Tryd.prog 28 #[.string s, .string ⟨#[47]⟩] w (RetOwn StrE 9 w (piecesM s))):=HC1
 clear HC1
 generalize piecesM s=ps at *
 generalize hn:m.length=n at *
 have HN:=hide hn
 have HPN:Hid (ps.length=n):=hide HL.out.symm
 clear hn HL
 go_enter Tryd.func17,Tryd.ntmps17
 go_wp2_with fail
 (with_reducible refine HC1'.out.mono ?_);rintro e w1 ⟨v5,rfl,ho5,hb1⟩
 have HB1:=hide hb1
 rcases ho5.shape with ⟨-,h0⟩ | ⟨g5,c5,rfl,hg5,hgl5,hc5,hc5'⟩
 ·exfalso;have:=HPN.out;rw [h0] at this;simp at this;omega
 rw [HPN.out] at ho5 hc5 ⊢
 have HPS:=hide (LocR.own (T:=40) (by decide) ho5)
 have HO1:=hide (OwnF.nil (E:=UsE) (R:=Rlt) (φ:=PhiM) 40 w1 w.heap.size)
 clear ho5 hb1
 go_wp2_with fail
 go_loopw [4,16] (fun v i wr => ∃ (k:Nat) (a:Option Addr) (nn cc:Nat),i = .int .i64 k∧k≤n∧v = .slice a nn cc∧OwnMD wr w.heap.size (.slice a nn cc) (m.take k)∧Below w.heap.size w wr∧LocR 40 w.heap.size w1.heap.size wr (fun W=>Own StrE 9 W w.heap.size (.slice (some ⟨g5,0,none⟩) n c5) ps)) (fun _ i _=>n - (intOf i).toNat)
 case atStart=>exact ⟨0,_,0,0,rfl,Nat.zero_le _,rfl,HO1.out,HB1.out,HPS.out⟩
 case round =>
  obtain ⟨k,a4,n4,c4,rfl,hk,rfl,ho,hb,hps⟩:=hrel
  have hki:(k:Int)≤5:=by omega
  by_cases hlt:k < n
  ·have hlt':=nat_of_lt hlt
   obtain ⟨x,hx⟩:=get_of_lt (xs:=ps) (k:=k) (by rw [HPN.out];exact hlt)
   obtain ⟨r,hr⟩:=get_of_lt (xs:=m) (k:=k) (by rw [HN.out];exact hlt)
   obtain ⟨hxs,t,hct,hpt,hvt,htt,ht0,ht3,hkd⟩:=HP.out k x r hx hr
   have cx:=hps.now.cell (j:=0) (u:=.string x) hx rfl
   simp only [StrE,Nat.mul_one,Nat.add_zero] at cx
   have cl:=lt_of_cell cx
   have HC2:=hide (fun W=>strCut_one x 32 W hxs)
   rw [hct] at HC2
   have HPE:=hide (fun W hg=>ParseRelExpr_ok t ht3 60 r.e hpt hvt htt ht0 W hg)
   obtain ⟨q,hq,hq1,hq3,hqw,hqn⟩:=word_at hkd
   have HIX:=hide (fun W (h:Rep StrE W (.slice (some ⟨0,0,none⟩) 4 4) wordsR)=>IndexS_at _ wordsR (wordR r.kind) (wordR r.kind) q W h hqw (by simp) hqn)
   have HQ:=hide hq
   have HPS2:=hide hps
   have HO:=hide ho
   have HB:=hide hb
   have HR:=hide hr
   have hqz:decide ((q:Int) < 1)=false:=decide_eq_false (by omega)
   have hq5:q≤3:=hq3
   clear hct hpt hvt htt hq hps ho hb hx hr hxs hkd hqw hqn
   generalize wordR r.kind=wd at *
   go_wp2_with fail
   (with_reducible refine (HC2.out _).mono ?_);rintro e w2 ⟨rfl,hb2⟩
   have HB2:=hide (HB.out.trans (hb2.mono HB.out.size))
   have HBr2:=hide hb2
   clear hb2 cx cl
   go_wp2_with fail
   (with_reducible refine (HIX.out _ (HG2.out.below HB2.out).rep).mono ?_);rintro e w3 ⟨rfl,rfl⟩
   go_wp2_with fail
   (with_reducible refine (HPE.out _ (HG.out.below HB2.out)).mono ?_);rintro e w5 ⟨s5,rfl,own,hb5⟩
   have HA5:=belowAlloc w5 (.cells #[.int .i64 r.e.op, .string r.e.nm, .slice s5.a s5.n s5.cap] 38)
   have hsz5:=hb5.size
   have hszr:=HBr2.out.size
   have hsw:=HB.out.size
   have HBr6:=hide (HBr2.out.trans ((hb5.trans (HA5.mono hsz5)).mono hszr))
   have BX:=hide (BoxR.new w5 r.e.op r.e.nm s5 38)
   have OWN:=hide (own.bel HA5)
   have hz6:(w5.alloc (.cells #[.int .i64 r.e.op, .string r.e.nm, .slice s5.a s5.n s5.cap] 38)).heap.size=w5.heap.size+1:=by simp
   obtain ⟨us,ds,hO⟩:=HO.out
   have HHI:=hide (fun d hd=>hO.hi d hd)
   have HO7:=hide (hO.below HBr6.out)
   have HPS7:=hide (HPS2.out.below HBr6.out)
   have hlu:us.length≤68719476736:=by have:=hO.lu;rw [List.length_take] at this;have:=HN.out;omega
   clear hO own hb5 HA5
   generalize hW6:w5.alloc (.cells #[.int .i64 r.e.op, .string r.e.nm, .slice s5.a s5.n s5.cap] 38)=w6 at *
   obtain ⟨el,e0,e1,e2, -⟩:=BX.out
   have HO2:=hide (HO7.out.below (belowAlloc w6 (.cells #[.int .i64 q, .int .i64 r.e.op, .string r.e.nm, .slice s5.a s5.n s5.cap] 40)))
   go_wp2_with (at_builtin;refine wpList_app UsE 40 Tryd.infoRule rfl Tryd.underlying25 w.heap.size _ us ⟨q,r.e.op,r.e.nm,s5⟩ HO2.out.own (by decide) hlu (by simp;omega) rfl _ _ rfl rfl (w5.heap.size+1) 0 1 rfl (news_allocV hz6) ?_;intro v' w8 ho8 hgr8)
   clear hW6
   have hq:=HQ.out
   rw [← hq] at ho8
   have hb8:=below_app (HB.out.trans (HBr6.out.mono HB.out.size)) HO7.out.own hgr8
   have hl8:=(HPS7.out.below (belowAlloc _ _)).grown HO2.out.own hgr8
   have hn8:=OwnR.locM (lo:=w2.heap.size) (hi:=w5.heap.size) (r:=r) (OWN.out.bel (belowAlloc _ (.cells #[.int .i64 q, .int .i64 r.e.op, .string r.e.nm, .slice s5.a s5.n s5.cap] 40))) (by simp;omega)
   have hm8:OwnMD w8 w.heap.size v' (m.take k++[r]):=⟨_,_,OwnFU.app (d:=⟨w2.heap.size,w5.heap.size,[]⟩) HO2.out ho8 hgr8 (show w.heap.size≤w2.heap.size by omega) hn8 (fun d hd=>Nat.le_trans (HHI.out d hd) hszr)⟩
   rw [show m.take k++[r]=m.take (k+1) by rw [List.take_add_one,HR.out];rfl] at hm8
   obtain ⟨s8,rfl, -⟩:=hm8.weak.toSlc
   go_roundw
   case rel=>exact ⟨k+1,s8.a,s8.n,s8.cap,by go_num,by omega,rfl,hm8,hb8,hl8⟩
   case measure=>simp [intOf];omega
  ·have hkn:k=n:=by omega
   have hkf:¬ (k:Int) < (n:Int):=by omega
   rw [hkn,← HN.out,List.take_length] at ho
   have hrp:=ho.weak.rep
   have HTT:=hide (HT.out a4 n4 c4 wr (hrp.low (Nat.zero_le _)) (HG.out.below hb) (HG2.out.below hb))
   have HO:=hide ho
   have HB:=hide hb
   clear hrp ho hb hps hkn hlt
   go_wp2_with fail
   (with_reducible refine HTT.out.mono ?_);rintro e w3 ⟨rfl,hb3⟩
   have HB3:=hide (HB.out.trans (hb3.mono HB.out.size))
   have HO3:=hide (OwnF.below HO.out hb3)
   clear hb3
   go_wp2_with fail
   refine bodyPost_ret (v:=.tuple #[.slice a4 n4 c4, .bool true]) (by simp [results,Tryd.results17,go_sem, *]) rfl ⟨_,rfl,HO3.out,HB3.out⟩
end Go.Proofs.YtfbgppkdnfljhaaDoor
namespace Go.Proofs.YtfbgppkdnfljhaaDoor
open Go.RowKit
theorem ModelText_seq (w:World):Calls Tryd.prog 6 #[.string ⟨#[115,101,113]⟩] w fun e w'=>e = .returned (.string txSeq)∧w=w':=by
 have n0:((⟨#[115,101,113]⟩:ByteArray).toList==[115,101,113])=true:=by kernel_rfl
 go_enter Tryd.func6,Tryd.ntmps6
 go_wp2_with fail
 go_ret
 exact ⟨rfl,rfl⟩
theorem ModelText_tso (w:World):Calls Tryd.prog 6 #[.string ⟨#[116,115,111]⟩] w fun e w'=>e = .returned (.string txTso)∧w=w':=by
 have n0:((⟨#[116,115,111]⟩:ByteArray).toList==[115,101,113])=false:=by kernel_rfl
 have n1:((⟨#[116,115,111]⟩:ByteArray).toList==[116,115,111])=true:=by kernel_rfl
 go_enter Tryd.func6,Tryd.ntmps6
 go_wp2_with fail
 go_ret
 exact ⟨rfl,rfl⟩
theorem ModelText_pso (w:World):Calls Tryd.prog 6 #[.string ⟨#[112,115,111]⟩] w fun e w'=>e = .returned (.string txPso)∧w=w':=by
 have n0:((⟨#[112,115,111]⟩:ByteArray).toList==[115,101,113])=false:=by kernel_rfl
 have n1:((⟨#[112,115,111]⟩:ByteArray).toList==[116,115,111])=false:=by kernel_rfl
 have n2:((⟨#[112,115,111]⟩:ByteArray).toList==[112,115,111])=true:=by kernel_rfl
 go_enter Tryd.func6,Tryd.ntmps6
 go_wp2_with fail
 go_ret
 exact ⟨rfl,rfl⟩
theorem ModelText_ra (w:World):Calls Tryd.prog 6 #[.string ⟨#[114,97]⟩] w fun e w'=>e = .returned (.string txRa)∧w=w':=by
 have n0:((⟨#[114,97]⟩:ByteArray).toList==[115,101,113])=false:=by kernel_rfl
 have n1:((⟨#[114,97]⟩:ByteArray).toList==[116,115,111])=false:=by kernel_rfl
 have n2:((⟨#[114,97]⟩:ByteArray).toList==[112,115,111])=false:=by kernel_rfl
 have n3:((⟨#[114,97]⟩:ByteArray).toList==[114,97])=true:=by kernel_rfl
 go_enter Tryd.func6,Tryd.ntmps6
 go_wp2_with fail
 go_ret
 exact ⟨rfl,rfl⟩
theorem ModelText_loc (w:World):Calls Tryd.prog 6 #[.string ⟨#[108,111,99]⟩] w fun e w'=>e = .returned (.string txLoc)∧w=w':=by
 have n0:((⟨#[108,111,99]⟩:ByteArray).toList==[115,101,113])=false:=by kernel_rfl
 have n1:((⟨#[108,111,99]⟩:ByteArray).toList==[116,115,111])=false:=by kernel_rfl
 have n2:((⟨#[108,111,99]⟩:ByteArray).toList==[112,115,111])=false:=by kernel_rfl
 have n3:((⟨#[108,111,99]⟩:ByteArray).toList==[114,97])=false:=by kernel_rfl
 have n4:((⟨#[108,111,99]⟩:ByteArray).toList==[108,111,99])=true:=by kernel_rfl
 go_enter Tryd.func6,Tryd.ntmps6
 go_wp2_with fail
 go_ret
 exact ⟨rfl,rfl⟩
theorem ModelOf_ofD (nm tx:ByteArray) (m:List Ru) (hm:GoodMI tx m) (ht:∀ w,Calls Tryd.prog 6 #[.string nm] w fun e w'=>e = .returned (.string tx)∧w=w') (w:World) (hg:Glob w) (hg2:Glob2 w):Calls Tryd.prog 7 #[.string nm] w (RetPMD w m):=by
 have HT:=hide (ht w)
 have HP:=hide (ParseModel_okD tx m hm w hg hg2)
 clear hm ht hg hg2
 go_enter Tryd.func7,Tryd.ntmps7
 go_wp2_with fail
 (with_reducible refine HT.out.mono ?_);rintro e w1 ⟨rfl,rfl⟩
 go_wp2_with fail
 (with_reducible refine HP.out.mono ?_);rintro e w2 ⟨v,rfl,ho,hb⟩
 have HO:=hide ho;have HB:=hide hb
 clear ho hb
 obtain ⟨s,rfl, -⟩:=HO.out.weak.toSlc
 go_wp2_with fail
 refine bodyPost_ret (v:=.tuple #[.slice s.a s.n s.cap, .bool true]) (by simp [results,Tryd.results7,go_sem, *]) rfl ⟨_,rfl,HO.out,HB.out⟩
end Go.Proofs.YtfbgppkdnfljhaaDoor
namespace Go.Proofs.YtfbgppkdnfljhaaDoor
open Go.RowKit
inductive MkM:Int→List Ru→Int→Prop
 | nil {m:Int}:MkM m [] m
 | cons {m m1 m2:Int} {ks:List Re} {rest:List Ru} (h1:MkR (m+1+1+1) ks m1) (h2:MkM m1 rest m2):MkM m (⟨m, .mk (m+1) (mtB (m+1+1)) ks⟩ :: rest) m2
def dscM (m:List Ru):Nat:=(m.map fun r=>2 * descR r.e.kids+3).sum
theorem MkM.snoc {m m1 m2:Int} {xs:List Ru} {ks:List Re} (h:MkM m xs m1) (h1:MkR (m1+1+1+1) ks m2):MkM m (xs++[⟨m1, .mk (m1+1) (mtB (m1+1+1)) ks⟩]) m2:=by
 induction h with
 | nil=>exact .cons h1 .nil
 | cons a b ih2=>exact .cons a (ih2 h1)
theorem dscM_cons (r:Ru) (rest:List Ru):dscM (r :: rest)=2 * descR r.e.kids+3+dscM rest:=rfl
theorem MkM.le {m m':Int} {xs:List Ru} (h:MkM m xs m'):m'=m+(dscM xs:Nat):=by
 induction h with
 | nil=>simp [dscM]
 | cons a b ihb =>
  have:=a.le
  rw [dscM_cons]
  simp only [Re.kids]
  omega
theorem MkM.pos {m q:Int} {xs:List Ru} (h:MkM m xs q):m≤q:=by have:=h.le;omega
theorem dscM_take_succ {m:List Ru} {k:Nat} {r:Ru} (h:m[k]? = some r):dscM (m.take (k+1))=dscM (m.take k)+(2 * descR r.e.kids+3):=by
 unfold dscM
 rw [List.take_add_one,h]
 simp [List.map_append,List.sum_append]
theorem dscM_take_le (m:List Ru) (k:Nat):dscM (m.take k)≤dscM m:=by
 have:dscM m=dscM (m.take k)+dscM (m.drop k):=by
  conv=>lhs;rw [← List.take_append_drop k m]
  unfold dscM
  rw [List.map_append,List.sum_append]
 omega
theorem dscM_kid {m:List Ru} {k:Nat} {r:Ru} (h:m[k]? = some r):dscM (m.take k)+(2 * descR r.e.kids+3)≤dscM m:=by
 rw [← dscM_take_succ h];exact dscM_take_le _ _
theorem dscM_wt (m:List Ru):dscM m≤3 * wtM m:=by
 unfold dscM wtM
 induction m with
 | nil=>simp
 | cons r m ih =>
  have:=descR_le_wtR r.e.kids
  simp only [List.map_cons,List.sum_cons]
  omega
theorem OwnR.ne {U T:TypeId} (hT:U≠T) {w:World} {S:Nat→Prop} {s:Slc} {ks:List Re} {g:Nat} {a:Array Value} {fz:Nat × Nat} (hg:w.heap[g]? = some (.cells a T fz)) (h:OwnR U w S s ks):OwnR U w (fun q=>S q∧q≠g) s ks:=by
 induction h with
 | nil=>exact .nil
 | node C h1 h2 h3 h4 h5 h6 h7 h8 ih =>
  rename_i S g' n cap us ks
  refine .node (fun i q=>C i q∧q≠g) h1 h2 ⟨h3,fun e => ?_⟩ (fun i q hq=>⟨h4 i q hq.1,hq.2⟩) (fun i hq=>h5 i hq.1) (fun i j q a b=>h6 i j q a.1 b.1) h7 ih
  obtain ⟨b,hb⟩:=h2.typed (g:=g') rfl
  rw [e,hg] at hb
  simp only [Option.some.injEq,Obj.cells.injEq] at hb
  exact hT hb.2.1.symm
structure MkSm (w0 wr:World) (base g n cap:Nat) (C:Nat→Nat→Prop) (ks:List Ru) (m:Int) (i:Nat) (q:Int) (us:List Us) (xs:List Ru):Prop where
 ul:us.length=n
 xl:xs.length=n
 own:Own UsE 40 wr base (.slice (some ⟨g,0,none⟩) n cap) us
 fld:∀ (j:Nat) (u:Us) (k:Ru),us[j]? = some u→xs[j]? = some k→u.kind=k.kind∧u.op=k.e.op∧u.nm=k.e.nm
 kid:∀ (j:Nat) (u:Us) (k:Ru),us[j]? = some u→xs[j]? = some k→OwnR 38 wr (C j) u.s k.e.kids
 mkd:MkM m (xs.take i) q
 ds:dscM (xs.take i)=dscM (ks.take i)
 dr:xs.drop i=ks.drop i
 out:Turn (fun b=>base≤b) w0 wr
theorem MkSm.step {w0 wr w3 w2:World} {base g n cap:Nat} {C:Nat→Nat→Prop} {ks:List Ru} {m:Int} {i:Nat} {q q2:Int} {us:List Us} {xs:List Ru} (h:MkSm w0 wr base g n cap C ks m i q us xs)
 (c3:base≤g) (c4:∀ i q,C i q→base≤q) (c5:∀ i,¬ C i g) (c6:∀ i j q,C i q→C j q→i=j) {x:Ru} (hx:ks[i]? = some x) {u:Us} (hu:us[i]? = some u) {ks2:List Re}
 (ho3:Own UsE 40 w3 base (.slice (some ⟨g,0,none⟩) n cap) (us.set i ⟨q,q+1,mtB (q+1+1),u.s⟩)) (ht3:Turn (fun b=>b=g) wr w3)
 (hmk:MkR (q+1+1+1) ks2 q2) (hds:descR ks2=descR x.e.kids) (hown:OwnR 38 w2 (C i) u.s ks2) (hout:Turn (C i) w3 w2) :
 MkSm w0 w2 base g n cap C ks m (i+1) q2 (us.set i ⟨q,q+1,mtB (q+1+1),u.s⟩) (xs.set i ⟨q, .mk (q+1) (mtB (q+1+1)) ks2⟩):=by
 have hiu:i < us.length:=(List.getElem?_eq_some_iff.1 hu).1
 have hix:i < xs.length:=by rw [h.xl,← h.ul];exact hiu
 refine ⟨by rw [List.length_set];exact h.ul,by rw [List.length_set];exact h.xl, ?_, ?_, ?_, ?_, ?_, ?_, ?_⟩
 ·exact hout.own ho3 (fun b hb=>by simp [Value.ownBlock] at hb;subst hb;exact c5 i)
 ·intro j v k hv hk
  rcases set_split us _ _ j v hv with ⟨e1,e2⟩ | ⟨e1,e2⟩
  ·rcases set_split xs _ _ j k hk with ⟨e3,e4⟩ | ⟨e3,e4⟩
   ·rw [e2,e4];exact ⟨rfl,rfl,rfl⟩
   ·exact absurd e1 e3
  ·rcases set_split xs _ _ j k hk with ⟨e3,e4⟩ | ⟨e3,e4⟩
   ·exact absurd e3 e1
   ·exact h.fld j v k e2 e4
 ·intro j v k hv hk
  rcases set_split us _ _ j v hv with ⟨e1,e2⟩ | ⟨e1,e2⟩
  ·rcases set_split xs _ _ j k hk with ⟨e3,e4⟩ | ⟨e3,e4⟩
   ·rw [e1,e2,e4];exact hown
   ·exact absurd e1 e3
  ·rcases set_split xs _ _ j k hk with ⟨e3,e4⟩ | ⟨e3,e4⟩
   ·exact absurd e3 e1
   ·refine ((h.kid j v k e2 e4).keep (fun b hb1 hb2=>ht3.block b hb2 (fun e=>c5 j (e ▸ hb1)))).keep (fun b hb1 hb2=>hout.block b hb2 (fun e=>e1 (c6 j i b hb1 e)))
 ·rw [List.take_add_one,List.getElem?_set,if_pos rfl,if_pos hix,List.take_set_of_le (Nat.le_refl _)]
  exact h.mkd.snoc hmk
 ·have e:(xs.set i (⟨q, .mk (q+1) (mtB (q+1+1)) ks2⟩:Ru))[i]? = some ⟨q, .mk (q+1) (mtB (q+1+1)) ks2⟩:=by rw [List.getElem?_set,if_pos rfl,if_pos hix]
  rw [dscM_take_succ e,dscM_take_succ hx,List.take_set_of_le (Nat.le_refl _),h.ds,← hds]
  rfl
 ·rw [List.drop_set_of_lt (Nat.lt_succ_self _)]
  have:=congrArg (List.drop 1) h.dr
  simpa [List.drop_drop] using this
 ·exact h.out.trans ((ht3.weak (fun b e=>e ▸ c3)).trans (hout.weak (c4 i)))
theorem MkSm.start {w:World} {base g n cap:Nat} {m:List Ru} (h:OwnMD w base (.slice (some ⟨g,0,none⟩) n cap) m) (k:Int) :
 ∃ (C:Nat→Nat→Prop) (us:List Us),MkSm w w base g n cap C m k 0 k us m∧base≤g∧(∀ i q,C i q→base≤q)∧(∀ i,¬ C i g)∧(∀ i j q,C i q→C j q→i=j):=by
 obtain ⟨us,ds,h⟩:=h
 have hn:=h.own.len
 obtain ⟨a,ha⟩:=h.own.typed (g:=g) rfl
 have hg:=(World.ownsRow.lt h.own g rfl).1
 have hw:∀ (i j:Nat) (d d':Dd),i < j→ds[i]? = some d→ds[j]? = some d'→d.hi≤d'.lo:=by
  intro i j d d' hij h1 h2
  obtain ⟨l1,rfl⟩:=List.getElem?_eq_some_iff.1 h1
  obtain ⟨l2,rfl⟩:=List.getElem?_eq_some_iff.1 h2
  exact List.pairwise_iff_getElem.1 h.pw i j l1 l2 hij
 refine ⟨fun i q => ∃ d u r,ds[i]? = some d∧us[i]? = some u∧m[i]? = some r∧(d.lo≤q∧q < d.hi)∧q≠g,us,⟨hn.symm,by rw [hn,h.lu],h.own, ?_, ?_, .nil,rfl,rfl,Turn.refl _ _⟩,hg, ?_, ?_, ?_⟩
 ·intro j u r hu hr
  obtain ⟨d,hd⟩:=get_of_lt (xs:=ds) (k:=j) (by rw [h.ld];exact (List.getElem?_eq_some_iff.1 hr).1)
  obtain ⟨e1,e2,e3, -⟩:=(h.rows j u d r hu hd hr).2.now
  exact ⟨e1,e2,e3⟩
 ·intro j u r hu hr
  obtain ⟨d,hd⟩:=get_of_lt (xs:=ds) (k:=j) (by rw [h.ld];exact (List.getElem?_eq_some_iff.1 hr).1)
  obtain ⟨-, -, -,e4⟩:=(h.rows j u d r hu hd hr).2.now
  exact (e4.ne (by decide) ha).wide fun q hq=>⟨d,u,r,hd,hu,hr,hq.1,hq.2⟩
 ·rintro i q ⟨d,u,r,hd,hu,hr,hq, -⟩
  exact Nat.le_trans (h.rows i u d r hu hd hr).1 hq.1
 ·rintro i ⟨d,u,r, -, -, -, -,hq⟩
  exact hq rfl
 ·rintro i j q ⟨d, -, -,hd, -, -,hq, -⟩ ⟨d', -, -,hd', -, -,hq', -⟩
  rcases Nat.lt_trichotomy i j with hij | hij | hij
  ·have:=hw i j d d' hij hd hd';omega
  ·exact hij
  ·have:=hw j i d' d hij hd' hd;omega
theorem MkSm.rep {w0 wr:World} {base g n cap:Nat} {C:Nat→Nat→Prop} {ks:List Ru} {m:Int} {i:Nat} {q:Int} {us:List Us} {xs:List Ru} (h:MkSm w0 wr base g n cap C ks m i q us xs):RepM 0 wr ⟨some ⟨g,0,none⟩,n,cap⟩ xs:=
 ⟨us,by rw [h.ul,h.xl],by have:=h.own.rep;exact this, .inr fun b o e=>Nat.zero_le _,fun j u r hu hr=>by
  obtain ⟨e1,e2,e3⟩:=h.fld j u r hu hr
  exact ⟨e1,e2,e3,(h.kid j u r hu hr).rep fun q _=>Nat.zero_le _⟩⟩
end Go.Proofs.YtfbgppkdnfljhaaDoor
namespace Go.Proofs.YtfbgppkdnfljhaaDoor
open Go.RowKit
theorem ModelText_other (nm:ByteArray) (h0:(nm.toList==[115,101,113])=false) (h1:(nm.toList==[116,115,111])=false) (h2:(nm.toList==[112,115,111])=false) (h3:(nm.toList==[114,97])=false) (h4:(nm.toList==[108,111,99])=false) (w:World):Calls Tryd.prog 6 #[.string nm] w fun e w'=>e = .returned (.string ⟨#[]⟩)∧w=w':=by
 go_enter Tryd.func6,Tryd.ntmps6
 go_wp2_with fail
 go_ret
 exact ⟨rfl,rfl⟩
theorem ParseModel_none (w:World) (hg2:Glob2 w):Calls Tryd.prog 17 #[.string ⟨#[]⟩] w fun e w'=>e = .returned (.tuple #[.slice none 0 0, .bool false])∧Below w.heap.size w w':=by
 have hp:Lib.splitB ⟨#[47]⟩ 0 (Lib.countB ⟨#[]⟩ ⟨#[47]⟩) ⟨#[]⟩=[⟨#[]⟩]:=by kernel_rfl
 have HC1:=hide (strSplit_one ⟨#[]⟩ 47 w (by decide))
 rw [hp] at HC1
 have hc:cutS ⟨#[]⟩ 32=(⟨#[]⟩,⟨#[]⟩,false):=by kernel_rfl
 have HC2:=hide (fun W=>strCut_one ⟨#[]⟩ 32 W (by decide))
 rw [hc] at HC2
 have HPE:=hide (fun W=>ParseRelExpr_empty W)
 have HIX:Hid (∀ W,Rep StrE W (.slice (some ⟨0,0,none⟩) 4 4) wordsR→Calls Tryd.prog 30 #[.slice (some ⟨0,0,none⟩) 4 4, .string ⟨#[]⟩] W fun e w'=>e = .returned (.int .i64 0)∧W=w'):=hide (fun W h=>IndexS_at _ wordsR ⟨#[]⟩ ⟨#[]⟩ 0 W h rfl (by decide +kernel) (fun j z hj=>by omega))
 have HG2:=hide hg2
 clear hp hc hg2
 go_enter Tryd.func17,Tryd.ntmps17
 go_wp2_with fail
 (with_reducible refine HC1.out.mono ?_);rintro e w1 ⟨v5,rfl,ho5,hb1⟩
 have HB1:=hide hb1
 rcases ho5.shape with ⟨-,h0⟩ | ⟨g5,c5,rfl,hg5,hgl5,hc5,hc5'⟩
 ·simp at h0
 simp only [List.length_cons,List.length_nil,Nat.zero_add] at hc5 ho5 ⊢
 have cx:=ho5.cell (i:=0) (j:=0) (u:=.string ⟨#[]⟩) rfl rfl
 simp only [StrE,Nat.zero_mul,Nat.add_zero] at cx
 have HGR:=hide ((HG2.out.below hb1))
 clear ho5 hb1
 go_wp2_with fail
 go_loopw [16] (fun i wr=>i = .int .i64 0∧wr=w1) (fun _ _=>0)
 case atStart=>exact ⟨rfl,rfl⟩
 case round =>
  obtain ⟨rfl,rfl⟩:=hrel
  go_wp2_with fail
  (with_reducible refine (HC2.out _).mono ?_);rintro e w2 ⟨rfl,hb2⟩
  have HB2:=hide (HB1.out.trans (hb2.mono HB1.out.size))
  have HG3:=hide (HGR.out.below hb2)
  clear hb2
  go_wp2_with fail
  (with_reducible refine (HIX.out _ HG3.out.rep).mono ?_);rintro e w3 ⟨rfl,rfl⟩
  go_wp2_with fail
  (with_reducible refine (HPE.out _).mono ?_);rintro e w5 ⟨rfl,hb5⟩
  have HB5:=hide ((HB2.out.trans (hb5.mono HB2.out.size)).alloc ((HB2.out.trans (hb5.mono HB2.out.size)).size) (.cells #[.int .i64 0, .string ⟨#[]⟩, .slice none 0 0] 38))
  clear hb5
  go_wp2_with fail
  refine bodyPost_ret (v:=.tuple #[.slice none 0 0, .bool false]) (by simp [results,Tryd.results17,go_sem]) rfl ⟨rfl,HB5.out⟩
theorem ModelOf_other (nm:ByteArray) (h0:(nm.toList==[115,101,113])=false) (h1:(nm.toList==[116,115,111])=false) (h2:(nm.toList==[112,115,111])=false) (h3:(nm.toList==[114,97])=false) (h4:(nm.toList==[108,111,99])=false) (w:World) (hg2:Glob2 w):Calls Tryd.prog 7 #[.string nm] w fun e w'=>e = .returned (.tuple #[.slice none 0 0, .bool false])∧Below w.heap.size w w':=by
 have HT:=hide (ModelText_other nm h0 h1 h2 h3 h4 w)
 have HP:=hide (ParseModel_none w hg2)
 clear h0 h1 h2 h3 h4 hg2
 go_enter Tryd.func7,Tryd.ntmps7
 go_wp2_with fail
 (with_reducible refine HT.out.mono ?_);rintro e w1 ⟨rfl,rfl⟩
 go_wp2_with fail
 (with_reducible refine HP.out.mono ?_);rintro e w2 ⟨rfl,hb⟩
 go_wp2_with fail
 refine bodyPost_ret (v:=.tuple #[.slice none 0 0, .bool false]) (by simp [results,Tryd.results7,go_sem]) rfl ⟨rfl,hb⟩
end Go.Proofs.YtfbgppkdnfljhaaDoor
namespace Go.Proofs.YtfbgppkdnfljhaaDoor
open Go.RowKit
theorem sModelText_seq (w:World):Calls Tryd.prog 9 #[.string ⟨#[115,101,113]⟩] w fun e w'=>e = .returned (.string txSeq)∧w=w':=by
 have n0:((⟨#[115,101,113]⟩:ByteArray).toList==[115,101,113])=true:=by kernel_rfl
 go_enter Tryd.func9,Tryd.ntmps9
 go_wp2_with fail
 go_ret
 exact ⟨rfl,rfl⟩
theorem sModelText_tso (w:World):Calls Tryd.prog 9 #[.string ⟨#[116,115,111]⟩] w fun e w'=>e = .returned (.string txTso)∧w=w':=by
 have n0:((⟨#[116,115,111]⟩:ByteArray).toList==[115,101,113])=false:=by kernel_rfl
 have n1:((⟨#[116,115,111]⟩:ByteArray).toList==[116,115,111])=true:=by kernel_rfl
 go_enter Tryd.func9,Tryd.ntmps9
 go_wp2_with fail
 go_ret
 exact ⟨rfl,rfl⟩
theorem sModelText_pso (w:World):Calls Tryd.prog 9 #[.string ⟨#[112,115,111]⟩] w fun e w'=>e = .returned (.string txPso)∧w=w':=by
 have n0:((⟨#[112,115,111]⟩:ByteArray).toList==[115,101,113])=false:=by kernel_rfl
 have n1:((⟨#[112,115,111]⟩:ByteArray).toList==[116,115,111])=false:=by kernel_rfl
 have n2:((⟨#[112,115,111]⟩:ByteArray).toList==[112,115,111])=true:=by kernel_rfl
 go_enter Tryd.func9,Tryd.ntmps9
 go_wp2_with fail
 go_ret
 exact ⟨rfl,rfl⟩
theorem sModelText_ra (w:World):Calls Tryd.prog 9 #[.string ⟨#[114,97]⟩] w fun e w'=>e = .returned (.string txRa)∧w=w':=by
 have n0:((⟨#[114,97]⟩:ByteArray).toList==[115,101,113])=false:=by kernel_rfl
 have n1:((⟨#[114,97]⟩:ByteArray).toList==[116,115,111])=false:=by kernel_rfl
 have n2:((⟨#[114,97]⟩:ByteArray).toList==[112,115,111])=false:=by kernel_rfl
 have n3:((⟨#[114,97]⟩:ByteArray).toList==[114,97])=true:=by kernel_rfl
 go_enter Tryd.func9,Tryd.ntmps9
 go_wp2_with fail
 go_ret
 exact ⟨rfl,rfl⟩
theorem sModelText_loc (w:World):Calls Tryd.prog 9 #[.string ⟨#[108,111,99]⟩] w fun e w'=>e = .returned (.string txLoc)∧w=w':=by
 have n0:((⟨#[108,111,99]⟩:ByteArray).toList==[115,101,113])=false:=by kernel_rfl
 have n1:((⟨#[108,111,99]⟩:ByteArray).toList==[116,115,111])=false:=by kernel_rfl
 have n2:((⟨#[108,111,99]⟩:ByteArray).toList==[112,115,111])=false:=by kernel_rfl
 have n3:((⟨#[108,111,99]⟩:ByteArray).toList==[114,97])=false:=by kernel_rfl
 have n4:((⟨#[108,111,99]⟩:ByteArray).toList==[108,111,99])=true:=by kernel_rfl
 go_enter Tryd.func9,Tryd.ntmps9
 go_wp2_with fail
 go_ret
 exact ⟨rfl,rfl⟩
theorem sModelText_other (nm:ByteArray) (h0:(nm.toList==[115,101,113])=false) (h1:(nm.toList==[116,115,111])=false) (h2:(nm.toList==[112,115,111])=false) (h3:(nm.toList==[114,97])=false) (h4:(nm.toList==[108,111,99])=false) (w:World):Calls Tryd.prog 9 #[.string nm] w fun e w'=>e = .returned (.string ⟨#[]⟩)∧w=w':=by
 go_enter Tryd.func9,Tryd.ntmps9
 go_wp2_with fail
 go_ret
 exact ⟨rfl,rfl⟩
def RetNo (w:World) (e:Ending) (w':World):Prop:=∃ g:Nat,e = .returned (.tuple #[.slice (some ⟨g,0,none⟩) 0 0, .bool false])∧w'.heap[g]? = some (.cells #[] 40 (0,0))∧w.heap.size≤g∧Below w.heap.size w w'
theorem noWord {j:Nat} (h1:1≤j) (h4:j < 4):∃ y,wordsR[j]? = some y∧((⟨#[]⟩:ByteArray).toList==y.toList)=false:=by
 have:j=1∨j=2∨j=3:=by omega
 rcases this with rfl | rfl | rfl <;> exact ⟨_,rfl,by decide +kernel⟩
theorem sParseModel_none (w:World):Calls Tryd.prog 18 #[.string ⟨#[]⟩] w (RetNo w):=by
 have hp:cutL ⟨#[]⟩ 47=[⟨#[]⟩]:=by kernel_rfl
 have hp2:cutL ⟨#[]⟩ 32=[⟨#[]⟩]:=by kernel_rfl
 have HC1:Hid (∀ W,Calls Tryd.prog 32 #[.string ⟨#[]⟩, .int .u8 47] W (RetOwn StrE 9 W [⟨#[]⟩])):=hide (fun W=>hp ▸ l17Cut_exact ⟨#[]⟩ 47 W (by decide))
 obtain ⟨wd,hwd⟩:∃ wd:ByteArray,wd=⟨#[]⟩:=⟨_,rfl⟩
 have HC2:Hid (∀ W,Calls Tryd.prog 32 #[.string ⟨#[]⟩, .int .u8 32] W (RetOwn StrE 9 W [wd])):=hide (fun W=>by rw [hwd,← hp2];exact l17Cut_exact ⟨#[]⟩ 32 W (by decide))
 have HW:=hide l7Words_any
 have HNW:Hid (∀ (j:Nat),1≤j→j < 4→∃ y,wordsR[j]? = some y∧(wd.toList==y.toList)=false):=hide (fun j h1 h4=>by rw [hwd];exact noWord h1 h4)
 have HB0:=hide (belowAlloc w (.cells #[] 40))
 clear hp hp2 hwd
 go_enter Tryd.func18,Tryd.ntmps18
 go_wp2_with fail
 (with_reducible refine (HC1.out _).mono ?_);rintro e w1 ⟨v5,rfl,ho5,hb1⟩
 have HB1:=hide (HB0.out.trans (hb1.mono HB0.out.size))
 rcases ho5.shape with ⟨-,h0⟩ | ⟨g5,c5,rfl,hg5,hgl5,hc5,hc5'⟩
 ·simp at h0
 simp only [List.length_cons,List.length_nil,Nat.zero_add] at hc5 ho5 ⊢
 have cx:=ho5.cell (i:=0) (j:=0) (u:=.string ⟨#[]⟩) rfl rfl
 simp only [StrE,Nat.zero_mul,Nat.add_zero] at cx
 clear ho5 hb1
 go_wp2_with fail
 go_loopw [6] (fun i wr=>i = .int .i64 0∧wr=w1) (fun _ _=>0)
 case atStart=>exact ⟨rfl,rfl⟩
 case round =>
  obtain ⟨rfl,rfl⟩:=hrel
  go_wp2_with fail
  (with_reducible refine (HC2.out _).mono ?_);rintro e w2 ⟨v7,rfl,ho7,hb2⟩
  rcases ho7.shape with ⟨-,h0⟩ | ⟨g7,c7,rfl,hg7,hgl7,hc7,hc7'⟩
  ·simp at h0
  simp only [List.length_cons,List.length_nil,Nat.zero_add] at hc7 ho7 ⊢
  have HB2:=hide (HB1.out.trans (hb2.mono HB1.out.size))
  have HO7:=hide ho7
  have HBA:=hide (belowAlloc w2 (.cells #[.int .i64 0, .int .i64 0, .string ⟨#[]⟩, .slice none 0 0] 40))
  clear ho7 hb2
  go_wp2_with fail
  go_loopw [9] (fun i wr => ∃ j:Nat,i = .int .i64 j∧1≤j∧j≤4∧Hid (Below w2.heap.size w2 wr)) (fun i _=>4 - (intOf i).toNat)
  case atStart=>exact ⟨1,rfl,Nat.le_refl _,by omega,HBA⟩
  case round =>
   obtain ⟨j,rfl,hj1,hj4,HBI⟩:=hrel
   by_cases hlj:j < 4
   ·have hlj':(j:Int) < 4:=by omega
    go_wp2_with fail
    (with_reducible refine (HW.out _).mono ?_);rintro e w4 ⟨rfl,ho4,hb4⟩
    have HB4:=hide (HBI.out.trans (hb4.mono HBI.out.size))
    have HO74:=hide (HO7.out.below HB4.out)
    clear ho4 hb4
    obtain ⟨y,hy,hyq'⟩:=HNW.out j hj1 hlj
    have HY:=hide hy
    clear hy
    go_wp2_with fail
    -- reg no
    refine wp_region_inv3 (n:=7) (by kernel_rfl) rfl (by kernel_rfl) (by kernel_rfl) (fun A ls a' W => ∃ (G:Nat) (x37 x38 x39 x40 x41 x42 x43:Value),a'=putAll A [(37,x37),(38,x38),(39,x39),(40,x40),(41,x41),(42,x42),(43,x43)]∧Vd ls 0 [] x37 (.slice (some ⟨g7,0,none⟩) 1 c7)∧Vd ls 1 [] x38 (.pointer (some ⟨g7,0,none⟩))∧Vd ls 2 [] x39 (.string wd)∧Vd ls 3 [] x40 (.slice (some ⟨G,0,none⟩) 4 4)∧Vd ls 4 [] x41 (.int .i64 j)∧Vd ls 5 [3] x42 (.pointer (some ⟨G,j,none⟩))∧Vd ls 6 [3] x43 (.string y)∧JW w4 (fl ls 3) G W) ?r0 ?rs ?re
    case r0 =>
     exact ⟨0,u37,u38,u39,u40,u41,u42,u43,by simp only [putAll,Act.put,List.setIfInBounds_toArray,List.set_cons_succ,List.set_cons_zero],Vd.start,Vd.start,Vd.start,Vd.start,Vd.start,Vd.start,Vd.start,by simp only [fl_start];exact ⟨(Below.refl _ _).drew,fun h=>(nomatch h)⟩⟩
    case rs =>
     rintro ls a' W hs hnl ⟨G,x37,x38,x39,x40,x41,x42,x43,ha,cv0,cv1,cv2,cv3,cv4,cv5,cv6,hJ⟩ k o hkn mc K hK
     simp only [putAll,Act.put,List.setIfInBounds_toArray,List.set_cons_succ,List.set_cons_zero] at ha
     subst ha
     have hkc:k=0∨k=1∨k=2∨k=3∨k=4∨k=5∨k=6:=by omega
     have hop:=mc.op
     have haf:=mc.after
     rcases hkc with rfl | rfl | rfl | rfl | rfl | rfl | rfl
     ·simp at hop;subst hop;simp [Region.binds] at haf
      go_simp
      exact hK _ _ ⟨G,_,_,_,_,_,_,_,by simp only [putAll,Act.put,List.setIfInBounds_toArray,List.set_cons_succ,List.set_cons_zero],Vd.same (by simp),cv1.set (by decide),cv2.set (by decide),cv3.set (by decide),cv4.set (by decide),cv5.set (by decide),cv6.set (by decide),by rw [fl_set (show 0≠3 by decide)];exact hJ⟩
     ·simp at hop;subst hop;simp [Region.binds] at haf
      obtain rfl:=(cv0.get (by simp [haf])).symm
      go_simp
      exact hK _ _ ⟨G,_,_,_,_,_,_,_,by simp only [putAll,Act.put,List.setIfInBounds_toArray,List.set_cons_succ,List.set_cons_zero],cv0.set (by decide),Vd.same (by simp),cv2.set (by decide),cv3.set (by decide),cv4.set (by decide),cv5.set (by decide),cv6.set (by decide),by rw [fl_set (show 1≠3 by decide)];exact hJ⟩
     ·simp at hop;subst hop;simp [Region.binds] at haf
      obtain rfl:=(cv1.get (by simp [haf])).symm
      have cw:=(HO74.out.below hJ.out).cell (i:=0) (j:=0) (u:=.string wd) rfl rfl
      simp only [StrE,Nat.zero_mul,Nat.add_zero] at cw
      have cwl:=lt_of_cell cw
      go_simp
      exact hK _ _ ⟨G,_,_,_,_,_,_,_,by simp only [putAll,Act.put,List.setIfInBounds_toArray,List.set_cons_succ,List.set_cons_zero],cv0.set (by decide),cv1.set (by decide),Vd.same (by simp),cv3.set (by decide),cv4.set (by decide),cv5.set (by decide),cv6.set (by decide),by rw [fl_set (show 2≠3 by decide)];exact hJ⟩
     ·simp at hop;subst hop;simp [Region.binds] at haf
      have f3:=fl_no mc.new;rw [f3] at hJ
      go_simp
      have hsz:=hJ.out.size
      go_at_call 33
      (with_reducible refine (HW.out W).mono ?_);rintro e u ⟨rfl,ho,hb⟩
      exact hK _ _ ⟨W.heap.size,_,_,_,_,_,_,_,by simp only [putAll,Act.put,List.setIfInBounds_toArray,List.set_cons_succ,List.set_cons_zero],cv0.set (by decide),cv1.set (by decide),cv2.set (by decide),Vd.same (by simp),cv4.set (by decide),cv5.void (by decide) (by decide) mc.new,cv6.void (by decide) (by decide) mc.new,by rw [fl_got hs (by decide)];exact ⟨(hJ.below hb).out,fun _=>ho.mono hsz⟩⟩
     ·simp at hop;subst hop;simp [Region.binds] at haf
      go_simp
      exact hK _ _ ⟨G,_,_,_,_,_,_,_,by simp only [putAll,Act.put,List.setIfInBounds_toArray,List.set_cons_succ,List.set_cons_zero],cv0.set (by decide),cv1.set (by decide),cv2.set (by decide),cv3.set (by decide),Vd.same (by simp),cv5.set (by decide),cv6.set (by decide),by rw [fl_set (show 4≠3 by decide)];exact hJ⟩
     ·simp at hop;subst hop;simp [Region.binds] at haf
      obtain rfl:=(cv3.get (by simp [haf])).symm
      obtain rfl:=(cv4.get (by simp [haf])).symm
      go_simp
      exact hK _ _ ⟨G,_,_,_,_,_,_,_,by simp only [putAll,Act.put,List.setIfInBounds_toArray,List.set_cons_succ,List.set_cons_zero],cv0.set (by decide),cv1.set (by decide),cv2.set (by decide),cv3.set (by decide),cv4.set (by decide),Vd.same (by simp [haf]),cv6.set (by decide),by rw [fl_set (show 5≠3 by decide)];exact hJ⟩
     ·simp at hop;subst hop;simp [Region.binds] at haf
      have q5:=(cv5 (by simp [haf])).1;simp at q5
      obtain rfl:=(cv5.get (by simp [haf])).symm
      obtain ⟨wb,wo,he,cwl,cw⟩:=(hJ.f (fl_yes q5)).rep.str HY.out
      simp only [Option.some.injEq,Addr.mk.injEq,and_true] at he
      obtain ⟨rfl,rfl⟩:=he
      simp only [Nat.zero_add] at cw
      go_simp
      exact hK _ _ ⟨G,_,_,_,_,_,_,_,by simp only [putAll,Act.put,List.setIfInBounds_toArray,List.set_cons_succ,List.set_cons_zero],cv0.set (by decide),cv1.set (by decide),cv2.set (by decide),cv3.set (by decide),cv4.set (by decide),cv5.set (by decide),Vd.same (by simp [q5]),by rw [fl_set (show 6≠3 by decide)];exact hJ⟩
    case re =>
     rintro ls a' W hall ⟨G,x37,x38,x39,x40,x41,x42,x43,ha,cv0,cv1,cv2,cv3,cv4,cv5,cv6,hJ⟩ o hop
     simp only [putAll,Act.put,List.setIfInBounds_toArray,List.set_cons_succ,List.set_cons_zero] at ha
     subst ha
     simp at hop;subst hop
     obtain rfl:=(cv0.get (hall 0 (by decide))).symm
     obtain rfl:=(cv1.get (hall 1 (by decide))).symm
     obtain rfl:=(cv2.get (hall 2 (by decide))).symm
     obtain rfl:=(cv3.get (hall 3 (by decide))).symm
     obtain rfl:=(cv4.get (hall 4 (by decide))).symm
     obtain rfl:=(cv5.get (hall 5 (by decide))).symm
     obtain rfl:=(cv6.get (hall 6 (by decide))).symm
     rw [fl_yes (hall 3 (by decide))] at hJ
     go_simp
     have HB5:=hide (HB4.out.trans (hJ.out.mono HB4.out.size))
     clear hJ
     go_wp2_with fail
     go_roundw
     case rel=>exact ⟨j+1,by go_num,by omega,by omega,HB5⟩
     case measure=>simp [intOf];omega
    -- end no
   ·have hlf:¬ (j:Int) < 4:=by omega
    go_wp2_with fail
    (with_reducible refine (HW.out _).mono ?_);rintro e w4 ⟨rfl,ho4,hb4⟩
    have HB4:=hide (HB2.out.trans ((HBI.out.trans (hb4.mono HBI.out.size)).mono HB2.out.size))
    have X:=hide (heap_alloc_new w4 (.cells #[] 40))
    clear ho4 hb4
    go_wp2_with fail
    refine bodyPost_ret (v:=.tuple #[.slice (some ⟨w4.heap.size,0,none⟩) 0 0, .bool false]) (by simp [results,Tryd.results18,go_sem]) rfl ⟨w4.heap.size,rfl,X.out,HB4.out.size,HB4.out.alloc HB4.out.size _⟩
theorem sModelOf_of (nm tx:ByteArray) (m:List Ru) (hm:GoodM tx m) (ht:∀ w,Calls Tryd.prog 9 #[.string nm] w fun e w'=>e = .returned (.string tx)∧w=w') (w:World):Calls Tryd.prog 8 #[.string nm] w (RetPM w m):=by
 have HT:=hide (ht w)
 have HP:=hide (sParseModel_ok tx m hm w)
 clear hm ht
 go_enter Tryd.func8,Tryd.ntmps8
 go_wp2_with fail
 (with_reducible refine HT.out.mono ?_);rintro e w1 ⟨rfl,rfl⟩
 go_wp2_with fail
 (with_reducible refine HP.out.mono ?_);rintro e w2 ⟨v,rfl,ho,hb⟩
 have HO:=hide ho;have HB:=hide hb
 clear ho hb
 obtain ⟨s,rfl, -⟩:=HO.out.toSlc
 go_wp2_with fail
 refine bodyPost_ret (v:=.tuple #[.slice s.a s.n s.cap, .bool true]) (by simp [results,Tryd.results8,go_sem, *]) rfl ⟨_,rfl,HO.out,HB.out⟩
theorem sModelOf_other (nm:ByteArray) (h0:(nm.toList==[115,101,113])=false) (h1:(nm.toList==[116,115,111])=false) (h2:(nm.toList==[112,115,111])=false) (h3:(nm.toList==[114,97])=false) (h4:(nm.toList==[108,111,99])=false) (w:World):Calls Tryd.prog 8 #[.string nm] w (RetNo w):=by
 have HT:=hide (sModelText_other nm h0 h1 h2 h3 h4 w)
 have HP:=hide (sParseModel_none w)
 clear h0 h1 h2 h3 h4
 go_enter Tryd.func8,Tryd.ntmps8
 go_wp2_with fail
 (with_reducible refine HT.out.mono ?_);rintro e w1 ⟨rfl,rfl⟩
 go_wp2_with fail
 (with_reducible refine HP.out.mono ?_);rintro e w2 ⟨g,rfl,hgg,hgs,hb⟩
 go_wp2_with fail
 refine bodyPost_ret (v:=.tuple #[.slice (some ⟨g,0,none⟩) 0 0, .bool false]) (by simp [results,Tryd.results8,go_sem]) rfl ⟨g,rfl,hgg,hgs,hb⟩
end Go.Proofs.YtfbgppkdnfljhaaDoor
namespace Go.Proofs.YtfbgppkdnfljhaaDoor
open Go.RowKit
theorem Own.us {T:TypeId} {w:World} {base g n cap:Nat} {xs:List Us} (h:Own UsE T w base (.slice (some ⟨g,0,none⟩) n cap) xs) {k:Nat} {x:Us} (hx:xs[k]? = some x) :
 g < w.heap.size∧w.cell? ⟨g,k * 4,none⟩=some (.int .i64 x.kind)∧w.cell? ⟨g,k * 4+1,none⟩=some (.int .i64 x.op)∧w.cell? ⟨g,k * 4+2,none⟩=some (.string x.nm) ∧
  w.cell? ⟨g,k * 4+3,none⟩=some (.slice x.s.a x.s.n x.s.cap)∧∀ j,w.frozen? ⟨g,j,none⟩=false:=
 ⟨(World.ownsRow.lt h g rfl).2,h.cell hx (j:=0) rfl,h.cell hx (j:=1) rfl,h.cell hx (j:=2) rfl,h.cell hx (j:=3) rfl,fun j=>h.frozen j⟩
theorem markRuleS_any (ks:List Ru) (base:Nat) (a:Option Addr) (n c:Nat) (m:Int) (w:World) (h:OwnMD w base (.slice a n c) ks) (hm0:0≤m) (hm1:m+(dscM ks:Nat)≤1000000000) :
 Calls Tryd.prog 13 #[.slice a n c, .int .i64 m] w fun e w' => ∃ (q:Int) (xs:List Ru),e = .returned (.int .i64 q)∧MkM m xs q∧q≤1000000000∧RepM 0 w' ⟨a,n,c⟩ xs∧Turn (fun b=>base≤b) w w':=by
 rcases h.shape with ⟨he,rfl⟩ | ⟨g,cap,he, -, -⟩
 ·simp only [Value.slice.injEq] at he
  obtain ⟨rfl,rfl,rfl⟩:=he
  go_enter Tryd.func13,Tryd.ntmps13
  go_wp2_with fail
  go_loopw [1,5] (fun q i wr=>i = .int .i64 0∧q = .int .i64 m∧wr=w) (fun _ i _=>(intOf i).toNat)
  case atStart=>exact ⟨rfl,rfl,rfl⟩
  case round =>
   obtain ⟨rfl,rfl,rfl⟩:=hrel
   go_wp2_with fail
   go_ret
   exact ⟨m,[],rfl, .nil,by simp [dscM] at hm1;exact hm1,RepM.nil _ _,Turn.refl _ _⟩
 ·have hkl:ks.length=n:=h.weak.len
  simp only [Value.slice.injEq] at he
  obtain ⟨rfl, -,rfl⟩:=he
  obtain ⟨C,us,ST0,h3,h4,h5,h6⟩:=MkSm.start h m
  have hcap:us.length≤c∧c≤maxLen:=by
   rcases ST0.own.shape with ⟨he, -⟩ | ⟨g',c',he, -, -,h9,h10⟩
   ·simp at he
   ·simp only [Value.slice.injEq] at he
    obtain ⟨-, -,rfl⟩:=he
    exact ⟨h9,h10⟩
  have hnc:n≤c:=by have:=ST0.ul;omega
  have hnb:n≤9223372036854775807:=by have:=hcap.2;unfold maxLen at this;omega
  have ST:=hide ST0
  have HD:=hide (fun i x hx=>dscM_kid (m:=ks) (k:=i) (r:=x) hx)
  have HKL:=hide hkl
  have H3:=hide h3;have H4:=hide h4;have H5:=hide h5;have H6:=hide h6
  clear h ST0 h3 h4 h5 h6 hcap hkl
  go_enter Tryd.func13,Tryd.ntmps13
  go_wp2_with fail
  go_loopw [1,5] (fun q i wr => ∃ (k:Nat) (p:Int) (vs:List Us) (xs:List Ru),k≤n∧i = .int .i64 k∧q = .int .i64 p∧Hid (MkSm w wr base g n c C ks m k p vs xs)) (fun _ i _=>n - (intOf i).toNat)
  case atStart=>exact ⟨0,m,us,ks,Nat.zero_le _,rfl,rfl,ST⟩
  case round =>
   obtain ⟨k,p,vs,xs,hk,rfl,rfl,HS⟩:=hrel
   have hp:=HS.out.mkd.le
   rw [HS.out.ds] at hp
   by_cases hlt:k < n
   ·obtain ⟨x,hx⟩:=get_of_lt (xs:=ks) (k:=k) (by rw [HKL.out];exact hlt)
    obtain ⟨u,hu⟩:=get_of_lt (xs:=vs) (k:=k) (by rw [HS.out.ul];exact hlt)
    have hlt':=nat_of_lt hlt
    have hxx:xs[k]? = some x:=by
     have:=congrArg (fun l=>l[0]?) HS.out.dr
     simpa [List.getElem?_drop,hx] using this
    have hdk:=HD.out k x hx
    have hkid:=HS.out.kid k u x hu hxx
    obtain ⟨hgl,f0,f1,f2,f3,hfr⟩:=HS.out.own.us hu
    have hp0:0≤p:=by omega
    have hpb:p+2 * ((descR x.e.kids:Nat):Int)+3≤1000000000:=by omega
    obtain ⟨uk,uo,un,⟨sa,sn,sc⟩⟩:=u
    have HC:=hide (fun W hW=>markR_any x.e.kids (C k) sa sn sc (p+1+1+1) W hW (by omega) (by omega))
    have HKID:=hide hkid
    have HT:=hide (fun W=>markText_any (p+1+1) W (by omega) (by omega))
    have HX:=hide hx;have HU:=hide hu
    clear hx hu hxx hdk hkid hp
    go_wp2_with fail
    (with_reducible refine (HT.out _).mono ?_);rintro e w1 ⟨rfl,hb1⟩
    have HO0:=hide ((HS.out.own.set (i:=k) (j:=0) ⟨p,uo,un,⟨sa,sn,sc⟩⟩ (u:=.int .i64 p) (by decide) HU.out rfl).set (i:=k) (j:=1) ⟨p,p+1,un,⟨sa,sn,sc⟩⟩ (u:=.int .i64 (p+1)) (by decide) (get_set_self HU.out _) rfl)
    simp only [List.set_set,UsE,Nat.add_zero] at HO0
    have HO1:=hide (HO0.out.below hb1)
    have HU1:=hide (get_set_self HU.out (⟨p,p+1,un,⟨sa,sn,sc⟩⟩:Us))
    have HT1:=hide (((Turn.put (S:=fun b=>b=g) (w:=wr) rfl (k * 4) (.int .i64 p)).trans (Turn.put (S:=fun b=>b=g) rfl (k * 4+1) (.int .i64 (p+1)))).trans (Turn.of_below hb1))
    obtain ⟨hgl1,e0,e1,e2,e3,efr⟩:=HO1.out.us HU1.out
    have HO2:=hide (HO1.out.set (i:=k) (j:=2) ⟨p,p+1,mtB (p+1+1),⟨sa,sn,sc⟩⟩ (u:=.string (mtB (p+1+1))) (by decide) HU1.out rfl)
    simp only [List.set_set] at HO2
    have HT2:=hide (HT1.out.trans (Turn.put (S:=fun b=>b=g) (w:=w1) rfl (k * 4+2) (.string (mtB (p+1+1)))))
    have HC2:=hide (HC.out _ (HKID.out.keep fun b hb1 hb2=>HT2.out.block b hb2 (fun e=>H5.out k (e ▸ hb1))))
    clear hb1 HC HKID HT HT1 HO0 f0 f1 f2 f3 hgl hfr
    go_wp2_with fail
    (with_reducible refine HC2.out.mono ?_);rintro e w2 ⟨q2,ks2,rfl,hmk,hds,hown,hout⟩
    have HST:=hide (HS.out.step H3.out H4.out H5.out H6.out HX.out HU.out HO2.out HT2.out hmk hds hown hout)
    clear hmk hds hown hout HC2 HO1 HO2 HT2
    go_wp2_with fail
    go_roundw
    case rel=>exact ⟨k+1,q2,_,_,by omega,by go_num,rfl,HST⟩
    case measure=>simp [intOf];omega
   ·have e:k=n:=by omega
    subst e
    have hp1:p≤1000000000:=by
     have:=dscM_take_le ks k
     omega
    go_wp2_with fail
    go_ret
    refine ⟨p,xs,rfl, ?_,hp1,HS.out.rep,HS.out.out⟩
    have:=HS.out.mkd
    rwa [List.take_of_length_le (by rw [HS.out.xl];exact Nat.le_refl _)] at this
theorem heldRuleS_any (xs:List Ru) (a:Option Addr) (n c:Nat) (m q:Int) (w:World) (h:RepM 0 w ⟨a,n,c⟩ xs) (hmk:MkM m xs q) (hm0:0≤m) (hq1:q≤1000000000) :
 Calls Tryd.prog 14 #[.slice a n c, .int .i64 m] w fun e w'=>e = .returned (.int .i64 q)∧Below w.heap.size w w':=by
 obtain ⟨e1,hc1,hc2,hc3⟩:=h.open
 simp only at e1 hc1 hc2 hc3
 have HX:=hide h;have HM:=hide hmk
 have HL:=hide e1.symm
 rw [HL.out] at hc1 hc2
 clear h hmk e1
 go_enter Tryd.func14,Tryd.ntmps14
 go_wp2_with fail
 go_loopw [1,5] (fun v i wr => ∃ (k:Nat) (p:Int),k≤n∧i = .int .i64 k∧v = .int .i64 p∧0≤p∧Hid (MkM p (xs.drop k) q)∧Hid (Below w.heap.size w wr)) (fun _ i _=>n - (intOf i).toNat)
 case atStart=>exact ⟨0,m,Nat.zero_le _,rfl,rfl,hm0,hide (by simpa using HM.out),hide (Below.refl _ _)⟩
 case round =>
  obtain ⟨k,p,hk,rfl,rfl,hp0,HD,HB⟩:=hrel
  by_cases hlt:k < n
  ·obtain ⟨x,hx⟩:=get_of_lt (xs:=xs) (k:=k) (by rw [HL.out];exact hlt)
   have hlt':=nat_of_lt hlt
   have hd:xs.drop k=x :: xs.drop (k+1):=by
    rw [List.drop_eq_getElem_cons (by rw [HL.out];exact hlt)]
    congr 1
    exact (List.getElem?_eq_some_iff.1 hx).2
   obtain ⟨b,o,s,rfl,hbl,i0,i1,i2,i3,i5⟩:=(HX.out.below HB.out).row hx
   have hD:=HD.out
   rw [hd] at hD
   cases hD with
   | cons g1 g2 =>
    rename_i m1 ks
    have hp1:=g1.pos;have hp2:=g2.pos
    have HC:=hide (fun W h=>heldR_any ks s.a s.n s.cap _ _ W h g1 (by omega) (by omega))
    have HI5:=hide i5
    have HT:=hide (fun W=>markText_any (p+1+1) W (by omega) (by omega))
    have G2:=hide g2
    simp only [Re.op,Re.nm] at i0 i1 i2
    have I2:=hide i2
    have I3:=hide i3
    clear hx hd i5 g1 g2
    have hmn:¬ m1 < 0:=by omega
    have hss:((mtB (p+1+1)).toList==(mtB (p+1+1)).toList)=true:=by simp
    go_wp2_with fail
    -- reg name
    refine wp_region_inv3 (n:=8) (by kernel_rfl) rfl (by kernel_rfl) (by kernel_rfl) (fun A ls a' W => ∃ (x31 x32 x33 x34 x35 x36 x37 x38:Value),a'=putAll A [(31,x31),(32,x32),(33,x33),(34,x34),(35,x35),(36,x36),(37,x37),(38,x38)]∧Vd ls 0 [] x31 (.slice (some ⟨b,o,none⟩) n c)∧Vd ls 1 [] x32 (.int .i64 k)∧Vd ls 2 [] x33 (.pointer (some ⟨b,o+k * 4,none⟩))∧Vd ls 3 [] x34 (.pointer (some ⟨b,o+k * 4+1,none⟩))∧Vd ls 4 [] x35 (.pointer (some ⟨b,o+k * 4+2,none⟩))∧Vd ls 5 [] x36 (.string (mtB (p+1+1)))∧Vd ls 6 [] x37 (.int .i64 (p+1+1))∧Vd ls 7 [] x38 (.string (mtB (p+1+1)))∧Below wr.heap.size wr W) ?r0 ?rs ?re
    case r0 =>
     exact ⟨u31,u32,u33,u34,u35,u36,u37,u38,by simp only [putAll,Act.put,List.setIfInBounds_toArray,List.set_cons_succ,List.set_cons_zero],Vd.start,Vd.start,Vd.start,Vd.start,Vd.start,Vd.start,Vd.start,Vd.start,by exact (Below.refl _ _).drew⟩
    case rs =>
     rintro ls a' W hs hnl ⟨x31,x32,x33,x34,x35,x36,x37,x38,ha,cv0,cv1,cv2,cv3,cv4,cv5,cv6,cv7,hJ⟩ k o hkn mc K hK
     simp only [putAll,Act.put,List.setIfInBounds_toArray,List.set_cons_succ,List.set_cons_zero] at ha
     subst ha
     have hkc:k=0∨k=1∨k=2∨k=3∨k=4∨k=5∨k=6∨k=7:=by omega
     have hop:=mc.op
     have haf:=mc.after
     rcases hkc with rfl | rfl | rfl | rfl | rfl | rfl | rfl | rfl
     ·simp at hop;subst hop;simp [Region.binds] at haf
      go_simp
      exact hK _ _ ⟨_,_,_,_,_,_,_,_,by simp only [putAll,Act.put,List.setIfInBounds_toArray,List.set_cons_succ,List.set_cons_zero],Vd.same (by simp),cv1.set (by decide),cv2.set (by decide),cv3.set (by decide),cv4.set (by decide),cv5.set (by decide),cv6.set (by decide),cv7.set (by decide),by exact hJ⟩
     ·simp at hop;subst hop;simp [Region.binds] at haf
      go_simp
      exact hK _ _ ⟨_,_,_,_,_,_,_,_,by simp only [putAll,Act.put,List.setIfInBounds_toArray,List.set_cons_succ,List.set_cons_zero],cv0.set (by decide),Vd.same (by simp),cv2.set (by decide),cv3.set (by decide),cv4.set (by decide),cv5.set (by decide),cv6.set (by decide),cv7.set (by decide),by exact hJ⟩
     ·simp at hop;subst hop;simp [Region.binds] at haf
      obtain rfl:=(cv0.get (by simp [haf])).symm
      obtain rfl:=(cv1.get (by simp [haf])).symm
      go_simp
      exact hK _ _ ⟨_,_,_,_,_,_,_,_,by simp only [putAll,Act.put,List.setIfInBounds_toArray,List.set_cons_succ,List.set_cons_zero],cv0.set (by decide),cv1.set (by decide),Vd.same (by simp),cv3.set (by decide),cv4.set (by decide),cv5.set (by decide),cv6.set (by decide),cv7.set (by decide),by exact hJ⟩
     ·simp at hop;subst hop;simp [Region.binds] at haf
      obtain rfl:=(cv2.get (by simp [haf])).symm
      go_simp
      exact hK _ _ ⟨_,_,_,_,_,_,_,_,by simp only [putAll,Act.put,List.setIfInBounds_toArray,List.set_cons_succ,List.set_cons_zero],cv0.set (by decide),cv1.set (by decide),cv2.set (by decide),Vd.same (by simp),cv4.set (by decide),cv5.set (by decide),cv6.set (by decide),cv7.set (by decide),by exact hJ⟩
     ·simp at hop;subst hop;simp [Region.binds] at haf
      obtain rfl:=(cv3.get (by simp [haf])).symm
      go_simp
      exact hK _ _ ⟨_,_,_,_,_,_,_,_,by simp only [putAll,Act.put,List.setIfInBounds_toArray,List.set_cons_succ,List.set_cons_zero],cv0.set (by decide),cv1.set (by decide),cv2.set (by decide),cv3.set (by decide),Vd.same (by simp),cv5.set (by decide),cv6.set (by decide),cv7.set (by decide),by exact hJ⟩
     ·simp at hop;subst hop;simp [Region.binds] at haf
      obtain rfl:=(cv4.get (by simp [haf])).symm
      have cw:=(hJ.cell (p:=⟨b,o+k * 4+2,none⟩) hbl).trans I2.out
      have cwl:=lt_of_cell cw
      go_simp
      exact hK _ _ ⟨_,_,_,_,_,_,_,_,by simp only [putAll,Act.put,List.setIfInBounds_toArray,List.set_cons_succ,List.set_cons_zero],cv0.set (by decide),cv1.set (by decide),cv2.set (by decide),cv3.set (by decide),cv4.set (by decide),Vd.same (by simp),cv6.set (by decide),cv7.set (by decide),by exact hJ⟩
     ·simp at hop;subst hop;simp [Region.binds] at haf
      go_simp
      exact hK _ _ ⟨_,_,_,_,_,_,_,_,by simp only [putAll,Act.put,List.setIfInBounds_toArray,List.set_cons_succ,List.set_cons_zero],cv0.set (by decide),cv1.set (by decide),cv2.set (by decide),cv3.set (by decide),cv4.set (by decide),cv5.set (by decide),Vd.same (by simp),cv7.set (by decide),by exact hJ⟩
     ·simp at hop;subst hop;simp [Region.binds] at haf
      obtain rfl:=(cv6.get (by simp [haf])).symm
      go_simp
      go_at_call 24
      (with_reducible refine (HT.out W).mono ?_);rintro e u ⟨rfl,hb⟩
      exact hK _ _ ⟨_,_,_,_,_,_,_,_,by simp only [putAll,Act.put,List.setIfInBounds_toArray,List.set_cons_succ,List.set_cons_zero],cv0.set (by decide),cv1.set (by decide),cv2.set (by decide),cv3.set (by decide),cv4.set (by decide),cv5.set (by decide),cv6.set (by decide),Vd.same (by simp),by exact hJ.trans (hb.mono hJ.size)⟩
    case re =>
     rintro ls a' W hall ⟨x31,x32,x33,x34,x35,x36,x37,x38,ha,cv0,cv1,cv2,cv3,cv4,cv5,cv6,cv7,hJ⟩ o hop
     simp only [putAll,Act.put,List.setIfInBounds_toArray,List.set_cons_succ,List.set_cons_zero] at ha
     subst ha
     simp at hop;subst hop
     obtain rfl:=(cv0.get (hall 0 (by decide))).symm
     obtain rfl:=(cv1.get (hall 1 (by decide))).symm
     obtain rfl:=(cv2.get (hall 2 (by decide))).symm
     obtain rfl:=(cv3.get (hall 3 (by decide))).symm
     obtain rfl:=(cv4.get (hall 4 (by decide))).symm
     obtain rfl:=(cv5.get (hall 5 (by decide))).symm
     obtain rfl:=(cv6.get (hall 6 (by decide))).symm
     obtain rfl:=(cv7.get (hall 7 (by decide))).symm
     go_simp
     have c2:=(hJ.cell (p:=⟨b,o+k * 4+3,none⟩) hbl).trans I3.out
     have cl2:=lt_of_cell c2
     have HC2:=hide (HC.out W (HI5.out.below hJ))
     have HB2:=hide (HB.out.trans (hJ.mono HB.out.size))
     clear hJ HC
     go_wp2_with fail
     (with_reducible refine HC2.out.mono ?_);rintro e w3 ⟨rfl,hb3⟩
     have HB3:=hide (HB2.out.trans (hb3.mono HB2.out.size))
     clear hb3 HC2
     go_wp2_with fail
     go_roundw
     case rel=>exact ⟨k+1,m1,by omega,by go_num,rfl,by omega,G2,HB3⟩
     case measure=>simp [intOf];omega
    -- end name
  ·have e:k=n:=by omega
   subst e
   have hD:=HD.out
   rw [List.drop_of_length_le (by rw [HL.out];exact Nat.le_refl _)] at hD
   cases hD
   have HBX:=HB
   go_wp2_with fail
   go_ret
   exact ⟨rfl,HBX.out⟩
end Go.Proofs.YtfbgppkdnfljhaaDoor
namespace Go.Proofs.YtfbgppkdnfljhaaDoor
open Go.RowKit
structure NameYes (nm tx:ByteArray) (m:List Ru):Prop where
 good:GoodMI tx m
 ne:(tx.toList==[])=false
 ti:∀ w,Calls Tryd.prog 6 #[.string nm] w fun e w'=>e = .returned (.string tx)∧w=w'
 ts:∀ w,Calls Tryd.prog 9 #[.string nm] w fun e w'=>e = .returned (.string tx)∧w=w'
 mi:∀ w,Glob w→Glob2 w→Calls Tryd.prog 7 #[.string nm] w (RetPMD w m)
 ms:∀ w,Calls Tryd.prog 8 #[.string nm] w (RetPM w m)
structure NameNo (nm:ByteArray):Prop where
 ti:∀ w,Calls Tryd.prog 6 #[.string nm] w fun e w'=>e = .returned (.string ⟨#[]⟩)∧w=w'
 ts:∀ w,Calls Tryd.prog 9 #[.string nm] w fun e w'=>e = .returned (.string ⟨#[]⟩)∧w=w'
 mi:∀ w,Glob2 w→Calls Tryd.prog 7 #[.string nm] w fun e w'=>e = .returned (.tuple #[.slice none 0 0, .bool false])∧Below w.heap.size w w'
 ms:∀ w,Calls Tryd.prog 8 #[.string nm] w (RetNo w)
theorem name_cases (nm:ByteArray):(∃ tx m,NameYes nm tx m)∨NameNo nm:=by
 by_cases h0:nm=⟨#[115,101,113]⟩
 ·exact .inl ⟨txSeq,mSeq,seq_good,by kernel_rfl,h0 ▸ ModelText_seq,h0 ▸ sModelText_seq,fun w g1 g2=>h0 ▸ ModelOf_ofD _ _ _ seq_good ModelText_seq w g1 g2,fun w=>h0 ▸ sModelOf_of _ _ _ seq_goodS sModelText_seq w⟩
 by_cases h1:nm=⟨#[116,115,111]⟩
 ·exact .inl ⟨txTso,mTso,tso_good,by kernel_rfl,h1 ▸ ModelText_tso,h1 ▸ sModelText_tso,fun w g1 g2=>h1 ▸ ModelOf_ofD _ _ _ tso_good ModelText_tso w g1 g2,fun w=>h1 ▸ sModelOf_of _ _ _ tso_goodS sModelText_tso w⟩
 by_cases h2:nm=⟨#[112,115,111]⟩
 ·exact .inl ⟨txPso,mPso,pso_good,by kernel_rfl,h2 ▸ ModelText_pso,h2 ▸ sModelText_pso,fun w g1 g2=>h2 ▸ ModelOf_ofD _ _ _ pso_good ModelText_pso w g1 g2,fun w=>h2 ▸ sModelOf_of _ _ _ pso_goodS sModelText_pso w⟩
 by_cases h3:nm=⟨#[114,97]⟩
 ·exact .inl ⟨txRa,mRa,ra_good,by kernel_rfl,h3 ▸ ModelText_ra,h3 ▸ sModelText_ra,fun w g1 g2=>h3 ▸ ModelOf_ofD _ _ _ ra_good ModelText_ra w g1 g2,fun w=>h3 ▸ sModelOf_of _ _ _ ra_goodS sModelText_ra w⟩
 by_cases h4:nm=⟨#[108,111,99]⟩
 ·exact .inl ⟨txLoc,mLoc,loc_good,by kernel_rfl,h4 ▸ ModelText_loc,h4 ▸ sModelText_loc,fun w g1 g2=>h4 ▸ ModelOf_ofD _ _ _ loc_good ModelText_loc w g1 g2,fun w=>h4 ▸ sModelOf_of _ _ _ loc_goodS sModelText_loc w⟩
 have g0:(nm.toList==[115,101,113])=false:=by rw [beq_eq_false_iff_ne];exact fun e=>h0 (bytes_eqR (e.trans (by kernel_rfl)))
 have g1:(nm.toList==[116,115,111])=false:=by rw [beq_eq_false_iff_ne];exact fun e=>h1 (bytes_eqR (e.trans (by kernel_rfl)))
 have g2:(nm.toList==[112,115,111])=false:=by rw [beq_eq_false_iff_ne];exact fun e=>h2 (bytes_eqR (e.trans (by kernel_rfl)))
 have g3:(nm.toList==[114,97])=false:=by rw [beq_eq_false_iff_ne];exact fun e=>h3 (bytes_eqR (e.trans (by kernel_rfl)))
 have g4:(nm.toList==[108,111,99])=false:=by rw [beq_eq_false_iff_ne];exact fun e=>h4 (bytes_eqR (e.trans (by kernel_rfl)))
 exact .inr ⟨fun w=>ModelText_other nm g0 g1 g2 g3 g4 w,fun w=>sModelText_other nm g0 g1 g2 g3 g4 w,fun w hgw=>ModelOf_other nm g0 g1 g2 g3 g4 w hgw,fun w=>sModelOf_other nm g0 g1 g2 g3 g4 w⟩
theorem RepM.zero (a:Option Addr) (c:Nat) (w:World) (hc:c≤1000):RepM 0 w ⟨a,0,c⟩ []:=
 ⟨[],rfl,⟨a,c,rfl,Nat.zero_le _,by unfold maxLen;omega,fun i x h=>by simp at h⟩, .inl rfl,fun i u r h=>by simp at h⟩
end Go.Proofs.YtfbgppkdnfljhaaDoor
namespace Go.Proofs.YtfbgppkdnfljhaaDoor
open Go.RowKit
structure Both (nm:ByteArray) (m:List Ru) (b:Bool):Prop where
 s:∀ w,Calls Tryd.prog 8 #[.string nm] w fun e w' => ∃ s:Slc,e = .returned (.tuple #[.slice s.a s.n s.cap, .bool b])∧RepM 0 w' s m∧Below w.heap.size w w'
 i:∀ w,Glob w→Glob2 w→Calls Tryd.prog 7 #[.string nm] w fun e w' => ∃ s:Slc,e = .returned (.tuple #[.slice s.a s.n s.cap, .bool b])∧OwnMD w' w.heap.size (.slice s.a s.n s.cap) m∧Below w.heap.size w w'
 wt:dscM m≤900000
theorem both (nm:ByteArray):∃ m b,Both nm m b:=by
 rcases name_cases nm with ⟨tx,m,hN⟩ | hN
 ·refine ⟨m,true,fun w=>(hN.ms w).mono ?_,fun w h1 h2=>(hN.mi w h1 h2).mono ?_,by have:=dscM_wt m;have:=hN.good.wt;omega⟩
  ·rintro e w' ⟨v,rfl,ho,hb⟩
   obtain ⟨s,rfl, -⟩:=ho.toSlc
   exact ⟨s,rfl,ho.rep.low (Nat.zero_le _),hb⟩
  ·rintro e w' ⟨v,rfl,ho,hb⟩
   obtain ⟨s,rfl, -⟩:=ho.weak.toSlc
   exact ⟨s,rfl,ho,hb⟩
 ·refine ⟨[],false,fun w=>(hN.ms w).mono ?_,fun w _ h2=>(hN.mi w h2).mono ?_,by simp [dscM]⟩
  ·rintro e w' ⟨g,rfl, -, -,hb⟩
   exact ⟨⟨some ⟨g,0,none⟩,0,0⟩,rfl,RepM.zero _ 0 w' (by omega),hb⟩
  ·rintro e w' ⟨rfl,hb⟩
   exact ⟨⟨none,0,0⟩,rfl,OwnF.nil _ _ _,hb⟩
theorem lawFnExactModelOf (nm:ByteArray) (w:World) (hg:Glob w) (hg2:Glob2 w):Calls Tryd.prog 4 #[.string nm] w fun e w'=>e = .returned (.bool true)∧Below w.heap.size w w':=by
 obtain ⟨m,b,hB⟩:=both nm
 have HG:=hide hg;have HG2:=hide hg2
 have HS:=hide (hB.s w);have HI:=hide hB.i;have HW:=hide hB.wt
 clear hg hg2 hB
 by_cases hl:(nm.size:Int) > 1048576
 ·go_enter Tryd.func4,Tryd.ntmps4
  go_wp2_with fail
  go_ret
  exact ⟨rfl,Below.refl _ _⟩
 have hl':decide ((nm.size:Int) > 1048576)=false:=decide_eq_false hl
 have hbb:(b != b)=false:=by simp
 go_enter Tryd.func4,Tryd.ntmps4
 go_wp2_with fail
 (with_reducible refine HS.out.mono ?_);rintro e w1 ⟨⟨t1,t2,t3⟩,rfl,hr1,hb1⟩
 have HB1:=hide hb1;have HR1:=hide hr1
 clear hb1 hr1 HS
 go_wp2_with fail
 (with_reducible refine (HI.out w1 (HG.out.below HB1.out) (HG2.out.below HB1.out)).mono ?_);rintro e w2 ⟨⟨s1,s2,s3⟩,rfl,ho2,hb2⟩
 have HD2:=hide ho2;have HL2:=hide hb2
 have HE:=hide (eqRuleS_any m m s1 t1 s2 s3 t2 t3 true w2 (ho2.weak.rep.low (Nat.zero_le _)) (HR1.out.below hb2) (by simp))
 clear ho2 hb2
 go_wp2_with fail
 (with_reducible refine HE.out.mono ?_);rintro e w3 ⟨rfl,hb3⟩
 have HL3:=hide (HL2.out.trans (hb3.mono HL2.out.size))
 have HK:=hide (markRuleS_any m w1.heap.size s1 s2 s3 1 w3 (OwnF.below HD2.out hb3) (by omega) (by have:=HW.out;omega))
 clear hb3 HE HD2 HL2
 go_wp2_with fail
 (with_reducible refine HK.out.mono ?_);rintro e w4 ⟨q,xs,rfl,hmk,hq,hrm,ht⟩
 have hq1:=hmk.pos
 have hqn:¬ q < 0:=by omega
 have HL4:=hide (HL3.out.trans (ht.below (fun _ h=>h) HL3.out.size))
 have HH:=hide (fun W hb=>heldRuleS_any xs s1 s2 s3 1 q W (hrm.below hb) hmk (by omega) hq)
 clear hmk hrm ht HK HL3
 go_wp2_with fail
 (with_reducible refine (HH.out w4 (Below.refl _ _)).mono ?_);rintro e w5 ⟨rfl,hb5⟩
 have HL5:=hide (HL4.out.trans (hb5.mono HL4.out.size))
 have HB5:=hide (HB1.out.trans (HL5.out.mono HB1.out.size))
 have H5:=hide hb5
 clear hb5
 go_wp2_with fail
 (with_reducible refine (HI.out w5 (HG.out.below HB5.out) (HG2.out.below HB5.out)).mono ?_);rintro e w6 ⟨⟨p1,p2,p3⟩,rfl,ho6,hb6⟩
 have H6:=hide (H5.out.trans (hb6.mono H5.out.size))
 have HL6:=hide (HL5.out.trans (hb6.mono HL5.out.size))
 have HE:=hide (eqRuleS_any m m p1 t1 p2 p3 t2 t3 true w6 (ho6.weak.rep.low (Nat.zero_le _)) (HR1.out.below HL6.out) (by simp))
 clear ho6 hb6
 go_wp2_with fail
 (with_reducible refine HE.out.mono ?_);rintro e w7 ⟨rfl,hb7⟩
 have H7:=hide (H6.out.trans (hb7.mono H6.out.size))
 have HL7:=hide (HL6.out.trans (hb7.mono HL6.out.size))
 clear hb7 HE
 go_wp2_with fail
 (with_reducible refine (HH.out w7 H7.out).mono ?_);rintro e w8 ⟨rfl,hb8⟩
 have HL8:=hide (HL7.out.trans (hb8.mono HL7.out.size))
 clear hb8
 go_wp2_with fail
 go_ret
 exact ⟨rfl,HB1.out.trans (HL8.out.mono HB1.out.size)⟩
end Go.Proofs.YtfbgppkdnfljhaaDoor