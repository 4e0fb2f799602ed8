/-
  How many candidates a model allows. No condition.
-/
import Derived.Test.YtfbgppkdnfljhaaGreatDoorZt39
import Derived.Test.YtfbgppkdnfljhaaGreatDoorZt38
import Derived.Test.YtfbgppkdnfljhaaGreatDoorZt36
set_option maxHeartbeats 6400000
set_option maxRecDepth 100000
namespace Go.Proofs.YtfbgppkdnfljhaaGreatDoor
open Go.RowKit
theorem word_at {k:Int} (h:k=1∨k=2∨k=3):∃ q:Nat,k=(q:Int)∧1≤q∧q≤3∧wordsR[q]? = some (wordR k)∧∀ j z,j < q→wordsR[j]? = some z→((wordR k).toList==z.toList)=false:=by
 rcases h with rfl | rfl | rfl
 ·refine ⟨1,rfl,by decide,by decide,rfl,fun j z hj hz => ?_⟩
  have:j=0:=by omega
  subst this;cases hz;decide +kernel
 ·refine ⟨2,rfl,by decide,by decide,rfl,fun j z hj hz => ?_⟩
  have:j=0∨j=1:=by omega
  rcases this with rfl | rfl <;> (cases hz;decide +kernel)
 ·refine ⟨3,rfl,by decide,by decide,rfl,fun j z hj hz => ?_⟩
  have:j=0∨j=1∨j=2:=by omega
  rcases this with rfl | rfl | rfl <;> (cases hz;decide +kernel)
theorem ParseModel_ok (s:ByteArray) (m:List Ru) (hg:GoodMI s m) (w:World) (hgl:Glob w) (hg2:Glob2 w):Calls Tryz.prog 69 #[.string s] w (RetPM w m):=by
 obtain ⟨hsz,hlen,hpart,hok,htx,hwt⟩:=hg
 have hml:1≤m.length∧m.length≤5:=by
  unfold modelOk at hok
  simp only [Bool.and_eq_true,decide_eq_true_eq,List.all_eq_true] at hok
  exact ⟨hok.1,hok.2.1⟩
 obtain ⟨hm1,hm5⟩:=hml
 have HC1:=hide (strSplit_one s 47 w hsz)
 have HT:=hide (fun (a:Option Addr) (n c:Nat) (W:World) (h:RepM 0 W ⟨a,n,c⟩ m) g1 g2=>FormatModel_any a n c m W h hok g1 g2)
 rw [htx] at HT
 have hss:(s.toList==s.toList)=true:=by simp
 have HP:=hide hpart
 have HL:Hid (m.length=(piecesM s).length):=hide hlen.symm
 have HG:=hide hgl;have HG2:=hide hg2
 clear hpart hok htx hwt hlen hgl hg2
 have HC1':Hid (Calls Tryz.prog 120 #[.string s, .string ⟨#[47]⟩] w (RetOwn StrE 9 w (piecesM s))):=HC1
 clear HC1
 generalize piecesM s=ps at *
 generalize hn:m.length=n at *
 have HN:=hide hn
 have HPN:Hid (ps.length=n):=hide HL.out.symm
 clear hn HL
 go_enter Tryz.func69,Tryz.ntmps69
 go_wp2_with fail
 (with_reducible refine HC1'.out.mono ?_);rintro e w1 ⟨v5,rfl,ho5,hb1⟩
 have HB1:=hide hb1
 rcases ho5.shape with ⟨-,h0⟩ | ⟨g5,c5,rfl,hg5,hgl5,hc5,hc5'⟩
 ·exfalso;have:=HPN.out;rw [h0] at this;simp at this;omega
 rw [HPN.out] at ho5 hc5 ⊢
 have HPS:=hide (LocR.own (T:=54) (by decide) ho5)
 have HO1:=hide (OwnF.nil (E:=UsE) (R:=Rany) (φ:=PhiM) 54 w1 w.heap.size)
 clear ho5 hb1
 go_wp2_with fail
 go_loopw [4,16] (fun v i wr => ∃ (k:Nat) (a:Option Addr) (nn cc:Nat),i = .int .i64 k∧k≤n∧v = .slice a nn cc∧OwnM wr w.heap.size (.slice a nn cc) (m.take k)∧Below w.heap.size w wr∧LocR 54 w.heap.size w1.heap.size wr (fun W=>Own StrE 9 W w.heap.size (.slice (some ⟨g5,0,none⟩) n c5) ps)) (fun _ i _=>n - (intOf i).toNat)
 case atStart=>exact ⟨0,_,0,0,rfl,Nat.zero_le _,rfl,HO1.out,HB1.out,HPS.out⟩
 case round =>
  obtain ⟨k,a4,n4,c4,rfl,hk,rfl,ho,hb,hps⟩:=hrel
  have hki:(k:Int)≤5:=by omega
  by_cases hlt:k < n
  ·have hlt':=nat_of_lt hlt
   obtain ⟨x,hx⟩:=get_of_lt (xs:=ps) (k:=k) (by rw [HPN.out];exact hlt)
   obtain ⟨r,hr⟩:=get_of_lt (xs:=m) (k:=k) (by rw [HN.out];exact hlt)
   obtain ⟨hxs,t,hct,hpt,hvt,htt,ht0,ht3,hkd⟩:=HP.out k x r hx hr
   have cx:=hps.now.cell (j:=0) (u:=.string x) hx rfl
   simp only [StrE,Nat.mul_one,Nat.add_zero] at cx
   have cl:=lt_of_cell cx
   have HC2:=hide (fun W=>strCut_one x 32 W hxs)
   rw [hct] at HC2
   have HPE:=hide (fun W hg=>ParseRelExpr_ok t ht3 60 r.e hpt hvt htt ht0 W hg)
   obtain ⟨q,hq,hq1,hq3,hqw,hqn⟩:=word_at hkd
   have HIX:=hide (fun W (h:Rep StrE W (.slice (some ⟨0,0,none⟩) 4 4) wordsR)=>IndexS_at _ wordsR (wordR r.kind) (wordR r.kind) q W h hqw (by simp) hqn)
   have HQ:=hide hq
   have HPS2:=hide hps
   have HO:=hide ho
   have HB:=hide hb
   have HR:=hide hr
   have hqz:decide ((q:Int) < 1)=false:=decide_eq_false (by omega)
   have hq5:q≤3:=hq3
   clear hct hpt hvt htt hq hps ho hb hx hr hxs hkd hqw hqn
   generalize wordR r.kind=wd at *
   go_wp2_with fail
   (with_reducible refine (HC2.out _).mono ?_);rintro e w2 ⟨rfl,hb2⟩
   have HB2:=hide (HB.out.trans (hb2.mono HB.out.size))
   have HBr2:=hide hb2
   clear hb2 cx cl
   go_wp2_with fail
   (with_reducible refine (HIX.out _ (HG2.out.below HB2.out).rep).mono ?_);rintro e w3 ⟨rfl,rfl⟩
   go_wp2_with fail
   (with_reducible refine (HPE.out _ (HG.out.below HB2.out)).mono ?_);rintro e w5 ⟨s5,rfl,own,hb5⟩
   have HA5:=belowAlloc w5 (.cells #[.int .i64 r.e.op, .string r.e.nm, .slice s5.a s5.n s5.cap] 52)
   have hsz5:=hb5.size
   have hszr:=HBr2.out.size
   have hsw:=HB.out.size
   have HBr6:=hide (HBr2.out.trans ((hb5.trans (HA5.mono hsz5)).mono hszr))
   have BX:=hide (BoxR.new w5 r.e.op r.e.nm s5 52)
   have OWN:=hide (own.bel HA5)
   have hz6:(w5.alloc (.cells #[.int .i64 r.e.op, .string r.e.nm, .slice s5.a s5.n s5.cap] 52)).heap.size=w5.heap.size+1:=by simp
   obtain ⟨us,ds,hO⟩:=HO.out
   have HO7:=hide (hO.below HBr6.out)
   have HPS7:=hide (HPS2.out.below HBr6.out)
   have hlu:us.length≤68719476736:=by have:=hO.lu;rw [List.length_take] at this;have:=HN.out;omega
   clear hO own hb5 HA5
   generalize hW6:w5.alloc (.cells #[.int .i64 r.e.op, .string r.e.nm, .slice s5.a s5.n s5.cap] 52)=w6 at *
   obtain ⟨el,e0,e1,e2, -⟩:=BX.out
   have HO2:=hide (HO7.out.below (belowAlloc w6 (.cells #[.int .i64 q, .int .i64 r.e.op, .string r.e.nm, .slice s5.a s5.n s5.cap] 54)))
   go_wp2_with (at_builtin;refine wpList_app UsE 54 Tryz.infoRule rfl Tryz.underlying30 w.heap.size _ us ⟨q,r.e.op,r.e.nm,s5⟩ HO2.out.own (by decide) hlu (by simp;omega) rfl _ _ rfl rfl (w5.heap.size+1) 0 1 rfl (news_allocV hz6) ?_;intro v' w8 ho8 hgr8)
   clear hW6
   have hq:=HQ.out
   rw [← hq] at ho8
   have hb8:=below_app (HB.out.trans (HBr6.out.mono HB.out.size)) HO7.out.own hgr8
   have hl8:=(HPS7.out.below (belowAlloc _ _)).grown HO2.out.own hgr8
   have hn8:=OwnR.locM (lo:=w2.heap.size) (hi:=w5.heap.size) (r:=r) (OWN.out.bel (belowAlloc _ (.cells #[.int .i64 q, .int .i64 r.e.op, .string r.e.nm, .slice s5.a s5.n s5.cap] 54))) (by simp;omega)
   have hm8:=OwnM.app HO2.out hn8 (by omega) ho8 hgr8
   rw [show m.take k++[r]=m.take (k+1) by rw [List.take_add_one,HR.out];rfl] at hm8
   obtain ⟨s8,rfl, -⟩:=hm8.toSlc
   go_roundw
   case rel=>exact ⟨k+1,s8.a,s8.n,s8.cap,by go_num,by omega,rfl,hm8,hb8,hl8⟩
   case measure=>simp [intOf];omega
  ·have hkn:k=n:=by omega
   have hkf:¬ (k:Int) < (n:Int):=by omega
   rw [hkn,← HN.out,List.take_length] at ho
   have hrp:=ho.rep
   have HTT:=hide (HT.out a4 n4 c4 wr (hrp.low (Nat.zero_le _)) (HG.out.below hb) (HG2.out.below hb))
   have HO:=hide ho
   have HB:=hide hb
   clear hrp ho hb hps hkn hlt
   go_wp2_with fail
   (with_reducible refine HTT.out.mono ?_);rintro e w3 ⟨rfl,hb3⟩
   have HB3:=hide (HB.out.trans (hb3.mono HB.out.size))
   have HO3:=hide (OwnF.below HO.out hb3)
   clear hb3
   go_wp2_with fail
   refine bodyPost_ret (v:=.tuple #[.slice a4 n4 c4, .bool true]) (by simp [results,Tryz.results69,go_sem, *]) rfl ⟨_,rfl,HO3.out,HB3.out⟩
end Go.Proofs.YtfbgppkdnfljhaaGreatDoor
namespace Go.Proofs.YtfbgppkdnfljhaaGreatDoor
open Go.RowKit
def namesM:List ByteArray:=[⟨#[115,101,113]⟩,⟨#[116,115,111]⟩,⟨#[112,115,111]⟩,⟨#[114,97]⟩,⟨#[108,111,99]⟩]
def modsM:List (List Ru):=[mSeq,mTso,mPso,mRa,mLoc]
theorem ModelText_seq (w:World):Calls Tryz.prog 70 #[.string ⟨#[115,101,113]⟩] w fun e w'=>e = .returned (.string txSeq)∧w=w':=by
 have n0:((⟨#[115,101,113]⟩:ByteArray).toList==[115,101,113])=true:=by kernel_rfl
 go_enter Tryz.func70,Tryz.ntmps70
 go_wp2_with fail
 go_ret
 exact ⟨rfl,rfl⟩
theorem ModelText_tso (w:World):Calls Tryz.prog 70 #[.string ⟨#[116,115,111]⟩] w fun e w'=>e = .returned (.string txTso)∧w=w':=by
 have n0:((⟨#[116,115,111]⟩:ByteArray).toList==[115,101,113])=false:=by kernel_rfl
 have n1:((⟨#[116,115,111]⟩:ByteArray).toList==[116,115,111])=true:=by kernel_rfl
 go_enter Tryz.func70,Tryz.ntmps70
 go_wp2_with fail
 go_ret
 exact ⟨rfl,rfl⟩
theorem ModelText_pso (w:World):Calls Tryz.prog 70 #[.string ⟨#[112,115,111]⟩] w fun e w'=>e = .returned (.string txPso)∧w=w':=by
 have n0:((⟨#[112,115,111]⟩:ByteArray).toList==[115,101,113])=false:=by kernel_rfl
 have n1:((⟨#[112,115,111]⟩:ByteArray).toList==[116,115,111])=false:=by kernel_rfl
 have n2:((⟨#[112,115,111]⟩:ByteArray).toList==[112,115,111])=true:=by kernel_rfl
 go_enter Tryz.func70,Tryz.ntmps70
 go_wp2_with fail
 go_ret
 exact ⟨rfl,rfl⟩
theorem ModelText_ra (w:World):Calls Tryz.prog 70 #[.string ⟨#[114,97]⟩] w fun e w'=>e = .returned (.string txRa)∧w=w':=by
 have n0:((⟨#[114,97]⟩:ByteArray).toList==[115,101,113])=false:=by kernel_rfl
 have n1:((⟨#[114,97]⟩:ByteArray).toList==[116,115,111])=false:=by kernel_rfl
 have n2:((⟨#[114,97]⟩:ByteArray).toList==[112,115,111])=false:=by kernel_rfl
 have n3:((⟨#[114,97]⟩:ByteArray).toList==[114,97])=true:=by kernel_rfl
 go_enter Tryz.func70,Tryz.ntmps70
 go_wp2_with fail
 go_ret
 exact ⟨rfl,rfl⟩
theorem ModelText_loc (w:World):Calls Tryz.prog 70 #[.string ⟨#[108,111,99]⟩] w fun e w'=>e = .returned (.string txLoc)∧w=w':=by
 have n0:((⟨#[108,111,99]⟩:ByteArray).toList==[115,101,113])=false:=by kernel_rfl
 have n1:((⟨#[108,111,99]⟩:ByteArray).toList==[116,115,111])=false:=by kernel_rfl
 have n2:((⟨#[108,111,99]⟩:ByteArray).toList==[112,115,111])=false:=by kernel_rfl
 have n3:((⟨#[108,111,99]⟩:ByteArray).toList==[114,97])=false:=by kernel_rfl
 have n4:((⟨#[108,111,99]⟩:ByteArray).toList==[108,111,99])=true:=by kernel_rfl
 go_enter Tryz.func70,Tryz.ntmps70
 go_wp2_with fail
 go_ret
 exact ⟨rfl,rfl⟩
theorem ModelOf_of (nm tx:ByteArray) (m:List Ru) (hm:GoodMI tx m) (ht:∀ w,Calls Tryz.prog 70 #[.string nm] w fun e w'=>e = .returned (.string tx)∧w=w') (w:World) (hg:Glob w) (hg2:Glob2 w):Calls Tryz.prog 25 #[.string nm] w (RetPM w m):=by
 have HT:=hide (ht w)
 have HP:=hide (ParseModel_ok tx m hm w hg hg2)
 clear hm ht hg hg2
 go_enter Tryz.func25,Tryz.ntmps25
 go_wp2_with fail
 (with_reducible refine HT.out.mono ?_);rintro e w1 ⟨rfl,rfl⟩
 go_wp2_with fail
 (with_reducible refine HP.out.mono ?_);rintro e w2 ⟨v,rfl,ho,hb⟩
 have HO:=hide ho;have HB:=hide hb
 clear ho hb
 obtain ⟨s,rfl, -⟩:=HO.out.toSlc
 go_wp2_with fail
 refine bodyPost_ret (v:=.tuple #[.slice s.a s.n s.cap, .bool true]) (by simp [results,Tryz.results25,go_sem, *]) rfl ⟨_,rfl,HO.out,HB.out⟩
theorem ModelOf_at {k:Nat} {nm:ByteArray} {m:List Ru} (hn:namesM[k]? = some nm) (hm:modsM[k]? = some m) (w:World) (hg:Glob w) (hg2:Glob2 w):Calls Tryz.prog 25 #[.string nm] w (RetPM w m):=by
 have hk:k < 5:=(List.getElem?_eq_some_iff.1 hn).1
 have:k=0∨k=1∨k=2∨k=3∨k=4:=by omega
 rcases this with rfl | rfl | rfl | rfl | rfl
 ·cases hn;cases hm;exact ModelOf_of _ _ _ seq_good ModelText_seq w hg hg2
 ·cases hn;cases hm;exact ModelOf_of _ _ _ tso_good ModelText_tso w hg hg2
 ·cases hn;cases hm;exact ModelOf_of _ _ _ pso_good ModelText_pso w hg hg2
 ·cases hn;cases hm;exact ModelOf_of _ _ _ ra_good ModelText_ra w hg hg2
 ·cases hn;cases hm;exact ModelOf_of _ _ _ loc_good ModelText_loc w hg hg2
end Go.Proofs.YtfbgppkdnfljhaaGreatDoor
namespace Go.Proofs.YtfbgppkdnfljhaaGreatDoor
open Go.RowKit
def lenA (P:List (List Ins)) (m:List Ru):Int:=((allowV P m).length:Int)
theorem RowsX.lenM {w:World} {base:Nat} {a:Option Addr} {n c:Nat} {L:List Xc} (h:RowsX w base (.slice a n c) L):n=L.length:=by
 rcases h.shape with ⟨h1,h2⟩ | ⟨g,cap,h1, -⟩
 ·simp only [Value.slice.injEq] at h1;rw [h1.2.1,h2];rfl
 ·simp only [Value.slice.injEq] at h1;exact h1.2.1
theorem boundX {w:World} {base:Nat} {a:Option Addr} {n c:Nat} {L:List Xc} (h:RowsX w base (.slice a n c) L):L.length≤maxLen:=by
 obtain ⟨us,ds,h⟩:=h
 have:=h.lu
 rcases h.own.shape with ⟨_,h2⟩ | ⟨g,cap,_,_,_,h5,h6⟩
 ·rw [h2] at this;simp at this;omega
 ·omega
end Go.Proofs.YtfbgppkdnfljhaaGreatDoor