/-
  The walk of FnModelOrder: it answers true and turns nothing that was there. No condition but the bytes' own, and the listed variables' cells.
-/
import Derived.Test.YtfbgppkdnfljhaaGreatDoorZj45
import Derived.Test.YtfbgppkdnfljhaaGreatDoorZj36
import Derived.Test.YtfbgppkdnfljhaaGreatDoorZj39
import Derived.Test.YtfbgppkdnfljhaaGreatDoorZj37
import Derived.Test.YtfbgppkdnfljhaaGreatDoorZj40
set_option maxHeartbeats 6400000
set_option maxRecDepth 100000
namespace Go.Proofs.YtfbgppkdnfljhaaGreatDoor
def GoodPI (x:ByteArray) (r:Ru):Prop:=x.size≤900∧∃ t:ByteArray,cutS x 32=(wordR r.kind,t,true)∧pI 60 (.level 3) t.data.toList false=some (r.e,[],false)∧validR r.e=true∧textR 12 r.e=t∧0 < t.size∧t.size≤300∧(r.kind=1∨r.kind=2∨r.kind=3)
def piecesM (s:ByteArray):List ByteArray:=Lib.splitB ⟨#[47]⟩ 0 (Lib.countB s ⟨#[47]⟩) s
structure GoodMI (s:ByteArray) (m:List Ru):Prop where
 sz:s.size≤900
 len:(piecesM s).length=m.length
 part:∀ (i:Nat) (x:ByteArray) (r:Ru),(piecesM s)[i]? = some x→m[i]? = some r→GoodPI x r
 ok:modelOk m=true
 text:joinT m=s
 wt:wtM m≤100000
def partI (x:ByteArray):Option Ru:=
 match cutS x 32 with
 | (w,t,true)=>match pI 60 (.level 3) t.data.toList false with
  | some (c,[],false)=>if (validR c&&((textR 12 c).data.toList==t.data.toList)&&decide (0 < t.size)&&decide (t.size≤300)&&decide (x.size≤900) && !(kindW w.data.toList==0))=true then some ⟨kindW w.data.toList,c⟩ else none
  | _=>none
 | _=>none
def allI:List ByteArray→Option (List Ru)
 | []=>some []
 | x :: xs=>match partI x with
  | none=>none
  | some r=>match allI xs with
   | none=>none
   | some rs=>some (r :: rs)
def readI (s:ByteArray):Option (List Ru):=
 match allI (piecesM s) with
 | none=>none
 | some m=>if (modelOk m&&((joinT m).data.toList==s.data.toList)&&decide (s.size≤900)&&decide (wtM m≤100000))=true then some m else none
theorem partI_good {x:ByteArray} {r:Ru} (h:partI x=some r):GoodPI x r:=by
 unfold partI at h
 split at h
 ·rename_i w t hc
  split at h
  ·rename_i c hp
   split at h
   ·rename_i hb
    simp only [Bool.and_eq_true,decide_eq_true_eq,Bool.not_eq_true'] at hb
    obtain ⟨⟨⟨⟨⟨b2,b3⟩,b4⟩,b5⟩,b6⟩,b7⟩:=hb
    obtain ⟨k1,k2⟩:=kindW_word b7
    simp only [Option.some.injEq] at h
    subst h
    refine ⟨b6,t, ?_,hp,b2,bytes_ext b3,b4,b5,k1⟩
    rw [hc]
    have:wordR (kindW w.data.toList)=w:=bytes_ext (by simpa using k2)
    rw [this]
   ·cases h
  ·cases h
 ·cases h
theorem allI_good:∀ {xs:List ByteArray} {m:List Ru},allI xs=some m→xs.length=m.length∧∀ (i:Nat) (x:ByteArray) (r:Ru),xs[i]? = some x→m[i]? = some r→GoodPI x r:=by
 intro xs
 induction xs with
 | nil=>intro m h;simp [allI] at h;subst h;exact ⟨rfl,fun i x r h=>by simp at h⟩
 | cons y ys ih =>
  intro m h
  unfold allI at h
  split at h
  ·cases h
  ·rename_i r hr
   split at h
   ·cases h
   ·rename_i rs hrs
    simp only [Option.some.injEq] at h
    subst h
    obtain ⟨e1,e2⟩:=ih hrs
    refine ⟨by simp [e1],fun i x q hx hq => ?_⟩
    cases i with
    | zero=>simp at hx hq;subst hx;subst hq;exact partI_good hr
    | succ i=>simp at hx hq;exact e2 i x q hx hq
theorem readI_good {s:ByteArray} {m:List Ru} (h:readI s=some m):GoodMI s m:=by
 unfold readI at h
 split at h
 ·cases h
 ·rename_i m' hm
  split at h
  ·rename_i hb
   simp only [Bool.and_eq_true,decide_eq_true_eq] at hb
   obtain ⟨⟨⟨b1,b2⟩,b3⟩,b4⟩:=hb
   simp only [Option.some.injEq] at h
   subst h
   obtain ⟨e1,e2⟩:=allI_good hm
   exact ⟨b3,e1,e2,b1,bytes_ext b2,b4⟩
  ·cases h
def txTso:ByteArray:=⟨#[97,99,121,99,108,105,99,32,112,111,38,108,111,99,124,114,102,124,99,111,124,102,114,47,97,99,121,99,108,105,99,32,112,111,45,119,114,124,102,101,110,99,101,124,114,102,38,101,120,116,124,99,111,124,102,114,47,105,114,114,101,102,32,102,114,59,99,111]⟩
def txPso:ByteArray:=⟨#[97,99,121,99,108,105,99,32,112,111,38,108,111,99,124,114,102,124,99,111,124,102,114,47,97,99,121,99,108,105,99,32,112,111,45,40,119,114,124,119,119,41,124,102,101,110,99,101,124,114,102,38,101,120,116,124,99,111,124,102,114,47,105,114,114,101,102,32,102,114,59,99,111]⟩
def txRa:ByteArray:=⟨#[97,99,121,99,108,105,99,32,112,111,124,114,102,47,97,99,121,99,108,105,99,32,43,40,112,111,124,114,102,41,38,108,111,99,124,99,111,124,102,114,47,105,114,114,101,102,32,102,114,59,99,111]⟩
def txLoc:ByteArray:=⟨#[97,99,121,99,108,105,99,32,112,111,38,108,111,99,124,114,102,124,99,111,124,102,114]⟩
theorem seq_good:GoodMI txSeq mSeq:=readI_good (by kernel_rfl)
theorem tso_good:GoodMI txTso mTso:=readI_good (by kernel_rfl)
theorem pso_good:GoodMI txPso mPso:=readI_good (by kernel_rfl)
theorem ra_good:GoodMI txRa mRa:=readI_good (by kernel_rfl)
theorem loc_good:GoodMI txLoc mLoc:=readI_good (by kernel_rfl)
end Go.Proofs.YtfbgppkdnfljhaaGreatDoor
namespace Go.Proofs.YtfbgppkdnfljhaaGreatDoor
open Go.RowKit
theorem word_at {k:Int} (h:k=1∨k=2∨k=3):∃ q:Nat,k=(q:Int)∧1≤q∧q≤3∧wordsR[q]? = some (wordR k)∧∀ j z,j < q→wordsR[j]? = some z→((wordR k).toList==z.toList)=false:=by
 rcases h with rfl | rfl | rfl
 ·refine ⟨1,rfl,by decide,by decide,rfl,fun j z hj hz => ?_⟩
  have:j=0:=by omega
  subst this;cases hz;decide +kernel
 ·refine ⟨2,rfl,by decide,by decide,rfl,fun j z hj hz => ?_⟩
  have:j=0∨j=1:=by omega
  rcases this with rfl | rfl <;> (cases hz;decide +kernel)
 ·refine ⟨3,rfl,by decide,by decide,rfl,fun j z hj hz => ?_⟩
  have:j=0∨j=1∨j=2:=by omega
  rcases this with rfl | rfl | rfl <;> (cases hz;decide +kernel)
theorem ParseModel_ok (s:ByteArray) (m:List Ru) (hg:GoodMI s m) (w:World) (hgl:Glob w) (hg2:Glob2 w):Calls Tryz.prog 69 #[.string s] w (RetPM w m):=by
 obtain ⟨hsz,hlen,hpart,hok,htx,hwt⟩:=hg
 have hml:1≤m.length∧m.length≤5:=by
  unfold modelOk at hok
  simp only [Bool.and_eq_true,decide_eq_true_eq,List.all_eq_true] at hok
  exact ⟨hok.1,hok.2.1⟩
 obtain ⟨hm1,hm5⟩:=hml
 have HC1:=hide (strSplit_one s 47 w hsz)
 have HT:=hide (fun (a:Option Addr) (n c:Nat) (W:World) (h:RepM 0 W ⟨a,n,c⟩ m) g1 g2=>FormatModel_any a n c m W h hok g1 g2)
 rw [htx] at HT
 have hss:(s.toList==s.toList)=true:=by simp
 have HP:=hide hpart
 have HL:Hid (m.length=(piecesM s).length):=hide hlen.symm
 have HG:=hide hgl;have HG2:=hide hg2
 clear hpart hok htx hwt hlen hgl hg2
 have HC1':Hid (Calls Tryz.prog 120 #[.string s, .string ⟨#[47]⟩] w (RetOwn StrE 9 w (piecesM s))):=HC1
 clear HC1
 generalize piecesM s=ps at *
 generalize hn:m.length=n at *
 have HN:=hide hn
 have HPN:Hid (ps.length=n):=hide HL.out.symm
 clear hn HL
 go_enter Tryz.func69,Tryz.ntmps69
 go_wp2_with fail
 (with_reducible refine HC1'.out.mono ?_);rintro e w1 ⟨v5,rfl,ho5,hb1⟩
 have HB1:=hide hb1
 rcases ho5.shape with ⟨-,h0⟩ | ⟨g5,c5,rfl,hg5,hgl5,hc5,hc5'⟩
 ·exfalso;have:=HPN.out;rw [h0] at this;simp at this;omega
 rw [HPN.out] at ho5 hc5 ⊢
 have HPS:=hide (LocR.own (T:=54) (by decide) ho5)
 have HO1:=hide (OwnF.nil (E:=UsE) (R:=Rany) (φ:=PhiM) 54 w1 w.heap.size)
 clear ho5 hb1
 go_wp2_with fail
 go_loopw [4,16] (fun v i wr => ∃ (k:Nat) (a:Option Addr) (nn cc:Nat),i = .int .i64 k∧k≤n∧v = .slice a nn cc∧OwnM wr w.heap.size (.slice a nn cc) (m.take k)∧Below w.heap.size w wr∧LocR 54 w.heap.size w1.heap.size wr (fun W=>Own StrE 9 W w.heap.size (.slice (some ⟨g5,0,none⟩) n c5) ps)) (fun _ i _=>n - (intOf i).toNat)
 case atStart=>exact ⟨0,_,0,0,rfl,Nat.zero_le _,rfl,HO1.out,HB1.out,HPS.out⟩
 case round =>
  obtain ⟨k,a4,n4,c4,rfl,hk,rfl,ho,hb,hps⟩:=hrel
  have hki:(k:Int)≤5:=by omega
  by_cases hlt:k < n
  ·have hlt':=nat_of_lt hlt
   obtain ⟨x,hx⟩:=get_of_lt (xs:=ps) (k:=k) (by rw [HPN.out];exact hlt)
   obtain ⟨r,hr⟩:=get_of_lt (xs:=m) (k:=k) (by rw [HN.out];exact hlt)
   obtain ⟨hxs,t,hct,hpt,hvt,htt,ht0,ht3,hkd⟩:=HP.out k x r hx hr
   have cx:=hps.now.cell (j:=0) (u:=.string x) hx rfl
   simp only [StrE,Nat.mul_one,Nat.add_zero] at cx
   have cl:=lt_of_cell cx
   have HC2:=hide (fun W=>strCut_one x 32 W hxs)
   rw [hct] at HC2
   have HPE:=hide (fun W hg=>ParseRelExpr_ok t ht3 60 r.e hpt hvt htt ht0 W hg)
   obtain ⟨q,hq,hq1,hq3,hqw,hqn⟩:=word_at hkd
   have HIX:=hide (fun W (h:Rep StrE W (.slice (some ⟨0,0,none⟩) 4 4) wordsR)=>IndexS_at _ wordsR (wordR r.kind) (wordR r.kind) q W h hqw (by simp) hqn)
   have HQ:=hide hq
   have HPS2:=hide hps
   have HO:=hide ho
   have HB:=hide hb
   have HR:=hide hr
   have hqz:decide ((q:Int) < 1)=false:=decide_eq_false (by omega)
   have hq5:q≤3:=hq3
   clear hct hpt hvt htt hq hps ho hb hx hr hxs hkd hqw hqn
   generalize wordR r.kind=wd at *
   go_wp2_with fail
   (with_reducible refine (HC2.out _).mono ?_);rintro e w2 ⟨rfl,hb2⟩
   have HB2:=hide (HB.out.trans (hb2.mono HB.out.size))
   have HBr2:=hide hb2
   clear hb2 cx cl
   go_wp2_with fail
   (with_reducible refine (HIX.out _ (HG2.out.below HB2.out).rep).mono ?_);rintro e w3 ⟨rfl,rfl⟩
   go_wp2_with fail
   (with_reducible refine (HPE.out _ (HG.out.below HB2.out)).mono ?_);rintro e w5 ⟨s5,rfl,own,hb5⟩
   have HA5:=belowAlloc w5 (.cells #[.int .i64 r.e.op, .string r.e.nm, .slice s5.a s5.n s5.cap] 52)
   have hsz5:=hb5.size
   have hszr:=HBr2.out.size
   have hsw:=HB.out.size
   have HBr6:=hide (HBr2.out.trans ((hb5.trans (HA5.mono hsz5)).mono hszr))
   have BX:=hide (BoxR.new w5 r.e.op r.e.nm s5 52)
   have OWN:=hide (own.bel HA5)
   have hz6:(w5.alloc (.cells #[.int .i64 r.e.op, .string r.e.nm, .slice s5.a s5.n s5.cap] 52)).heap.size=w5.heap.size+1:=by simp
   obtain ⟨us,ds,hO⟩:=HO.out
   have HO7:=hide (hO.below HBr6.out)
   have HPS7:=hide (HPS2.out.below HBr6.out)
   have hlu:us.length≤68719476736:=by have:=hO.lu;rw [List.length_take] at this;have:=HN.out;omega
   clear hO own hb5 HA5
   generalize hW6:w5.alloc (.cells #[.int .i64 r.e.op, .string r.e.nm, .slice s5.a s5.n s5.cap] 52)=w6 at *
   obtain ⟨el,e0,e1,e2, -⟩:=BX.out
   have HO2:=hide (HO7.out.below (belowAlloc w6 (.cells #[.int .i64 q, .int .i64 r.e.op, .string r.e.nm, .slice s5.a s5.n s5.cap] 54)))
   go_wp2_with (at_builtin;refine wpList_app UsE 54 Tryz.infoRule rfl Tryz.underlying30 w.heap.size _ us ⟨q,r.e.op,r.e.nm,s5⟩ HO2.out.own (by decide) hlu (by simp;omega) rfl _ _ rfl rfl (w5.heap.size+1) 0 1 rfl (news_allocV hz6) ?_;intro v' w8 ho8 hgr8)
   clear hW6
   have hq:=HQ.out
   rw [← hq] at ho8
   have hb8:=below_app (HB.out.trans (HBr6.out.mono HB.out.size)) HO7.out.own hgr8
   have hl8:=(HPS7.out.below (belowAlloc _ _)).grown HO2.out.own hgr8
   have hn8:=OwnR.locM (lo:=w2.heap.size) (hi:=w5.heap.size) (r:=r) (OWN.out.bel (belowAlloc _ (.cells #[.int .i64 q, .int .i64 r.e.op, .string r.e.nm, .slice s5.a s5.n s5.cap] 54))) (by simp;omega)
   have hm8:=OwnM.app HO2.out hn8 (by omega) ho8 hgr8
   rw [show m.take k++[r]=m.take (k+1) by rw [List.take_add_one,HR.out];rfl] at hm8
   obtain ⟨s8,rfl, -⟩:=hm8.toSlc
   go_roundw
   case rel=>exact ⟨k+1,s8.a,s8.n,s8.cap,by go_num,by omega,rfl,hm8,hb8,hl8⟩
   case measure=>simp [intOf];omega
  ·have hkn:k=n:=by omega
   have hkf:¬ (k:Int) < (n:Int):=by omega
   rw [hkn,← HN.out,List.take_length] at ho
   have hrp:=ho.rep
   have HTT:=hide (HT.out a4 n4 c4 wr (hrp.low (Nat.zero_le _)) (HG.out.below hb) (HG2.out.below hb))
   have HO:=hide ho
   have HB:=hide hb
   clear hrp ho hb hps hkn hlt
   go_wp2_with fail
   (with_reducible refine HTT.out.mono ?_);rintro e w3 ⟨rfl,hb3⟩
   have HB3:=hide (HB.out.trans (hb3.mono HB.out.size))
   have HO3:=hide (OwnF.below HO.out hb3)
   clear hb3
   go_wp2_with fail
   refine bodyPost_ret (v:=.tuple #[.slice a4 n4 c4, .bool true]) (by simp [results,Tryz.results69,go_sem, *]) rfl ⟨_,rfl,HO3.out,HB3.out⟩
end Go.Proofs.YtfbgppkdnfljhaaGreatDoor
namespace Go.Proofs.YtfbgppkdnfljhaaGreatDoor
open Go.RowKit
def namesM:List ByteArray:=[⟨#[115,101,113]⟩,⟨#[116,115,111]⟩,⟨#[112,115,111]⟩,⟨#[114,97]⟩,⟨#[108,111,99]⟩]
def modsM:List (List Ru):=[mSeq,mTso,mPso,mRa,mLoc]
theorem ModelText_seq (w:World):Calls Tryz.prog 70 #[.string ⟨#[115,101,113]⟩] w fun e w'=>e = .returned (.string txSeq)∧w=w':=by
 have n0:((⟨#[115,101,113]⟩:ByteArray).toList==[115,101,113])=true:=by kernel_rfl
 go_enter Tryz.func70,Tryz.ntmps70
 go_wp2_with fail
 go_ret
 exact ⟨rfl,rfl⟩
theorem ModelText_tso (w:World):Calls Tryz.prog 70 #[.string ⟨#[116,115,111]⟩] w fun e w'=>e = .returned (.string txTso)∧w=w':=by
 have n0:((⟨#[116,115,111]⟩:ByteArray).toList==[115,101,113])=false:=by kernel_rfl
 have n1:((⟨#[116,115,111]⟩:ByteArray).toList==[116,115,111])=true:=by kernel_rfl
 go_enter Tryz.func70,Tryz.ntmps70
 go_wp2_with fail
 go_ret
 exact ⟨rfl,rfl⟩
theorem ModelText_pso (w:World):Calls Tryz.prog 70 #[.string ⟨#[112,115,111]⟩] w fun e w'=>e = .returned (.string txPso)∧w=w':=by
 have n0:((⟨#[112,115,111]⟩:ByteArray).toList==[115,101,113])=false:=by kernel_rfl
 have n1:((⟨#[112,115,111]⟩:ByteArray).toList==[116,115,111])=false:=by kernel_rfl
 have n2:((⟨#[112,115,111]⟩:ByteArray).toList==[112,115,111])=true:=by kernel_rfl
 go_enter Tryz.func70,Tryz.ntmps70
 go_wp2_with fail
 go_ret
 exact ⟨rfl,rfl⟩
theorem ModelText_ra (w:World):Calls Tryz.prog 70 #[.string ⟨#[114,97]⟩] w fun e w'=>e = .returned (.string txRa)∧w=w':=by
 have n0:((⟨#[114,97]⟩:ByteArray).toList==[115,101,113])=false:=by kernel_rfl
 have n1:((⟨#[114,97]⟩:ByteArray).toList==[116,115,111])=false:=by kernel_rfl
 have n2:((⟨#[114,97]⟩:ByteArray).toList==[112,115,111])=false:=by kernel_rfl
 have n3:((⟨#[114,97]⟩:ByteArray).toList==[114,97])=true:=by kernel_rfl
 go_enter Tryz.func70,Tryz.ntmps70
 go_wp2_with fail
 go_ret
 exact ⟨rfl,rfl⟩
theorem ModelText_loc (w:World):Calls Tryz.prog 70 #[.string ⟨#[108,111,99]⟩] w fun e w'=>e = .returned (.string txLoc)∧w=w':=by
 have n0:((⟨#[108,111,99]⟩:ByteArray).toList==[115,101,113])=false:=by kernel_rfl
 have n1:((⟨#[108,111,99]⟩:ByteArray).toList==[116,115,111])=false:=by kernel_rfl
 have n2:((⟨#[108,111,99]⟩:ByteArray).toList==[112,115,111])=false:=by kernel_rfl
 have n3:((⟨#[108,111,99]⟩:ByteArray).toList==[114,97])=false:=by kernel_rfl
 have n4:((⟨#[108,111,99]⟩:ByteArray).toList==[108,111,99])=true:=by kernel_rfl
 go_enter Tryz.func70,Tryz.ntmps70
 go_wp2_with fail
 go_ret
 exact ⟨rfl,rfl⟩
theorem ModelOf_of (nm tx:ByteArray) (m:List Ru) (hm:GoodMI tx m) (ht:∀ w,Calls Tryz.prog 70 #[.string nm] w fun e w'=>e = .returned (.string tx)∧w=w') (w:World) (hg:Glob w) (hg2:Glob2 w):Calls Tryz.prog 25 #[.string nm] w (RetPM w m):=by
 have HT:=hide (ht w)
 have HP:=hide (ParseModel_ok tx m hm w hg hg2)
 clear hm ht hg hg2
 go_enter Tryz.func25,Tryz.ntmps25
 go_wp2_with fail
 (with_reducible refine HT.out.mono ?_);rintro e w1 ⟨rfl,rfl⟩
 go_wp2_with fail
 (with_reducible refine HP.out.mono ?_);rintro e w2 ⟨v,rfl,ho,hb⟩
 have HO:=hide ho;have HB:=hide hb
 clear ho hb
 obtain ⟨s,rfl, -⟩:=HO.out.toSlc
 go_wp2_with fail
 refine bodyPost_ret (v:=.tuple #[.slice s.a s.n s.cap, .bool true]) (by simp [results,Tryz.results25,go_sem, *]) rfl ⟨_,rfl,HO.out,HB.out⟩
theorem ModelOf_at {k:Nat} {nm:ByteArray} {m:List Ru} (hn:namesM[k]? = some nm) (hm:modsM[k]? = some m) (w:World) (hg:Glob w) (hg2:Glob2 w):Calls Tryz.prog 25 #[.string nm] w (RetPM w m):=by
 have hk:k < 5:=(List.getElem?_eq_some_iff.1 hn).1
 have:k=0∨k=1∨k=2∨k=3∨k=4:=by omega
 rcases this with rfl | rfl | rfl | rfl | rfl
 ·cases hn;cases hm;exact ModelOf_of _ _ _ seq_good ModelText_seq w hg hg2
 ·cases hn;cases hm;exact ModelOf_of _ _ _ tso_good ModelText_tso w hg hg2
 ·cases hn;cases hm;exact ModelOf_of _ _ _ pso_good ModelText_pso w hg hg2
 ·cases hn;cases hm;exact ModelOf_of _ _ _ ra_good ModelText_ra w hg hg2
 ·cases hn;cases hm;exact ModelOf_of _ _ _ loc_good ModelText_loc w hg hg2
theorem modsM_ok {k:Nat} {m:List Ru} (hm:modsM[k]? = some m):modelOk m=true∧wtM m≤100000:=by
 have hk:k < 5:=(List.getElem?_eq_some_iff.1 hm).1
 have:k=0∨k=1∨k=2∨k=3∨k=4:=by omega
 rcases this with rfl | rfl | rfl | rfl | rfl
 ·cases hm;exact ⟨seq_good.ok,seq_good.wt⟩
 ·cases hm;exact ⟨tso_good.ok,tso_good.wt⟩
 ·cases hm;exact ⟨pso_good.ok,pso_good.wt⟩
 ·cases hm;exact ⟨ra_good.ok,ra_good.wt⟩
 ·cases hm;exact ⟨loc_good.ok,loc_good.wt⟩
end Go.Proofs.YtfbgppkdnfljhaaGreatDoor
namespace Go.Proofs.YtfbgppkdnfljhaaGreatDoor
open Go.RowKit
def lenA (P:List (List Ins)) (m:List Ru):Int:=((allowV P m).length:Int)
theorem RowsX.lenM {w:World} {base:Nat} {a:Option Addr} {n c:Nat} {L:List Xc} (h:RowsX w base (.slice a n c) L):n=L.length:=by
 rcases h.shape with ⟨h1,h2⟩ | ⟨g,cap,h1, -⟩
 ·simp only [Value.slice.injEq] at h1;rw [h1.2.1,h2];rfl
 ·simp only [Value.slice.injEq] at h1;exact h1.2.1
theorem boundX {w:World} {base:Nat} {a:Option Addr} {n c:Nat} {L:List Xc} (h:RowsX w base (.slice a n c) L):L.length≤maxLen:=by
 obtain ⟨us,ds,h⟩:=h
 have:=h.lu
 rcases h.own.shape with ⟨_,h2⟩ | ⟨g,cap,_,_,_,h5,h6⟩
 ·rw [h2] at this;simp at this;omega
 ·omega
end Go.Proofs.YtfbgppkdnfljhaaGreatDoor
namespace Go.Proofs.YtfbgppkdnfljhaaGreatDoor
open Go.RowKit
def lensM (P:List (List Ins)):List Int:=modsM.map (lenA P)
theorem lens_order (P:List (List Ins)):lenA P mSeq≤lenA P mTso∧lenA P mTso≤lenA P mPso∧lenA P mTso≤lenA P mRa∧lenA P mPso≤lenA P mLoc∧lenA P mRa≤lenA P mLoc:=by
 unfold lenA allowV
 by_cases hp:progValid P=true
 ·simp only [hp,seq_good.ok,tso_good.ok,pso_good.ok,ra_good.ok,loc_good.ok,and_self,if_true]
  obtain ⟨h1,h2,h3,h4,h5⟩:=order_models hp
  omega
 ·simp [hp]
theorem lawFnModelOrder (v:Value) (xs:List Int) (w:World) (h:Rep ByteE w v xs∧∀ x∈xs,0≤x∧x≤255) (hg:Glob w) (hg2:Glob2 w) :
 Calls Tryz.prog 6 #[v] w fun e w'=>e = .returned (.bool true)∧Below w.heap.size w w':=by
 obtain ⟨hx,hb⟩:=h
 obtain ⟨a0,c0,rfl, -,hm0, -,hx⟩:=hx.open
 have HD:=hide (DrawAllowedExecs_any (.slice a0 xs.length c0) xs w hx hb)
 have HG:=hide hg;have HG2:=hide hg2
 clear hx hb hg hg2
 generalize xs.length=n at *
 by_cases hl:(n:Int) > 1048576
 ·go_enter Tryz.func6,Tryz.ntmps6
  go_wp2_with fail
  go_ret
  exact ⟨rfl,Below.refl _ _⟩
 have hl':decide ((n:Int) > 1048576)=false:=decide_eq_false hl
 go_enter Tryz.func6,Tryz.ntmps6
 go_wp2_with fail
 (with_reducible refine HD.out.mono ?_);rintro e w1 ⟨vp,s,P,m0,rfl,hP,hPl,hPr,hm, -, -,hb1⟩
 have hfl:=flatten_bound9 hPl hPr
 have HP:=hide hP;have HB1:=hide hb1
 have HA:=hide (fun (k:Nat) (m:List Ru) (a:Option Addr) n c W (h:RepP W vp P) (hr:RepM 0 W ⟨a,n,c⟩ m) (hg:Glob W)=>AllowedExecs_any vp a n c P m W h hr (by omega) hg)
 have HS:=hide (fun (k:Nat) (m:List Ru) (hk:modsM[k]? = some m) (a:Option Addr) n c W (h:RepP W vp P) (hr:RepM 0 W ⟨a,n,c⟩ m)=>sAllowedExecs_any vp a n c P m W h hr (by omega) (by omega) (by have:=(modsM_ok hk).2;omega))
 have HLV:=hide (fun (k:Nat) (m:List Ru) (hk:modsM[k]? = some m)=>(by unfold lensM;rw [List.getElem?_map,hk];rfl:(lensM P)[k]? = some ((allowV P m).length:Int)))
 have HLO:Hid (lensM P=[lenA P mSeq,lenA P mTso,lenA P mPso,lenA P mRa,lenA P mLoc]):=hide rfl
 have HOR:=hide (lens_order P)
 have hO0:=Own.lit (E:=StrE) (w:=w1) (T:=9) (Nat.le_refl w1.heap.size) namesM #[.string ⟨#[115,101,113]⟩, .string ⟨#[116,115,111]⟩, .string ⟨#[112,115,111]⟩, .string ⟨#[114,97]⟩, .string ⟨#[108,111,99]⟩] 5 rfl rfl (by decide)
 have HBN:=hide (belowAlloc w1 (.cells #[.string ⟨#[115,101,113]⟩, .string ⟨#[116,115,111]⟩, .string ⟨#[112,115,111]⟩, .string ⟨#[114,97]⟩, .string ⟨#[108,111,99]⟩] 9))
 have hzn:(w1.alloc (.cells #[.string ⟨#[115,101,113]⟩, .string ⟨#[116,115,111]⟩, .string ⟨#[112,115,111]⟩, .string ⟨#[114,97]⟩, .string ⟨#[108,111,99]⟩] 9)).heap.size=w1.heap.size+1:=by simp
 have HNM:=hide (LocR.own (T:=3) (by decide) hO0)
 clear hP hm hb1 HD hO0
 generalize hWN:w1.alloc (.cells #[.string ⟨#[115,101,113]⟩, .string ⟨#[116,115,111]⟩, .string ⟨#[112,115,111]⟩, .string ⟨#[114,97]⟩, .string ⟨#[108,111,99]⟩] 9)=wn at *
 have HBE:=hide (belowAlloc wn (.cells #[] 3))
 have HOE:=hide (Own.empty (E:=IntE) 3 wn (base:=w1.heap.size) (by omega))
 rw [hzn] at HOE
 have HNE:=hide (HNM.out.below HBE.out)
 have HB2:=hide ((HBN.out.trans (HBE.out.mono (by omega))))
 go_wp2_with fail
 clear hWN
 go_loopw [6,7] (fun q i wr => ∃ (k:Nat) (a:Option Addr) (nn cc:Nat),i = .int .i64 k∧k≤5∧q = .slice a nn cc∧Hid (Own IntE 3 wr w1.heap.size (.slice a nn cc) ((lensM P).take k))∧Hid (Below w1.heap.size w1 wr)∧Hid (LocR 3 w1.heap.size wn.heap.size wr (fun W=>Own StrE 9 W w1.heap.size (.slice (some ⟨w1.heap.size,0,none⟩) 5 5) namesM))) (fun _ i _=>5 - (intOf i).toNat)
 case atStart=>exact ⟨0,_,0,0,rfl,by omega,rfl,by simpa using HOE,HB2,HNE⟩
 case round =>
  obtain ⟨k,a6,n6,c6,rfl,hk,rfl,HO,HB,HNM⟩:=hrel
  by_cases hlt:k < 5
  ·have hlt':(k:Int) < 5:=by omega
   obtain ⟨nm,hnm⟩:=get_of_lt (xs:=namesM) (k:=k) hlt
   obtain ⟨m,hmk⟩:=get_of_lt (xs:=modsM) (k:=k) hlt
   have cx:=HNM.out.now.cell (j:=0) (u:=.string nm) hnm rfl
   simp only [StrE,Nat.mul_one,Nat.add_zero] at cx
   have cl:=lt_of_cell cx
   have HBW:=hide (HB1.out.trans (HB.out.mono HB1.out.size))
   have HM:=hide (ModelOf_at hnm hmk wr (HG.out.below HBW.out) (HG2.out.below HBW.out))
   have HL1:=hide (HLV.out k m hmk)
   have HAk:=hide (fun a n c W h hr hg=>HA.out k m a n c W h hr hg)
   have HSk:=hide (fun a n c W h hr=>HS.out k m hmk a n c W h hr)
   generalize allowV P m=E at *
   generalize hE:E.length=en at *
   have HE:=hide hE
   clear hnm hmk hE
   go_wp2_with fail
   (with_reducible refine HM.out.mono ?_);rintro e w2 ⟨v2,rfl,ho2,hb2⟩
   obtain ⟨⟨s1,s2,s3⟩,rfl, -⟩:=ho2.toSlc
   have HR2:=hide (ho2.rep.low (Nat.zero_le _))
   have HBr2:=hide hb2
   have HP2:=hide ((HP.out.below HB.out).below hb2)
   have HG2':=hide (HG.out.below (HBW.out.trans (hb2.mono HBW.out.size)))
   have HA2:=hide (HAk.out s1 s2 s3 w2 HP2.out HR2.out HG2'.out)
   clear ho2 hb2 cx cl
   go_wp2_with fail
   (with_reducible refine HA2.out.mono ?_);rintro e w3 ⟨⟨u1,u2,u3⟩,rfl,hru,hb3⟩
   obtain rfl:u2=en:=(RowsX.lenM hru).trans HE.out
   have hbnd:=boundX hru
   rw [HE.out] at hbnd
   have HBr3:=hide (HBr2.out.trans (hb3.mono HBr2.out.size))
   have HS3:=hide (HSk.out s1 s2 s3 w3 (HP2.out.below hb3) (HR2.out.below hb3))
   clear hru hb3
   go_wp2_with fail
   (with_reducible refine HS3.out.mono ?_);rintro e w4 ⟨⟨t1,t2,t3⟩,rfl,hrt,hb4⟩
   obtain rfl:t2=u2:=(RowsX.lenM hrt).trans HE.out
   have HBr4:=hide (HBr3.out.trans (hb4.mono HBr3.out.size))
   have HO4:=hide (HO.out.below HBr4.out)
   have HO5:=hide (HO4.out.alloc (.cells #[.int .i64 t2] 3))
   have HN4:=hide (HNM.out.below HBr4.out)
   have hlen:((lensM P).take k).length≤68719476736:=by rw [List.length_take];omega
   have hsz:w1.heap.size≤w4.heap.size:=by have h1:=HB.out.size;have h2:=HBr4.out.size;omega
   clear hrt hb4
   go_wp2_with (at_builtin;refine wpList_app IntE 3 Tryz.infoInt rfl Tryz.underlying57 w1.heap.size _ _ (t2:Int) HO5.out (by decide) hlen (by simp;omega) rfl _ _ rfl rfl w4.heap.size 0 1 rfl news_alloc ?_;intro v' w8 ho8 hgr8)
   have hb8:=below_app (HB.out.trans (HBr4.out.mono HB.out.size)) HO4.out hgr8
   have hl8:=(HN4.out.below (belowAlloc _ _)).grown HO5.out hgr8
   have ho9:Own IntE 3 w8 w1.heap.size v' ((lensM P).take (k+1)):=by rw [List.take_add_one,HL1.out];exact ho8
   obtain ⟨⟨r1,r2,r3⟩,rfl, -⟩:=ho9.toSlc
   have HO9:=hide ho9;have HB9:=hide hb8;have HL9:=hide hl8
   clear ho8 hgr8 hb8 hl8 ho9
   go_roundw
   case rel=>exact ⟨k+1,r1,r2,r3,by go_num,by omega,rfl,HO9,HB9,HL9⟩
   case measure=>simp [intOf];omega
  ·have hk5:k=5:=by omega
   have hkf:¬ (k:Int) < 5:=by omega
   have ho:=HO.out
   rw [hk5,HLO.out] at ho
   rcases ho.shape with ⟨-,h0⟩ | ⟨g,cap,h1,h2,h3, -, -⟩
   ·simp at h0
   simp only [Value.slice.injEq] at h1
   obtain ⟨rfl,rfl,rfl⟩:=h1
   have i0:=(ho.int (k:=0) rfl).2.1
   have i1:=(ho.int (k:=1) rfl).2.1
   have i2:=(ho.int (k:=2) rfl).2.1
   have i3:=(ho.int (k:=3) rfl).2.1
   have i4:=(ho.int (k:=4) rfl).2.1
   obtain ⟨o1,o2,o3,o4,o5⟩:=HOR.out
   clear ho hk5 hlt hk HLO HOR HLV HO HNM HA HS HP
   generalize lenA P mSeq=x0 at *
   generalize lenA P mTso=x1 at *
   generalize lenA P mPso=x2 at *
   generalize lenA P mRa=x3 at *
   generalize lenA P mLoc=x4 at *
   have d1:decide (x0≤x1)=true:=decide_eq_true o1
   have d2:decide (x1≤x2)=true:=decide_eq_true o2
   have d3:decide (x1≤x3)=true:=decide_eq_true o3
   have d4:decide (x2≤x4)=true:=decide_eq_true o4
   have d5:decide (x3≤x4)=true:=decide_eq_true o5
   clear o1 o2 o3 o4 o5
   go_wp2_with fail
   refine wp_region_bw (by kernel_rfl) (by kernel_rfl) ?_
   repeat (go_big_quiet_step (fail))
   refine wpQuiet_nil ?_
   intro w5 hb5
   have HB5:=hide ((HB1.out.trans (HB.out.mono HB1.out.size)).trans (hb5.mono (HB1.out.trans (HB.out.mono HB1.out.size)).size))
   clear hb5
   go_wp2_with fail
   go_ret
   exact ⟨rfl,HB5.out⟩
end Go.Proofs.YtfbgppkdnfljhaaGreatDoor