/-
  FnModelNamed: for every input the law returns true and the input reads afterwards as it read before; the tied card. Condition: none beyond the row's own (the listed variables start as the program's text lays it, which the card ties).
-/
import Derived.Test.YtfbgppkdnfljhaaDoorZn20
import Derived.Test.YtfbgppkdnfljhaaDoorZn21
import Derived.Test.YtfbgppkdnfljhaaDoorZn13
import Derived.Test.YtfbgppkdnfljhaaDoorZn14
import Derived.Test.YtfbgppkdnfljhaaDoorZn04
import Derived.Test.YtfbgppkdnfljhaaDoorTie
import Derived.Test.YtfbgppkdnfljhaaDoorCards
import Derived.SevenTiedAt
set_option maxHeartbeats 6400000
set_option maxRecDepth 100000
namespace Go.Proofs.YtfbgppkdnfljhaaDoor
open Go.RowKit
theorem word_at {k:Int} (h:k=1∨k=2∨k=3):∃ q:Nat,k=(q:Int)∧1≤q∧q≤3∧wordsR[q]? = some (wordR k)∧∀ j z,j < q→wordsR[j]? = some z→((wordR k).toList==z.toList)=false:=by
 rcases h with rfl | rfl | rfl
 ·refine ⟨1,rfl,by decide,by decide,rfl,fun j z hj hz => ?_⟩
  have:j=0:=by omega
  subst this;cases hz;decide +kernel
 ·refine ⟨2,rfl,by decide,by decide,rfl,fun j z hj hz => ?_⟩
  have:j=0∨j=1:=by omega
  rcases this with rfl | rfl <;> (cases hz;decide +kernel)
 ·refine ⟨3,rfl,by decide,by decide,rfl,fun j z hj hz => ?_⟩
  have:j=0∨j=1∨j=2:=by omega
  rcases this with rfl | rfl | rfl <;> (cases hz;decide +kernel)
theorem ParseModel_ok (s:ByteArray) (m:List Ru) (hg:GoodMI s m) (w:World) (hgl:Glob w) (hg2:Glob2 w):Calls Tryd.prog 17 #[.string s] w (RetPM w m):=by
 obtain ⟨hsz,hlen,hpart,hok,htx,hwt⟩:=hg
 have hml:1≤m.length∧m.length≤5:=by
  unfold modelOk at hok
  simp only [Bool.and_eq_true,decide_eq_true_eq,List.all_eq_true] at hok
  exact ⟨hok.1,hok.2.1⟩
 obtain ⟨hm1,hm5⟩:=hml
 have HC1:=hide (strSplit_one s 47 w hsz)
 have HT:=hide (fun (a:Option Addr) (n c:Nat) (W:World) (h:RepM 0 W ⟨a,n,c⟩ m) g1 g2=>FormatModel_any a n c m W h hok g1 g2)
 rw [htx] at HT
 have hss:(s.toList==s.toList)=true:=by simp
 have HP:=hide hpart
 have HL:Hid (m.length=(piecesM s).length):=hide hlen.symm
 have HG:=hide hgl;have HG2:=hide hg2
 clear hpart hok htx hwt hlen hgl hg2
 have HC1':Hid (Calls Tryd.prog 28 #[.string s, .string ⟨#[47]⟩] w (RetOwn StrE 9 w (piecesM s))):=HC1
 clear HC1
 generalize piecesM s=ps at *
 generalize hn:m.length=n at *
 have HN:=hide hn
 have HPN:Hid (ps.length=n):=hide HL.out.symm
 clear hn HL
 go_enter Tryd.func17,Tryd.ntmps17
 go_wp2_with fail
 (with_reducible refine HC1'.out.mono ?_);rintro e w1 ⟨v5,rfl,ho5,hb1⟩
 have HB1:=hide hb1
 rcases ho5.shape with ⟨-,h0⟩ | ⟨g5,c5,rfl,hg5,hgl5,hc5,hc5'⟩
 ·exfalso;have:=HPN.out;rw [h0] at this;simp at this;omega
 rw [HPN.out] at ho5 hc5 ⊢
 have HPS:=hide (LocR.own (T:=40) (by decide) ho5)
 have HO1:=hide (OwnF.nil (E:=UsE) (R:=Rany) (φ:=PhiM) 40 w1 w.heap.size)
 clear ho5 hb1
 go_wp2_with fail
 go_loopw [4,16] (fun v i wr => ∃ (k:Nat) (a:Option Addr) (nn cc:Nat),i = .int .i64 k∧k≤n∧v = .slice a nn cc∧OwnM wr w.heap.size (.slice a nn cc) (m.take k)∧Below w.heap.size w wr∧LocR 40 w.heap.size w1.heap.size wr (fun W=>Own StrE 9 W w.heap.size (.slice (some ⟨g5,0,none⟩) n c5) ps)) (fun _ i _=>n - (intOf i).toNat)
 case atStart=>exact ⟨0,_,0,0,rfl,Nat.zero_le _,rfl,HO1.out,HB1.out,HPS.out⟩
 case round =>
  obtain ⟨k,a4,n4,c4,rfl,hk,rfl,ho,hb,hps⟩:=hrel
  have hki:(k:Int)≤5:=by omega
  by_cases hlt:k < n
  ·have hlt':=nat_of_lt hlt
   obtain ⟨x,hx⟩:=get_of_lt (xs:=ps) (k:=k) (by rw [HPN.out];exact hlt)
   obtain ⟨r,hr⟩:=get_of_lt (xs:=m) (k:=k) (by rw [HN.out];exact hlt)
   obtain ⟨hxs,t,hct,hpt,hvt,htt,ht0,ht3,hkd⟩:=HP.out k x r hx hr
   have cx:=hps.now.cell (j:=0) (u:=.string x) hx rfl
   simp only [StrE,Nat.mul_one,Nat.add_zero] at cx
   have cl:=lt_of_cell cx
   have HC2:=hide (fun W=>strCut_one x 32 W hxs)
   rw [hct] at HC2
   have HPE:=hide (fun W hg=>ParseRelExpr_ok t ht3 60 r.e hpt hvt htt ht0 W hg)
   obtain ⟨q,hq,hq1,hq3,hqw,hqn⟩:=word_at hkd
   have HIX:=hide (fun W (h:Rep StrE W (.slice (some ⟨0,0,none⟩) 4 4) wordsR)=>IndexS_at _ wordsR (wordR r.kind) (wordR r.kind) q W h hqw (by simp) hqn)
   have HQ:=hide hq
   have HPS2:=hide hps
   have HO:=hide ho
   have HB:=hide hb
   have HR:=hide hr
   have hqz:decide ((q:Int) < 1)=false:=decide_eq_false (by omega)
   have hq5:q≤3:=hq3
   clear hct hpt hvt htt hq hps ho hb hx hr hxs hkd hqw hqn
   generalize wordR r.kind=wd at *
   go_wp2_with fail
   (with_reducible refine (HC2.out _).mono ?_);rintro e w2 ⟨rfl,hb2⟩
   have HB2:=hide (HB.out.trans (hb2.mono HB.out.size))
   have HBr2:=hide hb2
   clear hb2 cx cl
   go_wp2_with fail
   (with_reducible refine (HIX.out _ (HG2.out.below HB2.out).rep).mono ?_);rintro e w3 ⟨rfl,rfl⟩
   go_wp2_with fail
   (with_reducible refine (HPE.out _ (HG.out.below HB2.out)).mono ?_);rintro e w5 ⟨s5,rfl,own,hb5⟩
   have HA5:=belowAlloc w5 (.cells #[.int .i64 r.e.op, .string r.e.nm, .slice s5.a s5.n s5.cap] 38)
   have hsz5:=hb5.size
   have hszr:=HBr2.out.size
   have hsw:=HB.out.size
   have HBr6:=hide (HBr2.out.trans ((hb5.trans (HA5.mono hsz5)).mono hszr))
   have BX:=hide (BoxR.new w5 r.e.op r.e.nm s5 38)
   have OWN:=hide (own.bel HA5)
   have hz6:(w5.alloc (.cells #[.int .i64 r.e.op, .string r.e.nm, .slice s5.a s5.n s5.cap] 38)).heap.size=w5.heap.size+1:=by simp
   obtain ⟨us,ds,hO⟩:=HO.out
   have HO7:=hide (hO.below HBr6.out)
   have HPS7:=hide (HPS2.out.below HBr6.out)
   have hlu:us.length≤68719476736:=by have:=hO.lu;rw [List.length_take] at this;have:=HN.out;omega
   clear hO own hb5 HA5
   generalize hW6:w5.alloc (.cells #[.int .i64 r.e.op, .string r.e.nm, .slice s5.a s5.n s5.cap] 38)=w6 at *
   obtain ⟨el,e0,e1,e2, -⟩:=BX.out
   have HO2:=hide (HO7.out.below (belowAlloc w6 (.cells #[.int .i64 q, .int .i64 r.e.op, .string r.e.nm, .slice s5.a s5.n s5.cap] 40)))
   go_wp2_with (at_builtin;refine wpList_app UsE 40 Tryd.infoRule rfl Tryd.underlying25 w.heap.size _ us ⟨q,r.e.op,r.e.nm,s5⟩ HO2.out.own (by decide) hlu (by simp;omega) rfl _ _ rfl rfl (w5.heap.size+1) 0 1 rfl (news_allocV hz6) ?_;intro v' w8 ho8 hgr8)
   clear hW6
   have hq:=HQ.out
   rw [← hq] at ho8
   have hb8:=below_app (HB.out.trans (HBr6.out.mono HB.out.size)) HO7.out.own hgr8
   have hl8:=(HPS7.out.below (belowAlloc _ _)).grown HO2.out.own hgr8
   have hn8:=OwnR.locM (lo:=w2.heap.size) (hi:=w5.heap.size) (r:=r) (OWN.out.bel (belowAlloc _ (.cells #[.int .i64 q, .int .i64 r.e.op, .string r.e.nm, .slice s5.a s5.n s5.cap] 40))) (by simp;omega)
   have hm8:=OwnM.app HO2.out hn8 (by omega) ho8 hgr8
   rw [show m.take k++[r]=m.take (k+1) by rw [List.take_add_one,HR.out];rfl] at hm8
   obtain ⟨s8,rfl, -⟩:=hm8.toSlc
   go_roundw
   case rel=>exact ⟨k+1,s8.a,s8.n,s8.cap,by go_num,by omega,rfl,hm8,hb8,hl8⟩
   case measure=>simp [intOf];omega
  ·have hkn:k=n:=by omega
   have hkf:¬ (k:Int) < (n:Int):=by omega
   rw [hkn,← HN.out,List.take_length] at ho
   have hrp:=ho.rep
   have HTT:=hide (HT.out a4 n4 c4 wr (hrp.low (Nat.zero_le _)) (HG.out.below hb) (HG2.out.below hb))
   have HO:=hide ho
   have HB:=hide hb
   clear hrp ho hb hps hkn hlt
   go_wp2_with fail
   (with_reducible refine HTT.out.mono ?_);rintro e w3 ⟨rfl,hb3⟩
   have HB3:=hide (HB.out.trans (hb3.mono HB.out.size))
   have HO3:=hide (OwnF.below HO.out hb3)
   clear hb3
   go_wp2_with fail
   refine bodyPost_ret (v:=.tuple #[.slice a4 n4 c4, .bool true]) (by simp [results,Tryd.results17,go_sem, *]) rfl ⟨_,rfl,HO3.out,HB3.out⟩
end Go.Proofs.YtfbgppkdnfljhaaDoor
namespace Go.Proofs.YtfbgppkdnfljhaaDoor
open Go.RowKit
theorem ModelText_seq (w:World):Calls Tryd.prog 6 #[.string ⟨#[115,101,113]⟩] w fun e w'=>e = .returned (.string txSeq)∧w=w':=by
 have n0:((⟨#[115,101,113]⟩:ByteArray).toList==[115,101,113])=true:=by kernel_rfl
 go_enter Tryd.func6,Tryd.ntmps6
 go_wp2_with fail
 go_ret
 exact ⟨rfl,rfl⟩
theorem ModelText_tso (w:World):Calls Tryd.prog 6 #[.string ⟨#[116,115,111]⟩] w fun e w'=>e = .returned (.string txTso)∧w=w':=by
 have n0:((⟨#[116,115,111]⟩:ByteArray).toList==[115,101,113])=false:=by kernel_rfl
 have n1:((⟨#[116,115,111]⟩:ByteArray).toList==[116,115,111])=true:=by kernel_rfl
 go_enter Tryd.func6,Tryd.ntmps6
 go_wp2_with fail
 go_ret
 exact ⟨rfl,rfl⟩
theorem ModelText_pso (w:World):Calls Tryd.prog 6 #[.string ⟨#[112,115,111]⟩] w fun e w'=>e = .returned (.string txPso)∧w=w':=by
 have n0:((⟨#[112,115,111]⟩:ByteArray).toList==[115,101,113])=false:=by kernel_rfl
 have n1:((⟨#[112,115,111]⟩:ByteArray).toList==[116,115,111])=false:=by kernel_rfl
 have n2:((⟨#[112,115,111]⟩:ByteArray).toList==[112,115,111])=true:=by kernel_rfl
 go_enter Tryd.func6,Tryd.ntmps6
 go_wp2_with fail
 go_ret
 exact ⟨rfl,rfl⟩
theorem ModelText_ra (w:World):Calls Tryd.prog 6 #[.string ⟨#[114,97]⟩] w fun e w'=>e = .returned (.string txRa)∧w=w':=by
 have n0:((⟨#[114,97]⟩:ByteArray).toList==[115,101,113])=false:=by kernel_rfl
 have n1:((⟨#[114,97]⟩:ByteArray).toList==[116,115,111])=false:=by kernel_rfl
 have n2:((⟨#[114,97]⟩:ByteArray).toList==[112,115,111])=false:=by kernel_rfl
 have n3:((⟨#[114,97]⟩:ByteArray).toList==[114,97])=true:=by kernel_rfl
 go_enter Tryd.func6,Tryd.ntmps6
 go_wp2_with fail
 go_ret
 exact ⟨rfl,rfl⟩
theorem ModelText_loc (w:World):Calls Tryd.prog 6 #[.string ⟨#[108,111,99]⟩] w fun e w'=>e = .returned (.string txLoc)∧w=w':=by
 have n0:((⟨#[108,111,99]⟩:ByteArray).toList==[115,101,113])=false:=by kernel_rfl
 have n1:((⟨#[108,111,99]⟩:ByteArray).toList==[116,115,111])=false:=by kernel_rfl
 have n2:((⟨#[108,111,99]⟩:ByteArray).toList==[112,115,111])=false:=by kernel_rfl
 have n3:((⟨#[108,111,99]⟩:ByteArray).toList==[114,97])=false:=by kernel_rfl
 have n4:((⟨#[108,111,99]⟩:ByteArray).toList==[108,111,99])=true:=by kernel_rfl
 go_enter Tryd.func6,Tryd.ntmps6
 go_wp2_with fail
 go_ret
 exact ⟨rfl,rfl⟩
theorem ModelOf_of (nm tx:ByteArray) (m:List Ru) (hm:GoodMI tx m) (ht:∀ w,Calls Tryd.prog 6 #[.string nm] w fun e w'=>e = .returned (.string tx)∧w=w') (w:World) (hg:Glob w) (hg2:Glob2 w):Calls Tryd.prog 7 #[.string nm] w (RetPM w m):=by
 have HT:=hide (ht w)
 have HP:=hide (ParseModel_ok tx m hm w hg hg2)
 clear hm ht hg hg2
 go_enter Tryd.func7,Tryd.ntmps7
 go_wp2_with fail
 (with_reducible refine HT.out.mono ?_);rintro e w1 ⟨rfl,rfl⟩
 go_wp2_with fail
 (with_reducible refine HP.out.mono ?_);rintro e w2 ⟨v,rfl,ho,hb⟩
 have HO:=hide ho;have HB:=hide hb
 clear ho hb
 obtain ⟨s,rfl, -⟩:=HO.out.toSlc
 go_wp2_with fail
 refine bodyPost_ret (v:=.tuple #[.slice s.a s.n s.cap, .bool true]) (by simp [results,Tryd.results7,go_sem, *]) rfl ⟨_,rfl,HO.out,HB.out⟩
end Go.Proofs.YtfbgppkdnfljhaaDoor
namespace Go.Proofs.YtfbgppkdnfljhaaDoor
open Go.RowKit
theorem ModelText_other (nm:ByteArray) (h0:(nm.toList==[115,101,113])=false) (h1:(nm.toList==[116,115,111])=false) (h2:(nm.toList==[112,115,111])=false) (h3:(nm.toList==[114,97])=false) (h4:(nm.toList==[108,111,99])=false) (w:World):Calls Tryd.prog 6 #[.string nm] w fun e w'=>e = .returned (.string ⟨#[]⟩)∧w=w':=by
 go_enter Tryd.func6,Tryd.ntmps6
 go_wp2_with fail
 go_ret
 exact ⟨rfl,rfl⟩
theorem ParseModel_none (w:World) (hg2:Glob2 w):Calls Tryd.prog 17 #[.string ⟨#[]⟩] w fun e w'=>e = .returned (.tuple #[.slice none 0 0, .bool false])∧Below w.heap.size w w':=by
 have hp:Lib.splitB ⟨#[47]⟩ 0 (Lib.countB ⟨#[]⟩ ⟨#[47]⟩) ⟨#[]⟩=[⟨#[]⟩]:=by kernel_rfl
 have HC1:=hide (strSplit_one ⟨#[]⟩ 47 w (by decide))
 rw [hp] at HC1
 have hc:cutS ⟨#[]⟩ 32=(⟨#[]⟩,⟨#[]⟩,false):=by kernel_rfl
 have HC2:=hide (fun W=>strCut_one ⟨#[]⟩ 32 W (by decide))
 rw [hc] at HC2
 have HPE:=hide (fun W=>ParseRelExpr_empty W)
 have HIX:Hid (∀ W,Rep StrE W (.slice (some ⟨0,0,none⟩) 4 4) wordsR→Calls Tryd.prog 30 #[.slice (some ⟨0,0,none⟩) 4 4, .string ⟨#[]⟩] W fun e w'=>e = .returned (.int .i64 0)∧W=w'):=hide (fun W h=>IndexS_at _ wordsR ⟨#[]⟩ ⟨#[]⟩ 0 W h rfl (by decide +kernel) (fun j z hj=>by omega))
 have HG2:=hide hg2
 clear hp hc hg2
 go_enter Tryd.func17,Tryd.ntmps17
 go_wp2_with fail
 (with_reducible refine HC1.out.mono ?_);rintro e w1 ⟨v5,rfl,ho5,hb1⟩
 have HB1:=hide hb1
 rcases ho5.shape with ⟨-,h0⟩ | ⟨g5,c5,rfl,hg5,hgl5,hc5,hc5'⟩
 ·simp at h0
 simp only [List.length_cons,List.length_nil,Nat.zero_add] at hc5 ho5 ⊢
 have cx:=ho5.cell (i:=0) (j:=0) (u:=.string ⟨#[]⟩) rfl rfl
 simp only [StrE,Nat.zero_mul,Nat.add_zero] at cx
 have HGR:=hide ((HG2.out.below hb1))
 clear ho5 hb1
 go_wp2_with fail
 go_loopw [16] (fun i wr=>i = .int .i64 0∧wr=w1) (fun _ _=>0)
 case atStart=>exact ⟨rfl,rfl⟩
 case round =>
  obtain ⟨rfl,rfl⟩:=hrel
  go_wp2_with fail
  (with_reducible refine (HC2.out _).mono ?_);rintro e w2 ⟨rfl,hb2⟩
  have HB2:=hide (HB1.out.trans (hb2.mono HB1.out.size))
  have HG3:=hide (HGR.out.below hb2)
  clear hb2
  go_wp2_with fail
  (with_reducible refine (HIX.out _ HG3.out.rep).mono ?_);rintro e w3 ⟨rfl,rfl⟩
  go_wp2_with fail
  (with_reducible refine (HPE.out _).mono ?_);rintro e w5 ⟨rfl,hb5⟩
  have HB5:=hide ((HB2.out.trans (hb5.mono HB2.out.size)).alloc ((HB2.out.trans (hb5.mono HB2.out.size)).size) (.cells #[.int .i64 0, .string ⟨#[]⟩, .slice none 0 0] 38))
  clear hb5
  go_wp2_with fail
  refine bodyPost_ret (v:=.tuple #[.slice none 0 0, .bool false]) (by simp [results,Tryd.results17,go_sem]) rfl ⟨rfl,HB5.out⟩
theorem ModelOf_other (nm:ByteArray) (h0:(nm.toList==[115,101,113])=false) (h1:(nm.toList==[116,115,111])=false) (h2:(nm.toList==[112,115,111])=false) (h3:(nm.toList==[114,97])=false) (h4:(nm.toList==[108,111,99])=false) (w:World) (hg2:Glob2 w):Calls Tryd.prog 7 #[.string nm] w fun e w'=>e = .returned (.tuple #[.slice none 0 0, .bool false])∧Below w.heap.size w w':=by
 have HT:=hide (ModelText_other nm h0 h1 h2 h3 h4 w)
 have HP:=hide (ParseModel_none w hg2)
 clear h0 h1 h2 h3 h4 hg2
 go_enter Tryd.func7,Tryd.ntmps7
 go_wp2_with fail
 (with_reducible refine HT.out.mono ?_);rintro e w1 ⟨rfl,rfl⟩
 go_wp2_with fail
 (with_reducible refine HP.out.mono ?_);rintro e w2 ⟨rfl,hb⟩
 go_wp2_with fail
 refine bodyPost_ret (v:=.tuple #[.slice none 0 0, .bool false]) (by simp [results,Tryd.results7,go_sem]) rfl ⟨rfl,hb⟩
end Go.Proofs.YtfbgppkdnfljhaaDoor
namespace Go.Proofs.YtfbgppkdnfljhaaDoor
open Go.RowKit
theorem sModelText_seq (w:World):Calls Tryd.prog 9 #[.string ⟨#[115,101,113]⟩] w fun e w'=>e = .returned (.string txSeq)∧w=w':=by
 have n0:((⟨#[115,101,113]⟩:ByteArray).toList==[115,101,113])=true:=by kernel_rfl
 go_enter Tryd.func9,Tryd.ntmps9
 go_wp2_with fail
 go_ret
 exact ⟨rfl,rfl⟩
theorem sModelText_tso (w:World):Calls Tryd.prog 9 #[.string ⟨#[116,115,111]⟩] w fun e w'=>e = .returned (.string txTso)∧w=w':=by
 have n0:((⟨#[116,115,111]⟩:ByteArray).toList==[115,101,113])=false:=by kernel_rfl
 have n1:((⟨#[116,115,111]⟩:ByteArray).toList==[116,115,111])=true:=by kernel_rfl
 go_enter Tryd.func9,Tryd.ntmps9
 go_wp2_with fail
 go_ret
 exact ⟨rfl,rfl⟩
theorem sModelText_pso (w:World):Calls Tryd.prog 9 #[.string ⟨#[112,115,111]⟩] w fun e w'=>e = .returned (.string txPso)∧w=w':=by
 have n0:((⟨#[112,115,111]⟩:ByteArray).toList==[115,101,113])=false:=by kernel_rfl
 have n1:((⟨#[112,115,111]⟩:ByteArray).toList==[116,115,111])=false:=by kernel_rfl
 have n2:((⟨#[112,115,111]⟩:ByteArray).toList==[112,115,111])=true:=by kernel_rfl
 go_enter Tryd.func9,Tryd.ntmps9
 go_wp2_with fail
 go_ret
 exact ⟨rfl,rfl⟩
theorem sModelText_ra (w:World):Calls Tryd.prog 9 #[.string ⟨#[114,97]⟩] w fun e w'=>e = .returned (.string txRa)∧w=w':=by
 have n0:((⟨#[114,97]⟩:ByteArray).toList==[115,101,113])=false:=by kernel_rfl
 have n1:((⟨#[114,97]⟩:ByteArray).toList==[116,115,111])=false:=by kernel_rfl
 have n2:((⟨#[114,97]⟩:ByteArray).toList==[112,115,111])=false:=by kernel_rfl
 have n3:((⟨#[114,97]⟩:ByteArray).toList==[114,97])=true:=by kernel_rfl
 go_enter Tryd.func9,Tryd.ntmps9
 go_wp2_with fail
 go_ret
 exact ⟨rfl,rfl⟩
theorem sModelText_loc (w:World):Calls Tryd.prog 9 #[.string ⟨#[108,111,99]⟩] w fun e w'=>e = .returned (.string txLoc)∧w=w':=by
 have n0:((⟨#[108,111,99]⟩:ByteArray).toList==[115,101,113])=false:=by kernel_rfl
 have n1:((⟨#[108,111,99]⟩:ByteArray).toList==[116,115,111])=false:=by kernel_rfl
 have n2:((⟨#[108,111,99]⟩:ByteArray).toList==[112,115,111])=false:=by kernel_rfl
 have n3:((⟨#[108,111,99]⟩:ByteArray).toList==[114,97])=false:=by kernel_rfl
 have n4:((⟨#[108,111,99]⟩:ByteArray).toList==[108,111,99])=true:=by kernel_rfl
 go_enter Tryd.func9,Tryd.ntmps9
 go_wp2_with fail
 go_ret
 exact ⟨rfl,rfl⟩
theorem sModelText_other (nm:ByteArray) (h0:(nm.toList==[115,101,113])=false) (h1:(nm.toList==[116,115,111])=false) (h2:(nm.toList==[112,115,111])=false) (h3:(nm.toList==[114,97])=false) (h4:(nm.toList==[108,111,99])=false) (w:World):Calls Tryd.prog 9 #[.string nm] w fun e w'=>e = .returned (.string ⟨#[]⟩)∧w=w':=by
 go_enter Tryd.func9,Tryd.ntmps9
 go_wp2_with fail
 go_ret
 exact ⟨rfl,rfl⟩
def RetNo (w:World) (e:Ending) (w':World):Prop:=∃ g:Nat,e = .returned (.tuple #[.slice (some ⟨g,0,none⟩) 0 0, .bool false])∧w'.heap[g]? = some (.cells #[] 40 (0,0))∧w.heap.size≤g∧Below w.heap.size w w'
theorem noWord {j:Nat} (h1:1≤j) (h4:j < 4):∃ y,wordsR[j]? = some y∧((⟨#[]⟩:ByteArray).toList==y.toList)=false:=by
 have:j=1∨j=2∨j=3:=by omega
 rcases this with rfl | rfl | rfl <;> exact ⟨_,rfl,by decide +kernel⟩
theorem sParseModel_none (w:World):Calls Tryd.prog 18 #[.string ⟨#[]⟩] w (RetNo w):=by
 have hp:cutL ⟨#[]⟩ 47=[⟨#[]⟩]:=by kernel_rfl
 have hp2:cutL ⟨#[]⟩ 32=[⟨#[]⟩]:=by kernel_rfl
 have HC1:Hid (∀ W,Calls Tryd.prog 32 #[.string ⟨#[]⟩, .int .u8 47] W (RetOwn StrE 9 W [⟨#[]⟩])):=hide (fun W=>hp ▸ l17Cut_exact ⟨#[]⟩ 47 W (by decide))
 obtain ⟨wd,hwd⟩:∃ wd:ByteArray,wd=⟨#[]⟩:=⟨_,rfl⟩
 have HC2:Hid (∀ W,Calls Tryd.prog 32 #[.string ⟨#[]⟩, .int .u8 32] W (RetOwn StrE 9 W [wd])):=hide (fun W=>by rw [hwd,← hp2];exact l17Cut_exact ⟨#[]⟩ 32 W (by decide))
 have HW:=hide l7Words_any
 have HNW:Hid (∀ (j:Nat),1≤j→j < 4→∃ y,wordsR[j]? = some y∧(wd.toList==y.toList)=false):=hide (fun j h1 h4=>by rw [hwd];exact noWord h1 h4)
 have HB0:=hide (belowAlloc w (.cells #[] 40))
 clear hp hp2 hwd
 go_enter Tryd.func18,Tryd.ntmps18
 go_wp2_with fail
 (with_reducible refine (HC1.out _).mono ?_);rintro e w1 ⟨v5,rfl,ho5,hb1⟩
 have HB1:=hide (HB0.out.trans (hb1.mono HB0.out.size))
 rcases ho5.shape with ⟨-,h0⟩ | ⟨g5,c5,rfl,hg5,hgl5,hc5,hc5'⟩
 ·simp at h0
 simp only [List.length_cons,List.length_nil,Nat.zero_add] at hc5 ho5 ⊢
 have cx:=ho5.cell (i:=0) (j:=0) (u:=.string ⟨#[]⟩) rfl rfl
 simp only [StrE,Nat.zero_mul,Nat.add_zero] at cx
 clear ho5 hb1
 go_wp2_with fail
 go_loopw [6] (fun i wr=>i = .int .i64 0∧wr=w1) (fun _ _=>0)
 case atStart=>exact ⟨rfl,rfl⟩
 case round =>
  obtain ⟨rfl,rfl⟩:=hrel
  go_wp2_with fail
  (with_reducible refine (HC2.out _).mono ?_);rintro e w2 ⟨v7,rfl,ho7,hb2⟩
  rcases ho7.shape with ⟨-,h0⟩ | ⟨g7,c7,rfl,hg7,hgl7,hc7,hc7'⟩
  ·simp at h0
  simp only [List.length_cons,List.length_nil,Nat.zero_add] at hc7 ho7 ⊢
  have HB2:=hide (HB1.out.trans (hb2.mono HB1.out.size))
  have HO7:=hide ho7
  have HBA:=hide (belowAlloc w2 (.cells #[.int .i64 0, .int .i64 0, .string ⟨#[]⟩, .slice none 0 0] 40))
  clear ho7 hb2
  go_wp2_with fail
  go_loopw [9] (fun i wr => ∃ j:Nat,i = .int .i64 j∧1≤j∧j≤4∧Hid (Below w2.heap.size w2 wr)) (fun i _=>4 - (intOf i).toNat)
  case atStart=>exact ⟨1,rfl,Nat.le_refl _,by omega,HBA⟩
  case round =>
   obtain ⟨j,rfl,hj1,hj4,HBI⟩:=hrel
   by_cases hlj:j < 4
   ·have hlj':(j:Int) < 4:=by omega
    go_wp2_with fail
    (with_reducible refine (HW.out _).mono ?_);rintro e w4 ⟨rfl,ho4,hb4⟩
    have HB4:=hide (HBI.out.trans (hb4.mono HBI.out.size))
    have HO74:=hide (HO7.out.below HB4.out)
    clear ho4 hb4
    obtain ⟨y,hy,hyq'⟩:=HNW.out j hj1 hlj
    have HY:=hide hy
    clear hy
    go_wp2_with fail
    -- reg no
    refine wp_region_inv3 (n:=7) (by kernel_rfl) rfl (by kernel_rfl) (by kernel_rfl) (fun A ls a' W => ∃ (G:Nat) (x37 x38 x39 x40 x41 x42 x43:Value),a'=putAll A [(37,x37),(38,x38),(39,x39),(40,x40),(41,x41),(42,x42),(43,x43)]∧Vd ls 0 [] x37 (.slice (some ⟨g7,0,none⟩) 1 c7)∧Vd ls 1 [] x38 (.pointer (some ⟨g7,0,none⟩))∧Vd ls 2 [] x39 (.string wd)∧Vd ls 3 [] x40 (.slice (some ⟨G,0,none⟩) 4 4)∧Vd ls 4 [] x41 (.int .i64 j)∧Vd ls 5 [3] x42 (.pointer (some ⟨G,j,none⟩))∧Vd ls 6 [3] x43 (.string y)∧JW w4 (fl ls 3) G W) ?r0 ?rs ?re
    case r0 =>
     exact ⟨0,u37,u38,u39,u40,u41,u42,u43,by simp only [putAll,Act.put,List.setIfInBounds_toArray,List.set_cons_succ,List.set_cons_zero],Vd.start,Vd.start,Vd.start,Vd.start,Vd.start,Vd.start,Vd.start,by simp only [fl_start];exact ⟨(Below.refl _ _).drew,fun h=>(nomatch h)⟩⟩
    case rs =>
     rintro ls a' W hs hnl ⟨G,x37,x38,x39,x40,x41,x42,x43,ha,cv0,cv1,cv2,cv3,cv4,cv5,cv6,hJ⟩ k o hkn mc K hK
     simp only [putAll,Act.put,List.setIfInBounds_toArray,List.set_cons_succ,List.set_cons_zero] at ha
     subst ha
     have hkc:k=0∨k=1∨k=2∨k=3∨k=4∨k=5∨k=6:=by omega
     have hop:=mc.op
     have haf:=mc.after
     rcases hkc with rfl | rfl | rfl | rfl | rfl | rfl | rfl
     ·simp at hop;subst hop;simp [Region.binds] at haf
      go_simp
      exact hK _ _ ⟨G,_,_,_,_,_,_,_,by simp only [putAll,Act.put,List.setIfInBounds_toArray,List.set_cons_succ,List.set_cons_zero],Vd.same (by simp),cv1.set (by decide),cv2.set (by decide),cv3.set (by decide),cv4.set (by decide),cv5.set (by decide),cv6.set (by decide),by rw [fl_set (show 0≠3 by decide)];exact hJ⟩
     ·simp at hop;subst hop;simp [Region.binds] at haf
      obtain rfl:=(cv0.get (by simp [haf])).symm
      go_simp
      exact hK _ _ ⟨G,_,_,_,_,_,_,_,by simp only [putAll,Act.put,List.setIfInBounds_toArray,List.set_cons_succ,List.set_cons_zero],cv0.set (by decide),Vd.same (by simp),cv2.set (by decide),cv3.set (by decide),cv4.set (by decide),cv5.set (by decide),cv6.set (by decide),by rw [fl_set (show 1≠3 by decide)];exact hJ⟩
     ·simp at hop;subst hop;simp [Region.binds] at haf
      obtain rfl:=(cv1.get (by simp [haf])).symm
      have cw:=(HO74.out.below hJ.out).cell (i:=0) (j:=0) (u:=.string wd) rfl rfl
      simp only [StrE,Nat.zero_mul,Nat.add_zero] at cw
      have cwl:=lt_of_cell cw
      go_simp
      exact hK _ _ ⟨G,_,_,_,_,_,_,_,by simp only [putAll,Act.put,List.setIfInBounds_toArray,List.set_cons_succ,List.set_cons_zero],cv0.set (by decide),cv1.set (by decide),Vd.same (by simp),cv3.set (by decide),cv4.set (by decide),cv5.set (by decide),cv6.set (by decide),by rw [fl_set (show 2≠3 by decide)];exact hJ⟩
     ·simp at hop;subst hop;simp [Region.binds] at haf
      have f3:=fl_no mc.new;rw [f3] at hJ
      go_simp
      have hsz:=hJ.out.size
      go_at_call 33
      (with_reducible refine (HW.out W).mono ?_);rintro e u ⟨rfl,ho,hb⟩
      exact hK _ _ ⟨W.heap.size,_,_,_,_,_,_,_,by simp only [putAll,Act.put,List.setIfInBounds_toArray,List.set_cons_succ,List.set_cons_zero],cv0.set (by decide),cv1.set (by decide),cv2.set (by decide),Vd.same (by simp),cv4.set (by decide),cv5.void (by decide) (by decide) mc.new,cv6.void (by decide) (by decide) mc.new,by rw [fl_got hs (by decide)];exact ⟨(hJ.below hb).out,fun _=>ho.mono hsz⟩⟩
     ·simp at hop;subst hop;simp [Region.binds] at haf
      go_simp
      exact hK _ _ ⟨G,_,_,_,_,_,_,_,by simp only [putAll,Act.put,List.setIfInBounds_toArray,List.set_cons_succ,List.set_cons_zero],cv0.set (by decide),cv1.set (by decide),cv2.set (by decide),cv3.set (by decide),Vd.same (by simp),cv5.set (by decide),cv6.set (by decide),by rw [fl_set (show 4≠3 by decide)];exact hJ⟩
     ·simp at hop;subst hop;simp [Region.binds] at haf
      obtain rfl:=(cv3.get (by simp [haf])).symm
      obtain rfl:=(cv4.get (by simp [haf])).symm
      go_simp
      exact hK _ _ ⟨G,_,_,_,_,_,_,_,by simp only [putAll,Act.put,List.setIfInBounds_toArray,List.set_cons_succ,List.set_cons_zero],cv0.set (by decide),cv1.set (by decide),cv2.set (by decide),cv3.set (by decide),cv4.set (by decide),Vd.same (by simp [haf]),cv6.set (by decide),by rw [fl_set (show 5≠3 by decide)];exact hJ⟩
     ·simp at hop;subst hop;simp [Region.binds] at haf
      have q5:=(cv5 (by simp [haf])).1;simp at q5
      obtain rfl:=(cv5.get (by simp [haf])).symm
      obtain ⟨wb,wo,he,cwl,cw⟩:=(hJ.f (fl_yes q5)).rep.str HY.out
      simp only [Option.some.injEq,Addr.mk.injEq,and_true] at he
      obtain ⟨rfl,rfl⟩:=he
      simp only [Nat.zero_add] at cw
      go_simp
      exact hK _ _ ⟨G,_,_,_,_,_,_,_,by simp only [putAll,Act.put,List.setIfInBounds_toArray,List.set_cons_succ,List.set_cons_zero],cv0.set (by decide),cv1.set (by decide),cv2.set (by decide),cv3.set (by decide),cv4.set (by decide),cv5.set (by decide),Vd.same (by simp [q5]),by rw [fl_set (show 6≠3 by decide)];exact hJ⟩
    case re =>
     rintro ls a' W hall ⟨G,x37,x38,x39,x40,x41,x42,x43,ha,cv0,cv1,cv2,cv3,cv4,cv5,cv6,hJ⟩ o hop
     simp only [putAll,Act.put,List.setIfInBounds_toArray,List.set_cons_succ,List.set_cons_zero] at ha
     subst ha
     simp at hop;subst hop
     obtain rfl:=(cv0.get (hall 0 (by decide))).symm
     obtain rfl:=(cv1.get (hall 1 (by decide))).symm
     obtain rfl:=(cv2.get (hall 2 (by decide))).symm
     obtain rfl:=(cv3.get (hall 3 (by decide))).symm
     obtain rfl:=(cv4.get (hall 4 (by decide))).symm
     obtain rfl:=(cv5.get (hall 5 (by decide))).symm
     obtain rfl:=(cv6.get (hall 6 (by decide))).symm
     rw [fl_yes (hall 3 (by decide))] at hJ
     go_simp
     have HB5:=hide (HB4.out.trans (hJ.out.mono HB4.out.size))
     clear hJ
     go_wp2_with fail
     go_roundw
     case rel=>exact ⟨j+1,by go_num,by omega,by omega,HB5⟩
     case measure=>simp [intOf];omega
    -- end no
   ·have hlf:¬ (j:Int) < 4:=by omega
    go_wp2_with fail
    (with_reducible refine (HW.out _).mono ?_);rintro e w4 ⟨rfl,ho4,hb4⟩
    have HB4:=hide (HB2.out.trans ((HBI.out.trans (hb4.mono HBI.out.size)).mono HB2.out.size))
    have X:=hide (heap_alloc_new w4 (.cells #[] 40))
    clear ho4 hb4
    go_wp2_with fail
    refine bodyPost_ret (v:=.tuple #[.slice (some ⟨w4.heap.size,0,none⟩) 0 0, .bool false]) (by simp [results,Tryd.results18,go_sem]) rfl ⟨w4.heap.size,rfl,X.out,HB4.out.size,HB4.out.alloc HB4.out.size _⟩
theorem sModelOf_of (nm tx:ByteArray) (m:List Ru) (hm:GoodM tx m) (ht:∀ w,Calls Tryd.prog 9 #[.string nm] w fun e w'=>e = .returned (.string tx)∧w=w') (w:World):Calls Tryd.prog 8 #[.string nm] w (RetPM w m):=by
 have HT:=hide (ht w)
 have HP:=hide (sParseModel_ok tx m hm w)
 clear hm ht
 go_enter Tryd.func8,Tryd.ntmps8
 go_wp2_with fail
 (with_reducible refine HT.out.mono ?_);rintro e w1 ⟨rfl,rfl⟩
 go_wp2_with fail
 (with_reducible refine HP.out.mono ?_);rintro e w2 ⟨v,rfl,ho,hb⟩
 have HO:=hide ho;have HB:=hide hb
 clear ho hb
 obtain ⟨s,rfl, -⟩:=HO.out.toSlc
 go_wp2_with fail
 refine bodyPost_ret (v:=.tuple #[.slice s.a s.n s.cap, .bool true]) (by simp [results,Tryd.results8,go_sem, *]) rfl ⟨_,rfl,HO.out,HB.out⟩
theorem sModelOf_other (nm:ByteArray) (h0:(nm.toList==[115,101,113])=false) (h1:(nm.toList==[116,115,111])=false) (h2:(nm.toList==[112,115,111])=false) (h3:(nm.toList==[114,97])=false) (h4:(nm.toList==[108,111,99])=false) (w:World):Calls Tryd.prog 8 #[.string nm] w (RetNo w):=by
 have HT:=hide (sModelText_other nm h0 h1 h2 h3 h4 w)
 have HP:=hide (sParseModel_none w)
 clear h0 h1 h2 h3 h4
 go_enter Tryd.func8,Tryd.ntmps8
 go_wp2_with fail
 (with_reducible refine HT.out.mono ?_);rintro e w1 ⟨rfl,rfl⟩
 go_wp2_with fail
 (with_reducible refine HP.out.mono ?_);rintro e w2 ⟨g,rfl,hgg,hgs,hb⟩
 go_wp2_with fail
 refine bodyPost_ret (v:=.tuple #[.slice (some ⟨g,0,none⟩) 0 0, .bool false]) (by simp [results,Tryd.results8,go_sem]) rfl ⟨g,rfl,hgg,hgs,hb⟩
end Go.Proofs.YtfbgppkdnfljhaaDoor
namespace Go.Proofs.YtfbgppkdnfljhaaDoor
open Go.RowKit
def names7:List ByteArray:=[⟨#[116,115,111]⟩,⟨#[112,115,111]⟩,⟨#[114,97]⟩,⟨#[115,101,113]⟩,⟨#[108,111,99]⟩,⟨#[]⟩,⟨#[120]⟩]
theorem l8Name_any (b:Nat) (a:Option Addr) (c:Nat) (xs:List Int) (p:Int) (w:World) (hr:Rd w b a c xs p) (hp:p≤1000000000):Calls Tryd.prog 15 #[.pointer (some ⟨b,0,none⟩)] w (RetRd w b a c xs p 1 (OneStr names7)):=by
 have hlt:=hr.lt
 have L2:=hide (Own.lit (E:=StrE) (T:=9) (w:=w) (Nat.le_refl w.heap.size) names7 #[.string ⟨#[116,115,111]⟩, .string ⟨#[112,115,111]⟩, .string ⟨#[114,97]⟩, .string ⟨#[115,101,113]⟩, .string ⟨#[108,111,99]⟩, .string ⟨#[]⟩, .string ⟨#[120]⟩] 7 rfl rfl (by decide))
 have HF:=hide (of_any b a c xs p _ names7 _ _ (hr.allocNew (.cells #[.string ⟨#[116,115,111]⟩, .string ⟨#[112,115,111]⟩, .string ⟨#[114,97]⟩, .string ⟨#[115,101,113]⟩, .string ⟨#[108,111,99]⟩, .string ⟨#[]⟩, .string ⟨#[120]⟩] 9)) hp L2.out (by decide) (by decide) hlt)
 have O2:=hide (Outside.of_below (lo:=b) (hi:=b+1) (belowAlloc w (.cells #[.string ⟨#[116,115,111]⟩, .string ⟨#[112,115,111]⟩, .string ⟨#[114,97]⟩, .string ⟨#[115,101,113]⟩, .string ⟨#[108,111,99]⟩, .string ⟨#[]⟩, .string ⟨#[120]⟩] 9)))
 clear L2 hr
 go_enter Tryd.func15,Tryd.ntmps15
 go_wp2_with fail
 (with_reducible refine HF.out.mono ?_);rintro e w3 ⟨v3,p3,rfl,⟨y,hy,rfl⟩,hp3,hr3,ho3⟩
 go_wp2_with fail
 go_ret
 exact ⟨_,p3,rfl,⟨y,hy,rfl⟩,hp3,hr3,O2.out.trans ho3⟩
theorem DrawModelText_any (v:Value) (xs:List Int) (w:World) (hx:Rep ByteE w v xs) (hb:∀ x∈xs,0≤x∧x≤255):Calls Tryd.prog 5 #[v] w fun e w'=>(∃ y∈names7,e = .returned (.string y))∧Below w.heap.size w w':=by
 have HO:=hide (l17Open_any v xs w hx hb)
 clear hx hb
 go_enter Tryd.func5,Tryd.ntmps5
 go_wp2_with fail
 (with_reducible refine HO.out.mono ?_);rintro e w1 ⟨b,a,c,ys,rfl,hr,hlb,hb1⟩
 have HN:=hide (l8Name_any b a c ys 0 w1 hr (by omega))
 have HB:=hide hb1
 clear hr hb1 HO
 go_wp2_with fail
 (with_reducible refine HN.out.mono ?_);rintro e w2 ⟨v2,p2,rfl,⟨y,hy,rfl⟩, -, -,ho2⟩
 have HB2:=hide (HB.out.trans (below_of_outside ho2 (B:=w.heap.size) hlb HB.out.size))
 clear ho2
 go_wp2_with fail
 go_ret
 exact ⟨⟨y,hy,rfl⟩,HB2.out⟩
structure NameYes (nm tx:ByteArray) (m:List Ru):Prop where
 good:GoodMI tx m
 ne:(tx.toList==[])=false
 ti:∀ w,Calls Tryd.prog 6 #[.string nm] w fun e w'=>e = .returned (.string tx)∧w=w'
 ts:∀ w,Calls Tryd.prog 9 #[.string nm] w fun e w'=>e = .returned (.string tx)∧w=w'
 mi:∀ w,Glob w→Glob2 w→Calls Tryd.prog 7 #[.string nm] w (RetPM w m)
 ms:∀ w,Calls Tryd.prog 8 #[.string nm] w (RetPM w m)
structure NameNo (nm:ByteArray):Prop where
 ti:∀ w,Calls Tryd.prog 6 #[.string nm] w fun e w'=>e = .returned (.string ⟨#[]⟩)∧w=w'
 ts:∀ w,Calls Tryd.prog 9 #[.string nm] w fun e w'=>e = .returned (.string ⟨#[]⟩)∧w=w'
 mi:∀ w,Glob2 w→Calls Tryd.prog 7 #[.string nm] w fun e w'=>e = .returned (.tuple #[.slice none 0 0, .bool false])∧Below w.heap.size w w'
 ms:∀ w,Calls Tryd.prog 8 #[.string nm] w (RetNo w)
theorem name_cases (nm:ByteArray):(∃ tx m,NameYes nm tx m)∨NameNo nm:=by
 by_cases h0:nm=⟨#[115,101,113]⟩
 ·exact .inl ⟨txSeq,mSeq,seq_good,by kernel_rfl,h0 ▸ ModelText_seq,h0 ▸ sModelText_seq,fun w g1 g2=>h0 ▸ ModelOf_of _ _ _ seq_good ModelText_seq w g1 g2,fun w=>h0 ▸ sModelOf_of _ _ _ seq_goodS sModelText_seq w⟩
 by_cases h1:nm=⟨#[116,115,111]⟩
 ·exact .inl ⟨txTso,mTso,tso_good,by kernel_rfl,h1 ▸ ModelText_tso,h1 ▸ sModelText_tso,fun w g1 g2=>h1 ▸ ModelOf_of _ _ _ tso_good ModelText_tso w g1 g2,fun w=>h1 ▸ sModelOf_of _ _ _ tso_goodS sModelText_tso w⟩
 by_cases h2:nm=⟨#[112,115,111]⟩
 ·exact .inl ⟨txPso,mPso,pso_good,by kernel_rfl,h2 ▸ ModelText_pso,h2 ▸ sModelText_pso,fun w g1 g2=>h2 ▸ ModelOf_of _ _ _ pso_good ModelText_pso w g1 g2,fun w=>h2 ▸ sModelOf_of _ _ _ pso_goodS sModelText_pso w⟩
 by_cases h3:nm=⟨#[114,97]⟩
 ·exact .inl ⟨txRa,mRa,ra_good,by kernel_rfl,h3 ▸ ModelText_ra,h3 ▸ sModelText_ra,fun w g1 g2=>h3 ▸ ModelOf_of _ _ _ ra_good ModelText_ra w g1 g2,fun w=>h3 ▸ sModelOf_of _ _ _ ra_goodS sModelText_ra w⟩
 by_cases h4:nm=⟨#[108,111,99]⟩
 ·exact .inl ⟨txLoc,mLoc,loc_good,by kernel_rfl,h4 ▸ ModelText_loc,h4 ▸ sModelText_loc,fun w g1 g2=>h4 ▸ ModelOf_of _ _ _ loc_good ModelText_loc w g1 g2,fun w=>h4 ▸ sModelOf_of _ _ _ loc_goodS sModelText_loc w⟩
 have g0:(nm.toList==[115,101,113])=false:=by rw [beq_eq_false_iff_ne];exact fun e=>h0 (bytes_eqR (e.trans (by kernel_rfl)))
 have g1:(nm.toList==[116,115,111])=false:=by rw [beq_eq_false_iff_ne];exact fun e=>h1 (bytes_eqR (e.trans (by kernel_rfl)))
 have g2:(nm.toList==[112,115,111])=false:=by rw [beq_eq_false_iff_ne];exact fun e=>h2 (bytes_eqR (e.trans (by kernel_rfl)))
 have g3:(nm.toList==[114,97])=false:=by rw [beq_eq_false_iff_ne];exact fun e=>h3 (bytes_eqR (e.trans (by kernel_rfl)))
 have g4:(nm.toList==[108,111,99])=false:=by rw [beq_eq_false_iff_ne];exact fun e=>h4 (bytes_eqR (e.trans (by kernel_rfl)))
 exact .inr ⟨fun w=>ModelText_other nm g0 g1 g2 g3 g4 w,fun w=>sModelText_other nm g0 g1 g2 g3 g4 w,fun w hgw=>ModelOf_other nm g0 g1 g2 g3 g4 w hgw,fun w=>sModelOf_other nm g0 g1 g2 g3 g4 w⟩
theorem RepM.zero (a:Option Addr) (c:Nat) (w:World) (hc:c≤1000):RepM 0 w ⟨a,0,c⟩ []:=
 ⟨[],rfl,⟨a,c,rfl,Nat.zero_le _,by unfold maxLen;omega,fun i x h=>by simp at h⟩, .inl rfl,fun i u r h=>by simp at h⟩
theorem lawFnModelNamed (v:Value) (xs:List Int) (w:World) (h:Rep ByteE w v xs∧∀ x∈xs,0≤x∧x≤255) (hg:Glob w) (hg2:Glob2 w) :
 Calls Tryd.prog 3 #[v] w fun e w'=>e = .returned (.bool true)∧Below w.heap.size w w':=by
 obtain ⟨hx,hb⟩:=h
 obtain ⟨a0,c0,rfl, -,hm0, -,hx⟩:=hx.open
 have HD:=hide (DrawModelText_any (.slice a0 xs.length c0) xs w hx hb)
 have HG:=hide hg;have HG2:=hide hg2
 clear hx hb hg hg2
 generalize xs.length=n at *
 by_cases hl:(n:Int) > 1048576
 ·go_enter Tryd.func3,Tryd.ntmps3
  go_wp2_with fail
  go_ret
  exact ⟨rfl,Below.refl _ _⟩
 have hl':decide ((n:Int) > 1048576)=false:=decide_eq_false hl
 go_enter Tryd.func3,Tryd.ntmps3
 go_wp2_with fail
 (with_reducible refine HD.out.mono ?_);rintro e w1 ⟨⟨nm, -,rfl⟩,hb1⟩
 have HB1:=hide hb1
 clear hb1 HD
 rcases name_cases nm with ⟨tx,m,hN⟩ | hN
 ·have HT:=hide hN.ti;have HTS:=hide hN.ts
  have HM:=hide (hN.mi w1 (HG.out.below HB1.out) (HG2.out.below HB1.out));have HMS:=hide hN.ms
  have hne:=hN.ne
  have hss:(tx.toList==tx.toList)=true:=by simp
  have hok:=hN.good.ok
  have HF:=hide (fun (a:Option Addr) n c W (h:RepM 0 W ⟨a,n,c⟩ m) g1 g2=>FormatModel_any a n c m W h hok g1 g2)
  rw [hN.good.text] at HF
  have hml:m.length≤1000:=by
   unfold modelOk at hok
   simp only [Bool.and_eq_true,decide_eq_true_eq] at hok
   omega
  clear hok hN
  go_wp2_with fail
  (with_reducible refine (HT.out _).mono ?_);rintro e w2 ⟨rfl,rfl⟩
  go_wp2_with fail
  (with_reducible refine HM.out.mono ?_);rintro e w3 ⟨v3,rfl,ho3,hb3⟩
  obtain ⟨⟨s1,s2,s3⟩,rfl, -⟩:=ho3.toSlc
  have HB3:=hide (HB1.out.trans (hb3.mono HB1.out.size))
  have HR3:=hide (ho3.rep.low (Nat.zero_le _))
  clear ho3 hb3 HM
  go_wp2_with fail
  (with_reducible refine (HMS.out _).mono ?_);rintro e w4 ⟨v4,rfl,ho4,hb4⟩
  obtain ⟨⟨t1,t2,t3⟩,rfl, -⟩:=ho4.toSlc
  have HB4:=hide (HB3.out.trans (hb4.mono HB3.out.size))
  have HR4:=hide (ho4.rep.low (Nat.zero_le _))
  have HR34:=hide (HR3.out.below hb4)
  have HWM:=hide (wmModel_same m s1 t1 s2 s3 t2 t3 w4 HR34.out HR4.out hml)
  clear ho4 hb4
  go_wp2_with fail
  (with_reducible refine (HTS.out _).mono ?_);rintro e w5 ⟨rfl,rfl⟩
  go_wp2_with fail
  (with_reducible refine HWM.out.mono ?_);rintro e w6 ⟨rfl,hb6⟩
  have HB6:=hide (HB4.out.trans (hb6.mono HB4.out.size))
  have HF6:=hide (HF.out s1 s2 s3 w6 (HR34.out.below hb6) (HG.out.below HB6.out) (HG2.out.below HB6.out))
  clear hb6
  go_wp2_with fail
  (with_reducible refine HF6.out.mono ?_);rintro e w7 ⟨rfl,hb7⟩
  have HB7:=hide (HB6.out.trans (hb7.mono HB6.out.size))
  clear hb7
  go_wp2_with fail
  go_ret
  exact ⟨rfl,HB7.out⟩
 ·have HT:=hide hN.ti;have HTS:=hide hN.ts
  have HM:=hide (hN.mi w1 (HG2.out.below HB1.out));have HMS:=hide hN.ms
  clear hN
  go_wp2_with fail
  (with_reducible refine (HT.out _).mono ?_);rintro e w2 ⟨rfl,rfl⟩
  go_wp2_with fail
  (with_reducible refine HM.out.mono ?_);rintro e w3 ⟨rfl,hb3⟩
  have HB3:=hide (HB1.out.trans (hb3.mono HB1.out.size))
  clear hb3
  go_wp2_with fail
  (with_reducible refine (HMS.out _).mono ?_);rintro e w4 ⟨g,rfl, -, -,hb4⟩
  have HB4:=hide (HB3.out.trans (hb4.mono HB3.out.size))
  have HWM:=hide (wmModel_same [] none (some ⟨g,0,none⟩) 0 0 0 0 w4 (RepM.zero none 0 w4 (by omega)) (RepM.zero _ 0 w4 (by omega)) (by simp))
  clear hb4
  go_wp2_with fail
  (with_reducible refine (HTS.out _).mono ?_);rintro e w5 ⟨rfl,rfl⟩
  go_wp2_with fail
  (with_reducible refine HWM.out.mono ?_);rintro e w6 ⟨rfl,hb6⟩
  have HB6:=hide (HB4.out.trans (hb6.mono HB4.out.size))
  clear hb6
  go_wp2_with fail
  go_ret
  exact ⟨rfl,HB6.out⟩
end Go.Proofs.YtfbgppkdnfljhaaDoor
namespace Go.Proofs.YtfbgppkdnfljhaaDoor
open Go Go.RowKit Go.ChangeShapes Go.WideShapes Go.ChangeAt
open Go.ChangeMaps (open_string)
theorem fnModelNamed_reads:∀ t∈Tryd.f3.params.toList,Tryd.prog.readableRec t=true∧t < Tryd.prog.types.size:=by
 intro t ht
 have:t=22:=by simpa [Tryd.params3] using ht
 subst this
 exact ⟨by kernel_rfl,of_decide_eq_true (by kernel_rfl)⟩
theorem fnModelNamed_lifted (os:Os) (started:os.Started) (H:Type) (enc:TypeId × Value→H) :
 ReturnsInHanded {} Tryd.checked os 3 .any (fun w args=>(Rows.fnModelNamedSpec.pre enc Tryd.prog Tryd.f3 [] false w args∧laidMetH Tryd.prog laidM w)∧sizedMet enc Tryd.prog Tryd.f3 (OpenSpec.ofChange Rows.fnModelNamedSpec) false w args)
  (Rows.fnModelNamedSpec.post enc Tryd.prog Tryd.f3 false true false false):=by
 refine returnsInHanded_of_change_and (C:=Tryd.checked) (X:=fun w _=>laidMetH Tryd.prog laidM w) (fun _ _ _ hh h=>h.of_heap hh) Tryd.own started (by kernel_rfl) Tryd.func3
  (ChangeSpec.witness_shaped (enc:=enc) (C:=Tryd.checked) (os:=os) (X:=fun w _=>laidMetH Tryd.prog laidM w) false (World.laidAll Tryd.prog os laidM) #[.slice none 0 0] 8 rfl (laidAll_shaped os) (by kernel_rfl) (by kernel_rfl) (by kernel_rfl) (laidAll_met os _)) ?_
 intro W base args ds gs before hval0 hW _ _ hL _
 have hval:∀ (j:Nat) t v,Tryd.f3.params[j]? = some t→args[j]? = some v→Value.okWide Tryd.prog W .any base t v:=hval0
 have hW':=hW
 obtain ⟨p,q,hA0,hV,rfl,hfz,hnd⟩:=hW
 have hA:DataW.TrodAll enc Tryd.prog W 0 (fun _=>true) true Tryd.f3.params.toList args.toList ds p:=hA0
 rw [Tryd.params3] at hA hval
 obtain ⟨v0,d0,rfl,rfl,h0⟩:=trodAll_one hA
 obtain ⟨g1,g2,rfl⟩:∃ g1 g2,gs=[g1,g2]:=by
  match gs,hV with
  | [g1,g2],_=>exact ⟨g1,g2,rfl⟩
  | [],h=>exact h.elim
  | [_],⟨_,_,_,_,_,_,_,_,_,_,h,_⟩=>exact h.elim
  | _ :: _ :: _ :: _,⟨_,_,_,_,_,_,_,_,_,_,⟨_,_,_,_,_,_,_,_,_,_,h,_⟩,_⟩=>exact h.elim
 obtain ⟨B0,hB0⟩:=bytes_of_trod (okWide_slice Tryd.underlying22 (hval 0 22 v0 rfl rfl)) h0
 refine (lawFnModelNamed v0 B0 W hB0 (globs_of_laid hL).1 (globs_of_laid hL).2).mono fun e W' ⟨he,hb⟩ => ?_
 exact ⟨_,he,post_lawV Tryd.laidOut fnModelNamed_reads (by kernel_rfl) rfl (by kernel_rfl) Tryd.underlying4 hW' hb⟩
theorem fnModelNamed_named:Tryd.prog.funcNamed Rows.fnModelNamedRow.func=some 3:=by kernel_rfl
theorem fnModelNamed_closed:joinedFacts Tryd.prog 3 Tryd.f3 Rows.fnModelNamedSpec Rows.fnModelNamedRow=true:=by kernel_rfl
theorem fnModelNamed_inst:Func.isInstance Tryd.prog Tryd.f3 Rows.fnModelNamedRow.origin Rows.fnModelNamedRow.targs:=of_decide_eq_true (by kernel_rfl)
theorem fnModelNamed_wrap:Func.isWrapper Tryd.prog Tryd.f3 Rows.fnModelNamedRow.wrapper Rows.fnModelNamedRow.mainSum:=by unfold Func.isWrapper;first | (rw [if_pos (by decide +kernel)];kernel_rfl) | (rw [if_neg (by decide +kernel)];exact ⟨rfl,rfl⟩)
theorem fnModelNamed_wf:Rows.fnModelNamedRow.wfByText (OpenSpec.ofChange Rows.fnModelNamedSpec)=true:=by kernel_rfl
theorem fnModelNamed_main:Tryd.prog.mainIs=some (Rows.fnModelNamedCard.stood.harness.1,Rows.fnModelNamedCard.stood.harness.2.toList):=by kernel_rfl
theorem fnModelNamed_looks:false=Tryd.prog.looks []:=by kernel_rfl
theorem fnModelNamed_goes:false=Rows.fnModelNamedRow.goesBy Tryd.prog:=by kernel_rfl
theorem fnModelNamed_row:Rows.FnModelNamedSaid:=
 OpenClaim.holds_of_wide 3 Tryd.f3 rfl rfl rfl rfl rfl rfl rfl ⟨rfl,rfl,rfl,rfl,rfl⟩ rfl rfl rfl rfl rfl fnModelNamed_named Tryd.func3 fnModelNamed_closed fnModelNamed_inst fnModelNamed_wrap
  (fun os started H enc _=>fnModelNamed_lifted os started H enc)
theorem fnModelNamed_holds:Rows.FnModelNamedCardSaid:=
 Claim7.holds_tied_plain_at .later [] [.data, .widerDeep, .widerDeep, .pinned] true Rows.fnModelNamedCard.stood.harness false
  fnModelNamed_row (fun _ h=>by cases h) fnModelNamed_wf (fun _ h=>by cases h) fnModelNamed_row_tie rfl ⟨rfl,rfl⟩ fnModelNamed_main rfl
  (fun f fn hf hfn=>by
   obtain rfl:f=3:=Option.some.inj (fnModelNamed_named.symm.trans hf) |>.symm
   obtain rfl:fn=Tryd.f3:=(Option.some.inj (Tryd.func3.symm.trans hfn)).symm
   exact ⟨fnModelNamed_looks,fun j t ht=>by
    rw [Tryd.params3] at ht
    have hm:t∈[22]:=by simpa using Array.mem_of_getElem? ht
    have hall:([22].all fun u => !Tryd.prog.wantsStandIn u)=true:=by kernel_rfl
    exact (show Tryd.prog.wantsStandIn t=false by simpa using List.all_eq_true.1 hall t hm)⟩)
  fnModelNamed_goes
end Go.Proofs.YtfbgppkdnfljhaaDoor