/-
  The reference's texts of models. Condition: the model is valid.
-/
import Derived.Test.YtkfhgnkonaafgaaGreatDoorZs32
import Derived.Test.YtkfhgnkonaafgaaGreatDoorZs13
import Derived.Test.YtkfhgnkonaafgaaGreatDoorZs12
import Derived.Test.YtkfhgnkonaafgaaGreatDoorZs07
set_option maxHeartbeats 6400000
set_option maxRecDepth 100000
namespace Go.Proofs.YtkfhgnkonaafgaaGreatDoor
open Go.RowKit
theorem sFormatRelExpr_any (c:Re) (a:Option Addr) (n cp:Nat) (w:World) (hv:validR c=true) (hk:RepRk 0 w ⟨a,n,cp⟩ c.kids) :
 Calls Tryz.prog 204 #[.agg #[.int .i64 c.op, .string c.nm, .slice a n cp]] w fun e w'=>e = .returned (.string (textR 12 c))∧Below w.heap.size w w':=by
 have hs:shapeR 12 c=true:=by unfold validR at hv;simp only [Bool.and_eq_true] at hv;exact hv.1
 have hn:nodesR c≤40:=by unfold validR at hv;simp only [Bool.and_eq_true,decide_eq_true_eq] at hv;exact hv.2
 have HB:=hide (belowAlloc w (.cells #[.int .i64 c.op, .string c.nm, .slice a n cp] 75))
 have X:=hide (BoxR.new w c.op c.nm ⟨a,n,cp⟩ 75)
 have HV:=hide (RelExprValidS_raw c.op c.nm c.kids a n cp _ (hk.below HB.out) (by unfold nodesR at hn;omega))
 rw [Re.eta,hv] at HV
 have HT:=hide (fun w' (hb:Below w.heap.size w w')=>l7Text_any 12 c a n cp w' hs (by omega) (hk.below hb))
 clear hv hk hs hn
 generalize textR 12 c=t at *
 generalize hW:w.alloc (.cells #[.int .i64 c.op, .string c.nm, .slice a n cp] 75)=W at *
 obtain ⟨el,e0,e1,e2, -⟩:=X.out
 go_enter Tryz.func204,Tryz.ntmps204
 go_wp2_with fail
 clear hW
 (with_reducible refine HV.out.mono ?_);rintro e w1 ⟨rfl,hb1⟩
 have d0:=(hb1.cell (p:=⟨w.heap.size,0,none⟩) el).trans e0
 have d1:=(hb1.cell (p:=⟨w.heap.size,1,none⟩) el).trans e1
 have d2:=(hb1.cell (p:=⟨w.heap.size,2,none⟩) el).trans e2
 have dl:=lt_of_cell d0
 have HB1:=hide (HB.out.trans (hb1.mono HB.out.size))
 have HT1:=hide (HT.out _ HB1.out)
 clear e0 e1 e2 el hb1 HV X HT
 go_wp2_with fail
 (with_reducible refine HT1.out.mono ?_);rintro e w2 ⟨rfl,hb2⟩
 go_wp2_with fail
 go_ret
 exact ⟨rfl,HB1.out.trans (hb2.mono HB1.out.size)⟩
def RetPE (w:World) (c:Re) (e:Ending) (w':World):Prop:=
 ∃ s:Slc,e = .returned (.tuple #[.agg #[.int .i64 c.op, .string c.nm, .slice s.a s.n s.cap], .bool true])∧OwnR 75 w' (Made' w w') s c.kids∧Below w.heap.size w w'
theorem sParseRelExpr_ok (s:ByteArray) (hs:s.size≤300) (f:Nat) (c:Re) (h:pR s f (.parse 0 12 3)=some (c,(s.size:Int))) (hv:validR c=true) (ht:textR 12 c=s) (hne:0 < s.size) (w:World) :
 Calls Tryz.prog 180 #[.string s] w (RetPE w c):=by
 have HB:=hide (belowAlloc w (.cells #[.int .i64 0, .string ⟨#[]⟩, .slice none 0 0] 75))
 have X:=hide (BoxR.new w 0 ⟨#[]⟩ ⟨none,0,0⟩ 75)
 have HP:=hide ((pr_all s hs f f (Nat.le_refl _)).2 0 12 3 _ (w.alloc (.cells #[.int .i64 0, .string ⟨#[]⟩, .slice none 0 0] 75)) h (by omega) (by omega) (by omega) (by omega) (by omega) (by omega))
 have HF:=hide (fun (a:Option Addr) n cp w' (hk:RepRk 0 w' ⟨a,n,cp⟩ c.kids)=>sFormatRelExpr_any c a n cp w' hv hk)
 rw [ht] at HF
 have hz0:(w.alloc (.cells #[.int .i64 0, .string ⟨#[]⟩, .slice none 0 0] 75)).heap.size=w.heap.size+1:=by simp
 have hss:(s.toList==s.toList)=true:=by simp
 have hse:(s.toList==[])=false:=by
  rw [beq_eq_false_iff_ne]
  intro e
  have h1:s.toList.length=s.size:=by rw [ByteArray.toList_eq];simp
  rw [e] at h1
  simp at h1;omega
 have hnn:((s.size:Int)==(s.size:Int))=true:=by simp
 clear h hv ht
 generalize hW:w.alloc (.cells #[.int .i64 0, .string ⟨#[]⟩, .slice none 0 0] 75)=W at *
 go_enter Tryz.func180,Tryz.ntmps180
 go_wp2_with fail
 clear hW
 (with_reducible refine HP.out.mono ?_);rintro e w1 ⟨eo,en,ek,sk,he,rfl,own,hb1⟩
 simp only at he
 subst he
 have X1:=hide (X.out.below hb1)
 have HB1:=hide (HB.out.trans (hb1.mono HB.out.size))
 have hz1:=hb1.size
 rw [hz0] at hz1
 have HBL:=hide (belowAlloc w1 (.cells #[.int .i64 eo, .string en, .slice sk.a sk.n sk.cap] 75))
 have BL:=hide (BoxR.new w1 eo en sk 75)
 have OWN:=hide (own.bel HBL.out)
 have hf1:=HF.out sk.a sk.n sk.cap _ (OWN.out.rep (lo:=0) (fun q _=>Nat.zero_le _))
 simp only [Re.op,Re.nm] at hf1
 have HF1:=hide hf1
 clear hf1
 have X2:=hide (X1.out.below HBL.out)
 have HB2:=hide (HB1.out.trans (HBL.out.mono HB1.out.size))
 have hz2:(w1.alloc (.cells #[.int .i64 eo, .string en, .slice sk.a sk.n sk.cap] 75)).heap.size=w1.heap.size+1:=by simp
 clear own hb1 HP X X1 HF
 go_wp2_with fail
 (with_reducible refine HF1.out.mono ?_);rintro e w3 ⟨rfl,hb3⟩
 obtain ⟨bl,b0,b1,b2, -⟩:=BL.out.below hb3
 obtain ⟨cl,r0,r1,r2,rf⟩:=X2.out.below hb3
 have HB3:=hide (HB2.out.trans (hb3.mono HB2.out.size))
 have OWN3:=hide (OWN.out.bel hb3)
 have hz3:=hb3.size
 rw [hz2] at hz3
 clear hb3 HF1
 go_wp2_with fail
 refine bodyPost_ret (v:=.tuple #[.agg #[.int .i64 eo, .string en, .slice sk.a sk.n sk.cap], .bool true]) (by simp [results,Tryz.results180,go_sem, *]) rfl ⟨sk,rfl, ?_, ?_⟩
 ·refine (((OWN3.out.set (notMade hz0) _ _).set (notMade hz0) _ _).set (notMade hz0) _ _).wide fun q hq=>⟨?_, ?_⟩
  ·have:=hq.1;rw [hz0] at this;omega
  ·have:=hq.2;simp;omega
 ·exact ((HB3.out.setCell (Nat.le_refl _) _).setCell (Nat.le_refl _) _).setCell (Nat.le_refl _) _
def cutR (s:ByteArray) (c:UInt8):Nat→Nat→Nat→List ByteArray
 | 0,_,_=>[]
 | f+1,fr,i=>if i=s.size then [s.extract fr i] else if s.data.toList[i]? = some c then s.extract fr i :: cutR s c f (i+1) (i+1) else cutR s c f fr (i+1)
def cutL (s:ByteArray) (c:UInt8):List ByteArray:=cutR s c (s.size+1) 0 0
theorem l17Cut_exact (s:ByteArray) (cb:UInt8) (w:World) (hs:s.size≤1000) :
 Calls Tryz.prog 175 #[.string s, .int .u8 (cb.toNat:Int)] w (RetOwn StrE 9 w (cutL s cb)):=by
 have HG:=hide (fun (j:Nat) (hj:j < s.size)=>(by have h:=byteR_get s (j:Int) (by simpa using hj);simpa using h:s.data.toList[j]? = some (s[j]'hj)))
 have HC0:Hid (cutL s cb=[]++cutR s cb (s.size+1) 0 0):=hide rfl
 have HE:Hid (∀ f fr i,cutR s cb (f+1) fr i=if i=s.size then [s.extract fr i] else if s.data.toList[i]? = some cb then s.extract fr i :: cutR s cb f (i+1) (i+1) else cutR s cb f fr (i+1)):=hide fun _ _ _=>rfl
 have HN:Hid (∀ fr i,cutR s cb 0 fr i=[]):=hide fun _ _=>rfl
 generalize cutL s cb=R at *
 generalize cutR s cb=CU at *
 go_enter Tryz.func175,Tryz.ntmps175
 go_wp2_with fail
 go_loopw [5,6,7] (fun v q i wr => ∃ (k fr f:Nat) (xs:List ByteArray),i = .int .i64 k∧q = .int .i64 fr∧fr≤k∧k+f=s.size+1∧Own StrE 9 wr w.heap.size v xs∧Below w.heap.size w wr∧xs.length≤k∧Hid (R=xs++CU f fr k)) (fun _ _ i _=>s.size+1 - (intOf i).toNat)
 case atStart=>exact ⟨0,0,s.size+1,[],rfl,rfl,by omega,by omega,Own.empty _ w (Nat.le_refl _),(Below.refl _ _).alloc (Nat.le_refl _) _,by simp,HC0⟩
 case round =>
  obtain ⟨k,fr,f,xs,rfl,rfl,hfk,hkf,ho,hb,hxl,HR⟩:=hrel
  by_cases hlt:k≤s.size
  ·obtain ⟨f',rfl⟩:∃ f',f=f'+1:=⟨f - 1,by omega⟩
   have hlt':(k:Int)≤s.size:=by omega
   have hlen:xs.length≤68719476736:=by omega
   have HX:=hide (HE.out f' fr k)
   by_cases hz:k=s.size
   ·subst hz
    obtain rfl:f'=0:=by omega
    have HR2:Hid (R=xs++[s.extract fr s.size]):=hide (by rw [HR.out,HX.out,if_pos rfl])
    go_wp2_with (at_builtin;refine wpList_app StrE 9 Tryz.infoStr rfl Tryz.underlying169 w.heap.size _ xs (s.extract fr s.size) (ho.alloc _) (by decide) hlen (by simp;have:=hb.size;omega) rfl _ _ rfl rfl _ 0 1 rfl news_alloc ?_;intro v' w1 ho1 hgr1)
    have hb1:=below_app hb ho hgr1
    go_roundw
    case rel=>exact ⟨s.size+1,s.size+1,0,xs++[s.extract fr s.size],by go_num,by go_num,by omega,by omega,ho1,hb1,by simp;omega,hide (by rw [HN.out,List.append_nil];exact HR2.out)⟩
    case measure=>simp [intOf]
   ·have hz':((k:Int)==(s.size:Int))=false:=by simp;omega
    have hks:k < s.size:=by omega
    have hki:0≤(k:Int)∧(k:Int) < s.size:=by omega
    have hsk:=HG.out k hks
    by_cases hc:(s[k]'hks)=cb
    ·have hc':(((s[k]'hks).toNat:Int)==(cb.toNat:Int))=true:=by rw [hc];simp
     have HR2:Hid (R=(xs++[s.extract fr k])++CU f' (k+1) (k+1)):=hide (by rw [HR.out,HX.out,if_neg hz,if_pos (by rw [hsk,hc])];simp)
     clear hc hz hsk
     go_wp2_with (at_builtin;refine wpList_app StrE 9 Tryz.infoStr rfl Tryz.underlying169 w.heap.size _ xs (s.extract fr k) (ho.alloc _) (by decide) hlen (by simp;have:=hb.size;omega) rfl _ _ rfl rfl _ 0 1 rfl news_alloc ?_;intro v' w1 ho1 hgr1)
     have hb1:=below_app hb ho hgr1
     go_roundw
     case rel=>exact ⟨k+1,k+1,f',xs++[s.extract fr k],by go_num,by go_num,by omega,by omega,ho1,hb1,by simp;omega,HR2⟩
     case measure=>simp [intOf];omega
    ·have hc':(((s[k]'hks).toNat:Int)==(cb.toNat:Int))=false:=u8R_ne hc
     have HR2:Hid (R=xs++CU f' fr (k+1)):=hide (by rw [HR.out,HX.out,if_neg hz,if_neg (by rw [hsk];intro e;exact hc (Option.some.inj e))])
     clear hc hz hsk
     go_wp2_with fail
     go_roundw
     case rel=>exact ⟨k+1,fr,f',xs,by go_num,rfl,by omega,by omega,ho,hb,by omega,HR2⟩
     case measure=>simp [intOf];omega
  ·have hlt':¬ (k:Int)≤s.size:=by omega
   obtain rfl:f=0:=by omega
   have HR2:Hid (R=xs):=hide (by rw [HR.out,HN.out,List.append_nil])
   go_wp2_with fail
   go_ret
   exact ⟨_,rfl,by rw [HR2.out];exact ho,hb⟩
end Go.Proofs.YtkfhgnkonaafgaaGreatDoor
namespace Go.Proofs.YtkfhgnkonaafgaaGreatDoor
open Go.RowKit
def wordsR:List ByteArray:=[⟨#[]⟩,⟨#[97,99,121,99,108,105,99]⟩,⟨#[105,114,114,101,102]⟩,⟨#[101,109,112,116,121]⟩]
theorem l7Words_any (w:World):Calls Tryz.prog 179 #[] w fun e w'=>e = .returned (.slice (some ⟨w.heap.size,0,none⟩) 4 4)∧Own StrE 9 w' w.heap.size (.slice (some ⟨w.heap.size,0,none⟩) 4 4) wordsR∧Below w.heap.size w w':=by
 go_enter Tryz.func179,Tryz.ntmps179
 go_wp2
 go_ret
 exact ⟨rfl,Own.lit (E:=StrE) (Nat.le_refl _) wordsR _ 4 rfl rfl (by decide),(Below.refl _ _).alloc (Nat.le_refl _) _⟩
structure JW (A0:World) (c1:Bool) (G:Nat) (W:World):Prop where
 out:Below A0.heap.size A0 W
 f:c1=true→Own StrE 9 W A0.heap.size (.slice (some ⟨G,0,none⟩) 4 4) wordsR
theorem JW.below {A0:World} {c1:Bool} {G:Nat} {W W':World} (h:JW A0 c1 G W) (hb:Below W.heap.size W W'):JW A0 c1 G W':=
 ⟨h.out.trans (hb.mono h.out.size),fun e=>(h.f e).below hb⟩
theorem words_at {k:Int} (h:k=1∨k=2∨k=3):∃ q:Nat,k=(q:Int)∧q < 4∧wordsR[q]? = some (wordR k):=by
 rcases h with rfl | rfl | rfl
 ·exact ⟨1,rfl,by decide,rfl⟩
 ·exact ⟨2,rfl,by decide,rfl⟩
 ·exact ⟨3,rfl,by decide,rfl⟩
theorem modelTo_succ {m:List Ru} {k:Nat} {r:Ru} (h:m[k]? = some r):modelTo m (k+1)=(if 0 < k then modelTo m k++⟨#[47]⟩ else modelTo m k)++wordR r.kind++⟨#[32]⟩++textR 12 r.e:=by
 conv=>lhs;unfold modelTo
 rw [h]
theorem wordR_size (k:Int):(wordR k).size≤7:=by
 unfold wordR
 repeat (first | decide | split)
theorem validR_size {c:Re} (h:validR c=true):(textR 12 c).size≤320:=by
 unfold validR at h
 simp only [Bool.and_eq_true,decide_eq_true_eq] at h
 have:=textR_size 12 c h.1
 omega
theorem ruleOk_kind {r:Ru} (h:ruleOk r=true):(r.kind=1∨r.kind=2∨r.kind=3)∧validR r.e=true:=by
 unfold ruleOk inB at h
 simp only [Bool.and_eq_true,decide_eq_true_eq] at h
 exact ⟨by omega,h.2⟩
theorem modelTo_size {m:List Ru} (h:∀ r∈m,ruleOk r=true):∀ k,k≤m.length→(modelTo m k).size≤400 * k:=by
 intro k
 induction k with
 | zero=>intro _;exact Nat.le_refl _
 | succ k ih =>
  intro hk
  obtain ⟨r,hr⟩:=get_of_lt (xs:=m) (k:=k) (by omega)
  rw [modelTo_succ hr]
  have h1:=ih (by omega)
  have h2:=wordR_size r.kind
  have h3:=validR_size (ruleOk_kind (h r (List.mem_of_getElem? hr))).2
  rw [ByteArray.size_append,ByteArray.size_append,ByteArray.size_append]
  have h4:(⟨#[32]⟩:ByteArray).size=1:=rfl
  have h5:(if 0 < k then modelTo m k++⟨#[47]⟩ else modelTo m k).size≤(modelTo m k).size+1:=by
   split
   ·rw [ByteArray.size_append];exact Nat.le_refl _
   ·omega
  omega
theorem l7Model_any (a:Option Addr) (n c:Nat) (m:List Ru) (w:World) (hx:RepM 0 w ⟨a,n,c⟩ m) (hv:∀ r∈m,ruleOk r=true) (hl:m.length≤5) :
 Calls Tryz.prog 181 #[.slice a n c] w fun e w'=>e = .returned (.string (modelTo m m.length))∧Below w.heap.size w w':=by
 obtain ⟨e1,hc1,hc2,hc3⟩:=hx.open
 simp only at e1 hc1 hc2 hc3
 have HX:=hide hx
 clear hx
 have H:=hide e1.symm;clear e1
 rw [H.out] at hc1 hc2 hl ⊢
 have HSZ:=hide (modelTo_size hv)
 have HRK:=hide (fun r (hr:r∈m)=>ruleOk_kind (hv r hr))
 have HMS:=hide (fun k r (h:m[k]? = some r)=>modelTo_succ h)
 have H0:Hid (modelTo m 0=⟨#[]⟩):=hide rfl
 have HW:=hide l7Words_any
 clear hv
 rw [H.out] at HSZ
 generalize modelTo m=MT at *
 go_enter Tryz.func181,Tryz.ntmps181
 go_wp2_with fail
 go_loopw [3,4] (fun q i wr => ∃ k:Nat,k≤n∧i = .int .i64 k∧q = .string (MT k)∧Below w.heap.size w wr) (fun _ i _=>n - (intOf i).toNat)
 case atStart=>exact ⟨0,Nat.zero_le _,rfl,by rw [H0.out],Below.refl _ _⟩
 case round =>
  obtain ⟨k,hk,rfl,rfl,hb⟩:=hrel
  by_cases hlt:k < n
  ·have hlt':=nat_of_lt hlt
   obtain ⟨r,hrk⟩:=get_of_lt (xs:=m) (k:=k) (by rw [H.out];exact hlt)
   obtain ⟨b,o,s,rfl,hbl,i0,i1,i2,i3,i4⟩:=(HX.out.below hb).row hrk
   obtain ⟨hkd,hvr⟩:=HRK.out r (List.mem_of_getElem? hrk)
   have hs12:shapeR 12 r.e=true:=by unfold validR at hvr;simp only [Bool.and_eq_true] at hvr;exact hvr.1
   have hnd:nodesR r.e≤400:=by unfold validR at hvr;simp only [Bool.and_eq_true,decide_eq_true_eq] at hvr;omega
   have HT:=hide (fun W (hb:Below wr.heap.size wr W)=>l7Text_any 12 r.e s.a s.n s.cap W hs12 hnd (i4.below hb))
   have zt:=validR_size hvr
   have MS:=hide (HMS.out k r hrk)
   have zk:=HSZ.out k (by omega)
   have HBW:=hide hb
   clear hrk i4 hvr hs12 hnd hb
   generalize textR 12 r.e=t at *
   generalize MT k=acc at *
   obtain ⟨q,hq,hq4,hqw⟩:=words_at hkd
   have zx:=wordR_size r.kind
   rw [hq] at i0
   have HQ:=hide hqw
   have hqi:(0:Int)≤(q:Int):=by omega
   have hqj:(q:Int) < 4:=by omega
   clear hkd hq hqw
   generalize wordR r.kind=x at *
   by_cases h0:0 < k
   ·have MS3:Hid (MT (k+1)=acc++⟨#[47]⟩++x++⟨#[32]⟩++t):=hide (by rw [MS.out,if_pos h0])
    have g0:decide (0 < k)=true:=decide_eq_true h0
    have z1:(acc++⟨#[47]⟩:ByteArray).size≤2001:=by rw [ByteArray.size_append];have:(⟨#[47]⟩:ByteArray).size=1:=rfl;omega
    clear MS
    go_wp2_with fail
    generalize acc++⟨#[47]⟩=ac at *
    -- reg one
    refine wp_region_inv (n:=18) (by kernel_rfl) rfl (by kernel_rfl) (by kernel_rfl) (fun A ls a' W => ∃ (G:Nat) (x15 x16 x17 x18 x19 x20 x21 x22 x23 x24 x25 x26 x27 x28 x29 x30 x31 x32:Value),a'=putAll A [(15,x15),(16,x16),(17,x17),(18,x18),(19,x19),(20,x20),(21,x21),(22,x22),(23,x23),(24,x24),(25,x25),(26,x26),(27,x27),(28,x28),(29,x29),(30,x30),(31,x31),(32,x32)]∧Vd ls 0 [] x15 (.string ac)∧Vd ls 1 [] x16 (.slice (some ⟨G,0,none⟩) 4 4)∧Vd ls 2 [] x17 (.slice (some ⟨b,o,none⟩) n c)∧Vd ls 3 [] x18 (.int .i64 k)∧Vd ls 4 [] x19 (.pointer (some ⟨b,o+k * 4,none⟩))∧Vd ls 5 [] x20 (.pointer (some ⟨b,o+k * 4,none⟩))∧Vd ls 6 [] x21 (.int .i64 q)∧Vd ls 7 [1] x22 (.pointer (some ⟨G,q,none⟩))∧Vd ls 8 [1] x23 (.string x)∧Vd ls 9 [1] x24 (.string (ac++x))∧Vd ls 10 [1] x25 (.string (ac++x++⟨#[32]⟩))∧Vd ls 11 [] x26 (.slice (some ⟨b,o,none⟩) n c)∧Vd ls 12 [] x27 (.int .i64 k)∧Vd ls 13 [] x28 (.pointer (some ⟨b,o+k * 4,none⟩))∧Vd ls 14 [] x29 (.pointer (some ⟨b,o+k * 4+1,none⟩))∧Vd ls 15 [] x30 (.agg #[.int .i64 r.e.op, .string r.e.nm, .slice s.a s.n s.cap])∧Vd ls 16 [] x31 (.string t)∧Vd ls 17 [1] x32 (.string (ac++x++⟨#[32]⟩++t))∧JW wr (fl ls 1) G W) ?r0 ?rs ?re
    case r0 =>
     exact ⟨0,u15,u16,u17,u18,u19,u20,u21,u22,u23,u24,u25,u26,u27,u28,u29,u30,u31,u32,by simp only [putAll,Act.put,List.setIfInBounds_toArray,List.set_cons_succ,List.set_cons_zero],Vd.start,Vd.start,Vd.start,Vd.start,Vd.start,Vd.start,Vd.start,Vd.start,Vd.start,Vd.start,Vd.start,Vd.start,Vd.start,Vd.start,Vd.start,Vd.start,Vd.start,Vd.start,by simp only [fl_start];exact ⟨(Below.refl _ _).drew,fun h=>(nomatch h)⟩⟩
    case rs =>
     rintro ls a' W hs hnl ⟨G,x15,x16,x17,x18,x19,x20,x21,x22,x23,x24,x25,x26,x27,x28,x29,x30,x31,x32,ha,cv0,cv1,cv2,cv3,cv4,cv5,cv6,cv7,cv8,cv9,cv10,cv11,cv12,cv13,cv14,cv15,cv16,cv17,hJ⟩ k o hkn mc K hK
     simp only [putAll,Act.put,List.setIfInBounds_toArray,List.set_cons_succ,List.set_cons_zero] at ha
     subst ha
     have hkc:k=0∨k=1∨k=2∨k=3∨k=4∨k=5∨k=6∨k=7∨k=8∨k=9∨k=10∨k=11∨k=12∨k=13∨k=14∨k=15∨k=16∨k=17:=by omega
     have hop:=mc.op
     have haf:=mc.after
     rcases hkc with rfl | rfl | rfl | rfl | rfl | rfl | rfl | rfl | rfl | rfl | rfl | rfl | rfl | rfl | rfl | rfl | rfl | rfl
     ·simp at hop;subst hop;simp [Region.binds] at haf
      go_simp
      exact hK _ _ ⟨G,_,_,_,_,_,_,_,_,_,_,_,_,_,_,_,_,_,_,by simp only [putAll,Act.put,List.setIfInBounds_toArray,List.set_cons_succ,List.set_cons_zero],Vd.same (by simp),cv1.set (by decide),cv2.set (by decide),cv3.set (by decide),cv4.set (by decide),cv5.set (by decide),cv6.set (by decide),cv7.set (by decide),cv8.set (by decide),cv9.set (by decide),cv10.set (by decide),cv11.set (by decide),cv12.set (by decide),cv13.set (by decide),cv14.set (by decide),cv15.set (by decide),cv16.set (by decide),cv17.set (by decide),by rw [fl_set (show 0≠1 by decide)];exact hJ⟩
     ·simp at hop;subst hop;simp [Region.binds] at haf
      have f1:=fl_no mc.new;rw [f1] at hJ
      go_simp
      have hsz:=hJ.out.size
      go_at_call 179
      (with_reducible refine (HW.out W).mono ?_);rintro e u ⟨rfl,ho,hb⟩
      exact hK _ _ ⟨W.heap.size,_,_,_,_,_,_,_,_,_,_,_,_,_,_,_,_,_,_,by simp only [putAll,Act.put,List.setIfInBounds_toArray,List.set_cons_succ,List.set_cons_zero],cv0.set (by decide),Vd.same (by simp),cv2.set (by decide),cv3.set (by decide),cv4.set (by decide),cv5.set (by decide),cv6.set (by decide),cv7.void (by decide) (by decide) mc.new,cv8.void (by decide) (by decide) mc.new,cv9.void (by decide) (by decide) mc.new,cv10.void (by decide) (by decide) mc.new,cv11.set (by decide),cv12.set (by decide),cv13.set (by decide),cv14.set (by decide),cv15.set (by decide),cv16.set (by decide),cv17.void (by decide) (by decide) mc.new,by rw [fl_got hs (by decide)];exact ⟨(hJ.below hb).out,fun _=>ho.mono hsz⟩⟩
     ·simp at hop;subst hop;simp [Region.binds] at haf
      go_simp
      exact hK _ _ ⟨G,_,_,_,_,_,_,_,_,_,_,_,_,_,_,_,_,_,_,by simp only [putAll,Act.put,List.setIfInBounds_toArray,List.set_cons_succ,List.set_cons_zero],cv0.set (by decide),cv1.set (by decide),Vd.same (by simp),cv3.set (by decide),cv4.set (by decide),cv5.set (by decide),cv6.set (by decide),cv7.set (by decide),cv8.set (by decide),cv9.set (by decide),cv10.set (by decide),cv11.set (by decide),cv12.set (by decide),cv13.set (by decide),cv14.set (by decide),cv15.set (by decide),cv16.set (by decide),cv17.set (by decide),by rw [fl_set (show 2≠1 by decide)];exact hJ⟩
     ·simp at hop;subst hop;simp [Region.binds] at haf
      go_simp
      exact hK _ _ ⟨G,_,_,_,_,_,_,_,_,_,_,_,_,_,_,_,_,_,_,by simp only [putAll,Act.put,List.setIfInBounds_toArray,List.set_cons_succ,List.set_cons_zero],cv0.set (by decide),cv1.set (by decide),cv2.set (by decide),Vd.same (by simp),cv4.set (by decide),cv5.set (by decide),cv6.set (by decide),cv7.set (by decide),cv8.set (by decide),cv9.set (by decide),cv10.set (by decide),cv11.set (by decide),cv12.set (by decide),cv13.set (by decide),cv14.set (by decide),cv15.set (by decide),cv16.set (by decide),cv17.set (by decide),by rw [fl_set (show 3≠1 by decide)];exact hJ⟩
     ·simp at hop;subst hop;simp [Region.binds] at haf
      obtain rfl:=(cv2.get (by simp [haf])).symm
      obtain rfl:=(cv3.get (by simp [haf])).symm
      go_simp
      exact hK _ _ ⟨G,_,_,_,_,_,_,_,_,_,_,_,_,_,_,_,_,_,_,by simp only [putAll,Act.put,List.setIfInBounds_toArray,List.set_cons_succ,List.set_cons_zero],cv0.set (by decide),cv1.set (by decide),cv2.set (by decide),cv3.set (by decide),Vd.same (by simp),cv5.set (by decide),cv6.set (by decide),cv7.set (by decide),cv8.set (by decide),cv9.set (by decide),cv10.set (by decide),cv11.set (by decide),cv12.set (by decide),cv13.set (by decide),cv14.set (by decide),cv15.set (by decide),cv16.set (by decide),cv17.set (by decide),by rw [fl_set (show 4≠1 by decide)];exact hJ⟩
     ·simp at hop;subst hop;simp [Region.binds] at haf
      obtain rfl:=(cv4.get (by simp [haf])).symm
      go_simp
      exact hK _ _ ⟨G,_,_,_,_,_,_,_,_,_,_,_,_,_,_,_,_,_,_,by simp only [putAll,Act.put,List.setIfInBounds_toArray,List.set_cons_succ,List.set_cons_zero],cv0.set (by decide),cv1.set (by decide),cv2.set (by decide),cv3.set (by decide),cv4.set (by decide),Vd.same (by simp),cv6.set (by decide),cv7.set (by decide),cv8.set (by decide),cv9.set (by decide),cv10.set (by decide),cv11.set (by decide),cv12.set (by decide),cv13.set (by decide),cv14.set (by decide),cv15.set (by decide),cv16.set (by decide),cv17.set (by decide),by rw [fl_set (show 5≠1 by decide)];exact hJ⟩
     ·simp at hop;subst hop;simp [Region.binds] at haf
      obtain rfl:=(cv5.get (by simp [haf])).symm
      have c0:W.cell? ⟨b,o+k * 4,none⟩=some (.int .i64 q):=(cell_of_block (hJ.out.block b hbl) _).trans i0
      have cl:=lt_of_cell c0
      go_simp
      exact hK _ _ ⟨G,_,_,_,_,_,_,_,_,_,_,_,_,_,_,_,_,_,_,by simp only [putAll,Act.put,List.setIfInBounds_toArray,List.set_cons_succ,List.set_cons_zero],cv0.set (by decide),cv1.set (by decide),cv2.set (by decide),cv3.set (by decide),cv4.set (by decide),cv5.set (by decide),Vd.same (by simp),cv7.set (by decide),cv8.set (by decide),cv9.set (by decide),cv10.set (by decide),cv11.set (by decide),cv12.set (by decide),cv13.set (by decide),cv14.set (by decide),cv15.set (by decide),cv16.set (by decide),cv17.set (by decide),by rw [fl_set (show 6≠1 by decide)];exact hJ⟩
     ·simp at hop;subst hop;simp [Region.binds] at haf
      obtain rfl:=(cv1.get (by simp [haf])).symm
      obtain rfl:=(cv6.get (by simp [haf])).symm
      go_simp
      exact hK _ _ ⟨G,_,_,_,_,_,_,_,_,_,_,_,_,_,_,_,_,_,_,by simp only [putAll,Act.put,List.setIfInBounds_toArray,List.set_cons_succ,List.set_cons_zero],cv0.set (by decide),cv1.set (by decide),cv2.set (by decide),cv3.set (by decide),cv4.set (by decide),cv5.set (by decide),cv6.set (by decide),Vd.same (by simp [haf]),cv8.set (by decide),cv9.set (by decide),cv10.set (by decide),cv11.set (by decide),cv12.set (by decide),cv13.set (by decide),cv14.set (by decide),cv15.set (by decide),cv16.set (by decide),cv17.set (by decide),by rw [fl_set (show 7≠1 by decide)];exact hJ⟩
     ·simp at hop;subst hop;simp [Region.binds] at haf
      have q7:=(cv7 (by simp [haf])).1;simp at q7
      obtain rfl:=(cv7.get (by simp [haf])).symm
      obtain ⟨wb,wo,he,cwl,cw⟩:=(hJ.f (fl_yes q7)).rep.str HQ.out
      simp only [Option.some.injEq,Addr.mk.injEq,and_true] at he
      obtain ⟨rfl,rfl⟩:=he
      simp only [Nat.zero_add] at cw
      go_simp
      exact hK _ _ ⟨G,_,_,_,_,_,_,_,_,_,_,_,_,_,_,_,_,_,_,by simp only [putAll,Act.put,List.setIfInBounds_toArray,List.set_cons_succ,List.set_cons_zero],cv0.set (by decide),cv1.set (by decide),cv2.set (by decide),cv3.set (by decide),cv4.set (by decide),cv5.set (by decide),cv6.set (by decide),cv7.set (by decide),Vd.same (by simp [q7]),cv9.set (by decide),cv10.set (by decide),cv11.set (by decide),cv12.set (by decide),cv13.set (by decide),cv14.set (by decide),cv15.set (by decide),cv16.set (by decide),cv17.set (by decide),by rw [fl_set (show 8≠1 by decide)];exact hJ⟩
     ·simp at hop;subst hop;simp [Region.binds] at haf
      have q8:=(cv8 (by simp [haf])).1;simp at q8
      obtain rfl:=(cv0.get (by simp [haf])).symm
      obtain rfl:=(cv8.get (by simp [haf])).symm
      have y1:(ac++x:ByteArray).size≤2100:=by rw [ByteArray.size_append];omega
      go_simp
      rw [if_neg (by omega)]
      try go_simp
      exact hK _ _ ⟨G,_,_,_,_,_,_,_,_,_,_,_,_,_,_,_,_,_,_,by simp only [putAll,Act.put,List.setIfInBounds_toArray,List.set_cons_succ,List.set_cons_zero],cv0.set (by decide),cv1.set (by decide),cv2.set (by decide),cv3.set (by decide),cv4.set (by decide),cv5.set (by decide),cv6.set (by decide),cv7.set (by decide),cv8.set (by decide),Vd.same (by simp [q8]),cv10.set (by decide),cv11.set (by decide),cv12.set (by decide),cv13.set (by decide),cv14.set (by decide),cv15.set (by decide),cv16.set (by decide),cv17.set (by decide),by rw [fl_set (show 9≠1 by decide)];exact hJ⟩
     ·simp at hop;subst hop;simp [Region.binds] at haf
      have q9:=(cv9 (by simp [haf])).1;simp at q9
      obtain rfl:=(cv9.get (by simp [haf])).symm
      have y1:(ac++x:ByteArray).size≤2100:=by rw [ByteArray.size_append];omega
      have y2:(ac++x++⟨#[32]⟩:ByteArray).size≤2101:=by rw [ByteArray.size_append];have:(⟨#[32]⟩:ByteArray).size=1:=rfl;omega
      go_simp
      rw [if_neg (by first | omega | (have:(⟨#[32]⟩:ByteArray).size=1:=rfl;omega))]
      try go_simp
      exact hK _ _ ⟨G,_,_,_,_,_,_,_,_,_,_,_,_,_,_,_,_,_,_,by simp only [putAll,Act.put,List.setIfInBounds_toArray,List.set_cons_succ,List.set_cons_zero],cv0.set (by decide),cv1.set (by decide),cv2.set (by decide),cv3.set (by decide),cv4.set (by decide),cv5.set (by decide),cv6.set (by decide),cv7.set (by decide),cv8.set (by decide),cv9.set (by decide),Vd.same (by simp [q9]),cv11.set (by decide),cv12.set (by decide),cv13.set (by decide),cv14.set (by decide),cv15.set (by decide),cv16.set (by decide),cv17.set (by decide),by rw [fl_set (show 10≠1 by decide)];exact hJ⟩
     ·simp at hop;subst hop;simp [Region.binds] at haf
      go_simp
      exact hK _ _ ⟨G,_,_,_,_,_,_,_,_,_,_,_,_,_,_,_,_,_,_,by simp only [putAll,Act.put,List.setIfInBounds_toArray,List.set_cons_succ,List.set_cons_zero],cv0.set (by decide),cv1.set (by decide),cv2.set (by decide),cv3.set (by decide),cv4.set (by decide),cv5.set (by decide),cv6.set (by decide),cv7.set (by decide),cv8.set (by decide),cv9.set (by decide),cv10.set (by decide),Vd.same (by simp),cv12.set (by decide),cv13.set (by decide),cv14.set (by decide),cv15.set (by decide),cv16.set (by decide),cv17.set (by decide),by rw [fl_set (show 11≠1 by decide)];exact hJ⟩
     ·simp at hop;subst hop;simp [Region.binds] at haf
      go_simp
      exact hK _ _ ⟨G,_,_,_,_,_,_,_,_,_,_,_,_,_,_,_,_,_,_,by simp only [putAll,Act.put,List.setIfInBounds_toArray,List.set_cons_succ,List.set_cons_zero],cv0.set (by decide),cv1.set (by decide),cv2.set (by decide),cv3.set (by decide),cv4.set (by decide),cv5.set (by decide),cv6.set (by decide),cv7.set (by decide),cv8.set (by decide),cv9.set (by decide),cv10.set (by decide),cv11.set (by decide),Vd.same (by simp),cv13.set (by decide),cv14.set (by decide),cv15.set (by decide),cv16.set (by decide),cv17.set (by decide),by rw [fl_set (show 12≠1 by decide)];exact hJ⟩
     ·simp at hop;subst hop;simp [Region.binds] at haf
      obtain rfl:=(cv11.get (by simp [haf])).symm
      obtain rfl:=(cv12.get (by simp [haf])).symm
      go_simp
      exact hK _ _ ⟨G,_,_,_,_,_,_,_,_,_,_,_,_,_,_,_,_,_,_,by simp only [putAll,Act.put,List.setIfInBounds_toArray,List.set_cons_succ,List.set_cons_zero],cv0.set (by decide),cv1.set (by decide),cv2.set (by decide),cv3.set (by decide),cv4.set (by decide),cv5.set (by decide),cv6.set (by decide),cv7.set (by decide),cv8.set (by decide),cv9.set (by decide),cv10.set (by decide),cv11.set (by decide),cv12.set (by decide),Vd.same (by simp),cv14.set (by decide),cv15.set (by decide),cv16.set (by decide),cv17.set (by decide),by rw [fl_set (show 13≠1 by decide)];exact hJ⟩
     ·simp at hop;subst hop;simp [Region.binds] at haf
      obtain rfl:=(cv13.get (by simp [haf])).symm
      go_simp
      exact hK _ _ ⟨G,_,_,_,_,_,_,_,_,_,_,_,_,_,_,_,_,_,_,by simp only [putAll,Act.put,List.setIfInBounds_toArray,List.set_cons_succ,List.set_cons_zero],cv0.set (by decide),cv1.set (by decide),cv2.set (by decide),cv3.set (by decide),cv4.set (by decide),cv5.set (by decide),cv6.set (by decide),cv7.set (by decide),cv8.set (by decide),cv9.set (by decide),cv10.set (by decide),cv11.set (by decide),cv12.set (by decide),cv13.set (by decide),Vd.same (by simp),cv15.set (by decide),cv16.set (by decide),cv17.set (by decide),by rw [fl_set (show 14≠1 by decide)];exact hJ⟩
     ·simp at hop;subst hop;simp [Region.binds] at haf
      obtain rfl:=(cv14.get (by simp [haf])).symm
      have c1:W.cell? ⟨b,o+k * 4+1,none⟩=some (.int .i64 r.e.op):=(cell_of_block (hJ.out.block b hbl) _).trans i1
      have c2:W.cell? ⟨b,o+k * 4+2,none⟩=some (.string r.e.nm):=(cell_of_block (hJ.out.block b hbl) _).trans i2
      have c3:W.cell? ⟨b,o+k * 4+3,none⟩=some (.slice s.a s.n s.cap):=(cell_of_block (hJ.out.block b hbl) _).trans i3
      have cl:=lt_of_cell c1
      go_simp
      exact hK _ _ ⟨G,_,_,_,_,_,_,_,_,_,_,_,_,_,_,_,_,_,_,by simp only [putAll,Act.put,List.setIfInBounds_toArray,List.set_cons_succ,List.set_cons_zero],cv0.set (by decide),cv1.set (by decide),cv2.set (by decide),cv3.set (by decide),cv4.set (by decide),cv5.set (by decide),cv6.set (by decide),cv7.set (by decide),cv8.set (by decide),cv9.set (by decide),cv10.set (by decide),cv11.set (by decide),cv12.set (by decide),cv13.set (by decide),cv14.set (by decide),Vd.same (by simp),cv16.set (by decide),cv17.set (by decide),by rw [fl_set (show 15≠1 by decide)];exact hJ⟩
     ·simp at hop;subst hop;simp [Region.binds] at haf
      obtain rfl:=(cv15.get (by simp [haf])).symm
      go_simp
      have hsz:=hJ.out.size
      go_at_call 205
      (with_reducible refine (HT.out W hJ.out).mono ?_);rintro e u ⟨rfl,hb⟩
      exact hK _ _ ⟨G,_,_,_,_,_,_,_,_,_,_,_,_,_,_,_,_,_,_,by simp only [putAll,Act.put,List.setIfInBounds_toArray,List.set_cons_succ,List.set_cons_zero],cv0.set (by decide),cv1.set (by decide),cv2.set (by decide),cv3.set (by decide),cv4.set (by decide),cv5.set (by decide),cv6.set (by decide),cv7.set (by decide),cv8.set (by decide),cv9.set (by decide),cv10.set (by decide),cv11.set (by decide),cv12.set (by decide),cv13.set (by decide),cv14.set (by decide),cv15.set (by decide),Vd.same (by simp),cv17.set (by decide),by rw [fl_set (show 16≠1 by decide)];exact hJ.below hb⟩
     ·simp at hop;subst hop;simp [Region.binds] at haf
      have q10:=(cv10 (by simp [haf])).1;simp at q10
      obtain rfl:=(cv10.get (by simp [haf])).symm
      obtain rfl:=(cv16.get (by simp [haf])).symm
      have y1:(ac++x:ByteArray).size≤2100:=by rw [ByteArray.size_append];omega
      have y2:(ac++x++⟨#[32]⟩:ByteArray).size≤2101:=by rw [ByteArray.size_append];have:(⟨#[32]⟩:ByteArray).size=1:=rfl;omega
      go_simp
      rw [if_neg (by omega)]
      try go_simp
      exact hK _ _ ⟨G,_,_,_,_,_,_,_,_,_,_,_,_,_,_,_,_,_,_,by simp only [putAll,Act.put,List.setIfInBounds_toArray,List.set_cons_succ,List.set_cons_zero],cv0.set (by decide),cv1.set (by decide),cv2.set (by decide),cv3.set (by decide),cv4.set (by decide),cv5.set (by decide),cv6.set (by decide),cv7.set (by decide),cv8.set (by decide),cv9.set (by decide),cv10.set (by decide),cv11.set (by decide),cv12.set (by decide),cv13.set (by decide),cv14.set (by decide),cv15.set (by decide),cv16.set (by decide),Vd.same (by simp [q10]),by rw [fl_set (show 17≠1 by decide)];exact hJ⟩
    case re =>
     rintro ls a' W hall ⟨G,x15,x16,x17,x18,x19,x20,x21,x22,x23,x24,x25,x26,x27,x28,x29,x30,x31,x32,ha,cv0,cv1,cv2,cv3,cv4,cv5,cv6,cv7,cv8,cv9,cv10,cv11,cv12,cv13,cv14,cv15,cv16,cv17,hJ⟩ o hop
     simp only [putAll,Act.put,List.setIfInBounds_toArray,List.set_cons_succ,List.set_cons_zero] at ha
     subst ha
     simp at hop;subst hop
     obtain rfl:=(cv0.get (hall 0 (by decide))).symm
     obtain rfl:=(cv1.get (hall 1 (by decide))).symm
     obtain rfl:=(cv2.get (hall 2 (by decide))).symm
     obtain rfl:=(cv3.get (hall 3 (by decide))).symm
     obtain rfl:=(cv4.get (hall 4 (by decide))).symm
     obtain rfl:=(cv5.get (hall 5 (by decide))).symm
     obtain rfl:=(cv6.get (hall 6 (by decide))).symm
     obtain rfl:=(cv7.get (hall 7 (by decide))).symm
     obtain rfl:=(cv8.get (hall 8 (by decide))).symm
     obtain rfl:=(cv9.get (hall 9 (by decide))).symm
     obtain rfl:=(cv10.get (hall 10 (by decide))).symm
     obtain rfl:=(cv11.get (hall 11 (by decide))).symm
     obtain rfl:=(cv12.get (hall 12 (by decide))).symm
     obtain rfl:=(cv13.get (hall 13 (by decide))).symm
     obtain rfl:=(cv14.get (hall 14 (by decide))).symm
     obtain rfl:=(cv15.get (hall 15 (by decide))).symm
     obtain rfl:=(cv16.get (hall 16 (by decide))).symm
     obtain rfl:=(cv17.get (hall 17 (by decide))).symm
     rw [fl_yes (hall 1 (by decide))] at hJ
     go_simp
     have HB4:=hide (HBW.out.trans (hJ.out.mono HBW.out.size))
     clear hJ i0 i1 i2 i3
     go_wp2_with fail
     go_roundw
     case rel=>exact ⟨k+1,by omega,by go_num,by rw [MS3.out],HB4.out⟩
     case measure=>simp [intOf];omega
    -- end one
   ·have MS3:Hid (MT (k+1)=acc++x++⟨#[32]⟩++t):=hide (by rw [MS.out,if_neg h0])
    have g0:decide (0 < k)=false:=decide_eq_false h0
    have z1:acc.size≤2001:=by omega
    clear MS
    go_wp2_with fail
    generalize acc=ac at *
    -- reg two
    refine wp_region_inv (n:=18) (by kernel_rfl) rfl (by kernel_rfl) (by kernel_rfl) (fun A ls a' W => ∃ (G:Nat) (x15 x16 x17 x18 x19 x20 x21 x22 x23 x24 x25 x26 x27 x28 x29 x30 x31 x32:Value),a'=putAll A [(15,x15),(16,x16),(17,x17),(18,x18),(19,x19),(20,x20),(21,x21),(22,x22),(23,x23),(24,x24),(25,x25),(26,x26),(27,x27),(28,x28),(29,x29),(30,x30),(31,x31),(32,x32)]∧Vd ls 0 [] x15 (.string ac)∧Vd ls 1 [] x16 (.slice (some ⟨G,0,none⟩) 4 4)∧Vd ls 2 [] x17 (.slice (some ⟨b,o,none⟩) n c)∧Vd ls 3 [] x18 (.int .i64 k)∧Vd ls 4 [] x19 (.pointer (some ⟨b,o+k * 4,none⟩))∧Vd ls 5 [] x20 (.pointer (some ⟨b,o+k * 4,none⟩))∧Vd ls 6 [] x21 (.int .i64 q)∧Vd ls 7 [1] x22 (.pointer (some ⟨G,q,none⟩))∧Vd ls 8 [1] x23 (.string x)∧Vd ls 9 [1] x24 (.string (ac++x))∧Vd ls 10 [1] x25 (.string (ac++x++⟨#[32]⟩))∧Vd ls 11 [] x26 (.slice (some ⟨b,o,none⟩) n c)∧Vd ls 12 [] x27 (.int .i64 k)∧Vd ls 13 [] x28 (.pointer (some ⟨b,o+k * 4,none⟩))∧Vd ls 14 [] x29 (.pointer (some ⟨b,o+k * 4+1,none⟩))∧Vd ls 15 [] x30 (.agg #[.int .i64 r.e.op, .string r.e.nm, .slice s.a s.n s.cap])∧Vd ls 16 [] x31 (.string t)∧Vd ls 17 [1] x32 (.string (ac++x++⟨#[32]⟩++t))∧JW wr (fl ls 1) G W) ?r0 ?rs ?re
    case r0 =>
     exact ⟨0,u15,u16,u17,u18,u19,u20,u21,u22,u23,u24,u25,u26,u27,u28,u29,u30,u31,u32,by simp only [putAll,Act.put,List.setIfInBounds_toArray,List.set_cons_succ,List.set_cons_zero],Vd.start,Vd.start,Vd.start,Vd.start,Vd.start,Vd.start,Vd.start,Vd.start,Vd.start,Vd.start,Vd.start,Vd.start,Vd.start,Vd.start,Vd.start,Vd.start,Vd.start,Vd.start,by simp only [fl_start];exact ⟨(Below.refl _ _).drew,fun h=>(nomatch h)⟩⟩
    case rs =>
     rintro ls a' W hs hnl ⟨G,x15,x16,x17,x18,x19,x20,x21,x22,x23,x24,x25,x26,x27,x28,x29,x30,x31,x32,ha,cv0,cv1,cv2,cv3,cv4,cv5,cv6,cv7,cv8,cv9,cv10,cv11,cv12,cv13,cv14,cv15,cv16,cv17,hJ⟩ k o hkn mc K hK
     simp only [putAll,Act.put,List.setIfInBounds_toArray,List.set_cons_succ,List.set_cons_zero] at ha
     subst ha
     have hkc:k=0∨k=1∨k=2∨k=3∨k=4∨k=5∨k=6∨k=7∨k=8∨k=9∨k=10∨k=11∨k=12∨k=13∨k=14∨k=15∨k=16∨k=17:=by omega
     have hop:=mc.op
     have haf:=mc.after
     rcases hkc with rfl | rfl | rfl | rfl | rfl | rfl | rfl | rfl | rfl | rfl | rfl | rfl | rfl | rfl | rfl | rfl | rfl | rfl
     ·simp at hop;subst hop;simp [Region.binds] at haf
      go_simp
      exact hK _ _ ⟨G,_,_,_,_,_,_,_,_,_,_,_,_,_,_,_,_,_,_,by simp only [putAll,Act.put,List.setIfInBounds_toArray,List.set_cons_succ,List.set_cons_zero],Vd.same (by simp),cv1.set (by decide),cv2.set (by decide),cv3.set (by decide),cv4.set (by decide),cv5.set (by decide),cv6.set (by decide),cv7.set (by decide),cv8.set (by decide),cv9.set (by decide),cv10.set (by decide),cv11.set (by decide),cv12.set (by decide),cv13.set (by decide),cv14.set (by decide),cv15.set (by decide),cv16.set (by decide),cv17.set (by decide),by rw [fl_set (show 0≠1 by decide)];exact hJ⟩
     ·simp at hop;subst hop;simp [Region.binds] at haf
      have f1:=fl_no mc.new;rw [f1] at hJ
      go_simp
      have hsz:=hJ.out.size
      go_at_call 179
      (with_reducible refine (HW.out W).mono ?_);rintro e u ⟨rfl,ho,hb⟩
      exact hK _ _ ⟨W.heap.size,_,_,_,_,_,_,_,_,_,_,_,_,_,_,_,_,_,_,by simp only [putAll,Act.put,List.setIfInBounds_toArray,List.set_cons_succ,List.set_cons_zero],cv0.set (by decide),Vd.same (by simp),cv2.set (by decide),cv3.set (by decide),cv4.set (by decide),cv5.set (by decide),cv6.set (by decide),cv7.void (by decide) (by decide) mc.new,cv8.void (by decide) (by decide) mc.new,cv9.void (by decide) (by decide) mc.new,cv10.void (by decide) (by decide) mc.new,cv11.set (by decide),cv12.set (by decide),cv13.set (by decide),cv14.set (by decide),cv15.set (by decide),cv16.set (by decide),cv17.void (by decide) (by decide) mc.new,by rw [fl_got hs (by decide)];exact ⟨(hJ.below hb).out,fun _=>ho.mono hsz⟩⟩
     ·simp at hop;subst hop;simp [Region.binds] at haf
      go_simp
      exact hK _ _ ⟨G,_,_,_,_,_,_,_,_,_,_,_,_,_,_,_,_,_,_,by simp only [putAll,Act.put,List.setIfInBounds_toArray,List.set_cons_succ,List.set_cons_zero],cv0.set (by decide),cv1.set (by decide),Vd.same (by simp),cv3.set (by decide),cv4.set (by decide),cv5.set (by decide),cv6.set (by decide),cv7.set (by decide),cv8.set (by decide),cv9.set (by decide),cv10.set (by decide),cv11.set (by decide),cv12.set (by decide),cv13.set (by decide),cv14.set (by decide),cv15.set (by decide),cv16.set (by decide),cv17.set (by decide),by rw [fl_set (show 2≠1 by decide)];exact hJ⟩
     ·simp at hop;subst hop;simp [Region.binds] at haf
      go_simp
      exact hK _ _ ⟨G,_,_,_,_,_,_,_,_,_,_,_,_,_,_,_,_,_,_,by simp only [putAll,Act.put,List.setIfInBounds_toArray,List.set_cons_succ,List.set_cons_zero],cv0.set (by decide),cv1.set (by decide),cv2.set (by decide),Vd.same (by simp),cv4.set (by decide),cv5.set (by decide),cv6.set (by decide),cv7.set (by decide),cv8.set (by decide),cv9.set (by decide),cv10.set (by decide),cv11.set (by decide),cv12.set (by decide),cv13.set (by decide),cv14.set (by decide),cv15.set (by decide),cv16.set (by decide),cv17.set (by decide),by rw [fl_set (show 3≠1 by decide)];exact hJ⟩
     ·simp at hop;subst hop;simp [Region.binds] at haf
      obtain rfl:=(cv2.get (by simp [haf])).symm
      obtain rfl:=(cv3.get (by simp [haf])).symm
      go_simp
      exact hK _ _ ⟨G,_,_,_,_,_,_,_,_,_,_,_,_,_,_,_,_,_,_,by simp only [putAll,Act.put,List.setIfInBounds_toArray,List.set_cons_succ,List.set_cons_zero],cv0.set (by decide),cv1.set (by decide),cv2.set (by decide),cv3.set (by decide),Vd.same (by simp),cv5.set (by decide),cv6.set (by decide),cv7.set (by decide),cv8.set (by decide),cv9.set (by decide),cv10.set (by decide),cv11.set (by decide),cv12.set (by decide),cv13.set (by decide),cv14.set (by decide),cv15.set (by decide),cv16.set (by decide),cv17.set (by decide),by rw [fl_set (show 4≠1 by decide)];exact hJ⟩
     ·simp at hop;subst hop;simp [Region.binds] at haf
      obtain rfl:=(cv4.get (by simp [haf])).symm
      go_simp
      exact hK _ _ ⟨G,_,_,_,_,_,_,_,_,_,_,_,_,_,_,_,_,_,_,by simp only [putAll,Act.put,List.setIfInBounds_toArray,List.set_cons_succ,List.set_cons_zero],cv0.set (by decide),cv1.set (by decide),cv2.set (by decide),cv3.set (by decide),cv4.set (by decide),Vd.same (by simp),cv6.set (by decide),cv7.set (by decide),cv8.set (by decide),cv9.set (by decide),cv10.set (by decide),cv11.set (by decide),cv12.set (by decide),cv13.set (by decide),cv14.set (by decide),cv15.set (by decide),cv16.set (by decide),cv17.set (by decide),by rw [fl_set (show 5≠1 by decide)];exact hJ⟩
     ·simp at hop;subst hop;simp [Region.binds] at haf
      obtain rfl:=(cv5.get (by simp [haf])).symm
      have c0:W.cell? ⟨b,o+k * 4,none⟩=some (.int .i64 q):=(cell_of_block (hJ.out.block b hbl) _).trans i0
      have cl:=lt_of_cell c0
      go_simp
      exact hK _ _ ⟨G,_,_,_,_,_,_,_,_,_,_,_,_,_,_,_,_,_,_,by simp only [putAll,Act.put,List.setIfInBounds_toArray,List.set_cons_succ,List.set_cons_zero],cv0.set (by decide),cv1.set (by decide),cv2.set (by decide),cv3.set (by decide),cv4.set (by decide),cv5.set (by decide),Vd.same (by simp),cv7.set (by decide),cv8.set (by decide),cv9.set (by decide),cv10.set (by decide),cv11.set (by decide),cv12.set (by decide),cv13.set (by decide),cv14.set (by decide),cv15.set (by decide),cv16.set (by decide),cv17.set (by decide),by rw [fl_set (show 6≠1 by decide)];exact hJ⟩
     ·simp at hop;subst hop;simp [Region.binds] at haf
      obtain rfl:=(cv1.get (by simp [haf])).symm
      obtain rfl:=(cv6.get (by simp [haf])).symm
      go_simp
      exact hK _ _ ⟨G,_,_,_,_,_,_,_,_,_,_,_,_,_,_,_,_,_,_,by simp only [putAll,Act.put,List.setIfInBounds_toArray,List.set_cons_succ,List.set_cons_zero],cv0.set (by decide),cv1.set (by decide),cv2.set (by decide),cv3.set (by decide),cv4.set (by decide),cv5.set (by decide),cv6.set (by decide),Vd.same (by simp [haf]),cv8.set (by decide),cv9.set (by decide),cv10.set (by decide),cv11.set (by decide),cv12.set (by decide),cv13.set (by decide),cv14.set (by decide),cv15.set (by decide),cv16.set (by decide),cv17.set (by decide),by rw [fl_set (show 7≠1 by decide)];exact hJ⟩
     ·simp at hop;subst hop;simp [Region.binds] at haf
      have q7:=(cv7 (by simp [haf])).1;simp at q7
      obtain rfl:=(cv7.get (by simp [haf])).symm
      obtain ⟨wb,wo,he,cwl,cw⟩:=(hJ.f (fl_yes q7)).rep.str HQ.out
      simp only [Option.some.injEq,Addr.mk.injEq,and_true] at he
      obtain ⟨rfl,rfl⟩:=he
      simp only [Nat.zero_add] at cw
      go_simp
      exact hK _ _ ⟨G,_,_,_,_,_,_,_,_,_,_,_,_,_,_,_,_,_,_,by simp only [putAll,Act.put,List.setIfInBounds_toArray,List.set_cons_succ,List.set_cons_zero],cv0.set (by decide),cv1.set (by decide),cv2.set (by decide),cv3.set (by decide),cv4.set (by decide),cv5.set (by decide),cv6.set (by decide),cv7.set (by decide),Vd.same (by simp [q7]),cv9.set (by decide),cv10.set (by decide),cv11.set (by decide),cv12.set (by decide),cv13.set (by decide),cv14.set (by decide),cv15.set (by decide),cv16.set (by decide),cv17.set (by decide),by rw [fl_set (show 8≠1 by decide)];exact hJ⟩
     ·simp at hop;subst hop;simp [Region.binds] at haf
      have q8:=(cv8 (by simp [haf])).1;simp at q8
      obtain rfl:=(cv0.get (by simp [haf])).symm
      obtain rfl:=(cv8.get (by simp [haf])).symm
      have y1:(ac++x:ByteArray).size≤2100:=by rw [ByteArray.size_append];omega
      go_simp
      rw [if_neg (by omega)]
      try go_simp
      exact hK _ _ ⟨G,_,_,_,_,_,_,_,_,_,_,_,_,_,_,_,_,_,_,by simp only [putAll,Act.put,List.setIfInBounds_toArray,List.set_cons_succ,List.set_cons_zero],cv0.set (by decide),cv1.set (by decide),cv2.set (by decide),cv3.set (by decide),cv4.set (by decide),cv5.set (by decide),cv6.set (by decide),cv7.set (by decide),cv8.set (by decide),Vd.same (by simp [q8]),cv10.set (by decide),cv11.set (by decide),cv12.set (by decide),cv13.set (by decide),cv14.set (by decide),cv15.set (by decide),cv16.set (by decide),cv17.set (by decide),by rw [fl_set (show 9≠1 by decide)];exact hJ⟩
     ·simp at hop;subst hop;simp [Region.binds] at haf
      have q9:=(cv9 (by simp [haf])).1;simp at q9
      obtain rfl:=(cv9.get (by simp [haf])).symm
      have y1:(ac++x:ByteArray).size≤2100:=by rw [ByteArray.size_append];omega
      have y2:(ac++x++⟨#[32]⟩:ByteArray).size≤2101:=by rw [ByteArray.size_append];have:(⟨#[32]⟩:ByteArray).size=1:=rfl;omega
      go_simp
      rw [if_neg (by first | omega | (have:(⟨#[32]⟩:ByteArray).size=1:=rfl;omega))]
      try go_simp
      exact hK _ _ ⟨G,_,_,_,_,_,_,_,_,_,_,_,_,_,_,_,_,_,_,by simp only [putAll,Act.put,List.setIfInBounds_toArray,List.set_cons_succ,List.set_cons_zero],cv0.set (by decide),cv1.set (by decide),cv2.set (by decide),cv3.set (by decide),cv4.set (by decide),cv5.set (by decide),cv6.set (by decide),cv7.set (by decide),cv8.set (by decide),cv9.set (by decide),Vd.same (by simp [q9]),cv11.set (by decide),cv12.set (by decide),cv13.set (by decide),cv14.set (by decide),cv15.set (by decide),cv16.set (by decide),cv17.set (by decide),by rw [fl_set (show 10≠1 by decide)];exact hJ⟩
     ·simp at hop;subst hop;simp [Region.binds] at haf
      go_simp
      exact hK _ _ ⟨G,_,_,_,_,_,_,_,_,_,_,_,_,_,_,_,_,_,_,by simp only [putAll,Act.put,List.setIfInBounds_toArray,List.set_cons_succ,List.set_cons_zero],cv0.set (by decide),cv1.set (by decide),cv2.set (by decide),cv3.set (by decide),cv4.set (by decide),cv5.set (by decide),cv6.set (by decide),cv7.set (by decide),cv8.set (by decide),cv9.set (by decide),cv10.set (by decide),Vd.same (by simp),cv12.set (by decide),cv13.set (by decide),cv14.set (by decide),cv15.set (by decide),cv16.set (by decide),cv17.set (by decide),by rw [fl_set (show 11≠1 by decide)];exact hJ⟩
     ·simp at hop;subst hop;simp [Region.binds] at haf
      go_simp
      exact hK _ _ ⟨G,_,_,_,_,_,_,_,_,_,_,_,_,_,_,_,_,_,_,by simp only [putAll,Act.put,List.setIfInBounds_toArray,List.set_cons_succ,List.set_cons_zero],cv0.set (by decide),cv1.set (by decide),cv2.set (by decide),cv3.set (by decide),cv4.set (by decide),cv5.set (by decide),cv6.set (by decide),cv7.set (by decide),cv8.set (by decide),cv9.set (by decide),cv10.set (by decide),cv11.set (by decide),Vd.same (by simp),cv13.set (by decide),cv14.set (by decide),cv15.set (by decide),cv16.set (by decide),cv17.set (by decide),by rw [fl_set (show 12≠1 by decide)];exact hJ⟩
     ·simp at hop;subst hop;simp [Region.binds] at haf
      obtain rfl:=(cv11.get (by simp [haf])).symm
      obtain rfl:=(cv12.get (by simp [haf])).symm
      go_simp
      exact hK _ _ ⟨G,_,_,_,_,_,_,_,_,_,_,_,_,_,_,_,_,_,_,by simp only [putAll,Act.put,List.setIfInBounds_toArray,List.set_cons_succ,List.set_cons_zero],cv0.set (by decide),cv1.set (by decide),cv2.set (by decide),cv3.set (by decide),cv4.set (by decide),cv5.set (by decide),cv6.set (by decide),cv7.set (by decide),cv8.set (by decide),cv9.set (by decide),cv10.set (by decide),cv11.set (by decide),cv12.set (by decide),Vd.same (by simp),cv14.set (by decide),cv15.set (by decide),cv16.set (by decide),cv17.set (by decide),by rw [fl_set (show 13≠1 by decide)];exact hJ⟩
     ·simp at hop;subst hop;simp [Region.binds] at haf
      obtain rfl:=(cv13.get (by simp [haf])).symm
      go_simp
      exact hK _ _ ⟨G,_,_,_,_,_,_,_,_,_,_,_,_,_,_,_,_,_,_,by simp only [putAll,Act.put,List.setIfInBounds_toArray,List.set_cons_succ,List.set_cons_zero],cv0.set (by decide),cv1.set (by decide),cv2.set (by decide),cv3.set (by decide),cv4.set (by decide),cv5.set (by decide),cv6.set (by decide),cv7.set (by decide),cv8.set (by decide),cv9.set (by decide),cv10.set (by decide),cv11.set (by decide),cv12.set (by decide),cv13.set (by decide),Vd.same (by simp),cv15.set (by decide),cv16.set (by decide),cv17.set (by decide),by rw [fl_set (show 14≠1 by decide)];exact hJ⟩
     ·simp at hop;subst hop;simp [Region.binds] at haf
      obtain rfl:=(cv14.get (by simp [haf])).symm
      have c1:W.cell? ⟨b,o+k * 4+1,none⟩=some (.int .i64 r.e.op):=(cell_of_block (hJ.out.block b hbl) _).trans i1
      have c2:W.cell? ⟨b,o+k * 4+2,none⟩=some (.string r.e.nm):=(cell_of_block (hJ.out.block b hbl) _).trans i2
      have c3:W.cell? ⟨b,o+k * 4+3,none⟩=some (.slice s.a s.n s.cap):=(cell_of_block (hJ.out.block b hbl) _).trans i3
      have cl:=lt_of_cell c1
      go_simp
      exact hK _ _ ⟨G,_,_,_,_,_,_,_,_,_,_,_,_,_,_,_,_,_,_,by simp only [putAll,Act.put,List.setIfInBounds_toArray,List.set_cons_succ,List.set_cons_zero],cv0.set (by decide),cv1.set (by decide),cv2.set (by decide),cv3.set (by decide),cv4.set (by decide),cv5.set (by decide),cv6.set (by decide),cv7.set (by decide),cv8.set (by decide),cv9.set (by decide),cv10.set (by decide),cv11.set (by decide),cv12.set (by decide),cv13.set (by decide),cv14.set (by decide),Vd.same (by simp),cv16.set (by decide),cv17.set (by decide),by rw [fl_set (show 15≠1 by decide)];exact hJ⟩
     ·simp at hop;subst hop;simp [Region.binds] at haf
      obtain rfl:=(cv15.get (by simp [haf])).symm
      go_simp
      have hsz:=hJ.out.size
      go_at_call 205
      (with_reducible refine (HT.out W hJ.out).mono ?_);rintro e u ⟨rfl,hb⟩
      exact hK _ _ ⟨G,_,_,_,_,_,_,_,_,_,_,_,_,_,_,_,_,_,_,by simp only [putAll,Act.put,List.setIfInBounds_toArray,List.set_cons_succ,List.set_cons_zero],cv0.set (by decide),cv1.set (by decide),cv2.set (by decide),cv3.set (by decide),cv4.set (by decide),cv5.set (by decide),cv6.set (by decide),cv7.set (by decide),cv8.set (by decide),cv9.set (by decide),cv10.set (by decide),cv11.set (by decide),cv12.set (by decide),cv13.set (by decide),cv14.set (by decide),cv15.set (by decide),Vd.same (by simp),cv17.set (by decide),by rw [fl_set (show 16≠1 by decide)];exact hJ.below hb⟩
     ·simp at hop;subst hop;simp [Region.binds] at haf
      have q10:=(cv10 (by simp [haf])).1;simp at q10
      obtain rfl:=(cv10.get (by simp [haf])).symm
      obtain rfl:=(cv16.get (by simp [haf])).symm
      have y1:(ac++x:ByteArray).size≤2100:=by rw [ByteArray.size_append];omega
      have y2:(ac++x++⟨#[32]⟩:ByteArray).size≤2101:=by rw [ByteArray.size_append];have:(⟨#[32]⟩:ByteArray).size=1:=rfl;omega
      go_simp
      rw [if_neg (by omega)]
      try go_simp
      exact hK _ _ ⟨G,_,_,_,_,_,_,_,_,_,_,_,_,_,_,_,_,_,_,by simp only [putAll,Act.put,List.setIfInBounds_toArray,List.set_cons_succ,List.set_cons_zero],cv0.set (by decide),cv1.set (by decide),cv2.set (by decide),cv3.set (by decide),cv4.set (by decide),cv5.set (by decide),cv6.set (by decide),cv7.set (by decide),cv8.set (by decide),cv9.set (by decide),cv10.set (by decide),cv11.set (by decide),cv12.set (by decide),cv13.set (by decide),cv14.set (by decide),cv15.set (by decide),cv16.set (by decide),Vd.same (by simp [q10]),by rw [fl_set (show 17≠1 by decide)];exact hJ⟩
    case re =>
     rintro ls a' W hall ⟨G,x15,x16,x17,x18,x19,x20,x21,x22,x23,x24,x25,x26,x27,x28,x29,x30,x31,x32,ha,cv0,cv1,cv2,cv3,cv4,cv5,cv6,cv7,cv8,cv9,cv10,cv11,cv12,cv13,cv14,cv15,cv16,cv17,hJ⟩ o hop
     simp only [putAll,Act.put,List.setIfInBounds_toArray,List.set_cons_succ,List.set_cons_zero] at ha
     subst ha
     simp at hop;subst hop
     obtain rfl:=(cv0.get (hall 0 (by decide))).symm
     obtain rfl:=(cv1.get (hall 1 (by decide))).symm
     obtain rfl:=(cv2.get (hall 2 (by decide))).symm
     obtain rfl:=(cv3.get (hall 3 (by decide))).symm
     obtain rfl:=(cv4.get (hall 4 (by decide))).symm
     obtain rfl:=(cv5.get (hall 5 (by decide))).symm
     obtain rfl:=(cv6.get (hall 6 (by decide))).symm
     obtain rfl:=(cv7.get (hall 7 (by decide))).symm
     obtain rfl:=(cv8.get (hall 8 (by decide))).symm
     obtain rfl:=(cv9.get (hall 9 (by decide))).symm
     obtain rfl:=(cv10.get (hall 10 (by decide))).symm
     obtain rfl:=(cv11.get (hall 11 (by decide))).symm
     obtain rfl:=(cv12.get (hall 12 (by decide))).symm
     obtain rfl:=(cv13.get (hall 13 (by decide))).symm
     obtain rfl:=(cv14.get (hall 14 (by decide))).symm
     obtain rfl:=(cv15.get (hall 15 (by decide))).symm
     obtain rfl:=(cv16.get (hall 16 (by decide))).symm
     obtain rfl:=(cv17.get (hall 17 (by decide))).symm
     rw [fl_yes (hall 1 (by decide))] at hJ
     go_simp
     have HB4:=hide (HBW.out.trans (hJ.out.mono HBW.out.size))
     clear hJ i0 i1 i2 i3
     go_wp2_with fail
     go_roundw
     case rel=>exact ⟨k+1,by omega,by go_num,by rw [MS3.out],HB4.out⟩
     case measure=>simp [intOf];omega
    -- end two
  ·obtain rfl:k=n:=by omega
   go_wp2_with fail
   go_ret
   exact ⟨rfl,hb⟩
end Go.Proofs.YtkfhgnkonaafgaaGreatDoor