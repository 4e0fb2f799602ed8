/-
  What a mutation of an expression asks: the expression's parts, opened and built again; the copy's region. No condition.
-/
import Derived.Test.YtkfhgnkonaafgaaGreatDoorZs34
import Derived.Test.YtkfhgnkonaafgaaGreatDoorZs24
import Derived.Test.YtkfhgnkonaafgaaGreatDoorZs27
import Derived.Test.YtkfhgnkonaafgaaGreatDoorZs09
import Derived.Test.YtkfhgnkonaafgaaGreatDoorZs22
import Derived.Test.YtkfhgnkonaafgaaGreatDoorZs18
import Derived.Test.YtkfhgnkonaafgaaGreatDoorZs16
import Derived.Test.YtkfhgnkonaafgaaGreatDoorZs26
import Derived.Test.YtkfhgnkonaafgaaGreatDoorZs07
set_option maxHeartbeats 6400000
set_option maxRecDepth 100000
namespace Go.Proofs.YtkfhgnkonaafgaaGreatDoor
open Go.RowKit
def PhiM (d:Dd) (W:World) (u:Us) (r:Ru):Prop:=u.kind=r.kind∧u.op=r.e.op∧u.nm=r.e.nm∧OwnR 75 W (fun q=>d.lo≤q∧q < d.hi) u.s r.e.kids
abbrev OwnM (w:World) (base:Nat) (v:Value) (m:List Ru):Prop:=OwnF UsE 77 Rany PhiM w base v m
theorem OwnR.keepT {T:TypeId} {w w':World} {S:Nat→Prop} {s:Slc} {ks:List Re} (h:OwnR T w S s ks) (hk:∀ q a,S q→w.heap[q]? = some (.cells a T (0,0))→w'.heap[q]? = some (.cells a T (0,0))):OwnR T w' S s ks:=by
 induction h with
 | nil=>exact .nil
 | node C h1 h2 h3 h4 h5 h6 h7 h8 ih =>
  rename_i S g n cap us ks
  refine .node C h1 ?_ h3 h4 h5 h6 h7 (fun i u k hu hkk=>ih i u k hu hkk (fun q a hq1 hq2=>hk q a (h4 i q hq1) hq2))
  refine ⟨h2.1, ?_⟩
  rcases h2.2 with ⟨hn,_⟩ | ⟨g',cap',cur,hv,hb1,hgg,rest⟩
  ·simp at hn
  ·simp only [Value.slice.injEq,Option.some.injEq,Addr.mk.injEq,and_true] at hv
   obtain ⟨rfl,rfl,rfl⟩:=hv
   exact .inr ⟨g,cap,cur,rfl,hb1,hk g cur h3 hgg,rest⟩
theorem OwnR.loc {U T:TypeId} (hT:U≠T) {lo hi:Nat} {w:World} {s:Slc} {ks:List Re} (h:OwnR U w (fun q=>lo≤q∧q < hi) s ks) (hb:hi≤w.heap.size):LocR T lo hi w (fun W=>OwnR U W (fun q=>lo≤q∧q < hi) s ks):=
 ⟨h,hb,fun w' k=>h.keepT fun q a hq he=>k q _ hq.1 hq.2 he (fun a' fz e=>by simp at e;exact hT e.2.1)⟩
theorem OwnR.locM {lo hi:Nat} {w:World} {s:Slc} {r:Ru} (h:OwnR 75 w (fun q=>lo≤q∧q < hi) s r.e.kids) (hb:hi≤w.heap.size):LocR 77 lo hi w (fun W=>PhiM ⟨lo,hi,[]⟩ W ⟨r.kind,r.e.op,r.e.nm,s⟩ r):=
 (h.loc (T:=77) (by decide) hb).map fun _ h=>⟨rfl,rfl,rfl,h⟩
theorem OwnM.rep {w:World} {base:Nat} {a:Option Addr} {n c:Nat} {m:List Ru} (h:OwnM w base (.slice a n c) m):RepM base w ⟨a,n,c⟩ m:=by
 obtain ⟨us,ds,h⟩:=h
 refine ⟨us,h.lu,h.own.rep, ?_,fun i u r hu hr => ?_⟩
 ·rcases h.own.shape with ⟨h1,h0⟩ | ⟨g,cap,h1,h2,_⟩
  ·exact .inl h0
  ·simp only [Value.slice.injEq] at h1;exact .inr fun b o e=>by rw [h1.1] at e;simp at e;rw [← e.1];exact h2
 ·obtain ⟨d,hd⟩:=get_of_lt (xs:=ds) (k:=i) (by rw [h.ld,← h.lu];exact (List.getElem?_eq_some_iff.1 hu).1)
  obtain ⟨r1,r2⟩:=h.rows i u d r hu hd hr
  obtain ⟨e1,e2,e3,e4⟩:=r2.now
  exact ⟨e1,e2,e3,e4.rep fun q hq=>Nat.le_trans r1 hq.1⟩
theorem OwnM.toSlc {w:World} {base:Nat} {v:Value} {m:List Ru} (h:OwnM w base v m):∃ s:Slc,v = .slice s.a s.n s.cap∧s.n=m.length:=by
 rcases h.shape with ⟨rfl,h1⟩ | ⟨g,cap,rfl,_⟩
 ·exact ⟨⟨none,0,0⟩,rfl,by rw [h1];rfl⟩
 ·exact ⟨⟨some ⟨g,0,none⟩,m.length,cap⟩,rfl,rfl⟩
theorem OwnM.app {w w':World} {base lo hi:Nat} {us:List Us} {ds:List Dd} {v v':Value} {m:List Ru} (h:OwnFU UsE 77 Rany PhiM us ds w base v m) {r:Ru} {s:Slc} (hn:LocR 77 lo hi w (fun W=>PhiM ⟨lo,hi,[]⟩ W ⟨r.kind,r.e.op,r.e.nm,s⟩ r)) (hb:base≤lo)
 (ho:Own UsE 77 w' base v' (us++[⟨r.kind,r.e.op,r.e.nm,s⟩])) (hg:w.grownBy w' v.ownBlock):OwnM w' base v' (m++[r]):=
 ⟨_,_,OwnFU.app (d:=⟨lo,hi,[]⟩) h ho hg hb hn (fun _ _=>trivial)⟩
structure BoxU (w:World) (g:Nat) (k o:Int) (p:ByteArray) (s:Slc):Prop where
 lt:g < w.heap.size
 c0:w.cell? ⟨g,0,none⟩=some (.int .i64 k)
 c1:w.cell? ⟨g,1,none⟩=some (.int .i64 o)
 c2:w.cell? ⟨g,2,none⟩=some (.string p)
 c3:w.cell? ⟨g,3,none⟩=some (.slice s.a s.n s.cap)
 fz:∀ j,w.frozen? ⟨g,j,none⟩=false
theorem BoxU.new (w:World) (k o:Int) (p:ByteArray) (s:Slc) (T:TypeId):BoxU (w.alloc (.cells #[.int .i64 k, .int .i64 o, .string p, .slice s.a s.n s.cap] T)) w.heap.size k o p s:=
 ⟨by simp,by simp [go_sem],by simp [go_sem],by simp [go_sem],by simp [go_sem],fun j=>by simp [go_sem]⟩
theorem BoxU.below {w w':World} {g:Nat} {k o:Int} {p:ByteArray} {s:Slc} (h:BoxU w g k o p s) (hb:Below w.heap.size w w'):BoxU w' g k o p s:=
 ⟨Nat.lt_of_lt_of_le h.lt hb.size,(hb.cell (p:=⟨g,0,none⟩) h.lt).trans h.c0,(hb.cell (p:=⟨g,1,none⟩) h.lt).trans h.c1,(hb.cell (p:=⟨g,2,none⟩) h.lt).trans h.c2,(hb.cell (p:=⟨g,3,none⟩) h.lt).trans h.c3,fun j=>(hb.frozen (p:=⟨g,j,none⟩) h.lt).trans (h.fz j)⟩
theorem BoxU.kind {w:World} {g:Nat} {k o:Int} {p:ByteArray} {s:Slc} (h:BoxU w g k o p s) (k':Int):BoxU (w.setCell ⟨g,0,none⟩ (.int .i64 k')) g k' o p s:=by
 obtain ⟨h1,h2,h3,h4,h5,h6⟩:=h
 exact ⟨by simpa using h1,by simp [go_sem,h2],by simp [go_sem,h3],by simp [go_sem,h4],by simp [go_sem,h5],fun j=>by simp [go_sem,h6]⟩
def GoodP (x:ByteArray) (r:Ru):Prop:=x.size≤1000∧∃ t:ByteArray,cutL x 32=[wordR r.kind,t]∧pR t 60 (.parse 0 12 3)=some (r.e,(t.size:Int))∧validR r.e=true∧textR 12 r.e=t∧0 < t.size∧t.size≤300∧(r.kind=1∨r.kind=2∨r.kind=3)
structure GoodM (s:ByteArray) (m:List Ru):Prop where
 sz:s.size≤1000
 len:(cutL s 47).length=m.length
 part:∀ (i:Nat) (x:ByteArray) (r:Ru),(cutL s 47)[i]? = some x→m[i]? = some r→GoodP x r
 ok:modelOk m=true
 text:modelTo m m.length=s
 wt:wtM m≤100000
def kindW (w:List UInt8):Int:=if w==(wordR 1).data.toList then 1 else if w==(wordR 2).data.toList then 2 else if w==(wordR 3).data.toList then 3 else 0
def partM (x:ByteArray):Option Ru:=
 match cutL x 32 with
 | [w,t]=>match pR t 60 (.parse 0 12 3) with
  | some (c,n)=>if (n==(t.size:Int)&&validR c&&((textR 12 c).data.toList==t.data.toList)&&decide (0 < t.size)&&decide (t.size≤300)&&decide (x.size≤1000) && !(kindW w.data.toList==0))=true then some ⟨kindW w.data.toList,c⟩ else none
  | none=>none
 | _=>none
def allM:List ByteArray→Option (List Ru)
 | []=>some []
 | x :: xs=>match partM x with
  | none=>none
  | some r=>match allM xs with
   | none=>none
   | some rs=>some (r :: rs)
def readM (s:ByteArray):Option (List Ru):=
 match allM (cutL s 47) with
 | none=>none
 | some m=>if (modelOk m&&((modelTo m m.length).data.toList==s.data.toList)&&decide (s.size≤1000)&&decide (wtM m≤100000))=true then some m else none
theorem bytes_ext {x y:ByteArray} (h:(x.data.toList==y.data.toList)=true):x=y:=by
 have:=of_eq_true (eq_true (beq_iff_eq.1 h))
 exact ByteArray.ext (Array.ext' this)
theorem kindW_word {w:List UInt8} (h:(kindW w==0)=false):(kindW w=1∨kindW w=2∨kindW w=3)∧(wordR (kindW w)).data.toList=w:=by
 unfold kindW at h ⊢
 split
 ·rename_i e;exact ⟨.inl rfl,(beq_iff_eq.1 e).symm⟩
 ·split
  ·rename_i e;exact ⟨.inr (.inl rfl),(beq_iff_eq.1 e).symm⟩
  ·split
   ·rename_i e;exact ⟨.inr (.inr rfl),(beq_iff_eq.1 e).symm⟩
   ·rename_i e1 e2 e3;rw [if_neg e1,if_neg e2,if_neg e3] at h;simp at h
theorem partM_good {x:ByteArray} {r:Ru} (h:partM x=some r):GoodP x r:=by
 unfold partM at h
 split at h
 ·rename_i w t hc
  split at h
  ·rename_i c n hp
   split at h
   ·rename_i hb
    simp only [Bool.and_eq_true,decide_eq_true_eq,Bool.not_eq_true',beq_iff_eq] at hb
    obtain ⟨⟨⟨⟨⟨⟨b1,b2⟩,b3⟩,b4⟩,b5⟩,b6⟩,b7⟩:=hb
    obtain ⟨k1,k2⟩:=kindW_word b7
    simp only [Option.some.injEq] at h
    subst h
    subst b1
    refine ⟨b6,t, ?_,hp,b2,bytes_ext (by simpa using b3),b4,b5,k1⟩
    rw [hc]
    have:wordR (kindW w.data.toList)=w:=bytes_ext (by simpa using k2)
    rw [this]
   ·cases h
  ·cases h
 ·cases h
theorem allM_good:∀ {xs:List ByteArray} {m:List Ru},allM xs=some m→xs.length=m.length∧∀ (i:Nat) (x:ByteArray) (r:Ru),xs[i]? = some x→m[i]? = some r→GoodP x r:=by
 intro xs
 induction xs with
 | nil=>intro m h;simp [allM] at h;subst h;exact ⟨rfl,fun i x r h=>by simp at h⟩
 | cons y ys ih =>
  intro m h
  unfold allM at h
  split at h
  ·cases h
  ·rename_i r hr
   split at h
   ·cases h
   ·rename_i rs hrs
    simp only [Option.some.injEq] at h
    subst h
    obtain ⟨e1,e2⟩:=ih hrs
    refine ⟨by simp [e1],fun i x q hx hq => ?_⟩
    cases i with
    | zero=>simp at hx hq;subst hx;subst hq;exact partM_good hr
    | succ i=>simp at hx hq;exact e2 i x q hx hq
theorem readM_good {s:ByteArray} {m:List Ru} (h:readM s=some m):GoodM s m:=by
 unfold readM at h
 split at h
 ·cases h
 ·rename_i m' hm
  split at h
  ·rename_i hb
   simp only [Bool.and_eq_true,decide_eq_true_eq] at hb
   obtain ⟨⟨⟨b1,b2⟩,b3⟩,b4⟩:=hb
   simp only [Option.some.injEq] at h
   subst h
   obtain ⟨e1,e2⟩:=allM_good hm
   exact ⟨b3,e1,e2,b1,bytes_ext b2,b4⟩
  ·cases h
theorem good_of {s:ByteArray} (h:(readM s).isSome=true):∃ m,GoodM s m:=by
 cases hm:readM s with
 | none=>rw [hm] at h;cases h
 | some m=>exact ⟨m,readM_good hm⟩
def textsM:List ByteArray:=[⟨#[97,99,121,99,108,105,99,32,112,111,124,114,102,124,99,111,124,102,114]⟩,⟨#[97,99,121,99,108,105,99,32,112,111,38,108,111,99,124,114,102,124,99,111,124,102,114,47,97,99,121,99,108,105,99,32,112,111,45,119,114,124,102,101,110,99,101,124,114,102,38,101,120,116,124,99,111,124,102,114,47,105,114,114,101,102,32,102,114,59,99,111]⟩,⟨#[97,99,121,99,108,105,99,32,112,111,38,108,111,99,124,114,102,124,99,111,124,102,114,47,97,99,121,99,108,105,99,32,112,111,45,40,119,114,124,119,119,41,124,102,101,110,99,101,124,114,102,38,101,120,116,124,99,111,124,102,114,47,105,114,114,101,102,32,102,114,59,99,111]⟩,⟨#[97,99,121,99,108,105,99,32,112,111,124,114,102,47,97,99,121,99,108,105,99,32,43,40,112,111,124,114,102,41,38,108,111,99,124,99,111,124,102,114,47,105,114,114,101,102,32,102,114,59,99,111]⟩,⟨#[97,99,121,99,108,105,99,32,112,111,38,108,111,99,124,114,102,124,99,111,124,102,114]⟩,⟨#[101,109,112,116,121,32,112,111]⟩,⟨#[105,114,114,101,102,32,126,114,102,59,99,111]⟩]
theorem textsM_good:∀ s∈textsM,∃ m,GoodM s m:=by
 intro s hs
 simp only [textsM,List.mem_cons,List.not_mem_nil,or_false] at hs
 rcases hs with rfl | rfl | rfl | rfl | rfl | rfl | rfl <;> exact good_of (by decide +kernel)
end Go.Proofs.YtkfhgnkonaafgaaGreatDoor
namespace Go.Proofs.YtkfhgnkonaafgaaGreatDoor
open Go.RowKit
def QE (lo:Nat) (K:Int) (v:Value) (w:World):Prop:=∃ (o:Int) (nm:ByteArray) (s:Slc) (ks:List Re) (S:Nat→Prop),v = .agg #[.int .i64 o, .string nm, .slice s.a s.n s.cap]∧OwnR 75 w S s ks∧(∀ q,S q→lo≤q∧q < w.heap.size)∧nm.size≤16∧(wtR ks:Int)+20≤K
theorem wtR_nil:wtR []=0:=rfl
theorem wtR_one (o:Int) (p:ByteArray) (ks:List Re):wtR [.mk o p ks]=p.size+wtR ks+1:=by
 have e:wtR [.mk o p ks]=(Re.mk o p ks).wt+1:=by simp [wtR]
 rw [e,Re.wt_eq];rfl
theorem wtR_two (o o':Int) (p p':ByteArray) (ks ks':List Re):wtR [.mk o p ks, .mk o' p' ks']=(p.size+wtR ks+1)+(p'.size+wtR ks'+1):=by
 have e:wtR [.mk o p ks, .mk o' p' ks']=((Re.mk o p ks).wt+1)+((Re.mk o' p' ks').wt+1):=by simp [wtR]
 rw [e,Re.wt_eq,Re.wt_eq];rfl
theorem OwnR.outside {T:TypeId} {w w':World} {S:Nat→Prop} {s:Slc} {ks:List Re} {b lo:Nat} (h:OwnR T w S s ks) (ho:Outside b (b+1) w w') (hS:∀ q,S q→lo≤q∧q < w.heap.size) (hb:b < lo):OwnR T w' S s ks:=
 h.keep fun q hq hl=>ho.block q hl (by have:=hS q hq;omega)
theorem nameTab_size:∀ x∈nameTab,x.size≤16:=by decide +kernel
theorem l7Draw_any (b:Nat) (a:Option Addr) (c:Nat) (xs:List Int):∀ (d:Nat),d≤10→∀ (p:Int) (w:World),Rd w b a c xs p→p+10 * 2 ^ d≤900000000 →
 Calls Tryz.prog 136 #[.pointer (some ⟨b,0,none⟩), .int .i64 d] w (RetRd w b a c xs p (10 * 2 ^ d - 5) (QE w.heap.size (34 * 2 ^ d - 14))):=by
 intro d
 induction d with
 | zero =>
  intro _ p w hr hp
  rw [Int.pow_zero,Int.mul_one] at hp
  have HRa:=hide (hr.allocNew (.cells #[.int .i64 0, .string ⟨#[]⟩, .slice none 0 0] 75))
  have HP:=hide (fun (p:Int) n w' h hp (hn:n≤100) (hn0:0≤n)=>pick_any b a c xs p n w' h hp (by omega) (by omega))
  have HL:=hide (fun w'=>l6Names_any w')
  have hlt:=hr.lt
  have hne:w.heap.size≠b:=by omega
  have HBA:=hide (belowAlloc w (.cells #[.int .i64 0, .string ⟨#[]⟩, .slice none 0 0] 75))
  have c0:(w.alloc (.cells #[.int .i64 0, .string ⟨#[]⟩, .slice none 0 0] 75)).cell? ⟨w.heap.size,0,none⟩=some (.int .i64 0):=by simp [go_sem]
  have c1:(w.alloc (.cells #[.int .i64 0, .string ⟨#[]⟩, .slice none 0 0] 75)).cell? ⟨w.heap.size,1,none⟩=some (.string ⟨#[]⟩):=by simp [go_sem]
  have c2:(w.alloc (.cells #[.int .i64 0, .string ⟨#[]⟩, .slice none 0 0] 75)).cell? ⟨w.heap.size,2,none⟩=some (.slice none 0 0):=by simp [go_sem]
  have cf:∀ j,(w.alloc (.cells #[.int .i64 0, .string ⟨#[]⟩, .slice none 0 0] 75)).frozen? ⟨w.heap.size,j,none⟩=false:=fun j=>by simp [go_sem]
  have hwa:(w.alloc (.cells #[.int .i64 0, .string ⟨#[]⟩, .slice none 0 0] 75)).heap.size=w.heap.size+1:=by simp
  clear hr
  go_enter Tryz.func136,Tryz.ntmps136
  go_wp2_with fail
  (with_reducible refine (HL.out _).mono ?_);rintro e w1 ⟨vn,rfl,hon,hbn⟩
  rcases hon.shape with ⟨-,h0⟩ | ⟨gn,cn,rfl,hgn,hgnl,hcn, -⟩
  ·simp [nameTab] at h0
  simp only [show nameTab.length=10 from rfl] at hon hcn ⊢
  have HRz:=hide (HRa.out.keep hbn HRa.out.lt)
  have hwn:=hbn.size
  rw [hwa] at hwn hgn
  have HBN:=hide (HBA.out.trans (hbn.mono HBA.out.size))
  have HON:=hide hon
  have c0:=(hbn.cell (p:=⟨w.heap.size,0,none⟩) (by rw [hwa];exact Nat.lt_succ_self _)).trans c0
  have c1:=(hbn.cell (p:=⟨w.heap.size,1,none⟩) (by rw [hwa];exact Nat.lt_succ_self _)).trans c1
  have c2:=(hbn.cell (p:=⟨w.heap.size,2,none⟩) (by rw [hwa];exact Nat.lt_succ_self _)).trans c2
  have cf:=fun j=>(hbn.frozen (p:=⟨w.heap.size,j,none⟩) (by rw [hwa];exact Nat.lt_succ_self _)).trans (cf j)
  have hgb:gn≠b:=by omega
  have hgg:w.heap.size < w1.heap.size:=by omega
  clear hon hbn
  go_wp2_with fail
  (with_reducible refine (HP.out p _ _ HRz.out (by omega) (by omega) (by omega)).mono ?_);rintro e w2 ⟨v2,p2,rfl,⟨q2,rfl,hq2,hr'2⟩,hp2,hr2,ho2⟩
  have hr'2:=hr'2 (by omega)
  have HR2:=hide hr2
  have OO2:=hide ho2
  clear hr2 ho2
  obtain ⟨y,rfl⟩:∃ y:Nat,q2=(y:Int):=⟨q2.toNat,by omega⟩
  have hy10:y < 10:=by omega
  have hyi:(y:Int) < 10:=by omega
  obtain ⟨x,hx⟩:=get_of_lt (xs:=nameTab) (k:=y) (show y < 10 from hy10)
  have hxs:=nameTab_size x (List.mem_of_getElem? hx)
  obtain ⟨hcx,hfx⟩:=ocell OO2.out
  have d0:=(hcx w.heap.size 0 hgg hne).trans c0
  have d1:=(hcx w.heap.size 1 hgg hne).trans c1
  have d2:=(hcx w.heap.size 2 hgg hne).trans c2
  have dl:=lt_of_cell d0
  have df:=fun j=>(hfx w.heap.size j hgg hne).trans (cf j)
  have dn:=(hcx gn (y * StrE.sz+0) hgnl hgb).trans (HON.out.cell (j:=0) (u:=.string x) hx rfl)
  simp only [StrE,Nat.mul_one,Nat.add_zero] at dn
  have dnl:=lt_of_cell dn
  clear hx hcx hfx
  go_wp2_with fail
  refine bodyPost_ret (v:=.agg #[.int .i64 1, .string x, .slice none 0 0]) (by simp [results,Tryz.results136,go_sem,d0,d1,d2]) rfl ⟨_,p2,rfl,⟨1,x,⟨none,0,0⟩,[],fun _=>False,rfl, .nil,fun q h=>h.elim,hxs,(by rw [wtR_nil];simp)⟩,by omega,(((HR2.out.setNew hlt _ _).setNew hlt _ _).setNew hlt _ _),(((((Outside.of_below HBN.out).trans OO2.out).setNew (Nat.le_refl _) _ _).setNew (Nat.le_refl _) _ _).setNew (Nat.le_refl _) _ _)⟩
 | succ d ih =>
  intro hd p w hr hp
  have hpow:(2:Int) ^ (d+1)=2 * 2 ^ d:=by rw [Int.pow_succ];omega
  have hpos:=pow_pos2 d
  have IH:=hide (ih (by omega))
  rw [hpow] at hp
  rw [hpow]
  have HRa:=hide (hr.allocNew (.cells #[.int .i64 0, .string ⟨#[]⟩, .slice none 0 0] 75))
  have HP:=hide (fun (p:Int) n w' h hp (hn:n≤100) (hn0:0≤n)=>pick_any b a c xs p n w' h hp (by omega) (by omega))
  have HL:=hide (fun w'=>l6Names_any w')
  have hlt:=hr.lt
  have hne:w.heap.size≠b:=by omega
  have HBA:=hide (belowAlloc w (.cells #[.int .i64 0, .string ⟨#[]⟩, .slice none 0 0] 75))
  have c0:(w.alloc (.cells #[.int .i64 0, .string ⟨#[]⟩, .slice none 0 0] 75)).cell? ⟨w.heap.size,0,none⟩=some (.int .i64 0):=by simp [go_sem]
  have c1:(w.alloc (.cells #[.int .i64 0, .string ⟨#[]⟩, .slice none 0 0] 75)).cell? ⟨w.heap.size,1,none⟩=some (.string ⟨#[]⟩):=by simp [go_sem]
  have c2:(w.alloc (.cells #[.int .i64 0, .string ⟨#[]⟩, .slice none 0 0] 75)).cell? ⟨w.heap.size,2,none⟩=some (.slice none 0 0):=by simp [go_sem]
  have cf:∀ j,(w.alloc (.cells #[.int .i64 0, .string ⟨#[]⟩, .slice none 0 0] 75)).frozen? ⟨w.heap.size,j,none⟩=false:=fun j=>by simp [go_sem]
  have hwa:(w.alloc (.cells #[.int .i64 0, .string ⟨#[]⟩, .slice none 0 0] 75)).heap.size=w.heap.size+1:=by simp
  clear hr
  have hD1:((d+1:Nat):Int) - 1=(d:Int):=by omega
  have hD3:((d+1:Nat):Int)≤10:=by omega
  have hD2:1≤((d+1:Nat):Int):=by omega
  generalize hZ:(2:Int) ^ d=Z at *
  clear hZ hpow ih
  generalize ((d+1:Nat):Int)=D at *
  by_cases hD:D < 2
  ·have hD':decide (D < 2)=true:=decide_eq_true hD
   go_enter Tryz.func136,Tryz.ntmps136
   go_wp2_with fail
   (with_reducible refine (HL.out _).mono ?_);rintro e w1 ⟨vn,rfl,hon,hbn⟩
   rcases hon.shape with ⟨-,h0⟩ | ⟨gn,cn,rfl,hgn,hgnl,hcn, -⟩
   ·simp [nameTab] at h0
   simp only [show nameTab.length=10 from rfl] at hon hcn ⊢
   have HRz:=hide (HRa.out.keep hbn HRa.out.lt)
   have hwn:=hbn.size
   rw [hwa] at hwn hgn
   have HBN:=hide (HBA.out.trans (hbn.mono HBA.out.size))
   have HON:=hide hon
   have c0:=(hbn.cell (p:=⟨w.heap.size,0,none⟩) (by rw [hwa];exact Nat.lt_succ_self _)).trans c0
   have c1:=(hbn.cell (p:=⟨w.heap.size,1,none⟩) (by rw [hwa];exact Nat.lt_succ_self _)).trans c1
   have c2:=(hbn.cell (p:=⟨w.heap.size,2,none⟩) (by rw [hwa];exact Nat.lt_succ_self _)).trans c2
   have cf:=fun j=>(hbn.frozen (p:=⟨w.heap.size,j,none⟩) (by rw [hwa];exact Nat.lt_succ_self _)).trans (cf j)
   have hgb:gn≠b:=by omega
   have hgg:w.heap.size < w1.heap.size:=by omega
   clear hon hbn
   go_wp2_with fail
   (with_reducible refine (HP.out p _ _ HRz.out (by omega) (by omega) (by omega)).mono ?_);rintro e w2 ⟨v2,p2,rfl,⟨q2,rfl,hq2,hr'2⟩,hp2,hr2,ho2⟩
   have hr'2:=hr'2 (by omega)
   have HR2:=hide hr2
   have OO2:=hide ho2
   clear hr2 ho2
   obtain ⟨y,rfl⟩:∃ y:Nat,q2=(y:Int):=⟨q2.toNat,by omega⟩
   have hy10:y < 10:=by omega
   have hyi:(y:Int) < 10:=by omega
   obtain ⟨x,hx⟩:=get_of_lt (xs:=nameTab) (k:=y) (show y < 10 from hy10)
   have hxs:=nameTab_size x (List.mem_of_getElem? hx)
   obtain ⟨hcx,hfx⟩:=ocell OO2.out
   have d0:=(hcx w.heap.size 0 hgg hne).trans c0
   have d1:=(hcx w.heap.size 1 hgg hne).trans c1
   have d2:=(hcx w.heap.size 2 hgg hne).trans c2
   have dl:=lt_of_cell d0
   have df:=fun j=>(hfx w.heap.size j hgg hne).trans (cf j)
   have dn:=(hcx gn (y * StrE.sz+0) hgnl hgb).trans (HON.out.cell (j:=0) (u:=.string x) hx rfl)
   simp only [StrE,Nat.mul_one,Nat.add_zero] at dn
   have dnl:=lt_of_cell dn
   clear hx hcx hfx
   go_wp2_with fail
   refine bodyPost_ret (v:=.agg #[.int .i64 1, .string x, .slice none 0 0]) (by simp [results,Tryz.results136,go_sem,d0,d1,d2]) rfl ⟨_,p2,rfl,⟨1,x,⟨none,0,0⟩,[],fun _=>False,rfl, .nil,fun q h=>h.elim,hxs,(by rw [wtR_nil];simp;omega)⟩,by omega,(((HR2.out.setNew hlt _ _).setNew hlt _ _).setNew hlt _ _),(((((Outside.of_below HBN.out).trans OO2.out).setNew (Nat.le_refl _) _ _).setNew (Nat.le_refl _) _ _).setNew (Nat.le_refl _) _ _)⟩
  ·have hD':decide (D < 2)=false:=decide_eq_false hD
   go_enter Tryz.func136,Tryz.ntmps136
   go_wp2_with fail
   (with_reducible refine (HL.out _).mono ?_);rintro e w1 ⟨vn,rfl,hon,hbn⟩
   rcases hon.shape with ⟨-,h0⟩ | ⟨gn,cn,rfl,hgn,hgnl,hcn, -⟩
   ·simp [nameTab] at h0
   simp only [show nameTab.length=10 from rfl] at hon hcn ⊢
   have HRz:=hide (HRa.out.keep hbn HRa.out.lt)
   have hwn:=hbn.size
   rw [hwa] at hwn hgn
   have HBN:=hide (HBA.out.trans (hbn.mono HBA.out.size))
   have HON:=hide hon
   have c0:=(hbn.cell (p:=⟨w.heap.size,0,none⟩) (by rw [hwa];exact Nat.lt_succ_self _)).trans c0
   have c1:=(hbn.cell (p:=⟨w.heap.size,1,none⟩) (by rw [hwa];exact Nat.lt_succ_self _)).trans c1
   have c2:=(hbn.cell (p:=⟨w.heap.size,2,none⟩) (by rw [hwa];exact Nat.lt_succ_self _)).trans c2
   have cf:=fun j=>(hbn.frozen (p:=⟨w.heap.size,j,none⟩) (by rw [hwa];exact Nat.lt_succ_self _)).trans (cf j)
   have hgb:gn≠b:=by omega
   have hgg:w.heap.size < w1.heap.size:=by omega
   clear hon hbn
   go_wp2_with fail
   (with_reducible refine (HP.out p _ _ HRz.out (by omega) (by omega) (by omega)).mono ?_);rintro e w2 ⟨v2,p2,rfl,⟨q2,rfl,hq2,hr'2⟩,hp2,hr2,ho2⟩
   have hr'2:=hr'2 (by omega)
   have HR2:=hide hr2
   have OO2:=hide ho2
   clear hr2 ho2
   by_cases hz:q2=0
   ·have hz':(q2==0)=true:=by rw [hz];rfl
    clear hz
    go_wp2_with fail
    (with_reducible refine (HP.out p2 _ _ HR2.out (by omega) (by omega) (by omega)).mono ?_);rintro e w3 ⟨v3,p3,rfl,⟨q3,rfl,hq3,hr'3⟩,hp3,hr3,ho3⟩
    have hr'3:=hr'3 (by omega)
    have HR3:=hide hr3
    have OO3:=hide (OO2.out.trans ho3)
    clear hr3 ho3
    obtain ⟨y,rfl⟩:∃ y:Nat,q3=(y:Int):=⟨q3.toNat,by omega⟩
    have hy10:y < 10:=by omega
    have hyi:(y:Int) < 10:=by omega
    obtain ⟨x,hx⟩:=get_of_lt (xs:=nameTab) (k:=y) (show y < 10 from hy10)
    have hxs:=nameTab_size x (List.mem_of_getElem? hx)
    obtain ⟨hcx,hfx⟩:=ocell OO3.out
    have d0:=(hcx w.heap.size 0 hgg hne).trans c0
    have d1:=(hcx w.heap.size 1 hgg hne).trans c1
    have d2:=(hcx w.heap.size 2 hgg hne).trans c2
    have dl:=lt_of_cell d0
    have df:=fun j=>(hfx w.heap.size j hgg hne).trans (cf j)
    have dn:=(hcx gn (y * StrE.sz+0) hgnl hgb).trans (HON.out.cell (j:=0) (u:=.string x) hx rfl)
    simp only [StrE,Nat.mul_one,Nat.add_zero] at dn
    have dnl:=lt_of_cell dn
    clear hx hcx hfx
    go_wp2_with fail
    refine bodyPost_ret (v:=.agg #[.int .i64 1, .string x, .slice none 0 0]) (by simp [results,Tryz.results136,go_sem,d0,d1,d2]) rfl ⟨_,p3,rfl,⟨1,x,⟨none,0,0⟩,[],fun _=>False,rfl, .nil,fun q h=>h.elim,hxs,(by rw [wtR_nil];simp;omega)⟩,by omega,(((HR3.out.setNew hlt _ _).setNew hlt _ _).setNew hlt _ _),(((((Outside.of_below HBN.out).trans OO3.out).setNew (Nat.le_refl _) _ _).setNew (Nat.le_refl _) _ _).setNew (Nat.le_refl _) _ _)⟩
   ·have hz':(q2==0)=false:=by simp [hz]
    clear hz
    go_wp2_with fail
    (with_reducible refine (HP.out p2 _ _ HR2.out (by omega) (by omega) (by omega)).mono ?_);rintro e w3 ⟨v3,p3,rfl,⟨q3,rfl,hq3,hr'3⟩,hp3,hr3,ho3⟩
    have hr'3:=hr'3 (by omega)
    have HR3:=hide hr3
    have OO3:=hide (OO2.out.trans ho3)
    clear hr3 ho3
    by_cases hk:q3=0
    ·have hk':(q3==0)=true:=by rw [hk];rfl
     clear hk
     have HN:=hide (fun (p:Int) (w':World) (hb:b < w'.heap.size) h hp=>num_any b a c xs p (Value.slice (some (Addr.mk w'.heap.size 0 none)) 2 2) [6,7] (w'.alloc (.cells #[.int .i64 6, .int .i64 7] 3)) h hp (rep_lit w' [6,7] 3 (by decide)) (by decide) (by decide) (by intro g o e;simp at e;omega))
     go_wp2_with fail
     (with_reducible refine (HN.out p3 w3 (by have:=OO3.out.size;omega) (HR3.out.allocNew _) (by omega)).mono ?_);rintro e w4 ⟨v4,p4,rfl,⟨yo,hyo,rfl⟩,hp4,hr4,hoN⟩
     have ho4:=(Outside.of_below (lo:=b) (hi:=b+1) (belowAlloc w3 (.cells #[.int .i64 6, .int .i64 7] 3))).trans hoN
     clear hoN
     have HR4:=hide hr4
     have OO4:=hide (OO3.out.trans ho4)
     clear hr4 ho4
     go_wp2_with fail
     (with_reducible refine (IH.out p4 _ HR4.out (by omega)).mono ?_);rintro e w5 ⟨v5,p5,rfl,⟨oA,nA,sA,ksA,SA,rfl,hkA,hSA,hnA,hdA⟩,hp5,hr5,ho5⟩
     have hszA:w.heap.size < w4.heap.size:=by have:=OO4.out.size;omega
     have hbzA:b < w4.heap.size:=by omega
     have hzzA:=ho5.size
     have HKA:=hide hkA;clear hkA
     have HSA:=hide hSA;clear hSA
     have hngA:¬ SA w.heap.size:=fun h=>by have:=(HSA.out _ h).1;omega
     have HR5:=hide hr5
     have OO5:=hide (OO4.out.trans ho5)
     clear hr5 ho5
     have hRK:=(((HKA.out.set hngA 0 (.int .i64 yo)).set hngA 1 (.string ⟨#[]⟩)).set hngA 2 (.slice (some ⟨w5.heap.size,0,none⟩) 1 1))
     have hOne:=OwnR.one (S':=fun q=>w.heap.size≤q∧q < w5.heap.size+1) hRK (fun q hq=>by have:=HSA.out q hq;simpa using this.2) (fun q hq=>by have:=HSA.out q hq;omega) (by simp;omega) oA nA
     have HONE:=hide hOne;clear hOne hRK
     obtain ⟨hcx,hfx⟩:=ocell OO5.out
     have d0:=(hcx w.heap.size 0 hgg hne).trans c0
     have d1:=(hcx w.heap.size 1 hgg hne).trans c1
     have d2:=(hcx w.heap.size 2 hgg hne).trans c2
     have dl:=lt_of_cell d0
     have df:=fun j=>(hfx w.heap.size j hgg hne).trans (cf j)
     have hszN:w.heap.size < w5.heap.size:=by omega
     go_wp2_with fail
     refine bodyPost_ret (v:=.agg #[.int .i64 yo, .string ⟨#[]⟩, .slice (some ⟨w5.heap.size,0,none⟩) 1 1]) (by simp [results,Tryz.results136,go_sem,d0,d1,d2,hszN]) rfl ⟨_,p5,rfl,⟨yo,⟨#[]⟩,⟨some ⟨w5.heap.size,0,none⟩,1,1⟩,[.mk oA nA ksA],fun q=>w.heap.size≤q∧q < w5.heap.size+1,rfl,by simpa using HONE.out,fun q hq=>⟨hq.1,by have:=hq.2;simp;omega⟩,by decide,(by rw [wtR_one];omega)⟩,by omega,((((HR5.out.setNew hlt _ _).setNew hlt _ _).setNew hlt _ _).allocNew _),((((((Outside.of_below HBN.out).trans OO5.out).setNew (Nat.le_refl _) _ _).setNew (Nat.le_refl _) _ _).setNew (Nat.le_refl _) _ _).allocNew _)⟩
    ·have hk':(q3==0)=false:=by simp [hk]
     clear hk
     have HN:=hide (fun (p:Int) (w':World) (hb:b < w'.heap.size) h hp=>num_any b a c xs p (Value.slice (some (Addr.mk w'.heap.size 0 none)) 4 4) [2,3,4,5] (w'.alloc (.cells #[.int .i64 2, .int .i64 3, .int .i64 4, .int .i64 5] 3)) h hp (rep_lit w' [2,3,4,5] 3 (by decide)) (by decide) (by decide) (by intro g o e;simp at e;omega))
     go_wp2_with fail
     (with_reducible refine (HN.out p3 w3 (by have:=OO3.out.size;omega) (HR3.out.allocNew _) (by omega)).mono ?_);rintro e w4 ⟨v4,p4,rfl,⟨yo,hyo,rfl⟩,hp4,hr4,hoN⟩
     have ho4:=(Outside.of_below (lo:=b) (hi:=b+1) (belowAlloc w3 (.cells #[.int .i64 2, .int .i64 3, .int .i64 4, .int .i64 5] 3))).trans hoN
     clear hoN
     have HR4:=hide hr4
     have OO4:=hide (OO3.out.trans ho4)
     clear hr4 ho4
     go_wp2_with fail
     (with_reducible refine (IH.out p4 _ HR4.out (by omega)).mono ?_);rintro e w5 ⟨v5,p5,rfl,⟨oA,nA,sA,ksA,SA,rfl,hkA,hSA,hnA,hdA⟩,hp5,hr5,ho5⟩
     have hszA:w.heap.size < w4.heap.size:=by have:=OO4.out.size;omega
     have hbzA:b < w4.heap.size:=by omega
     have hzzA:=ho5.size
     have HKA:=hide hkA;clear hkA
     have HSA:=hide hSA;clear hSA
     have hngA:¬ SA w.heap.size:=fun h=>by have:=(HSA.out _ h).1;omega
     have HoA:=hide ho5
     have HR5:=hide hr5
     have OO5:=hide (OO4.out.trans ho5)
     clear hr5 ho5
     go_wp2_with fail
     (with_reducible refine (IH.out p5 _ HR5.out (by omega)).mono ?_);rintro e w6 ⟨v6,p6,rfl,⟨oB,nB,sB,ksB,SB,rfl,hkB,hSB,hnB,hdB⟩,hp6,hr6,ho6⟩
     have hszB:w.heap.size < w5.heap.size:=by have:=OO5.out.size;omega
     have hbzB:b < w5.heap.size:=by omega
     have hzzB:=ho6.size
     have HKB:=hide hkB;clear hkB
     have HSB:=hide hSB;clear hSB
     have hngB:¬ SB w.heap.size:=fun h=>by have:=(HSB.out _ h).1;omega
     have HoB:=hide ho6
     have HR6:=hide hr6
     have OO6:=hide (OO5.out.trans ho6)
     clear hr6 ho6
     have hA:=((((HKA.out.outside HoB.out HSA.out hbzA).set hngA 0 (.int .i64 yo)).set hngA 1 (.string ⟨#[]⟩)).set hngA 2 (.slice (some ⟨w6.heap.size,0,none⟩) 2 2))
     have hB:=(((HKB.out.set hngB 0 (.int .i64 yo)).set hngB 1 (.string ⟨#[]⟩)).set hngB 2 (.slice (some ⟨w6.heap.size,0,none⟩) 2 2))
     have hTwo:=OwnR.two (S':=fun q=>w.heap.size≤q∧q < w6.heap.size+1) hA hB (fun q hq=>by have:=HSA.out q hq;simp;omega) (fun q hq=>by have:=HSB.out q hq;simpa using this.2) (fun q h1 h2=>by have:=HSA.out q h1;have:=HSB.out q h2;omega) (fun q hq=>by have:=HSA.out q hq;omega) (fun q hq=>by have:=HSB.out q hq;omega) (by simp;omega) oA oB nA nB
     have HTWO:=hide hTwo;clear hTwo hA hB
     obtain ⟨hcx,hfx⟩:=ocell OO6.out
     have d0:=(hcx w.heap.size 0 hgg hne).trans c0
     have d1:=(hcx w.heap.size 1 hgg hne).trans c1
     have d2:=(hcx w.heap.size 2 hgg hne).trans c2
     have dl:=lt_of_cell d0
     have df:=fun j=>(hfx w.heap.size j hgg hne).trans (cf j)
     have hszN:w.heap.size < w6.heap.size:=by omega
     go_wp2_with fail
     refine bodyPost_ret (v:=.agg #[.int .i64 yo, .string ⟨#[]⟩, .slice (some ⟨w6.heap.size,0,none⟩) 2 2]) (by simp [results,Tryz.results136,go_sem,d0,d1,d2,hszN]) rfl ⟨_,p6,rfl,⟨yo,⟨#[]⟩,⟨some ⟨w6.heap.size,0,none⟩,2,2⟩,[.mk oA nA ksA, .mk oB nB ksB],fun q=>w.heap.size≤q∧q < w6.heap.size+1,rfl,by simpa using HTWO.out,fun q hq=>⟨hq.1,by have:=hq.2;simp;omega⟩,by decide,(by rw [wtR_two];omega)⟩,by omega,((((HR6.out.setNew hlt _ _).setNew hlt _ _).setNew hlt _ _).allocNew _),((((((Outside.of_below HBN.out).trans OO6.out).setNew (Nat.le_refl _) _ _).setNew (Nat.le_refl _) _ _).setNew (Nat.le_refl _) _ _).allocNew _)⟩
end Go.Proofs.YtkfhgnkonaafgaaGreatDoor
namespace Go.Proofs.YtkfhgnkonaafgaaGreatDoor
open Go.RowKit
theorem step_appSAt {α:Type} (E:El α) {P:Program} {w:World} {ops:Array Oper} {o:Oper} {a:Act} {K:Act→World→Prop} {Q:Exit→Act→World→Prop} {F:Prop}
 (T:TypeId) {zv:Value} {bytes:Nat} (hinfo:(P.info? T).map (fun i=>(i.zero,i.size,i.bytes))=some (some zv,E.sz,bytes)) (hz:zv.cells.size=E.sz) {t:TypeId} (h1:P.underlying t=some (.slice T))
 (base:Nat) (v:Value) (xs ys:List α) (u:Value) (hown:Own E T w base v xs) (hrep:Rep E w u ys) (hby:bytes≤256) (hn:xs.length+ys.length≤68719476736) (hbase:base≤w.heap.size)
 (hg:o.guard=none) (s y:Operand) (hop:o.op = .call { callee:=.builtin .append,args:=#[s,y],argTypes:=#[t,t] })
 (hs:a.eval s=v) (hy:a.eval y=u)
 (hK:∀ v' w',Own E T w' base v' (xs++ys)→w.grownBy w' v.ownBlock→(v'.ownBlock=v.ownBlock∨∃ q,v'.ownBlock=some q∧w.heap.size≤q)→K (a.put o.dst v') w') :
 if Region.wanted o (yielded ops a.tmps)=true then Oper.wp P o a w K Q else F:=by
 obtain ⟨it,hi,hz0,hz1,hz2⟩:=info_parts hinfo
 obtain ⟨ad,c,rfl,hc1,hc2,hcell⟩:=hrep
 have hw:Region.wanted o (yielded ops a.tmps)=true:=by simp [Region.wanted,hg]
 have hnone:∀ r:(Builtin.append_ #[t,t] o.type #[v, .slice ad ys.length c]).run P w = .ok v w,ys=[]→(if Region.wanted o (yielded ops a.tmps)=true then Oper.wp P o a w K Q else F):=fun r hys=>by
  rw [if_pos hw]
  unfold Oper.wp
  simp [execOp,hop,resolve,invoke,builtin,hs,hy,r,Result.andThen]
  exact hK _ _ (by subst hys;simpa using hown) (World.grownBy.refl _ _) (.inl rfl)
 cases ad with
 | none =>
  have hys:ys=[]:=by
   cases ys with
   | nil=>rfl
   | cons y ys=>obtain ⟨b,o,hb,_⟩:=hcell 0 y rfl;cases hb
  exact hnone (by subst hys;exact run_append_none h1 hi hown) hys
 | some ad =>
  by_cases hys:ys=[]
  ·exact hnone (by subst hys;exact run_append_zero h1 hi hown ad) hys
  have hpos:0 < ys.length:=List.length_pos_iff.2 hys
  refine step_append_lies w hg s y t hop base T it zv E.sz bytes h1 hi hz0 hz1 hz2 hz E.pos v xs.length _ hs hown ad ys.length c (ys.flatMap E.c) hy (E.length ys) ?_ ?_ hpos (by unfold maxLen;omega) ?_ hbase _ rfl ?_
  ·intro j u hu
   have hpos:=E.pos
   have hj:j=j / E.sz * E.sz+j % E.sz:=by rw [Nat.mul_comm];exact (Nat.div_add_mod j E.sz).symm
   have hm:j % E.sz < E.sz:=Nat.mod_lt _ hpos
   have hu2:=hu
   rw [hj,E.get ys _ _ hm] at hu2
   cases hx:ys[j / E.sz]? with
   | none=>rw [hx] at hu2;cases hu2
   | some x =>
    rw [hx] at hu2
    obtain ⟨b,o,hb,h⟩:=hcell _ x hx
    simp only [Option.some.injEq] at hb
    subst hb
    have hc:=h (j % E.sz) u hu2
    rw [Addr.add_lit,hj,← Nat.add_assoc]
    exact hc
  ·intro u hu
   rw [List.mem_flatMap] at hu
   obtain ⟨x,_,hx⟩:=hu
   exact E.one x u hx
  ·have:=Nat.mul_le_mul (show xs.length+ys.length≤68719476736 from hn) hby
   omega
  ·intro g cap w' h2 h3 h4 _
   refine hK _ w' ?_ h3 ?_
   ·unfold Own
    simpa [List.flatMap_append] using h2
   ·rcases h4 with h4 | h4
    ·exact .inl h4.symm
    ·exact .inr ⟨g,rfl,by omega⟩
theorem Own.setFarR {α:Type} {E:El α} {T:TypeId} {w:World} {base g:Nat} {v:Value} {xs:List α} (h:Own E T w base v xs) (hg:v.ownBlock≠some g) (j:Nat) (u:Value):Own E T (w.setCell ⟨g,j,none⟩ u) base v xs:=
 h.sameV fun k hk=>heap_setCell_other w ⟨g,j,none⟩ k u (fun e=>hg (by rw [hk];exact congrArg some e))
theorem OwnR.open {T:TypeId} {w:World} {S:Nat→Prop} {s:Slc} {ks:List Re} (h:OwnR T w S s ks) :
 ∃ (us:List Rs) (C:Nat→Nat→Prop),us.length=ks.length∧Rep RsE w s.v us∧(∀ i q,C i q→S q)∧(∀ i j q,C i q→C j q→i=j) ∧
  (∀ (i:Nat) (u:Rs) (k:Re),us[i]? = some u→ks[i]? = some k→u.op=k.op∧u.nm=k.nm)∧(∀ (i:Nat) (u:Rs) (k:Re),us[i]? = some u→ks[i]? = some k→OwnR T w (C i) u.s k.kids):=by
 cases h with
 | nil=>exact ⟨[],fun _ _=>False,rfl,Rep.nil w,fun _ _ h=>h.elim,fun _ _ _ h=>h.elim,fun i u k h=>by simp at h,fun i u k h=>by simp at h⟩
 | node C h1 h2 h3 h4 h5 h6 h7 h8=>exact ⟨_,C,h1,h2.rep,h4,h6,h7,h8⟩
theorem OwnR.build {T:TypeId} {w:World} {S:Nat→Prop} {s:Slc} {us:List Rs} {ks:List Re} {base:Nat} (C:Nat→Nat→Prop) (h1:us.length=ks.length) (ho:Own RsE T w base s.v us) (h3:∀ g,s.v.ownBlock=some g→S g)
 (h4:∀ i q,C i q→S q) (h5:∀ g,s.v.ownBlock=some g→∀ i,¬ C i g) (h6:∀ i j q,C i q→C j q→i=j)
 (h7:∀ (i:Nat) (u:Rs) (k:Re),us[i]? = some u→ks[i]? = some k→u.op=k.op∧u.nm=k.nm) (h8:∀ (i:Nat) (u:Rs) (k:Re),us[i]? = some u→ks[i]? = some k→OwnR T w (C i) u.s k.kids):OwnR T w S s ks:=by
 obtain ⟨sa,sn,sc⟩:=s
 rcases ho.shape with ⟨hv,hu⟩ | ⟨g,cap,hv,hg,hgl,_⟩
 ·simp only [Slc.v,Value.slice.injEq] at hv
  obtain ⟨rfl,rfl,rfl⟩:=hv
  subst hu
  cases ks with
  | nil=>exact .nil
  | cons k ks=>simp at h1
 ·simp only [Slc.v,Value.slice.injEq] at hv
  obtain ⟨rfl,rfl,rfl⟩:=hv
  exact .node C h1 (ho.mono (Nat.zero_le _)) (h3 g rfl) h4 (h5 g rfl) h6 h7 h8
structure JM1 (A0:World) (us:List Rs) (c4 c7 c9:Bool) (e0:Nat) (v:Slc) (b5:Nat) (W:World):Prop where
 out:Below A0.heap.size A0 W
 d:c7=true→c4=true
 e:c4=true→c7=false→Own RsE 75 W A0.heap.size (.slice (some ⟨e0,0,none⟩) 0 0) []
 o:c7=true→Own RsE 75 W A0.heap.size (.slice v.a v.n v.cap) us
 b:c9=true→BoxR W b5 0 ⟨#[]⟩ ⟨none,0,0⟩∧A0.heap.size≤b5
 ne:c9=true→c4=true→c7=false→e0≠b5
 nv:c9=true→c7=true→(Value.slice v.a v.n v.cap).ownBlock≠some b5
theorem JM1.start {A0 W:World} {us:List Rs} {e0 b5:Nat} {v:Slc} (h:Below A0.heap.size A0 W):JM1 A0 us false false false e0 v b5 W:=
 ⟨h,fun h=>(nomatch h),fun h=>(nomatch h),fun h=>(nomatch h),fun h=>(nomatch h),fun h=>(nomatch h),fun h=>(nomatch h)⟩
theorem JM1.lit {A0 W:World} {us:List Rs} {c7 c9:Bool} {e0 b5:Nat} {v:Slc} (h:JM1 A0 us false c7 c9 e0 v b5 W):JM1 A0 us true c7 c9 W.heap.size v b5 (W.alloc (.cells #[] 75)):=by
 have h7:c7=false:=by cases c7 with
  | false=>rfl
  | true=>exact absurd (h.d rfl) (by decide)
 subst h7
 have hb:=belowAlloc W (.cells #[] 75)
 exact ⟨h.out.trans (hb.mono h.out.size),fun h=>(nomatch h),fun _ _=>Own.empty _ W h.out.size,fun h=>(nomatch h),fun hc=>⟨(h.b hc).1.below hb,(h.b hc).2⟩,fun hc _ _ e=>by have:=(h.b hc).1.lt;omega,fun _ h=>(nomatch h)⟩
theorem JM1.box {A0 W:World} {us:List Rs} {c4 c7:Bool} {e0 b5:Nat} {v:Slc} (h:JM1 A0 us c4 c7 false e0 v b5 W):JM1 A0 us c4 c7 true e0 v W.heap.size (W.alloc (.cells #[.int .i64 0, .string ⟨#[]⟩, .slice none 0 0] 75)):=by
 have hb:=belowAlloc W (.cells #[.int .i64 0, .string ⟨#[]⟩, .slice none 0 0] 75)
 refine ⟨h.out.trans (hb.mono h.out.size),h.d,fun a b=>(h.e a b).below hb,fun a=>(h.o a).below hb,fun _=>⟨BoxR.new W 0 ⟨#[]⟩ ⟨none,0,0⟩ _,h.out.size⟩,fun _ a b e => ?_,fun _ a e => ?_⟩
 ·have:=(World.ownsRow.lt (h.e a b) e0 rfl).2;omega
 ·have:=(World.ownsRow.lt (h.o a) _ e).2;omega
theorem BoxR.grown {w w':World} {g:Nat} {o:Int} {p:ByteArray} {s:Slc} {r:Option Nat} (h:BoxR w g o p s) (hg:w.grownBy w' r) (hr:r≠some g):BoxR w' g o p s:=by
 have e:=hg.block g h.lt (fun e=>hr e.symm)
 obtain ⟨h1,h2,h3,h4,h5⟩:=h
 exact ⟨Nat.lt_of_lt_of_le h1 hg.size,(cell_of_block e _).trans h2,(cell_of_block e _).trans h3,(cell_of_block e _).trans h4,fun k=>by
  have h6:=h5 k
  unfold World.frozen? at h6 ⊢
  rw [e];exact h6⟩
theorem JM1.app {A0 W W':World} {us:List Rs} {c9:Bool} {e0 b5:Nat} {v v':Slc} (h:JM1 A0 us true false c9 e0 v b5 W) (ho:Own RsE 75 W' A0.heap.size (.slice v'.a v'.n v'.cap) us) (hg:W.grownBy W' (some e0)) (hat:(Value.slice v'.a v'.n v'.cap).ownBlock=some e0∨∃ q,(Value.slice v'.a v'.n v'.cap).ownBlock=some q∧W.heap.size≤q):JM1 A0 us true true c9 e0 v' b5 W':=by
 have he:=World.ownsRow.lt (h.e rfl rfl) e0 rfl
 refine ⟨h.out.grown hg (by have:=h.out.size;omega) (fun k hk=>by simp at hk;omega),fun _=>rfl,fun _ h=>(nomatch h),fun _=>ho,fun hc=>⟨(h.b hc).1.grown hg (fun e=>h.ne hc rfl rfl (by simpa using e)),(h.b hc).2⟩,fun _ _ h=>(nomatch h),fun hc _ e => ?_⟩
 rcases hat with h1 | ⟨q,h1,h2⟩
 ·exact h.ne hc rfl rfl (by rw [e] at h1;simpa using h1.symm)
 ·rw [e] at h1
  have:=(h.b hc).1.lt
  simp at h1;omega
theorem BoxR.outsideR {w w':World} {g b:Nat} {o:Int} {p:ByteArray} {s:Slc} (h:BoxR w g o p s) (ho:Outside b (b+1) w w') (hb:g≠b):BoxR w' g o p s:=by
 have e:=ho.block g h.lt (by omega)
 obtain ⟨h1,h2,h3,h4,h5⟩:=h
 exact ⟨Nat.lt_of_lt_of_le h1 ho.size,(cell_of_block e _).trans h2,(cell_of_block e _).trans h3,(cell_of_block e _).trans h4,fun k=>by
  have h6:=h5 k
  unfold World.frozen? at h6 ⊢
  rw [e];exact h6⟩
structure JM2 (w WB A0:World) (b:Nat) (a:Option Addr) (c:Nat) (xs:List Int) (p2:Int) (b5:Nat) (o:Int) (nm:ByteArray) (v:Slc) (us:List Rs) (ks:List Re) (C:Nat→Nat→Prop) (c3 c4 c5:Bool)
 (pp o1:Int) (n1:ByteArray) (s1:Slc) (ks1:List Re) (S1:Nat→Prop) (G:Nat) (v':Slc) (W:World):Prop where
 rd:Rd W b a c xs pp
 le:pp≤p2+(if c3=true then 15 else 0)
 oo:Outside b (b+1) w W
 sz:A0.heap.size≤W.heap.size
 x5:BoxR W b5 o nm v
 x4:BoxR W (w.heap.size+1) 0 ⟨#[]⟩ ⟨none,0,0⟩
 kk:∀ (i:Nat) (u:Rs) (k:Re),us[i]? = some u→ks[i]? = some k→OwnR 75 W (C i) u.s k.kids
 d4:c4=true→c3=true
 d5:c5=true→c4=true
 ov:c5=false→Own RsE 75 W WB.heap.size (.slice v.a v.n v.cap) us
 dr:c3=true→OwnR 75 W S1 s1 ks1∧(∀ q,S1 q→A0.heap.size≤q∧q < W.heap.size)∧n1.size≤16∧(wtR ks1:Int)+20≤54
 ce:c4=true→c5=false→∀ j u,(RsE.c ⟨o1,n1,s1⟩)[j]? = some u→W.cell? ⟨G,0+j,none⟩=some u
 fin:c5=true→Own RsE 75 W WB.heap.size (.slice v'.a v'.n v'.cap) (us++[⟨o1,n1,s1⟩])∧∀ g,(Value.slice v'.a v'.n v'.cap).ownBlock=some g→g≠b5∧¬ S1 g
section
variable {w WB A0 W : World} {b : Nat} {a : Option Addr} {c : Nat} {xs : List Int} {p2 : Int} {b5 : Nat} {o : Int} {nm : ByteArray} {v : Slc} {us : List Rs} {ks : List Re} {C : Nat → Nat → Prop} {c3 c4 c5 : Bool}
    {pp o1 : Int} {n1 : ByteArray} {s1 : Slc} {ks1 : List Re} {S1 : Nat → Prop} {G : Nat} {v' : Slc}
theorem bno {x y:Bool} (h:x=true→y=true) (hy:y=false):x=false:=by
 cases x with
 | false=>rfl
 | true=>rw [h rfl] at hy;cases hy
theorem JM2.draw (h:JM2 w WB A0 b a c xs p2 b5 o nm v us ks C false c4 c5 pp o1 n1 s1 ks1 S1 G v' W) {W':World} {pp' o1':Int} {n1':ByteArray} {s1':Slc} {ks1':List Re} {S1':Nat→Prop}
 (hr:Rd W' b a c xs pp') (hp:pp'≤pp+15) (ho:Outside b (b+1) W W') (h1:OwnR 75 W' S1' s1' ks1') (h2:∀ q,S1' q→W.heap.size≤q∧q < W'.heap.size) (h3:n1'.size≤16) (h4:(wtR ks1':Int)+20≤54)
 (hb:b5≠b) (hb4:w.heap.size+1≠b) (hWB:b < WB.heap.size) (hC:∀ i q,C i q→q≠b):JM2 w WB A0 b a c xs p2 b5 o nm v us ks C true c4 c5 pp' o1' n1' s1' ks1' S1' G v' W':=by
 have e4:=bno h.d4 rfl
 have e5:=bno h.d5 e4
 subst e4;subst e5
 have hle:=h.le
 exact ⟨hr,by simp at hle ⊢;omega,h.oo.trans ho,Nat.le_trans h.sz ho.size,h.x5.outsideR ho hb,h.x4.outsideR ho hb4,fun i u k hu hk=>(h.kk i u k hu hk).keep fun q hq hl=>ho.block q hl (by have:=hC i q hq;omega),fun h=>(nomatch h),fun h=>(nomatch h),fun _=>ho.ownHi (h.ov rfl) hWB,fun _=>⟨h1,fun q hq=>⟨Nat.le_trans h.sz (h2 q hq).1,(h2 q hq).2⟩,h3,h4⟩,fun h=>(nomatch h),fun h=>(nomatch h)⟩
theorem JM2.lit (h:JM2 w WB A0 b a c xs p2 b5 o nm v us ks C true false c5 pp o1 n1 s1 ks1 S1 G v' W):JM2 w WB A0 b a c xs p2 b5 o nm v us ks C true true c5 pp o1 n1 s1 ks1 S1 W.heap.size v' (W.alloc (.cells #[.int .i64 o1, .string n1, .slice s1.a s1.n s1.cap] 75)):=by
 have e5:=bno h.d5 rfl
 subst e5
 have hb:=belowAlloc W (.cells #[.int .i64 o1, .string n1, .slice s1.a s1.n s1.cap] 75)
 obtain ⟨d1,d2,d3,d4⟩:=h.dr rfl
 exact ⟨h.rd.allocNew _,h.le,h.oo.allocNew _,Nat.le_trans h.sz hb.size,h.x5.below hb,h.x4.below hb,fun i u k hu hk=>(h.kk i u k hu hk).bel hb,fun _=>rfl,fun h=>(nomatch h),fun _=>(h.ov rfl).below hb,fun _=>⟨d1.bel hb,fun q hq=>⟨(d2 q hq).1,Nat.lt_of_lt_of_le (d2 q hq).2 hb.size⟩,d3,d4⟩,fun _ _=>news_alloc,fun h=>(nomatch h)⟩
theorem JM2.app (h:JM2 w WB A0 b a c xs p2 b5 o nm v us ks C c3 true false pp o1 n1 s1 ks1 S1 G v' W) {W':World} {v2:Slc} (ho:Own RsE 75 W' WB.heap.size (.slice v2.a v2.n v2.cap) (us++[⟨o1,n1,s1⟩])) (hg:W.grownBy W' (Value.slice v.a v.n v.cap).ownBlock)
 (hat:(Value.slice v2.a v2.n v2.cap).ownBlock=(Value.slice v.a v.n v.cap).ownBlock∨∃ q,(Value.slice v2.a v2.n v2.cap).ownBlock=some q∧W.heap.size≤q) (hnv:(Value.slice v.a v.n v.cap).ownBlock≠some b5) (hw:WB.heap.size=w.heap.size+2) (hWA:WB.heap.size≤A0.heap.size) (hbw:b < w.heap.size)
 (hvA:∀ g,(Value.slice v.a v.n v.cap).ownBlock=some g→g < A0.heap.size) (hC:∀ i q,C i q→q < w.heap.size):JM2 w WB A0 b a c xs p2 b5 o nm v us ks C c3 true true pp o1 n1 s1 ks1 S1 G v2 W':=by
 have e3:=h.d4 rfl
 subst e3
 have hv:=fun g (e:(Value.slice v.a v.n v.cap).ownBlock=some g)=>World.ownsRow.lt (h.ov rfl) g e
 obtain ⟨d1,d2,d3,d4⟩:=h.dr rfl
 refine ⟨h.rd.keep (B:=WB.heap.size) ((Below.refl WB.heap.size W).grown hg (Nat.le_trans hWA h.sz) (fun g e=>(hv g e).1)) (by omega),h.le,h.oo.grownNew hg (fun g e=>by have:=(hv g e).1;omega),Nat.le_trans h.sz hg.size,h.x5.grown hg hnv,h.x4.grown hg (fun e=>by have:=(hv _ e).1;omega),fun i u k hu hk=>(h.kk i u k hu hk).keep fun q hq hl=>hg.block q hl (fun e=>by have:=(hv q e.symm).1;have:=hC i q hq;omega),fun _=>rfl,fun _=>rfl,fun h=>(nomatch h),fun _=>⟨d1.keep fun q hq hl=>hg.block q hl (fun e=>by have:=hvA q e.symm;have:=(d2 q hq).1;omega),fun q hq=>⟨(d2 q hq).1,Nat.lt_of_lt_of_le (d2 q hq).2 hg.size⟩,d3,d4⟩,fun _ h=>(nomatch h),fun _=>⟨ho,fun g e => ?_⟩⟩
 rcases hat with h1 | ⟨q,h1,h2⟩
 ·rw [e] at h1
  exact ⟨fun e5=>hnv (by rw [← h1,e5]),fun hs=>by have:=hvA g h1.symm;have:=(d2 g hs).1;omega⟩
 ·rw [e] at h1
  obtain rfl:=Option.some.inj h1
  exact ⟨fun e5=>by have:=h.x5.lt;omega,fun hs=>by have:=(d2 g hs).2;omega⟩
end
theorem wtR_append (xs ys:List Re):wtR (xs++ys)=wtR xs+wtR ys:=by
 simp [wtR]
theorem OwnR.snoc {T:TypeId} {w:World} {us:List Rs} {ks:List Re} {C:Nat→Nat→Prop} {S Sg S':Nat→Prop} {u1:Rs} {k1:Re} {s:Slc} {base:Nat} (hl:us.length=ks.length) (ho:Own RsE T w base s.v (us++[u1]))
 (hg:∀ g,s.v.ownBlock=some g→S' g∧¬ S g∧¬ Sg g) (hC1:∀ i q,C i q→S q) (hC2:∀ i j q,C i q→C j q→i=j)
 (hC3:∀ (i:Nat) (u:Rs) (k:Re),us[i]? = some u→ks[i]? = some k→u.op=k.op∧u.nm=k.nm) (hC4:∀ (i:Nat) (u:Rs) (k:Re),us[i]? = some u→ks[i]? = some k→OwnR T w (C i) u.s k.kids)
 (he:u1.op=k1.op∧u1.nm=k1.nm) (h1:OwnR T w Sg u1.s k1.kids) (hd:∀ q,S q→¬ Sg q) (hS:∀ q,S q→S' q) (hSg:∀ q,Sg q→S' q):OwnR T w S' s (ks++[k1]):=by
 refine OwnR.build (us:=us++[u1]) (fun i q=>(i < us.length∧C i q)∨(i=us.length∧Sg q)) (by simp [hl]) ho (fun g e=>(hg g e).1) ?_ ?_ ?_ ?_ ?_
 ·rintro i q (⟨_,hq⟩ | ⟨_,hq⟩)
  ·exact hS q (hC1 i q hq)
  ·exact hSg q hq
 ·rintro g e i (⟨_,hq⟩ | ⟨_,hq⟩)
  ·exact (hg g e).2.1 (hC1 i g hq)
  ·exact (hg g e).2.2 hq
 ·rintro i j q (⟨a1,hq⟩ | ⟨a1,hq⟩) (⟨b1,hr⟩ | ⟨b1,hr⟩)
  ·exact hC2 i j q hq hr
  ·exact (hd q (hC1 i q hq) hr).elim
  ·exact (hd q (hC1 j q hr) hq).elim
  ·omega
 ·intro i u k hu hk
  by_cases hi:i < us.length
  ·rw [List.getElem?_append_left hi] at hu
   rw [List.getElem?_append_left (by omega)] at hk
   exact hC3 i u k hu hk
  ·rw [List.getElem?_append_right (by omega)] at hu
   rw [List.getElem?_append_right (by omega)] at hk
   have h0:i - us.length=0:=by
    rcases Nat.eq_zero_or_pos (i - us.length) with h | h
    ·exact h
    ·rw [List.getElem?_eq_none (by simp;omega)] at hu;cases hu
   rw [h0] at hu
   rw [← hl,h0] at hk
   simp at hu hk;subst hu;subst hk;exact he
 ·intro i u k hu hk
  by_cases hi:i < us.length
  ·rw [List.getElem?_append_left hi] at hu
   rw [List.getElem?_append_left (by omega)] at hk
   exact (hC4 i u k hu hk).wide fun q hq => .inl ⟨hi,hq⟩
  ·rw [List.getElem?_append_right (by omega)] at hu
   rw [List.getElem?_append_right (by omega)] at hk
   have h0:i - us.length=0:=by
    rcases Nat.eq_zero_or_pos (i - us.length) with h | h
    ·exact h
    ·rw [List.getElem?_eq_none (by simp;omega)] at hu;cases hu
   rw [h0] at hu
   rw [← hl,h0] at hk
   simp at hu hk;subst hu;subst hk
   exact h1.wide fun q hq => .inr ⟨by omega,hq⟩
end Go.Proofs.YtkfhgnkonaafgaaGreatDoor