/-
  Store buffers: what a run has done, told by times of effect (plain law). Condition: valid instructions, at most eight of them in a thread.
-/
import Derived.Test.YtlddmagfbcomgaaZr00
set_option maxHeartbeats 6400000
set_option maxRecDepth 100000
namespace Go.Proofs.Ytlddmagfbcomgaa
open Go.RowKit
def fRW (writes:Bool) (loc:Int) (x:Ins):Bool:=x.loc==loc&&(if writes=true then isWop x.op else isRop x.op)
theorem fRW_yes {b:Bool} {loc:Int} {x:Ins} (h:x.loc=loc):fRW b loc x=(if b=true then isWop x.op else isRop x.op):=by simp [fRW,h]
theorem fRW_no {b:Bool} {loc:Int} {x:Ins} (h:x.loc≠loc):fRW b loc x=false:=by simp [fRW,h]
theorem l1Count_any (v:Value) (p:List (List Ins)) (loc:Int) (wr?:Bool) (w:World) (hp:RepP w v p) (hl:p.flatten.length≤1048576) (hpl:p.length≤1048576) :
 Calls Try.prog 46 #[v, .int .i64 loc, .bool wr?] w fun e w'=>e = .returned (.int .i64 (cnt (fRW wr? loc) p:Nat))∧Below w.heap.size w w':=by
 obtain ⟨a,c,rfl,hc1,hc2,hc3,hp⟩:=hp.open
 have HP:=hide hp;clear hp
 have HL:=hide hl;clear hl
 generalize hn:p.length=n at *
 have H:=hide hn;clear hn
 generalize hF:fRW wr? loc=F at *
 have HF:=hide hF;clear hF
 go_enter Try.func46,Try.ntmps46
 go_wp2_with fail
 go_loopw [7,8] (fun r i wr => ∃ j:Nat,j≤n∧i = .int .i64 j∧r = .int .i64 (cnt F (p.take j):Nat)∧Below w.heap.size w wr) (fun _ i _=>n - (intOf i).toNat)
 case atStart=>exact ⟨0,by omega,rfl,by simp [cnt],Below.refl _ _⟩
 case round =>
  obtain ⟨j,hj,rfl,rfl,hb2⟩:=hrel
  by_cases hlt2:j < n
  ·obtain ⟨wm,rfl⟩:∃ wm:World,wm=wr:=⟨_,rfl⟩
   obtain ⟨x,hxk⟩:=get_of_lt (xs:=p) (k:=j) (by rw [H.out];exact hlt2)
   obtain ⟨b,o,ra,rc,rfl,hbl,i0,i1⟩:=(HP.out.below hb2).row hxk
   have hlt2':=nat_of_lt hlt2
   obtain ⟨_,_,_,_,hr2,_,_⟩:=i1.open
   have CR:=hide (cnt_take_succ F hxk)
   have hbR:=Nat.le_trans (cnt_take_le F p j) HL.out
   have hxl:=Nat.le_trans (row_le_flatten hxk) HL.out
   have I1:=hide i1;have X:=hide hxk
   clear i1 hxk
   generalize hR:cnt F (p.take j)=R at *
   clear hR
   go_wp2_with fail
   go_loopw [7,9] (fun r i wr => ∃ t:Nat,t≤x.length∧i = .int .i64 t∧r = .int .i64 (R+(x.take t).countP F:Nat)∧Below wm.heap.size wm wr) (fun _ i _=>x.length - (intOf i).toNat)
   case atStart=>exact ⟨0,by omega,rfl,by simp,Below.refl _ _⟩
   case round =>
    obtain ⟨t,ht,rfl,rfl,hb3⟩:=hrel
    have hbR2:(x.take t).countP F≤1048576:=Nat.le_trans List.countP_le_length (by simp;omega)
    have i0':wr.cell? ⟨b,o+j,none⟩=some (.slice ra x.length rc):=(hb3.cell (p:=⟨b,o+j,none⟩) hbl).trans i0
    by_cases hlt3:t < x.length
    ·obtain ⟨y,hyk⟩:=get_of_lt (xs:=x) (k:=t) hlt3
     obtain ⟨b',o',rfl,hbl',j0,j1,j2,j3⟩:=(I1.out.below hb3).ins hyk
     have hlt3':=nat_of_lt hlt3
     have CR2:=hide (countP_take_succ F hyk)
     have Y:=hide hyk;clear hyk
     generalize hR2:(x.take t).countP F=R2 at *
     clear hR2
     by_cases hloc:y.loc=loc
     ·have CR3:Hid ((x.take (t+1)).countP F=R2+if (if wr? = true then isWop y.op else isRop y.op)=true then 1 else 0):=by have h:=CR2.out;rwa [← HF.out,fRW_yes hloc,HF.out] at h
      clear CR2
      rw [hloc] at j1
      clear hloc HF
      have hkk:(loc==loc)=true:=by simp
      generalize hro:isRop y.op=ro at *
      generalize hwo:isWop y.op=wo at *
      have RO:=hide hro;have WO:=hide hwo;clear hro hwo
      cases wr?
      ·cases ro
       all_goals
        go_wp2_with (go_at_call 53;(with_reducible refine (l1Reads_raw _ _ _ _ _).mono ?_);rw [RO.out];rintro e w3 ⟨rfl,hb4⟩)
        go_roundw
        case rel=>exact ⟨t+1,by omega,by go_num,by rw [CR3.out];simp;try omega,(hb3.alloc hb3.size _).trans (hb4.mono (by have:=hb3.size;simp;omega))⟩
        case measure=>simp [intOf];omega
      ·cases wo
       all_goals
        go_wp2_with (go_at_call 52;(with_reducible refine (l1Writes_raw _ _ _ _ _).mono ?_);rw [WO.out];rintro e w3 ⟨rfl,hb4⟩)
        go_roundw
        case rel=>exact ⟨t+1,by omega,by go_num,by rw [CR3.out];simp;try omega,(hb3.alloc hb3.size _).trans (hb4.mono (by have:=hb3.size;simp;omega))⟩
        case measure=>simp [intOf];omega
     ·have CR3:Hid ((x.take (t+1)).countP F=R2):=hide (by have h:=CR2.out;rw [← HF.out,fRW_no hloc,HF.out] at h;simpa using h)
      clear CR2
      have hkk:(y.loc==loc)=false:=by simpa using hloc
      clear hloc
      go_wp2_with fail
      go_roundw
      case rel=>exact ⟨t+1,by omega,by go_num,by rw [CR3.out],hb3.alloc hb3.size _⟩
      case measure=>simp [intOf];omega
    ·have e:t=x.length:=by omega
     have CR4:Hid (cnt F (p.take (j+1))=R+(x.take t).countP F):=by have h:=CR.out;rwa [e,List.take_length]
     generalize hR2:(x.take t).countP F=R2 at *
     clear hR2 e
     go_wp2_with fail
     go_roundw
     case rel=>exact ⟨j+1,by omega,by go_num,by rw [CR4.out],hb2.trans (hb3.mono hb2.size)⟩
     case measure=>simp [intOf];omega
  ·have e:j=n:=by omega
   have hpt:p.take j=p:=List.take_of_length_le (by rw [H.out];omega)
   rw [hpt]
   clear hpt
   go_wp2_with fail
   go_ret
   exact ⟨rfl,hb2⟩
theorem fRW_true (loc:Int):fRW true loc=fW loc:=by funext x;simp [fRW,fW]
theorem fRW_false (loc:Int):fRW false loc=fR loc:=by funext x;simp [fRW,fR]
theorem l1Execs_any (v:Value) (p:List (List Ins)) (w:World) (hp:RepP w v p) (hl:p.flatten.length≤1048576) (hpl:p.length≤1048576) :
 Calls Try.prog 33 #[v, .int .i64 3000] w fun e w'=>e = .returned (.int .i64 (cap (prodP p):Nat))∧Below w.heap.size w w':=by
 have HP:=hide hp;clear hp
 have HL:=hide hl;clear hl
 have hPP:prodTo p 3=prodP p:=rfl
 have PP:=hide hPP;clear hPP
 go_enter Try.func33,Try.ntmps33
 go_wp2_with fail
 go_loopw [5,6] (fun q i wr => ∃ k N:Nat,k≤3∧i = .int .i64 k∧q = .int .i64 N∧Hid (cap N=cap (prodTo p k))∧N≤3145731000∧Below w.heap.size w wr) (fun _ i _=>3 - (intOf i).toNat)
 case atStart=>exact ⟨0,1,by omega,rfl,rfl,hide rfl,by omega,Below.refl _ _⟩
 case round =>
  obtain ⟨k,N,hk,rfl,rfl,hN,hNb,hb⟩:=hrel
  by_cases hlt:k < 3
  ·have hlt':(k:Int)≤2:=by omega
   have hbR:=Nat.le_trans (cnt_le_flatten (fR k) p) HL.out
   have hbW:=Nat.le_trans (cnt_le_flatten (fW k) p) HL.out
   have PS:Hid (prodTo p (k+1)=prodTo p k * ((cnt (fW k) p+1) ^ cnt (fR k) p * fact (cnt (fW k) p))):=hide rfl
   have C1:∀ w',RepP w' v p→Calls Try.prog 46 #[v, .int .i64 (k:Int), .bool true] w' fun e w2=>e = .returned (.int .i64 (cnt (fW k) p:Nat))∧Below w'.heap.size w' w2:=fun w' h=>by
    have:=l1Count_any v p k true w' h HL.out hpl;rwa [fRW_true] at this
   have C2:∀ w',RepP w' v p→Calls Try.prog 46 #[v, .int .i64 (k:Int), .bool false] w' fun e w2=>e = .returned (.int .i64 (cnt (fR k) p:Nat))∧Below w'.heap.size w' w2:=fun w' h=>by
    have:=l1Count_any v p k false w' h HL.out hpl;rwa [fRW_false] at this
   generalize hR:cnt (fR k) p=R at *
   generalize hW:cnt (fW k) p=W at *
   generalize hQ:prodTo p k=Q at *
   have D1:=hide C1;have D2:=hide C2
   clear hR hW hQ C1 C2
   go_wp2_with (go_at_call 46;(with_reducible refine (D1.out _ (HP.out.below hb)).mono ?_);rintro e w1 ⟨rfl,hb1⟩)
   have hb:=hb.trans (hb1.mono hb.size)
   clear hb1
   go_loopw [5,8] (fun q i wr => ∃ t M:Nat,t≤R∧i = .int .i64 t∧q = .int .i64 M∧Hid (cap M=cap (Q * (W+1) ^ t))∧M≤3145731000∧Below w.heap.size w wr) (fun _ i _=>R - (intOf i).toNat)
   case atStart=>exact ⟨0,N,by omega,rfl,rfl,hide (by simpa using hN.out),hNb,hb⟩
   case round =>
    clear hb hN hNb
    obtain ⟨t,M,ht,rfl,rfl,hM,hMb,hb⟩:=hrel
    by_cases hgo:t < R∧M≤3000
    ·obtain ⟨hlt3,hM3⟩:=hgo
     have hlt3':=nat_of_lt hlt3
     have hM3':(M:Int)≤3000:=by omega
     have hmul:M * (W+1)≤3000 * 1048577:=Nat.mul_le_mul hM3 (by omega)
     have e1:((M * (W+1):Nat):Int)=(M:Int) * (W+1):=by simp
     have hmul2:(M:Int) * (W+1)≤3145731000:=by omega
     have hmul3:0≤(M:Int) * (W+1):=by omega
     have E:Hid (cap (M * (W+1))=cap (Q * (W+1) ^ (t+1))):=hide (by rw [cap_mul' hM.out _ (by omega),Nat.pow_succ,Nat.mul_assoc])
     have E1:=hide e1;clear e1
     go_wp2_with (go_at_call 46;(with_reducible refine (D2.out _ (HP.out.below hb)).mono ?_);rintro e w1 ⟨rfl,hb1⟩)
     go_roundw
     case rel=>exact ⟨t+1,M * (W+1),by omega,by go_num,by rw [E1.out],E,by omega,hb.trans (hb1.mono hb.size)⟩
     case measure=>simp [intOf];omega
    ·have hM2:Hid (cap M=cap (Q * (W+1) ^ R)):=hide (by
      by_cases h3:3000 < M
      ·obtain ⟨m,h1,h2⟩:=pow_mul_rest (a:=W) ht
       rw [h2,← Nat.mul_assoc]
       exact cap_past hM.out h3 m h1
      ·rw [show R=t by omega];exact hM.out)
     have PS2:Hid (prodTo p (k+1)=(Q * (W+1) ^ R) * fact W):=hide (by rw [PS.out,Nat.mul_assoc])
     by_cases hlt3:t < R
     all_goals
      have hM3:t < R→3000 < (M:Int):=fun h=>by omega
      have HM3:=hide hM3;clear hM3
      try (have hM4:3000 < (M:Int):=HM3.out hlt3)
      go_wp2_with (go_at_call 46;(with_reducible refine (D2.out _ (HP.out.below hb)).mono ?_);rintro e w1 ⟨rfl,hb1⟩)
      have hb:=hb.trans (hb1.mono hb.size)
      clear hb1
      generalize hQ2:Q * (W+1) ^ R=Q2 at *
      clear hQ2
      go_loopw [5,9] (fun q i wr => ∃ s L:Nat,1≤s∧s≤W+1∧i = .int .i64 (s+1)∧q = .int .i64 L∧Hid (cap L=cap (Q2 * fact s))∧L≤3145731000∧Hid (s≤W∨s=1)∧Below w.heap.size w wr) (fun _ i _=>W+1 - (intOf i).toNat)
      case atStart=>exact ⟨1,M,by omega,by omega,rfl,rfl,hide (by simpa [fact] using hM2.out),hMb,hide (.inr rfl),hb⟩
      case round =>
       clear hb
       obtain ⟨s,L,hs1,hs2,rfl,rfl,hL,hLb,hsW,hb⟩:=hrel
       by_cases hgo2:s+1≤W∧L≤3000
       ·obtain ⟨hlt5,hL3⟩:=hgo2
        have hlt5':(s:Int)+1≤W:=by omega
        have hL3':(L:Int)≤3000:=by omega
        have hmul:L * (s+1)≤3000 * 1048577:=Nat.mul_le_mul hL3 (by omega)
        have e1:((L * (s+1):Nat):Int)=(L:Int) * (s+1):=by simp
        have hmul2:(L:Int) * (s+1)≤3145731000:=by omega
        have hmul3:0≤(L:Int) * (s+1):=by omega
        have E:Hid (cap (L * (s+1))=cap (Q2 * fact (s+1))):=hide (by rw [cap_mul' hL.out _ (by omega),fact,Nat.mul_assoc])
        have E1:=hide e1;clear e1
        go_wp2_with fail
        go_roundw
        case rel=>exact ⟨s+1,L * (s+1),by omega,by omega,by go_num,by rw [E1.out],E,by omega,hide (.inl hlt5),hb⟩
        case measure=>simp [intOf];omega
       ·have hL2:Hid (cap L=cap (prodTo p (k+1))):=hide (by
         rw [PS2.out]
         by_cases h3:3000 < L
         ·rcases hsW.out with h | h
          ·obtain ⟨m,h1,h2⟩:=fact_mul h
           rw [h2,← Nat.mul_assoc]
           exact cap_past hL.out h3 m h1
          ·have hl:=hL.out
           rw [h,show fact 1=1 from rfl,Nat.mul_one] at hl
           exact cap_past hl h3 _ (fact_pos W)
         ·by_cases hs:s=W
          ·rw [← hs];exact hL.out
          ·rcases hsW.out with h | h
           ·omega
           ·have h0:W=0:=by omega
            have hl:=hL.out
            rw [h] at hl
            rw [h0];exact hl)
        by_cases hlt5:s+1≤W
        all_goals
         have hlt5':s+1≤W→3000 < (L:Int):=fun h=>by omega
         have HL3:=hide hlt5';clear hlt5'
         try (have hL4:3000 < (L:Int):=HL3.out hlt5)
         go_wp2_with fail
         go_roundw
         case rel=>exact ⟨k+1,L,by omega,by go_num,rfl,hL2,hLb,hb⟩
         case measure=>simp [intOf];omega
  ·have e:k=3:=by omega
   subst e
   have hN2:Hid (cap N=cap (prodP p)):=hide (by rw [hN.out,PP.out])
   by_cases h3:3000 < N
   ·have E:Hid (((cap (prodP p):Nat):Int)=3001):=hide (by rw [← hN2.out];unfold cap;omega)
    have h3':(3000:Int) < N:=by omega
    go_wp2_with fail
    go_ret
    rw [E.out]
    exact ⟨rfl,hb⟩
   ·have E:Hid (((cap (prodP p):Nat):Int)=N):=hide (by rw [← hN2.out];unfold cap;omega)
    have h3':(N:Int)≤3000:=by omega
    go_wp2_with fail
    go_ret
    rw [E.out]
    exact ⟨rfl,hb⟩
end Go.Proofs.Ytlddmagfbcomgaa
namespace Go.Proofs.Ytlddmagfbcomgaa
section
variable {S K : Type} (start : S) (next : S → Nat → Option S) (key : S → K)
inductive ReachM:S→Prop
 | start:ReachM start
 | step {s t:S} {i:Nat} (h:ReachM s) (ht:next s i=some t):ReachM t
variable {start next key}
def wMs (B:Nat) (rank:S→Nat) (work:List S):Nat:=(work.map fun s=>B ^ rank s).sum
theorem wMs_cons (B:Nat) (rank:S→Nat) (s:S) (work:List S):wMs B rank (s :: work)=B ^ rank s+wMs B rank work:=by simp [wMs]
theorem wMs_append (B:Nat) (rank:S→Nat) (xs ys:List S):wMs B rank (xs++ys)=wMs B rank xs+wMs B rank ys:=by simp [wMs,List.sum_append]
theorem wMs_next {B:Nat} {rank:S→Nat} {s:S} {new:List S} (hB:new.length < B) (hr:∀ t∈new,rank t < rank s):wMs B rank new < B ^ rank s:=by
 have h1:∀ (l:List S),(∀ t∈l,rank t < rank s)→wMs B rank l≤l.length * B ^ (rank s - 1):=by
  intro l
  induction l with
  | nil=>intro _;simp [wMs]
  | cons t l ih =>
   intro hl
   have h2:=ih fun u hu=>hl u (by simp [hu])
   have h3:B ^ rank t≤B ^ (rank s - 1):=Nat.pow_le_pow_right (by omega) (by have:=hl t (by simp);omega)
   rw [wMs_cons,List.length_cons,Nat.add_mul,Nat.one_mul]
   omega
 cases new with
 | nil=>simp only [wMs,List.map_nil,List.sum_nil];exact Nat.pow_pos (by omega)
 | cons t l =>
  have h2:=hr t (by simp)
  have h3:=h1 (t :: l) hr
  have h4:B ^ rank s=B * B ^ (rank s - 1):=by
   conv=>lhs;rw [show rank s=(rank s - 1)+1 by omega,Nat.pow_succ]
   exact Nat.mul_comm _ _
  have h5:0 < B ^ (rank s - 1):=Nat.pow_pos (by omega)
  have h6:(t :: l).length * B ^ (rank s - 1) < B * B ^ (rank s - 1):=Nat.mul_lt_mul_of_pos_right hB h5
  omega
end
def lexO:List Int→List Int→Int
 | x :: xs,y :: ys=>if x < y then -1 else if y < x then 1 else lexO xs ys
 | _,_=>0
theorem lexO_three (a b:List Int):lexO a b = -1∨lexO a b=0∨lexO a b=1:=by
 induction a generalizing b with
 | nil=>simp [lexO]
 | cons x a ih =>
  cases b with
  | nil=>simp [lexO]
  | cons y b =>
   simp only [lexO]
   split
   ·simp
   ·split
    ·simp
    ·exact ih b
theorem lexO_eq {a b:List Int} (h:a.length=b.length):lexO a b=0↔a=b:=by
 induction a generalizing b with
 | nil=>cases b <;> simp_all [lexO]
 | cons x a ih =>
  cases b with
  | nil=>simp at h
  | cons y b =>
   have:=ih (b:=b) (by simpa using h)
   simp only [lexO,List.cons.injEq]
   split
   ·constructor
    ·intro h;omega
    ·intro h;omega
   ·split
    ·constructor
     ·intro h;omega
     ·intro h;omega
    ·rw [this]
     constructor
     ·intro h;exact ⟨by omega,h⟩
     ·intro h;exact h.2
theorem lexO_swap (a b:List Int):lexO b a = - lexO a b:=by
 induction a generalizing b with
 | nil=>cases b <;> simp [lexO]
 | cons x a ih =>
  cases b with
  | nil=>simp [lexO]
  | cons y b =>
   simp only [lexO]
   have:=ih b
   repeat' split
   all_goals omega
theorem lexO_trans {n:Nat} {a b c:List Int} (ha:a.length=n) (hb:b.length=n) (hc:c.length=n) (h1:lexO a b = -1) (h2:lexO b c = -1):lexO a c = -1:=by
 induction a generalizing b c n with
 | nil=>simp [lexO] at h1
 | cons x a ih =>
  match b,c,hb,hc,h1,h2 with
  | [],_,_,_,h1,_=>simp [lexO] at h1
  | _ :: _,[],_,_,_,h2=>simp [lexO] at h2
  | y :: b,z :: c,hb,hc,h1,h2 =>
   simp only [List.length_cons] at ha hb hc
   simp only [lexO] at h1 h2 ⊢
   have hh:=fun p q=>ih (n:=n - 1) (b:=b) (c:=c) (by omega) (by omega) (by omega) p q
   by_cases e1:x < y
   ·by_cases e2:y < z
    ·rw [if_pos (by omega)]
    ·rw [if_neg e2] at h2
     by_cases e3:z < y
     ·rw [if_pos e3] at h2;omega
     ·rw [if_pos (by omega)]
   ·rw [if_neg e1] at h1
    by_cases e4:y < x
    ·rw [if_pos e4] at h1;omega
    ·rw [if_neg e4] at h1
     by_cases e2:y < z
     ·rw [if_pos (by omega)]
     ·rw [if_neg e2] at h2
      by_cases e3:z < y
      ·rw [if_pos e3] at h2;omega
      ·rw [if_neg e3] at h2
       rw [if_neg (by omega),if_neg (by omega)]
       exact hh h1 h2
structure OutsOk (n:Nat) (l:List (List Int)):Prop where
 len:∀ o∈l,o.length=n
 pw:l.Pairwise fun a b=>lexO a b = -1
end Go.Proofs.Ytlddmagfbcomgaa
namespace Go.Proofs.Ytlddmagfbcomgaa
section
variable {S : Type} (mv : S → List Nat) (af : S → Nat → S)
def nxM (s:S) (j:Nat):Option S:=((mv s)[j]?).map (af s)
theorem nxM_some {s t:S} {j:Nat}:nxM mv af s j=some t↔∃ m,(mv s)[j]? = some m∧af s m=t:=by
 unfold nxM
 cases (mv s)[j]? with
 | none=>simp
 | some m=>simp
variable (done : S → Bool) (out : S → List Int) (C R : Nat) (rank : S → Nat) (start : S)
structure PI (work taken:List S) (outs:List (List Int)):Prop where
 nd:(taken++work).Nodup
 rc:∀ s∈taken++work,ReachM start (nxM mv af) s
 st:start∈taken++work
 cl:∀ s∈taken,∀ j t,nxM mv af s j=some t→t∈taken++work
 om:∀ o,o∈outs↔∃ s∈taken,done s=true∧out s=o
 ol:outs.length=(taken.filter done).length
 sk:∀ i s,work[i]? = some s→i+1≤C * (R+1 - rank s)
 rk:∀ s∈work,rank s≤R
structure PMw (s:S) (j:Nat) (init new taken:List S) (outs:List (List Int)):Prop where
 nd:((s :: taken)++(init++new)).Nodup
 rc:∀ u∈(s :: taken)++(init++new),ReachM start (nxM mv af) u
 st:start∈(s :: taken)++(init++new)
 cl:∀ u∈taken,∀ i t,nxM mv af u i=some t→t∈(s :: taken)++(init++new)
 nx:∀ i t,i < j→nxM mv af s i=some t→t∈(s :: taken)++(init++new)
 om:∀ o,o∈outs↔∃ u∈s :: taken,done u=true∧out u=o
 ol:outs.length=((s :: taken).filter done).length
 sk:∀ i u,(init++new)[i]? = some u→i+1≤C * (R+1 - rank u)
 rk:∀ u∈init++new,rank u≤R
 rs:rank s≤R
 si:init.length+1≤C * (R+1 - rank s)
 nl:new.length≤j
 nr:∀ t∈new,rank t < rank s
variable {mv af done out C R rank start}
theorem PI.init (hC:1≤C) (hR:rank start≤R):PI mv af done out C R rank start [start] [] []:=by
 refine ⟨by simp,fun s hs => ?_,by simp,fun s hs=>by simp at hs,fun o=>by simp,rfl,fun i s hi => ?_,fun s hs => ?_⟩
 ·simp at hs;subst hs;exact .start
 ·cases i with
  | zero =>
   simp at hi;subst hi
   have:1≤R+1 - rank start:=by omega
   exact Nat.mul_le_mul hC this
  | succ i=>simp at hi
 ·simp at hs;subst hs;exact hR
theorem mem_pop {s u:S} {init taken:List S}:u∈taken++(init++[s])↔u∈(s :: taken)++(init++[]):=by
 simp only [List.mem_append,List.mem_cons,List.append_nil,List.not_mem_nil,or_false]
 constructor
 ·rintro (h | h | h)
  ·exact .inl (.inr h)
  ·exact .inr h
  ·exact .inl (.inl h)
 ·rintro ((h | h) | h)
  ·exact .inr (.inr h)
  ·exact .inl h
  ·exact .inr (.inl h)
theorem PI.pop_core {init taken:List S} {s:S} {outs outs':List (List Int)} (h:PI mv af done out C R rank start (init++[s]) taken outs)
 (hm:∀ o,o∈outs'↔∃ u∈s :: taken,done u=true∧out u=o) (hl:outs'.length=((s :: taken).filter done).length):PMw mv af done out C R rank start s 0 init [] taken outs':=by
 refine ⟨?_,fun u hu=>h.rc u (mem_pop.2 hu),mem_pop.1 h.st,fun u hu i t ht=>mem_pop.1 (h.cl u hu i t ht),fun i t hi=>absurd hi (Nat.not_lt_zero i),hm,hl,fun i u hi => ?_,fun u hu => ?_,h.rk s (by simp), ?_,by simp,fun t ht=>by simp at ht⟩
 ·have hp:(taken++(init++[s])).Perm ((s :: taken)++(init++[])):=by
   rw [List.append_nil]
   have h1:(init++[s]).Perm (s :: init):=List.perm_append_comm
   have h2:(taken++(s :: init)).Perm (s :: (taken++init)):=List.perm_middle
   exact (h1.append_left taken).trans h2
  exact hp.nodup_iff.1 h.nd
 ·rw [List.append_nil] at hi
  have hlt:=(List.getElem?_eq_some_iff.1 hi).1
  exact h.sk i u (by rw [List.getElem?_append_left hlt];exact hi)
 ·exact h.rk u (by simp at hu ⊢;exact .inl hu)
 ·exact h.sk init.length s (by simp)
theorem PI.pop_yes {init taken:List S} {s:S} {outs:List (List Int)} (h:PI mv af done out C R rank start (init++[s]) taken outs) (hd:done s=true):PMw mv af done out C R rank start s 0 init [] taken (outs++[out s]):=by
 refine h.pop_core (fun o => ?_) ?_
 ·rw [List.mem_append,h.om]
  constructor
  ·rintro (⟨u,h1,h2,h3⟩ | e)
   ·exact ⟨u,by simp [h1],h2,h3⟩
   ·exact ⟨s,by simp,hd,(List.mem_singleton.1 e).symm⟩
  ·rintro ⟨u,h1,h2,h3⟩
   rcases List.mem_cons.1 h1 with e | e
   ·exact .inr (by simp [← h3,e])
   ·exact .inl ⟨u,e,h2,h3⟩
 ·rw [List.length_append,h.ol,List.filter_cons,if_pos hd];simp
theorem PI.pop_no {init taken:List S} {s:S} {outs:List (List Int)} (h:PI mv af done out C R rank start (init++[s]) taken outs) (hd:done s=false):PMw mv af done out C R rank start s 0 init [] taken outs:=by
 refine h.pop_core (fun o => ?_) ?_
 ·rw [h.om]
  constructor
  ·rintro ⟨u,h1,h2,h3⟩
   exact ⟨u,by simp [h1],h2,h3⟩
  ·rintro ⟨u,h1,h2,h3⟩
   rcases List.mem_cons.1 h1 with e | e
   ·subst e;rw [hd] at h2;cases h2
   ·exact ⟨u,e,h2,h3⟩
 ·rw [h.ol,List.filter_cons,if_neg (by simp [hd])]
theorem PMw.mem_s {s:S} {j:Nat} {init new taken:List S} {outs:List (List Int)} (_:PMw mv af done out C R rank start s j init new taken outs):s∈(s :: taken)++(init++new):=by simp
theorem PMw.old {s t u:S} {j:Nat} {init new taken:List S} {outs:List (List Int)} {K:Type} {key:S→K} (h:PMw mv af done out C R rank start s j init new taken outs) (ht:nxM mv af s j=some t)
 (hu:u∈(s :: taken)++(init++new)) (he:key u=key t) (hk:∀ a b,ReachM start (nxM mv af) a→ReachM start (nxM mv af) b→key a=key b→a=b):PMw mv af done out C R rank start s (j+1) init new taken outs:=by
 have hr:ReachM start (nxM mv af) t:=.step (h.rc s h.mem_s) ht
 have e:u=t:=hk u t (h.rc u hu) hr he
 subst e
 refine ⟨h.nd,h.rc,h.st,h.cl,fun i x hi hx => ?_,h.om,h.ol,h.sk,h.rk,h.rs,h.si,by have:=h.nl;omega,h.nr⟩
 rcases Nat.lt_or_ge i j with hij | hij
 ·exact h.nx i x hij hx
 ·obtain rfl:i=j:=by omega
  rw [ht] at hx
  simp only [Option.some.injEq] at hx
  exact hx ▸ hu
theorem PMw.new {s t:S} {j:Nat} {init new taken:List S} {outs:List (List Int)} (h:PMw mv af done out C R rank start s j init new taken outs) (ht:nxM mv af s j=some t)
 (hn:t∉(s :: taken)++(init++new)) (hj:j < C) (hr:rank t < rank s):PMw mv af done out C R rank start s (j+1) init (new++[t]) taken outs:=by
 have hreach:ReachM start (nxM mv af) t:=.step (h.rc s h.mem_s) ht
 have up:∀ u,u∈(s :: taken)++(init++new)→u∈(s :: taken)++(init++(new++[t])):=fun u hu=>by
  simp only [List.mem_append,List.mem_cons] at hu ⊢
  rcases hu with hu | hu | hu
  ·exact .inl hu
  ·exact .inr (.inl hu)
  ·exact .inr (.inr (.inl hu))
 have hasc:(s :: taken)++(init++(new++[t]))=((s :: taken)++(init++new))++[t]:=by simp [List.append_assoc]
 have hnl:=h.nl
 have hrs:=h.rs
 refine ⟨?_,fun u hu => ?_,up _ h.st,fun u hu i x hx=>up x (h.cl u hu i x hx),fun i x hi hx => ?_,h.om,h.ol,fun i u hi => ?_,fun u hu => ?_,h.rs,h.si,by simp;omega,fun u hu => ?_⟩
 ·rw [hasc]
  exact List.nodup_append.2 ⟨h.nd,by simp,fun a ha b hb=>by simp at hb;subst hb;exact fun e=>hn (e ▸ ha)⟩
 ·rw [hasc] at hu
  rcases List.mem_append.1 hu with e | e
  ·exact h.rc u e
  ·simp at e;subst e;exact hreach
 ·rcases Nat.lt_or_ge i j with hij | hij
  ·exact up x (h.nx i x hij hx)
  ·obtain rfl:i=j:=by omega
   rw [ht] at hx
   simp only [Option.some.injEq] at hx
   subst hx
   simp
 ·rw [← List.append_assoc] at hi
  by_cases hlt:i < (init++new).length
  ·rw [List.getElem?_append_left hlt] at hi
   exact h.sk i u hi
  ·rw [List.getElem?_append_right (by omega)] at hi
   have h0:i - (init++new).length=0:=by
    have:=(List.getElem?_eq_some_iff.1 hi).1
    simp only [List.length_singleton] at this
    omega
   rw [h0] at hi
   simp at hi
   subst hi
   have hi2:i=init.length+new.length:=by simp only [List.length_append] at hlt h0;omega
   have h1:=h.si
   have h2:R+1 - rank s+1≤R+1 - rank t:=by omega
   have h3:=Nat.mul_le_mul_left C h2
   rw [Nat.mul_add,Nat.mul_one] at h3
   omega
 ·rw [← List.append_assoc] at hu
  rcases List.mem_append.1 hu with e | e
  ·exact h.rk u e
  ·simp at e;subst e;omega
 ·rcases List.mem_append.1 hu with e | e
  ·exact h.nr u e
  ·simp at e;subst e;exact hr
theorem PMw.leave {s:S} {j:Nat} {init new taken:List S} {outs:List (List Int)} (h:PMw mv af done out C R rank start s j init new taken outs) (hj:(mv s).length≤j):PI mv af done out C R rank start (init++new) (s :: taken) outs:=
 ⟨h.nd,h.rc,h.st,fun u hu i t ht=>by
  rcases List.mem_cons.1 hu with e | e
  ·subst e
   obtain ⟨m,hm, -⟩:=(nxM_some mv af).1 ht
   exact h.nx i t (by have:=(List.getElem?_eq_some_iff.1 hm).1;omega) ht
  ·exact h.cl u e i t ht,h.om,h.ol,h.sk,h.rk⟩
theorem PMw.falls {s:S} {j:Nat} {init new taken:List S} {outs:List (List Int)} (h:PMw mv af done out C R rank start s j init new taken outs) (hj:j≤C):wMs (C+1) rank (init++new) < wMs (C+1) rank (init++[s]):=by
 have h1:=wMs_next (B:=C+1) (rank:=rank) (s:=s) (new:=new) (by have:=h.nl;omega) h.nr
 rw [wMs_append,wMs_append]
 have:wMs (C+1) rank [s]=(C+1) ^ rank s:=by simp [wMs]
 omega
theorem stack_short {work:List S} (h:∀ i s,work[i]? = some s→i+1≤C * (R+1 - rank s)):work.length≤C * (R+1):=by
 rcases Nat.eq_zero_or_pos work.length with e | e
 ·rw [e];exact Nat.zero_le _
 ·have h1:=h (work.length - 1) (work[work.length - 1]'(by omega)) (List.getElem?_eq_getElem (by omega))
  have h2:C * (R+1 - rank (work[work.length - 1]'(by omega)))≤C * (R+1):=Nat.mul_le_mul_left C (by omega)
  omega
theorem PI.short {work taken:List S} {outs:List (List Int)} (h:PI mv af done out C R rank start work taken outs):work.length≤C * (R+1):=stack_short h.sk
theorem PMw.short {s:S} {j:Nat} {init new taken:List S} {outs:List (List Int)} (h:PMw mv af done out C R rank start s j init new taken outs):(init++new).length≤C * (R+1):=stack_short h.sk
theorem PI.fin {taken:List S} {outs:List (List Int)} (h:PI mv af done out C R rank start [] taken outs) (o:List Int):o∈outs↔∃ s,ReachM start (nxM mv af) s∧done s=true∧out s=o:=by
 have hall:∀ s,ReachM start (nxM mv af) s→s∈taken:=fun s hr=>by
  induction hr with
  | start=>simpa using h.st
  | step _ ht ih=>simpa using h.cl _ ih _ _ ht
 rw [h.om]
 constructor
 ·rintro ⟨s,h1,h2,h3⟩;exact ⟨s,h.rc s (by simp [h1]),h2,h3⟩
 ·rintro ⟨s,h1,h2,h3⟩;exact ⟨s,hall s h1,h2,h3⟩
theorem PI.few {work taken:List S} {outs:List (List Int)} (h:PI mv af done out C R rank start work taken outs) {N:Nat} (hN:∀ l:List S,l.Nodup→(∀ s∈l,ReachM start (nxM mv af) s∧done s=true)→l.length≤N):outs.length≤N:=by
 rw [h.ol]
 refine hN _ ((List.nodup_append.1 h.nd).1.filter _) fun s hs => ?_
 rw [List.mem_filter] at hs
 exact ⟨h.rc s (by simp [hs.1]),hs.2⟩
theorem reach_mv {next:S→Nat→Option S} {ok:S→Prop} (h0:ok start) (h1:∀ s i t,ok s→next s i=some t→ok t) (hm:∀ s,ok s→∀ i,i∈mv s↔(next s i).isSome) (ha:∀ s,ok s→∀ i t,next s i=some t→af s i=t) (s:S) :
 ReachM start (nxM mv af) s↔ReachM start next s:=by
 have e:∀ s,ok s→∀ t,(∃ j,nxM mv af s j=some t)↔∃ i,next s i=some t:=fun s hs t=>by
  constructor
  ·rintro ⟨j,hj⟩
   obtain ⟨m,h2,h3⟩:=(nxM_some mv af).1 hj
   have h4:=(hm s hs m).1 (List.mem_of_getElem? h2)
   obtain ⟨t',ht'⟩:=Option.isSome_iff_exists.1 h4
   exact ⟨m,by rw [ht',← ha s hs m t' ht',h3]⟩
  ·rintro ⟨i,hi⟩
   obtain ⟨j,hj,e⟩:=List.mem_iff_getElem.1 ((hm s hs i).2 (by simp [hi]))
   exact ⟨j,(nxM_some mv af).2 ⟨i,by rw [List.getElem?_eq_getElem hj,e],ha s hs i t hi⟩⟩
 constructor
 ·intro h
  have:ReachM start next s∧ok s:=by
   induction h with
   | start=>exact ⟨.start,h0⟩
   | step _ ht ih =>
    obtain ⟨i,hi⟩:=(e _ ih.2 _).1 ⟨_,ht⟩
    exact ⟨.step ih.1 hi,h1 _ _ _ ih.2 hi⟩
  exact this.1
 ·intro h
  have:ReachM start (nxM mv af) s∧ok s:=by
   induction h with
   | start=>exact ⟨.start,h0⟩
   | step _ ht ih =>
    obtain ⟨j,hj⟩:=(e _ ih.2 _).2 ⟨_,ht⟩
    exact ⟨.step ih.1 hj,h1 _ _ _ ih.2 ht⟩
  exact this.1
end
end Go.Proofs.Ytlddmagfbcomgaa
namespace Go.Proofs.Ytlddmagfbcomgaa
structure Sq where
 pc:List Int
 rg:List Int
 mm:List Int
def sqStart (p:List (List Ins)):Sq:=⟨List.replicate p.length 0,List.replicate (p.length * 3) 0,List.replicate 3 0⟩
def sqVal (s:Sq) (t:Nat) (x:Ins):Int:=if x.op=3 then s.rg.getD (t * 3+x.reg.toNat) 0 else x.val
def sqDo (s:Sq) (t:Nat) (k:Int) (x:Ins):Sq:=
 ⟨s.pc.set t (k+1),if isRop x.op=true then s.rg.set (t * 3+x.reg.toNat) (s.mm.getD x.loc.toNat 0) else s.rg,if isWop x.op=true then s.mm.set x.loc.toNat (sqVal s t x) else s.mm⟩
def sqNext (p:List (List Ins)) (s:Sq) (t:Nat):Option Sq:=
 match p[t]?,s.pc[t]? with
 | some r,some k=>match r[k.toNat]? with
  | some x=>some (sqDo s t k x)
  | none=>none
 | _,_=>none
def sqOut (s:Sq):List Int:=s.rg++s.mm
structure SqOk (p:List (List Ins)) (s:Sq):Prop where
 lp:s.pc.length=p.length
 lr:s.rg.length=p.length * 3
 lm:s.mm.length=3
 pc:∀ (t:Nat) (k:Int) (r:List Ins),s.pc[t]? = some k→p[t]? = some r→0≤k∧k≤r.length
 rg:∀ x∈s.rg,0≤x∧x≤3
 mm:∀ x∈s.mm,0≤x∧x≤3
theorem SqOk.start (p:List (List Ins)):SqOk p (sqStart p):=
 ⟨by simp [sqStart],by simp [sqStart],by simp [sqStart],fun t k r h _=>by
  simp only [sqStart,List.getElem?_replicate] at h
  split at h
  ·simp at h;subst h;omega
  ·simp at h,fun x hx=>by simp [sqStart] at hx;omega,fun x hx=>by simp [sqStart] at hx;omega⟩
theorem getD_range {l:List Int} (h:∀ x∈l,0≤x∧x≤3) (k:Nat):0≤l.getD k 0∧l.getD k 0≤3:=by
 rw [List.getD_eq_getElem?_getD]
 cases hk:l[k]? with
 | none=>simp
 | some x=>simpa using h x (List.mem_of_getElem? hk)
theorem set_range {l:List Int} (h:∀ x∈l,0≤x∧x≤3) {v:Int} (hv:0≤v∧v≤3) (k:Nat):∀ x∈l.set k v,0≤x∧x≤3:=fun x hx=>by
 rcases List.mem_or_eq_of_mem_set hx with e | e
 ·exact h x e
 ·rw [e];exact hv
theorem val_range {s:Sq} {t:Nat} {x:Ins} (h:∀ y∈s.rg,0≤y∧y≤3) (hx:insValid x=true) (hw:isWop x.op=true):0≤sqVal s t x∧sqVal s t x≤3:=by
 unfold sqVal
 split
 ·exact getD_range h _
 ·rename_i h3
  unfold isWop at hw
  unfold insValid inB at hx
  simp only [Bool.or_eq_true,beq_iff_eq] at hw
  rcases hw with (hw | hw) | hw
  ·simp [hw] at hx;omega
  ·exact absurd hw h3
  ·simp [hw] at hx;omega
theorem sqNext_parts {p:List (List Ins)} {s s':Sq} {t:Nat} (h:sqNext p s t=some s'):∃ r k x,p[t]? = some r∧s.pc[t]? = some k∧r[k.toNat]? = some x∧s'=sqDo s t k x:=by
 unfold sqNext at h
 split at h
 ·rename_i r k hr hk
  split at h
  ·rename_i x hx
   simp only [Option.some.injEq] at h
   exact ⟨r,k,x,hr,hk,hx,h.symm⟩
  ·cases h
 ·cases h
theorem SqOk.next {p:List (List Ins)} {s s':Sq} {t:Nat} (h:SqOk p s) (hp:∀ r∈p,∀ x∈r,insValid x=true) (hn:sqNext p s t=some s'):SqOk p s':=by
 obtain ⟨r,k,x,hr,hk,hx,rfl⟩:=sqNext_parts hn
 have hv:=hp r (List.mem_of_getElem? hr) x (List.mem_of_getElem? hx)
 have hk0:=h.pc t k r hk hr
 have hlt:=(List.getElem?_eq_some_iff.1 hx).1
 refine ⟨by simp [sqDo,h.lp], ?_, ?_, ?_, ?_, ?_⟩
 ·unfold sqDo;simp only;split
  ·rw [List.length_set];exact h.lr
  ·exact h.lr
 ·unfold sqDo;simp only;split
  ·rw [List.length_set];exact h.lm
  ·exact h.lm
 ·intro t' k' r' h1 h2
  simp only [sqDo] at h1
  rw [List.getElem?_set] at h1
  by_cases e:t=t'
  ·subst e
   rw [if_pos rfl] at h1
   split at h1
   ·simp only [Option.some.injEq] at h1
    rw [hr] at h2
    simp only [Option.some.injEq] at h2
    subst h2;omega
   ·cases h1
  ·rw [if_neg e] at h1;exact h.pc t' k' r' h1 h2
 ·unfold sqDo;simp only;split
  ·exact set_range h.rg (getD_range h.mm _) _
  ·exact h.rg
 ·unfold sqDo;simp only;split
  ·rename_i hw;exact set_range h.mm (val_range h.rg hv hw) _
  ·exact h.mm
def sqLeft (p:List (List Ins)) (s:Sq):Nat:=((List.range p.length).map fun t=>(p.getD t []).length - (s.pc.getD t 0).toNat).sum
theorem sum_lt {f g:Nat→Nat} {t:Nat}:∀ {n:Nat},t < n→(∀ i,i≠t→f i=g i)→f t < g t→((List.range n).map f).sum < ((List.range n).map g).sum:=by
 intro n
 induction n with
 | zero=>intro h;omega
 | succ n ih =>
  intro ht he hlt
  rw [List.range_succ,List.map_append,List.map_append,List.sum_append,List.sum_append]
  simp only [List.map_cons,List.map_nil,List.sum_cons,List.sum_nil]
  by_cases e:t=n
  ·subst e
   have:((List.range t).map f)=((List.range t).map g):=List.map_congr_left fun i hi=>he i (by have:=List.mem_range.1 hi;omega)
   rw [this];omega
  ·have h1:=ih (by omega) he hlt
   have h2:=he n (fun q=>e q.symm)
   omega
theorem sqLeft_next {p:List (List Ins)} {s s':Sq} {t:Nat} (h:SqOk p s) (hn:sqNext p s t=some s'):sqLeft p s' < sqLeft p s:=by
 obtain ⟨r,k,x,hr,hk,hx,rfl⟩:=sqNext_parts hn
 have ht:=(List.getElem?_eq_some_iff.1 hr).1
 have ht2:=(List.getElem?_eq_some_iff.1 hk).1
 have hlt:=(List.getElem?_eq_some_iff.1 hx).1
 have hk0:=h.pc t k r hk hr
 unfold sqLeft
 refine sum_lt (t:=t) ht (fun i hi => ?_) ?_
 ·simp only [sqDo,List.getD_eq_getElem?_getD]
  rw [List.getElem?_set,if_neg (fun e=>hi e.symm)]
 ·simp only [sqDo,List.getD_eq_getElem?_getD,hr,hk,Option.getD_some]
  rw [List.getElem?_set,if_pos rfl,if_pos ht2]
  simp only [Option.getD_some]
  omega
end Go.Proofs.Ytlddmagfbcomgaa
namespace Go.Proofs.Ytlddmagfbcomgaa
section
variable {S : Type} {start : S} {next : S → Nat → Option S} (done : S → Bool) (out : S → List Int) (n : Nat)
variable {done out n}
end
def sqDone (p:List (List Ins)) (s:Sq):Bool:=(List.range p.length).all fun t=>decide (¬ s.pc.getD t 0 < ((p.getD t []).length:Int))
theorem sqOut_length {p:List (List Ins)} {s:Sq} (h:SqOk p s):(sqOut s).length=p.length * 3+3:=by
 unfold sqOut;rw [List.length_append,h.lr,h.lm]
end Go.Proofs.Ytlddmagfbcomgaa
namespace Go.Proofs.Ytlddmagfbcomgaa
theorem sum_le_mul {f:Nat→Nat} {b:Nat} (h:∀ i,f i≤b):∀ n,((List.range n).map f).sum≤n * b:=by
 intro n
 induction n with
 | zero=>simp
 | succ n ih =>
  rw [List.range_succ,List.map_append,List.sum_append,Nat.add_mul]
  have:=h n
  simp only [List.map_cons,List.map_nil,List.sum_cons,List.sum_nil]
  omega
theorem sqLeft_le {p:List (List Ins)} (h:progValid p=true) (s:Sq):sqLeft p s≤21:=by
 obtain ⟨h1, -,h2, -⟩:=valid_le h
 unfold sqLeft
 have h3:=sum_le_mul (f:=fun t=>(p.getD t []).length - (s.pc.getD t 0).toNat) (b:=7) (fun t=>by
  show (p.getD t []).length - (s.pc.getD t 0).toNat≤7
  have h4:(p.getD t []).length≤7:=by
   rw [List.getD_eq_getElem?_getD]
   cases hr:p[t]? with
   | none=>simp
   | some r=>exact (h2 r (List.mem_of_getElem? hr)).1
  omega) p.length
 have:p.length * 7≤3 * 7:=Nat.mul_le_mul_right _ h1
 omega
theorem valid_ins {p:List (List Ins)} (h:progValid p=true):∀ r∈p,∀ x∈r,insValid x=true:=fun r hr x hx=>((valid_le h).2.2.1 r hr).2 x hx
end Go.Proofs.Ytlddmagfbcomgaa
namespace Go.Proofs.Ytlddmagfbcomgaa
def encR:List Int→Nat
 | []=>0
 | x :: xs=>x.toNat * 4 ^ xs.length+encR xs
theorem encR_lt {l:List Int} (h:∀ x∈l,0≤x∧x≤3):encR l < 4 ^ l.length:=by
 induction l with
 | nil=>simp [encR]
 | cons x l ih =>
  have h1:=ih fun y hy=>h y (by simp [hy])
  have h2:=h x (by simp)
  have h3:x.toNat * 4 ^ l.length≤3 * 4 ^ l.length:=Nat.mul_le_mul_right _ (by omega)
  simp only [encR,List.length_cons,Nat.pow_succ]
  omega
theorem encR_lex {a b:List Int} (hl:a.length=b.length) (ha:∀ x∈a,0≤x∧x≤3) (hb:∀ x∈b,0≤x∧x≤3) (h:lexO a b = -1):encR a < encR b:=by
 induction a generalizing b with
 | nil=>simp [lexO] at h
 | cons x a ih =>
  cases b with
  | nil=>simp at hl
  | cons y b =>
   have hl':a.length=b.length:=by simpa using hl
   have e1:=encR_lt (l:=a) fun z hz=>ha z (by simp [hz])
   have hx:=ha x (by simp)
   have hy:=hb y (by simp)
   simp only [lexO] at h
   simp only [encR]
   by_cases h1:x < y
   ·have h2:(x.toNat+1) * 4 ^ a.length≤y.toNat * 4 ^ a.length:=Nat.mul_le_mul_right _ (by omega)
    rw [Nat.add_mul,Nat.one_mul] at h2
    rw [← hl']
    omega
   ·rw [if_neg h1] at h
    by_cases h2:y < x
    ·rw [if_pos h2] at h;omega
    ·rw [if_neg h2] at h
     have e:x=y:=by omega
     subst e
     have:=ih hl' (fun z hz=>ha z (by simp [hz])) (fun z hz=>hb z (by simp [hz])) h
     rw [← hl']
     omega
end Go.Proofs.Ytlddmagfbcomgaa
namespace Go.Proofs.Ytlddmagfbcomgaa
structure Bf where
 q:Sq
 bf:List (List (Int × Int))
def bfN (split:Bool):Nat:=if split then 3 else 1
def bfStart (p:List (List Ins)) (split:Bool):Bf:=⟨sqStart p,List.replicate (p.length * bfN split) []⟩
def bfPlace (t:Nat) (loc:Int) (split:Bool):Nat:=if split then t * 3+loc.toNat else t
def bfEmpty (s:Bf) (t:Nat) (split:Bool):Bool:=(List.range (bfN split)).all fun i=>(s.bf.getD (t * bfN split+i) []).isEmpty
def bfSeen (s:Bf) (t:Nat) (loc:Int) (split:Bool):Int:=
 match (s.bf.getD (bfPlace t loc split) []).reverse.find? (fun e=>e.1==loc) with
 | some e=>e.2
 | none=>s.q.mm.getD loc.toNat 0
def bfDo (s:Bf) (split:Bool) (t:Nat) (k:Int) (x:Ins):Option Bf:=
 if x.op=4∨x.op=5 then if bfEmpty s t split=true then some ⟨sqDo s.q t k x,s.bf⟩ else none
 else if x.op=1 then some ⟨⟨s.q.pc.set t (k+1),s.q.rg.set (t * 3+x.reg.toNat) (bfSeen s t x.loc split),s.q.mm⟩,s.bf⟩
 else some ⟨⟨s.q.pc.set t (k+1),s.q.rg,s.q.mm⟩,s.bf.set (bfPlace t x.loc split) (s.bf.getD (bfPlace t x.loc split) []++[(x.loc,sqVal s.q t x)])⟩
def bfNext (p:List (List Ins)) (split:Bool) (s:Bf) (m:Nat):Option Bf:=
 if m < p.length then
  match p[m]?,s.q.pc[m]? with
  | some r,some k=>match r[k.toNat]? with
   | some x=>bfDo s split m k x
   | none=>none
  | _,_=>none
 else match s.bf[m - p.length]? with
  | some ((l,v) :: rest)=>some ⟨⟨s.q.pc,s.q.rg,s.q.mm.set l.toNat v⟩,s.bf.set (m - p.length) rest⟩
  | _=>none
def entOk (e:Int × Int):Prop:=(0≤e.1∧e.1≤2)∧0≤e.2∧e.2≤3
structure BfOk (p:List (List Ins)) (split:Bool) (s:Bf):Prop where
 q:SqOk p s.q
 lb:s.bf.length=p.length * bfN split
 en:∀ l∈s.bf,∀ e∈l,entOk e
theorem BfOk.start (p:List (List Ins)) (split:Bool):BfOk p split (bfStart p split):=
 ⟨SqOk.start p,by simp [bfStart],fun l hl=>by simp [bfStart] at hl;intro e he;rw [hl.2] at he;simp at he⟩
theorem pc_next {p:List (List Ins)} {s:Sq} {t:Nat} {k:Int} {r:List Ins} {x:Ins} (h:SqOk p s) (hr:p[t]? = some r) (hk:s.pc[t]? = some k) (hx:r[k.toNat]? = some x) {rg mm:List Int} (h1:rg.length=p.length * 3) (h2:mm.length=3) (h3:∀ x∈rg,0≤x∧x≤3) (h4:∀ x∈mm,0≤x∧x≤3):SqOk p ⟨s.pc.set t (k+1),rg,mm⟩:=by
 have hk0:=h.pc t k r hk hr
 have hlt:=(List.getElem?_eq_some_iff.1 hx).1
 refine ⟨by simp [h.lp],h1,h2,fun t' k' r' g1 g2 => ?_,h3,h4⟩
 simp only at g1
 rw [List.getElem?_set] at g1
 by_cases e:t=t'
 ·subst e
  rw [if_pos rfl] at g1
  split at g1
  ·simp only [Option.some.injEq] at g1
   rw [hr] at g2
   simp only [Option.some.injEq] at g2
   subst g2;omega
  ·cases g1
 ·rw [if_neg e] at g1;exact h.pc t' k' r' g1 g2
theorem getD_mem {l:List (List (Int × Int))} (h:∀ x∈l,∀ e∈x,entOk e) (k:Nat):∀ e∈l.getD k [],entOk e:=by
 rw [List.getD_eq_getElem?_getD]
 cases hk:l[k]? with
 | none=>simp
 | some x=>simpa using h x (List.mem_of_getElem? hk)
theorem seen_range {p:List (List Ins)} {split:Bool} {s:Bf} (h:BfOk p split s) (t:Nat) (loc:Int):0≤bfSeen s t loc split∧bfSeen s t loc split≤3:=by
 unfold bfSeen
 split
 ·rename_i e he
  exact (getD_mem h.en _ e (List.mem_reverse.1 (List.mem_of_find?_eq_some he))).2
 ·exact getD_range h.q.mm _
theorem bfNext_thread {p:List (List Ins)} {split:Bool} {s s':Bf} {m:Nat} (h:bfNext p split s m=some s') (hm:m < p.length):∃ r k x,p[m]? = some r∧s.q.pc[m]? = some k∧r[k.toNat]? = some x∧bfDo s split m k x=some s':=by
 unfold bfNext at h
 rw [if_pos hm] at h
 split at h
 ·rename_i r k hr hk
  split at h
  ·rename_i x hx
   exact ⟨r,k,x,hr,hk,hx,h⟩
  ·cases h
 ·cases h
theorem bfNext_flush {p:List (List Ins)} {split:Bool} {s s':Bf} {m:Nat} (h:bfNext p split s m=some s') (hm:¬ m < p.length):∃ l v rest,s.bf[m - p.length]? = some ((l,v) :: rest)∧s'=⟨⟨s.q.pc,s.q.rg,s.q.mm.set l.toNat v⟩,s.bf.set (m - p.length) rest⟩:=by
 unfold bfNext at h
 rw [if_neg hm] at h
 split at h
 ·rename_i l v rest hb
  simp only [Option.some.injEq] at h
  exact ⟨l,v,rest,hb,h.symm⟩
 ·cases h
theorem BfOk.next {p:List (List Ins)} {split:Bool} {s s':Bf} {m:Nat} (h:BfOk p split s) (hp:∀ r∈p,∀ x∈r,insValid x=true) (hn:bfNext p split s m=some s'):BfOk p split s':=by
 by_cases hm:m < p.length
 ·obtain ⟨r,k,x,hr,hk,hx,hd⟩:=bfNext_thread hn hm
  have hv:=hp r (List.mem_of_getElem? hr) x (List.mem_of_getElem? hx)
  unfold bfDo at hd
  split at hd
  ·split at hd
   ·simp only [Option.some.injEq] at hd
    subst hd
    exact ⟨h.q.next (t:=m) hp (by unfold sqNext;simp [hr,hk,hx]),h.lb,h.en⟩
   ·cases hd
  ·rename_i h45
   split at hd
   ·simp only [Option.some.injEq] at hd
    subst hd
    exact ⟨pc_next h.q hr hk hx (by rw [List.length_set];exact h.q.lr) h.q.lm (set_range h.q.rg (seen_range h _ _) _) h.q.mm,h.lb,h.en⟩
   ·rename_i h1
    simp only [Option.some.injEq] at hd
    subst hd
    refine ⟨pc_next h.q hr hk hx h.q.lr h.q.lm h.q.rg h.q.mm,by rw [List.length_set];exact h.lb,fun l hl e he => ?_⟩
    rcases List.mem_or_eq_of_mem_set hl with g | g
    ·exact h.en l g e he
    ·rw [g] at he
     rcases List.mem_append.1 he with g2 | g2
     ·exact getD_mem h.en _ e g2
     ·simp only [List.mem_singleton] at g2
      subst g2
      have h23:x.op=2∨x.op=3:=by
       unfold insValid at hv
       split at hv
       ·omega
       ·split at hv
        ·omega
        ·split at hv
         ·omega
         ·split at hv
          ·omega
          ·cases hv
      have hloc:0≤x.loc∧x.loc≤2:=by
       unfold insValid inB at hv
       rcases h23 with e2 | e2 <;> (simp [e2] at hv;omega)
      exact ⟨hloc,val_range h.q.rg hv (by unfold isWop;rcases h23 with e2 | e2 <;> simp [e2])⟩
 ·obtain ⟨l,v,rest,hb,rfl⟩:=bfNext_flush hn hm
  have he:=h.en _ (List.mem_of_getElem? hb) (l,v) (by simp)
  refine ⟨⟨h.q.lp,h.q.lr,by rw [List.length_set];exact h.q.lm,h.q.pc,h.q.rg,set_range h.q.mm he.2 _⟩,by rw [List.length_set];exact h.lb,fun l' hl e he => ?_⟩
  rcases List.mem_or_eq_of_mem_set hl with g | g
  ·exact h.en l' g e he
  ·rw [g] at he
   exact h.en _ (List.mem_of_getElem? hb) e (by simp [he])
def bfLeft (p:List (List Ins)) (s:Bf):Nat:=2 * sqLeft p s.q+(s.bf.map List.length).sum
theorem sum_set {l:List (List (Int × Int))} {k:Nat} {x:List (Int × Int)} (h:l[k]? = some x) (y:List (Int × Int)):((l.set k y).map List.length).sum+x.length=(l.map List.length).sum+y.length:=by
 induction l generalizing k with
 | nil=>simp at h
 | cons z l ih =>
  cases k with
  | zero=>simp at h;subst h;simp;omega
  | succ k =>
   simp only [List.getElem?_cons_succ] at h
   have:=ih h
   simp only [List.set_cons_succ,List.map_cons,List.sum_cons]
   omega
theorem place_lt {p:List (List Ins)} {split:Bool} {t:Nat} {loc:Int} (ht:t < p.length) (h0:0≤loc) (h2:loc≤2):bfPlace t loc split < p.length * bfN split:=by
 unfold bfPlace bfN
 cases split
 ·simp;exact ht
 ·simp;omega
theorem sqLeft_pc {p:List (List Ins)} {s:Sq} {t:Nat} {k:Int} {r:List Ins} {x:Ins} (h:SqOk p s) (hr:p[t]? = some r) (hk:s.pc[t]? = some k) (hx:r[k.toNat]? = some x) (rg mm:List Int):sqLeft p ⟨s.pc.set t (k+1),rg,mm⟩ < sqLeft p s:=by
 have h1:=sqLeft_next h (show sqNext p s t=some (sqDo s t k x) by unfold sqNext;simp [hr,hk,hx])
 exact h1
theorem bfLeft_next {p:List (List Ins)} {split:Bool} {s s':Bf} {m:Nat} (h:BfOk p split s) (hn:bfNext p split s m=some s'):bfLeft p s' < bfLeft p s:=by
 unfold bfLeft
 by_cases hm:m < p.length
 ·obtain ⟨r,k,x,hr,hk,hx,hd⟩:=bfNext_thread hn hm
  unfold bfDo at hd
  split at hd
  ·split at hd
   ·simp only [Option.some.injEq] at hd
    subst hd
    have:=sqLeft_next h.q (show sqNext p s.q m=some (sqDo s.q m k x) by unfold sqNext;simp [hr,hk,hx])
    simp only
    omega
   ·cases hd
  ·split at hd
   ·simp only [Option.some.injEq] at hd
    subst hd
    have:=sqLeft_pc h.q hr hk hx (s.q.rg.set (m * 3+x.reg.toNat) (bfSeen s m x.loc split)) s.q.mm
    simp only
    omega
   ·simp only [Option.some.injEq] at hd
    subst hd
    have h1:=sqLeft_pc h.q hr hk hx s.q.rg s.q.mm
    simp only
    cases hb:s.bf[bfPlace m x.loc split]? with
    | none =>
     have e:s.bf.set (bfPlace m x.loc split) (s.bf.getD (bfPlace m x.loc split) []++[(x.loc,sqVal s.q m x)])=s.bf:=List.set_eq_of_length_le (by simpa using hb)
     rw [e]
     omega
    | some b =>
     have h2:=sum_set hb (s.bf.getD (bfPlace m x.loc split) []++[(x.loc,sqVal s.q m x)])
     simp only [List.getD_eq_getElem?_getD,hb,Option.getD_some,List.length_append,List.length_singleton] at h2 ⊢
     omega
 ·obtain ⟨l,v,rest,hb,rfl⟩:=bfNext_flush hn hm
  have h2:=sum_set hb rest
  simp only [List.length_cons] at h2
  simp only [show sqLeft p ⟨s.q.pc,s.q.rg,s.q.mm.set l.toNat v⟩=sqLeft p s.q from rfl]
  omega
def bfDone (p:List (List Ins)) (s:Bf):Bool:=s.bf.all List.isEmpty&&sqDone p s.q
def bfOut (s:Bf):List Int:=sqOut s.q
end Go.Proofs.Ytlddmagfbcomgaa
namespace Go.Proofs.Ytlddmagfbcomgaa
def At (p:List (List Ins)) (t i:Nat) (x:Ins):Prop:=∃ r,p[t]? = some r∧r[i]? = some x
theorem At.row {p:List (List Ins)} {t i:Nat} {x:Ins} (h:At p t i x):(p.getD t [])[i]? = some x:=by
 obtain ⟨r,h1,h2⟩:=h
 rw [List.getD_eq_getElem?_getD,h1];exact h2
theorem At.lt {p:List (List Ins)} {t i:Nat} {x:Ins} (h:At p t i x):t < p.length:=by
 obtain ⟨r,h1,h2⟩:=h
 exact (List.getElem?_eq_some_iff.1 h1).1
theorem At.ilt {p:List (List Ins)} {t i:Nat} {x:Ins} (h:At p t i x):i < (p.getD t []).length:=(List.getElem?_eq_some_iff.1 h.row).1
theorem At.of {p:List (List Ins)} {t i:Nat} (ht:t < p.length) (hi:i < (p.getD t []).length):∃ x,At p t i x:=by
 obtain ⟨r,hr⟩:∃ r,p[t]? = some r:=⟨_,List.getElem?_eq_getElem ht⟩
 rw [List.getD_eq_getElem?_getD,hr] at hi
 exact ⟨_,r,hr,List.getElem?_eq_getElem hi⟩
def Evt (p:List (List Ins)) (t i:Nat) (x:Ins):Prop:=At p t i x∧x.op≠4
def confl (x y:Ins):Prop:=x.loc=y.loc∧(isW x=true∨isW y=true)
def Cf (p:List (List Ins)) (a b:Nat × Nat):Prop:=a.1≠b.1∧∃ x y,Evt p a.1 a.2 x∧Evt p b.1 b.2 y∧confl x y
def Po (p:List (List Ins)) (a b:Nat × Nat):Prop:=a.1=b.1∧a.2 < b.2∧(∃ x,Evt p a.1 a.2 x)∧∃ y,Evt p b.1 b.2 y
inductive WPth (p:List (List Ins)):Nat × Nat→Nat × Nat→Prop
 | refl (a:Nat × Nat):WPth p a a
 | cf {a b c:Nat × Nat} (h:Cf p a b) (k:WPth p b c):WPth p a c
 | po {a b c:Nat × Nat} (h:Po p a b) (k:WPth p b c):WPth p a c
theorem WPth.trans {p:List (List Ins)} {a b c:Nat × Nat} (h:WPth p a b) (k:WPth p b c):WPth p a c:=by
 induction h with
 | refl a=>exact k
 | cf h _ ih=>exact .cf h (ih k)
 | po h _ ih=>exact .po h (ih k)
def Way (p:List (List Ins)) (a b:Nat × Nat):Prop:=∃ x y,Cf p a x∧WPth p x y∧Cf p y b
def Sep (p:List (List Ins)) (t i k:Nat):Prop:=∃ m x,i≤m∧m≤k∧At p t m x∧(x.op=4∨x.op=5)
def Delayed (p:List (List Ins)) (t i k:Nat):Prop:=i < k∧(∃ x,Evt p t i x)∧(∃ y,Evt p t k y)∧Way p (t,k) (t,i)
def rr (r:List Ins) (f:Nat→Int):Nat→Nat→Int
 | 0,_=>0
 | k+1,g=>match r[k]? with
  | some x=>if isRop x.op=true∧x.reg.toNat=g then f k else rr r f k g
  | none=>rr r f k g
def wv (p:List (List Ins)) (rv:Nat→Nat→Int) (t i:Nat):Int:=match (p.getD t [])[i]? with
 | some x=>if x.op=3 then rr (p.getD t []) (rv t) i x.reg.toNat else x.val
 | none=>0
def Lst (p:List (List Ins)) (rv:Nat→Nat→Int) (key:Nat→Nat→Nat) (P:Nat→Nat→Ins→Prop) (v:Int):Prop:=
 (∃ u j y,Evt p u j y∧isW y=true∧P u j y∧v=wv p rv u j∧∀ u' j' y',Evt p u' j' y'→isW y'=true→P u' j' y'→key u' j'≤key u j) ∨
 (v=0∧∀ u j y,Evt p u j y→isW y=true→P u j y→False)
structure Ord (p:List (List Ins)) (rv:Nat→Nat→Int) (key:Nat→Nat→Nat):Prop where
 inj:∀ t i x u j y,Evt p t i x→Evt p u j y→key t i=key u j→t=u∧i=j
 loc:∀ t i x k y,Evt p t i x→Evt p t k y→i < k→x.loc=y.loc→key t i < key t k
 sep:∀ t i x k y,Evt p t i x→Evt p t k y→i < k→Sep p t i k→key t i < key t k
 rd:∀ t i x,Evt p t i x→isR x=true→Lst p rv key (fun u j y=>y.loc=x.loc∧key u j < key t i) (rv t i)
def pcN (s:Sq) (t:Nat):Nat:=(s.pc.getD t 0).toNat
theorem getD_set_same {l:List Int} {k:Nat} (h:k < l.length) (v d:Int):(l.set k v).getD k d=v:=by
 rw [List.getD_eq_getElem?_getD,List.getElem?_set,if_pos rfl,if_pos h];rfl
theorem getD_set_other {l:List Int} {k j:Nat} (h:k≠j) (v d:Int):(l.set k v).getD j d=l.getD j d:=by
 rw [List.getD_eq_getElem?_getD,List.getElem?_set,if_neg h,List.getD_eq_getElem?_getD]
theorem max_of {α:Type} (R:α→α→Prop) (tr:∀ a b c,R a b→R b c→R a c) (ir:∀ a,¬ R a a):∀ l:List α,l≠[]→∃ m∈l,∀ x∈l,¬ R m x:=by
 intro l
 induction l with
 | nil=>intro h;exact absurd rfl h
 | cons a l ih =>
  intro _
  cases l with
  | nil=>exact ⟨a,by simp,fun x hx=>by simp at hx;subst hx;exact ir x⟩
  | cons b l =>
   obtain ⟨m,hm,hx⟩:=ih (by simp)
   by_cases e:R m a
   ·refine ⟨a,by simp,fun x hx' => ?_⟩
    rcases List.mem_cons.1 hx' with q | q
    ·subst q;exact ir x
    ·intro g;exact hx x q (tr m a x e g)
   ·refine ⟨m,List.mem_cons_of_mem _ hm,fun x hx' => ?_⟩
    rcases List.mem_cons.1 hx' with q | q
    ·subst q;exact e
    ·exact hx x q
theorem min_of {α:Type} (P:α→Prop) (f:α→Nat) (h:∃ a,P a):∃ a,P a∧∀ b,P b→f a≤f b:=by
 have key:∀ n a,P a→f a≤n→∃ a,P a∧∀ b,P b→f a≤f b:=by
  intro n
  induction n with
  | zero=>intro a ha hn;exact ⟨a,ha,fun b _=>by omega⟩
  | succ n ih =>
   intro a ha hn
   by_cases q:∃ b,P b∧f b < f a
   ·obtain ⟨b,hb,hlt⟩:=q
    exact ih b hb (by omega)
   ·exact ⟨a,ha,fun b hb=>by
     rcases Nat.lt_or_ge (f b) (f a) with g | g
     ·exact absurd ⟨b,hb,g⟩ q
     ·exact g⟩
 obtain ⟨a,ha⟩:=h
 exact key (f a) a ha (Nat.le_refl _)
section
variable (p : List (List Ins)) (key : Nat → Nat → Nat) (s : Sq)
def Back (t u:Nat):Prop:=∃ j,pcN s u≤j∧Cf p (u,j) (t,pcN s t)∧key u j < key t (pcN s t)
inductive BackT:Nat→Nat→Prop
 | one {t u:Nat} (h:Back p key s t u):BackT t u
 | cons {t u v:Nat} (h:Back p key s t u) (k:BackT u v):BackT t v
end
theorem BackT.trans {p:List (List Ins)} {key:Nat→Nat→Nat} {s:Sq} {t u v:Nat} (h:BackT p key s t u) (k:BackT p key s u v):BackT p key s t v:=by
 induction h with
 | one h=>exact .cons h k
 | cons h _ ih=>exact .cons h (ih k)
theorem BackT.way {p:List (List Ins)} {key:Nat→Nat→Nat} {s:Sq} (hh:∀ t x,At p t (pcN s t) x→x.op≠4) {t u:Nat} (h:BackT p key s t u):∃ y,WPth p (u,pcN s u) y∧Cf p y (t,pcN s t):=by
 have first:∀ t u,Back p key s t u→∃ y,WPth p (u,pcN s u) y∧Cf p y (t,pcN s t):=fun t u h=>by
  obtain ⟨j,hj,hc,hk⟩:=h
  refine ⟨(u,j), ?_,hc⟩
  rcases Nat.lt_or_ge (pcN s u) j with q | q
  ·obtain ⟨-,y, -,hy, -, -⟩:=hc
   obtain ⟨z,hz⟩:=At.of (p:=p) (t:=u) (i:=pcN s u) hy.1.lt (by have h1:=hy.1.ilt;simp only at h1;omega)
   exact .po (b:=(u,j)) ⟨rfl,q,⟨z,hz,hh u z hz⟩,y,hy⟩ (.refl _)
  ·obtain rfl:j=pcN s u:=by omega
   exact .refl _
 induction h with
 | one h=>exact first _ _ h
 | cons h _ ih =>
  obtain ⟨y,h1,h2⟩:=ih
  obtain ⟨z,h3,h4⟩:=first _ _ h
  exact ⟨z,h1.trans (.cf h2 h3),h4⟩
theorem source {p:List (List Ins)} {rv:Nat→Nat→Int} {key:Nat→Nat→Nat} {s:Sq} (od:Ord p rv key) (hd:∀ t i k,Delayed p t i k→Sep p t i k)
 (hh:∀ t x,At p t (pcN s t) x→x.op≠4) (hne:∃ t x,At p t (pcN s t) x):∃ t x,At p t (pcN s t) x∧∀ u,¬ Back p key s t u:=by
 apply Classical.byContradiction
 intro hno
 have hb:∀ t x,At p t (pcN s t) x→∃ u,Back p key s t u:=fun t x hx=>Classical.byContradiction fun q=>hno ⟨t,x,hx,fun u g=>q ⟨u,g⟩⟩
 have hat:∀ t u,Back p key s t u→∃ x,At p u (pcN s u) x:=fun t u h=>by
  obtain ⟨j,hj,⟨-,y, -,hy, -, -⟩, -⟩:=h
  exact At.of hy.1.lt (by have h1:=hy.1.ilt;simp only at h1;omega)
 have hcyc:∃ t,BackT p key s t t:=by
  apply Classical.byContradiction
  intro hn
  obtain ⟨t0,x0,h0⟩:=hne
  obtain ⟨m,hm,hmax⟩:=max_of (BackT p key s) (fun a b c=>BackT.trans) (fun a h=>hn ⟨a,h⟩) ((List.range p.length).filter fun t=>decide (pcN s t < (p.getD t []).length)) (by
   intro e
   have:t0∈(List.range p.length).filter fun t=>decide (pcN s t < (p.getD t []).length):=by
    rw [List.mem_filter];exact ⟨List.mem_range.2 h0.lt,decide_eq_true h0.ilt⟩
   rw [e] at this;simp at this)
  rw [List.mem_filter] at hm
  obtain ⟨x,hx⟩:=At.of (List.mem_range.1 hm.1) (of_decide_eq_true hm.2)
  obtain ⟨u,hu⟩:=hb m x hx
  obtain ⟨y,hy⟩:=hat m u hu
  exact hmax u (by rw [List.mem_filter];exact ⟨List.mem_range.2 hy.lt,decide_eq_true hy.ilt⟩) (.one hu)
 obtain ⟨t,ht,hmin⟩:=min_of (fun t=>BackT p key s t t) (fun t=>key t (pcN s t)) hcyc
 have hfin:∀ u,Back p key s t u→BackT p key s u t→False:=fun u h1 h2=>by
  have hu:=hmin u (h2.trans (.one h1))
  have h0:=h1
  obtain ⟨j,hj,hc,hk⟩:=h1
  obtain ⟨z,hz⟩:=hat t u h0
  obtain ⟨y,g1,g2⟩:=BackT.way hh (.one h0:BackT p key s t u)
  obtain ⟨w,k1,k2⟩:=BackT.way hh h2
  have hway:Way p (u,j) (u,pcN s u):=⟨(t,pcN s t),w,hc,k1,k2⟩
  obtain ⟨-,e, -,he, -, -⟩:=hc
  simp only at he
  rcases Nat.lt_or_ge (pcN s u) j with q | q
  ·have hsep:=hd u (pcN s u) j ⟨q,⟨z,hz,hh u z hz⟩,⟨e,he⟩,hway⟩
   have:=od.sep u (pcN s u) z j e ⟨hz,hh u z hz⟩ he q hsep
   omega
  ·obtain rfl:j=pcN s u:=by omega
   omega
 cases ht with
 | one h =>
  obtain ⟨j,hj,hc,hk⟩:=h
  exact hc.1 rfl
 | cons h k=>exact hfin _ h k
end Go.Proofs.Ytlddmagfbcomgaa
namespace Go.Proofs.Ytlddmagfbcomgaa
theorem BfOk.reach {p:List (List Ins)} {split:Bool} (hp:∀ r∈p,∀ x∈r,insValid x=true) {s:Bf} (h:ReachM (bfStart p split) (bfNext p split) s):BfOk p split s:=by
 induction h with
 | start=>exact BfOk.start p split
 | step _ ht ih=>exact ih.next hp ht
end Go.Proofs.Ytlddmagfbcomgaa
namespace Go.Proofs.Ytlddmagfbcomgaa
structure Gst where
 rv:Nat→Nat→Int
 ts:Nat→Nat→Nat
 src:Nat→Nat→Option Nat
 gb:Nat→List Nat
 n:Nat
end Go.Proofs.Ytlddmagfbcomgaa