/-
  The program's equality of programs. No condition.
-/
import Derived.Test.YtlddmagfbcomgaaZr00
import Derived.OrdersIn
import Derived.Orders
set_option maxHeartbeats 6400000
set_option maxRecDepth 100000
namespace Go.Proofs.Ytlddmagfbcomgaa
open Go.RowKit
theorem times_any (q:Nat) (m:Int) (b:Nat) (w:World) (hc:w.cell? ⟨b,0,none⟩=some (.int .i64 (q:Int))) (hf:w.frozen? ⟨b,0,none⟩=false) (hq:q≤3001) (h0:0≤m) (hn:m≤1048577) :
 Calls Try.prog 42 #[.int .i64 m, .pointer (some ⟨b,0,none⟩)] w fun e w'=>e = .returned (.tuple #[])∧w.setCell ⟨b,0,none⟩ (.int .i64 (cap (q * m.toNat):Nat))=w':=by
 obtain ⟨n,rfl⟩:=Int.eq_ofNat_of_zero_le h0
 rw [Int.toNat_natCast]
 have hn:n≤1048577:=by omega
 have hm:q * n≤3001 * 1048577:=Nat.mul_le_mul hq hn
 have e1:((q * n:Nat):Int)=(q:Int) * n:=by simp
 have hm2:(q:Int) * n≤3146780577:=by omega
 have hm3:0≤(q:Int) * n:=by omega
 have e2:((cap (q * n):Nat):Int)=min ((q:Int) * n) 3001:=by unfold cap;omega
 rw [e2]
 have E1:=hide e1;clear e1
 have E2:=hide e2;clear e2
 clear hm
 go_enter Try.func42,Try.ntmps42
 go_wp2
 ·go_end0
  rw [show min ((q:Int) * n) 3001=3001 by omega]
  exact ⟨rfl,rfl⟩
 ·go_end0
  rw [show min ((q:Int) * n) 3001=(q:Int) * n by omega]
  exact ⟨rfl,rfl⟩
theorem execs_any (v:Value) (p:List (List Ins)) (w:World) (hp:RepP w v p) (hl:p.flatten.length≤1048576) (hpl:p.length≤1048576) :
 Calls Try.prog 29 #[v] w fun e w'=>e = .returned (.int .i64 (cap (prodP p):Nat))∧Below w.heap.size w w':=by
 obtain ⟨a,c,rfl,hc1,hc2,hc3,hp⟩:=hp.open
 have HP:=hide hp;clear hp
 have HL:=hide hl;clear hl
 generalize hn:p.length=n at *
 have H:=hide hn;clear hn
 go_enter Try.func29,Try.ntmps29
 go_wp2_with fail
 go_loopw [14] (fun i wr => ∃ k:Nat,k≤3∧i = .int .i64 k∧wr.cell? ⟨w.heap.size,0,none⟩=some (.int .i64 (cap (prodTo p k):Nat))∧wr.frozen? ⟨w.heap.size,0,none⟩=false∧Below w.heap.size w wr∧w.heap.size < wr.heap.size) (fun i _=>3 - (intOf i).toNat)
 case atStart=>exact ⟨0,by omega,rfl,by simp [go_sem,prodTo,cap],by simp [go_sem],((Below.refl _ _).alloc (Nat.le_refl _) _),by simp⟩
 case round =>
  obtain ⟨k,hk,rfl,hcell,hfr,hb,hsz⟩:=hrel
  by_cases hlt:k < 3
  ·obtain ⟨wl,rfl⟩:∃ wl:World,wl=wr:=⟨_,rfl⟩
   have hlt':(k:Int) < 3:=by omega
   go_wp2_with fail
   go_loopw [6,7,19] (fun r wv i wr => ∃ j:Nat,j≤n∧i = .int .i64 j∧r = .int .i64 (cnt (fR k) (p.take j):Nat)∧wv = .int .i64 (cnt (fW k) (p.take j):Nat)∧Below wl.heap.size wl wr) (fun _ _ i _=>n - (intOf i).toNat)
   case atStart=>exact ⟨0,by omega,rfl,by simp [cnt],by simp [cnt],Below.refl _ _⟩
   case round =>
    obtain ⟨j,hj,rfl,rfl,rfl,hb2⟩:=hrel
    by_cases hlt2:j < n
    ·obtain ⟨wm,rfl⟩:∃ wm:World,wm=wr:=⟨_,rfl⟩
     obtain ⟨x,hxk⟩:=get_of_lt (xs:=p) (k:=j) (by rw [H.out];exact hlt2)
     obtain ⟨b,o,ra,rc,rfl,hbl,i0,i1⟩:=(HP.out.below (hb.trans (hb2.mono (Nat.le_of_lt hsz)))).row hxk
     have hlt2':=nat_of_lt hlt2
     obtain ⟨_,_,_,_,hr2,_,_⟩:=i1.open
     have hcR:=cnt_take_succ (fR k) hxk
     have hcW:=cnt_take_succ (fW k) hxk
     have hbR:=Nat.le_trans (cnt_take_le (fR k) p j) HL.out
     have hbW:=Nat.le_trans (cnt_take_le (fW k) p j) HL.out
     have hxl:=Nat.le_trans (row_le_flatten hxk) HL.out
     have CR:=hide hcR;have CW:=hide hcW;have I1:=hide i1;have X:=hide hxk
     clear hcR hcW i1 hxk
     generalize hR:cnt (fR k) (p.take j)=R at *
     generalize hW:cnt (fW k) (p.take j)=W at *
     clear hR hW
     go_wp2_with fail
     go_loopw [6,7,25] (fun r wv i wr => ∃ t:Nat,t≤x.length∧i = .int .i64 t∧r = .int .i64 (R+(x.take t).countP (fR k):Nat)∧wv = .int .i64 (W+(x.take t).countP (fW k):Nat)∧Below wm.heap.size wm wr) (fun _ _ i _=>x.length - (intOf i).toNat)
     case atStart=>exact ⟨0,by omega,rfl,by simp,by simp,Below.refl _ _⟩
     case round =>
      obtain ⟨t,ht,rfl,rfl,rfl,hb3⟩:=hrel
      have hwm:w.heap.size≤wm.heap.size:=by have:=hb2.size;omega
      by_cases hlt3:t < x.length
      ·obtain ⟨y,hyk⟩:=get_of_lt (xs:=x) (k:=t) hlt3
       obtain ⟨b',o',rfl,hbl',j0,j1,j2,j3⟩:=(I1.out.below hb3).ins hyk
       have hlt3':=nat_of_lt hlt3
       have CR2:=hide (countP_take_succ (fR k) hyk)
       have CW2:=hide (countP_take_succ (fW k) hyk)
       have hbR2:(x.take t).countP (fR k)≤1048576:=Nat.le_trans List.countP_le_length (by simp;omega)
       have hbW2:(x.take t).countP (fW k)≤1048576:=Nat.le_trans List.countP_le_length (by simp;omega)
       have Y:=hide hyk;clear hyk
       generalize hR2:(x.take t).countP (fR k)=R2 at *
       generalize hW2:(x.take t).countP (fW k)=W2 at *
       clear hR2 hW2
       by_cases hloc:y.loc=k
       ·have CR3:Hid ((x.take (t+1)).countP (fR k)=R2+if isRop y.op=true then 1 else 0):=by have h:=CR2.out;rwa [fR_yes hloc] at h
        have CW3:Hid ((x.take (t+1)).countP (fW k)=W2+if isWop y.op=true then 1 else 0):=by have h:=CW2.out;rwa [fW_yes hloc] at h
        clear CR2 CW2
        rw [hloc] at j1
        clear hloc
        have hkk:((k:Int)==k)=true:=by simp
        generalize hro:isRop y.op=ro at *
        generalize hwo:isWop y.op=wo at *
        have RO:=hide hro;have WO:=hide hwo;clear hro hwo
        cases ro <;> cases wo
        all_goals
         go_wp2_with (first | (go_at_call 43;(with_reducible refine (reads_raw _ _ _ _ _).mono ?_);rw [RO.out];rintro e w3 ⟨rfl,hb4⟩;obtain ⟨hc4,hf4⟩:=bcell hb4) | (go_at_call 44;(with_reducible refine (writes_raw _ _ _ _ _).mono ?_);rw [WO.out];rintro e w4 ⟨rfl,hb5⟩;obtain ⟨hc5,hf5⟩:=bcell hb5))
         go_roundw
         case rel=>exact ⟨t+1,by omega,by go_num,by rw [CR3.out];simp;try omega,by rw [CW3.out];simp;try omega,(((hb3.alloc hb3.size _).trans (hb4.mono (by have:=hb3.size;simp;omega))).trans (hb5.mono (by have:=hb3.size;have:=hb4.size;simp at this;omega)))⟩
         case measure=>simp [intOf];omega
       ·have CR3:Hid ((x.take (t+1)).countP (fR k)=R2):=hide (by have h:=CR2.out;rw [fR_no hloc] at h;simpa using h)
        have CW3:Hid ((x.take (t+1)).countP (fW k)=W2):=hide (by have h:=CW2.out;rw [fW_no hloc] at h;simpa using h)
        clear CR2 CW2
        have hkk:(y.loc==(k:Int))=false:=by simpa using hloc
        clear hloc
        go_wp2_with fail
        go_roundw
        case rel=>exact ⟨t+1,by omega,by go_num,by rw [CR3.out],by rw [CW3.out],hb3.alloc hb3.size _⟩
        case measure=>simp [intOf];omega
      ·have e:t=x.length:=by omega
       have CR4:Hid (cnt (fR k) (p.take (j+1))=R+(x.take t).countP (fR k)):=by have h:=CR.out;rwa [e,List.take_length]
       have CW4:Hid (cnt (fW k) (p.take (j+1))=W+(x.take t).countP (fW k)):=by have h:=CW.out;rwa [e,List.take_length]
       have hbR2:(x.take t).countP (fR k)≤1048576:=Nat.le_trans List.countP_le_length (by simp;omega)
       have hbW2:(x.take t).countP (fW k)≤1048576:=Nat.le_trans List.countP_le_length (by simp;omega)
       generalize hR2:(x.take t).countP (fR k)=R2 at *
       generalize hW2:(x.take t).countP (fW k)=W2 at *
       clear hR2 hW2 e
       go_wp2_with fail
       go_roundw
       case rel=>exact ⟨j+1,by omega,by go_num,by rw [CR4.out],by rw [CW4.out],hb2.trans (hb3.mono hb2.size)⟩
       case measure=>simp [intOf];omega
    ·have e:j=n:=by omega
     have hpt:p.take j=p:=List.take_of_length_le (by rw [H.out];omega)
     have hbR:=Nat.le_trans (cnt_le_flatten (fR k) p) HL.out
     have hbW:=Nat.le_trans (cnt_le_flatten (fW k) p) HL.out
     have PS:Hid (prodTo p (k+1)=prodTo p k * ((cnt (fW k) p+1) ^ cnt (fR k) p * fact (cnt (fW k) p))):=hide rfl
     rw [hpt]
     clear hpt e
     generalize hR:cnt (fR k) p=R at *
     generalize hW:cnt (fW k) p=W at *
     generalize hQ:prodTo p k=Q at *
     clear hR hW hQ
     have hb:=hb.trans (hb2.mono (Nat.le_of_lt hsz))
     have hcell:wr.cell? ⟨w.heap.size,0,none⟩=some (.int .i64 (cap Q:Nat)):=(hb2.cell (p:=⟨w.heap.size,0,none⟩) hsz).trans hcell
     have hfr:wr.frozen? ⟨w.heap.size,0,none⟩=false:=(hb2.frozen (p:=⟨w.heap.size,0,none⟩) hsz).trans hfr
     have hsz:w.heap.size < wr.heap.size:=by have:=hb2.size;omega
     clear hb2
     obtain ⟨wn,rfl⟩:∃ wn:World,wn=wr:=⟨_,rfl⟩
     go_wp2_with fail
     go_loopw [52] (fun i wr => ∃ t:Nat,t≤R∧i = .int .i64 t∧wr.cell? ⟨w.heap.size,0,none⟩=some (.int .i64 (cap (Q * (W+1) ^ t):Nat))∧wr.frozen? ⟨w.heap.size,0,none⟩=false∧Below w.heap.size w wr∧w.heap.size < wr.heap.size) (fun i _=>R - (intOf i).toNat)
     case atStart=>exact ⟨0,by omega,rfl,by simpa using hcell,hfr,hb,hsz⟩
     case round =>
      obtain ⟨t,ht,rfl,hcell2,hfr2,hb2,hsz2⟩:=hrel
      by_cases hlt3:t < R
      ·have E:Hid (cap (cap (Q * (W+1) ^ t) * (W+1))=cap (Q * (W+1) ^ (t+1))):=by
        apply hide
        rw [cap_mul _ _ (by omega),Nat.pow_succ,Nat.mul_assoc]
       have hcl:=cap_le (Q * (W+1) ^ t)
       generalize cap (Q * (W+1) ^ t)=C at *
       go_wp2_with (go_at_call 42;(with_reducible refine (times_any C _ _ _ hcell2 hfr2 hcl (by omega) (by omega)).mono ?_);rintro e w3 ⟨rfl,rfl⟩)
       go_roundw
       case rel=>exact ⟨t+1,by omega,by go_num,by rw [← E.out];exact World.cell?_setCell_same _ _ _ hcell2,by simpa using hfr2,hb2.setCell (Nat.le_refl _) _,by simpa using hsz2⟩
       case measure=>simp [intOf];omega
      ·have e:t=R:=by omega
       subst e
       generalize hQ:Q * (W+1) ^ t=Q2 at *
       have HQ:=hide hQ;clear hQ
       clear hcell hfr hb hsz
       obtain ⟨wo,rfl⟩:∃ wo:World,wo=wr:=⟨_,rfl⟩
       go_wp2_with fail
       go_loopw [12,60] (fun _ i wr => ∃ s:Nat,s≤W∧i = .int .i64 s∧wr.cell? ⟨w.heap.size,0,none⟩=some (.int .i64 (cap (Q2 * fact s):Nat))∧wr.frozen? ⟨w.heap.size,0,none⟩=false∧Below w.heap.size w wr∧w.heap.size < wr.heap.size) (fun _ i _=>W - (intOf i).toNat)
       case atStart=>exact ⟨0,by omega,rfl,by simpa [fact] using hcell2,hfr2,hb2,hsz2⟩
       case round =>
        obtain ⟨s,hs,rfl,hcell,hfr,hb,hsz⟩:=hrel
        by_cases hlt4:s < W
        ·have E:Hid (cap (cap (Q2 * fact s) * (s+1))=cap (Q2 * fact (s+1))):=by
          apply hide
          rw [cap_mul _ _ (by omega),fact,Nat.mul_assoc]
         have hcl:=cap_le (Q2 * fact s)
         generalize cap (Q2 * fact s)=C at *
         clear hcell2 hfr2 hb2 hsz2
         go_wp2_with (go_at_call 42;(with_reducible refine (times_any C _ _ _ hcell hfr hcl (by omega) (by omega)).mono ?_);rintro e w3 ⟨rfl,rfl⟩)
         go_roundw
         case rel=>exact ⟨s+1,by omega,by go_num,by rw [← E.out];exact World.cell?_setCell_same _ _ _ hcell,by simpa using hfr,hb.setCell (Nat.le_refl _) _,by simpa using hsz⟩
         case measure=>simp [intOf];omega
        ·have e:s=W:=by omega
         subst e
         have PS2:Hid (prodTo p (k+1)=Q2 * fact s):=hide (by rw [PS.out,← HQ.out,Nat.mul_assoc])
         clear hcell2 hfr2 hb2 hsz2
         go_wp2_with fail
         go_roundw
         case rel=>exact ⟨k+1,by omega,by go_num,by rw [PS2.out];exact hcell,hfr,hb,hsz⟩
         case measure=>simp [intOf];omega
  ·have e:k=3:=by omega
   subst e
   go_wp2_with fail
   go_ret
   exact ⟨rfl,hb⟩
end Go.Proofs.Ytlddmagfbcomgaa
namespace Go.Proofs.Ytlddmagfbcomgaa
open Go.RowKit
theorem zeroCells_eq {α:Type} (E:El α) (z:α) (zv:Value) (hz:zv.cells.toList=E.c z) (n:Nat):(Builtin.zeroCells zv.cells n).toList=(List.replicate n z).flatMap E.c:=by
 have h:=made_eq (E:=E) z zv hz n
 have hsz:zv.cells.size=E.sz:=by rw [← Array.length_toList,hz,E.len]
 rw [← h]
 simp [Builtin.zeroCells,madeCells,hsz]
theorem El.take {α:Type} (E:El α) (xs:List α) (i:Nat):(xs.flatMap E.c).take (i * E.sz)=(xs.take i).flatMap E.c:=by
 induction xs generalizing i with
 | nil=>simp
 | cons x xs ih =>
  cases i with
  | zero=>simp
  | succ i =>
   rw [List.flatMap_cons,List.take_succ_cons,List.flatMap_cons,List.take_append,E.len,List.take_of_length_le (by rw [E.len,Nat.add_mul];omega),
    show (i+1) * E.sz - E.sz=i * E.sz by rw [Nat.add_mul];omega,ih]
section
variable {α : Type} {E : El α} {T : TypeId}
theorem Own.cut {w:World} {base g n cap:Nat} {xs:List α} (h:Own E T w base (.slice (some ⟨g,0,none⟩) n cap) xs) {i:Nat} (hi:i≤n):Own E T w base (.slice (some ⟨g,0,none⟩) i cap) (xs.take i):=by
 have hn:=h.len
 subst hn
 unfold Own at *
 have hl:(xs.take i).length=i:=by rw [List.length_take];omega
 rcases h.2 with ⟨h1,_⟩ | ⟨g',cap',cur,h1,h2,h3,h4,h5,h6,h7⟩
 ·simp at h1
 ·simp only [Value.slice.injEq,Option.some.injEq,Addr.mk.injEq,and_true,true_and] at h1
  obtain ⟨rfl,rfl⟩:=h1
  rw [hl]
  refine ⟨by rw [E.length,hl], .inr ⟨g,cap,cur,rfl,h2,h3,by omega,h5,h6, ?_⟩⟩
  rw [← E.take,← h7,List.take_take,Nat.min_eq_left (Nat.mul_le_mul_right _ hi)]
theorem run_clear {P:Program} {w:World} {base g n cap i c':Nat} {xs:List α} (z:α) {zv:Value} {bytes:Nat} (hinfo:(P.info? T).map (fun i=>(i.zero,i.size,i.bytes))=some (some zv,E.sz,bytes)) (hz:zv.cells.toList=E.c z)
 {t ty:TypeId} (h1:P.underlying t=some (.slice T)) (hown:Own E T w base (.slice (some ⟨g,0,none⟩) n cap) xs) (hi:i < n) :
 ∃ w',(Builtin.clear_ #[t] ty #[.slice (some ⟨g,i * E.sz,none⟩) (n - i) c']).run P w = .ok (.tuple #[]) w'∧Own E T w' base (.slice (some ⟨g,0,none⟩) n cap) (xs.take i++List.replicate (n - i) z)∧w.grownBy w' (some g):=by
 have hn:=hown.len
 subst hn
 obtain ⟨it,hi1,hz0,hz1,hz2⟩:=info_parts hinfo
 rcases hown.2 with ⟨h2,_⟩ | ⟨g',cap',cur,h2,hb,hg,hnc,hcm,hcs,htake⟩
 ·simp at h2
 ·simp only [Value.slice.injEq,Option.some.injEq,Addr.mk.injEq,and_true,true_and] at h2
  obtain ⟨rfl,rfl⟩:=h2
  have hzl:(Builtin.zeroCells zv.cells (xs.length - i)).toList=(List.replicate (xs.length - i) z).flatMap E.c:=zeroCells_eq E z zv hz _
  have hlen:((List.replicate (xs.length - i) z).flatMap E.c).length=(xs.length - i) * E.sz:=by rw [E.length];simp
  have hmul:i * E.sz+(xs.length - i) * E.sz=xs.length * E.sz:=by rw [← Nat.add_mul];congr 1;omega
  have hmul2:xs.length * E.sz≤cap * E.sz:=Nat.mul_le_mul_right _ hnc
  have hst:=run_storeCells_at P g (i * E.sz) T ((List.replicate (xs.length - i) z).flatMap E.c) 0 cur w hg (by rw [hlen,hcs];omega) (fun v hv=>by
   rw [List.mem_flatMap] at hv
   obtain ⟨x,_,hx⟩:=hv
   exact E.one x v hx)
  simp only [Nat.add_zero] at hst
  refine ⟨w.setRow g (cur.toList.take (i * E.sz)++(List.replicate (xs.length - i) z).flatMap E.c++cur.toList.drop (i * E.sz+((List.replicate (xs.length - i) z).flatMap E.c).length)).toArray, ?_, ?_,⟨rfl,rfl,rfl,by simp,fun k _ hk=>setRow_other w g k _ (fun e=>hk (by simp [e]))⟩⟩
  ·have hne:xs.length - i≠0:=by omega
   obtain ⟨m,hm⟩:=Nat.exists_eq_succ_of_ne_zero hne
   rw [hm] at hst hzl ⊢
   simp only [Nat.succ_eq_add_one] at hst hzl ⊢
   simp [Builtin.clear_,run_underlying h1,zeroValue,typeInfo,hi1,hz0,hzl,hst]
  ·have hl2:(xs.take i++List.replicate (xs.length - i) z).length=xs.length:=by simp;omega
   unfold Own
   rw [hl2]
   refine ⟨by rw [E.length,hl2], .inr ⟨g,cap,_,rfl,hb,setRow_heap w g cur _ T _ hg,hnc,hcm, ?_, ?_⟩⟩
   ·simp only [List.size_toArray,List.length_append,List.length_take,List.length_drop,Array.length_toList,hlen,hcs]
    omega
   ·rw [List.flatMap_append,← E.take,← htake,List.take_take,Nat.min_eq_left (by omega)]
    rw [show xs.length * E.sz=(cur.toList.take (i * E.sz)++(List.replicate (xs.length - i) z).flatMap E.c).length by
     have hcl:cur.toList.length=cap * E.sz:=by rw [Array.length_toList,hcs]
     rw [List.length_append,hlen,List.length_take,hcl];omega]
    exact List.take_left
end
structure DelInv {α:Type} (f:α→Bool) (xs L:List α) (i j:Nat):Prop where
 take:L.take i=(xs.take j).filter fun x => !f x
 drop:L.drop j=xs.drop j
theorem filter_all {α:Type} {f:α→Bool} {xs:List α} (h:∀ x∈xs,f x=true):xs.filter f=xs:=List.filter_eq_self.2 h
theorem del_start {α:Type} {f:α→Bool} {xs:List α} {t:Nat} {x:α} (hx:xs[t]? = some x) (hf:f x=true) (hno:∀ y∈xs.take t,f y=false):DelInv f xs xs t (t+1):=by
 refine ⟨?_,rfl⟩
 rw [List.take_add_one,hx,List.filter_append,filter_all (fun y hy=>by rw [hno y hy];rfl)]
 simp [hf]
section
variable {α : Type} {f : α → Bool} {xs L : List α} {i j : Nat}
theorem DelInv.get (h:DelInv f xs L i j) {x:α} (hx:xs[j]? = some x):L[j]? = some x:=by
 have h1:(L.drop j)[0]? = (xs.drop j)[0]?:=by rw [h.drop]
 rw [List.getElem?_drop,List.getElem?_drop,Nat.add_zero] at h1
 rw [h1,hx]
theorem DelInv.keep (h:DelInv f xs L i j) (hij:i < j) {x:α} (hx:xs[j]? = some x) (hf:f x=false):DelInv f xs (L.set i x) (i+1) (j+1):=by
 have hL:=h.get hx
 have hjl:=(List.getElem?_eq_some_iff.1 hL).1
 refine ⟨?_, ?_⟩
 ·rw [List.take_add_one,List.take_add_one,hx,List.filter_append,← h.take,List.getElem?_set,if_pos rfl,if_pos (by omega)]
  rw [List.take_set_of_le (Nat.le_refl _)]
  simp [hf]
 ·rw [List.drop_set_of_lt (by omega)]
  have h1:(L.drop j).drop 1=(xs.drop j).drop 1:=by rw [h.drop]
  simpa [List.drop_drop] using h1
theorem DelInv.skip (h:DelInv f xs L i j) {x:α} (hx:xs[j]? = some x) (hf:f x=true):DelInv f xs L i (j+1):=by
 refine ⟨?_, ?_⟩
 ·rw [List.take_add_one,hx,List.filter_append,h.take];simp [hf]
 ·have h1:(L.drop j).drop 1=(xs.drop j).drop 1:=by rw [h.drop]
  simpa [List.drop_drop] using h1
theorem DelInv.done (h:DelInv f xs L i j) (hj:xs.length≤j):L.take i=xs.filter fun x => !f x:=by
 rw [h.take,List.take_of_length_le hj]
end
theorem grown_of_below {w w':World} (h:Below w.heap.size w w') (row:Option Nat):w.grownBy w' row:=⟨h.os,h.tape,h.output,h.size,fun k hk _=>h.block k hk⟩
theorem grown_trans {w w' w'':World} {row:Option Nat} (h:w.grownBy w' row) (k:w'.grownBy w'' row):w.grownBy w'' row:=
 ⟨k.os.trans h.os,k.tape.trans h.tape,k.output.trans h.output,Nat.le_trans h.size k.size,fun q hq hne=>(k.block q (Nat.lt_of_lt_of_le hq h.size) hne).trans (h.block q hq hne)⟩
def DelPost {α:Type} (E:El α) (T:TypeId) (w:World) (base:Nat) (v:Value) (ys:List α) (e:Ending) (w':World):Prop:=∃ v',e = .returned v'∧Own E T w' base v' ys∧w.grownBy w' v.ownBlock∧v'.ownBlock=v.ownBlock
theorem wpList_clear {α:Type} (E:El α) {P:Program} {w:World} {ops:Array Oper} {rest:List Oper} {o:Oper} {a:Act} {Q:Exit→Act→World→Prop}
 (T:TypeId) (z:α) {zv:Value} {bytes:Nat} (hinfo:(P.info? T).map (fun i=>(i.zero,i.size,i.bytes))=some (some zv,E.sz,bytes)) (hz:zv.cells.toList=E.c z) {t:TypeId} (h1:P.underlying t=some (.slice T))
 (base g n cap i c':Nat) (xs:List α) (hown:Own E T w base (.slice (some ⟨g,0,none⟩) n cap) xs) (hi:i < n) (hg:o.guard=none) (y:Operand)
 (hop:o.op = .call { callee:=.builtin .clear,args:=#[y],argTypes:=#[t] }) (hy:a.eval y = .slice (some ⟨g,i * E.sz,none⟩) (n - i) c')
 (hK:∀ w',Own E T w' base (.slice (some ⟨g,0,none⟩) n cap) (xs.take i++List.replicate (n - i) z)→w.grownBy w' (some g)→wpList P ops Q rest (a.put o.dst (.tuple #[])) w') :
 wpList P ops Q (o :: rest) a w:=by
 refine wpList_plain hg fun K hK' => ?_
 obtain ⟨w',hrun,r1,r2⟩:=run_clear (ty:=o.type) (c':=c') z hinfo hz h1 hown hi
 unfold Oper.wp
 simp [execOp,hop,resolve,invoke,builtin,hy,hrun,Result.andThen]
 exact hK' _ _ (hK w' r1 r2)
theorem Own2U.rowput {α:Type} {E:El α} {T1 T2:TypeId} {us:List Slc} {w w':World} {base g n cap:Nat} {p:List (List α)} (h:Own2U E T1 T2 us w base (.slice (some ⟨g,0,none⟩) n cap) p) {k:Nat} {s s':Slc} (hs:us[k]? = some s) {r':List α}
 (ho:Own E T2 w' base s'.v r') (hg:w.grownBy w' s.v.ownBlock) (hb:s'.v.ownBlock=s.v.ownBlock):Own2U E T1 T2 (us.set k s') (w'.setCell ⟨g,k,none⟩ s'.v) base (.slice (some ⟨g,0,none⟩) n cap) (p.set k r'):=by
 obtain ⟨h1,h2,h3,h4,h5⟩:=h
 have hk:=(List.getElem?_eq_some_iff.1 hs).1
 have h2':=h2.grown hg (.inr (fun e=>h5 k s hs g (by rw [← e];rfl) rfl))
 have h2s:=h2'.set (i:=k) (j:=0) s' (u:=s'.v) (by decide) hs rfl
 simp only [SlcE,Nat.mul_one,Nat.add_zero] at h2s
 have hgs:w'.grownBy (w'.setCell ⟨g,k,none⟩ s'.v) (some g):=grown_set (World.grownBy.refl _ _) _ _
 have split:∀ (i:Nat) (u:Slc),(us.set k s')[i]? = some u→(i=k∧u=s')∨(i≠k∧us[i]? = some u):=fun i u hi=>by
  rw [List.getElem?_set] at hi
  by_cases e:k=i
  ·subst e;rw [if_pos rfl,if_pos hk] at hi;simp at hi;exact .inl ⟨rfl,hi.symm⟩
  ·rw [if_neg e] at hi;exact .inr ⟨fun h=>e h.symm,hi⟩
 have blk:∀ (i:Nat) (u:Slc),(us.set k s')[i]? = some u→∃ u0:Slc,us[i]? = some u0∧u.v.ownBlock=u0.v.ownBlock:=fun i u hi=>by
  rcases split i u hi with ⟨e1,e2⟩ | ⟨_,hi'⟩
  ·exact ⟨s,by rw [e1];exact hs,by rw [e2];exact hb⟩
  ·exact ⟨u,hi',rfl⟩
 refine ⟨by simp [h1],h2s, ?_, ?_, ?_⟩
 ·intro i u r hi hr
  rcases split i u hi with ⟨e1,e2⟩ | ⟨hne,hi'⟩
  ·rw [e1,List.getElem?_set,if_pos rfl,if_pos (by omega)] at hr
   simp at hr;subst hr
   rw [e2]
   refine ho.grown hgs ?_
   rcases hq:s'.v.ownBlock with _ | q
   ·exact .inl rfl
   ·refine .inr (fun e => ?_)
    rw [hb] at hq
    exact h5 k s hs q hq (by rw [e];rfl)
  ·rw [List.getElem?_set,if_neg (fun e=>hne e.symm)] at hr
   refine ((h3 i u r hi' hr).grown hg ?_).grown hgs ?_
   ·rcases hq:u.v.ownBlock with _ | q
    ·exact .inl rfl
    ·exact .inr (fun e=>h4 i k u s hi' hs hne q hq e.symm)
   ·rcases hq:u.v.ownBlock with _ | q
    ·exact .inl rfl
    ·exact .inr (fun e=>h5 i u hi' q hq (by rw [e];rfl))
 ·intro i j u u' hi hj hij q hq hq'
  obtain ⟨u0,hu0,e0⟩:=blk i u hi
  obtain ⟨u1,hu1,e1⟩:=blk j u' hj
  exact h4 i j u0 u1 hu0 hu1 hij q (by rw [← e0];exact hq) (by rw [← e1];exact hq')
 ·intro i u hi q hq
  obtain ⟨u0,hu0,e0⟩:=blk i u hi
  exact h5 i u0 hu0 q (by rw [← e0];exact hq)
end Go.Proofs.Ytlddmagfbcomgaa
namespace Go.Proofs.Ytlddmagfbcomgaa
open Go.RowKit
structure MayCome (md:Region.Mode) (ops:Array Oper) (listed:Array Bool) (i:Nat) (o:Oper):Prop where
 op:ops[i]? = some o
 new:listed[i]? = some false
 after:∀ e∈o.after,Region.binds md e=true→listed[e.on]? = some true
theorem ready_spec {md:Region.Mode} {ops:Array Oper} {listed:Array Bool} (hs:listed.size=ops.size) {i:Nat} (h:i∈Region.ready md ops listed):∃ o,MayCome md ops listed i o:=by
 unfold Region.ready at h
 rw [List.mem_filter] at h
 obtain ⟨h1,h2⟩:=h
 rw [List.mem_range] at h1
 rw [Bool.and_eq_true] at h2
 obtain ⟨h2,h3⟩:=h2
 rw [Array.getElem?_eq_getElem h1] at h3
 refine ⟨ops[i],Array.getElem?_eq_getElem h1, ?_,fun e he hb => ?_⟩
 ·rw [Array.getElem?_eq_getElem (by omega)]
  have:listed.getD i true=listed[i]'(by omega):=by simp [Array.getD,show i < listed.size by omega]
  rw [this] at h2
  simpa using h2
 ·simp only [Option.map_some,Option.getD_some,Array.all_eq_true'] at h3
  have h4:=h3 e he
  rw [hb] at h4
  simp only [Bool.not_true,Bool.false_or] at h4
  by_cases hl:e.on < listed.size
  ·rw [Array.getElem?_eq_getElem hl]
   have:listed.getD e.on false=listed[e.on]:=by simp [Array.getD,hl]
   rw [this] at h4;rw [h4]
  ·have:listed.getD e.on false=false:=by simp [Array.getD,hl]
   rw [this] at h4;cases h4
def earlier (ops:Array Oper):Bool:=(List.range ops.size).all fun i=>(ops[i]?.map fun o=>o.after.all fun e=>decide (e.on < i)).getD true
theorem ready_nil {md:Region.Mode} {ops:Array Oper} {listed:Array Bool} (hs:listed.size=ops.size) (he:earlier ops=true) (h:Region.ready md ops listed=[]):∀ i,i < ops.size→listed[i]? = some true:=by
 intro i
 induction i using Nat.strongRecOn with
 | ind i ih =>
  intro hi
  rw [Array.getElem?_eq_getElem (by omega)]
  by_cases e:listed[i]'(by omega)=true
  ·rw [e]
  ·exfalso
   have hm:i∈Region.ready md ops listed:=by
    unfold Region.ready
    rw [List.mem_filter,List.mem_range]
    refine ⟨hi, ?_⟩
    rw [Bool.and_eq_true]
    refine ⟨?_, ?_⟩
    ·have:listed.getD i true=listed[i]'(by omega):=by simp [Array.getD,show i < listed.size by omega]
     rw [this];simpa using e
    ·rw [Array.getElem?_eq_getElem hi]
     simp only [Option.map_some,Option.getD_some,Array.all_eq_true']
     intro x hx
     unfold earlier at he
     rw [List.all_eq_true] at he
     have h1:=he i (by simpa using hi)
     rw [Array.getElem?_eq_getElem hi] at h1
     simp only [Option.map_some,Option.getD_some,Array.all_eq_true'] at h1
     have h2:=h1 x hx
     simp only [decide_eq_true_eq] at h2
     have h3:=ih x.on h2 (by omega)
     have:listed.getD x.on false=true:=by
      have hl:x.on < listed.size:=by omega
      rw [Array.getElem?_eq_getElem hl] at h3
      simp only [Option.some.injEq] at h3
      simp [Array.getD,hl,h3]
     rw [this,Bool.or_true]
   rw [h] at hm;cases hm
def falses (l:Array Bool):Nat:=l.toList.countP fun b => !b
theorem falses_set {l:Array Bool} {i:Nat} (h:l[i]? = some false):falses (l.setIfInBounds i true)+1=falses l:=by
 unfold falses
 rw [Array.toList_setIfInBounds]
 have h':l.toList[i]? = some false:=by rw [Array.getElem?_toList];exact h
 obtain ⟨h1,h2⟩:=List.getElem?_eq_some_iff.1 h'
 generalize l.toList=L at *
 clear h h' l
 induction L generalizing i with
 | nil=>simp at h1
 | cons x L ih =>
  cases i with
  | zero=>simp at h2;subst h2;simp
  | succ i =>
   simp at h1 h2
   have:=ih h1 h2
   simp only [List.set_cons_succ,List.countP_cons]
   omega
theorem falses_zero {l:Array Bool} (h:falses l=0) (i:Nat):l[i]?≠some false:=by
 intro e
 have:=falses_set e
 omega
variable {F : Fence} {n : Nat} {P : Program} {ops : Array Oper} {Q : Exit → Act → World → Prop}
end Go.Proofs.Ytlddmagfbcomgaa
namespace Go.Proofs.Ytlddmagfbcomgaa
open Go.RowKit
section
variable {P : Program} {ops : Array Oper} {Q : Exit → Act → World → Prop}
theorem wpAny_invR {md:Region.Mode} (I:Array Bool→Act→World→Prop) (he:earlier ops=true)
 (hstep:∀ (listed:Array Bool) (a:Act) (w:World),listed.size=ops.size→I listed a w→∀ (i:Nat) (o:Oper),MayCome md ops listed i o→∀ K:Act→World→Prop,(∀ a' w',I (listed.setIfInBounds i true) a' w'→K a' w') →
  if Region.wanted o (yielded ops a.tmps)=true then Oper.wp P o a w K Q else K (a.put o.dst undef) w)
 (hend:∀ (listed:Array Bool) (a:Act) (w:World),(∀ i,i < ops.size→listed[i]? = some true)→I listed a w→Q .normal a w) :
 ∀ (fuel:Nat) (listed:Array Bool) (a:Act) (w:World),listed.size=ops.size→falses listed≤fuel→I listed a w→wpAny P md ops Q fuel listed a w:=by
 intro fuel
 induction fuel with
 | zero =>
  intro listed a w hs hf hi
  have hr:Region.ready md ops listed=[]:=by
   rcases hq:Region.ready md ops listed with _ | ⟨i,rest⟩
   ·rfl
   ·exfalso
    obtain ⟨o,ho⟩:=ready_spec hs (i:=i) (by rw [hq];simp)
    exact falses_zero (by omega) i ho.new
  exact ⟨hr,hend listed a w (ready_nil hs he hr) hi⟩
 | succ fuel ih =>
  intro listed a w hs hf hi
  refine ⟨fun hr=>hend listed a w (ready_nil hs he hr) hi,fun i hm => ?_⟩
  obtain ⟨o,ho⟩:=ready_spec hs hm
  have hK:=hstep listed a w hs hi i o ho (wpAny P md ops Q fuel (listed.setIfInBounds i true)) (fun a' w' h=>ih _ a' w' (by simp [hs]) (by have:=falses_set ho.new;omega) h)
  unfold wpOp
  rw [ho.op]
  simp only
  split
  ·rename_i hw
   rw [if_pos hw] at hK
   exact .inl hK
  ·rename_i hw
   rw [if_neg hw] at hK
   exact hK
end
def putAll (a:Act):List (Tmp × Value)→Act
 | []=>a
 | (d,v) :: l=>putAll (a.put (some d) v) l
def Vd (ls:Array Bool) (k:Nat) (D:List Nat) (x v:Value):Prop:=ls[k]? = some true→(∀ d∈D,ls[d]? = some true)∧x=v
theorem ls_set {ls:Array Bool} {i j:Nat} (h:i≠j):(ls.setIfInBounds i true)[j]? = ls[j]?:=by
 rw [Array.getElem?_setIfInBounds,if_neg h]
theorem ls_got {ls:Array Bool} {i:Nat} (h:i < ls.size):(ls.setIfInBounds i true)[i]? = some true:=by
 rw [Array.getElem?_setIfInBounds,if_pos rfl,if_pos h]
theorem ls_keep {ls:Array Bool} {i j:Nat} (h:ls[j]? = some true):(ls.setIfInBounds i true)[j]? = some true:=by
 by_cases e:i=j
 ·subst e;exact ls_got (Array.getElem?_eq_some_iff.1 h).1
 ·rw [ls_set e];exact h
theorem Vd.start {n k:Nat} {D:List Nat} {x v:Value}:Vd (Array.replicate n false) k D x v:=fun h=>by
 rw [Array.getElem?_replicate] at h;split at h <;> simp at h
theorem Vd.set {ls:Array Bool} {i k:Nat} {D:List Nat} {x v:Value} (h:Vd ls k D x v) (hik:i≠k):Vd (ls.setIfInBounds i true) k D x v:=fun e=>by
 rw [ls_set hik] at e
 exact ⟨fun d hd=>ls_keep ((h e).1 d hd),(h e).2⟩
theorem Vd.same {ls:Array Bool} {k:Nat} {D:List Nat} {v:Value} (hD:∀ d∈D,ls[d]? = some true):Vd (ls.setIfInBounds k true) k D v v:=fun _=>⟨fun d hd=>ls_keep (hD d hd),rfl⟩
theorem Vd.void {ls:Array Bool} {i k:Nat} {D:List Nat} {x v v':Value} (h:Vd ls k D x v) (hd:i∈D) (hik:i≠k) (hn:ls[i]? = some false):Vd (ls.setIfInBounds i true) k D x v':=fun e=>by
 rw [ls_set hik] at e
 have:=(h e).1 i hd
 rw [hn] at this;cases this
theorem Vd.get {ls:Array Bool} {k:Nat} {D:List Nat} {x v:Value} (h:Vd ls k D x v) (e:ls[k]? = some true):x=v:=(h e).2
def fl (ls:Array Bool) (k:Nat):Bool:=ls[k]? == some true
theorem fl_start {n k:Nat}:fl (Array.replicate n false) k=false:=by
 unfold fl;rw [Array.getElem?_replicate];split <;> simp
theorem fl_set {ls:Array Bool} {i k:Nat} (h:i≠k):fl (ls.setIfInBounds i true) k=fl ls k:=by unfold fl;rw [ls_set h]
theorem fl_got {ls:Array Bool} {n k:Nat} (hs:ls.size=n+1) (h:k < n):fl (ls.setIfInBounds k true) k=true:=by unfold fl;rw [ls_got (by omega)];rfl
theorem fl_no {ls:Array Bool} {k:Nat} (h:ls[k]? = some false):fl ls k=false:=by unfold fl;rw [h];rfl
theorem fl_yes {ls:Array Bool} {k:Nat} (h:ls[k]? = some true):fl ls k=true:=by unfold fl;rw [h];rfl
end Go.Proofs.Ytlddmagfbcomgaa
namespace Go.Proofs.Ytlddmagfbcomgaa
open Go.RowKit
section
variable {P : Program} {ops : Array Oper} {Q : Exit → Act → World → Prop}
def ClosedL (ops:Array Oper) (ls:Array Bool):Prop:=∀ (i:Nat) (o:Oper),ls[i]? = some true→ops[i]? = some o→∀ e∈o.after,Region.binds .any e=true→ls[e.on]? = some true
theorem ClosedL.start (ops:Array Oper) (n:Nat):ClosedL ops (Array.replicate n false):=fun i o h=>by
 rw [Array.getElem?_replicate] at h;split at h <;> simp at h
theorem ClosedL.set {ls:Array Bool} {i:Nat} {o:Oper} (h:ClosedL ops ls) (mc:MayCome .any ops ls i o):ClosedL ops (ls.setIfInBounds i true):=by
 intro j o' hj ho e he hb
 have hk:∀ q,ls[q]? = some true→(ls.setIfInBounds i true)[q]? = some true:=fun q hq=>ls_keep hq
 by_cases hij:i=j
 ·subst hij
  rw [mc.op] at ho
  obtain rfl:=Option.some.inj ho
  exact hk _ (mc.after e he hb)
 ·rw [ls_set hij] at hj
  exact hk _ (h j o' hj ho e he hb)
def waitsAll (ops:Array Oper) (n:Nat):Bool:=(List.range n).all fun j=>(List.range (n+1)).any fun i=>decide (j < i)&&(ops[i]?.map fun o=>o.after.any fun e=>e.on==j&&Region.binds .any e).getD false
theorem waits_all {n:Nat} {ls:Array Bool} {o:Oper} (hw:waitsAll ops n=true) (hc:ClosedL ops ls) (mc:MayCome .any ops ls n o):∀ j,j < n→ls[j]? = some true:=by
 have key:∀ d j,j < n→n - j≤d→ls[j]? = some true:=by
  intro d
  induction d with
  | zero=>intro j h1 h2;omega
  | succ d ih =>
   intro j hj hd
   unfold waitsAll at hw
   rw [List.all_eq_true] at hw
   have h1:=hw j (List.mem_range.2 hj)
   rw [List.any_eq_true] at h1
   obtain ⟨i,hi,h1⟩:=h1
   rw [List.mem_range] at hi
   rw [Bool.and_eq_true,decide_eq_true_eq] at h1
   obtain ⟨hji,h1⟩:=h1
   cases ho:ops[i]? with
   | none=>rw [ho] at h1;simp at h1
   | some oi =>
    rw [ho] at h1
    simp only [Option.map_some,Option.getD_some,Array.any_eq_true'] at h1
    obtain ⟨e,he1,he2⟩:=h1
    rw [Bool.and_eq_true] at he2
    have h4:e.on=j:=by simpa using he2.1
    by_cases hin:i=n
    ·subst hin
     rw [mc.op] at ho
     obtain rfl:=Option.some.inj ho
     have h3:=mc.after e he1 he2.2
     rw [h4] at h3;exact h3
    ·have h3:=hc i oi (ih i (by omega) (by omega)) ho e he1 he2.2
     rw [h4] at h3;exact h3
 exact fun j hj=>key (n - j) j hj (Nat.le_refl _)
theorem wp_region_inv3 {id n:Nat} {a:Act} {w:World} (hm:P.follows .mixedOrders=true) (hn:ops.size=n+1) (he:earlier ops=true) (hlw:waitsAll ops n=true) (I:Act→Array Bool→Act→World→Prop)
 (h0:I a (Array.replicate (n+1) false) a w.drew)
 (hstep:∀ (ls:Array Bool) (a':Act) (w':World),ls.size=n+1→ls[n]? = some false→I a ls a' w'→∀ (i:Nat) (o:Oper),i < n→MayCome .any ops ls i o→∀ K:Act→World→Prop,(∀ a'' w'',I a (ls.setIfInBounds i true) a'' w''→K a'' w'') →
  if Region.wanted o (yielded ops a'.tmps)=true then Oper.wp P o a' w' K Q else K (a'.put o.dst undef) w')
 (hlast:∀ (ls:Array Bool) (a':Act) (w':World),(∀ i,i < n→ls[i]? = some true)→I a ls a' w'→∀ o,ops[n]? = some o →
  if Region.wanted o (yielded ops a'.tmps)=true then Oper.wp P o a' w' (fun a'' w''=>Q .normal a'' w'') Q else Q .normal (a'.put o.dst undef) w') :
 (Code.region id ops true).wp P Q a w:=by
 refine wp_region_any hm (wpAny_invR (fun ls a' w'=>ClosedL ops ls∧((ls[n]? = some false∧I a ls a' w')∨(ls[n]? = some true∧(∀ i,i < n→ls[i]? = some true)∧Q .normal a' w'))) he ?_ ?_ ops.size _ a _ (by simp) (by unfold falses;refine Nat.le_trans List.countP_le_length ?_;simp) ⟨ClosedL.start _ _, .inl ⟨by simp [hn],by rw [hn];exact h0⟩⟩)
 ·intro ls a' w' hs hI i o mc K hK
  obtain ⟨hcl,hI⟩:=hI
  have hcl2:=hcl.set mc
  rcases hI with ⟨hf,hI⟩ | ⟨ht,hal,hQ⟩
  ·by_cases hi:i=n
   ·subst hi
    have hall:∀ j,j < i→ls[j]? = some true:=waits_all hlw hcl mc
    have h:=hlast ls a' w' hall hI o mc.op
    have hset:(ls.setIfInBounds i true)[i]? = some true:=by
     rw [Array.getElem?_setIfInBounds];simp [hs,hn]
    have hall2:∀ j,j < i→(ls.setIfInBounds i true)[j]? = some true:=fun j hj=>by
     rw [Array.getElem?_setIfInBounds,if_neg (by omega)];exact hall j hj
    split
    ·rename_i hw
     rw [if_pos hw] at h
     exact Oper.wp_mono (fun a2 w2 h2=>hK a2 w2 ⟨hcl2, .inr ⟨hset,hall2,h2⟩⟩) h
    ·rename_i hw
     rw [if_neg hw] at h
     exact hK _ _ ⟨hcl2, .inr ⟨hset,hall2,h⟩⟩
   ·have hlt:i < n:=by
     have:=(Array.getElem?_eq_some_iff.1 mc.op).1
     omega
    have h:=hstep ls a' w' (by rw [hs,hn]) hf hI i o hlt mc K (fun a2 w2 h2=>hK a2 w2 ⟨hcl2, .inl ⟨by rw [Array.getElem?_setIfInBounds];simp [hi];exact hf,h2⟩⟩)
    exact h
  ·exfalso
   by_cases hi:i=n
   ·subst hi;rw [mc.new] at ht;cases ht
   ·have hlt:i < n:=by
     have:=(Array.getElem?_eq_some_iff.1 mc.op).1
     omega
    have:=hal i hlt
    rw [mc.new] at this;cases this
 ·intro ls a' w' hall hI
  rcases hI.2 with ⟨hf, -⟩ | ⟨-, -,hQ⟩
  ·have:=hall n (by omega)
   rw [hf] at this;cases this
  ·exact hQ
end
end Go.Proofs.Ytlddmagfbcomgaa
namespace Go.Proofs.Ytlddmagfbcomgaa
open Go.RowKit
def IdxOfS {α:Type} (f:α→Bool) (xs:List α) (q:Int):Prop:=(q = -1∧∀ x∈xs,f x=false)∨∃ (t:Nat) (x:α),q=t∧xs[t]? = some x∧f x=true∧∀ y∈xs.take t,f y=false
theorem none_succS {α:Type} {f:α→Bool} {xs:List α} {t:Nat} {x:α} (h:∀ y∈xs.take t,f y=false) (hx:xs[t]? = some x) (hf:f x=false):∀ y∈xs.take (t+1),f y=false:=by
 intro y hy
 rw [List.take_add_one,hx] at hy
 simp at hy
 rcases hy with hy | rfl
 ·exact h y hy
 ·exact hf
def Tests_i_DropFences_1 (f:Ins→Bool):Prop:=∀ (x:Ins) (w:World),Calls Try.prog 15 #[.agg #[.int .i64 x.op, .int .i64 x.loc, .int .i64 x.reg, .int .i64 x.val]] w fun e w'=>e = .returned (.bool (f x))∧Below w.heap.size w w'
theorem IndexFunc_i_DropFences_1 (v:Value) (xs:List Ins) (f:Ins→Bool) (w:World) (hx:Rep InsE w v xs) (hf:Tests_i_DropFences_1 f) :
 Calls Try.prog 31 #[v, .func (.func 15) #[] #[]] w fun e w'=>(∃ q:Int,e = .returned (.int .i64 q)∧IdxOfS f xs q)∧Below w.heap.size w w':=by
 obtain ⟨a,c,rfl,hc1,hc2,hc3,hx⟩:=hx.open
 have HX:=hide hx;clear hx
 have HF:=hide hf;clear hf
 generalize hn:xs.length=n at *
 have H:=hide hn;clear hn
 go_enter Try.func31,Try.ntmps31
 go_wp2_with fail
 go_loopw [8] (fun i wr => ∃ t:Nat,t≤n∧i = .int .i64 t∧Hid (∀ x∈xs.take t,f x=false)∧Below w.heap.size w wr) (fun i _=>n - (intOf i).toNat)
 case atStart=>exact ⟨0,Nat.zero_le _,rfl,hide (by simp),Below.refl _ _⟩
 case round =>
  obtain ⟨t,ht,rfl,hno,hb⟩:=hrel
  by_cases hlt:t < n
  ·obtain ⟨x,hxk⟩:=get_of_lt (xs:=xs) (k:=t) (by rw [H.out];exact hlt)
   obtain ⟨b,o,rfl,hbl,i0,i1,i2,i3⟩:=(HX.out.below hb).ins hxk
   have hlt':=nat_of_lt hlt
   have X:=hide hxk;clear hxk
   generalize hfx:f x=fx
   have FX:=hide hfx;clear hfx
   have hcall:=HF.out x
   rw [FX.out] at hcall
   have HC:=hide hcall;clear hcall
   cases fx
   ·have NO:Hid (∀ x∈xs.take (t+1),f x=false):=hide (none_succS hno.out X.out FX.out)
    go_wp2_with fail
    (with_reducible refine (HC.out _).mono ?_);rintro e w2 ⟨rfl,hb2⟩
    go_wp2_with fail
    go_roundw
    case rel=>exact ⟨t+1,by omega,by go_num,NO,hb.trans (hb2.mono hb.size)⟩
    case measure=>simp [intOf];omega
   ·go_wp2_with fail
    (with_reducible refine (HC.out _).mono ?_);rintro e w2 ⟨rfl,hb2⟩
    go_wp2_with fail
    go_ret
    exact ⟨⟨_,rfl, .inr ⟨t,x,rfl,X.out,FX.out,hno.out⟩⟩,hb.trans (hb2.mono hb.size)⟩
  ·go_wp2_with fail
   go_ret
   refine ⟨⟨_,rfl, .inl ⟨rfl, ?_⟩⟩,hb⟩
   have h:=hno.out
   rwa [List.take_of_length_le (by rw [H.out];omega)] at h
theorem DeleteFunc_i_DropFences_1 (v:Value) (xs:List Ins) (f:Ins→Bool) (w:World) (base:Nat) (hx:Own InsE 38 w base v xs) (hl:xs.length≤1048576) (hf:Tests_i_DropFences_1 f) :
 Calls Try.prog 14 #[v, .func (.func 15) #[] #[]] w fun e w'=>DelPost InsE 38 w base v (xs.filter fun x => !f x) e w':=by
 have DP:Hid (∀ v' w',Own InsE 38 w' base v' (xs.filter fun x => !f x)→w.grownBy w' v.ownBlock→v'.ownBlock=v.ownBlock→DelPost InsE 38 w base v (xs.filter fun x => !f x) (.returned v') w'):=hide (fun v' w' h1 h2 h3=>⟨v',rfl,h1,h2,h3⟩)
 have HF:=hide hf;clear hf
 have HX:=hide hx;clear hx
 have HI:=hide (fun w' h=>IndexFunc_i_DropFences_1 v xs f w' h HF.out)
 generalize hG:(xs.filter fun x => !f x)=G at *
 have HG:=hide hG;clear hG
 go_enter Try.func14,Try.ntmps14
 go_wp2_with fail
 (with_reducible refine (HI.out w HX.out.rep).mono ?_);rintro e w1 ⟨⟨q,rfl,hq⟩,hb1⟩
 have HX1:=hide (HX.out.below hb1)
 have hg1:=grown_of_below hb1 v.ownBlock
 rcases hq with ⟨rfl,hno⟩ | ⟨t,x0,rfl,ht,hft,hno⟩
 ·have e1:G=xs:=by rw [← HG.out];exact filter_all (fun x h=>by rw [hno x h];rfl)
  have HE:=hide e1;clear e1 hno
  go_wp2_with fail
  go_ret
  exact DP.out _ _ (by rw [HE.out];exact HX1.out) hg1 rfl
 ·rcases HX.out.shape with ⟨-,rfl⟩ | ⟨g,c,rfl,hg,hgl,hc1,hc2⟩
  ·simp at ht
  ·have htl:=(List.getElem?_eq_some_iff.1 ht).1
   have hstart:=del_start ht hft hno
   have ST:=hide hstart;clear hstart ht hft hno
   generalize hn:xs.length=n at *
   have H:=hide hn;clear hn
   have htl':=nat_of_lt htl
   have hm1:((t:Int) == -1)=false:=by rw [beq_eq_false_iff_ne];omega
   go_wp2_with fail
   go_loopw [5,6] (fun si sj wr => ∃ (i j:Nat) (L:List Ins),i < j∧j≤n∧si = .int .i64 i∧sj = .int .i64 j∧Own InsE 38 wr base (.slice (some ⟨g,0,none⟩) n c) L∧Hid (DelInv f xs L i j)∧w.grownBy wr (some g)) (fun _ sj _=>n - (intOf sj).toNat)
   case atStart=>exact ⟨t,t+1,xs,by omega,by omega,rfl,rfl,HX1.out,hide ST.out,hg1⟩
   case round =>
    obtain ⟨i,j,L,hij,hj,rfl,rfl,ho,hI,hgr⟩:=hrel
    have hLl:L.length=n:=ho.len.symm
    have HLL:=hide hLl;clear hLl
    by_cases hlt:j < n
    ·obtain ⟨x,hxk⟩:=get_of_lt (xs:=xs) (k:=j) (by rw [H.out];exact hlt)
     have hLj:=hI.out.get hxk
     obtain ⟨y,hyi⟩:=get_of_lt (xs:=L) (k:=i) (by rw [HLL.out];omega)
     obtain ⟨-,m0,m1,m2,m3, -⟩:=ho.ins hyi
     obtain ⟨hgl2,j0,j1,j2,j3,hfr⟩:=ho.ins hLj
     have hset:=ho.setIns hyi x
     have hlt':=nat_of_lt hlt
     have hij':=nat_of_lt hij
     have X:=hide hxk;have SET:=hide hset;have YI:=hide hyi;have LJ:=hide hLj
     clear hxk hset hyi hLj
     have hcall:=HF.out x
     generalize hfx:f x=fx at *
     have FX:=hide hfx;have HC:=hide hcall
     clear hfx hcall
     cases fx
     ·have KEEP:=hide (hI.out.keep hij X.out FX.out)
      go_wp2_with fail
      (with_reducible refine (HC.out _).mono ?_);rintro e w2 ⟨rfl,hb2⟩
      obtain ⟨hc2,hf2⟩:=bcell hb2
      have hsz2:wr.heap.size+1≤w2.heap.size:=by have:=hb2.size;simp at this;omega
      have hset2:=(ho.alloc (.cells #[.int .i64 x.op, .int .i64 x.loc, .int .i64 x.reg, .int .i64 x.val] 38)).below hb2
      have hset3:=hset2.setIns YI.out x
      have S3:=hide hset3;clear hset2 hset3
      have hgr2:=grown_trans hgr (grown_trans (World.grownBy_alloc wr (.cells #[.int .i64 x.op, .int .i64 x.loc, .int .i64 x.reg, .int .i64 x.val] 38) (some g)) (grown_of_below hb2 (some g)))
      go_wp2_with fail
      go_roundw
      case rel=>exact ⟨i+1,j+1,L.set i x,by omega,by omega,by go_num,by go_num,S3.out,hide KEEP.out,grown_set (grown_set (grown_set (grown_set hgr2 _ _) _ _) _ _) _ _⟩
      case measure=>simp [intOf];omega
     ·have SKIP:=hide (hI.out.skip X.out FX.out)
      go_wp2_with fail
      (with_reducible refine (HC.out _).mono ?_);rintro e w2 ⟨rfl,hb2⟩
      have hset2:=(ho.alloc (.cells #[.int .i64 x.op, .int .i64 x.loc, .int .i64 x.reg, .int .i64 x.val] 38)).below hb2
      have hgr2:=grown_trans hgr (grown_trans (World.grownBy_alloc wr (.cells #[.int .i64 x.op, .int .i64 x.loc, .int .i64 x.reg, .int .i64 x.val] 38) (some g)) (grown_of_below hb2 (some g)))
      go_wp2_with fail
      go_roundw
      case rel=>exact ⟨i,j+1,L,by omega,by omega,rfl,by go_num,hset2,hide SKIP.out,hgr2⟩
      case measure=>simp [intOf];omega
    ·have e:j=n:=by omega
     subst e
     have hin:=hij
     have hin':=nat_of_lt hij
     have hic:i≤c:=by omega
     have DONE:=hide (hI.out.done (by rw [H.out];exact Nat.le_refl _))
     go_wp2_with (refine wpList_clear InsE 38 ⟨0,0,0,0⟩ Try.infoIns rfl Try.underlying35 base g _ c i _ L ho hin rfl _ rfl rfl ?_;intro w3 ho3 hgr3)
     go_ret
     have hcut:=ho3.cut (i:=i) (by omega)
     have hLi:(L.take i).length=i:=by rw [List.length_take,HLL.out];omega
     rw [List.take_append_of_le_length (by omega),List.take_take,Nat.min_self,DONE.out,HG.out] at hcut
     exact DP.out _ _ hcut (grown_trans hgr hgr3) rfl
end Go.Proofs.Ytlddmagfbcomgaa
namespace Go.Proofs.Ytlddmagfbcomgaa
open Go.RowKit
theorem EqualI_any (v v':Value) (xs ys:List Ins) (w:World) (hx:Rep InsE w v xs) (hy:Rep InsE w v' ys) :
 Calls Try.prog 20 #[v,v'] w fun e w'=>e = .returned (.bool (decide (xs=ys)))∧Below w.heap.size w w':=by
 obtain ⟨a,c,rfl,hc1,hc2,hc3,hx⟩:=hx.open
 obtain ⟨a',c',rfl,hc1',hc2',hc3',hy⟩:=hy.open
 have HX:=hide hx;clear hx
 have HY:=hide hy;clear hy
 generalize hn:xs.length=n at *
 generalize hn':ys.length=n' at *
 have H:=hide hn;clear hn
 have H':=hide hn';clear hn'
 by_cases hc:n=n'
 ·subst hc
  have hc':((n:Int) != n)=false:=by simp
  go_enter Try.func20,Try.ntmps20
  go_wp2_with fail
  go_loopw [13] (fun v wr => ∃ k:Nat,k≤n∧v = .int .i64 k∧Hid (xs.take k=ys.take k)∧Below w.heap.size w wr) (fun v _=>n - (intOf v).toNat)
  case atStart=>exact ⟨0,Nat.zero_le _,rfl,hide (by simp),Below.refl _ _⟩
  case round =>
   obtain ⟨k,hk,rfl,T,hb⟩:=hrel
   by_cases hlt:k < n
   ·obtain ⟨x,hxk⟩:=get_of_lt (xs:=xs) (k:=k) (by rw [H.out];exact hlt)
    obtain ⟨y,hyk⟩:=get_of_lt (xs:=ys) (k:=k) (by rw [H'.out];exact hlt)
    obtain ⟨b,o,rfl,hbl,i0,i1,i2,i3⟩:=(HX.out.below hb).ins hxk
    obtain ⟨b',o',rfl,hbl',j0,j1,j2,j3⟩:=(HY.out.below hb).ins hyk
    have hlt':=nat_of_lt hlt
    have X:=hide hxk;clear hxk
    have Y:=hide hyk;clear hyk
    obtain ⟨x0,x1,x2,x3⟩:=x
    obtain ⟨y0,y1,y2,y3⟩:=y
    simp only at i0 i1 i2 i3 j0 j1 j2 j3
    by_cases hxy:x0=y0∧x1=y1∧x2=y2∧x3=y3
    ·obtain ⟨rfl,rfl,rfl,rfl⟩:=hxy
     have T':=hide (take_eq_succ T.out X.out Y.out rfl)
     go_wp2_with fail
     refine wp_region_bw (by kernel_rfl) (by kernel_rfl) ?_
     repeat (go_big_quiet_step (fail))
     refine wpQuiet_nil ?_
     intro w1 hb1
     have hb2:=hb.trans (hb1.mono hb.size)
     go_wp2_with fail
     go_roundw
     case rel=>exact ⟨k+1,by omega,by go_num,T',hb2⟩
     case measure=>simp [intOf];omega
    ·have hq:=ne_of_get X.out Y.out (fun e=>hxy (by simpa using e))
     by_cases h0:x0=y0
     case neg =>
      have g0:(x0==y0)=false:=by simp [h0]
      clear hxy
      go_wp2_with fail
      refine wp_region_bw (by kernel_rfl) (by kernel_rfl) ?_
      repeat (go_big_quiet_step (fail))
      refine wpQuiet_nil ?_
      intro w1 hb1
      have hb2:=hb.trans (hb1.mono hb.size)
      go_wp2_with fail
      go_ret
      exact ⟨by simp [hq],hb2⟩
     subst h0
     by_cases h1:x1=y1
     case neg =>
      have g1:(x1==y1)=false:=by simp [h1]
      clear hxy
      go_wp2_with fail
      refine wp_region_bw (by kernel_rfl) (by kernel_rfl) ?_
      repeat (go_big_quiet_step (fail))
      refine wpQuiet_nil ?_
      intro w1 hb1
      have hb2:=hb.trans (hb1.mono hb.size)
      go_wp2_with fail
      go_ret
      exact ⟨by simp [hq],hb2⟩
     subst h1
     by_cases h2:x2=y2
     case neg =>
      have g2:(x2==y2)=false:=by simp [h2]
      clear hxy
      go_wp2_with fail
      refine wp_region_bw (by kernel_rfl) (by kernel_rfl) ?_
      repeat (go_big_quiet_step (fail))
      refine wpQuiet_nil ?_
      intro w1 hb1
      have hb2:=hb.trans (hb1.mono hb.size)
      go_wp2_with fail
      go_ret
      exact ⟨by simp [hq],hb2⟩
     subst h2
     have h3:¬ x3=y3:=fun e=>hxy ⟨rfl,rfl,rfl,e⟩
     have g3:(x3==y3)=false:=by simp [h3]
     clear hxy
     go_wp2_with fail
     refine wp_region_bw (by kernel_rfl) (by kernel_rfl) ?_
     repeat (go_big_quiet_step (fail))
     refine wpQuiet_nil ?_
     intro w1 hb1
     have hb2:=hb.trans (hb1.mono hb.size)
     go_wp2_with fail
     go_ret
     exact ⟨by simp [hq],hb2⟩
   ·have e2:xs=ys:=take_all_eq T.out (by rw [H.out];omega) (by rw [H'.out];omega)
    subst e2
    go_wp2_with fail
    go_ret
    exact ⟨by simp,hb⟩
 ·have hc':((n:Int) != n')=true:=by simp;omega
  have hq:xs≠ys:=fun h=>hc (by rw [← H.out,← H'.out,h])
  go_enter Try.func20,Try.ntmps20
  go_wp2_with fail
  go_ret
  exact ⟨by simp [hq],Below.refl _ _⟩
theorem sameRow_any (v v':Value) (xs ys:List Ins) (w:World) (hx:Rep InsE w v xs) (hy:Rep InsE w v' ys) :
 Calls Try.prog 19 #[v,v'] w fun e w'=>e = .returned (.bool (decide (xs=ys)))∧Below w.heap.size w w':=by
 go_enter Try.func19,Try.ntmps19
 go_wp2_with fail
 (with_reducible refine (EqualI_any v v' xs ys _ hx hy).mono ?_);rintro e w1 ⟨rfl,hb1⟩
 go_wp2_with fail
 go_ret
 exact ⟨rfl,hb1⟩
theorem EqualFuncP_any (v v':Value) (xs ys:List (List Ins)) (w:World) (hx:RepP w v xs) (hy:RepP w v' ys) :
 Calls Try.prog 18 #[v,v', .func (.func 19) #[] #[]] w fun e w'=>e = .returned (.bool (decide (xs=ys)))∧Below w.heap.size w w':=by
 obtain ⟨a,c,rfl,hc1,hc2,hc3,hx⟩:=hx.open
 obtain ⟨a',c',rfl,hc1',hc2',hc3',hy⟩:=hy.open
 have HX:=hide hx;clear hx
 have HY:=hide hy;clear hy
 generalize hn:xs.length=n at *
 generalize hn':ys.length=n' at *
 have H:=hide hn;clear hn
 have H':=hide hn';clear hn'
 by_cases hc:n=n'
 ·subst hc
  have hc':((n:Int) != n)=false:=by simp
  go_enter Try.func18,Try.ntmps18
  go_wp2_with fail
  go_loopw [17] (fun v wr => ∃ k:Nat,k≤n∧v = .int .i64 k∧Hid (xs.take k=ys.take k)∧Below w.heap.size w wr) (fun v _=>n - (intOf v).toNat)
  case atStart=>exact ⟨0,Nat.zero_le _,rfl,hide (by simp),Below.refl _ _⟩
  case round =>
   obtain ⟨k,hk,rfl,T,hb⟩:=hrel
   by_cases hlt:k < n
   ·obtain ⟨x,hxk⟩:=get_of_lt (xs:=xs) (k:=k) (by rw [H.out];exact hlt)
    obtain ⟨y,hyk⟩:=get_of_lt (xs:=ys) (k:=k) (by rw [H'.out];exact hlt)
    obtain ⟨b,o,ra,rc,rfl,hbl,i0,i1⟩:=(HX.out.below hb).row hxk
    obtain ⟨b',o',ra',rc',rfl,hbl',j0,j1⟩:=(HY.out.below hb).row hyk
    have hlt':=nat_of_lt hlt
    have X:=hide hxk;clear hxk
    have Y:=hide hyk;clear hyk
    have HC:=hide (sameRow_any _ _ x y _ i1 j1)
    clear i1 j1
    go_wp2_with fail
    (with_reducible refine HC.out.mono ?_);rintro e w1 ⟨rfl,hb1⟩
    have hb2:=hb.trans (hb1.mono hb.size)
    clear HC
    generalize hd:decide (x=y)=d
    cases d
    ·have hq:=ne_of_get X.out Y.out (of_decide_eq_false hd)
     clear hd
     go_wp2_with fail
     go_ret
     exact ⟨by simp [hq],hb2⟩
    ·have T':=hide (take_eq_succ T.out X.out Y.out (of_decide_eq_true hd))
     clear hd
     go_wp2_with fail
     go_roundw
     case rel=>exact ⟨k+1,by omega,by go_num,T',hb2⟩
     case measure=>simp [intOf];omega
   ·have e2:xs=ys:=take_all_eq T.out (by rw [H.out];omega) (by rw [H'.out];omega)
    subst e2
    go_wp2_with fail
    go_ret
    exact ⟨by simp,hb⟩
 ·have hc':((n:Int) != n')=true:=by simp;omega
  have hq:xs≠ys:=fun h=>hc (by rw [← H.out,← H'.out,h])
  go_enter Try.func18,Try.ntmps18
  go_wp2_with fail
  go_ret
  exact ⟨by simp [hq],Below.refl _ _⟩
theorem ProgramSame_any (v v':Value) (xs ys:List (List Ins)) (w:World) (hx:RepP w v xs) (hy:RepP w v' ys) :
 Calls Try.prog 7 #[v,v'] w fun e w'=>e = .returned (.bool (decide (xs=ys)))∧Below w.heap.size w w':=by
 go_enter Try.func7,Try.ntmps7
 go_wp2_with fail
 (with_reducible refine (EqualFuncP_any v v' xs ys _ hx hy).mono ?_);rintro e w1 ⟨rfl,hb1⟩
 go_wp2_with fail
 go_ret
 exact ⟨rfl,hb1⟩
end Go.Proofs.Ytlddmagfbcomgaa