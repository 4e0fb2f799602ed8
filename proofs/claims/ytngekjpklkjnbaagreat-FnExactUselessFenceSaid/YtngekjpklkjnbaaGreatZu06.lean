/-
  Whether outcomes are among others, by the reference. No condition.
-/
import Derived.Test.YtngekjpklkjnbaaGreatZu02
import Derived.Test.YtngekjpklkjnbaaGreatZu03
import Derived.Deep.RegionHeld3
import Derived.Deep.DeepCutAuto
import Derived.Test.YtngekjpklkjnbaaGreatZu05
import Derived.Test.YtngekjpklkjnbaaGreatZu04
set_option maxHeartbeats 6400000
set_option maxRecDepth 100000
namespace Go.Proofs.YtngekjpklkjnbaaGreat
open Go.RowKit
theorem FN (b:Nat) (a:Option Addr) (c:Nat) (xs:List Int) (p:Int) (y0 y1 y2:Int) (w':World) (G:Nat) (hG:w'.heap.size=G) (hb:b < G) (h:Rd (w'.alloc (.cells #[.int .i64 y0,.int .i64 y1,.int .i64 y2] 3)) b a c xs p) (hp:p≤1000000000) :
 Calls Tryz.prog 100 #[.pointer (some ⟨b,0,none⟩),.slice (some ⟨G,0,none⟩) 3 3] (w'.alloc (.cells #[.int .i64 y0,.int .i64 y1,.int .i64 y2] 3)) (QL (w'.alloc (.cells #[.int .i64 y0,.int .i64 y1,.int .i64 y2] 3)) b a c xs p 1 (K7 [y0,y1,y2])):=by
 subst hG;exact GY b a c xs p (Value.slice (some (Addr.mk w'.heap.size 0 none)) 3 3) [y0,y1,y2] _ h hp (CH w' [y0,y1,y2] 3 Sm) Sm Sm (by intro g o e;simp at e;omega)
theorem FP (b:Nat) (a:Option Addr) (c:Nat) (xs:List Int) (p:Int) (y0 y1 y2 y3 y4:Int) (w':World) (G:Nat) (hG:w'.heap.size=G) (hb:b < G) (h:Rd (w'.alloc (.cells #[.int .i64 y0,.int .i64 y1,.int .i64 y2,.int .i64 y3,.int .i64 y4] 3)) b a c xs p) (hp:p≤1000000000) :
 Calls Tryz.prog 100 #[.pointer (some ⟨b,0,none⟩),.slice (some ⟨G,0,none⟩) 5 5] (w'.alloc (.cells #[.int .i64 y0,.int .i64 y1,.int .i64 y2,.int .i64 y3,.int .i64 y4] 3)) (QL (w'.alloc (.cells #[.int .i64 y0,.int .i64 y1,.int .i64 y2,.int .i64 y3,.int .i64 y4] 3)) b a c xs p 1 (K7 [y0,y1,y2,y3,y4])):=by
 subst hG;exact GY b a c xs p (Value.slice (some (Addr.mk w'.heap.size 0 none)) 5 5) [y0,y1,y2,y3,y4] _ h hp (CH w' [y0,y1,y2,y3,y4] 3 Sm) Sm Sm (by intro g o e;simp at e;omega)
def F6 (w:World) (e:Ending) (w':World):Prop:=∃ (B:Nat) (a:Option Addr) (c:Nat) (xs:List Int),e = .returned (.pointer (some ⟨B,0,none⟩))∧Rd w' B a c xs 0∧w.heap.size≤B∧Below w.heap.size w w'
theorem Z7.take {w:World}{a:Option Addr}{n c:Nat}{xs:List Int}(h:Z7 Zr w (.slice a n c) xs) {k:Nat}(hk:k≤xs.length):Z7 Zr w (.slice a k c) (xs.take k):=by
 obtain⟨a',c',hv,h1,h2,h3⟩:=h;simp only[Value.slice.injEq]at hv;obtain⟨rfl,rfl,rfl⟩:=hv;refine⟨a,c,by rw[List.length_take,Nat.min_eq_left hk],by rw[List.length_take];omega,h2,fun i x hx => ?_⟩;rw[List.getElem?_take]at hx;split at hx
 ·exact h3 i x hx
 ·cases hx
theorem EN {w:World}{a:Option Addr}{n c:Nat}{xs:List Int}(h:Z7 Zr w (.slice a n c) xs) (g o:Nat) (hne:xs≠[]) (e:a=some ⟨g,o,none⟩):g < w.heap.size:=by
 cases xs with
 | nil=>exact absurd rfl hne
 | cons x xs =>
  obtain⟨b,o',hb,hlt,-⟩:=h.byte (k:=0) (x:=x) rfl;rw[e]at hb;simp only[Option.some.injEq,Addr.mk.injEq,and_true]at hb;omega
theorem Av (v:Value) (xs:List Int) (w:World) (hx:Z7 Zr w v xs) (hb:∀ x∈xs,0≤x∧x≤255) :
 Calls Tryz.prog 76 #[v] w (F6 w):=by
 obtain⟨a,c,rfl,hc1,hc2,hc3,hx⟩:=hx.open;have HX:=Za hx;clear hx;by_cases hl:xs.length > 2000
 ·have hT:=Za (HX.out.take (k:=2000) Om)
  have hlt:(2000:Int) < (xs.length:Int):=Om;have hc4:2000≤c:=Om;have htl:(xs.take 2000).length=2000:=by rw[List.length_take];omega
  have HTL:=Za htl;clear htl;generalize hn:xs.length=n at *;clear hn;go_enter Tryz.func76,Tryz.ntmps76;go_wp2_with fail;go_ret;have h2:Rd (w.alloc (.cells #[.slice a 2000 c,.int .i64 0] 111)) w.heap.size a c (xs.take 2000) 0:=
   ⟨Sm,by rw[HTL.out];simp[go_sem],by simp[go_sem],by simp[go_sem],by rw[HTL.out];exact hT.out.below ((Below.refl _ _).alloc (Nat.le_refl _) _),fun g o hne e=>EN hT.out g o hne e,fun x hx=>hb x (List.mem_of_mem_take hx),Om⟩
  exact⟨w.heap.size,a,c,_,rfl,h2,Nat.le_refl _,(Below.refl _ _).alloc (Nat.le_refl _) _⟩
 ·have hge:decide ((xs.length:Int) > 2000)=false:=decide_eq_false Om
  clear hl;have HXR:=Za (fun g o hne e=>EN HX.out g o hne e);generalize hn:xs.length=n at *;have H:=Za hn;clear hn;go_enter Tryz.func76,Tryz.ntmps76;go_wp2_with fail;go_ret;have h2:Rd (w.alloc (.cells #[.slice a n c,.int .i64 0] 111)) w.heap.size a c xs 0:=
   ⟨Sm,by rw[H.out];simp[go_sem],by simp[go_sem],by simp[go_sem],by rw[H.out];exact HX.out.below ((Below.refl _ _).alloc (Nat.le_refl _) _),HXR.out,hb,Om⟩
  exact⟨w.heap.size,a,c,_,rfl,h2,Nat.le_refl _,(Below.refl _ _).alloc (Nat.le_refl _) _⟩
theorem Qt {b:Nat}{w w':World}{B:Nat}(h:Outside b (b+1) w w') (hB:B≤b) (hB2:B≤w.heap.size):Below B w w':=h.below hB hB2
theorem Dt (v u:Value) (p:List (List Int)) (q:List Int) (w:World) (hp:KA w v p) (hq:Z7 Zo w u q) :
 Calls Tryz.prog 65 #[v,u] w fun e w'=>e = .returned (.bool (JD p q))∧Below w.heap.size w w':=by
 obtain⟨a,c,rfl,hc1,hc2,hc3,hp⟩:=hp.open;obtain⟨a',c',rfl,hc1',hc2',hc3',hq⟩:=hq.open;have HP:=Za hp;clear hp;have HQ:=Za hq;clear hq;have HN:Hid (JD p q=p.any fun x=>decide (x=q)):=Za rfl;generalize hR:JD p q=R at *;clear hR;generalize hn:p.length=n at *;have H:=Za hn;clear hn;generalize hm:q.length=m at *;have HM:=Za hm;clear hm;go_enter Tryz.func65,Tryz.ntmps65;go_wp2_with fail
 go_loopw [5] (fun i wr => ∃ k:Nat,k≤n∧i = .int .i64 k∧Hid ((p.take k).any (fun x=>decide (x=q))=false)∧Below w.heap.size w wr) (fun i _=>n - (intOf i).toNat)
 case atStart=>exact⟨0,Nat.zero_le _,rfl,Za Sm,Below.refl _ _⟩
 case round =>
  obtain⟨k,hk,rfl,T,hb⟩:=hrel;by_cases hlt:k < n
  ·have hlt1:=Zh hlt
   obtain⟨x,hxk⟩:=Zd (xs:=p) (k:=k) (by rw[H.out];exact hlt);obtain⟨b,o,ra,rc,rfl,hbl,i0,i1⟩:=(HP.out.below hb).row hxk;have X:=Za hxk;have I1:=Za i1
   clear hxk i1;by_cases hl:x.length=m
   ·have hl':((x.length:Int)==m)=true:=by simp[hl]
    have HZ:=Za (E7 (a:=x) (b:=q) (by rw[hl,HM.out]));have I1':Hid (Z7 Zo wr (.slice ra m rc) x):=Za (by rw[← hl];exact I1.out);rw[hl]at i0 hl';clear hl I1;by_cases hxq:x=q
    ·have E:Hid (R=true):=Za (by rw[HN.out];exact Vx X.out (by simp[hxq]))
     have hz:Ub x q=0:=HZ.out.2 hxq;have HC:=Za (JE _ _ x q wr I1'.out (HQ.out.below hb));generalize Ub x q=z at *;subst hz;clear hxq;go_wp2_with (go_at_call 94;(with_reducible refine HC.out.mono ?_);rintro e w1 ⟨rfl,hb1⟩);go_ret;rw[E.out];exact⟨rfl,hb.trans (hb1.mono hb.size)⟩
    ·have T2:=Za (Ql T.out X.out (by simp[hxq]))
     have hz:¬ Ub x q=0:=fun h=>hxq (HZ.out.1 h);have HC:=Za (JE _ _ x q wr I1'.out (HQ.out.below hb));generalize Ub x q=z at *;have hz':(z==0)=false:=by simpa using hz
     clear hxq hz;go_wp2_with (go_at_call 94;(with_reducible refine HC.out.mono ?_);rintro e w1 ⟨rfl,hb1⟩);go_roundw
     case rel=>exact⟨k+1,Om,Gn,T2,hb.trans (hb1.mono hb.size)⟩
     case measure=>simp[intOf];omega
   ·have hl':((x.length:Int)==m)=false:=So
    have T2:=Za (Ql T.out X.out (by simp;intro h;exact hl (by rw[h,HM.out])));clear hl;go_wp2_with fail;go_roundw
    case rel=>exact⟨k+1,Om,Gn,T2,hb⟩
    case measure=>simp[intOf];omega
  ·have E:Hid (R=false):=Za (by have h:=T.out;rwa[List.take_of_length_le (by rw[H.out];omega),← HN.out]at h)
   go_wp2_with fail;go_ret;rw[E.out];exact⟨rfl,hb⟩
theorem GQ (v u:Value) (p q:List (List Int)) (w:World) (hp:KA w v p) (hq:KA w u q) :
 Calls Tryz.prog 32 #[v,u] w fun e w'=>e = .returned (.bool (Ut p q))∧Below w.heap.size w w':=by
 obtain⟨a,c,rfl,hc1,hc2,hc3,hp⟩:=hp.open;have HP:=Za hp;clear hp;have HQ:=Za hq;clear hq;have HN:Hid (Ut p q=p.all fun x=>JD q x):=Za rfl;generalize hR:Ut p q=R at *;clear hR;generalize hn:p.length=n at *;have H:=Za hn;clear hn;go_enter Tryz.func32,Tryz.ntmps32;go_wp2_with fail
 go_loopw [5] (fun i wr => ∃ k:Nat,k≤n∧i = .int .i64 k∧Hid ((p.take k).all (fun x=>JD q x)=true)∧Below w.heap.size w wr) (fun i _=>n - (intOf i).toNat)
 case atStart=>exact⟨0,Nat.zero_le _,rfl,Za Sm,Below.refl _ _⟩
 case round =>
  obtain⟨k,hk,rfl,T,hb⟩:=hrel;by_cases hlt:k < n
  ·have hlt1:=Zh hlt
   obtain⟨x,hxk⟩:=Zd (xs:=p) (k:=k) (by rw[H.out];exact hlt);obtain⟨b,o,ra,rc,rfl,hbl,i0,i1⟩:=(HP.out.below hb).row hxk;have X:=Za hxk;have I1:=Za i1
   clear hxk i1;have HC:=Za (Dt u _ q x wr (HQ.out.below hb) I1.out);generalize hz:JD q x=z at *;have Z:=Za hz;clear hz;cases z
   ·have E:Hid (R=false):=Za (by rw[HN.out];exact Vw X.out Z.out)
    go_wp2_with (go_at_call 65;(with_reducible refine HC.out.mono ?_);rintro e w1 ⟨rfl,hb1⟩);go_ret;rw[E.out];exact⟨rfl,hb.trans (hb1.mono hb.size)⟩
   ·have T2:=Za (QX T.out X.out Z.out)
    go_wp2_with (go_at_call 65;(with_reducible refine HC.out.mono ?_);rintro e w1 ⟨rfl,hb1⟩);go_roundw
    case rel=>exact⟨k+1,Om,Gn,T2,hb.trans (hb1.mono hb.size)⟩
    case measure=>simp[intOf];omega
  ·have E:Hid (R=true):=Za (by have h:=T.out;rwa[List.take_of_length_le (by rw[H.out];omega),← HN.out]at h)
   go_wp2_with fail;go_ret;rw[E.out];exact⟨rfl,hb⟩
end Go.Proofs.YtngekjpklkjnbaaGreat