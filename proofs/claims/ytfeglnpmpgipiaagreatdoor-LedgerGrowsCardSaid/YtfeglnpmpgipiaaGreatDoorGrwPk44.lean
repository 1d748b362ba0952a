/- GrwPk, part 44: LedSameW. -/
import Derived.Test.YtfeglnpmpgipiaaGreatDoorGrwPk15
import Derived.Test.YtfeglnpmpgipiaaGreatDoorGrwPk23
import Derived.Test.YtfeglnpmpgipiaaGreatDoorGrwPk42
set_option linter.unusedVariables false
set_option maxRecDepth 100000
set_option linter.unusedSimpArgs false
namespace Go.Proofs.YtfeglnpmpgipiaaGreatDoor
section
open Go.RowKit
set_option maxHeartbeats 8000000 in
theorem zEw (w0:World) (p q:Option Addr) (n k c d:Nat) (xs ys:List Int) (hl:xs.length=n) (hl2:ys.length=k) (hn:n≤4611686018427387904) (hp:Rd w0 p (jU xs)) (hq:Rd w0 q (jU ys)) :
  Calls Tryz.prog 115 #[.slice p n c,.slice q k d] w0 fun e w'=>e=.returned (.bool (decide (xs=ys)))∧Only [] w0 w':=by
 have Hp:=Lib.hid hp;have Hq:=Lib.hid hq;obtain ⟨D,hD⟩:∃ D,decide (xs=ys)=D:=⟨_,rfl⟩;rw [hD];have HD:=Lib.hid hD
 by_cases hnk:n=k
 rotate_left
 ·have HF:Hid (D=false):=Lib.hid (by rw [← hD];exact decide_eq_false (fun e=>hnk (by rw [← hl,← hl2,e])));have h1:((n:Int) == (k:Int))=false:=beq_eq_false_iff_ne.2 (by omega);have h2:((n:Int) != (k:Int))=true:=bne_iff_ne.2 (by omega);have h3:¬ ((n:Int)=(k:Int)):=(by omega);clear hp hq hl hl2 hnk hD HD
  go_enter Tryz.func115,Tryz.ntmps115
  go_wp2_with fail
  go_ret
  exact ⟨by rw [HF.out];rfl,Only.refl _ _⟩
 subst hnk;have Hl:=Lib.hid (And.intro hl hl2);clear hp hq hl hl2 hD
 go_enter Tryz.func115,Tryz.ntmps115
 go_wp2_with fail
 go_loopw [13] (fun a wr=>∃ (j:Nat),a=.int .i64 (j:Int)∧j≤n∧Hid (xs.take j=ys.take j)∧Hid (Only [] w0 wr)) (fun a _=>n - (intOf a).toNat)
 case atStart=>exact ⟨0,rfl,Nat.zero_le _,Lib.hid rfl,Lib.hid (Only.refl _ _)⟩
 case round =>
  obtain ⟨j,rfl,hj,HT,HO⟩:=hrel
  by_cases hlt:j < n
  ·have hji:(j:Int) < (n:Int):=(by omega);obtain ⟨x,hx⟩:∃ x,xs[j]?=some x:=⟨_,List.getElem?_eq_getElem (by rw [Hl.out.1];exact hlt)⟩;obtain ⟨y,hy⟩:∃ y,ys[j]?=some y:=⟨_,List.getElem?_eq_getElem (by rw [Hl.out.2];exact hlt)⟩;have gx:=xH hx;have gy:=xH hy;have hnx:jU xs≠[]:=fun e=>(by rw [e] at gx;cases gx);have hny:jU ys≠[]:=fun e=>by rw [e] at gy;cases gy
   obtain ⟨bp,op,rfl,cp⟩:∃ b o,p=some ⟨b,o,none⟩∧wr.cell? ⟨b,o+j,none⟩=some (.int .i64 x):=by
    rcases Hp.out.zB HO.out with h | ⟨b,o,e,h⟩
    ·exact absurd h hnx
    ·exact ⟨b,o,e,h j _ gx⟩
   obtain ⟨bq,oq,rfl,cq⟩:∃ b o,q=some ⟨b,o,none⟩∧wr.cell? ⟨b,o+j,none⟩=some (.int .i64 y):=by
    rcases Hq.out.zB HO.out with h | ⟨b,o,e,h⟩
    ·exact absurd h hny
    ·exact ⟨b,o,e,h j _ gy⟩
   have HXY:=Lib.hid (And.intro hx hy);clear gx gy hnx hny hx hy
   by_cases hxy:x=y
   ·subst hxy;have HT2:Hid (xs.take (j+1)=ys.take (j+1)):=Lib.hid (by rw [List.take_add_one,List.take_add_one,HT.out,HXY.out.1,HXY.out.2]);go_wp2_with fail
    go_quiet (fail)
    go_wp2_with fail;refine ⟨⟨j+1,by go_num,by omega,HT2,Lib.hid (HO.out.zC (Only.drewN _ _))⟩,?_⟩;show n - ((j:Int)+1).toNat < n - ((j:Int)).toNat;omega
   ·have HF:Hid (D=false):=Lib.hid (by rw [← HD.out];exact decide_eq_false (fun e=>hxy (by have h1:=HXY.out.1;rw [e,HXY.out.2] at h1;exact (Option.some.inj h1).symm)));have h1:(x == y)=false:=beq_eq_false_iff_ne.2 hxy;have h2:(x != y)=true:=bne_iff_ne.2 hxy;go_wp2_with fail
    go_quiet (fail)
    go_wp2_with fail
    go_ret
    exact ⟨by rw [HF.out];rfl,HO.out.zC (Only.drewN _ _)⟩
  ·obtain rfl:n=j:=by omega
   have HF:Hid (D=true):=Lib.hid (by
    rw [← HD.out];refine decide_eq_true ?_;have h9:=HT.out
    rwa [List.take_of_length_le (by rw [Hl.out.1];exact Nat.le_refl _),List.take_of_length_le (by rw [Hl.out.2];exact Nat.le_refl _)] at h9)
   have hji:¬ (n:Int) < (n:Int):=(by omega);go_wp2_with fail
   go_ret
   exact ⟨by rw [HF.out];rfl,HO.out⟩
set_option maxHeartbeats 16000000 in
theorem zFQ (a b:zS) (w0:World) (ha:jS w0 a) (hb:jS w0 b) (hn:a.x.parts.length≤4611686018427387904):Calls Tryz.prog 75 #[lmV a,lmV b] w0 fun e w'=>e=.returned (.bool (decide (a.x=b.x)))∧Only [] w0 w':=by
 obtain ⟨⟨k1,i1,b1,y1,u1,c1,t1,p1,m1,d1⟩,q1,r1⟩:=a;obtain ⟨⟨k2,i2,b2,y2,u2,c2,t2,p2,m2,d2⟩,q2,r2⟩:=b;unfold jS at ha hb;unfold lmV;dsimp only at ha hb hn ⊢;obtain ⟨n1,hn1⟩:∃ n,p1.length=n:=⟨_,rfl⟩;obtain ⟨n2,hn2⟩:∃ n,p2.length=n:=⟨_,rfl⟩;rw [hn1] at ha hn;rw [hn2] at hb;rw [hn1,hn2];obtain ⟨D,hD⟩:∃ D,decide ((⟨k1,i1,b1,y1,u1,c1,t1,p1,m1,d1⟩:Cmd)=⟨k2,i2,b2,y2,u2,c2,t2,p2,m2,d2⟩)=D:=⟨_,rfl⟩;rw [hD];obtain ⟨w1,hw1⟩:∃ w1,w1=w0.alloc (.cells #[.int .i64 k1,.int .i64 i1.node,.int .i64 i1.boot,.int .i64 i1.seq,.string (str b1),.string (str y1),.int .i64 u1.node,.int .i64 u1.boot,.int .i64 u1.seq,.int .i64 c1.blob.node,.int .i64 c1.blob.boot,.int .i64 c1.blob.seq,.int .i64 c1.size,.string (str c1.etag),.int .i64 t1,.slice q1 n1 r1,.int .i64 m1,.int .i64 d1] 36):=⟨_,rfl⟩
 have o1:Only [] w0 w1:=(by rw [hw1];exact Only.alloc _ _);have s1:w1.heap.size=w0.heap.size+1:=(by rw [hw1];simp);have rr1:Row w1 (w0.heap.size) 36 [.int .i64 k1,.int .i64 i1.node,.int .i64 i1.boot,.int .i64 i1.seq,.string (str b1),.string (str y1),.int .i64 u1.node,.int .i64 u1.boot,.int .i64 u1.seq,.int .i64 c1.blob.node,.int .i64 c1.blob.boot,.int .i64 c1.blob.seq,.int .i64 c1.size,.string (str c1.etag),.int .i64 t1,.slice q1 n1 r1,.int .i64 m1,.int .i64 d1]:=(by rw [hw1];exact Row.zV _ _ _ _ rfl);obtain ⟨w2,hw2⟩:∃ w2,w2=w1.alloc (.cells #[.int .i64 k2,.int .i64 i2.node,.int .i64 i2.boot,.int .i64 i2.seq,.string (str b2),.string (str y2),.int .i64 u2.node,.int .i64 u2.boot,.int .i64 u2.seq,.int .i64 c2.blob.node,.int .i64 c2.blob.boot,.int .i64 c2.blob.seq,.int .i64 c2.size,.string (str c2.etag),.int .i64 t2,.slice q2 n2 r2,.int .i64 m2,.int .i64 d2] 36):=⟨_,rfl⟩
 have o2:Only [] w1 w2:=(by rw [hw2];exact Only.alloc _ _);have s2:w2.heap.size=w0.heap.size+1+1:=(by rw [hw2];simp [s1]);have rr2:Row w2 (w0.heap.size+1) 36 [.int .i64 k2,.int .i64 i2.node,.int .i64 i2.boot,.int .i64 i2.seq,.string (str b2),.string (str y2),.int .i64 u2.node,.int .i64 u2.boot,.int .i64 u2.seq,.int .i64 c2.blob.node,.int .i64 c2.blob.boot,.int .i64 c2.blob.seq,.int .i64 c2.size,.string (str c2.etag),.int .i64 t2,.slice q2 n2 r2,.int .i64 m2,.int .i64 d2]:=(by rw [← s1,hw2];exact Row.zV _ _ _ _ rfl);replace rr1:=rr1.zB o2;have oAll:Only [] w0 w2:=(o1.zC o2)
 rw [hw1] at hw2;have hsub:=zEw w2 q1 q2 n1 n2 r1 r2 p1 p2 hn1 hn2 hn (ha.1.zB oAll) (hb.1.zB oAll);have Hsub:=Lib.hid hsub;have HO:=Lib.hid oAll;have Hw:=Lib.hid hw2;have HDD:=Lib.hid hD;have e0:=rr1.cell (i:=0) rfl;have e1:=rr1.cell (i:=1) rfl;have e2:=rr1.cell (i:=2) rfl;have e3:=rr1.cell (i:=3) rfl;have e4:=rr1.cell (i:=4) rfl;have e5:=rr1.cell (i:=5) rfl;have e6:=rr1.cell (i:=6) rfl;have e7:=rr1.cell (i:=7) rfl;have e8:=rr1.cell (i:=8) rfl;have e9:=rr1.cell (i:=9) rfl;have e10:=rr1.cell (i:=10) rfl;have e11:=rr1.cell (i:=11) rfl
 have e12:=rr1.cell (i:=12) rfl;have e13:=rr1.cell (i:=13) rfl;have e14:=rr1.cell (i:=14) rfl;have e15:=rr1.cell (i:=15) rfl;have e16:=rr1.cell (i:=16) rfl;have e17:=rr1.cell (i:=17) rfl;have f0:=rr2.cell (i:=0) rfl;have f1:=rr2.cell (i:=1) rfl;have f2:=rr2.cell (i:=2) rfl;have f3:=rr2.cell (i:=3) rfl;have f4:=rr2.cell (i:=4) rfl;have f5:=rr2.cell (i:=5) rfl;have f6:=rr2.cell (i:=6) rfl;have f7:=rr2.cell (i:=7) rfl;have f8:=rr2.cell (i:=8) rfl;have f9:=rr2.cell (i:=9) rfl;have f10:=rr2.cell (i:=10) rfl;have f11:=rr2.cell (i:=11) rfl
 have f12:=rr2.cell (i:=12) rfl;have f13:=rr2.cell (i:=13) rfl;have f14:=rr2.cell (i:=14) rfl;have f15:=rr2.cell (i:=15) rfl;have f16:=rr2.cell (i:=16) rfl;have f17:=rr2.cell (i:=17) rfl;clear hn1 hn2 ha hb oAll hw2 s2 s1 o1 o2 hw1 rr1 rr2 hD hsub
 go_enter Tryz.func75,Tryz.ntmps75
 go_upto_region 1 with (fail)
 rw [← Hw.out];go_wp2_with fail;refine Hsub.out.mono ?_;rintro e w3 ⟨rfl,o3⟩;have HO3:=Lib.hid (HO.out.zC o3);replace e0:=o3.cell e0 (by simp);replace e1:=o3.cell e1 (by simp);replace e2:=o3.cell e2 (by simp);replace e3:=o3.cell e3 (by simp);replace e4:=o3.cell e4 (by simp);replace e5:=o3.cell e5 (by simp);replace e6:=o3.cell e6 (by simp);replace e7:=o3.cell e7 (by simp);replace e8:=o3.cell e8 (by simp);replace e9:=o3.cell e9 (by simp);replace e10:=o3.cell e10 (by simp);replace e11:=o3.cell e11 (by simp);replace e12:=o3.cell e12 (by simp);replace e13:=o3.cell e13 (by simp)
 replace e14:=o3.cell e14 (by simp);replace e15:=o3.cell e15 (by simp);replace e16:=o3.cell e16 (by simp);replace e17:=o3.cell e17 (by simp);replace f0:=o3.cell f0 (by simp);replace f1:=o3.cell f1 (by simp);replace f2:=o3.cell f2 (by simp);replace f3:=o3.cell f3 (by simp);replace f4:=o3.cell f4 (by simp);replace f5:=o3.cell f5 (by simp);replace f6:=o3.cell f6 (by simp);replace f7:=o3.cell f7 (by simp);replace f8:=o3.cell f8 (by simp);replace f9:=o3.cell f9 (by simp);replace f10:=o3.cell f10 (by simp);replace f11:=o3.cell f11 (by simp);replace f12:=o3.cell f12 (by simp)
 replace f13:=o3.cell f13 (by simp);replace f14:=o3.cell f14 (by simp);replace f15:=o3.cell f15 (by simp);replace f16:=o3.cell f16 (by simp);replace f17:=o3.cell f17 (by simp);clear o3 Hsub
 by_cases hp:p1=p2
 rotate_left
 ·rw [decide_eq_false hp];have HD:Hid (D=false):=Lib.hid (by rw [← HDD.out];exact decide_eq_false (fun e=>hp (by cases e;rfl)));go_wp2_with fail
  go_ret
  exact ⟨by rw [HD.out];rfl,HO3.out⟩
 rw [decide_eq_true hp]
 by_cases hk:k1=k2
 rotate_left
 ·have ek:(k1 == k2)=false:=beq_eq_false_iff_ne.2 hk;have HD:Hid (D=false):=Lib.hid (by rw [← HDD.out];exact decide_eq_false (fun e=>hk (by cases e;rfl)));clear hk;go_wp2_with fail
  go_ret
  exact ⟨by rw [HD.out];rfl,HO3.out⟩
 subst hk
 by_cases hi:i1=i2
 rotate_left
 ·have ei:=fun w=>yS 9998 i1 i2 w;unfold idV at ei;simp only [decide_eq_false hi] at ei;have HD:Hid (D=false):=Lib.hid (by rw [← HDD.out];exact decide_eq_false (fun e=>hi (by cases e;rfl)));clear hi;go_wp2_with fail
  go_ret
  exact ⟨by rw [HD.out];rfl,HO3.out⟩
 subst hi
 by_cases hb:b1=b2
 rotate_left
 ·have eb:=jV b1 b2;rw [decide_eq_false hb] at eb;have ei:=fun w=>yS 9998 i1 i1 w;unfold idV at ei;simp only [decide_eq_true (rfl:i1=i1)] at ei;have HD:Hid (D=false):=Lib.hid (by rw [← HDD.out];exact decide_eq_false (fun e=>hb (by cases e;rfl)));clear hb;go_wp2_with fail
  go_ret
  exact ⟨by rw [HD.out];rfl,HO3.out⟩
 subst hb
 by_cases hy:y1=y2
 rotate_left
 ·have ey:=jV y1 y2;rw [decide_eq_false hy] at ey;have ei:=fun w=>yS 9998 i1 i1 w;unfold idV at ei;simp only [decide_eq_true (rfl:i1=i1)] at ei;have eb:=jV b1 b1;rw [decide_eq_true rfl] at eb;have HD:Hid (D=false):=Lib.hid (by rw [← HDD.out];exact decide_eq_false (fun e=>hy (by cases e;rfl)));clear hy;go_wp2_with fail
  go_ret
  exact ⟨by rw [HD.out];rfl,HO3.out⟩
 subst hy
 by_cases hu:u1=u2
 rotate_left
 ·have eu:=fun w=>yS 9998 u1 u2 w;unfold idV at eu;simp only [decide_eq_false hu] at eu;have ei:=fun w=>yS 9998 i1 i1 w;unfold idV at ei;simp only [decide_eq_true (rfl:i1=i1)] at ei;have eb:=jV b1 b1;rw [decide_eq_true rfl] at eb;have ey:=jV y1 y1;rw [decide_eq_true rfl] at ey;have HD:Hid (D=false):=Lib.hid (by rw [← HDD.out];exact decide_eq_false (fun e=>hu (by cases e;rfl)));clear hu;go_wp2_with fail
  go_ret
  exact ⟨by rw [HD.out];rfl,HO3.out⟩
 subst hu
 by_cases hc:c1=c2
 rotate_left
 ·have ec:=fun w=>zFH 9997 c1 c2 w;unfold pcV at ec;simp only [decide_eq_false hc] at ec;have ei:=fun w=>yS 9998 i1 i1 w;unfold idV at ei;simp only [decide_eq_true (rfl:i1=i1)] at ei;have eb:=jV b1 b1;rw [decide_eq_true rfl] at eb;have ey:=jV y1 y1;rw [decide_eq_true rfl] at ey;have eu:=fun w=>yS 9998 u1 u1 w;unfold idV at eu;simp only [decide_eq_true (rfl:u1=u1)] at eu;have HD:Hid (D=false):=Lib.hid (by rw [← HDD.out];exact decide_eq_false (fun e=>hc (by cases e;rfl)));clear hc;go_wp2_with fail
  go_ret
  exact ⟨by rw [HD.out];rfl,HO3.out⟩
 subst hc
 by_cases ht:t1=t2
 rotate_left
 ·have et:(t1 == t2)=false:=beq_eq_false_iff_ne.2 ht;have ei:=fun w=>yS 9998 i1 i1 w;unfold idV at ei;simp only [decide_eq_true (rfl:i1=i1)] at ei;have eb:=jV b1 b1;rw [decide_eq_true rfl] at eb;have ey:=jV y1 y1;rw [decide_eq_true rfl] at ey;have eu:=fun w=>yS 9998 u1 u1 w;unfold idV at eu;simp only [decide_eq_true (rfl:u1=u1)] at eu;have ec:=fun w=>zFH 9997 c1 c1 w;unfold pcV at ec;simp only [decide_eq_true (rfl:c1=c1)] at ec;have HD:Hid (D=false):=Lib.hid (by rw [← HDD.out];exact decide_eq_false (fun e=>ht (by cases e;rfl)))
  clear ht;go_wp2_with fail
  go_ret
  exact ⟨by rw [HD.out];rfl,HO3.out⟩
 subst ht
 by_cases hm:m1=m2
 rotate_left
 ·have em:(m1 == m2)=false:=beq_eq_false_iff_ne.2 hm;have ei:=fun w=>yS 9998 i1 i1 w;unfold idV at ei;simp only [decide_eq_true (rfl:i1=i1)] at ei;have eb:=jV b1 b1;rw [decide_eq_true rfl] at eb;have ey:=jV y1 y1;rw [decide_eq_true rfl] at ey;have eu:=fun w=>yS 9998 u1 u1 w;unfold idV at eu;simp only [decide_eq_true (rfl:u1=u1)] at eu;have ec:=fun w=>zFH 9997 c1 c1 w;unfold pcV at ec;simp only [decide_eq_true (rfl:c1=c1)] at ec;have HD:Hid (D=false):=Lib.hid (by rw [← HDD.out];exact decide_eq_false (fun e=>hm (by cases e;rfl)))
  clear hm;go_wp2_with fail
  go_ret
  exact ⟨by rw [HD.out];rfl,HO3.out⟩
 subst hm
 by_cases hd:d1=d2
 rotate_left
 ·have ed:(d1 == d2)=false:=beq_eq_false_iff_ne.2 hd;have ei:=fun w=>yS 9998 i1 i1 w;unfold idV at ei;simp only [decide_eq_true (rfl:i1=i1)] at ei;have eb:=jV b1 b1;rw [decide_eq_true rfl] at eb;have ey:=jV y1 y1;rw [decide_eq_true rfl] at ey;have eu:=fun w=>yS 9998 u1 u1 w;unfold idV at eu;simp only [decide_eq_true (rfl:u1=u1)] at eu;have ec:=fun w=>zFH 9997 c1 c1 w;unfold pcV at ec;simp only [decide_eq_true (rfl:c1=c1)] at ec;have HD:Hid (D=false):=Lib.hid (by rw [← HDD.out];exact decide_eq_false (fun e=>hd (by cases e;rfl)))
  clear hd;go_wp2_with fail
  go_ret
  exact ⟨by rw [HD.out];rfl,HO3.out⟩
 subst hd;have ei:=fun w=>yS 9998 i1 i1 w;unfold idV at ei;simp only [decide_eq_true (rfl:i1=i1)] at ei;have eb:=jV b1 b1;rw [decide_eq_true rfl] at eb;have ey:=jV y1 y1;rw [decide_eq_true rfl] at ey;have eu:=fun w=>yS 9998 u1 u1 w;unfold idV at eu;simp only [decide_eq_true (rfl:u1=u1)] at eu;have ec:=fun w=>zFH 9997 c1 c1 w;unfold pcV at ec;simp only [decide_eq_true (rfl:c1=c1)] at ec;have HD:Hid (D=true):=Lib.hid (by rw [← HDD.out];exact decide_eq_true (by rw [hp]));clear hp;go_wp2_with fail
 go_ret
 exact ⟨by rw [HD.out];rfl,HO3.out⟩
end
end Go.Proofs.YtfeglnpmpgipiaaGreatDoor
