/- LdgPk, part 14: CmpW2, FindBkW, IdSet, FindIdW, FindObW, FindUpW, FindPtW, Eqs, SameObW, SameUpW. -/
import Derived.Test.YtfeglnpmpgipiaaGreatDoorLdgPk01
import Derived.Test.YtfeglnpmpgipiaaGreatDoorLdgPk10
import Derived.RangeFuncNested
import Derived.RangeFuncBound
import Derived.RangeFuncCalls
import Derived.RangeFuncLeaves
import Derived.TacticsInMore
import Derived.OwnWalkIn
import Derived.LoopNIn
import Derived.LoopIn
import Derived.Shelf.Abstract
import Derived.MapKept
import Derived.Laws.StructEq
set_option linter.unusedVariables false
set_option maxRecDepth 100000
set_option linter.unusedSimpArgs false
namespace Go.Proofs.YtfeglnpmpgipiaaGreatDoor
section
open Go.RowKit
def qE.key (x:qE):Bs:=x.o.key
def qM.id (x:qM):Cid:=x.u.id
theorem zAL (x:Bs) (w:World):Calls Tryz.prog 132 #[.string (str x)] w fun e w'=>e=.returned (.bool false)∧w=w':=by
 have h:=qH x x;rw [decide_eq_true rfl] at h
 go_enter Tryz.func132,Tryz.ntmps132
 go_wp2_with fail
 go_ret
 exact ⟨by simp,rfl⟩
theorem zCb (x y:Bs) (w:World):Calls Tryz.prog 97 #[.string (str x),.string (str y)] w fun e w'=>e=.returned (.int .i64 (sgn (decide (lt x y)) (decide (x=y))))∧w=w':=by
 have h1:=zGU x y;have h2:=zGU y x
 by_cases hl:lt x y
 ·rw [decide_eq_true hl] at h1 ⊢;unfold sgn;clear h2
  go_enter Tryz.func97,Tryz.ntmps97
  go_wp2_with fail;(with_reducible refine (zAL x w).mono ?_);rintro e w' ⟨rfl,rfl⟩;go_wp2_with fail;(with_reducible refine (zAL y w).mono ?_);rintro e w' ⟨rfl,rfl⟩;go_wp2_with fail
  go_ret
  exact ⟨rfl,rfl⟩
 ·by_cases hg:lt y x
  ·have hne:¬ x=y:=fun e=>(by subst e;exact hl hg);rw [decide_eq_false hl] at h1 ⊢;rw [decide_eq_true hg] at h2;have h3:=qH x y;rw [decide_eq_false hne] at h3 ⊢;unfold sgn;clear hne
   go_enter Tryz.func97,Tryz.ntmps97
   go_wp2_with fail;(with_reducible refine (zAL x w).mono ?_);rintro e w' ⟨rfl,rfl⟩;go_wp2_with fail;(with_reducible refine (zAL y w).mono ?_);rintro e w' ⟨rfl,rfl⟩;go_wp2_with fail
   go_ret
   exact ⟨rfl,rfl⟩
  ·have he:x=y:=by
    rcases zDH x y with h | h | h
    ·exact absurd h hl
    ·exact h
    ·exact absurd h hg
   rw [decide_eq_false hl] at h1 ⊢;rw [decide_eq_false hg] at h2;have h3:=qH x y;rw [decide_eq_true he] at h3 ⊢;unfold sgn;clear he
   go_enter Tryz.func97,Tryz.ntmps97
   go_wp2_with fail;(with_reducible refine (zAL x w).mono ?_);rintro e w' ⟨rfl,rfl⟩;go_wp2_with fail;(with_reducible refine (zAL y w).mono ?_);rintro e w' ⟨rfl,rfl⟩;go_wp2_with fail
   go_ret
   exact ⟨rfl,rfl⟩
theorem zCw (b:LBk) (k:Bs) (w:World):Calls Tryz.prog 55 #[lbV b,.string (str k)] w fun e w'=>e=.returned (.int .i64 (sgn (decide (lt b.name k)) (decide (b.name=k))))∧Only [] w w':=by
 obtain ⟨w1,hw1⟩:∃ w1,w1=w.alloc (.cells #[.string (str b.name),.int .i64 b.time,.int .i64 b.days,.slice b.po b.os.length b.co,.slice b.pu b.us.length b.cu] 60):=⟨_,rfl⟩;have o1:Only [] w w1:=(by rw [hw1];exact Only.alloc _ _);have r1:Row w1 w.heap.size 60 (zD b):=(by rw [hw1];exact Row.zV _ _ _ _ rfl);have hc:=zCb b.name k w1;have c0:=r1.cell (i:=0) rfl;have Ho:=Lib.hid o1;have Hw:=Lib.hid hw1;unfold lbV;clear o1 r1 hw1
 go_enter Tryz.func55,Tryz.ntmps55
 go_upto_region 1 with (fail)
 rw [← Hw.out];go_wp2_with fail;refine hc.mono ?_;clear hc c0;rintro e w' ⟨rfl,rfl⟩;go_wp2_with fail
 go_ret
 exact ⟨rfl,Ho.out⟩
theorem zEB (b:qE) (k:Bs) (w:World):Calls Tryz.prog 67 #[loV b,.string (str k)] w fun e w'=>e=.returned (.int .i64 (sgn (decide (lt b.key k)) (decide (b.key=k))))∧Only [] w w':=by
 obtain ⟨w1,hw1⟩:∃ w1,w1=w.alloc (.cells #[.string (str b.o.key),.int .i64 b.o.size,.string (str b.o.etag),.int .i64 b.o.time,.slice b.q b.o.pcs.length b.c] 48):=⟨_,rfl⟩;have o1:Only [] w w1:=(by rw [hw1];exact Only.alloc _ _);have r1:Row w1 w.heap.size 48 (zH b):=(by rw [hw1];exact Row.zV _ _ _ _ rfl);have hc:=zCb b.o.key k w1;have c0:=r1.cell (i:=0) rfl;have Ho:=Lib.hid o1;have Hw:=Lib.hid hw1;unfold loV qE.key;clear o1 r1 hw1
 go_enter Tryz.func67,Tryz.ntmps67
 go_upto_region 1 with (fail)
 rw [← Hw.out];go_wp2_with fail;refine hc.mono ?_;clear hc c0;rintro e w' ⟨rfl,rfl⟩;go_wp2_with fail
 go_ret
 exact ⟨rfl,Ho.out⟩
theorem zBt (p:qU) (k:Int) (w:World):Calls Tryz.prog 136 #[ptV p,.int .i64 k] w fun e w'=>e=.returned (.int .i64 (sgn (decide (ltZ p.num k)) (decide (p.num=k))))∧Only [] w w':=by
 obtain ⟨w1,hw1⟩:∃ w1,w1=w.alloc (.cells #[.int .i64 p.num,.int .i64 p.pc.blob.node,.int .i64 p.pc.blob.boot,.int .i64 p.pc.blob.seq,.int .i64 p.pc.size,.string (str p.pc.etag)] 111):=⟨_,rfl⟩;have o1:Only [] w w1:=(by rw [hw1];exact Only.alloc _ _);have r1:Row w1 w.heap.size 111 (zM p):=(by rw [hw1];exact Row.zV _ _ _ _ rfl);have hc:=zAF p.num k w1;have c0:=r1.cell (i:=0) rfl;have Ho:=Lib.hid o1;have Hw:=Lib.hid hw1;unfold ltZ;unfold ptV;clear o1 r1 hw1
 go_enter Tryz.func136,Tryz.ntmps136
 go_upto_region 1 with (fail)
 rw [← Hw.out];go_wp2_with fail;refine hc.mono ?_;clear hc c0;rintro e w' ⟨rfl,rfl⟩;go_wp2_with fail
 go_ret
 exact ⟨rfl,Ho.out⟩
theorem zEt (u:qM) (k:Cid) (w:World):Calls Tryz.prog 70 #[luV u,idV k] w fun e w'=>e=.returned (.int .i64 (sgn (decide (ltI u.id k)) (decide (u.id=k))))∧Only [] w w':=by
 obtain ⟨w1,hw1⟩:∃ w1,w1=w.alloc (.cells #[.int .i64 u.u.id.node,.int .i64 u.u.id.boot,.int .i64 u.u.id.seq,.string (str u.u.key),.slice u.q u.u.parts.length u.c] 54):=⟨_,rfl⟩;obtain ⟨w2,hw2⟩:∃ w2,w2=w1.alloc (.cells #[.int .i64 k.node,.int .i64 k.boot,.int .i64 k.seq] 31):=⟨_,rfl⟩;have o1:Only [] w w1:=(by rw [hw1];exact Only.alloc _ _);have o2:Only [] w1 w2:=(by rw [hw2];exact Only.alloc _ _);have s1:w1.heap.size=w.heap.size+1:=(by rw [hw1];simp);have r1:Row w2 w.heap.size 54 (zG u):=(show Row w1 w.heap.size 54 (zG u) by rw [hw1];exact Row.zV _ _ _ _ rfl).zB o2
 have r2:Row w2 (w.heap.size+1) 31 (zL k):=(by rw [← s1,hw2];exact Row.zV _ _ _ _ rfl);have hc:=zDx u.u.id k w2;have c0:=r1.cell (i:=0) rfl;have c1:=r1.cell (i:=1) rfl;have c2:=r1.cell (i:=2) rfl;have d0:=r2.cell (i:=0) rfl;have d1:=r2.cell (i:=1) rfl;have d2:=r2.cell (i:=2) rfl;rw [hw1] at hw2;have Ho:=Lib.hid (o1.zC o2);have Hw:=Lib.hid hw2;unfold idV at hc;unfold luV idV qM.id;clear o1 r1 hw1 o2 r2 hw2 s1
 go_enter Tryz.func70,Tryz.ntmps70
 go_upto_region 1 with (fail)
 rw [← Hw.out];go_wp2_with fail;refine hc.mono ?_;clear hc c0 c1 c2 d0 d1 d2;rintro e w' ⟨rfl,o'⟩;go_wp2_with fail
 go_ret
 exact ⟨rfl,Ho.out.zC o'⟩
end
section
open Go.RowKit
set_option maxHeartbeats 8000000 in
theorem zEM (p:Option Addr) (n c:Nat) (xs:List LBk) (k:Bs) (w0:World) (hn:xs.length=n) (hb:n≤1000000) (hp:p=none→n=0) (hx:Rd w0 p (xs.flatMap zD)) (hs:jF LBk.name lt xs) :
  Calls Tryz.prog 96 #[.slice p n c,.string (str k),.func (.func 55) #[] #[]] w0 fun e w'=>e=.returned (.tuple #[.int .i64 ((qX LBk.name lt xs k:Nat):Int),.bool (qC LBk.name lt xs k)])∧Only [] w0 w':=by
 have Hx:=Lib.hid hx;have Hs:=Lib.hid hs;have Hn:=Lib.hid hn;have Hp:=Lib.hid hp;clear hx hs hn hp
 go_enter Tryz.func96,Tryz.ntmps96
 go_wp2_with fail
 go_loopw [9,10] (fun s9 s10 wr=>∃ i j:Nat,s9=.int .i64 (i:Int)∧s10=.int .i64 (j:Int)∧i≤j∧j≤n∧Hid ((∀ x,0 < i→xs[i - 1]?=some x→lt (LBk.name x) k)∧(∀ x,xs[j]?=some x→¬ lt (LBk.name x) k))∧Hid (Only [] w0 wr)) (fun s9 s10 _=>(intOf s10).toNat - (intOf s9).toNat)
 case atStart=>exact ⟨0,n,rfl,rfl,Nat.zero_le _,Nat.le_refl _,Lib.hid ⟨fun x h=>absurd h (by omega),fun x h=>by have:=(List.getElem?_eq_some_iff.1 h).1;rw [Hn.out] at this;omega⟩,Lib.hid (Only.refl _ _)⟩
 case round =>
  obtain ⟨i,j,rfl,rfl,hij,hjn,HI,HO⟩:=hrel
  by_cases hlt:i < j
  ·obtain ⟨x,hxx⟩:∃ x,xs[(i+j) / 2]?=some x:=⟨_,List.getElem?_eq_getElem (by rw [Hn.out];omega)⟩;have hrd:=Hx.out.zB HO.out;have hne:xs.flatMap zD≠[]:=fun e'=>(by have:=flat_get zD 5 zP xs _ x 0 hxx (by omega);rw [e'] at this;cases this);obtain ⟨b,off,rfl,-⟩:=hrd.lt hne;have x0:=zK zP hrd hxx (r:=0) rfl;have x1:=zK zP hrd hxx (r:=1) rfl;have x2:=zK zP hrd hxx (r:=2) rfl;have x3:=zK zP hrd hxx (r:=3) rfl;have x4:=zK zP hrd hxx (r:=4) rfl;rw [Addr.add_lit,← Nat.add_assoc] at x0 x1 x2 x3 x4
   rw [Nat.add_zero] at x0;have hby:=zCw x k wr;have Hxx:=Lib.hid hxx;unfold lbV at hby;have hmid:(i+j) / 2 < n:=(by omega);clear hrd hne hxx
   by_cases hl:lt (LBk.name x) k
   ·rw [decide_eq_true hl] at hby;unfold sgn at hby;rw [if_pos rfl] at hby;have Hl:=Lib.hid hl;clear hl;go_wp2_with fail;refine hby.mono ?_;clear hby x0 x1 x2 x3 x4;rintro e w' ⟨rfl,o'⟩
    have HI2:Hid ((∀ x,0 < (i+j) / 2+1→xs[(i+j) / 2+1 - 1]?=some x→lt (LBk.name x) k)∧(∀ x,xs[j]?=some x→¬ lt (LBk.name x) k)):=Lib.hid ⟨fun y _ hy=>by
     rw [Nat.add_sub_cancel,Hxx.out] at hy
     cases hy
     exact Hl.out,HI.out.2⟩
    have HO2:=Lib.hid (HO.out.zC o');clear o';go_wp2_with fail;refine ⟨⟨(i+j) / 2+1,j,by go_num,rfl,by omega,hjn,HI2,HO2⟩,?_⟩
    simp [intOf];omega
   ·rw [decide_eq_false hl] at hby;unfold sgn at hby;rw [if_neg (by simp)] at hby;have Hl:=Lib.hid hl
    have HI2:Hid ((∀ x,0 < i→xs[i - 1]?=some x→lt (LBk.name x) k)∧(∀ x,xs[(i+j) / 2]?=some x→¬ lt (LBk.name x) k)):=Lib.hid ⟨HI.out.1,fun y hy=>by
     rw [Hxx.out] at hy
     cases hy
     exact Hl.out⟩
    clear hl
    by_cases hk:LBk.name x=k
    ·rw [decide_eq_true hk,if_pos rfl] at hby;clear hk;go_wp2_with fail;refine hby.mono ?_;clear hby x0 x1 x2 x3 x4;rintro e w' ⟨rfl,o'⟩;have HO2:=Lib.hid (HO.out.zC o');clear o';go_wp2_with fail;refine ⟨⟨i,(i+j) / 2,rfl,by go_num,by omega,by omega,HI2,HO2⟩,?_⟩
     simp [intOf];omega
    ·rw [decide_eq_false hk,if_neg (by simp)] at hby;clear hk;go_wp2_with fail;refine hby.mono ?_;clear hby x0 x1 x2 x3 x4;rintro e w' ⟨rfl,o'⟩;have HO2:=Lib.hid (HO.out.zC o');clear o';go_wp2_with fail;refine ⟨⟨i,(i+j) / 2,rfl,by go_num,by omega,by omega,HI2,HO2⟩,?_⟩
     simp [intOf];omega
  ·obtain rfl:i=j:=(by omega);have Hpos:Hid (qX LBk.name lt xs k=i):=Lib.hid (zBV zDf Hs.out (by rw [Hn.out];exact hjn) HI.out.1 HI.out.2)
   by_cases hin:i < n
   ·obtain ⟨x,hxx⟩:∃ x,xs[i]?=some x:=⟨_,List.getElem?_eq_getElem (by rw [Hn.out];omega)⟩;have Hth:Hid (qC LBk.name lt xs k=decide (LBk.name x=k)):=Lib.hid (by unfold qC;rw [Hpos.out,hxx]);have hl:=HI.out.2 x hxx;have hrd:=Hx.out.zB HO.out;have hne:xs.flatMap zD≠[]:=fun e'=>(by have:=flat_get zD 5 zP xs _ x 0 hxx (by omega);rw [e'] at this;cases this);obtain ⟨b,off,rfl,-⟩:=hrd.lt hne;have x0:=zK zP hrd hxx (r:=0) rfl;have x1:=zK zP hrd hxx (r:=1) rfl;have x2:=zK zP hrd hxx (r:=2) rfl
    have x3:=zK zP hrd hxx (r:=3) rfl;have x4:=zK zP hrd hxx (r:=4) rfl;rw [Addr.add_lit,← Nat.add_assoc] at x0 x1 x2 x3 x4;rw [Nat.add_zero] at x0;have hby:=zCw x k wr;unfold lbV sgn at hby;rw [decide_eq_false hl,if_neg (by simp)] at hby;clear hrd hne hxx hl
    by_cases hk:LBk.name x=k
    ·rw [decide_eq_true hk,if_pos rfl] at hby;rw [decide_eq_true hk] at Hth;clear hk;go_wp2_with fail;refine hby.mono ?_;clear hby x0 x1 x2 x3 x4;rintro e w' ⟨rfl,o'⟩;have HO2:=Lib.hid (HO.out.zC o');clear o';go_wp2_with fail
     go_ret2
     exact ⟨by rw [Hpos.out,Hth.out];rfl,HO2.out⟩
    ·rw [decide_eq_false hk,if_neg (by simp)] at hby;rw [decide_eq_false hk] at Hth;clear hk;go_wp2_with fail;refine hby.mono ?_;clear hby x0 x1 x2 x3 x4;rintro e w' ⟨rfl,o'⟩;have HO2:=Lib.hid (HO.out.zC o');clear o';go_wp2_with fail
     go_ret2
     exact ⟨by rw [Hpos.out,Hth.out];rfl,HO2.out⟩
   ·obtain rfl:i=n:=by omega
    have Hth:Hid (qC LBk.name lt xs k=false):=Lib.hid (by
     unfold qC
     rw [Hpos.out,List.getElem?_eq_none_iff.2 (by rw [Hn.out];exact Nat.le_refl _)])
    go_wp2_with fail
    go_ret2
    exact ⟨by rw [Hpos.out,Hth.out];rfl,HO.out⟩
theorem zDC (p:Option Addr) (n c:Nat) (xs:List LBk) (k:Bs) (w0:World) (hn:xs.length=n) (hb:n≤1000000) (hp:p=none→n=0) (hx:Rd w0 p (xs.flatMap zD)) (hs:jF LBk.name lt xs) :
  Calls Tryz.prog 54 #[.slice p n c,.string (str k),.func (.func 55) #[] #[]] w0 fun e w'=>e=.returned (.tuple #[.int .i64 ((qX LBk.name lt xs k:Nat):Int),.bool (qC LBk.name lt xs k)])∧Only [] w0 w':=by
 have h:=zEM p n c xs k w0 hn hb hp hx hs;generalize qX LBk.name lt xs k=i at h;generalize qC LBk.name lt xs k=b at h
 go_enter Tryz.func54,Tryz.ntmps54
 go_wp2_with fail;refine h.mono ?_;clear h;rintro e w' ⟨rfl,o'⟩;go_wp2_with fail
 go_ret2
 exact ⟨rfl,o'⟩
end
section
open Go.RowKit
theorem zJK (a b:Cid) (w:World):(Op.equalIn 10000 31 (idV a) (idV b)).run Tryz.prog w=.ok (decide (a=b)) w:=by
 have hu:Tryz.prog.underlying 31=some (.struct (Tryz.prog.fieldsOf 31)):=(by kernel_rfl);have hs:Tryz.prog.stoodInHeld 31=false:=(by kernel_rfl);have h:=Tryz.underlying31;unfold idV;rw [show (10000:Nat)=9999+1 from rfl,run_equalIn_agg w 9999 31 _ _ hu hs];simp only [Program.fieldsOf,h];have q3:=fun (x y:Int) (w:World)=>run_equalIn_int (P:=Tryz.prog) w 9998 3 .i64 .i64 x y Tryz.underlying3
 simp [Op.eqFields,part,Tryz.isAgg3,q3]
 obtain ⟨a1,a2,a3⟩:=a;obtain ⟨b1,b2,b3⟩:=b;simp only [Cid.mk.injEq]
 by_cases h1:a1=b1 <;> by_cases h2:a2=b2 <;> by_cases h3:a3=b3 <;> simp [h1,h2,h3]
end
section
open Go.RowKit
set_option maxHeartbeats 8000000 in
theorem zEC (p:Option Addr) (n c:Nat) (xs:List Cid) (k:Int) (w0:World) (hn:xs.length=n) (hb:n≤1000000) (hp:p=none→n=0) (hx:Rd w0 p (xs.flatMap zL)) (hs:jF Cid.node ltZ xs) :
  Calls Tryz.prog 92 #[.slice p n c,.int .i64 k,.func (.func 51) #[] #[]] w0 fun e w'=>e=.returned (.tuple #[.int .i64 ((qX Cid.node ltZ xs k:Nat):Int),.bool (qC Cid.node ltZ xs k)])∧Only [] w0 w':=by
 have Hx:=Lib.hid hx;have Hs:=Lib.hid hs;have Hn:=Lib.hid hn;have Hp:=Lib.hid hp;clear hx hs hn hp
 go_enter Tryz.func92,Tryz.ntmps92
 go_wp2_with fail
 go_loopw [9,10] (fun s9 s10 wr=>∃ i j:Nat,s9=.int .i64 (i:Int)∧s10=.int .i64 (j:Int)∧i≤j∧j≤n∧Hid ((∀ x,0 < i→xs[i - 1]?=some x→ltZ (Cid.node x) k)∧(∀ x,xs[j]?=some x→¬ ltZ (Cid.node x) k))∧Hid (Only [] w0 wr)) (fun s9 s10 _=>(intOf s10).toNat - (intOf s9).toNat)
 case atStart=>exact ⟨0,n,rfl,rfl,Nat.zero_le _,Nat.le_refl _,Lib.hid ⟨fun x h=>absurd h (by omega),fun x h=>by have:=(List.getElem?_eq_some_iff.1 h).1;rw [Hn.out] at this;omega⟩,Lib.hid (Only.refl _ _)⟩
 case round =>
  obtain ⟨i,j,rfl,rfl,hij,hjn,HI,HO⟩:=hrel
  by_cases hlt:i < j
  ·obtain ⟨x,hxx⟩:∃ x,xs[(i+j) / 2]?=some x:=⟨_,List.getElem?_eq_getElem (by rw [Hn.out];omega)⟩;have hrd:=Hx.out.zB HO.out;have hne:xs.flatMap zL≠[]:=fun e'=>(by have:=flat_get zL 3 zZ xs _ x 0 hxx (by omega);rw [e'] at this;cases this);obtain ⟨b,off,rfl,-⟩:=hrd.lt hne;have x0:=zK zZ hrd hxx (r:=0) rfl;have x1:=zK zZ hrd hxx (r:=1) rfl;have x2:=zK zZ hrd hxx (r:=2) rfl;rw [Addr.add_lit,← Nat.add_assoc] at x0 x1 x2;rw [Nat.add_zero] at x0;have hby:=zCp x k wr;have Hxx:=Lib.hid hxx
   unfold idV at hby;have hmid:(i+j) / 2 < n:=(by omega);clear hrd hne hxx
   by_cases hl:ltZ (Cid.node x) k
   ·rw [decide_eq_true hl] at hby;unfold sgn at hby;rw [if_pos rfl] at hby;have Hl:=Lib.hid hl;clear hl;go_wp2_with fail;refine hby.mono ?_;clear hby x0 x1 x2;rintro e w' ⟨rfl,o'⟩
    have HI2:Hid ((∀ x,0 < (i+j) / 2+1→xs[(i+j) / 2+1 - 1]?=some x→ltZ (Cid.node x) k)∧(∀ x,xs[j]?=some x→¬ ltZ (Cid.node x) k)):=Lib.hid ⟨fun y _ hy=>by
     rw [Nat.add_sub_cancel,Hxx.out] at hy
     cases hy
     exact Hl.out,HI.out.2⟩
    have HO2:=Lib.hid (HO.out.zC o');clear o';go_wp2_with fail;refine ⟨⟨(i+j) / 2+1,j,by go_num,rfl,by omega,hjn,HI2,HO2⟩,?_⟩
    simp [intOf];omega
   ·rw [decide_eq_false hl] at hby;unfold sgn at hby;rw [if_neg (by simp)] at hby;have Hl:=Lib.hid hl
    have HI2:Hid ((∀ x,0 < i→xs[i - 1]?=some x→ltZ (Cid.node x) k)∧(∀ x,xs[(i+j) / 2]?=some x→¬ ltZ (Cid.node x) k)):=Lib.hid ⟨HI.out.1,fun y hy=>by
     rw [Hxx.out] at hy
     cases hy
     exact Hl.out⟩
    clear hl
    by_cases hk:Cid.node x=k
    ·rw [decide_eq_true hk,if_pos rfl] at hby;clear hk;go_wp2_with fail;refine hby.mono ?_;clear hby x0 x1 x2;rintro e w' ⟨rfl,o'⟩;have HO2:=Lib.hid (HO.out.zC o');clear o';go_wp2_with fail;refine ⟨⟨i,(i+j) / 2,rfl,by go_num,by omega,by omega,HI2,HO2⟩,?_⟩
     simp [intOf];omega
    ·rw [decide_eq_false hk,if_neg (by simp)] at hby;clear hk;go_wp2_with fail;refine hby.mono ?_;clear hby x0 x1 x2;rintro e w' ⟨rfl,o'⟩;have HO2:=Lib.hid (HO.out.zC o');clear o';go_wp2_with fail;refine ⟨⟨i,(i+j) / 2,rfl,by go_num,by omega,by omega,HI2,HO2⟩,?_⟩
     simp [intOf];omega
  ·obtain rfl:i=j:=(by omega);have Hpos:Hid (qX Cid.node ltZ xs k=i):=Lib.hid (zBV zBC Hs.out (by rw [Hn.out];exact hjn) HI.out.1 HI.out.2)
   by_cases hin:i < n
   ·obtain ⟨x,hxx⟩:∃ x,xs[i]?=some x:=⟨_,List.getElem?_eq_getElem (by rw [Hn.out];omega)⟩;have Hth:Hid (qC Cid.node ltZ xs k=decide (Cid.node x=k)):=Lib.hid (by unfold qC;rw [Hpos.out,hxx]);have hl:=HI.out.2 x hxx;have hrd:=Hx.out.zB HO.out;have hne:xs.flatMap zL≠[]:=fun e'=>(by have:=flat_get zL 3 zZ xs _ x 0 hxx (by omega);rw [e'] at this;cases this);obtain ⟨b,off,rfl,-⟩:=hrd.lt hne;have x0:=zK zZ hrd hxx (r:=0) rfl;have x1:=zK zZ hrd hxx (r:=1) rfl;have x2:=zK zZ hrd hxx (r:=2) rfl
    rw [Addr.add_lit,← Nat.add_assoc] at x0 x1 x2;rw [Nat.add_zero] at x0;have hby:=zCp x k wr;unfold idV sgn at hby;rw [decide_eq_false hl,if_neg (by simp)] at hby;clear hrd hne hxx hl
    by_cases hk:Cid.node x=k
    ·rw [decide_eq_true hk,if_pos rfl] at hby;rw [decide_eq_true hk] at Hth;clear hk;go_wp2_with fail;refine hby.mono ?_;clear hby x0 x1 x2;rintro e w' ⟨rfl,o'⟩;have HO2:=Lib.hid (HO.out.zC o');clear o';go_wp2_with fail
     go_ret2
     exact ⟨by rw [Hpos.out,Hth.out];rfl,HO2.out⟩
    ·rw [decide_eq_false hk,if_neg (by simp)] at hby;rw [decide_eq_false hk] at Hth;clear hk;go_wp2_with fail;refine hby.mono ?_;clear hby x0 x1 x2;rintro e w' ⟨rfl,o'⟩;have HO2:=Lib.hid (HO.out.zC o');clear o';go_wp2_with fail
     go_ret2
     exact ⟨by rw [Hpos.out,Hth.out];rfl,HO2.out⟩
   ·obtain rfl:i=n:=by omega
    have Hth:Hid (qC Cid.node ltZ xs k=false):=Lib.hid (by
     unfold qC
     rw [Hpos.out,List.getElem?_eq_none_iff.2 (by rw [Hn.out];exact Nat.le_refl _)])
    go_wp2_with fail
    go_ret2
    exact ⟨by rw [Hpos.out,Hth.out];rfl,HO.out⟩
theorem zGN (p:Option Addr) (n c:Nat) (xs:List Cid) (k:Int) (w0:World) (hn:xs.length=n) (hb:n≤1000000) (hp:p=none→n=0) (hx:Rd w0 p (xs.flatMap zL)) (hs:jF Cid.node ltZ xs) :
  Calls Tryz.prog 50 #[.slice p n c,.int .i64 k,.func (.func 51) #[] #[]] w0 fun e w'=>e=.returned (.tuple #[.int .i64 ((qX Cid.node ltZ xs k:Nat):Int),.bool (qC Cid.node ltZ xs k)])∧Only [] w0 w':=by
 have h:=zEC p n c xs k w0 hn hb hp hx hs;generalize qX Cid.node ltZ xs k=i at h;generalize qC Cid.node ltZ xs k=b at h
 go_enter Tryz.func50,Tryz.ntmps50
 go_wp2_with fail;refine h.mono ?_;clear h;rintro e w' ⟨rfl,o'⟩;go_wp2_with fail
 go_ret2
 exact ⟨rfl,o'⟩
end
section
open Go.RowKit
set_option maxHeartbeats 8000000 in
theorem zEK (p:Option Addr) (n c:Nat) (xs:List qE) (k:Bs) (w0:World) (hn:xs.length=n) (hb:n≤1000000) (hp:p=none→n=0) (hx:Rd w0 p (xs.flatMap zH)) (hs:jF qE.key lt xs) :
  Calls Tryz.prog 109 #[.slice p n c,.string (str k),.func (.func 67) #[] #[]] w0 fun e w'=>e=.returned (.tuple #[.int .i64 ((qX qE.key lt xs k:Nat):Int),.bool (qC qE.key lt xs k)])∧Only [] w0 w':=by
 have Hx:=Lib.hid hx;have Hs:=Lib.hid hs;have Hn:=Lib.hid hn;have Hp:=Lib.hid hp;clear hx hs hn hp
 go_enter Tryz.func109,Tryz.ntmps109
 go_wp2_with fail
 go_loopw [9,10] (fun s9 s10 wr=>∃ i j:Nat,s9=.int .i64 (i:Int)∧s10=.int .i64 (j:Int)∧i≤j∧j≤n∧Hid ((∀ x,0 < i→xs[i - 1]?=some x→lt (qE.key x) k)∧(∀ x,xs[j]?=some x→¬ lt (qE.key x) k))∧Hid (Only [] w0 wr)) (fun s9 s10 _=>(intOf s10).toNat - (intOf s9).toNat)
 case atStart=>exact ⟨0,n,rfl,rfl,Nat.zero_le _,Nat.le_refl _,Lib.hid ⟨fun x h=>absurd h (by omega),fun x h=>by have:=(List.getElem?_eq_some_iff.1 h).1;rw [Hn.out] at this;omega⟩,Lib.hid (Only.refl _ _)⟩
 case round =>
  obtain ⟨i,j,rfl,rfl,hij,hjn,HI,HO⟩:=hrel
  by_cases hlt:i < j
  ·obtain ⟨x,hxx⟩:∃ x,xs[(i+j) / 2]?=some x:=⟨_,List.getElem?_eq_getElem (by rw [Hn.out];omega)⟩;have hrd:=Hx.out.zB HO.out;have hne:xs.flatMap zH≠[]:=fun e'=>(by have:=flat_get zH 5 zO xs _ x 0 hxx (by omega);rw [e'] at this;cases this);obtain ⟨b,off,rfl,-⟩:=hrd.lt hne;have x0:=zK zO hrd hxx (r:=0) rfl;have x1:=zK zO hrd hxx (r:=1) rfl;have x2:=zK zO hrd hxx (r:=2) rfl;have x3:=zK zO hrd hxx (r:=3) rfl;have x4:=zK zO hrd hxx (r:=4) rfl;rw [Addr.add_lit,← Nat.add_assoc] at x0 x1 x2 x3 x4
   rw [Nat.add_zero] at x0;have hby:=zEB x k wr;have Hxx:=Lib.hid hxx;unfold loV at hby;have hmid:(i+j) / 2 < n:=(by omega);clear hrd hne hxx
   by_cases hl:lt (qE.key x) k
   ·rw [decide_eq_true hl] at hby;unfold sgn at hby;rw [if_pos rfl] at hby;have Hl:=Lib.hid hl;clear hl;go_wp2_with fail;refine hby.mono ?_;clear hby x0 x1 x2 x3 x4;rintro e w' ⟨rfl,o'⟩
    have HI2:Hid ((∀ x,0 < (i+j) / 2+1→xs[(i+j) / 2+1 - 1]?=some x→lt (qE.key x) k)∧(∀ x,xs[j]?=some x→¬ lt (qE.key x) k)):=Lib.hid ⟨fun y _ hy=>by
     rw [Nat.add_sub_cancel,Hxx.out] at hy
     cases hy
     exact Hl.out,HI.out.2⟩
    have HO2:=Lib.hid (HO.out.zC o');clear o';go_wp2_with fail;refine ⟨⟨(i+j) / 2+1,j,by go_num,rfl,by omega,hjn,HI2,HO2⟩,?_⟩
    simp [intOf];omega
   ·rw [decide_eq_false hl] at hby;unfold sgn at hby;rw [if_neg (by simp)] at hby;have Hl:=Lib.hid hl
    have HI2:Hid ((∀ x,0 < i→xs[i - 1]?=some x→lt (qE.key x) k)∧(∀ x,xs[(i+j) / 2]?=some x→¬ lt (qE.key x) k)):=Lib.hid ⟨HI.out.1,fun y hy=>by
     rw [Hxx.out] at hy
     cases hy
     exact Hl.out⟩
    clear hl
    by_cases hk:qE.key x=k
    ·rw [decide_eq_true hk,if_pos rfl] at hby;clear hk;go_wp2_with fail;refine hby.mono ?_;clear hby x0 x1 x2 x3 x4;rintro e w' ⟨rfl,o'⟩;have HO2:=Lib.hid (HO.out.zC o');clear o';go_wp2_with fail;refine ⟨⟨i,(i+j) / 2,rfl,by go_num,by omega,by omega,HI2,HO2⟩,?_⟩
     simp [intOf];omega
    ·rw [decide_eq_false hk,if_neg (by simp)] at hby;clear hk;go_wp2_with fail;refine hby.mono ?_;clear hby x0 x1 x2 x3 x4;rintro e w' ⟨rfl,o'⟩;have HO2:=Lib.hid (HO.out.zC o');clear o';go_wp2_with fail;refine ⟨⟨i,(i+j) / 2,rfl,by go_num,by omega,by omega,HI2,HO2⟩,?_⟩
     simp [intOf];omega
  ·obtain rfl:i=j:=(by omega);have Hpos:Hid (qX qE.key lt xs k=i):=Lib.hid (zBV zDf Hs.out (by rw [Hn.out];exact hjn) HI.out.1 HI.out.2)
   by_cases hin:i < n
   ·obtain ⟨x,hxx⟩:∃ x,xs[i]?=some x:=⟨_,List.getElem?_eq_getElem (by rw [Hn.out];omega)⟩;have Hth:Hid (qC qE.key lt xs k=decide (qE.key x=k)):=Lib.hid (by unfold qC;rw [Hpos.out,hxx]);have hl:=HI.out.2 x hxx;have hrd:=Hx.out.zB HO.out;have hne:xs.flatMap zH≠[]:=fun e'=>(by have:=flat_get zH 5 zO xs _ x 0 hxx (by omega);rw [e'] at this;cases this);obtain ⟨b,off,rfl,-⟩:=hrd.lt hne;have x0:=zK zO hrd hxx (r:=0) rfl;have x1:=zK zO hrd hxx (r:=1) rfl;have x2:=zK zO hrd hxx (r:=2) rfl
    have x3:=zK zO hrd hxx (r:=3) rfl;have x4:=zK zO hrd hxx (r:=4) rfl;rw [Addr.add_lit,← Nat.add_assoc] at x0 x1 x2 x3 x4;rw [Nat.add_zero] at x0;have hby:=zEB x k wr;unfold loV sgn at hby;rw [decide_eq_false hl,if_neg (by simp)] at hby;clear hrd hne hxx hl
    by_cases hk:qE.key x=k
    ·rw [decide_eq_true hk,if_pos rfl] at hby;rw [decide_eq_true hk] at Hth;clear hk;go_wp2_with fail;refine hby.mono ?_;clear hby x0 x1 x2 x3 x4;rintro e w' ⟨rfl,o'⟩;have HO2:=Lib.hid (HO.out.zC o');clear o';go_wp2_with fail
     go_ret2
     exact ⟨by rw [Hpos.out,Hth.out];rfl,HO2.out⟩
    ·rw [decide_eq_false hk,if_neg (by simp)] at hby;rw [decide_eq_false hk] at Hth;clear hk;go_wp2_with fail;refine hby.mono ?_;clear hby x0 x1 x2 x3 x4;rintro e w' ⟨rfl,o'⟩;have HO2:=Lib.hid (HO.out.zC o');clear o';go_wp2_with fail
     go_ret2
     exact ⟨by rw [Hpos.out,Hth.out];rfl,HO2.out⟩
   ·obtain rfl:i=n:=by omega
    have Hth:Hid (qC qE.key lt xs k=false):=Lib.hid (by
     unfold qC
     rw [Hpos.out,List.getElem?_eq_none_iff.2 (by rw [Hn.out];exact Nat.le_refl _)])
    go_wp2_with fail
    go_ret2
    exact ⟨by rw [Hpos.out,Hth.out];rfl,HO.out⟩
theorem zDR (p:Option Addr) (n c:Nat) (xs:List qE) (k:Bs) (w0:World) (hn:xs.length=n) (hb:n≤1000000) (hp:p=none→n=0) (hx:Rd w0 p (xs.flatMap zH)) (hs:jF qE.key lt xs) :
  Calls Tryz.prog 66 #[.slice p n c,.string (str k),.func (.func 67) #[] #[]] w0 fun e w'=>e=.returned (.tuple #[.int .i64 ((qX qE.key lt xs k:Nat):Int),.bool (qC qE.key lt xs k)])∧Only [] w0 w':=by
 have h:=zEK p n c xs k w0 hn hb hp hx hs;generalize qX qE.key lt xs k=i at h;generalize qC qE.key lt xs k=b at h
 go_enter Tryz.func66,Tryz.ntmps66
 go_wp2_with fail;refine h.mono ?_;clear h;rintro e w' ⟨rfl,o'⟩;go_wp2_with fail
 go_ret2
 exact ⟨rfl,o'⟩
end
section
open Go.RowKit
set_option maxHeartbeats 8000000 in
theorem zEF (p:Option Addr) (n c:Nat) (xs:List qM) (k:Cid) (w0:World) (hn:xs.length=n) (hb:n≤1000000) (hp:p=none→n=0) (hx:Rd w0 p (xs.flatMap zG)) (hs:jF qM.id ltI xs) :
  Calls Tryz.prog 111 #[.slice p n c,idV k,.func (.func 70) #[] #[]] w0 fun e w'=>e=.returned (.tuple #[.int .i64 ((qX qM.id ltI xs k:Nat):Int),.bool (qC qM.id ltI xs k)])∧Only [] w0 w':=by
 have Hx:=Lib.hid hx;have Hs:=Lib.hid hs;have Hn:=Lib.hid hn;have Hp:=Lib.hid hp;clear hx hs hn hp;obtain ⟨w1,hw1⟩:∃ w1,w1=w0.alloc (.cells #[.int .i64 k.node,.int .i64 k.boot,.int .i64 k.seq] 31):=⟨_,rfl⟩;have Hk:=Lib.hid (show Row w1 w0.heap.size 31 (zL k) by rw [hw1];exact Row.zV _ _ _ _ rfl);have Ho1:=Lib.hid (show Only [] w0 w1 by rw [hw1];exact Only.alloc _ _);have Hw1:=Lib.hid hw1;clear hw1;unfold idV
 go_enter Tryz.func111,Tryz.ntmps111
 go_wp2_with fail;rw [← Hw1.out];clear Hw1
 go_loopw [9,10] (fun s9 s10 wr=>∃ i j:Nat,s9=.int .i64 (i:Int)∧s10=.int .i64 (j:Int)∧i≤j∧j≤n∧Hid ((∀ x,0 < i→xs[i - 1]?=some x→ltI (qM.id x) k)∧(∀ x,xs[j]?=some x→¬ ltI (qM.id x) k))∧Hid (Only [] w1 wr)) (fun s9 s10 _=>(intOf s10).toNat - (intOf s9).toNat)
 case atStart=>exact ⟨0,n,rfl,rfl,Nat.zero_le _,Nat.le_refl _,Lib.hid ⟨fun x h=>absurd h (by omega),fun x h=>by have:=(List.getElem?_eq_some_iff.1 h).1;rw [Hn.out] at this;omega⟩,Lib.hid (Only.refl _ _)⟩
 case round =>
  obtain ⟨i,j,rfl,rfl,hij,hjn,HI,HO⟩:=hrel
  by_cases hlt:i < j
  ·obtain ⟨x,hxx⟩:∃ x,xs[(i+j) / 2]?=some x:=⟨_,List.getElem?_eq_getElem (by rw [Hn.out];omega)⟩;have hrd:=Hx.out.zB (Ho1.out.zC HO.out);have kr:=Hk.out.zB HO.out;have k0:=kr.cell (i:=0) rfl;have k1:=kr.cell (i:=1) rfl;have k2:=kr.cell (i:=2) rfl;have hne:xs.flatMap zG≠[]:=fun e'=>(by have:=flat_get zG 5 zR xs _ x 0 hxx (by omega);rw [e'] at this;cases this);obtain ⟨b,off,rfl,-⟩:=hrd.lt hne;have x0:=zK zR hrd hxx (r:=0) rfl;have x1:=zK zR hrd hxx (r:=1) rfl;have x2:=zK zR hrd hxx (r:=2) rfl
   have x3:=zK zR hrd hxx (r:=3) rfl;have x4:=zK zR hrd hxx (r:=4) rfl;rw [Addr.add_lit,← Nat.add_assoc] at x0 x1 x2 x3 x4;rw [Nat.add_zero] at x0;have hby:=fun w=>zEt x k w;have Hxx:=Lib.hid hxx;unfold luV idV at hby;have hmid:(i+j) / 2 < n:=(by omega);clear hrd hne kr hxx
   by_cases hl:ltI (qM.id x) k
   ·rw [decide_eq_true hl] at hby;unfold sgn at hby;rw [if_pos rfl] at hby;have Hl:=Lib.hid hl;clear hl
    go_upto_region 5 with (fail)
    refine qG (Only []) [[(2,none)],[(0,none)],[(11,none)],[(25,some 1),(26,some 0)],[(27,some 0)],[(4,none)],[(24,some 5),(28,some 1),(29,some 0)],[(30,some 0)]] [(31,0)] [none,none,none,none,none,none,none,none,none,none,none,none,none,none,none,none,none,none,none,none,none,none,none,none,some 24,some 25,some 26,some 27,some 28,some 29,some 30,some 31,none,none,none,none,none,none,none,none,none,none,none,none,none,none,none,none,none] (by kernel_rfl) rfl (by kernel_rfl) (fun _=>Only.refl _ _) (fun _ _ _ h k=>h.zC k) (Only.drew _) (by kernel_rfl) ?_
    apply zI
    ·rintro a w hR ⟨(e2:_=_),-⟩;refine zA rfl fun K hK=>?_;go_simp;exact hK _ _ rfl (Only.refl _ _)
    apply zI
    ·rintro a w hR ⟨(e0:_=_),-⟩;refine zA rfl fun K hK=>?_;go_simp;exact hK _ _ rfl (Only.refl _ _)
    apply zI
    ·rintro a w hR ⟨(e11:_=_),-⟩;refine zA rfl fun K hK=>?_;go_simp;exact hK _ _ rfl (Only.refl _ _)
    apply zI
    ·rintro a w hR ⟨(e25:_=_),(e26:_=_),-⟩;refine zA rfl fun K hK=>?_;have hix:0≤((i:Int)+(j:Int)) / 2∧((i:Int)+(j:Int)) / 2 < (n:Int):=(by omega);have hix2:(((i:Int)+(j:Int)) / 2).toNat=(i+j) / 2:=(by omega);go_simp;exact hK _ _ rfl (Only.refl _ _)
    apply zI
    ·rintro a w hR ⟨(e27:_=_),-⟩;refine zA rfl fun K hK=>?_;have g0:=hR.cell x0 (by simp);have g1:=hR.cell x1 (by simp);have g2:=hR.cell x2 (by simp);have g3:=hR.cell x3 (by simp);have g4:=hR.cell x4 (by simp);go_simp;exact hK _ _ rfl (Only.refl _ _)
    apply zI
    ·rintro a w hR ⟨(e4:_=_),-⟩;refine zA rfl fun K hK=>?_;have g0:=hR.cell k0 (by simp);have g1:=hR.cell k1 (by simp);have g2:=hR.cell k2 (by simp);go_simp;exact hK _ _ rfl (Only.refl _ _)
    apply zI
    ·rintro a w hR ⟨(e24:_=_),(e28:_=_),(e29:_=_),-⟩;refine zA rfl fun K hK=>?_;go_simp;(with_reducible refine (hby w).mono ?_);rintro e w' ⟨rfl,o'⟩;exact hK _ _ rfl o'
    apply zI
    ·rintro a w hR ⟨(e30:_=_),-⟩;refine zA rfl fun K hK=>?_;go_simp;exact hK _ _ rfl (Only.refl _ _)
    intro f5 w5 hR5 hf;dsimp only [qD];obtain ⟨e31,-⟩:=hf;replace e31:f5 31=_:=e31;rw [e31];clear hby k0 k1 k2 x0 x1 x2 x3 x4
    have HI2:Hid ((∀ x,0 < (i+j) / 2+1→xs[(i+j) / 2+1 - 1]?=some x→ltI (qM.id x) k)∧(∀ x,xs[j]?=some x→¬ ltI (qM.id x) k)):=Lib.hid ⟨fun y _ hy=>by
     rw [Nat.add_sub_cancel,Hxx.out] at hy
     cases hy
     exact Hl.out,HI.out.2⟩
    have HO2:=Lib.hid (HO.out.zC hR5);clear hR5;go_wp2_with fail;refine ⟨⟨(i+j) / 2+1,j,by go_num,rfl,by omega,hjn,HI2,HO2⟩,?_⟩
    simp [intOf];omega
   ·rw [decide_eq_false hl] at hby;unfold sgn at hby;rw [if_neg (by simp)] at hby;have Hl:=Lib.hid hl
    have HI2:Hid ((∀ x,0 < i→xs[i - 1]?=some x→ltI (qM.id x) k)∧(∀ x,xs[(i+j) / 2]?=some x→¬ ltI (qM.id x) k)):=Lib.hid ⟨HI.out.1,fun y hy=>by
     rw [Hxx.out] at hy
     cases hy
     exact Hl.out⟩
    clear hl
    by_cases hk:qM.id x=k
    ·rw [decide_eq_true hk,if_pos rfl] at hby;clear hk
     go_upto_region 5 with (fail)
     refine qG (Only []) [[(2,none)],[(0,none)],[(11,none)],[(25,some 1),(26,some 0)],[(27,some 0)],[(4,none)],[(24,some 5),(28,some 1),(29,some 0)],[(30,some 0)]] [(31,0)] [none,none,none,none,none,none,none,none,none,none,none,none,none,none,none,none,none,none,none,none,none,none,none,none,some 24,some 25,some 26,some 27,some 28,some 29,some 30,some 31,none,none,none,none,none,none,none,none,none,none,none,none,none,none,none,none,none] (by kernel_rfl) rfl (by kernel_rfl) (fun _=>Only.refl _ _) (fun _ _ _ h k=>h.zC k) (Only.drew _) (by kernel_rfl) ?_
     apply zI
     ·rintro a w hR ⟨(e2:_=_),-⟩;refine zA rfl fun K hK=>?_;go_simp;exact hK _ _ rfl (Only.refl _ _)
     apply zI
     ·rintro a w hR ⟨(e0:_=_),-⟩;refine zA rfl fun K hK=>?_;go_simp;exact hK _ _ rfl (Only.refl _ _)
     apply zI
     ·rintro a w hR ⟨(e11:_=_),-⟩;refine zA rfl fun K hK=>?_;go_simp;exact hK _ _ rfl (Only.refl _ _)
     apply zI
     ·rintro a w hR ⟨(e25:_=_),(e26:_=_),-⟩;refine zA rfl fun K hK=>?_;have hix:0≤((i:Int)+(j:Int)) / 2∧((i:Int)+(j:Int)) / 2 < (n:Int):=(by omega);have hix2:(((i:Int)+(j:Int)) / 2).toNat=(i+j) / 2:=(by omega);go_simp;exact hK _ _ rfl (Only.refl _ _)
     apply zI
     ·rintro a w hR ⟨(e27:_=_),-⟩;refine zA rfl fun K hK=>?_;have g0:=hR.cell x0 (by simp);have g1:=hR.cell x1 (by simp);have g2:=hR.cell x2 (by simp);have g3:=hR.cell x3 (by simp);have g4:=hR.cell x4 (by simp);go_simp;exact hK _ _ rfl (Only.refl _ _)
     apply zI
     ·rintro a w hR ⟨(e4:_=_),-⟩;refine zA rfl fun K hK=>?_;have g0:=hR.cell k0 (by simp);have g1:=hR.cell k1 (by simp);have g2:=hR.cell k2 (by simp);go_simp;exact hK _ _ rfl (Only.refl _ _)
     apply zI
     ·rintro a w hR ⟨(e24:_=_),(e28:_=_),(e29:_=_),-⟩;refine zA rfl fun K hK=>?_;go_simp;(with_reducible refine (hby w).mono ?_);rintro e w' ⟨rfl,o'⟩;exact hK _ _ rfl o'
     apply zI
     ·rintro a w hR ⟨(e30:_=_),-⟩;refine zA rfl fun K hK=>?_;go_simp;exact hK _ _ rfl (Only.refl _ _)
     intro f5 w5 hR5 hf;dsimp only [qD];obtain ⟨e31,-⟩:=hf;replace e31:f5 31=_:=e31;rw [e31];clear hby k0 k1 k2 x0 x1 x2 x3 x4;have HO2:=Lib.hid (HO.out.zC hR5);clear hR5;go_wp2_with fail;refine ⟨⟨i,(i+j) / 2,rfl,by go_num,by omega,by omega,HI2,HO2⟩,?_⟩
     simp [intOf];omega
    ·rw [decide_eq_false hk,if_neg (by simp)] at hby;clear hk
     go_upto_region 5 with (fail)
     refine qG (Only []) [[(2,none)],[(0,none)],[(11,none)],[(25,some 1),(26,some 0)],[(27,some 0)],[(4,none)],[(24,some 5),(28,some 1),(29,some 0)],[(30,some 0)]] [(31,0)] [none,none,none,none,none,none,none,none,none,none,none,none,none,none,none,none,none,none,none,none,none,none,none,none,some 24,some 25,some 26,some 27,some 28,some 29,some 30,some 31,none,none,none,none,none,none,none,none,none,none,none,none,none,none,none,none,none] (by kernel_rfl) rfl (by kernel_rfl) (fun _=>Only.refl _ _) (fun _ _ _ h k=>h.zC k) (Only.drew _) (by kernel_rfl) ?_
     apply zI
     ·rintro a w hR ⟨(e2:_=_),-⟩;refine zA rfl fun K hK=>?_;go_simp;exact hK _ _ rfl (Only.refl _ _)
     apply zI
     ·rintro a w hR ⟨(e0:_=_),-⟩;refine zA rfl fun K hK=>?_;go_simp;exact hK _ _ rfl (Only.refl _ _)
     apply zI
     ·rintro a w hR ⟨(e11:_=_),-⟩;refine zA rfl fun K hK=>?_;go_simp;exact hK _ _ rfl (Only.refl _ _)
     apply zI
     ·rintro a w hR ⟨(e25:_=_),(e26:_=_),-⟩;refine zA rfl fun K hK=>?_;have hix:0≤((i:Int)+(j:Int)) / 2∧((i:Int)+(j:Int)) / 2 < (n:Int):=(by omega);have hix2:(((i:Int)+(j:Int)) / 2).toNat=(i+j) / 2:=(by omega);go_simp;exact hK _ _ rfl (Only.refl _ _)
     apply zI
     ·rintro a w hR ⟨(e27:_=_),-⟩;refine zA rfl fun K hK=>?_;have g0:=hR.cell x0 (by simp);have g1:=hR.cell x1 (by simp);have g2:=hR.cell x2 (by simp);have g3:=hR.cell x3 (by simp);have g4:=hR.cell x4 (by simp);go_simp;exact hK _ _ rfl (Only.refl _ _)
     apply zI
     ·rintro a w hR ⟨(e4:_=_),-⟩;refine zA rfl fun K hK=>?_;have g0:=hR.cell k0 (by simp);have g1:=hR.cell k1 (by simp);have g2:=hR.cell k2 (by simp);go_simp;exact hK _ _ rfl (Only.refl _ _)
     apply zI
     ·rintro a w hR ⟨(e24:_=_),(e28:_=_),(e29:_=_),-⟩;refine zA rfl fun K hK=>?_;go_simp;(with_reducible refine (hby w).mono ?_);rintro e w' ⟨rfl,o'⟩;exact hK _ _ rfl o'
     apply zI
     ·rintro a w hR ⟨(e30:_=_),-⟩;refine zA rfl fun K hK=>?_;go_simp;exact hK _ _ rfl (Only.refl _ _)
     intro f5 w5 hR5 hf;dsimp only [qD];obtain ⟨e31,-⟩:=hf;replace e31:f5 31=_:=e31;rw [e31];clear hby k0 k1 k2 x0 x1 x2 x3 x4;have HO2:=Lib.hid (HO.out.zC hR5);clear hR5;go_wp2_with fail;refine ⟨⟨i,(i+j) / 2,rfl,by go_num,by omega,by omega,HI2,HO2⟩,?_⟩
     simp [intOf];omega
  ·obtain rfl:i=j:=(by omega);have Hpos:Hid (qX qM.id ltI xs k=i):=Lib.hid (zBV zFv Hs.out (by rw [Hn.out];exact hjn) HI.out.1 HI.out.2)
   by_cases hin:i < n
   ·obtain ⟨x,hxx⟩:∃ x,xs[i]?=some x:=⟨_,List.getElem?_eq_getElem (by rw [Hn.out];omega)⟩;have Hth:Hid (qC qM.id ltI xs k=decide (qM.id x=k)):=Lib.hid (by unfold qC;rw [Hpos.out,hxx]);have hl:=HI.out.2 x hxx;have hrd:=Hx.out.zB (Ho1.out.zC HO.out);have kr:=Hk.out.zB HO.out;have k0:=kr.cell (i:=0) rfl;have k1:=kr.cell (i:=1) rfl;have k2:=kr.cell (i:=2) rfl;have hne:xs.flatMap zG≠[]:=fun e'=>(by have:=flat_get zG 5 zR xs _ x 0 hxx (by omega);rw [e'] at this;cases this);obtain ⟨b,off,rfl,-⟩:=hrd.lt hne
    have x0:=zK zR hrd hxx (r:=0) rfl;have x1:=zK zR hrd hxx (r:=1) rfl;have x2:=zK zR hrd hxx (r:=2) rfl;have x3:=zK zR hrd hxx (r:=3) rfl;have x4:=zK zR hrd hxx (r:=4) rfl;rw [Addr.add_lit,← Nat.add_assoc] at x0 x1 x2 x3 x4;rw [Nat.add_zero] at x0;have hby:=fun w=>zEt x k w;unfold luV idV sgn at hby;rw [decide_eq_false hl,if_neg (by simp)] at hby;clear hrd hne kr hxx hl
    by_cases hk:qM.id x=k
    ·rw [decide_eq_true hk,if_pos rfl] at hby;rw [decide_eq_true hk] at Hth;clear hk
     go_upto_region 8 with (fail)
     refine qG (Only []) [[(9,none)],[(9,none)],[(8,none)],[(36,some 1),(37,some 0)],[(38,some 0)],[(39,some 0),(2,none)],[(39,some 1),(0,none)],[(39,some 2),(9,none)],[(39,some 3),(41,some 1),(42,some 0)],[(39,some 4),(43,some 0)],[(39,some 5),(4,none)],[(39,some 6),(40,some 5),(44,some 1),(45,some 0)],[(39,some 7),(46,some 0)],[(39,some 8),(47,some 0)],[(35,some 13)],[(48,some 1)]] [(6,1),(7,0)] [none,none,none,none,none,none,some 6,some 7,none,none,none,none,none,none,none,none,none,none,none,none,none,none,none,none,none,none,none,none,none,none,none,none,none,none,none,some 35,some 36,some 37,some 38,some 39,some 40,some 41,some 42,some 43,some 44,some 45,some 46,some 47,some 48] (by kernel_rfl) rfl (by kernel_rfl) (fun _=>Only.refl _ _) (fun _ _ _ h k=>h.zC k) (Only.drew _) (by kernel_rfl) ?_
     apply zI
     ·rintro a w hR ⟨(e9:_=_),-⟩;refine zA rfl fun K hK=>?_;go_simp;exact hK _ _ rfl (Only.refl _ _)
     apply zI
     ·rintro a w hR ⟨(e9:_=_),-⟩;refine zA rfl fun K hK=>?_;go_simp;exact hK _ _ rfl (Only.refl _ _)
     apply zI
     ·rintro a w hR ⟨(e8:_=_),-⟩;refine zA rfl fun K hK=>?_;go_simp;exact hK _ _ rfl (Only.refl _ _)
     apply zI
     ·rintro a w hR ⟨(e36:_=_),(e37:_=_),-⟩;refine zA rfl fun K hK=>?_;go_simp;exact hK _ _ rfl (Only.refl _ _)
     apply zI
     ·rintro a w hR ⟨(e38:_=_),-⟩;refine zA rfl fun K hK=>?_;go_simp;exact hK _ _ rfl (Only.refl _ _)
     apply zI
     ·rintro a w hR ⟨(e39:_=_),(e2:_=_),-⟩;refine jE rfl rfl e39 fun K hK=>?_;clear e39;go_simp;exact hK _ _ rfl (Only.refl _ _)
     apply zI
     ·rintro a w hR ⟨(e39:_=_),(e0:_=_),-⟩;refine jE rfl rfl e39 fun K hK=>?_;clear e39;go_simp;exact hK _ _ rfl (Only.refl _ _)
     apply zI
     ·rintro a w hR ⟨(e39:_=_),(e9:_=_),-⟩;refine jE rfl rfl e39 fun K hK=>?_;clear e39;go_simp;exact hK _ _ rfl (Only.refl _ _)
     apply zI
     ·rintro a w hR ⟨(e39:_=_),(e41:_=_),(e42:_=_),-⟩;refine jE rfl rfl e39 fun K hK=>?_;clear e39;have hix:(i:Int) < (n:Int):=(by omega);go_simp;exact hK _ _ rfl (Only.refl _ _)
     apply zI
     ·rintro a w hR ⟨(e39:_=_),(e43:_=_),-⟩;refine jE rfl rfl e39 fun K hK=>?_;clear e39;have g0:=hR.cell x0 (by simp);have g1:=hR.cell x1 (by simp);have g2:=hR.cell x2 (by simp);have g3:=hR.cell x3 (by simp);have g4:=hR.cell x4 (by simp);go_simp;exact hK _ _ rfl (Only.refl _ _)
     apply zI
     ·rintro a w hR ⟨(e39:_=_),(e4:_=_),-⟩;refine jE rfl rfl e39 fun K hK=>?_;clear e39;have g0:=hR.cell k0 (by simp);have g1:=hR.cell k1 (by simp);have g2:=hR.cell k2 (by simp);go_simp;exact hK _ _ rfl (Only.refl _ _)
     apply zI
     ·rintro a w hR ⟨(e39:_=_),(e40:_=_),(e44:_=_),(e45:_=_),-⟩;refine jE rfl rfl e39 fun K hK=>?_;clear e39;go_simp;(with_reducible refine (hby w).mono ?_);rintro e w' ⟨rfl,o'⟩;exact hK _ _ rfl o'
     apply zI
     ·rintro a w hR ⟨(e39:_=_),(e46:_=_),-⟩;refine jE rfl rfl e39 fun K hK=>?_;clear e39;go_simp;exact hK _ _ rfl (Only.refl _ _)
     apply zI
     ·rintro a w hR ⟨(e39:_=_),(e47:_=_),-⟩;refine zA rfl fun K hK=>?_;go_simp;exact hK _ _ rfl (Only.refl _ _)
     apply zI
     ·rintro a w hR ⟨(e35:_=_),-⟩;refine zA rfl fun K hK=>?_;go_simp;exact hK _ _ rfl (Only.refl _ _)
     apply zI
     ·rintro a w hR ⟨(e48:_=_),-⟩;refine zA rfl fun K hK=>?_;go_simp;exact hK _ _ rfl (Only.refl _ _)
     intro f8 w8 hR8 hf;dsimp only [qD];obtain ⟨e6,e7,-⟩:=hf;replace e6:f8 6=_:=e6;rw [e6];replace e7:f8 7=_:=e7;rw [e7];clear hby k0 k1 k2 x0 x1 x2 x3 x4;have HO2:=Lib.hid (HO.out.zC hR8);clear hR8;go_wp2_with fail
     go_ret2
     exact ⟨by rw [Hpos.out,Hth.out];rfl,Ho1.out.zC HO2.out⟩
    ·rw [decide_eq_false hk,if_neg (by simp)] at hby;rw [decide_eq_false hk] at Hth;clear hk
     go_upto_region 8 with (fail)
     refine qG (Only []) [[(9,none)],[(9,none)],[(8,none)],[(36,some 1),(37,some 0)],[(38,some 0)],[(39,some 0),(2,none)],[(39,some 1),(0,none)],[(39,some 2),(9,none)],[(39,some 3),(41,some 1),(42,some 0)],[(39,some 4),(43,some 0)],[(39,some 5),(4,none)],[(39,some 6),(40,some 5),(44,some 1),(45,some 0)],[(39,some 7),(46,some 0)],[(39,some 8),(47,some 0)],[(35,some 13)],[(48,some 1)]] [(6,1),(7,0)] [none,none,none,none,none,none,some 6,some 7,none,none,none,none,none,none,none,none,none,none,none,none,none,none,none,none,none,none,none,none,none,none,none,none,none,none,none,some 35,some 36,some 37,some 38,some 39,some 40,some 41,some 42,some 43,some 44,some 45,some 46,some 47,some 48] (by kernel_rfl) rfl (by kernel_rfl) (fun _=>Only.refl _ _) (fun _ _ _ h k=>h.zC k) (Only.drew _) (by kernel_rfl) ?_
     apply zI
     ·rintro a w hR ⟨(e9:_=_),-⟩;refine zA rfl fun K hK=>?_;go_simp;exact hK _ _ rfl (Only.refl _ _)
     apply zI
     ·rintro a w hR ⟨(e9:_=_),-⟩;refine zA rfl fun K hK=>?_;go_simp;exact hK _ _ rfl (Only.refl _ _)
     apply zI
     ·rintro a w hR ⟨(e8:_=_),-⟩;refine zA rfl fun K hK=>?_;go_simp;exact hK _ _ rfl (Only.refl _ _)
     apply zI
     ·rintro a w hR ⟨(e36:_=_),(e37:_=_),-⟩;refine zA rfl fun K hK=>?_;go_simp;exact hK _ _ rfl (Only.refl _ _)
     apply zI
     ·rintro a w hR ⟨(e38:_=_),-⟩;refine zA rfl fun K hK=>?_;go_simp;exact hK _ _ rfl (Only.refl _ _)
     apply zI
     ·rintro a w hR ⟨(e39:_=_),(e2:_=_),-⟩;refine jE rfl rfl e39 fun K hK=>?_;clear e39;go_simp;exact hK _ _ rfl (Only.refl _ _)
     apply zI
     ·rintro a w hR ⟨(e39:_=_),(e0:_=_),-⟩;refine jE rfl rfl e39 fun K hK=>?_;clear e39;go_simp;exact hK _ _ rfl (Only.refl _ _)
     apply zI
     ·rintro a w hR ⟨(e39:_=_),(e9:_=_),-⟩;refine jE rfl rfl e39 fun K hK=>?_;clear e39;go_simp;exact hK _ _ rfl (Only.refl _ _)
     apply zI
     ·rintro a w hR ⟨(e39:_=_),(e41:_=_),(e42:_=_),-⟩;refine jE rfl rfl e39 fun K hK=>?_;clear e39;have hix:(i:Int) < (n:Int):=(by omega);go_simp;exact hK _ _ rfl (Only.refl _ _)
     apply zI
     ·rintro a w hR ⟨(e39:_=_),(e43:_=_),-⟩;refine jE rfl rfl e39 fun K hK=>?_;clear e39;have g0:=hR.cell x0 (by simp);have g1:=hR.cell x1 (by simp);have g2:=hR.cell x2 (by simp);have g3:=hR.cell x3 (by simp);have g4:=hR.cell x4 (by simp);go_simp;exact hK _ _ rfl (Only.refl _ _)
     apply zI
     ·rintro a w hR ⟨(e39:_=_),(e4:_=_),-⟩;refine jE rfl rfl e39 fun K hK=>?_;clear e39;have g0:=hR.cell k0 (by simp);have g1:=hR.cell k1 (by simp);have g2:=hR.cell k2 (by simp);go_simp;exact hK _ _ rfl (Only.refl _ _)
     apply zI
     ·rintro a w hR ⟨(e39:_=_),(e40:_=_),(e44:_=_),(e45:_=_),-⟩;refine jE rfl rfl e39 fun K hK=>?_;clear e39;go_simp;(with_reducible refine (hby w).mono ?_);rintro e w' ⟨rfl,o'⟩;exact hK _ _ rfl o'
     apply zI
     ·rintro a w hR ⟨(e39:_=_),(e46:_=_),-⟩;refine jE rfl rfl e39 fun K hK=>?_;clear e39;go_simp;exact hK _ _ rfl (Only.refl _ _)
     apply zI
     ·rintro a w hR ⟨(e39:_=_),(e47:_=_),-⟩;refine zA rfl fun K hK=>?_;go_simp;exact hK _ _ rfl (Only.refl _ _)
     apply zI
     ·rintro a w hR ⟨(e35:_=_),-⟩;refine zA rfl fun K hK=>?_;go_simp;exact hK _ _ rfl (Only.refl _ _)
     apply zI
     ·rintro a w hR ⟨(e48:_=_),-⟩;refine zA rfl fun K hK=>?_;go_simp;exact hK _ _ rfl (Only.refl _ _)
     intro f8 w8 hR8 hf;dsimp only [qD];obtain ⟨e6,e7,-⟩:=hf;replace e6:f8 6=_:=e6;rw [e6];replace e7:f8 7=_:=e7;rw [e7];clear hby k0 k1 k2 x0 x1 x2 x3 x4;have HO2:=Lib.hid (HO.out.zC hR8);clear hR8;go_wp2_with fail
     go_ret2
     exact ⟨by rw [Hpos.out,Hth.out];rfl,Ho1.out.zC HO2.out⟩
   ·obtain rfl:i=n:=by omega
    have Hth:Hid (qC qM.id ltI xs k=false):=Lib.hid (by
     unfold qC
     rw [Hpos.out,List.getElem?_eq_none_iff.2 (by rw [Hn.out];exact Nat.le_refl _)])
    go_upto_region 8 with (fail)
    refine qG (Only []) [[(9,none)],[(9,none)],[(8,none)],[(36,some 1),(37,some 0)],[(38,some 0)],[(39,some 0),(2,none)],[(39,some 1),(0,none)],[(39,some 2),(9,none)],[(39,some 3),(41,some 1),(42,some 0)],[(39,some 4),(43,some 0)],[(39,some 5),(4,none)],[(39,some 6),(40,some 5),(44,some 1),(45,some 0)],[(39,some 7),(46,some 0)],[(39,some 8),(47,some 0)],[(35,some 13)],[(48,some 1)]] [(6,1),(7,0)] [none,none,none,none,none,none,some 6,some 7,none,none,none,none,none,none,none,none,none,none,none,none,none,none,none,none,none,none,none,none,none,none,none,none,none,none,none,some 35,some 36,some 37,some 38,some 39,some 40,some 41,some 42,some 43,some 44,some 45,some 46,some 47,some 48] (by kernel_rfl) rfl (by kernel_rfl) (fun _=>Only.refl _ _) (fun _ _ _ h k=>h.zC k) (Only.drew _) (by kernel_rfl) ?_
    apply zI
    ·rintro a w hR ⟨(e9:_=_),-⟩;refine zA rfl fun K hK=>?_;go_simp;exact hK _ _ rfl (Only.refl _ _)
    apply zI
    ·rintro a w hR ⟨(e9:_=_),-⟩;refine zA rfl fun K hK=>?_;go_simp;exact hK _ _ rfl (Only.refl _ _)
    apply zI
    ·rintro a w hR ⟨(e8:_=_),-⟩;refine zA rfl fun K hK=>?_;go_simp;exact hK _ _ rfl (Only.refl _ _)
    apply zI
    ·rintro a w hR ⟨(e36:_=_),(e37:_=_),-⟩;refine zA rfl fun K hK=>?_;go_simp;exact hK _ _ rfl (Only.refl _ _)
    apply zI
    ·rintro a w hR ⟨(e38:_=_),-⟩;refine zA rfl fun K hK=>?_;go_simp;exact hK _ _ rfl (Only.refl _ _)
    apply zI
    ·rintro a w hR ⟨(e39:_=_),(e2:_=_),-⟩;exact xR rfl rfl e39 rfl
    apply zI
    ·rintro a w hR ⟨(e39:_=_),(e0:_=_),-⟩;exact xR rfl rfl e39 rfl
    apply zI
    ·rintro a w hR ⟨(e39:_=_),(e9:_=_),-⟩;exact xR rfl rfl e39 rfl
    apply zI
    ·rintro a w hR ⟨(e39:_=_),(e41:_=_),(e42:_=_),-⟩;exact xR rfl rfl e39 rfl
    apply zI
    ·rintro a w hR ⟨(e39:_=_),(e43:_=_),-⟩;exact xR rfl rfl e39 rfl
    apply zI
    ·rintro a w hR ⟨(e39:_=_),(e4:_=_),-⟩;exact xR rfl rfl e39 rfl
    apply zI
    ·rintro a w hR ⟨(e39:_=_),(e40:_=_),(e44:_=_),(e45:_=_),-⟩;exact xR rfl rfl e39 rfl
    apply zI
    ·rintro a w hR ⟨(e39:_=_),(e46:_=_),-⟩;exact xR rfl rfl e39 rfl
    apply zI
    ·rintro a w hR ⟨(e39:_=_),(e47:_=_),-⟩;refine zA rfl fun K hK=>?_;go_simp;exact hK _ _ rfl (Only.refl _ _)
    apply zI
    ·rintro a w hR ⟨(e35:_=_),-⟩;refine zA rfl fun K hK=>?_;go_simp;exact hK _ _ rfl (Only.refl _ _)
    apply zI
    ·rintro a w hR ⟨(e48:_=_),-⟩;refine zA rfl fun K hK=>?_;go_simp;exact hK _ _ rfl (Only.refl _ _)
    intro f8 w8 hR8 hf;dsimp only [qD];obtain ⟨e6,e7,-⟩:=hf;replace e6:f8 6=_:=e6;rw [e6];replace e7:f8 7=_:=e7;rw [e7];go_wp2_with fail
    go_ret2
    exact ⟨by rw [Hpos.out,Hth.out];rfl,(Ho1.out.zC HO.out).zC hR8⟩
theorem zFk (p:Option Addr) (n c:Nat) (xs:List qM) (k:Cid) (w0:World) (hn:xs.length=n) (hb:n≤1000000) (hp:p=none→n=0) (hx:Rd w0 p (xs.flatMap zG)) (hs:jF qM.id ltI xs) :
  Calls Tryz.prog 69 #[.slice p n c,idV k,.func (.func 70) #[] #[]] w0 fun e w'=>e=.returned (.tuple #[.int .i64 ((qX qM.id ltI xs k:Nat):Int),.bool (qC qM.id ltI xs k)])∧Only [] w0 w':=by
 obtain ⟨w1,hw1⟩:∃ w1,w1=w0.alloc (.cells #[.int .i64 k.node,.int .i64 k.boot,.int .i64 k.seq] 31):=⟨_,rfl⟩;have Hk:=Lib.hid (show Row w1 w0.heap.size 31 (zL k) by rw [hw1];exact Row.zV _ _ _ _ rfl);have Ho1:=Lib.hid (show Only [] w0 w1 by rw [hw1];exact Only.alloc _ _);have Hw1:=Lib.hid hw1;clear hw1;unfold idV;have h:=zEF p n c xs k w1 hn hb hp (hx.zB Ho1.out) hs;have kr:=Hk.out;have k0:=kr.cell (i:=0) rfl;have k1:=kr.cell (i:=1) rfl;have k2:=kr.cell (i:=2) rfl;clear kr Hk;unfold idV at h;generalize qX qM.id ltI xs k=i at h
 generalize qC qM.id ltI xs k=b at h
 go_enter Tryz.func69,Tryz.ntmps69
 go_wp2_with fail;rw [← Hw1.out];refine h.mono ?_;clear h k0 k1 k2;rintro e w' ⟨rfl,o'⟩;go_wp2_with fail
 go_ret2
 exact ⟨rfl,Ho1.out.zC o'⟩
end
section
open Go.RowKit
set_option maxHeartbeats 8000000 in
theorem zEH (p:Option Addr) (n c:Nat) (xs:List qU) (k:Int) (w0:World) (hn:xs.length=n) (hb:n≤1000000) (hp:p=none→n=0) (hx:Rd w0 p (xs.flatMap zM)) (hs:jF qU.num ltZ xs) :
  Calls Tryz.prog 151 #[.slice p n c,.int .i64 k,.func (.func 136) #[] #[]] w0 fun e w'=>e=.returned (.tuple #[.int .i64 ((qX qU.num ltZ xs k:Nat):Int),.bool (qC qU.num ltZ xs k)])∧Only [] w0 w':=by
 have Hx:=Lib.hid hx;have Hs:=Lib.hid hs;have Hn:=Lib.hid hn;have Hp:=Lib.hid hp;clear hx hs hn hp
 go_enter Tryz.func151,Tryz.ntmps151
 go_wp2_with fail
 go_loopw [9,10] (fun s9 s10 wr=>∃ i j:Nat,s9=.int .i64 (i:Int)∧s10=.int .i64 (j:Int)∧i≤j∧j≤n∧Hid ((∀ x,0 < i→xs[i - 1]?=some x→ltZ (qU.num x) k)∧(∀ x,xs[j]?=some x→¬ ltZ (qU.num x) k))∧Hid (Only [] w0 wr)) (fun s9 s10 _=>(intOf s10).toNat - (intOf s9).toNat)
 case atStart=>exact ⟨0,n,rfl,rfl,Nat.zero_le _,Nat.le_refl _,Lib.hid ⟨fun x h=>absurd h (by omega),fun x h=>by have:=(List.getElem?_eq_some_iff.1 h).1;rw [Hn.out] at this;omega⟩,Lib.hid (Only.refl _ _)⟩
 case round =>
  obtain ⟨i,j,rfl,rfl,hij,hjn,HI,HO⟩:=hrel
  by_cases hlt:i < j
  ·obtain ⟨x,hxx⟩:∃ x,xs[(i+j) / 2]?=some x:=⟨_,List.getElem?_eq_getElem (by rw [Hn.out];omega)⟩;have hrd:=Hx.out.zB HO.out;have hne:xs.flatMap zM≠[]:=fun e'=>(by have:=flat_get zM 6 zS xs _ x 0 hxx (by omega);rw [e'] at this;cases this);obtain ⟨b,off,rfl,-⟩:=hrd.lt hne;have x0:=zK zS hrd hxx (r:=0) rfl;have x1:=zK zS hrd hxx (r:=1) rfl;have x2:=zK zS hrd hxx (r:=2) rfl;have x3:=zK zS hrd hxx (r:=3) rfl;have x4:=zK zS hrd hxx (r:=4) rfl;have x5:=zK zS hrd hxx (r:=5) rfl
   rw [Addr.add_lit,← Nat.add_assoc] at x0 x1 x2 x3 x4 x5;rw [Nat.add_zero] at x0;have hby:=zBt x k wr;have Hxx:=Lib.hid hxx;unfold ptV at hby;have hmid:(i+j) / 2 < n:=(by omega);clear hrd hne hxx
   by_cases hl:ltZ (qU.num x) k
   ·rw [decide_eq_true hl] at hby;unfold sgn at hby;rw [if_pos rfl] at hby;have Hl:=Lib.hid hl;clear hl;go_wp2_with fail;refine hby.mono ?_;clear hby x0 x1 x2 x3 x4 x5;rintro e w' ⟨rfl,o'⟩
    have HI2:Hid ((∀ x,0 < (i+j) / 2+1→xs[(i+j) / 2+1 - 1]?=some x→ltZ (qU.num x) k)∧(∀ x,xs[j]?=some x→¬ ltZ (qU.num x) k)):=Lib.hid ⟨fun y _ hy=>by
     rw [Nat.add_sub_cancel,Hxx.out] at hy
     cases hy
     exact Hl.out,HI.out.2⟩
    have HO2:=Lib.hid (HO.out.zC o');clear o';go_wp2_with fail;refine ⟨⟨(i+j) / 2+1,j,by go_num,rfl,by omega,hjn,HI2,HO2⟩,?_⟩
    simp [intOf];omega
   ·rw [decide_eq_false hl] at hby;unfold sgn at hby;rw [if_neg (by simp)] at hby;have Hl:=Lib.hid hl
    have HI2:Hid ((∀ x,0 < i→xs[i - 1]?=some x→ltZ (qU.num x) k)∧(∀ x,xs[(i+j) / 2]?=some x→¬ ltZ (qU.num x) k)):=Lib.hid ⟨HI.out.1,fun y hy=>by
     rw [Hxx.out] at hy
     cases hy
     exact Hl.out⟩
    clear hl
    by_cases hk:qU.num x=k
    ·rw [decide_eq_true hk,if_pos rfl] at hby;clear hk;go_wp2_with fail;refine hby.mono ?_;clear hby x0 x1 x2 x3 x4 x5;rintro e w' ⟨rfl,o'⟩;have HO2:=Lib.hid (HO.out.zC o');clear o';go_wp2_with fail;refine ⟨⟨i,(i+j) / 2,rfl,by go_num,by omega,by omega,HI2,HO2⟩,?_⟩
     simp [intOf];omega
    ·rw [decide_eq_false hk,if_neg (by simp)] at hby;clear hk;go_wp2_with fail;refine hby.mono ?_;clear hby x0 x1 x2 x3 x4 x5;rintro e w' ⟨rfl,o'⟩;have HO2:=Lib.hid (HO.out.zC o');clear o';go_wp2_with fail;refine ⟨⟨i,(i+j) / 2,rfl,by go_num,by omega,by omega,HI2,HO2⟩,?_⟩
     simp [intOf];omega
  ·obtain rfl:i=j:=(by omega);have Hpos:Hid (qX qU.num ltZ xs k=i):=Lib.hid (zBV zBC Hs.out (by rw [Hn.out];exact hjn) HI.out.1 HI.out.2)
   by_cases hin:i < n
   ·obtain ⟨x,hxx⟩:∃ x,xs[i]?=some x:=⟨_,List.getElem?_eq_getElem (by rw [Hn.out];omega)⟩;have Hth:Hid (qC qU.num ltZ xs k=decide (qU.num x=k)):=Lib.hid (by unfold qC;rw [Hpos.out,hxx]);have hl:=HI.out.2 x hxx;have hrd:=Hx.out.zB HO.out;have hne:xs.flatMap zM≠[]:=fun e'=>(by have:=flat_get zM 6 zS xs _ x 0 hxx (by omega);rw [e'] at this;cases this);obtain ⟨b,off,rfl,-⟩:=hrd.lt hne;have x0:=zK zS hrd hxx (r:=0) rfl;have x1:=zK zS hrd hxx (r:=1) rfl;have x2:=zK zS hrd hxx (r:=2) rfl
    have x3:=zK zS hrd hxx (r:=3) rfl;have x4:=zK zS hrd hxx (r:=4) rfl;have x5:=zK zS hrd hxx (r:=5) rfl;rw [Addr.add_lit,← Nat.add_assoc] at x0 x1 x2 x3 x4 x5;rw [Nat.add_zero] at x0;have hby:=zBt x k wr;unfold ptV sgn at hby;rw [decide_eq_false hl,if_neg (by simp)] at hby;clear hrd hne hxx hl
    by_cases hk:qU.num x=k
    ·rw [decide_eq_true hk,if_pos rfl] at hby;rw [decide_eq_true hk] at Hth;clear hk;go_wp2_with fail;refine hby.mono ?_;clear hby x0 x1 x2 x3 x4 x5;rintro e w' ⟨rfl,o'⟩;have HO2:=Lib.hid (HO.out.zC o');clear o';go_wp2_with fail
     go_ret2
     exact ⟨by rw [Hpos.out,Hth.out];rfl,HO2.out⟩
    ·rw [decide_eq_false hk,if_neg (by simp)] at hby;rw [decide_eq_false hk] at Hth;clear hk;go_wp2_with fail;refine hby.mono ?_;clear hby x0 x1 x2 x3 x4 x5;rintro e w' ⟨rfl,o'⟩;have HO2:=Lib.hid (HO.out.zC o');clear o';go_wp2_with fail
     go_ret2
     exact ⟨by rw [Hpos.out,Hth.out];rfl,HO2.out⟩
   ·obtain rfl:i=n:=by omega
    have Hth:Hid (qC qU.num ltZ xs k=false):=Lib.hid (by
     unfold qC
     rw [Hpos.out,List.getElem?_eq_none_iff.2 (by rw [Hn.out];exact Nat.le_refl _)])
    go_wp2_with fail
    go_ret2
    exact ⟨by rw [Hpos.out,Hth.out];rfl,HO.out⟩
theorem zFn (p:Option Addr) (n c:Nat) (xs:List qU) (k:Int) (w0:World) (hn:xs.length=n) (hb:n≤1000000) (hp:p=none→n=0) (hx:Rd w0 p (xs.flatMap zM)) (hs:jF qU.num ltZ xs) :
  Calls Tryz.prog 138 #[.slice p n c,.int .i64 k,.func (.func 136) #[] #[]] w0 fun e w'=>e=.returned (.tuple #[.int .i64 ((qX qU.num ltZ xs k:Nat):Int),.bool (qC qU.num ltZ xs k)])∧Only [] w0 w':=by
 have h:=zEH p n c xs k w0 hn hb hp hx hs;generalize qX qU.num ltZ xs k=i at h;generalize qC qU.num ltZ xs k=b at h
 go_enter Tryz.func138,Tryz.ntmps138
 go_wp2_with fail;refine h.mono ?_;clear h;rintro e w' ⟨rfl,o'⟩;go_wp2_with fail
 go_ret2
 exact ⟨rfl,o'⟩
end
section
open Go.RowKit
theorem xE (d:Nat) (a b:Cid) (w:World):(Op.equalIn (d+2) 31 (idV a) (idV b)).run Tryz.prog w=.ok (decide (a=b)) w:=by
 have hu:Tryz.prog.underlying 31=some (.struct (Tryz.prog.fieldsOf 31)):=(by kernel_rfl);have hs:Tryz.prog.stoodInHeld 31=false:=(by kernel_rfl);have h:=Tryz.underlying31;unfold idV;rw [show d+2=(d+1)+1 from rfl,run_equalIn_agg w (d+1) 31 _ _ hu hs];simp only [Program.fieldsOf,h];have q3:=fun (x y:Int) (w:World)=>run_equalIn_int (P:=Tryz.prog) w d 3 .i64 .i64 x y Tryz.underlying3
 simp [Op.eqFields,part,Tryz.isAgg3,q3]
 obtain ⟨a1,a2,a3⟩:=a;obtain ⟨b1,b2,b3⟩:=b;simp only [Cid.mk.injEq]
 by_cases h1:a1=b1 <;> by_cases h2:a2=b2 <;> by_cases h3:a3=b3 <;> simp [h1,h2,h3]
theorem zBA (d:Nat) (a b:Pc) (w:World):(Op.equalIn (d+3) 33 (pcV a) (pcV b)).run Tryz.prog w=.ok (decide (a=b)) w:=by
 have hu:Tryz.prog.underlying 33=some (.struct (Tryz.prog.fieldsOf 33)):=(by kernel_rfl);have hs:Tryz.prog.stoodInHeld 33=false:=(by kernel_rfl);have h:=Tryz.underlying33;have hsz:(Tryz.prog.info? 31).map (·.size)=some 3:=(by kernel_rfl);obtain ⟨ii,hii,hi3⟩:=Option.map_eq_some_iff.1 hsz;unfold pcV;rw [show d+3=(d+2)+1 from rfl,run_equalIn_agg w (d+2) 33 _ _ hu hs];simp only [Program.fieldsOf,h];have q3:=fun (x y:Int) (w:World)=>run_equalIn_int (P:=Tryz.prog) w (d+1) 3 .i64 .i64 x y Tryz.underlying3;have q9:=fun (x y:ByteArray) (w:World)=>run_equalIn_string (P:=Tryz.prog) w (d+1) 9 x y Tryz.underlying9
 have qi:=fun (x y:Cid) (w:World)=>xE d x y w;unfold idV at qi
 simp [Op.eqFields,part,Tryz.isAgg3,Tryz.isAgg9,Tryz.isAgg31,sizeOf,typeInfo,hii,hi3,q3,q9,qi a.blob b.blob,qH]
 obtain ⟨a1,a2,a3⟩:=a;obtain ⟨b1,b2,b3⟩:=b;simp only [Pc.mk.injEq]
 by_cases h1:a1=b1 <;> by_cases h2:a2=b2 <;> by_cases h3:a3=b3 <;> simp [h1,h2,h3]
theorem zJd (d:Nat) (a b:qU) (w:World):(Op.equalIn (d+4) 111 (ptV a) (ptV b)).run Tryz.prog w=.ok (decide (a=b)) w:=by
 have hu:Tryz.prog.underlying 111=some (.struct (Tryz.prog.fieldsOf 111)):=(by kernel_rfl);have hs:Tryz.prog.stoodInHeld 111=false:=(by kernel_rfl);have h:=Tryz.underlying111;have hsz:(Tryz.prog.info? 33).map (·.size)=some 5:=(by kernel_rfl);obtain ⟨ii,hii,hi3⟩:=Option.map_eq_some_iff.1 hsz;unfold ptV;rw [show d+4=(d+3)+1 from rfl,run_equalIn_agg w (d+3) 111 _ _ hu hs];simp only [Program.fieldsOf,h];have q3:=fun (x y:Int) (w:World)=>run_equalIn_int (P:=Tryz.prog) w (d+2) 3 .i64 .i64 x y Tryz.underlying3;have qi:=fun (x y:Pc) (w:World)=>zBA d x y w
 unfold pcV at qi
 simp [Op.eqFields,part,Tryz.isAgg3,Tryz.isAgg33,sizeOf,typeInfo,hii,hi3,q3,qi a.pc b.pc]
 obtain ⟨a1,a2⟩:=a;obtain ⟨b1,b2⟩:=b;simp only [qU.mk.injEq]
 by_cases h1:a1=b1 <;> by_cases h2:a2=b2 <;> simp [h1,h2]
end
section
open Go.RowKit
set_option maxHeartbeats 16000000 in
theorem zGI (a b:qE) (w0:World) (ha:zIs w0 a) (hb:zIs w0 b) (hnb:a.o.pcs.length≤1000000):Calls Tryz.prog 24 #[loV a,loV b] w0 fun e w'=>e=.returned (.bool (decide (a.o=b.o)))∧Only [] w0 w':=by
 obtain ⟨⟨k1,z1,e1,t1,p1⟩,q1,c1⟩:=a;obtain ⟨⟨k2,z2,e2,t2,p2⟩,q2,c2⟩:=b;obtain ⟨n1,hn1⟩:∃ n,p1.length=n:=⟨_,rfl⟩;obtain ⟨n2,hn2⟩:∃ n,p2.length=n:=⟨_,rfl⟩;unfold zIs at ha hb;dsimp only at ha hb hnb;rw [hn1] at ha hnb;rw [hn2] at hb;unfold loV;dsimp only;rw [hn1,hn2];obtain ⟨D,hD⟩:∃ D,decide ((⟨k1,z1,e1,t1,p1⟩:yT)=⟨k2,z2,e2,t2,p2⟩)=D:=⟨_,rfl⟩;rw [hD];obtain ⟨w1,hw1⟩:∃ w1,w1=w0.alloc (.cells #[.string (str k1),.int .i64 z1,.string (str e1),.int .i64 t1,.slice q1 n1 c1] 48):=⟨_,rfl⟩;have o1:Only [] w0 w1:=by rw [hw1];exact Only.alloc _ _
 have s1:w1.heap.size=w0.heap.size+1:=(by rw [hw1];simp);have r1:Row w1 (w0.heap.size) 48 [.string (str k1),.int .i64 z1,.string (str e1),.int .i64 t1,.slice q1 n1 c1]:=(by rw [hw1];exact Row.zV _ _ _ _ rfl);obtain ⟨w2,hw2⟩:∃ w2,w2=w1.alloc (.cells #[.string (str k2),.int .i64 z2,.string (str e2),.int .i64 t2,.slice q2 n2 c2] 48):=⟨_,rfl⟩;have o2:Only [] w1 w2:=(by rw [hw2];exact Only.alloc _ _);have s2:w2.heap.size=w0.heap.size+1+1:=(by rw [hw2];simp [s1]);have r2:Row w2 (w0.heap.size+1) 48 [.string (str k2),.int .i64 z2,.string (str e2),.int .i64 t2,.slice q2 n2 c2]:=by rw [← s1,hw2];exact Row.zV _ _ _ _ rfl
 replace r1:=r1.zB o2;have oAll:Only [] w0 w2:=(o1.zC o2);rw [hw1] at hw2;have Ha:=Lib.hid (ha.zB oAll);have Hb:=Lib.hid (hb.zB oAll);have HO:=Lib.hid oAll;have Hw:=Lib.hid hw2;have Hr1:=Lib.hid r1;have Hr2:=Lib.hid r2;have HDD:=Lib.hid hD;have Hn:Hid (p1.length=n1∧p2.length=n2):=Lib.hid ⟨hn1,hn2⟩;have a0:=r1.cell (i:=0) rfl;have a1:=r1.cell (i:=1) rfl;have a2:=r1.cell (i:=2) rfl;have a3:=r1.cell (i:=3) rfl;have a4:=r1.cell (i:=4) rfl;have b0:=r2.cell (i:=0) rfl;have b1:=r2.cell (i:=1) rfl;have b2:=r2.cell (i:=2) rfl
 have b3:=r2.cell (i:=3) rfl;have b4:=r2.cell (i:=4) rfl;clear hn1 hn2 ha hb oAll hw2 s2 s1 o1 o2 hw1 r1 r2 hD
 by_cases hk:k1=k2
 rotate_left
 ·have fk:=qH k1 k2;rw [decide_eq_false hk] at fk;have Hx:=Lib.hid hk;clear hk;have HD:Hid (D=false):=Lib.hid (by rw [← HDD.out];exact decide_eq_false (fun e=>Hx.out (congrArg yT.key e)));clear HDD
  go_enter Tryz.func24,Tryz.ntmps24
  go_upto_region 1 with (fail)
  rw [← Hw.out];go_wp2_with fail
  go_ret
  exact ⟨by rw [HD.out];rfl,HO.out⟩
 subst hk;have fk:=qH k1 k1;rw [decide_eq_true rfl] at fk
 by_cases hz:z1=z2
 rotate_left
 ·have fz:(z1 == z2)=false:=beq_eq_false_iff_ne.2 hz;have Hx:=Lib.hid hz;clear hz;have HD:Hid (D=false):=Lib.hid (by rw [← HDD.out];exact decide_eq_false (fun e=>Hx.out (congrArg yT.size e)));clear HDD
  go_enter Tryz.func24,Tryz.ntmps24
  go_upto_region 1 with (fail)
  rw [← Hw.out];go_wp2_with fail
  go_ret
  exact ⟨by rw [HD.out];rfl,HO.out⟩
 subst hz
 by_cases he:e1=e2
 rotate_left
 ·have fe:=qH e1 e2;rw [decide_eq_false he] at fe;have Hx:=Lib.hid he;clear he;have HD:Hid (D=false):=Lib.hid (by rw [← HDD.out];exact decide_eq_false (fun e=>Hx.out (congrArg yT.etag e)));clear HDD
  go_enter Tryz.func24,Tryz.ntmps24
  go_upto_region 1 with (fail)
  rw [← Hw.out];go_wp2_with fail
  go_ret
  exact ⟨by rw [HD.out];rfl,HO.out⟩
 subst he;have fe:=qH e1 e1;rw [decide_eq_true rfl] at fe
 by_cases ht:t1=t2
 rotate_left
 ·have ft:(t1 == t2)=false:=beq_eq_false_iff_ne.2 ht;have Hx:=Lib.hid ht;clear ht;have HD:Hid (D=false):=Lib.hid (by rw [← HDD.out];exact decide_eq_false (fun e=>Hx.out (congrArg yT.time e)));clear HDD
  go_enter Tryz.func24,Tryz.ntmps24
  go_upto_region 1 with (fail)
  rw [← Hw.out];go_wp2_with fail
  go_ret
  exact ⟨by rw [HD.out];rfl,HO.out⟩
 subst ht
 by_cases hln:n1=n2
 rotate_left
 ·have fl:((n1:Int) == (n2:Int))=false:=beq_eq_false_iff_ne.2 (by omega);have fl2:¬ ((n1:Int)=(n2:Int)):=(by omega);have Hx:=Lib.hid hln;clear hln;have HD:Hid (D=false):=Lib.hid (by rw [← HDD.out];exact decide_eq_false (fun e=>Hx.out (by have:=congrArg (fun x=>(x.pcs).length) e;rw [← Hn.out.1,← Hn.out.2];exact this)));clear HDD
  go_enter Tryz.func24,Tryz.ntmps24
  go_upto_region 1 with (fail)
  rw [← Hw.out];go_wp2_with fail
  go_ret
  exact ⟨by rw [HD.out];rfl,HO.out⟩
 subst hln
 go_enter Tryz.func24,Tryz.ntmps24
 go_upto_region 1 with (fail)
 rw [← Hw.out];go_wp2_with fail;clear a0 b0 a1 b1 a2 b2 a3 b3 a4 b4
 go_loopw [44] (fun a wl=>∃ i:Nat,a=.int .i64 (i:Int)∧i≤n1∧Hid (p1.take i=p2.take i)∧Hid (Only [] w2 wl)) (fun a _=>n1 - (intOf a).toNat)
 case atStart=>exact ⟨0,rfl,Nat.zero_le _,Lib.hid rfl,Lib.hid (Only.refl _ _)⟩
 case round =>
  obtain ⟨i,rfl,hi,HT,HOl⟩:=hrel
  by_cases hlt:i < n1
  ·obtain ⟨x,hx⟩:∃ x,p1[i]?=some x:=⟨_,List.getElem?_eq_getElem (by rw [Hn.out.1];exact hlt)⟩;obtain ⟨y,hy⟩:∃ y,p2[i]?=some y:=⟨_,List.getElem?_eq_getElem (by rw [Hn.out.2];exact hlt)⟩;have hrx:=(Ha.out.zB HOl.out).1;have hry:=(Hb.out.zB HOl.out).1;have hnx:p1.flatMap jB≠[]:=fun e'=>(by have:=flat_get jB 5 jC p1 _ x 0 hx (by omega);rw [e'] at this;cases this);have hny:p2.flatMap jB≠[]:=fun e'=>(by have:=flat_get jB 5 jC p2 _ y 0 hy (by omega);rw [e'] at this;cases this);obtain ⟨bx,ox,rfl,-⟩:=hrx.lt hnx
   obtain ⟨b_y,oy,rfl,-⟩:=hry.lt hny;have x0:=zK jC hrx hx (r:=0) rfl;have x1:=zK jC hrx hx (r:=1) rfl;have x2:=zK jC hrx hx (r:=2) rfl;have x3:=zK jC hrx hx (r:=3) rfl;have x4:=zK jC hrx hx (r:=4) rfl;have y0:=zK jC hry hy (r:=0) rfl;have y1:=zK jC hry hy (r:=1) rfl;have y2:=zK jC hry hy (r:=2) rfl;have y3:=zK jC hry hy (r:=3) rfl;have y4:=zK jC hry hy (r:=4) rfl;rw [Addr.add_lit,← Nat.add_assoc] at x0 x1 x2 x3 x4 y0 y1 y2 y3 y4
   rw [Nat.add_zero] at x0 y0;have za:=(Hr1.out.zB HOl.out).cell (i:=4) rfl;have zb:=(Hr2.out.zB HOl.out).cell (i:=4) rfl;have heq:=fun w=>zBA 9997 x y w;unfold pcV at heq;have Hx:=Lib.hid hx;have Hy:=Lib.hid hy;clear hrx hry hnx hny hx hy
   by_cases hxy:x=y
   ·simp only [decide_eq_true hxy] at heq;have HT2:Hid (p1.take (i+1)=p2.take (i+1)):=Lib.hid (by rw [List.take_add_one,List.take_add_one,HT.out,Hx.out,Hy.out,hxy]);clear hxy
    go_upto_region 6 with (fail)
    go_quiet (fail)
    have HO2:=Lib.hid (HOl.out.zC (Only.drewN wr nq));clear heq za zb x0 x1 x2 x3 x4 y0 y1 y2 y3 y4;go_wp2_with fail;refine ⟨⟨i+1,by go_num,by omega,HT2,HO2⟩,?_⟩
    simp [intOf];omega
   ·simp only [decide_eq_false hxy] at heq;have HD:Hid (D=false):=Lib.hid (by rw [← HDD.out];exact decide_eq_false (fun e=>hxy (by have h9:p1=p2:=congrArg yT.pcs e;have h8:=Hx.out;rw [h9,Hy.out] at h8;exact (Option.some.inj h8).symm)));clear hxy
    go_upto_region 6 with (fail)
    go_quiet (fail)
    have HO2:=Lib.hid (HOl.out.zC (Only.drewN wr nq));go_wp2_with fail
    go_ret
    exact ⟨by rw [HD.out];rfl,HO.out.zC HO2.out⟩
  ·obtain rfl:i=n1:=by omega
   have HD:Hid (D=true):=Lib.hid (by
    rw [← HDD.out];have h9:=HT.out;rw [List.take_of_length_le (by rw [Hn.out.1];exact Nat.le_refl _),List.take_of_length_le (by rw [Hn.out.2];exact Nat.le_refl _)] at h9
    rw [h9];simp)
   go_wp2_with fail
   go_ret
   exact ⟨by rw [HD.out];rfl,HO.out.zC HOl.out⟩
end
section
open Go.RowKit
set_option maxHeartbeats 16000000 in
theorem zFt (a b:qM) (w0:World) (ha:zIm w0 a) (hb:zIm w0 b) (hnb:a.u.parts.length≤1000000):Calls Tryz.prog 27 #[luV a,luV b] w0 fun e w'=>e=.returned (.bool (decide (a.u=b.u)))∧Only [] w0 w':=by
 obtain ⟨⟨i1,k1,p1⟩,q1,c1⟩:=a;obtain ⟨⟨i2,k2,p2⟩,q2,c2⟩:=b;obtain ⟨n1,hn1⟩:∃ n,p1.length=n:=⟨_,rfl⟩;obtain ⟨n2,hn2⟩:∃ n,p2.length=n:=⟨_,rfl⟩;unfold zIm at ha hb;dsimp only at ha hb hnb;rw [hn1] at ha hnb;rw [hn2] at hb;unfold luV;dsimp only;rw [hn1,hn2];obtain ⟨D,hD⟩:∃ D,decide ((⟨i1,k1,p1⟩:yP)=⟨i2,k2,p2⟩)=D:=⟨_,rfl⟩;rw [hD];obtain ⟨w1,hw1⟩:∃ w1,w1=w0.alloc (.cells #[.int .i64 i1.node,.int .i64 i1.boot,.int .i64 i1.seq,.string (str k1),.slice q1 n1 c1] 54):=⟨_,rfl⟩;have o1:Only [] w0 w1:=by rw [hw1];exact Only.alloc _ _
 have s1:w1.heap.size=w0.heap.size+1:=(by rw [hw1];simp);have r1:Row w1 (w0.heap.size) 54 [.int .i64 i1.node,.int .i64 i1.boot,.int .i64 i1.seq,.string (str k1),.slice q1 n1 c1]:=(by rw [hw1];exact Row.zV _ _ _ _ rfl);obtain ⟨w2,hw2⟩:∃ w2,w2=w1.alloc (.cells #[.int .i64 i2.node,.int .i64 i2.boot,.int .i64 i2.seq,.string (str k2),.slice q2 n2 c2] 54):=⟨_,rfl⟩;have o2:Only [] w1 w2:=(by rw [hw2];exact Only.alloc _ _);have s2:w2.heap.size=w0.heap.size+1+1:=(by rw [hw2];simp [s1]);have r2:Row w2 (w0.heap.size+1) 54 [.int .i64 i2.node,.int .i64 i2.boot,.int .i64 i2.seq,.string (str k2),.slice q2 n2 c2]:=by rw [← s1,hw2];exact Row.zV _ _ _ _ rfl
 replace r1:=r1.zB o2;have oAll:Only [] w0 w2:=(o1.zC o2);rw [hw1] at hw2;have Ha:=Lib.hid (ha.zB oAll);have Hb:=Lib.hid (hb.zB oAll);have HO:=Lib.hid oAll;have Hw:=Lib.hid hw2;have Hr1:=Lib.hid r1;have Hr2:=Lib.hid r2;have HDD:=Lib.hid hD;have Hn:Hid (p1.length=n1∧p2.length=n2):=Lib.hid ⟨hn1,hn2⟩;have a0:=r1.cell (i:=0) rfl;have a1:=r1.cell (i:=1) rfl;have a2:=r1.cell (i:=2) rfl;have a3:=r1.cell (i:=3) rfl;have a4:=r1.cell (i:=4) rfl;have b0:=r2.cell (i:=0) rfl;have b1:=r2.cell (i:=1) rfl;have b2:=r2.cell (i:=2) rfl
 have b3:=r2.cell (i:=3) rfl;have b4:=r2.cell (i:=4) rfl;clear hn1 hn2 ha hb oAll hw2 s2 s1 o1 o2 hw1 r1 r2 hD
 by_cases hi:i1=i2
 rotate_left
 ·have fi:=fun w=>xE 9998 i1 i2 w;unfold idV at fi;simp only [decide_eq_false hi] at fi;have Hx:=Lib.hid hi;clear hi;have HD:Hid (D=false):=Lib.hid (by rw [← HDD.out];exact decide_eq_false (fun e=>Hx.out (congrArg yP.id e)));clear HDD
  go_enter Tryz.func27,Tryz.ntmps27
  go_upto_region 1 with (fail)
  rw [← Hw.out];go_wp2_with fail
  go_ret
  exact ⟨by rw [HD.out];rfl,HO.out⟩
 subst hi;have fi:=fun w=>xE 9998 i1 i1 w;unfold idV at fi;simp only [decide_true] at fi
 by_cases hk:k1=k2
 rotate_left
 ·have fk:=qH k1 k2;rw [decide_eq_false hk] at fk;have Hx:=Lib.hid hk;clear hk;have HD:Hid (D=false):=Lib.hid (by rw [← HDD.out];exact decide_eq_false (fun e=>Hx.out (congrArg yP.key e)));clear HDD
  go_enter Tryz.func27,Tryz.ntmps27
  go_upto_region 1 with (fail)
  rw [← Hw.out];go_wp2_with fail
  go_ret
  exact ⟨by rw [HD.out];rfl,HO.out⟩
 subst hk;have fk:=qH k1 k1;rw [decide_eq_true rfl] at fk
 by_cases hln:n1=n2
 rotate_left
 ·have fl:((n1:Int) == (n2:Int))=false:=beq_eq_false_iff_ne.2 (by omega);have fl2:¬ ((n1:Int)=(n2:Int)):=(by omega);have Hx:=Lib.hid hln;clear hln;have HD:Hid (D=false):=Lib.hid (by rw [← HDD.out];exact decide_eq_false (fun e=>Hx.out (by have:=congrArg (fun x=>(x.parts).length) e;rw [← Hn.out.1,← Hn.out.2];exact this)));clear HDD
  go_enter Tryz.func27,Tryz.ntmps27
  go_upto_region 1 with (fail)
  rw [← Hw.out];go_wp2_with fail
  go_ret
  exact ⟨by rw [HD.out];rfl,HO.out⟩
 subst hln
 go_enter Tryz.func27,Tryz.ntmps27
 go_upto_region 1 with (fail)
 rw [← Hw.out];go_wp2_with fail;clear a0 b0 a1 b1 a2 b2 a3 b3 a4 b4
 go_loopw [30] (fun a wl=>∃ i:Nat,a=.int .i64 (i:Int)∧i≤n1∧Hid (p1.take i=p2.take i)∧Hid (Only [] w2 wl)) (fun a _=>n1 - (intOf a).toNat)
 case atStart=>exact ⟨0,rfl,Nat.zero_le _,Lib.hid rfl,Lib.hid (Only.refl _ _)⟩
 case round =>
  obtain ⟨i,rfl,hi,HT,HOl⟩:=hrel
  by_cases hlt:i < n1
  ·obtain ⟨x,hx⟩:∃ x,p1[i]?=some x:=⟨_,List.getElem?_eq_getElem (by rw [Hn.out.1];exact hlt)⟩;obtain ⟨y,hy⟩:∃ y,p2[i]?=some y:=⟨_,List.getElem?_eq_getElem (by rw [Hn.out.2];exact hlt)⟩;have hrx:=(Ha.out.zB HOl.out).1;have hry:=(Hb.out.zB HOl.out).1;have hnx:p1.flatMap zM≠[]:=fun e'=>(by have:=flat_get zM 6 zS p1 _ x 0 hx (by omega);rw [e'] at this;cases this);have hny:p2.flatMap zM≠[]:=fun e'=>(by have:=flat_get zM 6 zS p2 _ y 0 hy (by omega);rw [e'] at this;cases this);obtain ⟨bx,ox,rfl,-⟩:=hrx.lt hnx
   obtain ⟨b_y,oy,rfl,-⟩:=hry.lt hny;have x0:=zK zS hrx hx (r:=0) rfl;have x1:=zK zS hrx hx (r:=1) rfl;have x2:=zK zS hrx hx (r:=2) rfl;have x3:=zK zS hrx hx (r:=3) rfl;have x4:=zK zS hrx hx (r:=4) rfl;have x5:=zK zS hrx hx (r:=5) rfl;have y0:=zK zS hry hy (r:=0) rfl;have y1:=zK zS hry hy (r:=1) rfl;have y2:=zK zS hry hy (r:=2) rfl;have y3:=zK zS hry hy (r:=3) rfl;have y4:=zK zS hry hy (r:=4) rfl
   have y5:=zK zS hry hy (r:=5) rfl;rw [Addr.add_lit,← Nat.add_assoc] at x0 x1 x2 x3 x4 x5 y0 y1 y2 y3 y4 y5;rw [Nat.add_zero] at x0 y0;have za:=(Hr1.out.zB HOl.out).cell (i:=4) rfl;have zb:=(Hr2.out.zB HOl.out).cell (i:=4) rfl;have heq:=fun w=>zJd 9996 x y w;unfold ptV at heq;have Hx:=Lib.hid hx;have Hy:=Lib.hid hy;clear hrx hry hnx hny hx hy
   by_cases hxy:x=y
   ·simp only [decide_eq_true hxy] at heq;have HT2:Hid (p1.take (i+1)=p2.take (i+1)):=Lib.hid (by rw [List.take_add_one,List.take_add_one,HT.out,Hx.out,Hy.out,hxy]);clear hxy
    go_upto_region 6 with (fail)
    go_quiet (fail)
    have HO2:=Lib.hid (HOl.out.zC (Only.drewN wr nq));clear heq za zb x0 x1 x2 x3 x4 x5 y0 y1 y2 y3 y4 y5;go_wp2_with fail;refine ⟨⟨i+1,by go_num,by omega,HT2,HO2⟩,?_⟩
    simp [intOf];omega
   ·simp only [decide_eq_false hxy] at heq;have HD:Hid (D=false):=Lib.hid (by rw [← HDD.out];exact decide_eq_false (fun e=>hxy (by have h9:p1=p2:=congrArg yP.parts e;have h8:=Hx.out;rw [h9,Hy.out] at h8;exact (Option.some.inj h8).symm)));clear hxy
    go_upto_region 6 with (fail)
    go_quiet (fail)
    have HO2:=Lib.hid (HOl.out.zC (Only.drewN wr nq));go_wp2_with fail
    go_ret
    exact ⟨by rw [HD.out];rfl,HO.out.zC HO2.out⟩
  ·obtain rfl:i=n1:=by omega
   have HD:Hid (D=true):=Lib.hid (by
    rw [← HDD.out];have h9:=HT.out;rw [List.take_of_length_le (by rw [Hn.out.1];exact Nat.le_refl _),List.take_of_length_le (by rw [Hn.out.2];exact Nat.le_refl _)] at h9
    rw [h9];simp)
   go_wp2_with fail
   go_ret
   exact ⟨by rw [HD.out];rfl,HO.out.zC HOl.out⟩
end
end Go.Proofs.YtfeglnpmpgipiaaGreatDoor
