/- LdgPk, part 46: SameCtW. -/
import Derived.Test.YtfeglnpmpgipiaaGreatDoorLdgPk10
import Derived.Test.YtfeglnpmpgipiaaGreatDoorLdgPk39
set_option linter.unusedVariables false
set_option maxRecDepth 100000
set_option linter.unusedSimpArgs false
namespace Go.Proofs.YtfeglnpmpgipiaaGreatDoor
section
open Go.RowKit
set_option maxHeartbeats 16000000 in
theorem zFj (a b:qJ) (w0:World) (ha:yL w0 a) (hb:yL w0 b) (hsm:Small a):Calls Tryz.prog 18 #[lcV a,lcV b] w0 fun e w'=>e=.returned (.bool (decide (a.cat=b.cat)))∧Only [] w0 w':=by
 obtain ⟨h1,h2,h3⟩:a.bs.length≤100000∧a.fs.length≤100000∧∀ b∈a.bs,b.os.length≤100000∧b.us.length≤100000∧(∀ x∈b.os,x.o.pcs.length≤100000)∧∀ x∈b.us,x.u.parts.length≤100000:=⟨hsm.b,hsm.f,fun b hb=>hsm.o b hb⟩;obtain ⟨l1,p1,c1,j1,r1,e1⟩:=a;obtain ⟨l2,p2,c2,j2,r2,e2⟩:=b;obtain ⟨n1,hn1⟩:∃ n,l1.length=n:=⟨_,rfl⟩;obtain ⟨n2,hn2⟩:∃ n,l2.length=n:=⟨_,rfl⟩;obtain ⟨m1,hm1⟩:∃ n,j1.length=n:=⟨_,rfl⟩;obtain ⟨m2,hm2⟩:∃ n,j2.length=n:=⟨_,rfl⟩;dsimp only at h1 h2 h3;rw [hn1] at h1;rw [hm1] at h2;unfold lcV;dsimp only
 rw [hn1,hn2,hm1,hm2];obtain ⟨D,hD⟩:∃ D,decide ((⟨l1,p1,c1,j1,r1,e1⟩:qJ).cat=(⟨l2,p2,c2,j2,r2,e2⟩:qJ).cat)=D:=⟨_,rfl⟩;rw [hD];unfold qJ.cat at hD;dsimp only at hD;obtain ⟨w1,hw1⟩:∃ w1,w1=w0.alloc (.cells #[.slice p1 n1 c1,.slice r1 m1 e1] 29):=⟨_,rfl⟩;have o1:Only [] w0 w1:=(by rw [hw1];exact Only.alloc _ _);have s1:w1.heap.size=w0.heap.size+1:=(by rw [hw1];simp);have r1:Row w1 (w0.heap.size) 29 [.slice p1 n1 c1,.slice r1 m1 e1]:=(by rw [hw1];exact Row.zV _ _ _ _ rfl);obtain ⟨w2,hw2⟩:∃ w2,w2=w1.alloc (.cells #[.slice p2 n2 c2,.slice r2 m2 e2] 29):=⟨_,rfl⟩
 have o2:Only [] w1 w2:=(by rw [hw2];exact Only.alloc _ _);have s2:w2.heap.size=w0.heap.size+1+1:=(by rw [hw2];simp [s1]);have r2:Row w2 (w0.heap.size+1) 29 [.slice p2 n2 c2,.slice r2 m2 e2]:=(by rw [← s1,hw2];exact Row.zV _ _ _ _ rfl);replace r1:=r1.zB o2;have oAll:Only [] w0 w2:=(o1.zC o2);rw [hw1] at hw2;have Ha:=Lib.hid (ha.zB oAll);have Hb:=Lib.hid (hb.zB oAll);have HO:=Lib.hid oAll;have Hw:=Lib.hid hw2;have Hr1:=Lib.hid r1;have Hr2:=Lib.hid r2;have HDD:=Lib.hid hD;have H3:=Lib.hid h3
 skip
 have Hn:Hid (l1.length=n1∧l2.length=n2∧j1.length=m1∧j2.length=m2):=Lib.hid ⟨hn1,hn2,hm1,hm2⟩;have a0:=r1.cell (i:=0) rfl;have a1:=r1.cell (i:=1) rfl;have b0:=r2.cell (i:=0) rfl;have b1:=r2.cell (i:=1) rfl;clear hn1 hn2 hm1 hm2 ha hb oAll hw2 s2 s1 o1 o2 hw1 r1 r2 hD h3
 by_cases hln:n1=n2
 rotate_left
 ·have fl:((n1:Int) == (n2:Int))=false:=beq_eq_false_iff_ne.2 (by omega);have Hx:=Lib.hid hln;clear hln;have HD:Hid (D=false):=Lib.hid (by rw [← HDD.out];exact decide_eq_false (fun e=>Hx.out (by have h9:=congrArg (fun x=>(Cat.qL x).length) e;simp only [List.length_map] at h9;rw [← Hn.out.1,← Hn.out.2.1];exact h9)));clear HDD
  go_enter Tryz.func18,Tryz.ntmps18
  go_upto_region 1 with (fail)
  rw [← Hw.out];go_wp2_with fail
  go_ret
  exact ⟨by rw [HD.out];rfl,HO.out⟩
 subst hln
 by_cases hln:m1=m2
 rotate_left
 ·have fl:((m1:Int) == (m2:Int))=false:=beq_eq_false_iff_ne.2 (by omega);have Hx:=Lib.hid hln;clear hln;have HD:Hid (D=false):=Lib.hid (by rw [← HDD.out];exact decide_eq_false (fun e=>Hx.out (by have h9:=congrArg (fun x=>(Cat.yS x).length) e;simp only [List.length_map] at h9;rw [← Hn.out.2.2.1,← Hn.out.2.2.2];exact h9)));clear HDD
  go_enter Tryz.func18,Tryz.ntmps18
  go_upto_region 1 with (fail)
  rw [← Hw.out];go_wp2_with fail
  go_ret
  exact ⟨by rw [HD.out];rfl,HO.out⟩
 subst hln
 go_enter Tryz.func18,Tryz.ntmps18
 go_upto_region 1 with (fail)
 rw [← Hw.out];go_wp2_with fail;clear a0 b0 a1 b1
 go_loopw [26] (fun a wl=>∃ i:Nat,a=.int .i64 (i:Int)∧i≤n1∧Hid ((l1.take i).map LBk.b=(l2.take i).map LBk.b)∧Hid (Only [] w2 wl)) (fun a _=>n1 - (intOf a).toNat)
 case atStart=>exact ⟨0,rfl,Nat.zero_le _,Lib.hid rfl,Lib.hid (Only.refl _ _)⟩
 case round =>
  obtain ⟨i,rfl,hi,HT,HOl⟩:=hrel
  by_cases hlt:i < n1
  ·obtain ⟨x,hx⟩:∃ x,l1[i]?=some x:=⟨_,List.getElem?_eq_getElem (by rw [Hn.out.1];exact hlt)⟩;obtain ⟨y,hy⟩:∃ y,l2[i]?=some y:=⟨_,List.getElem?_eq_getElem (by rw [Hn.out.2.1];exact hlt)⟩;have hrx:=(Ha.out.zB HOl.out).sb.1;have hry:=(Hb.out.zB HOl.out).sb.1;dsimp only at hrx hry;have hnx:l1.flatMap zD≠[]:=fun e'=>(by have:=flat_get zD 5 zP l1 _ x 0 hx (by omega);rw [e'] at this;cases this);have hny:l2.flatMap zD≠[]:=fun e'=>(by have:=flat_get zD 5 zP l2 _ y 0 hy (by omega);rw [e'] at this;cases this);obtain ⟨bx,ox,rfl,-⟩:=hrx.lt hnx
   obtain ⟨b_y,oy,rfl,-⟩:=hry.lt hny;have x0:=zK zP hrx hx (r:=0) rfl;have x1:=zK zP hrx hx (r:=1) rfl;have x2:=zK zP hrx hx (r:=2) rfl;have x3:=zK zP hrx hx (r:=3) rfl;have x4:=zK zP hrx hx (r:=4) rfl;have y0:=zK zP hry hy (r:=0) rfl;have y1:=zK zP hry hy (r:=1) rfl;have y2:=zK zP hry hy (r:=2) rfl;have y3:=zK zP hry hy (r:=3) rfl;have y4:=zK zP hry hy (r:=4) rfl;rw [Addr.add_lit,← Nat.add_assoc] at x0 x1 x2 x3 x4 y0 y1 y2 y3 y4
   rw [Nat.add_zero] at x0 y0;have za:=(Hr1.out.zB HOl.out).cell (i:=0) rfl;have zb:=(Hr2.out.zB HOl.out).cell (i:=0) rfl;have hcall:=fun W (h:Only [] w2 W)=>zFo x y W ((Ha.out.bk x (List.mem_of_getElem? hx)).zB h) ((Hb.out.bk y (List.mem_of_getElem? hy)).zB h) (H3.out x (List.mem_of_getElem? hx)).1 (H3.out x (List.mem_of_getElem? hx)).2.1 (H3.out x (List.mem_of_getElem? hx)).2.2.1 (H3.out x (List.mem_of_getElem? hx)).2.2.2;unfold lbV at hcall;have Hx:=Lib.hid hx;have Hy:=Lib.hid hy;clear hrx hry hnx hny hx hy
   by_cases hxy:x.b=y.b
   ·simp only [decide_eq_true hxy] at hcall;have HT2:Hid ((l1.take (i+1)).map LBk.b=(l2.take (i+1)).map LBk.b):=Lib.hid (by rw [List.take_add_one,List.take_add_one,Hx.out,Hy.out,List.map_append,List.map_append,HT.out];simp [hxy]);clear hxy
    go_upto_region 6 with (fail)
    refine qG (Only []) [[(2,none)],[(29,some 0)],[(5,none)],[(30,some 1),(31,some 0)],[(32,some 0)],[(3,none)],[(34,some 0)],[(5,none)],[(35,some 1),(36,some 0)],[(37,some 0)],[(33,some 5),(38,some 0)],[(39,some 0)]] [(40,0)] [none,none,none,none,none,none,none,none,none,none,none,none,none,none,none,none,none,none,none,none,none,none,none,none,none,none,none,none,none,some 29,some 30,some 31,some 32,some 33,some 34,some 35,some 36,some 37,some 38,some 39,some 40,none,none,none,none,none,none,none,none,none,none,none,none,none,none,none,none,none,none,none] (by kernel_rfl) rfl (by kernel_rfl) (fun _=>Only.refl _ _) (fun _ _ _ h k=>h.zC k) (Only.drew _) (by kernel_rfl) ?_
    apply zI
    ·rintro a w hR ⟨(e2:_=_),-⟩;refine zA rfl fun K hK=>?_;go_simp;exact hK _ _ rfl (Only.refl _ _)
    apply zI
    ·rintro a w hR ⟨(e29:_=_),-⟩;refine zA rfl fun K hK=>?_;have gz:=hR.cell za (by simp);go_simp;exact hK _ _ rfl (Only.refl _ _)
    apply zI
    ·rintro a w hR ⟨(e5:_=_),-⟩;refine zA rfl fun K hK=>?_;go_simp;exact hK _ _ rfl (Only.refl _ _)
    apply zI
    ·rintro a w hR ⟨(e30:_=_),(e31:_=_),-⟩;refine zA rfl fun K hK=>?_;have hlti:(i:Int) < (n1:Int):=(by omega);go_simp;exact hK _ _ rfl (Only.refl _ _)
    apply zI
    ·rintro a w hR ⟨(e32:_=_),-⟩;refine zA rfl fun K hK=>?_;have g0:=hR.cell x0 (by simp);have g1:=hR.cell x1 (by simp);have g2:=hR.cell x2 (by simp);have g3:=hR.cell x3 (by simp);have g4:=hR.cell x4 (by simp);go_simp;exact hK _ _ rfl (Only.refl _ _)
    apply zI
    ·rintro a w hR ⟨(e3:_=_),-⟩;refine zA rfl fun K hK=>?_;go_simp;exact hK _ _ rfl (Only.refl _ _)
    apply zI
    ·rintro a w hR ⟨(e34:_=_),-⟩;refine zA rfl fun K hK=>?_;have gz:=hR.cell zb (by simp);go_simp;exact hK _ _ rfl (Only.refl _ _)
    apply zI
    ·rintro a w hR ⟨(e5:_=_),-⟩;refine zA rfl fun K hK=>?_;go_simp;exact hK _ _ rfl (Only.refl _ _)
    apply zI
    ·rintro a w hR ⟨(e35:_=_),(e36:_=_),-⟩;refine zA rfl fun K hK=>?_;have hlti:(i:Int) < (n1:Int):=(by omega);go_simp;exact hK _ _ rfl (Only.refl _ _)
    apply zI
    ·rintro a w hR ⟨(e37:_=_),-⟩;refine zA rfl fun K hK=>?_;have g0:=hR.cell y0 (by simp);have g1:=hR.cell y1 (by simp);have g2:=hR.cell y2 (by simp);have g3:=hR.cell y3 (by simp);have g4:=hR.cell y4 (by simp);go_simp;exact hK _ _ rfl (Only.refl _ _)
    apply zI
    ·rintro a w hR ⟨(e33:_=_),(e38:_=_),-⟩;refine zA rfl fun K hK=>?_;go_simp;(with_reducible refine (hcall w (HOl.out.zC hR)).mono ?_);rintro e w' ⟨rfl,o'⟩;exact hK _ _ rfl o'
    apply zI
    ·rintro a w hR ⟨(e39:_=_),-⟩;refine zA rfl fun K hK=>?_;go_simp;exact hK _ _ rfl (Only.refl _ _)
    intro f6 w6 hR6 hf;dsimp only [qD];obtain ⟨e40,-⟩:=hf;replace e40:f6 40=_:=e40;rw [e40];have HO2:=Lib.hid (HOl.out.zC hR6);clear hR6;clear hcall za zb x0 x1 x2 x3 x4 y0 y1 y2 y3 y4;go_wp2_with fail;refine ⟨⟨i+1,by go_num,by omega,HT2,HO2⟩,?_⟩
    simp [intOf];omega
   ·simp only [decide_eq_false hxy] at hcall;have HD:Hid (D=false):=Lib.hid (by rw [← HDD.out];exact decide_eq_false (fun e=>hxy (by have h9:=congrArg Cat.qL e;have h8:=congrArg (fun z=>z[i]?) h9;dsimp only at h8;rw [List.getElem?_map,List.getElem?_map,Hx.out,Hy.out] at h8;exact Option.some.inj h8)));clear hxy
    go_upto_region 6 with (fail)
    refine qG (Only []) [[(2,none)],[(29,some 0)],[(5,none)],[(30,some 1),(31,some 0)],[(32,some 0)],[(3,none)],[(34,some 0)],[(5,none)],[(35,some 1),(36,some 0)],[(37,some 0)],[(33,some 5),(38,some 0)],[(39,some 0)]] [(40,0)] [none,none,none,none,none,none,none,none,none,none,none,none,none,none,none,none,none,none,none,none,none,none,none,none,none,none,none,none,none,some 29,some 30,some 31,some 32,some 33,some 34,some 35,some 36,some 37,some 38,some 39,some 40,none,none,none,none,none,none,none,none,none,none,none,none,none,none,none,none,none,none,none] (by kernel_rfl) rfl (by kernel_rfl) (fun _=>Only.refl _ _) (fun _ _ _ h k=>h.zC k) (Only.drew _) (by kernel_rfl) ?_
    apply zI
    ·rintro a w hR ⟨(e2:_=_),-⟩;refine zA rfl fun K hK=>?_;go_simp;exact hK _ _ rfl (Only.refl _ _)
    apply zI
    ·rintro a w hR ⟨(e29:_=_),-⟩;refine zA rfl fun K hK=>?_;have gz:=hR.cell za (by simp);go_simp;exact hK _ _ rfl (Only.refl _ _)
    apply zI
    ·rintro a w hR ⟨(e5:_=_),-⟩;refine zA rfl fun K hK=>?_;go_simp;exact hK _ _ rfl (Only.refl _ _)
    apply zI
    ·rintro a w hR ⟨(e30:_=_),(e31:_=_),-⟩;refine zA rfl fun K hK=>?_;have hlti:(i:Int) < (n1:Int):=(by omega);go_simp;exact hK _ _ rfl (Only.refl _ _)
    apply zI
    ·rintro a w hR ⟨(e32:_=_),-⟩;refine zA rfl fun K hK=>?_;have g0:=hR.cell x0 (by simp);have g1:=hR.cell x1 (by simp);have g2:=hR.cell x2 (by simp);have g3:=hR.cell x3 (by simp);have g4:=hR.cell x4 (by simp);go_simp;exact hK _ _ rfl (Only.refl _ _)
    apply zI
    ·rintro a w hR ⟨(e3:_=_),-⟩;refine zA rfl fun K hK=>?_;go_simp;exact hK _ _ rfl (Only.refl _ _)
    apply zI
    ·rintro a w hR ⟨(e34:_=_),-⟩;refine zA rfl fun K hK=>?_;have gz:=hR.cell zb (by simp);go_simp;exact hK _ _ rfl (Only.refl _ _)
    apply zI
    ·rintro a w hR ⟨(e5:_=_),-⟩;refine zA rfl fun K hK=>?_;go_simp;exact hK _ _ rfl (Only.refl _ _)
    apply zI
    ·rintro a w hR ⟨(e35:_=_),(e36:_=_),-⟩;refine zA rfl fun K hK=>?_;have hlti:(i:Int) < (n1:Int):=(by omega);go_simp;exact hK _ _ rfl (Only.refl _ _)
    apply zI
    ·rintro a w hR ⟨(e37:_=_),-⟩;refine zA rfl fun K hK=>?_;have g0:=hR.cell y0 (by simp);have g1:=hR.cell y1 (by simp);have g2:=hR.cell y2 (by simp);have g3:=hR.cell y3 (by simp);have g4:=hR.cell y4 (by simp);go_simp;exact hK _ _ rfl (Only.refl _ _)
    apply zI
    ·rintro a w hR ⟨(e33:_=_),(e38:_=_),-⟩;refine zA rfl fun K hK=>?_;go_simp;(with_reducible refine (hcall w (HOl.out.zC hR)).mono ?_);rintro e w' ⟨rfl,o'⟩;exact hK _ _ rfl o'
    apply zI
    ·rintro a w hR ⟨(e39:_=_),-⟩;refine zA rfl fun K hK=>?_;go_simp;exact hK _ _ rfl (Only.refl _ _)
    intro f6 w6 hR6 hf;dsimp only [qD];obtain ⟨e40,-⟩:=hf;replace e40:f6 40=_:=e40;rw [e40];have HO2:=Lib.hid (HOl.out.zC hR6);clear hR6;clear hcall za zb x0 x1 x2 x3 x4 y0 y1 y2 y3 y4;go_wp2_with fail
    go_ret
    exact ⟨by rw [HD.out];rfl,HO.out.zC HO2.out⟩
  ·obtain rfl:i=n1:=(by omega);rw [List.take_of_length_le (by rw [Hn.out.1];exact Nat.le_refl _),List.take_of_length_le (by rw [Hn.out.2.1];exact Nat.le_refl _)] at HT;have HT1:=HT;have HOm:=HOl;have za:=(Hr1.out.zB HOl.out).cell (i:=1) rfl;clear HT HOl;go_wp2_with fail;clear za
   go_loopw [45] (fun a wl=>∃ i2:Nat,a=.int .i64 (i2:Int)∧i2≤m1∧Hid (j1.take i2=j2.take i2)∧Hid (Only [] w2 wl)) (fun a _=>m1 - (intOf a).toNat)
   case atStart=>exact ⟨0,rfl,Nat.zero_le _,Lib.hid rfl,HOm⟩
   case round =>
    obtain ⟨i2,rfl,hi,HT,HOl⟩:=hrel
    by_cases hlt:i2 < m1
    ·obtain ⟨x,hx⟩:∃ x,j1[i2]?=some x:=⟨_,List.getElem?_eq_getElem (by rw [Hn.out.2.2.1];exact hlt)⟩;obtain ⟨y,hy⟩:∃ y,j2[i2]?=some y:=⟨_,List.getElem?_eq_getElem (by rw [Hn.out.2.2.2];exact hlt)⟩;have hrx:=(Ha.out.zB HOl.out).sf.1;have hry:=(Hb.out.zB HOl.out).sf.1;dsimp only at hrx hry;have hnx:j1.flatMap zL≠[]:=fun e'=>(by have:=flat_get zL 3 zZ j1 _ x 0 hx (by omega);rw [e'] at this;cases this);have hny:j2.flatMap zL≠[]:=fun e'=>by have:=flat_get zL 3 zZ j2 _ y 0 hy (by omega);rw [e'] at this;cases this
     obtain ⟨bx,ox,rfl,-⟩:=hrx.lt hnx;obtain ⟨b_y,oy,rfl,-⟩:=hry.lt hny;have x0:=zK zZ hrx hx (r:=0) rfl;have x1:=zK zZ hrx hx (r:=1) rfl;have x2:=zK zZ hrx hx (r:=2) rfl;have y0:=zK zZ hry hy (r:=0) rfl;have y1:=zK zZ hry hy (r:=1) rfl;have y2:=zK zZ hry hy (r:=2) rfl;rw [Addr.add_lit,← Nat.add_assoc] at x0 x1 x2 y0 y1 y2;rw [Nat.add_zero] at x0 y0;have za:=(Hr1.out.zB HOl.out).cell (i:=1) rfl;have zb:=(Hr2.out.zB HOl.out).cell (i:=1) rfl;have hcall:=fun w=>xE 9998 x y w
     unfold idV at hcall;have Hx:=Lib.hid hx;have Hy:=Lib.hid hy;clear hrx hry hnx hny hx hy
     by_cases hxy:x=y
     ·simp only [decide_eq_true hxy] at hcall;have HT2:Hid (j1.take (i2+1)=j2.take (i2+1)):=Lib.hid (by rw [List.take_add_one,List.take_add_one,Hx.out,Hy.out,HT.out,hxy]);clear hxy
      go_upto_region 12 with (fail)
      go_quiet (fail)
      have HO2:=Lib.hid (HOl.out.zC (Only.drewN wr nq));clear hcall za zb x0 x1 x2 y0 y1 y2;go_wp2_with fail;refine ⟨⟨i2+1,by go_num,by omega,HT2,HO2⟩,?_⟩
      simp [intOf];omega
     ·simp only [decide_eq_false hxy] at hcall;have HD:Hid (D=false):=Lib.hid (by rw [← HDD.out];exact decide_eq_false (fun e=>hxy (by have h9:=congrArg Cat.yS e;have h8:=congrArg (fun z=>z[i2]?) h9;dsimp only at h8;rw [Hx.out,Hy.out] at h8;exact Option.some.inj h8)));clear hxy
      go_upto_region 12 with (fail)
      go_quiet (fail)
      have HO2:=Lib.hid (HOl.out.zC (Only.drewN wr nq));clear hcall za zb x0 x1 x2 y0 y1 y2;go_wp2_with fail
      go_ret
      exact ⟨by rw [HD.out];rfl,HO.out.zC HO2.out⟩
    ·obtain rfl:i2=m1:=(by omega);rw [List.take_of_length_le (by rw [Hn.out.2.2.1];exact Nat.le_refl _),List.take_of_length_le (by rw [Hn.out.2.2.2];exact Nat.le_refl _)] at HT
     have HD:Hid (D=true):=Lib.hid (by
      rw [← HDD.out]
      exact decide_eq_true (by rw [HT1.out,HT.out]))
     go_wp2_with fail
     go_ret
     exact ⟨by rw [HD.out];rfl,HO.out.zC HOl.out⟩
end
end Go.Proofs.YtfeglnpmpgipiaaGreatDoor
