/- CatPk, part 31: FindUpW, InForm10L. -/
import Derived.Test.YtfeglnpmpgipiaaGreatDoorCatPk11
import Derived.Test.YtfeglnpmpgipiaaGreatDoorCatPk13
set_option linter.unusedVariables false
set_option maxRecDepth 100000
set_option linter.unusedSimpArgs false
namespace Go.Proofs.YtfeglnpmpgipiaaGreatDoor
section
open Go.RowKit
set_option maxHeartbeats 8000000 in
theorem bsfUp_any (p:Option Addr) (n c:Nat) (xs:List LUpl) (k:Cid) (w0:World) (hn:xs.length=n) (hb:n≤1000000) (hp:p=none→n=0) (hx:Rd w0 p (xs.flatMap luCells)) (hs:SortB LUpl.id ltI xs) :
  Calls Tryz.prog 111 #[.slice p n c,idV k,.func (.func 70) #[] #[]] w0 fun e w'=>e=.returned (.tuple #[.int .i64 ((posL LUpl.id ltI xs k:Nat):Int),.bool (thereL LUpl.id ltI xs k)])∧Only [] w0 w':=by
 have Hx:=Lib.hid hx;have Hs:=Lib.hid hs;have Hn:=Lib.hid hn;have Hp:=Lib.hid hp;clear hx hs hn hp;obtain ⟨w1,hw1⟩:∃ w1,w1=w0.alloc (.cells #[.int .i64 k.node,.int .i64 k.boot,.int .i64 k.seq] 31):=⟨_,rfl⟩;have Hk:=Lib.hid (show Row w1 w0.heap.size 31 (idCells k) by rw [hw1];exact Row.newOf _ _ _ _ rfl);have Ho1:=Lib.hid (show Only [] w0 w1 by rw [hw1];exact Only.alloc _ _);have Hw1:=Lib.hid hw1;clear hw1;unfold idV
 go_enter Tryz.func111,Tryz.ntmps111
 go_wp2_with fail;rw [← Hw1.out];clear Hw1
 go_loopw [9,10] (fun s9 s10 wr=>∃ i j:Nat,s9=.int .i64 (i:Int)∧s10=.int .i64 (j:Int)∧i≤j∧j≤n∧Hid ((∀ x,0 < i→xs[i - 1]?=some x→ltI (LUpl.id x) k)∧(∀ x,xs[j]?=some x→¬ ltI (LUpl.id x) k))∧Hid (Only [] w1 wr)) (fun s9 s10 _=>(intOf s10).toNat - (intOf s9).toNat)
 case atStart=>exact ⟨0,n,rfl,rfl,Nat.zero_le _,Nat.le_refl _,Lib.hid ⟨fun x h=>absurd h (by omega),fun x h=>by have:=(List.getElem?_eq_some_iff.1 h).1;rw [Hn.out] at this;omega⟩,Lib.hid (Only.refl _ _)⟩
 case round =>
  obtain ⟨i,j,rfl,rfl,hij,hjn,HI,HO⟩:=hrel
  by_cases hlt:i < j
  ·obtain ⟨x,hxx⟩:∃ x,xs[(i+j) / 2]?=some x:=⟨_,List.getElem?_eq_getElem (by rw [Hn.out];omega)⟩;have hrd:=Hx.out.only0 (Ho1.out.trans0 HO.out);have kr:=Hk.out.only0 HO.out;have k0:=kr.cell (i:=0) rfl;have k1:=kr.cell (i:=1) rfl;have k2:=kr.cell (i:=2) rfl;have hne:xs.flatMap luCells≠[]:=fun e'=>(by have:=flat_get luCells 5 luCells_len xs _ x 0 hxx (by omega);rw [e'] at this;cases this);obtain ⟨b,off,rfl,-⟩:=hrd.lt hne;have x0:=rd_elem luCells_len hrd hxx (r:=0) rfl;have x1:=rd_elem luCells_len hrd hxx (r:=1) rfl;have x2:=rd_elem luCells_len hrd hxx (r:=2) rfl
   have x3:=rd_elem luCells_len hrd hxx (r:=3) rfl;have x4:=rd_elem luCells_len hrd hxx (r:=4) rfl;rw [Addr.add_lit,← Nat.add_assoc] at x0 x1 x2 x3 x4;rw [Nat.add_zero] at x0;have hby:=fun w=>byId_any x k w;have Hxx:=Lib.hid hxx;unfold luV idV at hby;have hmid:(i+j) / 2 < n:=(by omega);clear hrd hne kr hxx
   by_cases hl:ltI (LUpl.id x) k
   ·rw [decide_eq_true hl] at hby;unfold sgn at hby;rw [if_pos rfl] at hby;have Hl:=Lib.hid hl;clear hl
    go_upto_region 5 with (fail)
    refine wp_region_rg2 (Only []) [[(2,none)],[(0,none)],[(11,none)],[(25,some 1),(26,some 0)],[(27,some 0)],[(4,none)],[(24,some 5),(28,some 1),(29,some 0)],[(30,some 0)]] [(31,0)] [none,none,none,none,none,none,none,none,none,none,none,none,none,none,none,none,none,none,none,none,none,none,none,none,some 24,some 25,some 26,some 27,some 28,some 29,some 30,some 31,none,none,none,none,none,none,none,none,none,none,none,none,none,none,none,none,none] (by kernel_rfl) rfl (by kernel_rfl) (fun _=>Only.refl _ _) (fun _ _ _ h k=>h.trans0 k) (Only.drew _) (by kernel_rfl) ?_
    apply rg_ev
    ·rintro a w hR ⟨(e2:_=_),-⟩;refine rg_plain rfl fun K hK=>?_;go_simp;exact hK _ _ rfl (Only.refl _ _)
    apply rg_ev
    ·rintro a w hR ⟨(e0:_=_),-⟩;refine rg_plain rfl fun K hK=>?_;go_simp;exact hK _ _ rfl (Only.refl _ _)
    apply rg_ev
    ·rintro a w hR ⟨(e11:_=_),-⟩;refine rg_plain rfl fun K hK=>?_;go_simp;exact hK _ _ rfl (Only.refl _ _)
    apply rg_ev
    ·rintro a w hR ⟨(e25:_=_),(e26:_=_),-⟩;refine rg_plain rfl fun K hK=>?_;have hix:0≤((i:Int)+(j:Int)) / 2∧((i:Int)+(j:Int)) / 2 < (n:Int):=(by omega);have hix2:(((i:Int)+(j:Int)) / 2).toNat=(i+j) / 2:=(by omega);go_simp;exact hK _ _ rfl (Only.refl _ _)
    apply rg_ev
    ·rintro a w hR ⟨(e27:_=_),-⟩;refine rg_plain rfl fun K hK=>?_;have g0:=hR.cell x0 (by simp);have g1:=hR.cell x1 (by simp);have g2:=hR.cell x2 (by simp);have g3:=hR.cell x3 (by simp);have g4:=hR.cell x4 (by simp);go_simp;exact hK _ _ rfl (Only.refl _ _)
    apply rg_ev
    ·rintro a w hR ⟨(e4:_=_),-⟩;refine rg_plain rfl fun K hK=>?_;have g0:=hR.cell k0 (by simp);have g1:=hR.cell k1 (by simp);have g2:=hR.cell k2 (by simp);go_simp;exact hK _ _ rfl (Only.refl _ _)
    apply rg_ev
    ·rintro a w hR ⟨(e24:_=_),(e28:_=_),(e29:_=_),-⟩;refine rg_plain rfl fun K hK=>?_;go_simp;(with_reducible refine (hby w).mono ?_);rintro e w' ⟨rfl,o'⟩;exact hK _ _ rfl o'
    apply rg_ev
    ·rintro a w hR ⟨(e30:_=_),-⟩;refine rg_plain rfl fun K hK=>?_;go_simp;exact hK _ _ rfl (Only.refl _ _)
    intro f5 w5 hR5 hf;dsimp only [mergeT];obtain ⟨e31,-⟩:=hf;replace e31:f5 31=_:=e31;rw [e31];clear hby k0 k1 k2 x0 x1 x2 x3 x4
    have HI2:Hid ((∀ x,0 < (i+j) / 2+1→xs[(i+j) / 2+1 - 1]?=some x→ltI (LUpl.id x) k)∧(∀ x,xs[j]?=some x→¬ ltI (LUpl.id x) k)):=Lib.hid ⟨fun y _ hy=>by
     rw [Nat.add_sub_cancel,Hxx.out] at hy
     cases hy
     exact Hl.out,HI.out.2⟩
    have HO2:=Lib.hid (HO.out.trans0 hR5);clear hR5;go_wp2_with fail;refine ⟨⟨(i+j) / 2+1,j,by go_num,rfl,by omega,hjn,HI2,HO2⟩,?_⟩
    simp [intOf];omega
   ·rw [decide_eq_false hl] at hby;unfold sgn at hby;rw [if_neg (by simp)] at hby;have Hl:=Lib.hid hl
    have HI2:Hid ((∀ x,0 < i→xs[i - 1]?=some x→ltI (LUpl.id x) k)∧(∀ x,xs[(i+j) / 2]?=some x→¬ ltI (LUpl.id x) k)):=Lib.hid ⟨HI.out.1,fun y hy=>by
     rw [Hxx.out] at hy
     cases hy
     exact Hl.out⟩
    clear hl
    by_cases hk:LUpl.id x=k
    ·rw [decide_eq_true hk,if_pos rfl] at hby;clear hk
     go_upto_region 5 with (fail)
     refine wp_region_rg2 (Only []) [[(2,none)],[(0,none)],[(11,none)],[(25,some 1),(26,some 0)],[(27,some 0)],[(4,none)],[(24,some 5),(28,some 1),(29,some 0)],[(30,some 0)]] [(31,0)] [none,none,none,none,none,none,none,none,none,none,none,none,none,none,none,none,none,none,none,none,none,none,none,none,some 24,some 25,some 26,some 27,some 28,some 29,some 30,some 31,none,none,none,none,none,none,none,none,none,none,none,none,none,none,none,none,none] (by kernel_rfl) rfl (by kernel_rfl) (fun _=>Only.refl _ _) (fun _ _ _ h k=>h.trans0 k) (Only.drew _) (by kernel_rfl) ?_
     apply rg_ev
     ·rintro a w hR ⟨(e2:_=_),-⟩;refine rg_plain rfl fun K hK=>?_;go_simp;exact hK _ _ rfl (Only.refl _ _)
     apply rg_ev
     ·rintro a w hR ⟨(e0:_=_),-⟩;refine rg_plain rfl fun K hK=>?_;go_simp;exact hK _ _ rfl (Only.refl _ _)
     apply rg_ev
     ·rintro a w hR ⟨(e11:_=_),-⟩;refine rg_plain rfl fun K hK=>?_;go_simp;exact hK _ _ rfl (Only.refl _ _)
     apply rg_ev
     ·rintro a w hR ⟨(e25:_=_),(e26:_=_),-⟩;refine rg_plain rfl fun K hK=>?_;have hix:0≤((i:Int)+(j:Int)) / 2∧((i:Int)+(j:Int)) / 2 < (n:Int):=(by omega);have hix2:(((i:Int)+(j:Int)) / 2).toNat=(i+j) / 2:=(by omega);go_simp;exact hK _ _ rfl (Only.refl _ _)
     apply rg_ev
     ·rintro a w hR ⟨(e27:_=_),-⟩;refine rg_plain rfl fun K hK=>?_;have g0:=hR.cell x0 (by simp);have g1:=hR.cell x1 (by simp);have g2:=hR.cell x2 (by simp);have g3:=hR.cell x3 (by simp);have g4:=hR.cell x4 (by simp);go_simp;exact hK _ _ rfl (Only.refl _ _)
     apply rg_ev
     ·rintro a w hR ⟨(e4:_=_),-⟩;refine rg_plain rfl fun K hK=>?_;have g0:=hR.cell k0 (by simp);have g1:=hR.cell k1 (by simp);have g2:=hR.cell k2 (by simp);go_simp;exact hK _ _ rfl (Only.refl _ _)
     apply rg_ev
     ·rintro a w hR ⟨(e24:_=_),(e28:_=_),(e29:_=_),-⟩;refine rg_plain rfl fun K hK=>?_;go_simp;(with_reducible refine (hby w).mono ?_);rintro e w' ⟨rfl,o'⟩;exact hK _ _ rfl o'
     apply rg_ev
     ·rintro a w hR ⟨(e30:_=_),-⟩;refine rg_plain rfl fun K hK=>?_;go_simp;exact hK _ _ rfl (Only.refl _ _)
     intro f5 w5 hR5 hf;dsimp only [mergeT];obtain ⟨e31,-⟩:=hf;replace e31:f5 31=_:=e31;rw [e31];clear hby k0 k1 k2 x0 x1 x2 x3 x4;have HO2:=Lib.hid (HO.out.trans0 hR5);clear hR5;go_wp2_with fail;refine ⟨⟨i,(i+j) / 2,rfl,by go_num,by omega,by omega,HI2,HO2⟩,?_⟩
     simp [intOf];omega
    ·rw [decide_eq_false hk,if_neg (by simp)] at hby;clear hk
     go_upto_region 5 with (fail)
     refine wp_region_rg2 (Only []) [[(2,none)],[(0,none)],[(11,none)],[(25,some 1),(26,some 0)],[(27,some 0)],[(4,none)],[(24,some 5),(28,some 1),(29,some 0)],[(30,some 0)]] [(31,0)] [none,none,none,none,none,none,none,none,none,none,none,none,none,none,none,none,none,none,none,none,none,none,none,none,some 24,some 25,some 26,some 27,some 28,some 29,some 30,some 31,none,none,none,none,none,none,none,none,none,none,none,none,none,none,none,none,none] (by kernel_rfl) rfl (by kernel_rfl) (fun _=>Only.refl _ _) (fun _ _ _ h k=>h.trans0 k) (Only.drew _) (by kernel_rfl) ?_
     apply rg_ev
     ·rintro a w hR ⟨(e2:_=_),-⟩;refine rg_plain rfl fun K hK=>?_;go_simp;exact hK _ _ rfl (Only.refl _ _)
     apply rg_ev
     ·rintro a w hR ⟨(e0:_=_),-⟩;refine rg_plain rfl fun K hK=>?_;go_simp;exact hK _ _ rfl (Only.refl _ _)
     apply rg_ev
     ·rintro a w hR ⟨(e11:_=_),-⟩;refine rg_plain rfl fun K hK=>?_;go_simp;exact hK _ _ rfl (Only.refl _ _)
     apply rg_ev
     ·rintro a w hR ⟨(e25:_=_),(e26:_=_),-⟩;refine rg_plain rfl fun K hK=>?_;have hix:0≤((i:Int)+(j:Int)) / 2∧((i:Int)+(j:Int)) / 2 < (n:Int):=(by omega);have hix2:(((i:Int)+(j:Int)) / 2).toNat=(i+j) / 2:=(by omega);go_simp;exact hK _ _ rfl (Only.refl _ _)
     apply rg_ev
     ·rintro a w hR ⟨(e27:_=_),-⟩;refine rg_plain rfl fun K hK=>?_;have g0:=hR.cell x0 (by simp);have g1:=hR.cell x1 (by simp);have g2:=hR.cell x2 (by simp);have g3:=hR.cell x3 (by simp);have g4:=hR.cell x4 (by simp);go_simp;exact hK _ _ rfl (Only.refl _ _)
     apply rg_ev
     ·rintro a w hR ⟨(e4:_=_),-⟩;refine rg_plain rfl fun K hK=>?_;have g0:=hR.cell k0 (by simp);have g1:=hR.cell k1 (by simp);have g2:=hR.cell k2 (by simp);go_simp;exact hK _ _ rfl (Only.refl _ _)
     apply rg_ev
     ·rintro a w hR ⟨(e24:_=_),(e28:_=_),(e29:_=_),-⟩;refine rg_plain rfl fun K hK=>?_;go_simp;(with_reducible refine (hby w).mono ?_);rintro e w' ⟨rfl,o'⟩;exact hK _ _ rfl o'
     apply rg_ev
     ·rintro a w hR ⟨(e30:_=_),-⟩;refine rg_plain rfl fun K hK=>?_;go_simp;exact hK _ _ rfl (Only.refl _ _)
     intro f5 w5 hR5 hf;dsimp only [mergeT];obtain ⟨e31,-⟩:=hf;replace e31:f5 31=_:=e31;rw [e31];clear hby k0 k1 k2 x0 x1 x2 x3 x4;have HO2:=Lib.hid (HO.out.trans0 hR5);clear hR5;go_wp2_with fail;refine ⟨⟨i,(i+j) / 2,rfl,by go_num,by omega,by omega,HI2,HO2⟩,?_⟩
     simp [intOf];omega
  ·obtain rfl:i=j:=(by omega);have Hpos:Hid (posL LUpl.id ltI xs k=i):=Lib.hid (posL_eq linI Hs.out (by rw [Hn.out];exact hjn) HI.out.1 HI.out.2)
   by_cases hin:i < n
   ·obtain ⟨x,hxx⟩:∃ x,xs[i]?=some x:=⟨_,List.getElem?_eq_getElem (by rw [Hn.out];omega)⟩;have Hth:Hid (thereL LUpl.id ltI xs k=decide (LUpl.id x=k)):=Lib.hid (by unfold thereL;rw [Hpos.out,hxx]);have hl:=HI.out.2 x hxx;have hrd:=Hx.out.only0 (Ho1.out.trans0 HO.out);have kr:=Hk.out.only0 HO.out;have k0:=kr.cell (i:=0) rfl;have k1:=kr.cell (i:=1) rfl;have k2:=kr.cell (i:=2) rfl;have hne:xs.flatMap luCells≠[]:=fun e'=>(by have:=flat_get luCells 5 luCells_len xs _ x 0 hxx (by omega);rw [e'] at this;cases this);obtain ⟨b,off,rfl,-⟩:=hrd.lt hne
    have x0:=rd_elem luCells_len hrd hxx (r:=0) rfl;have x1:=rd_elem luCells_len hrd hxx (r:=1) rfl;have x2:=rd_elem luCells_len hrd hxx (r:=2) rfl;have x3:=rd_elem luCells_len hrd hxx (r:=3) rfl;have x4:=rd_elem luCells_len hrd hxx (r:=4) rfl;rw [Addr.add_lit,← Nat.add_assoc] at x0 x1 x2 x3 x4;rw [Nat.add_zero] at x0;have hby:=fun w=>byId_any x k w;unfold luV idV sgn at hby;rw [decide_eq_false hl,if_neg (by simp)] at hby;clear hrd hne kr hxx hl
    by_cases hk:LUpl.id x=k
    ·rw [decide_eq_true hk,if_pos rfl] at hby;rw [decide_eq_true hk] at Hth;clear hk
     go_upto_region 8 with (fail)
     refine wp_region_rg2 (Only []) [[(9,none)],[(9,none)],[(8,none)],[(36,some 1),(37,some 0)],[(38,some 0)],[(39,some 0),(2,none)],[(39,some 1),(0,none)],[(39,some 2),(9,none)],[(39,some 3),(41,some 1),(42,some 0)],[(39,some 4),(43,some 0)],[(39,some 5),(4,none)],[(39,some 6),(40,some 5),(44,some 1),(45,some 0)],[(39,some 7),(46,some 0)],[(39,some 8),(47,some 0)],[(35,some 13)],[(48,some 1)]] [(6,1),(7,0)] [none,none,none,none,none,none,some 6,some 7,none,none,none,none,none,none,none,none,none,none,none,none,none,none,none,none,none,none,none,none,none,none,none,none,none,none,none,some 35,some 36,some 37,some 38,some 39,some 40,some 41,some 42,some 43,some 44,some 45,some 46,some 47,some 48] (by kernel_rfl) rfl (by kernel_rfl) (fun _=>Only.refl _ _) (fun _ _ _ h k=>h.trans0 k) (Only.drew _) (by kernel_rfl) ?_
     apply rg_ev
     ·rintro a w hR ⟨(e9:_=_),-⟩;refine rg_plain rfl fun K hK=>?_;go_simp;exact hK _ _ rfl (Only.refl _ _)
     apply rg_ev
     ·rintro a w hR ⟨(e9:_=_),-⟩;refine rg_plain rfl fun K hK=>?_;go_simp;exact hK _ _ rfl (Only.refl _ _)
     apply rg_ev
     ·rintro a w hR ⟨(e8:_=_),-⟩;refine rg_plain rfl fun K hK=>?_;go_simp;exact hK _ _ rfl (Only.refl _ _)
     apply rg_ev
     ·rintro a w hR ⟨(e36:_=_),(e37:_=_),-⟩;refine rg_plain rfl fun K hK=>?_;go_simp;exact hK _ _ rfl (Only.refl _ _)
     apply rg_ev
     ·rintro a w hR ⟨(e38:_=_),-⟩;refine rg_plain rfl fun K hK=>?_;go_simp;exact hK _ _ rfl (Only.refl _ _)
     apply rg_ev
     ·rintro a w hR ⟨(e39:_=_),(e2:_=_),-⟩;refine rg_want rfl rfl e39 fun K hK=>?_;clear e39;go_simp;exact hK _ _ rfl (Only.refl _ _)
     apply rg_ev
     ·rintro a w hR ⟨(e39:_=_),(e0:_=_),-⟩;refine rg_want rfl rfl e39 fun K hK=>?_;clear e39;go_simp;exact hK _ _ rfl (Only.refl _ _)
     apply rg_ev
     ·rintro a w hR ⟨(e39:_=_),(e9:_=_),-⟩;refine rg_want rfl rfl e39 fun K hK=>?_;clear e39;go_simp;exact hK _ _ rfl (Only.refl _ _)
     apply rg_ev
     ·rintro a w hR ⟨(e39:_=_),(e41:_=_),(e42:_=_),-⟩;refine rg_want rfl rfl e39 fun K hK=>?_;clear e39;have hix:(i:Int) < (n:Int):=(by omega);go_simp;exact hK _ _ rfl (Only.refl _ _)
     apply rg_ev
     ·rintro a w hR ⟨(e39:_=_),(e43:_=_),-⟩;refine rg_want rfl rfl e39 fun K hK=>?_;clear e39;have g0:=hR.cell x0 (by simp);have g1:=hR.cell x1 (by simp);have g2:=hR.cell x2 (by simp);have g3:=hR.cell x3 (by simp);have g4:=hR.cell x4 (by simp);go_simp;exact hK _ _ rfl (Only.refl _ _)
     apply rg_ev
     ·rintro a w hR ⟨(e39:_=_),(e4:_=_),-⟩;refine rg_want rfl rfl e39 fun K hK=>?_;clear e39;have g0:=hR.cell k0 (by simp);have g1:=hR.cell k1 (by simp);have g2:=hR.cell k2 (by simp);go_simp;exact hK _ _ rfl (Only.refl _ _)
     apply rg_ev
     ·rintro a w hR ⟨(e39:_=_),(e40:_=_),(e44:_=_),(e45:_=_),-⟩;refine rg_want rfl rfl e39 fun K hK=>?_;clear e39;go_simp;(with_reducible refine (hby w).mono ?_);rintro e w' ⟨rfl,o'⟩;exact hK _ _ rfl o'
     apply rg_ev
     ·rintro a w hR ⟨(e39:_=_),(e46:_=_),-⟩;refine rg_want rfl rfl e39 fun K hK=>?_;clear e39;go_simp;exact hK _ _ rfl (Only.refl _ _)
     apply rg_ev
     ·rintro a w hR ⟨(e39:_=_),(e47:_=_),-⟩;refine rg_plain rfl fun K hK=>?_;go_simp;exact hK _ _ rfl (Only.refl _ _)
     apply rg_ev
     ·rintro a w hR ⟨(e35:_=_),-⟩;refine rg_plain rfl fun K hK=>?_;go_simp;exact hK _ _ rfl (Only.refl _ _)
     apply rg_ev
     ·rintro a w hR ⟨(e48:_=_),-⟩;refine rg_plain rfl fun K hK=>?_;go_simp;exact hK _ _ rfl (Only.refl _ _)
     intro f8 w8 hR8 hf;dsimp only [mergeT];obtain ⟨e6,e7,-⟩:=hf;replace e6:f8 6=_:=e6;rw [e6];replace e7:f8 7=_:=e7;rw [e7];clear hby k0 k1 k2 x0 x1 x2 x3 x4;have HO2:=Lib.hid (HO.out.trans0 hR8);clear hR8;go_wp2_with fail
     go_ret2
     exact ⟨by rw [Hpos.out,Hth.out];rfl,Ho1.out.trans0 HO2.out⟩
    ·rw [decide_eq_false hk,if_neg (by simp)] at hby;rw [decide_eq_false hk] at Hth;clear hk
     go_upto_region 8 with (fail)
     refine wp_region_rg2 (Only []) [[(9,none)],[(9,none)],[(8,none)],[(36,some 1),(37,some 0)],[(38,some 0)],[(39,some 0),(2,none)],[(39,some 1),(0,none)],[(39,some 2),(9,none)],[(39,some 3),(41,some 1),(42,some 0)],[(39,some 4),(43,some 0)],[(39,some 5),(4,none)],[(39,some 6),(40,some 5),(44,some 1),(45,some 0)],[(39,some 7),(46,some 0)],[(39,some 8),(47,some 0)],[(35,some 13)],[(48,some 1)]] [(6,1),(7,0)] [none,none,none,none,none,none,some 6,some 7,none,none,none,none,none,none,none,none,none,none,none,none,none,none,none,none,none,none,none,none,none,none,none,none,none,none,none,some 35,some 36,some 37,some 38,some 39,some 40,some 41,some 42,some 43,some 44,some 45,some 46,some 47,some 48] (by kernel_rfl) rfl (by kernel_rfl) (fun _=>Only.refl _ _) (fun _ _ _ h k=>h.trans0 k) (Only.drew _) (by kernel_rfl) ?_
     apply rg_ev
     ·rintro a w hR ⟨(e9:_=_),-⟩;refine rg_plain rfl fun K hK=>?_;go_simp;exact hK _ _ rfl (Only.refl _ _)
     apply rg_ev
     ·rintro a w hR ⟨(e9:_=_),-⟩;refine rg_plain rfl fun K hK=>?_;go_simp;exact hK _ _ rfl (Only.refl _ _)
     apply rg_ev
     ·rintro a w hR ⟨(e8:_=_),-⟩;refine rg_plain rfl fun K hK=>?_;go_simp;exact hK _ _ rfl (Only.refl _ _)
     apply rg_ev
     ·rintro a w hR ⟨(e36:_=_),(e37:_=_),-⟩;refine rg_plain rfl fun K hK=>?_;go_simp;exact hK _ _ rfl (Only.refl _ _)
     apply rg_ev
     ·rintro a w hR ⟨(e38:_=_),-⟩;refine rg_plain rfl fun K hK=>?_;go_simp;exact hK _ _ rfl (Only.refl _ _)
     apply rg_ev
     ·rintro a w hR ⟨(e39:_=_),(e2:_=_),-⟩;refine rg_want rfl rfl e39 fun K hK=>?_;clear e39;go_simp;exact hK _ _ rfl (Only.refl _ _)
     apply rg_ev
     ·rintro a w hR ⟨(e39:_=_),(e0:_=_),-⟩;refine rg_want rfl rfl e39 fun K hK=>?_;clear e39;go_simp;exact hK _ _ rfl (Only.refl _ _)
     apply rg_ev
     ·rintro a w hR ⟨(e39:_=_),(e9:_=_),-⟩;refine rg_want rfl rfl e39 fun K hK=>?_;clear e39;go_simp;exact hK _ _ rfl (Only.refl _ _)
     apply rg_ev
     ·rintro a w hR ⟨(e39:_=_),(e41:_=_),(e42:_=_),-⟩;refine rg_want rfl rfl e39 fun K hK=>?_;clear e39;have hix:(i:Int) < (n:Int):=(by omega);go_simp;exact hK _ _ rfl (Only.refl _ _)
     apply rg_ev
     ·rintro a w hR ⟨(e39:_=_),(e43:_=_),-⟩;refine rg_want rfl rfl e39 fun K hK=>?_;clear e39;have g0:=hR.cell x0 (by simp);have g1:=hR.cell x1 (by simp);have g2:=hR.cell x2 (by simp);have g3:=hR.cell x3 (by simp);have g4:=hR.cell x4 (by simp);go_simp;exact hK _ _ rfl (Only.refl _ _)
     apply rg_ev
     ·rintro a w hR ⟨(e39:_=_),(e4:_=_),-⟩;refine rg_want rfl rfl e39 fun K hK=>?_;clear e39;have g0:=hR.cell k0 (by simp);have g1:=hR.cell k1 (by simp);have g2:=hR.cell k2 (by simp);go_simp;exact hK _ _ rfl (Only.refl _ _)
     apply rg_ev
     ·rintro a w hR ⟨(e39:_=_),(e40:_=_),(e44:_=_),(e45:_=_),-⟩;refine rg_want rfl rfl e39 fun K hK=>?_;clear e39;go_simp;(with_reducible refine (hby w).mono ?_);rintro e w' ⟨rfl,o'⟩;exact hK _ _ rfl o'
     apply rg_ev
     ·rintro a w hR ⟨(e39:_=_),(e46:_=_),-⟩;refine rg_want rfl rfl e39 fun K hK=>?_;clear e39;go_simp;exact hK _ _ rfl (Only.refl _ _)
     apply rg_ev
     ·rintro a w hR ⟨(e39:_=_),(e47:_=_),-⟩;refine rg_plain rfl fun K hK=>?_;go_simp;exact hK _ _ rfl (Only.refl _ _)
     apply rg_ev
     ·rintro a w hR ⟨(e35:_=_),-⟩;refine rg_plain rfl fun K hK=>?_;go_simp;exact hK _ _ rfl (Only.refl _ _)
     apply rg_ev
     ·rintro a w hR ⟨(e48:_=_),-⟩;refine rg_plain rfl fun K hK=>?_;go_simp;exact hK _ _ rfl (Only.refl _ _)
     intro f8 w8 hR8 hf;dsimp only [mergeT];obtain ⟨e6,e7,-⟩:=hf;replace e6:f8 6=_:=e6;rw [e6];replace e7:f8 7=_:=e7;rw [e7];clear hby k0 k1 k2 x0 x1 x2 x3 x4;have HO2:=Lib.hid (HO.out.trans0 hR8);clear hR8;go_wp2_with fail
     go_ret2
     exact ⟨by rw [Hpos.out,Hth.out];rfl,Ho1.out.trans0 HO2.out⟩
   ·obtain rfl:i=n:=by omega
    have Hth:Hid (thereL LUpl.id ltI xs k=false):=Lib.hid (by
     unfold thereL
     rw [Hpos.out,List.getElem?_eq_none_iff.2 (by rw [Hn.out];exact Nat.le_refl _)])
    go_upto_region 8 with (fail)
    refine wp_region_rg2 (Only []) [[(9,none)],[(9,none)],[(8,none)],[(36,some 1),(37,some 0)],[(38,some 0)],[(39,some 0),(2,none)],[(39,some 1),(0,none)],[(39,some 2),(9,none)],[(39,some 3),(41,some 1),(42,some 0)],[(39,some 4),(43,some 0)],[(39,some 5),(4,none)],[(39,some 6),(40,some 5),(44,some 1),(45,some 0)],[(39,some 7),(46,some 0)],[(39,some 8),(47,some 0)],[(35,some 13)],[(48,some 1)]] [(6,1),(7,0)] [none,none,none,none,none,none,some 6,some 7,none,none,none,none,none,none,none,none,none,none,none,none,none,none,none,none,none,none,none,none,none,none,none,none,none,none,none,some 35,some 36,some 37,some 38,some 39,some 40,some 41,some 42,some 43,some 44,some 45,some 46,some 47,some 48] (by kernel_rfl) rfl (by kernel_rfl) (fun _=>Only.refl _ _) (fun _ _ _ h k=>h.trans0 k) (Only.drew _) (by kernel_rfl) ?_
    apply rg_ev
    ·rintro a w hR ⟨(e9:_=_),-⟩;refine rg_plain rfl fun K hK=>?_;go_simp;exact hK _ _ rfl (Only.refl _ _)
    apply rg_ev
    ·rintro a w hR ⟨(e9:_=_),-⟩;refine rg_plain rfl fun K hK=>?_;go_simp;exact hK _ _ rfl (Only.refl _ _)
    apply rg_ev
    ·rintro a w hR ⟨(e8:_=_),-⟩;refine rg_plain rfl fun K hK=>?_;go_simp;exact hK _ _ rfl (Only.refl _ _)
    apply rg_ev
    ·rintro a w hR ⟨(e36:_=_),(e37:_=_),-⟩;refine rg_plain rfl fun K hK=>?_;go_simp;exact hK _ _ rfl (Only.refl _ _)
    apply rg_ev
    ·rintro a w hR ⟨(e38:_=_),-⟩;refine rg_plain rfl fun K hK=>?_;go_simp;exact hK _ _ rfl (Only.refl _ _)
    apply rg_ev
    ·rintro a w hR ⟨(e39:_=_),(e2:_=_),-⟩;exact rg_skip rfl rfl e39 rfl
    apply rg_ev
    ·rintro a w hR ⟨(e39:_=_),(e0:_=_),-⟩;exact rg_skip rfl rfl e39 rfl
    apply rg_ev
    ·rintro a w hR ⟨(e39:_=_),(e9:_=_),-⟩;exact rg_skip rfl rfl e39 rfl
    apply rg_ev
    ·rintro a w hR ⟨(e39:_=_),(e41:_=_),(e42:_=_),-⟩;exact rg_skip rfl rfl e39 rfl
    apply rg_ev
    ·rintro a w hR ⟨(e39:_=_),(e43:_=_),-⟩;exact rg_skip rfl rfl e39 rfl
    apply rg_ev
    ·rintro a w hR ⟨(e39:_=_),(e4:_=_),-⟩;exact rg_skip rfl rfl e39 rfl
    apply rg_ev
    ·rintro a w hR ⟨(e39:_=_),(e40:_=_),(e44:_=_),(e45:_=_),-⟩;exact rg_skip rfl rfl e39 rfl
    apply rg_ev
    ·rintro a w hR ⟨(e39:_=_),(e46:_=_),-⟩;exact rg_skip rfl rfl e39 rfl
    apply rg_ev
    ·rintro a w hR ⟨(e39:_=_),(e47:_=_),-⟩;refine rg_plain rfl fun K hK=>?_;go_simp;exact hK _ _ rfl (Only.refl _ _)
    apply rg_ev
    ·rintro a w hR ⟨(e35:_=_),-⟩;refine rg_plain rfl fun K hK=>?_;go_simp;exact hK _ _ rfl (Only.refl _ _)
    apply rg_ev
    ·rintro a w hR ⟨(e48:_=_),-⟩;refine rg_plain rfl fun K hK=>?_;go_simp;exact hK _ _ rfl (Only.refl _ _)
    intro f8 w8 hR8 hf;dsimp only [mergeT];obtain ⟨e6,e7,-⟩:=hf;replace e6:f8 6=_:=e6;rw [e6];replace e7:f8 7=_:=e7;rw [e7];go_wp2_with fail
    go_ret2
    exact ⟨by rw [Hpos.out,Hth.out];rfl,(Ho1.out.trans0 HO.out).trans0 hR8⟩
theorem findUp_any (p:Option Addr) (n c:Nat) (xs:List LUpl) (k:Cid) (w0:World) (hn:xs.length=n) (hb:n≤1000000) (hp:p=none→n=0) (hx:Rd w0 p (xs.flatMap luCells)) (hs:SortB LUpl.id ltI xs) :
  Calls Tryz.prog 69 #[.slice p n c,idV k,.func (.func 70) #[] #[]] w0 fun e w'=>e=.returned (.tuple #[.int .i64 ((posL LUpl.id ltI xs k:Nat):Int),.bool (thereL LUpl.id ltI xs k)])∧Only [] w0 w':=by
 obtain ⟨w1,hw1⟩:∃ w1,w1=w0.alloc (.cells #[.int .i64 k.node,.int .i64 k.boot,.int .i64 k.seq] 31):=⟨_,rfl⟩;have Hk:=Lib.hid (show Row w1 w0.heap.size 31 (idCells k) by rw [hw1];exact Row.newOf _ _ _ _ rfl);have Ho1:=Lib.hid (show Only [] w0 w1 by rw [hw1];exact Only.alloc _ _);have Hw1:=Lib.hid hw1;clear hw1;unfold idV;have h:=bsfUp_any p n c xs k w1 hn hb hp (hx.only0 Ho1.out) hs;have kr:=Hk.out;have k0:=kr.cell (i:=0) rfl;have k1:=kr.cell (i:=1) rfl;have k2:=kr.cell (i:=2) rfl;clear kr Hk;unfold idV at h;generalize posL LUpl.id ltI xs k=i at h
 generalize thereL LUpl.id ltI xs k=b at h
 go_enter Tryz.func69,Tryz.ntmps69
 go_wp2_with fail;rw [← Hw1.out];refine h.mono ?_;clear h k0 k1 k2;rintro e w' ⟨rfl,o'⟩;go_wp2_with fail
 go_ret2
 exact ⟨rfl,Ho1.out.trans0 o'⟩
end
section
open Go.RowKit
set_option maxHeartbeats 16000000 in
theorem inForm_k3 {Q:Exit→Act→World→Prop} {c0 c2 c5 c6 c7 c8 c9 c10 c11 c12 c13 c14 c15 c16 c17 c18 c19 c20 c21 c22 c23 c24 c25 c26 c27 c28 c29 c30 c31 c32 c33 c34 c35 c36 c37 c38 c39 c40 c41 c42 c43 c44 c45 c46 c47 c48 c49 c50 c51 c52 c53 c54 c55 c56 c57 c58 c59 c60 c61 c62 c63 c64 c65 c66 c67 c68 c69 c70 c71 c72 c73 c74 c75 c76 c77 c78 c79 c80 c81 c82 c83 c84 c85 c86 c87 c88 c89 c90 c91 c92 c93 c94 c95 c96 c97 c98 c99 c100 c101 c102 c103 c104 c105 c106 c107 c108 c109 c110 c111 c112 c113 c114 c115 c116 c117 c118 c119 c120 c121 c122 c123 c124 c125 c126 c127 c128 c129 c130 c131 c132 c133 c134 c135 c136 c137 c138 c139 c140 c141 c142 c143 c144 c145 c146 c147 c148 c149 c150 c151 c152 c153 c154 c155 c156 c157 c158 c159 c160 c161 c162 c163 c164 c165 c166 c167 c168 c169 c170 c171 c172 c173 c174 c175 c176 c177 c178 c179 c180 c181 c182 c183 c184 c185 c186 c187 c188 c189 c190 c191 c192 c193 c194 c195 c196 c197 c198 c199 c200 c201 c202 c203 c204 c205 c206 c207 c208 c209 c210 c211 c212 c213 c214 c215 c216 c217 c218 c219 c220 c221 c222 c223 c224 c225 c226 c227 c228 c229 c230 c231 c232 c233 c234 c235 c236 c237 c238 c239 c240 c241 c242 c243 c244 c245 c246 c247 c248 c249 c250 c251 c252 c253 c254:Value} (Y:Code) (m z:LCmd) (X Z:Nat) (b:Bool) (w0:World) (hne:X≠Z) (rX:Row w0 X 36 (lmCells m)) (rZ:Row w0 Z 36 (lmCells z)) (hs:Short m) (hk:m.x.kind=3)
  (hexit:∀ (u7 u8 u51 u52 u53 u54 u55 u56 u57 u58 u59 u60 u61 u62 u63 u64 u65 u66 u67 u68 u69 u70 u71 u72 u73 u74 u75 u76 u77 u78 u79 u80 u81 u82 u83 u84 u85 u86 u87 u88 u89 u90 u91 u92 u93 u94 u95 u96 u97 u98 u99 u100 u101 u102 u103 u104 u105 u106 u107 u108 u109 u110 u111 u112 u113 u114 u115 u116 u117 u118 u119 u120 u121 u122 u123 u124 u125 u126 u127 u128 u129 u130 u131 u132 u133 u134 u135 u136 u137 u138 u139 u140 u141 u142 u143 u144 u145 u146 u147 u148 u149 u150 u151 u152 u153 u154 u155 u156 u157 u158 u159 u160 u161 u162 u163 u164 u165 u166 u167 u168 u169 u170 u171 u172 u173 u174 u175 u176 u177 u178 u179 u180:Value) (b':Bool) (z':LCmd) (w':World),Row w' X 36 (lmCells m)→Row w' Z 36 (lmCells z')→Only [Z] w0 w'→Sw m z z' b b'→Y.wp Tryz.prog Q ⟨(c0 :: .pointer (some ⟨X,0,none⟩) :: c2 :: .pointer (some ⟨Z,0,none⟩) :: .bool b' :: c5 :: c6 :: u7 :: u8 :: c9 :: c10 :: c11 :: c12 :: c13 :: c14 :: c15 :: c16 :: c17 :: c18 :: c19 :: c20 :: c21 :: c22 :: c23 :: c24 :: c25 :: c26 :: c27 :: c28 :: c29 :: c30 :: c31 :: c32 :: c33 :: c34 :: c35 :: c36 :: c37 :: c38 :: c39 :: c40 :: c41 :: c42 :: c43 :: c44 :: c45 :: c46 :: c47 :: c48 :: c49 :: c50 :: u51 :: u52 :: u53 :: u54 :: u55 :: u56 :: u57 :: u58 :: u59 :: u60 :: u61 :: u62 :: u63 :: u64 :: u65 :: u66 :: u67 :: u68 :: u69 :: u70 :: u71 :: u72 :: u73 :: u74 :: u75 :: u76 :: u77 :: u78 :: u79 :: u80 :: u81 :: u82 :: u83 :: u84 :: u85 :: u86 :: u87 :: u88 :: u89 :: u90 :: u91 :: u92 :: u93 :: u94 :: u95 :: u96 :: u97 :: u98 :: u99 :: u100 :: u101 :: u102 :: u103 :: u104 :: u105 :: u106 :: u107 :: u108 :: u109 :: u110 :: u111 :: u112 :: u113 :: u114 :: u115 :: u116 :: u117 :: u118 :: u119 :: u120 :: u121 :: u122 :: u123 :: u124 :: u125 :: u126 :: u127 :: u128 :: u129 :: u130 :: u131 :: u132 :: u133 :: u134 :: u135 :: u136 :: u137 :: u138 :: u139 :: u140 :: u141 :: u142 :: u143 :: u144 :: u145 :: u146 :: u147 :: u148 :: u149 :: u150 :: u151 :: u152 :: u153 :: u154 :: u155 :: u156 :: u157 :: u158 :: u159 :: u160 :: u161 :: u162 :: u163 :: u164 :: u165 :: u166 :: u167 :: u168 :: u169 :: u170 :: u171 :: u172 :: u173 :: u174 :: u175 :: u176 :: u177 :: u178 :: u179 :: u180 :: c181 :: c182 :: c183 :: c184 :: c185 :: c186 :: c187 :: c188 :: c189 :: c190 :: c191 :: c192 :: c193 :: c194 :: c195 :: c196 :: c197 :: c198 :: c199 :: c200 :: c201 :: c202 :: c203 :: c204 :: c205 :: c206 :: c207 :: c208 :: c209 :: c210 :: c211 :: c212 :: c213 :: c214 :: c215 :: c216 :: c217 :: c218 :: c219 :: c220 :: c221 :: c222 :: c223 :: c224 :: c225 :: c226 :: c227 :: c228 :: c229 :: c230 :: c231 :: c232 :: c233 :: c234 :: c235 :: c236 :: c237 :: c238 :: c239 :: c240 :: c241 :: c242 :: c243 :: c244 :: c245 :: c246 :: c247 :: c248 :: c249 :: c250 :: c251 :: c252 :: c253 :: c254 :: []).toArray,[]⟩ w') :
  Code.wp Tryz.prog (Code.seq (inFormP 8) Y) Q ⟨(c0 :: .pointer (some ⟨X,0,none⟩) :: c2 :: .pointer (some ⟨Z,0,none⟩) :: .bool b :: c5 :: c6 :: c7 :: c8 :: c9 :: c10 :: c11 :: c12 :: c13 :: c14 :: c15 :: c16 :: c17 :: c18 :: c19 :: c20 :: c21 :: c22 :: c23 :: c24 :: c25 :: c26 :: c27 :: c28 :: c29 :: c30 :: c31 :: c32 :: c33 :: c34 :: c35 :: c36 :: c37 :: c38 :: c39 :: c40 :: c41 :: c42 :: c43 :: c44 :: c45 :: c46 :: c47 :: c48 :: c49 :: c50 :: c51 :: c52 :: c53 :: c54 :: c55 :: c56 :: c57 :: c58 :: c59 :: c60 :: c61 :: c62 :: c63 :: c64 :: c65 :: c66 :: c67 :: c68 :: c69 :: c70 :: c71 :: c72 :: c73 :: c74 :: c75 :: c76 :: c77 :: c78 :: c79 :: c80 :: c81 :: c82 :: c83 :: c84 :: c85 :: c86 :: c87 :: c88 :: c89 :: c90 :: c91 :: c92 :: c93 :: c94 :: c95 :: c96 :: c97 :: c98 :: c99 :: c100 :: c101 :: c102 :: c103 :: c104 :: c105 :: c106 :: c107 :: c108 :: c109 :: c110 :: c111 :: c112 :: c113 :: c114 :: c115 :: c116 :: c117 :: c118 :: c119 :: c120 :: c121 :: c122 :: c123 :: c124 :: c125 :: c126 :: c127 :: c128 :: c129 :: c130 :: c131 :: c132 :: c133 :: c134 :: c135 :: c136 :: c137 :: c138 :: c139 :: c140 :: c141 :: c142 :: c143 :: c144 :: c145 :: c146 :: c147 :: c148 :: c149 :: c150 :: c151 :: c152 :: c153 :: c154 :: c155 :: c156 :: c157 :: c158 :: c159 :: c160 :: c161 :: c162 :: c163 :: c164 :: c165 :: c166 :: c167 :: c168 :: c169 :: c170 :: c171 :: c172 :: c173 :: c174 :: c175 :: c176 :: c177 :: c178 :: c179 :: c180 :: c181 :: c182 :: c183 :: c184 :: c185 :: c186 :: c187 :: c188 :: c189 :: c190 :: c191 :: c192 :: c193 :: c194 :: c195 :: c196 :: c197 :: c198 :: c199 :: c200 :: c201 :: c202 :: c203 :: c204 :: c205 :: c206 :: c207 :: c208 :: c209 :: c210 :: c211 :: c212 :: c213 :: c214 :: c215 :: c216 :: c217 :: c218 :: c219 :: c220 :: c221 :: c222 :: c223 :: c224 :: c225 :: c226 :: c227 :: c228 :: c229 :: c230 :: c231 :: c232 :: c233 :: c234 :: c235 :: c236 :: c237 :: c238 :: c239 :: c240 :: c241 :: c242 :: c243 :: c244 :: c245 :: c246 :: c247 :: c248 :: c249 :: c250 :: c251 :: c252 :: c253 :: c254 :: []).toArray,[]⟩ w0:=by
 have HE:=Lib.hid hexit;have HX:=Lib.hid rX;have HZ:=Lib.hid rZ;have k0:=rX.cell (i:=0) rfl;rw [hk] at k0;have Hk:=Lib.hid hk;clear hexit rX rZ hk;refine wp_seq_k fun K0 h0=>?_
 conv=>arg 2;whnf
 go_upto_region 23 with (fail)
 clear k0;have hRr:∀ x,(RZ Z 36 [9,10,11,12,13,16]) x x:=fun x=>RZ.refl _ _ _ x;have hRt:∀ x b e,(RZ Z 36 [9,10,11,12,13,16]) x b→(RZ Z 36 [9,10,11,12,13,16]) b e→(RZ Z 36 [9,10,11,12,13,16]) x e:=fun _ _ _ h k=>h.trans k;have hRd:(RZ Z 36 [9,10,11,12,13,16]) w0 w0.drew:=RZ.of0 (Only.drew _)
 have hRs:∀ j w,DirtR [(5,RZ Z 36 [9,10,11,12,13]),(7,RZ Z 36 [16])] j w w:=DirtR.refl (by
  intro x hx w;simp only [List.mem_cons,List.not_mem_nil,or_false] at hx
  rcases hx with rfl | rfl <;> exact RZ.refl _ _ _ _)
 have hC0:∀ d∈[5,7],(fun (_:Nat) (_:World)=>True) d w0.drew:=fun _ _=>trivial;refine wp_region_rg7 (RZ Z 36 [9,10,11,12,13,16]) (DirtR [(5,RZ Z 36 [9,10,11,12,13]),(7,RZ Z 36 [16])]) (fun (_:Nat) (_:World)=>True) [5,7] [[(1,none)],[(66,some 0)],[(1,none)],[(68,some 0)],[(3,none)],[(70,some 0),(67,some 3)],[(3,none)],[(71,some 0),(69,some 3)]] [] [2,0] [none,none,none,none,none,none,none,none,none,none,none,none,none,none,none,none,none,none,none,none,none,none,none,none,none,none,none,none,none,none,none,none,none,none,none,none,none,none,none,none,none,none,none,none,none,none,none,none,none,none,none,none,none,none,none,none,none,none,none,none,none,none,none,none,none,none,some 66,some 67,some 68,some 69,some 70,some 71,none,none,none,none,none,none,none,none,none,none,none,none,none,none,none,none,none,none,none,none,none,none,none,none,none,none,none,none,none,none,none,none,none,none,none,none,none,none,none,none,none,none,none,none,none,none,none,none,none,none,none,none,none,none,none,none,none,none,none,none,none,none,none,none,none,none,none,none,none,none,none,none,none,none,none,none,none,none,none,none,none,none,none,none,none,none,none,none,none,none,none,none,none,none,none,none,none,none,none,none,none,none,none,none,none,none,none,none,none,none,none,none,none,none,none,none,none,none,none,none,none,none,none,none,none,none,none,none,none,none,none,none,none,none,none,none,none,none,none,none,none,none,none,none,none,none,none,none,none,none,none,none,none,none,none,none,none,none,none,none,none,none,none,none,none,none,none,none,none,none,none,none,none,none,none,none,none,none,none,none,none,none,none] (by kernel_rfl) rfl (by kernel_rfl) hRr hRt hRs hRd hC0 (by kernel_rfl) (by kernel_rfl) ?_
 apply rg7_ev
 ·rintro a w hR hC ⟨(e1:_=_),-⟩;refine rg_plain rfl fun K hK=>?_;go_simp;exact hK _ _ rfl ⟨hRr _,hRs _ _,fun _ _ _ _ h=>h⟩
 apply rg7_ev
 ·rintro a w hR hC ⟨(e66:_=_),-⟩;refine rg_plain rfl fun K hK=>?_;have hx:=HX.out.only hR.1 (by simp;exact hne);have y9:=hx.cell (i:=9) rfl;have y10:=hx.cell (i:=10) rfl;have y11:=hx.cell (i:=11) rfl;have y12:=hx.cell (i:=12) rfl;have y13:=hx.cell (i:=13) rfl;go_simp;exact hK _ _ rfl ⟨hRr _,hRs _ _,fun _ _ _ _ h=>h⟩
 apply rg7_ev
 ·rintro a w hR hC ⟨(e1:_=_),-⟩;refine rg_plain rfl fun K hK=>?_;go_simp;exact hK _ _ rfl ⟨hRr _,hRs _ _,fun _ _ _ _ h=>h⟩
 apply rg7_ev
 ·rintro a w hR hC ⟨(e68:_=_),-⟩;refine rg_plain rfl fun K hK=>?_;have hx:=HX.out.only hR.1 (by simp;exact hne);have y16:=hx.cell (i:=16) rfl;go_simp;exact hK _ _ rfl ⟨hRr _,hRs _ _,fun _ _ _ _ h=>h⟩
 apply rg7_ev
 ·rintro a w hR hC ⟨(e3:_=_),-⟩;refine rg_plain rfl fun K hK=>?_;go_simp;exact hK _ _ rfl ⟨hRr _,hRs _ _,fun _ _ _ _ h=>h⟩
 refine ⟨StC Z 36 [(9,.int .i64 m.x.piece.blob.node),(10,.int .i64 m.x.piece.blob.boot),(11,.int .i64 m.x.piece.blob.seq),(12,.int .i64 m.x.piece.size),(13,.string (str m.x.piece.etag))],stands5_of StC.stable (by intro x hx hk;simp only [List.mem_cons,List.not_mem_nil,or_false] at hx;rcases hx with rfl | rfl <;> first | (refine StC.stableZ ?_;simp;done) | exact Bool.noConfusion (hk.symm.trans (by kernel_rfl:_=true))),fun a w hR hC hf=>?_,?_⟩
 ·obtain ⟨e70,e67,-⟩:=hf;replace e70:a.tmps.getD 70 undef=_:=e70;replace e67:a.tmps.getD 67 undef=_:=e67;refine rg_plain rfl fun K hK=>?_;obtain ⟨vs,rz,hl,-⟩:=hR.2 _ HZ.out;have hl2:vs.length=18:=hl;obtain ⟨v9,h9⟩:∃ v,vs[9]?=some v:=⟨_,List.getElem?_eq_getElem (by omega)⟩;have z9:=rz.cell h9;have zf9:=rz.free 9;obtain ⟨v10,h10⟩:∃ v,vs[10]?=some v:=⟨_,List.getElem?_eq_getElem (by omega)⟩;have z10:=rz.cell h10;have zf10:=rz.free 10;obtain ⟨v11,h11⟩:∃ v,vs[11]?=some v:=⟨_,List.getElem?_eq_getElem (by omega)⟩;have z11:=rz.cell h11
  have zf11:=rz.free 11;obtain ⟨v12,h12⟩:∃ v,vs[12]?=some v:=⟨_,List.getElem?_eq_getElem (by omega)⟩;have z12:=rz.cell h12;have zf12:=rz.free 12;obtain ⟨v13,h13⟩:∃ v,vs[13]?=some v:=⟨_,List.getElem?_eq_getElem (by omega)⟩;have z13:=rz.cell h13;have zf13:=rz.free 13;have hst:=StC.sets rz [(9,.int .i64 m.x.piece.blob.node),(10,.int .i64 m.x.piece.blob.boot),(11,.int .i64 m.x.piece.blob.seq),(12,.int .i64 m.x.piece.size),(13,.string (str m.x.piece.etag))] (by simp) (by simp;omega);clear hl hl2 h9 h10 h11 h12 h13;have Hst:=Lib.hid hst;clear hst;go_simp
  exact hK undef _ Hst.out.1 ⟨Hst.out.2.mono (by simp),Hst.out.2,fun _ _ _ _ _=>trivial⟩
 apply rg7_ev
 ·rintro a w hR hC ⟨(e3:_=_),-⟩;refine rg_plain rfl fun K hK=>?_;go_simp;exact hK _ _ rfl ⟨hRr _,hRs _ _,fun _ _ _ _ h=>h⟩
 refine ⟨StC Z 36 [(16,.int .i64 m.x.time)],stands5_of StC.stable (by intro x hx hk;simp only [List.mem_cons,List.not_mem_nil,or_false] at hx;rcases hx with rfl | rfl <;> first | (refine StC.stableZ ?_;simp;done) | exact Bool.noConfusion (hk.symm.trans (by kernel_rfl:_=true))),fun a w hR hC hf=>?_,?_⟩
 ·obtain ⟨e71,e69,-⟩:=hf;replace e71:a.tmps.getD 71 undef=_:=e71;replace e69:a.tmps.getD 69 undef=_:=e69;refine rg_plain rfl fun K hK=>?_;obtain ⟨vs,rz,hl,-⟩:=hR.2 _ HZ.out;have hl2:vs.length=18:=hl;obtain ⟨v16,h16⟩:∃ v,vs[16]?=some v:=⟨_,List.getElem?_eq_getElem (by omega)⟩;have z16:=rz.cell h16;have zf16:=rz.free 16;have hst:=StC.sets rz [(16,.int .i64 m.x.time)] (by simp) (by simp;omega);clear hl hl2 h16;have Hst:=Lib.hid hst;clear hst;go_simp;exact hK undef _ Hst.out.1 ⟨Hst.out.2.mono (by simp),Hst.out.2,fun _ _ _ _ _=>trivial⟩
 intro f3 w3 hR3 hf hl3;dsimp only [mergeT];obtain ⟨l5,l7,-⟩:=hl3;replace l5:∃ v,(StC Z 36 [(9,.int .i64 m.x.piece.blob.node),(10,.int .i64 m.x.piece.blob.boot),(11,.int .i64 m.x.piece.blob.seq),(12,.int .i64 m.x.piece.size),(13,.string (str m.x.piece.etag))]) v w3:=l5;replace l7:∃ v,(StC Z 36 [(16,.int .i64 m.x.time)]) v w3:=l7;obtain ⟨u5,s5⟩:=l5;obtain ⟨u7,s7⟩:=l7;have rz3:Row w3 Z 36 (lmCells ⟨{ z.x with piece:=m.x.piece,time:=m.x.time },z.p,z.c⟩):=zone_end ((s5.app s7)) HZ.out hR3 (by simp);have HX3:=Lib.hid (HX.out.only hR3.1 (by simp;exact hne))
 have HZ3:=Lib.hid rz3;have HO3:=Lib.hid hR3.1;clear hR3 rz3 hRr hRt hRd hRs hC0 s5 s7
 cases b with
 | false =>
  go_wp2_with fail;exact HE.out _ _ _ _ _ _ _ _ _ _ _ _ _ _ _ _ _ _ _ _ _ _ _ _ _ _ _ _ _ _ _ _ _ _ _ _ _ _ _ _ _ _ _ _ _ _ _ _ _ _ _ _ _ _ _ _ _ _ _ _ _ _ _ _ _ _ _ _ _ _ _ _ _ _ _ _ _ _ _ _ _ _ _ _ _ _ _ _ _ _ _ _ _ _ _ _ _ _ _ _ _ _ _ _ _ _ _ _ _ _ _ _ _ _ _ _ _ _ _ _ _ _ _ _ _ _ _ _ _ _ _ _ false ⟨{ z.x with piece:=m.x.piece,time:=m.x.time },z.p,z.c⟩ _ HX3.out HZ3.out HO3.out ⟨by have:=Hk.out;omega,by have:=Hk.out;omega,rfl,rfl,fun h=>absurd h (by decide),fun h=>absurd h (by decide),fun h=>absurd h (by decide),fun h=>absurd h (by decide),fun _=>rfl⟩
 | true =>
  have x9:=HX3.out.cell (i:=9) rfl;have x10:=HX3.out.cell (i:=10) rfl;have x11:=HX3.out.cell (i:=11) rfl;have x12:=HX3.out.cell (i:=12) rfl;have x13:=HX3.out.cell (i:=13) rfl;have hpc:=piece10_any m.x.piece w3 hs.et;unfold pcV at hpc;go_wp2_with fail;(with_reducible refine hpc.mono ?_);clear hpc x9 x10 x11 x12 x13;rintro e w4 ⟨v,rfl,hv,o4⟩;have HX4:=Lib.hid (HX3.out.only0 o4);have HZ4:=Lib.hid (HZ3.out.only0 o4);have HO4:=Lib.hid (HO3.out.trans0 o4);have Hv:=Lib.hid hv;clear o4 hv HX3 HZ3 HO3
  cases v with
  | false =>
   go_wp2_with fail;exact HE.out _ _ _ _ _ _ _ _ _ _ _ _ _ _ _ _ _ _ _ _ _ _ _ _ _ _ _ _ _ _ _ _ _ _ _ _ _ _ _ _ _ _ _ _ _ _ _ _ _ _ _ _ _ _ _ _ _ _ _ _ _ _ _ _ _ _ _ _ _ _ _ _ _ _ _ _ _ _ _ _ _ _ _ _ _ _ _ _ _ _ _ _ _ _ _ _ _ _ _ _ _ _ _ _ _ _ _ _ _ _ _ _ _ _ _ _ _ _ _ _ _ _ _ _ _ _ _ _ _ _ _ _ false ⟨{ z.x with piece:=m.x.piece,time:=m.x.time },z.p,z.c⟩ _ HX4.out HZ4.out HO4.out ⟨by have:=Hk.out;omega,by have:=Hk.out;omega,rfl,rfl,fun h=>absurd h (by decide),fun h=>absurd h (by decide),fun h=>absurd h (by decide),fun h=>absurd h (by decide),fun _=>rfl⟩
  | true =>
   have x1:=HX4.out.cell (i:=1) rfl;have x2:=HX4.out.cell (i:=2) rfl;have x3:=HX4.out.cell (i:=3) rfl;have x9:=HX4.out.cell (i:=9) rfl;have x10:=HX4.out.cell (i:=10) rfl;have x11:=HX4.out.cell (i:=11) rfl;have x14:=HX4.out.cell (i:=14) rfl;have q:=eqId m.x.piece.blob m.x.id;unfold idV at q
   by_cases hbi:m.x.piece.blob=m.x.id
   ·simp only [decide_eq_true hbi] at q;clear hbi;go_wp2_with fail;exact HE.out _ _ _ _ _ _ _ _ _ _ _ _ _ _ _ _ _ _ _ _ _ _ _ _ _ _ _ _ _ _ _ _ _ _ _ _ _ _ _ _ _ _ _ _ _ _ _ _ _ _ _ _ _ _ _ _ _ _ _ _ _ _ _ _ _ _ _ _ _ _ _ _ _ _ _ _ _ _ _ _ _ _ _ _ _ _ _ _ _ _ _ _ _ _ _ _ _ _ _ _ _ _ _ _ _ _ _ _ _ _ _ _ _ _ _ _ _ _ _ _ _ _ _ _ _ _ _ _ _ _ _ _ true ⟨{ z.x with piece:=m.x.piece,time:=m.x.time },z.p,z.c⟩ _ HX4.out HZ4.out HO4.out ⟨by have:=Hk.out;omega,by have:=Hk.out;omega,rfl,rfl,fun _=>rfl,fun _ _=>Hv.out trivial,fun _ h=>by have:=Hk.out;omega,fun _ h=>by have:=Hk.out;omega,fun _=>rfl⟩
   ·simp only [decide_eq_false hbi] at q;clear hbi;go_wp2_with fail;exact HE.out _ _ _ _ _ _ _ _ _ _ _ _ _ _ _ _ _ _ _ _ _ _ _ _ _ _ _ _ _ _ _ _ _ _ _ _ _ _ _ _ _ _ _ _ _ _ _ _ _ _ _ _ _ _ _ _ _ _ _ _ _ _ _ _ _ _ _ _ _ _ _ _ _ _ _ _ _ _ _ _ _ _ _ _ _ _ _ _ _ _ _ _ _ _ _ _ _ _ _ _ _ _ _ _ _ _ _ _ _ _ _ _ _ _ _ _ _ _ _ _ _ _ _ _ _ _ _ _ _ _ _ _ false ⟨{ z.x with piece:=m.x.piece,time:=m.x.time },z.p,z.c⟩ _ HX4.out HZ4.out HO4.out ⟨by have:=Hk.out;omega,by have:=Hk.out;omega,rfl,rfl,fun h=>absurd h (by decide),fun h=>absurd h (by decide),fun h=>absurd h (by decide),fun h=>absurd h (by decide),fun _=>rfl⟩
set_option maxHeartbeats 16000000 in
theorem inForm_k6 {Q:Exit→Act→World→Prop} {c0 c2 c5 c6 c7 c8 c9 c10 c11 c12 c13 c14 c15 c16 c17 c18 c19 c20 c21 c22 c23 c24 c25 c26 c27 c28 c29 c30 c31 c32 c33 c34 c35 c36 c37 c38 c39 c40 c41 c42 c43 c44 c45 c46 c47 c48 c49 c50 c51 c52 c53 c54 c55 c56 c57 c58 c59 c60 c61 c62 c63 c64 c65 c66 c67 c68 c69 c70 c71 c72 c73 c74 c75 c76 c77 c78 c79 c80 c81 c82 c83 c84 c85 c86 c87 c88 c89 c90 c91 c92 c93 c94 c95 c96 c97 c98 c99 c100 c101 c102 c103 c104 c105 c106 c107 c108 c109 c110 c111 c112 c113 c114 c115 c116 c117 c118 c119 c120 c121 c122 c123 c124 c125 c126 c127 c128 c129 c130 c131 c132 c133 c134 c135 c136 c137 c138 c139 c140 c141 c142 c143 c144 c145 c146 c147 c148 c149 c150 c151 c152 c153 c154 c155 c156 c157 c158 c159 c160 c161 c162 c163 c164 c165 c166 c167 c168 c169 c170 c171 c172 c173 c174 c175 c176 c177 c178 c179 c180 c181 c182 c183 c184 c185 c186 c187 c188 c189 c190 c191 c192 c193 c194 c195 c196 c197 c198 c199 c200 c201 c202 c203 c204 c205 c206 c207 c208 c209 c210 c211 c212 c213 c214 c215 c216 c217 c218 c219 c220 c221 c222 c223 c224 c225 c226 c227 c228 c229 c230 c231 c232 c233 c234 c235 c236 c237 c238 c239 c240 c241 c242 c243 c244 c245 c246 c247 c248 c249 c250 c251 c252 c253 c254:Value} (Y:Code) (m z:LCmd) (X Z:Nat) (b:Bool) (w0:World) (hne:X≠Z) (rX:Row w0 X 36 (lmCells m)) (rZ:Row w0 Z 36 (lmCells z)) (hs:Short m) (hk:m.x.kind=6)
  (hexit:∀ (u7 u8 u51 u52 u53 u54 u55 u56 u57 u58 u59 u60 u61 u62 u63 u64 u65 u66 u67 u68 u69 u70 u71 u72 u73 u74 u75 u76 u77 u78 u79 u80 u81 u82 u83 u84 u85 u86 u87 u88 u89 u90 u91 u92 u93 u94 u95 u96 u97 u98 u99 u100 u101 u102 u103 u104 u105 u106 u107 u108 u109 u110 u111 u112 u113 u114 u115 u116 u117 u118 u119 u120 u121 u122 u123 u124 u125 u126 u127 u128 u129 u130 u131 u132 u133 u134 u135 u136 u137 u138 u139 u140 u141 u142 u143 u144 u145 u146 u147 u148 u149 u150 u151 u152 u153 u154 u155 u156 u157 u158 u159 u160 u161 u162 u163 u164 u165 u166 u167 u168 u169 u170 u171 u172 u173 u174 u175 u176 u177 u178 u179 u180:Value) (b':Bool) (z':LCmd) (w':World),Row w' X 36 (lmCells m)→Row w' Z 36 (lmCells z')→Only [Z] w0 w'→Sw m z z' b b'→Y.wp Tryz.prog Q ⟨(c0 :: .pointer (some ⟨X,0,none⟩) :: c2 :: .pointer (some ⟨Z,0,none⟩) :: .bool b' :: c5 :: c6 :: u7 :: u8 :: c9 :: c10 :: c11 :: c12 :: c13 :: c14 :: c15 :: c16 :: c17 :: c18 :: c19 :: c20 :: c21 :: c22 :: c23 :: c24 :: c25 :: c26 :: c27 :: c28 :: c29 :: c30 :: c31 :: c32 :: c33 :: c34 :: c35 :: c36 :: c37 :: c38 :: c39 :: c40 :: c41 :: c42 :: c43 :: c44 :: c45 :: c46 :: c47 :: c48 :: c49 :: c50 :: u51 :: u52 :: u53 :: u54 :: u55 :: u56 :: u57 :: u58 :: u59 :: u60 :: u61 :: u62 :: u63 :: u64 :: u65 :: u66 :: u67 :: u68 :: u69 :: u70 :: u71 :: u72 :: u73 :: u74 :: u75 :: u76 :: u77 :: u78 :: u79 :: u80 :: u81 :: u82 :: u83 :: u84 :: u85 :: u86 :: u87 :: u88 :: u89 :: u90 :: u91 :: u92 :: u93 :: u94 :: u95 :: u96 :: u97 :: u98 :: u99 :: u100 :: u101 :: u102 :: u103 :: u104 :: u105 :: u106 :: u107 :: u108 :: u109 :: u110 :: u111 :: u112 :: u113 :: u114 :: u115 :: u116 :: u117 :: u118 :: u119 :: u120 :: u121 :: u122 :: u123 :: u124 :: u125 :: u126 :: u127 :: u128 :: u129 :: u130 :: u131 :: u132 :: u133 :: u134 :: u135 :: u136 :: u137 :: u138 :: u139 :: u140 :: u141 :: u142 :: u143 :: u144 :: u145 :: u146 :: u147 :: u148 :: u149 :: u150 :: u151 :: u152 :: u153 :: u154 :: u155 :: u156 :: u157 :: u158 :: u159 :: u160 :: u161 :: u162 :: u163 :: u164 :: u165 :: u166 :: u167 :: u168 :: u169 :: u170 :: u171 :: u172 :: u173 :: u174 :: u175 :: u176 :: u177 :: u178 :: u179 :: u180 :: c181 :: c182 :: c183 :: c184 :: c185 :: c186 :: c187 :: c188 :: c189 :: c190 :: c191 :: c192 :: c193 :: c194 :: c195 :: c196 :: c197 :: c198 :: c199 :: c200 :: c201 :: c202 :: c203 :: c204 :: c205 :: c206 :: c207 :: c208 :: c209 :: c210 :: c211 :: c212 :: c213 :: c214 :: c215 :: c216 :: c217 :: c218 :: c219 :: c220 :: c221 :: c222 :: c223 :: c224 :: c225 :: c226 :: c227 :: c228 :: c229 :: c230 :: c231 :: c232 :: c233 :: c234 :: c235 :: c236 :: c237 :: c238 :: c239 :: c240 :: c241 :: c242 :: c243 :: c244 :: c245 :: c246 :: c247 :: c248 :: c249 :: c250 :: c251 :: c252 :: c253 :: c254 :: []).toArray,[]⟩ w') :
  Code.wp Tryz.prog (Code.seq (inFormP 8) Y) Q ⟨(c0 :: .pointer (some ⟨X,0,none⟩) :: c2 :: .pointer (some ⟨Z,0,none⟩) :: .bool b :: c5 :: c6 :: c7 :: c8 :: c9 :: c10 :: c11 :: c12 :: c13 :: c14 :: c15 :: c16 :: c17 :: c18 :: c19 :: c20 :: c21 :: c22 :: c23 :: c24 :: c25 :: c26 :: c27 :: c28 :: c29 :: c30 :: c31 :: c32 :: c33 :: c34 :: c35 :: c36 :: c37 :: c38 :: c39 :: c40 :: c41 :: c42 :: c43 :: c44 :: c45 :: c46 :: c47 :: c48 :: c49 :: c50 :: c51 :: c52 :: c53 :: c54 :: c55 :: c56 :: c57 :: c58 :: c59 :: c60 :: c61 :: c62 :: c63 :: c64 :: c65 :: c66 :: c67 :: c68 :: c69 :: c70 :: c71 :: c72 :: c73 :: c74 :: c75 :: c76 :: c77 :: c78 :: c79 :: c80 :: c81 :: c82 :: c83 :: c84 :: c85 :: c86 :: c87 :: c88 :: c89 :: c90 :: c91 :: c92 :: c93 :: c94 :: c95 :: c96 :: c97 :: c98 :: c99 :: c100 :: c101 :: c102 :: c103 :: c104 :: c105 :: c106 :: c107 :: c108 :: c109 :: c110 :: c111 :: c112 :: c113 :: c114 :: c115 :: c116 :: c117 :: c118 :: c119 :: c120 :: c121 :: c122 :: c123 :: c124 :: c125 :: c126 :: c127 :: c128 :: c129 :: c130 :: c131 :: c132 :: c133 :: c134 :: c135 :: c136 :: c137 :: c138 :: c139 :: c140 :: c141 :: c142 :: c143 :: c144 :: c145 :: c146 :: c147 :: c148 :: c149 :: c150 :: c151 :: c152 :: c153 :: c154 :: c155 :: c156 :: c157 :: c158 :: c159 :: c160 :: c161 :: c162 :: c163 :: c164 :: c165 :: c166 :: c167 :: c168 :: c169 :: c170 :: c171 :: c172 :: c173 :: c174 :: c175 :: c176 :: c177 :: c178 :: c179 :: c180 :: c181 :: c182 :: c183 :: c184 :: c185 :: c186 :: c187 :: c188 :: c189 :: c190 :: c191 :: c192 :: c193 :: c194 :: c195 :: c196 :: c197 :: c198 :: c199 :: c200 :: c201 :: c202 :: c203 :: c204 :: c205 :: c206 :: c207 :: c208 :: c209 :: c210 :: c211 :: c212 :: c213 :: c214 :: c215 :: c216 :: c217 :: c218 :: c219 :: c220 :: c221 :: c222 :: c223 :: c224 :: c225 :: c226 :: c227 :: c228 :: c229 :: c230 :: c231 :: c232 :: c233 :: c234 :: c235 :: c236 :: c237 :: c238 :: c239 :: c240 :: c241 :: c242 :: c243 :: c244 :: c245 :: c246 :: c247 :: c248 :: c249 :: c250 :: c251 :: c252 :: c253 :: c254 :: []).toArray,[]⟩ w0:=by
 have HE:=Lib.hid hexit;have HX:=Lib.hid rX;have HZ:=Lib.hid rZ;have k0:=rX.cell (i:=0) rfl;rw [hk] at k0;have Hk:=Lib.hid hk;clear hexit rX rZ hk;refine wp_seq_k fun K0 h0=>?_
 conv=>arg 2;whnf
 go_upto_region 26 with (fail)
 clear k0;have hRr:∀ x,(RZ Z 36 [9,10,11,12,13,14,6,7,8]) x x:=fun x=>RZ.refl _ _ _ x;have hRt:∀ x b e,(RZ Z 36 [9,10,11,12,13,14,6,7,8]) x b→(RZ Z 36 [9,10,11,12,13,14,6,7,8]) b e→(RZ Z 36 [9,10,11,12,13,14,6,7,8]) x e:=fun _ _ _ h k=>h.trans k;have hRd:(RZ Z 36 [9,10,11,12,13,14,6,7,8]) w0 w0.drew:=RZ.of0 (Only.drew _)
 have hRs:∀ j w,DirtR [(7,RZ Z 36 [9,10,11,12,13]),(9,RZ Z 36 [14]),(11,RZ Z 36 [6,7,8])] j w w:=DirtR.refl (by
  intro x hx w;simp only [List.mem_cons,List.not_mem_nil,or_false] at hx
  rcases hx with rfl | rfl | rfl <;> exact RZ.refl _ _ _ _)
 have hC0:∀ d∈[7,9,11],(fun (_:Nat) (_:World)=>True) d w0.drew:=fun _ _=>trivial;refine wp_region_rg7 (RZ Z 36 [9,10,11,12,13,14,6,7,8]) (DirtR [(7,RZ Z 36 [9,10,11,12,13]),(9,RZ Z 36 [14]),(11,RZ Z 36 [6,7,8])]) (fun (_:Nat) (_:World)=>True) [7,9,11] [[(1,none)],[(88,some 0)],[(1,none)],[(90,some 0)],[(1,none)],[(92,some 0)],[(3,none)],[(94,some 0),(89,some 5)],[(3,none)],[(95,some 0),(91,some 5)],[(3,none)],[(96,some 0),(93,some 5)]] [] [4,2,0] [none,none,none,none,none,none,none,none,none,none,none,none,none,none,none,none,none,none,none,none,none,none,none,none,none,none,none,none,none,none,none,none,none,none,none,none,none,none,none,none,none,none,none,none,none,none,none,none,none,none,none,none,none,none,none,none,none,none,none,none,none,none,none,none,none,none,none,none,none,none,none,none,none,none,none,none,none,none,none,none,none,none,none,none,none,none,none,none,some 88,some 89,some 90,some 91,some 92,some 93,some 94,some 95,some 96,none,none,none,none,none,none,none,none,none,none,none,none,none,none,none,none,none,none,none,none,none,none,none,none,none,none,none,none,none,none,none,none,none,none,none,none,none,none,none,none,none,none,none,none,none,none,none,none,none,none,none,none,none,none,none,none,none,none,none,none,none,none,none,none,none,none,none,none,none,none,none,none,none,none,none,none,none,none,none,none,none,none,none,none,none,none,none,none,none,none,none,none,none,none,none,none,none,none,none,none,none,none,none,none,none,none,none,none,none,none,none,none,none,none,none,none,none,none,none,none,none,none,none,none,none,none,none,none,none,none,none,none,none,none,none,none,none,none,none,none,none,none,none,none,none,none,none,none,none,none,none,none,none,none,none,none,none,none] (by kernel_rfl) rfl (by kernel_rfl) hRr hRt hRs hRd hC0 (by kernel_rfl) (by kernel_rfl) ?_
 apply rg7_ev
 ·rintro a w hR hC ⟨(e1:_=_),-⟩;refine rg_plain rfl fun K hK=>?_;go_simp;exact hK _ _ rfl ⟨hRr _,hRs _ _,fun _ _ _ _ h=>h⟩
 apply rg7_ev
 ·rintro a w hR hC ⟨(e88:_=_),-⟩;refine rg_plain rfl fun K hK=>?_;have hx:=HX.out.only hR.1 (by simp;exact hne);have y9:=hx.cell (i:=9) rfl;have y10:=hx.cell (i:=10) rfl;have y11:=hx.cell (i:=11) rfl;have y12:=hx.cell (i:=12) rfl;have y13:=hx.cell (i:=13) rfl;go_simp;exact hK _ _ rfl ⟨hRr _,hRs _ _,fun _ _ _ _ h=>h⟩
 apply rg7_ev
 ·rintro a w hR hC ⟨(e1:_=_),-⟩;refine rg_plain rfl fun K hK=>?_;go_simp;exact hK _ _ rfl ⟨hRr _,hRs _ _,fun _ _ _ _ h=>h⟩
 apply rg7_ev
 ·rintro a w hR hC ⟨(e90:_=_),-⟩;refine rg_plain rfl fun K hK=>?_;have hx:=HX.out.only hR.1 (by simp;exact hne);have y14:=hx.cell (i:=14) rfl;go_simp;exact hK _ _ rfl ⟨hRr _,hRs _ _,fun _ _ _ _ h=>h⟩
 apply rg7_ev
 ·rintro a w hR hC ⟨(e1:_=_),-⟩;refine rg_plain rfl fun K hK=>?_;go_simp;exact hK _ _ rfl ⟨hRr _,hRs _ _,fun _ _ _ _ h=>h⟩
 apply rg7_ev
 ·rintro a w hR hC ⟨(e92:_=_),-⟩;refine rg_plain rfl fun K hK=>?_;have hx:=HX.out.only hR.1 (by simp;exact hne);have y6:=hx.cell (i:=6) rfl;have y7:=hx.cell (i:=7) rfl;have y8:=hx.cell (i:=8) rfl;go_simp;exact hK _ _ rfl ⟨hRr _,hRs _ _,fun _ _ _ _ h=>h⟩
 apply rg7_ev
 ·rintro a w hR hC ⟨(e3:_=_),-⟩;refine rg_plain rfl fun K hK=>?_;go_simp;exact hK _ _ rfl ⟨hRr _,hRs _ _,fun _ _ _ _ h=>h⟩
 refine ⟨StC Z 36 [(9,.int .i64 m.x.piece.blob.node),(10,.int .i64 m.x.piece.blob.boot),(11,.int .i64 m.x.piece.blob.seq),(12,.int .i64 m.x.piece.size),(13,.string (str m.x.piece.etag))],stands5_of StC.stable (by intro x hx hk;simp only [List.mem_cons,List.not_mem_nil,or_false] at hx;rcases hx with rfl | rfl | rfl <;> first | (refine StC.stableZ ?_;simp;done) | exact Bool.noConfusion (hk.symm.trans (by kernel_rfl:_=true))),fun a w hR hC hf=>?_,?_⟩
 ·obtain ⟨e94,e89,-⟩:=hf;replace e94:a.tmps.getD 94 undef=_:=e94;replace e89:a.tmps.getD 89 undef=_:=e89;refine rg_plain rfl fun K hK=>?_;obtain ⟨vs,rz,hl,-⟩:=hR.2 _ HZ.out;have hl2:vs.length=18:=hl;obtain ⟨v9,h9⟩:∃ v,vs[9]?=some v:=⟨_,List.getElem?_eq_getElem (by omega)⟩;have z9:=rz.cell h9;have zf9:=rz.free 9;obtain ⟨v10,h10⟩:∃ v,vs[10]?=some v:=⟨_,List.getElem?_eq_getElem (by omega)⟩;have z10:=rz.cell h10;have zf10:=rz.free 10;obtain ⟨v11,h11⟩:∃ v,vs[11]?=some v:=⟨_,List.getElem?_eq_getElem (by omega)⟩;have z11:=rz.cell h11
  have zf11:=rz.free 11;obtain ⟨v12,h12⟩:∃ v,vs[12]?=some v:=⟨_,List.getElem?_eq_getElem (by omega)⟩;have z12:=rz.cell h12;have zf12:=rz.free 12;obtain ⟨v13,h13⟩:∃ v,vs[13]?=some v:=⟨_,List.getElem?_eq_getElem (by omega)⟩;have z13:=rz.cell h13;have zf13:=rz.free 13;have hst:=StC.sets rz [(9,.int .i64 m.x.piece.blob.node),(10,.int .i64 m.x.piece.blob.boot),(11,.int .i64 m.x.piece.blob.seq),(12,.int .i64 m.x.piece.size),(13,.string (str m.x.piece.etag))] (by simp) (by simp;omega);clear hl hl2 h9 h10 h11 h12 h13;have Hst:=Lib.hid hst;clear hst;go_simp
  exact hK undef _ Hst.out.1 ⟨Hst.out.2.mono (by simp),Hst.out.2,fun _ _ _ _ _=>trivial⟩
 apply rg7_ev
 ·rintro a w hR hC ⟨(e3:_=_),-⟩;refine rg_plain rfl fun K hK=>?_;go_simp;exact hK _ _ rfl ⟨hRr _,hRs _ _,fun _ _ _ _ h=>h⟩
 refine ⟨StC Z 36 [(14,.int .i64 m.x.part)],stands5_of StC.stable (by intro x hx hk;simp only [List.mem_cons,List.not_mem_nil,or_false] at hx;rcases hx with rfl | rfl | rfl <;> first | (refine StC.stableZ ?_;simp;done) | exact Bool.noConfusion (hk.symm.trans (by kernel_rfl:_=true))),fun a w hR hC hf=>?_,?_⟩
 ·obtain ⟨e95,e91,-⟩:=hf;replace e95:a.tmps.getD 95 undef=_:=e95;replace e91:a.tmps.getD 91 undef=_:=e91;refine rg_plain rfl fun K hK=>?_;obtain ⟨vs,rz,hl,-⟩:=hR.2 _ HZ.out;have hl2:vs.length=18:=hl;obtain ⟨v14,h14⟩:∃ v,vs[14]?=some v:=⟨_,List.getElem?_eq_getElem (by omega)⟩;have z14:=rz.cell h14;have zf14:=rz.free 14;have hst:=StC.sets rz [(14,.int .i64 m.x.part)] (by simp) (by simp;omega);clear hl hl2 h14;have Hst:=Lib.hid hst;clear hst;go_simp;exact hK undef _ Hst.out.1 ⟨Hst.out.2.mono (by simp),Hst.out.2,fun _ _ _ _ _=>trivial⟩
 apply rg7_ev
 ·rintro a w hR hC ⟨(e3:_=_),-⟩;refine rg_plain rfl fun K hK=>?_;go_simp;exact hK _ _ rfl ⟨hRr _,hRs _ _,fun _ _ _ _ h=>h⟩
 refine ⟨StC Z 36 [(6,.int .i64 m.x.upload.node),(7,.int .i64 m.x.upload.boot),(8,.int .i64 m.x.upload.seq)],stands5_of StC.stable (by intro x hx hk;simp only [List.mem_cons,List.not_mem_nil,or_false] at hx;rcases hx with rfl | rfl | rfl <;> first | (refine StC.stableZ ?_;simp;done) | exact Bool.noConfusion (hk.symm.trans (by kernel_rfl:_=true))),fun a w hR hC hf=>?_,?_⟩
 ·obtain ⟨e96,e93,-⟩:=hf;replace e96:a.tmps.getD 96 undef=_:=e96;replace e93:a.tmps.getD 93 undef=_:=e93;refine rg_plain rfl fun K hK=>?_;obtain ⟨vs,rz,hl,-⟩:=hR.2 _ HZ.out;have hl2:vs.length=18:=hl;obtain ⟨v6,h6⟩:∃ v,vs[6]?=some v:=⟨_,List.getElem?_eq_getElem (by omega)⟩;have z6:=rz.cell h6;have zf6:=rz.free 6;obtain ⟨v7,h7⟩:∃ v,vs[7]?=some v:=⟨_,List.getElem?_eq_getElem (by omega)⟩;have z7:=rz.cell h7;have zf7:=rz.free 7;obtain ⟨v8,h8⟩:∃ v,vs[8]?=some v:=⟨_,List.getElem?_eq_getElem (by omega)⟩;have z8:=rz.cell h8
  have zf8:=rz.free 8;have hst:=StC.sets rz [(6,.int .i64 m.x.upload.node),(7,.int .i64 m.x.upload.boot),(8,.int .i64 m.x.upload.seq)] (by simp) (by simp;omega);clear hl hl2 h6 h7 h8;have Hst:=Lib.hid hst;clear hst;go_simp;exact hK undef _ Hst.out.1 ⟨Hst.out.2.mono (by simp),Hst.out.2,fun _ _ _ _ _=>trivial⟩
 intro f3 w3 hR3 hf hl3;dsimp only [mergeT];obtain ⟨l7,l9,l11,-⟩:=hl3;replace l7:∃ v,(StC Z 36 [(9,.int .i64 m.x.piece.blob.node),(10,.int .i64 m.x.piece.blob.boot),(11,.int .i64 m.x.piece.blob.seq),(12,.int .i64 m.x.piece.size),(13,.string (str m.x.piece.etag))]) v w3:=l7;replace l9:∃ v,(StC Z 36 [(14,.int .i64 m.x.part)]) v w3:=l9;replace l11:∃ v,(StC Z 36 [(6,.int .i64 m.x.upload.node),(7,.int .i64 m.x.upload.boot),(8,.int .i64 m.x.upload.seq)]) v w3:=l11;obtain ⟨u7,s7⟩:=l7;obtain ⟨u9,s9⟩:=l9;obtain ⟨u11,s11⟩:=l11;have rz3:Row w3 Z 36 (lmCells ⟨{ z.x with piece:=m.x.piece,part:=m.x.part,upload:=m.x.upload },z.p,z.c⟩):=zone_end (((s7.app s9).app s11)) HZ.out hR3 (by simp)
 have HX3:=Lib.hid (HX.out.only hR3.1 (by simp;exact hne));have HZ3:=Lib.hid rz3;have HO3:=Lib.hid hR3.1;clear hR3 rz3 hRr hRt hRd hRs hC0 s7 s9 s11
 cases b with
 | false =>
  go_wp2_with fail;exact HE.out _ _ _ _ _ _ _ _ _ _ _ _ _ _ _ _ _ _ _ _ _ _ _ _ _ _ _ _ _ _ _ _ _ _ _ _ _ _ _ _ _ _ _ _ _ _ _ _ _ _ _ _ _ _ _ _ _ _ _ _ _ _ _ _ _ _ _ _ _ _ _ _ _ _ _ _ _ _ _ _ _ _ _ _ _ _ _ _ _ _ _ _ _ _ _ _ _ _ _ _ _ _ _ _ _ _ _ _ _ _ _ _ _ _ _ _ _ _ _ _ _ _ _ _ _ _ _ _ _ _ _ _ false ⟨{ z.x with piece:=m.x.piece,part:=m.x.part,upload:=m.x.upload },z.p,z.c⟩ _ HX3.out HZ3.out HO3.out ⟨by have:=Hk.out;omega,by have:=Hk.out;omega,rfl,rfl,fun h=>absurd h (by decide),fun h=>absurd h (by decide),fun h=>absurd h (by decide),fun h=>absurd h (by decide),fun _=>rfl⟩
 | true =>
  have x9:=HX3.out.cell (i:=9) rfl;have x10:=HX3.out.cell (i:=10) rfl;have x11:=HX3.out.cell (i:=11) rfl;have x12:=HX3.out.cell (i:=12) rfl;have x13:=HX3.out.cell (i:=13) rfl;have hpc:=piece10_any m.x.piece w3 hs.et;unfold pcV at hpc;go_wp2_with fail;(with_reducible refine hpc.mono ?_);clear hpc x9 x10 x11 x12 x13;rintro e w4 ⟨v,rfl,hv,o4⟩;have HX4:=Lib.hid (HX3.out.only0 o4);have HZ4:=Lib.hid (HZ3.out.only0 o4);have HO4:=Lib.hid (HO3.out.trans0 o4);have Hv:=Lib.hid hv;clear o4 hv HX3 HZ3 HO3
  cases v with
  | false =>
   go_wp2_with fail;exact HE.out _ _ _ _ _ _ _ _ _ _ _ _ _ _ _ _ _ _ _ _ _ _ _ _ _ _ _ _ _ _ _ _ _ _ _ _ _ _ _ _ _ _ _ _ _ _ _ _ _ _ _ _ _ _ _ _ _ _ _ _ _ _ _ _ _ _ _ _ _ _ _ _ _ _ _ _ _ _ _ _ _ _ _ _ _ _ _ _ _ _ _ _ _ _ _ _ _ _ _ _ _ _ _ _ _ _ _ _ _ _ _ _ _ _ _ _ _ _ _ _ _ _ _ _ _ _ _ _ _ _ _ _ false ⟨{ z.x with piece:=m.x.piece,part:=m.x.part,upload:=m.x.upload },z.p,z.c⟩ _ HX4.out HZ4.out HO4.out ⟨by have:=Hk.out;omega,by have:=Hk.out;omega,rfl,rfl,fun h=>absurd h (by decide),fun h=>absurd h (by decide),fun h=>absurd h (by decide),fun h=>absurd h (by decide),fun _=>rfl⟩
  | true =>
   have x1:=HX4.out.cell (i:=1) rfl;have x2:=HX4.out.cell (i:=2) rfl;have x3:=HX4.out.cell (i:=3) rfl;have x9:=HX4.out.cell (i:=9) rfl;have x10:=HX4.out.cell (i:=10) rfl;have x11:=HX4.out.cell (i:=11) rfl;have x14:=HX4.out.cell (i:=14) rfl;have q:=eqId m.x.piece.blob m.x.id;unfold idV at q
   by_cases hbi:m.x.piece.blob=m.x.id
   ·simp only [decide_eq_true hbi] at q;clear hbi;have hcase:¬ 1≤m.x.part∨(1≤m.x.part∧¬ m.x.part≤16)∨(1≤m.x.part∧m.x.part≤16):=by omega
    rcases hcase with t1 | ⟨t1,t2⟩ | ⟨t1,t2⟩
    ·skip
     go_wp2_with fail;exact HE.out _ _ _ _ _ _ _ _ _ _ _ _ _ _ _ _ _ _ _ _ _ _ _ _ _ _ _ _ _ _ _ _ _ _ _ _ _ _ _ _ _ _ _ _ _ _ _ _ _ _ _ _ _ _ _ _ _ _ _ _ _ _ _ _ _ _ _ _ _ _ _ _ _ _ _ _ _ _ _ _ _ _ _ _ _ _ _ _ _ _ _ _ _ _ _ _ _ _ _ _ _ _ _ _ _ _ _ _ _ _ _ _ _ _ _ _ _ _ _ _ _ _ _ _ _ _ _ _ _ _ _ _ false ⟨{ z.x with piece:=m.x.piece,part:=m.x.part,upload:=m.x.upload },z.p,z.c⟩ _ HX4.out HZ4.out HO4.out ⟨by have:=Hk.out;omega,by have:=Hk.out;omega,rfl,rfl,fun h=>absurd h (by decide),fun h=>absurd h (by decide),fun h=>absurd h (by decide),fun h=>absurd h (by decide),fun _=>rfl⟩
    ·have t3:=decide_eq_false t2;clear t2;go_wp2_with fail;exact HE.out _ _ _ _ _ _ _ _ _ _ _ _ _ _ _ _ _ _ _ _ _ _ _ _ _ _ _ _ _ _ _ _ _ _ _ _ _ _ _ _ _ _ _ _ _ _ _ _ _ _ _ _ _ _ _ _ _ _ _ _ _ _ _ _ _ _ _ _ _ _ _ _ _ _ _ _ _ _ _ _ _ _ _ _ _ _ _ _ _ _ _ _ _ _ _ _ _ _ _ _ _ _ _ _ _ _ _ _ _ _ _ _ _ _ _ _ _ _ _ _ _ _ _ _ _ _ _ _ _ _ _ _ false ⟨{ z.x with piece:=m.x.piece,part:=m.x.part,upload:=m.x.upload },z.p,z.c⟩ _ HX4.out HZ4.out HO4.out ⟨by have:=Hk.out;omega,by have:=Hk.out;omega,rfl,rfl,fun h=>absurd h (by decide),fun h=>absurd h (by decide),fun h=>absurd h (by decide),fun h=>absurd h (by decide),fun _=>rfl⟩
    ·have Ht:=Lib.hid (And.intro t1 t2);go_wp2_with fail;exact HE.out _ _ _ _ _ _ _ _ _ _ _ _ _ _ _ _ _ _ _ _ _ _ _ _ _ _ _ _ _ _ _ _ _ _ _ _ _ _ _ _ _ _ _ _ _ _ _ _ _ _ _ _ _ _ _ _ _ _ _ _ _ _ _ _ _ _ _ _ _ _ _ _ _ _ _ _ _ _ _ _ _ _ _ _ _ _ _ _ _ _ _ _ _ _ _ _ _ _ _ _ _ _ _ _ _ _ _ _ _ _ _ _ _ _ _ _ _ _ _ _ _ _ _ _ _ _ _ _ _ _ _ _ true ⟨{ z.x with piece:=m.x.piece,part:=m.x.part,upload:=m.x.upload },z.p,z.c⟩ _ HX4.out HZ4.out HO4.out ⟨by have:=Hk.out;omega,by have:=Hk.out;omega,rfl,rfl,fun _=>rfl,fun _ _=>Hv.out trivial,fun _ _=>Ht.out,fun _ h=>by have:=Hk.out;omega,fun _=>rfl⟩
   ·simp only [decide_eq_false hbi] at q;clear hbi;go_wp2_with fail;exact HE.out _ _ _ _ _ _ _ _ _ _ _ _ _ _ _ _ _ _ _ _ _ _ _ _ _ _ _ _ _ _ _ _ _ _ _ _ _ _ _ _ _ _ _ _ _ _ _ _ _ _ _ _ _ _ _ _ _ _ _ _ _ _ _ _ _ _ _ _ _ _ _ _ _ _ _ _ _ _ _ _ _ _ _ _ _ _ _ _ _ _ _ _ _ _ _ _ _ _ _ _ _ _ _ _ _ _ _ _ _ _ _ _ _ _ _ _ _ _ _ _ _ _ _ _ _ _ _ _ _ _ _ _ false ⟨{ z.x with piece:=m.x.piece,part:=m.x.part,upload:=m.x.upload },z.p,z.c⟩ _ HX4.out HZ4.out HO4.out ⟨by have:=Hk.out;omega,by have:=Hk.out;omega,rfl,rfl,fun h=>absurd h (by decide),fun h=>absurd h (by decide),fun h=>absurd h (by decide),fun h=>absurd h (by decide),fun _=>rfl⟩
end
end Go.Proofs.YtfeglnpmpgipiaaGreatDoor
