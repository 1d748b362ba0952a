/- OrdPk, part 29: FindObW, FindUpW, FindPtW. -/
import Derived.Test.YtfeglnpmpgipiaaGreatDoorOrdPk10
set_option linter.unusedVariables false
set_option maxRecDepth 100000
set_option linter.unusedSimpArgs false
namespace Go.Proofs.YtfeglnpmpgipiaaGreatDoor
section
open Go.RowKit
set_option maxHeartbeats 8000000 in
theorem bsfOb_any (p:Option Addr) (n c:Nat) (xs:List LObj) (k:Bs) (w0:World) (hn:xs.length=n) (hb:n≤1000000) (hp:p=none→n=0) (hx:Rd w0 p (xs.flatMap loCells)) (hs:SortB LObj.key lt xs) :
  Calls Tryz.prog 109 #[.slice p n c,.string (str k),.func (.func 67) #[] #[]] w0 fun e w'=>e=.returned (.tuple #[.int .i64 ((posL LObj.key lt xs k:Nat):Int),.bool (thereL LObj.key lt xs k)])∧Only [] w0 w':=by
 have Hx:=Lib.hid hx;have Hs:=Lib.hid hs;have Hn:=Lib.hid hn;have Hp:=Lib.hid hp;clear hx hs hn hp
 go_enter Tryz.func109,Tryz.ntmps109
 go_wp2_with fail
 go_loopw [9,10] (fun s9 s10 wr=>∃ i j:Nat,s9=.int .i64 (i:Int)∧s10=.int .i64 (j:Int)∧i≤j∧j≤n∧Hid ((∀ x,0 < i→xs[i - 1]?=some x→lt (LObj.key x) k)∧(∀ x,xs[j]?=some x→¬ lt (LObj.key x) k))∧Hid (Only [] w0 wr)) (fun s9 s10 _=>(intOf s10).toNat - (intOf s9).toNat)
 case atStart=>exact ⟨0,n,rfl,rfl,Nat.zero_le _,Nat.le_refl _,Lib.hid ⟨fun x h=>absurd h (by omega),fun x h=>by have:=(List.getElem?_eq_some_iff.1 h).1;rw [Hn.out] at this;omega⟩,Lib.hid (Only.refl _ _)⟩
 case round =>
  obtain ⟨i,j,rfl,rfl,hij,hjn,HI,HO⟩:=hrel
  by_cases hlt:i < j
  ·obtain ⟨x,hxx⟩:∃ x,xs[(i+j) / 2]?=some x:=⟨_,List.getElem?_eq_getElem (by rw [Hn.out];omega)⟩;have hrd:=Hx.out.only0 HO.out;have hne:xs.flatMap loCells≠[]:=fun e'=>(by have:=flat_get loCells 5 loCells_len xs _ x 0 hxx (by omega);rw [e'] at this;cases this);obtain ⟨b,off,rfl,-⟩:=hrd.lt hne;have x0:=rd_elem loCells_len hrd hxx (r:=0) rfl;have x1:=rd_elem loCells_len hrd hxx (r:=1) rfl;have x2:=rd_elem loCells_len hrd hxx (r:=2) rfl;have x3:=rd_elem loCells_len hrd hxx (r:=3) rfl;have x4:=rd_elem loCells_len hrd hxx (r:=4) rfl;rw [Addr.add_lit,← Nat.add_assoc] at x0 x1 x2 x3 x4
   rw [Nat.add_zero] at x0;have hby:=byKey_any x k wr;have Hxx:=Lib.hid hxx;unfold loV at hby;have hmid:(i+j) / 2 < n:=(by omega);clear hrd hne hxx
   by_cases hl:lt (LObj.key x) k
   ·rw [decide_eq_true hl] at hby;unfold sgn at hby;rw [if_pos rfl] at hby;have Hl:=Lib.hid hl;clear hl;go_wp2_with fail;refine hby.mono ?_;clear hby x0 x1 x2 x3 x4;rintro e w' ⟨rfl,o'⟩
    have HI2:Hid ((∀ x,0 < (i+j) / 2+1→xs[(i+j) / 2+1 - 1]?=some x→lt (LObj.key x) k)∧(∀ x,xs[j]?=some x→¬ lt (LObj.key x) k)):=Lib.hid ⟨fun y _ hy=>by
     rw [Nat.add_sub_cancel,Hxx.out] at hy
     cases hy
     exact Hl.out,HI.out.2⟩
    have HO2:=Lib.hid (HO.out.trans0 o');clear o';go_wp2_with fail;refine ⟨⟨(i+j) / 2+1,j,by go_num,rfl,by omega,hjn,HI2,HO2⟩,?_⟩
    simp [intOf];omega
   ·rw [decide_eq_false hl] at hby;unfold sgn at hby;rw [if_neg (by simp)] at hby;have Hl:=Lib.hid hl
    have HI2:Hid ((∀ x,0 < i→xs[i - 1]?=some x→lt (LObj.key x) k)∧(∀ x,xs[(i+j) / 2]?=some x→¬ lt (LObj.key x) k)):=Lib.hid ⟨HI.out.1,fun y hy=>by
     rw [Hxx.out] at hy
     cases hy
     exact Hl.out⟩
    clear hl
    by_cases hk:LObj.key x=k
    ·rw [decide_eq_true hk,if_pos rfl] at hby;clear hk;go_wp2_with fail;refine hby.mono ?_;clear hby x0 x1 x2 x3 x4;rintro e w' ⟨rfl,o'⟩;have HO2:=Lib.hid (HO.out.trans0 o');clear o';go_wp2_with fail;refine ⟨⟨i,(i+j) / 2,rfl,by go_num,by omega,by omega,HI2,HO2⟩,?_⟩
     simp [intOf];omega
    ·rw [decide_eq_false hk,if_neg (by simp)] at hby;clear hk;go_wp2_with fail;refine hby.mono ?_;clear hby x0 x1 x2 x3 x4;rintro e w' ⟨rfl,o'⟩;have HO2:=Lib.hid (HO.out.trans0 o');clear o';go_wp2_with fail;refine ⟨⟨i,(i+j) / 2,rfl,by go_num,by omega,by omega,HI2,HO2⟩,?_⟩
     simp [intOf];omega
  ·obtain rfl:i=j:=(by omega);have Hpos:Hid (posL LObj.key lt xs k=i):=Lib.hid (posL_eq linB Hs.out (by rw [Hn.out];exact hjn) HI.out.1 HI.out.2)
   by_cases hin:i < n
   ·obtain ⟨x,hxx⟩:∃ x,xs[i]?=some x:=⟨_,List.getElem?_eq_getElem (by rw [Hn.out];omega)⟩;have Hth:Hid (thereL LObj.key lt xs k=decide (LObj.key x=k)):=Lib.hid (by unfold thereL;rw [Hpos.out,hxx]);have hl:=HI.out.2 x hxx;have hrd:=Hx.out.only0 HO.out;have hne:xs.flatMap loCells≠[]:=fun e'=>(by have:=flat_get loCells 5 loCells_len xs _ x 0 hxx (by omega);rw [e'] at this;cases this);obtain ⟨b,off,rfl,-⟩:=hrd.lt hne;have x0:=rd_elem loCells_len hrd hxx (r:=0) rfl;have x1:=rd_elem loCells_len hrd hxx (r:=1) rfl;have x2:=rd_elem loCells_len hrd hxx (r:=2) rfl
    have x3:=rd_elem loCells_len hrd hxx (r:=3) rfl;have x4:=rd_elem loCells_len hrd hxx (r:=4) rfl;rw [Addr.add_lit,← Nat.add_assoc] at x0 x1 x2 x3 x4;rw [Nat.add_zero] at x0;have hby:=byKey_any x k wr;unfold loV sgn at hby;rw [decide_eq_false hl,if_neg (by simp)] at hby;clear hrd hne hxx hl
    by_cases hk:LObj.key x=k
    ·rw [decide_eq_true hk,if_pos rfl] at hby;rw [decide_eq_true hk] at Hth;clear hk;go_wp2_with fail;refine hby.mono ?_;clear hby x0 x1 x2 x3 x4;rintro e w' ⟨rfl,o'⟩;have HO2:=Lib.hid (HO.out.trans0 o');clear o';go_wp2_with fail
     go_ret2
     exact ⟨by rw [Hpos.out,Hth.out];rfl,HO2.out⟩
    ·rw [decide_eq_false hk,if_neg (by simp)] at hby;rw [decide_eq_false hk] at Hth;clear hk;go_wp2_with fail;refine hby.mono ?_;clear hby x0 x1 x2 x3 x4;rintro e w' ⟨rfl,o'⟩;have HO2:=Lib.hid (HO.out.trans0 o');clear o';go_wp2_with fail
     go_ret2
     exact ⟨by rw [Hpos.out,Hth.out];rfl,HO2.out⟩
   ·obtain rfl:i=n:=by omega
    have Hth:Hid (thereL LObj.key lt xs k=false):=Lib.hid (by
     unfold thereL
     rw [Hpos.out,List.getElem?_eq_none_iff.2 (by rw [Hn.out];exact Nat.le_refl _)])
    go_wp2_with fail
    go_ret2
    exact ⟨by rw [Hpos.out,Hth.out];rfl,HO.out⟩
theorem findOb_any (p:Option Addr) (n c:Nat) (xs:List LObj) (k:Bs) (w0:World) (hn:xs.length=n) (hb:n≤1000000) (hp:p=none→n=0) (hx:Rd w0 p (xs.flatMap loCells)) (hs:SortB LObj.key lt xs) :
  Calls Tryz.prog 66 #[.slice p n c,.string (str k),.func (.func 67) #[] #[]] w0 fun e w'=>e=.returned (.tuple #[.int .i64 ((posL LObj.key lt xs k:Nat):Int),.bool (thereL LObj.key lt xs k)])∧Only [] w0 w':=by
 have h:=bsfOb_any p n c xs k w0 hn hb hp hx hs;generalize posL LObj.key lt xs k=i at h;generalize thereL LObj.key lt xs k=b at h
 go_enter Tryz.func66,Tryz.ntmps66
 go_wp2_with fail;refine h.mono ?_;clear h;rintro e w' ⟨rfl,o'⟩;go_wp2_with fail
 go_ret2
 exact ⟨rfl,o'⟩
end
section
open Go.RowKit
set_option maxHeartbeats 8000000 in
theorem bsfUp_any (p:Option Addr) (n c:Nat) (xs:List LUpl) (k:Cid) (w0:World) (hn:xs.length=n) (hb:n≤1000000) (hp:p=none→n=0) (hx:Rd w0 p (xs.flatMap luCells)) (hs:SortB LUpl.id ltI xs) :
  Calls Tryz.prog 111 #[.slice p n c,idV k,.func (.func 70) #[] #[]] w0 fun e w'=>e=.returned (.tuple #[.int .i64 ((posL LUpl.id ltI xs k:Nat):Int),.bool (thereL LUpl.id ltI xs k)])∧Only [] w0 w':=by
 have Hx:=Lib.hid hx;have Hs:=Lib.hid hs;have Hn:=Lib.hid hn;have Hp:=Lib.hid hp;clear hx hs hn hp;obtain ⟨w1,hw1⟩:∃ w1,w1=w0.alloc (.cells #[.int .i64 k.node,.int .i64 k.boot,.int .i64 k.seq] 31):=⟨_,rfl⟩;have Hk:=Lib.hid (show Row w1 w0.heap.size 31 (idCells k) by rw [hw1];exact Row.newOf _ _ _ _ rfl);have Ho1:=Lib.hid (show Only [] w0 w1 by rw [hw1];exact Only.alloc _ _);have Hw1:=Lib.hid hw1;clear hw1;unfold idV
 go_enter Tryz.func111,Tryz.ntmps111
 go_wp2_with fail;rw [← Hw1.out];clear Hw1
 go_loopw [9,10] (fun s9 s10 wr=>∃ i j:Nat,s9=.int .i64 (i:Int)∧s10=.int .i64 (j:Int)∧i≤j∧j≤n∧Hid ((∀ x,0 < i→xs[i - 1]?=some x→ltI (LUpl.id x) k)∧(∀ x,xs[j]?=some x→¬ ltI (LUpl.id x) k))∧Hid (Only [] w1 wr)) (fun s9 s10 _=>(intOf s10).toNat - (intOf s9).toNat)
 case atStart=>exact ⟨0,n,rfl,rfl,Nat.zero_le _,Nat.le_refl _,Lib.hid ⟨fun x h=>absurd h (by omega),fun x h=>by have:=(List.getElem?_eq_some_iff.1 h).1;rw [Hn.out] at this;omega⟩,Lib.hid (Only.refl _ _)⟩
 case round =>
  obtain ⟨i,j,rfl,rfl,hij,hjn,HI,HO⟩:=hrel
  by_cases hlt:i < j
  ·obtain ⟨x,hxx⟩:∃ x,xs[(i+j) / 2]?=some x:=⟨_,List.getElem?_eq_getElem (by rw [Hn.out];omega)⟩;have hrd:=Hx.out.only0 (Ho1.out.trans0 HO.out);have kr:=Hk.out.only0 HO.out;have k0:=kr.cell (i:=0) rfl;have k1:=kr.cell (i:=1) rfl;have k2:=kr.cell (i:=2) rfl;have hne:xs.flatMap luCells≠[]:=fun e'=>(by have:=flat_get luCells 5 luCells_len xs _ x 0 hxx (by omega);rw [e'] at this;cases this);obtain ⟨b,off,rfl,-⟩:=hrd.lt hne;have x0:=rd_elem luCells_len hrd hxx (r:=0) rfl;have x1:=rd_elem luCells_len hrd hxx (r:=1) rfl;have x2:=rd_elem luCells_len hrd hxx (r:=2) rfl
   have x3:=rd_elem luCells_len hrd hxx (r:=3) rfl;have x4:=rd_elem luCells_len hrd hxx (r:=4) rfl;rw [Addr.add_lit,← Nat.add_assoc] at x0 x1 x2 x3 x4;rw [Nat.add_zero] at x0;have hby:=fun w=>byId_any x k w;have Hxx:=Lib.hid hxx;unfold luV idV at hby;have hmid:(i+j) / 2 < n:=(by omega);clear hrd hne kr hxx
   by_cases hl:ltI (LUpl.id x) k
   ·rw [decide_eq_true hl] at hby;unfold sgn at hby;rw [if_pos rfl] at hby;have Hl:=Lib.hid hl;clear hl
    go_upto_region 5 with (fail)
    refine wp_region_rg2 (Only []) [[(2,none)],[(0,none)],[(11,none)],[(25,some 1),(26,some 0)],[(27,some 0)],[(4,none)],[(24,some 5),(28,some 1),(29,some 0)],[(30,some 0)]] [(31,0)] [none,none,none,none,none,none,none,none,none,none,none,none,none,none,none,none,none,none,none,none,none,none,none,none,some 24,some 25,some 26,some 27,some 28,some 29,some 30,some 31,none,none,none,none,none,none,none,none,none,none,none,none,none,none,none,none,none] (by kernel_rfl) rfl (by kernel_rfl) (fun _=>Only.refl _ _) (fun _ _ _ h k=>h.trans0 k) (Only.drew _) (by kernel_rfl) ?_
    apply rg_ev
    ·rintro a w hR ⟨(e2:_=_),-⟩;refine rg_plain rfl fun K hK=>?_;go_simp;exact hK _ _ rfl (Only.refl _ _)
    apply rg_ev
    ·rintro a w hR ⟨(e0:_=_),-⟩;refine rg_plain rfl fun K hK=>?_;go_simp;exact hK _ _ rfl (Only.refl _ _)
    apply rg_ev
    ·rintro a w hR ⟨(e11:_=_),-⟩;refine rg_plain rfl fun K hK=>?_;go_simp;exact hK _ _ rfl (Only.refl _ _)
    apply rg_ev
    ·rintro a w hR ⟨(e25:_=_),(e26:_=_),-⟩;refine rg_plain rfl fun K hK=>?_;have hix:0≤((i:Int)+(j:Int)) / 2∧((i:Int)+(j:Int)) / 2 < (n:Int):=(by omega);have hix2:(((i:Int)+(j:Int)) / 2).toNat=(i+j) / 2:=(by omega);go_simp;exact hK _ _ rfl (Only.refl _ _)
    apply rg_ev
    ·rintro a w hR ⟨(e27:_=_),-⟩;refine rg_plain rfl fun K hK=>?_;have g0:=hR.cell x0 (by simp);have g1:=hR.cell x1 (by simp);have g2:=hR.cell x2 (by simp);have g3:=hR.cell x3 (by simp);have g4:=hR.cell x4 (by simp);go_simp;exact hK _ _ rfl (Only.refl _ _)
    apply rg_ev
    ·rintro a w hR ⟨(e4:_=_),-⟩;refine rg_plain rfl fun K hK=>?_;have g0:=hR.cell k0 (by simp);have g1:=hR.cell k1 (by simp);have g2:=hR.cell k2 (by simp);go_simp;exact hK _ _ rfl (Only.refl _ _)
    apply rg_ev
    ·rintro a w hR ⟨(e24:_=_),(e28:_=_),(e29:_=_),-⟩;refine rg_plain rfl fun K hK=>?_;go_simp;(with_reducible refine (hby w).mono ?_);rintro e w' ⟨rfl,o'⟩;exact hK _ _ rfl o'
    apply rg_ev
    ·rintro a w hR ⟨(e30:_=_),-⟩;refine rg_plain rfl fun K hK=>?_;go_simp;exact hK _ _ rfl (Only.refl _ _)
    intro f5 w5 hR5 hf;dsimp only [mergeT];obtain ⟨e31,-⟩:=hf;replace e31:f5 31=_:=e31;rw [e31];clear hby k0 k1 k2 x0 x1 x2 x3 x4
    have HI2:Hid ((∀ x,0 < (i+j) / 2+1→xs[(i+j) / 2+1 - 1]?=some x→ltI (LUpl.id x) k)∧(∀ x,xs[j]?=some x→¬ ltI (LUpl.id x) k)):=Lib.hid ⟨fun y _ hy=>by
     rw [Nat.add_sub_cancel,Hxx.out] at hy
     cases hy
     exact Hl.out,HI.out.2⟩
    have HO2:=Lib.hid (HO.out.trans0 hR5);clear hR5;go_wp2_with fail;refine ⟨⟨(i+j) / 2+1,j,by go_num,rfl,by omega,hjn,HI2,HO2⟩,?_⟩
    simp [intOf];omega
   ·rw [decide_eq_false hl] at hby;unfold sgn at hby;rw [if_neg (by simp)] at hby;have Hl:=Lib.hid hl
    have HI2:Hid ((∀ x,0 < i→xs[i - 1]?=some x→ltI (LUpl.id x) k)∧(∀ x,xs[(i+j) / 2]?=some x→¬ ltI (LUpl.id x) k)):=Lib.hid ⟨HI.out.1,fun y hy=>by
     rw [Hxx.out] at hy
     cases hy
     exact Hl.out⟩
    clear hl
    by_cases hk:LUpl.id x=k
    ·rw [decide_eq_true hk,if_pos rfl] at hby;clear hk
     go_upto_region 5 with (fail)
     refine wp_region_rg2 (Only []) [[(2,none)],[(0,none)],[(11,none)],[(25,some 1),(26,some 0)],[(27,some 0)],[(4,none)],[(24,some 5),(28,some 1),(29,some 0)],[(30,some 0)]] [(31,0)] [none,none,none,none,none,none,none,none,none,none,none,none,none,none,none,none,none,none,none,none,none,none,none,none,some 24,some 25,some 26,some 27,some 28,some 29,some 30,some 31,none,none,none,none,none,none,none,none,none,none,none,none,none,none,none,none,none] (by kernel_rfl) rfl (by kernel_rfl) (fun _=>Only.refl _ _) (fun _ _ _ h k=>h.trans0 k) (Only.drew _) (by kernel_rfl) ?_
     apply rg_ev
     ·rintro a w hR ⟨(e2:_=_),-⟩;refine rg_plain rfl fun K hK=>?_;go_simp;exact hK _ _ rfl (Only.refl _ _)
     apply rg_ev
     ·rintro a w hR ⟨(e0:_=_),-⟩;refine rg_plain rfl fun K hK=>?_;go_simp;exact hK _ _ rfl (Only.refl _ _)
     apply rg_ev
     ·rintro a w hR ⟨(e11:_=_),-⟩;refine rg_plain rfl fun K hK=>?_;go_simp;exact hK _ _ rfl (Only.refl _ _)
     apply rg_ev
     ·rintro a w hR ⟨(e25:_=_),(e26:_=_),-⟩;refine rg_plain rfl fun K hK=>?_;have hix:0≤((i:Int)+(j:Int)) / 2∧((i:Int)+(j:Int)) / 2 < (n:Int):=(by omega);have hix2:(((i:Int)+(j:Int)) / 2).toNat=(i+j) / 2:=(by omega);go_simp;exact hK _ _ rfl (Only.refl _ _)
     apply rg_ev
     ·rintro a w hR ⟨(e27:_=_),-⟩;refine rg_plain rfl fun K hK=>?_;have g0:=hR.cell x0 (by simp);have g1:=hR.cell x1 (by simp);have g2:=hR.cell x2 (by simp);have g3:=hR.cell x3 (by simp);have g4:=hR.cell x4 (by simp);go_simp;exact hK _ _ rfl (Only.refl _ _)
     apply rg_ev
     ·rintro a w hR ⟨(e4:_=_),-⟩;refine rg_plain rfl fun K hK=>?_;have g0:=hR.cell k0 (by simp);have g1:=hR.cell k1 (by simp);have g2:=hR.cell k2 (by simp);go_simp;exact hK _ _ rfl (Only.refl _ _)
     apply rg_ev
     ·rintro a w hR ⟨(e24:_=_),(e28:_=_),(e29:_=_),-⟩;refine rg_plain rfl fun K hK=>?_;go_simp;(with_reducible refine (hby w).mono ?_);rintro e w' ⟨rfl,o'⟩;exact hK _ _ rfl o'
     apply rg_ev
     ·rintro a w hR ⟨(e30:_=_),-⟩;refine rg_plain rfl fun K hK=>?_;go_simp;exact hK _ _ rfl (Only.refl _ _)
     intro f5 w5 hR5 hf;dsimp only [mergeT];obtain ⟨e31,-⟩:=hf;replace e31:f5 31=_:=e31;rw [e31];clear hby k0 k1 k2 x0 x1 x2 x3 x4;have HO2:=Lib.hid (HO.out.trans0 hR5);clear hR5;go_wp2_with fail;refine ⟨⟨i,(i+j) / 2,rfl,by go_num,by omega,by omega,HI2,HO2⟩,?_⟩
     simp [intOf];omega
    ·rw [decide_eq_false hk,if_neg (by simp)] at hby;clear hk
     go_upto_region 5 with (fail)
     refine wp_region_rg2 (Only []) [[(2,none)],[(0,none)],[(11,none)],[(25,some 1),(26,some 0)],[(27,some 0)],[(4,none)],[(24,some 5),(28,some 1),(29,some 0)],[(30,some 0)]] [(31,0)] [none,none,none,none,none,none,none,none,none,none,none,none,none,none,none,none,none,none,none,none,none,none,none,none,some 24,some 25,some 26,some 27,some 28,some 29,some 30,some 31,none,none,none,none,none,none,none,none,none,none,none,none,none,none,none,none,none] (by kernel_rfl) rfl (by kernel_rfl) (fun _=>Only.refl _ _) (fun _ _ _ h k=>h.trans0 k) (Only.drew _) (by kernel_rfl) ?_
     apply rg_ev
     ·rintro a w hR ⟨(e2:_=_),-⟩;refine rg_plain rfl fun K hK=>?_;go_simp;exact hK _ _ rfl (Only.refl _ _)
     apply rg_ev
     ·rintro a w hR ⟨(e0:_=_),-⟩;refine rg_plain rfl fun K hK=>?_;go_simp;exact hK _ _ rfl (Only.refl _ _)
     apply rg_ev
     ·rintro a w hR ⟨(e11:_=_),-⟩;refine rg_plain rfl fun K hK=>?_;go_simp;exact hK _ _ rfl (Only.refl _ _)
     apply rg_ev
     ·rintro a w hR ⟨(e25:_=_),(e26:_=_),-⟩;refine rg_plain rfl fun K hK=>?_;have hix:0≤((i:Int)+(j:Int)) / 2∧((i:Int)+(j:Int)) / 2 < (n:Int):=(by omega);have hix2:(((i:Int)+(j:Int)) / 2).toNat=(i+j) / 2:=(by omega);go_simp;exact hK _ _ rfl (Only.refl _ _)
     apply rg_ev
     ·rintro a w hR ⟨(e27:_=_),-⟩;refine rg_plain rfl fun K hK=>?_;have g0:=hR.cell x0 (by simp);have g1:=hR.cell x1 (by simp);have g2:=hR.cell x2 (by simp);have g3:=hR.cell x3 (by simp);have g4:=hR.cell x4 (by simp);go_simp;exact hK _ _ rfl (Only.refl _ _)
     apply rg_ev
     ·rintro a w hR ⟨(e4:_=_),-⟩;refine rg_plain rfl fun K hK=>?_;have g0:=hR.cell k0 (by simp);have g1:=hR.cell k1 (by simp);have g2:=hR.cell k2 (by simp);go_simp;exact hK _ _ rfl (Only.refl _ _)
     apply rg_ev
     ·rintro a w hR ⟨(e24:_=_),(e28:_=_),(e29:_=_),-⟩;refine rg_plain rfl fun K hK=>?_;go_simp;(with_reducible refine (hby w).mono ?_);rintro e w' ⟨rfl,o'⟩;exact hK _ _ rfl o'
     apply rg_ev
     ·rintro a w hR ⟨(e30:_=_),-⟩;refine rg_plain rfl fun K hK=>?_;go_simp;exact hK _ _ rfl (Only.refl _ _)
     intro f5 w5 hR5 hf;dsimp only [mergeT];obtain ⟨e31,-⟩:=hf;replace e31:f5 31=_:=e31;rw [e31];clear hby k0 k1 k2 x0 x1 x2 x3 x4;have HO2:=Lib.hid (HO.out.trans0 hR5);clear hR5;go_wp2_with fail;refine ⟨⟨i,(i+j) / 2,rfl,by go_num,by omega,by omega,HI2,HO2⟩,?_⟩
     simp [intOf];omega
  ·obtain rfl:i=j:=(by omega);have Hpos:Hid (posL LUpl.id ltI xs k=i):=Lib.hid (posL_eq linI Hs.out (by rw [Hn.out];exact hjn) HI.out.1 HI.out.2)
   by_cases hin:i < n
   ·obtain ⟨x,hxx⟩:∃ x,xs[i]?=some x:=⟨_,List.getElem?_eq_getElem (by rw [Hn.out];omega)⟩;have Hth:Hid (thereL LUpl.id ltI xs k=decide (LUpl.id x=k)):=Lib.hid (by unfold thereL;rw [Hpos.out,hxx]);have hl:=HI.out.2 x hxx;have hrd:=Hx.out.only0 (Ho1.out.trans0 HO.out);have kr:=Hk.out.only0 HO.out;have k0:=kr.cell (i:=0) rfl;have k1:=kr.cell (i:=1) rfl;have k2:=kr.cell (i:=2) rfl;have hne:xs.flatMap luCells≠[]:=fun e'=>(by have:=flat_get luCells 5 luCells_len xs _ x 0 hxx (by omega);rw [e'] at this;cases this);obtain ⟨b,off,rfl,-⟩:=hrd.lt hne
    have x0:=rd_elem luCells_len hrd hxx (r:=0) rfl;have x1:=rd_elem luCells_len hrd hxx (r:=1) rfl;have x2:=rd_elem luCells_len hrd hxx (r:=2) rfl;have x3:=rd_elem luCells_len hrd hxx (r:=3) rfl;have x4:=rd_elem luCells_len hrd hxx (r:=4) rfl;rw [Addr.add_lit,← Nat.add_assoc] at x0 x1 x2 x3 x4;rw [Nat.add_zero] at x0;have hby:=fun w=>byId_any x k w;unfold luV idV sgn at hby;rw [decide_eq_false hl,if_neg (by simp)] at hby;clear hrd hne kr hxx hl
    by_cases hk:LUpl.id x=k
    ·rw [decide_eq_true hk,if_pos rfl] at hby;rw [decide_eq_true hk] at Hth;clear hk
     go_upto_region 8 with (fail)
     refine wp_region_rg2 (Only []) [[(9,none)],[(9,none)],[(8,none)],[(36,some 1),(37,some 0)],[(38,some 0)],[(39,some 0),(2,none)],[(39,some 1),(0,none)],[(39,some 2),(9,none)],[(39,some 3),(41,some 1),(42,some 0)],[(39,some 4),(43,some 0)],[(39,some 5),(4,none)],[(39,some 6),(40,some 5),(44,some 1),(45,some 0)],[(39,some 7),(46,some 0)],[(39,some 8),(47,some 0)],[(35,some 13)],[(48,some 1)]] [(6,1),(7,0)] [none,none,none,none,none,none,some 6,some 7,none,none,none,none,none,none,none,none,none,none,none,none,none,none,none,none,none,none,none,none,none,none,none,none,none,none,none,some 35,some 36,some 37,some 38,some 39,some 40,some 41,some 42,some 43,some 44,some 45,some 46,some 47,some 48] (by kernel_rfl) rfl (by kernel_rfl) (fun _=>Only.refl _ _) (fun _ _ _ h k=>h.trans0 k) (Only.drew _) (by kernel_rfl) ?_
     apply rg_ev
     ·rintro a w hR ⟨(e9:_=_),-⟩;refine rg_plain rfl fun K hK=>?_;go_simp;exact hK _ _ rfl (Only.refl _ _)
     apply rg_ev
     ·rintro a w hR ⟨(e9:_=_),-⟩;refine rg_plain rfl fun K hK=>?_;go_simp;exact hK _ _ rfl (Only.refl _ _)
     apply rg_ev
     ·rintro a w hR ⟨(e8:_=_),-⟩;refine rg_plain rfl fun K hK=>?_;go_simp;exact hK _ _ rfl (Only.refl _ _)
     apply rg_ev
     ·rintro a w hR ⟨(e36:_=_),(e37:_=_),-⟩;refine rg_plain rfl fun K hK=>?_;go_simp;exact hK _ _ rfl (Only.refl _ _)
     apply rg_ev
     ·rintro a w hR ⟨(e38:_=_),-⟩;refine rg_plain rfl fun K hK=>?_;go_simp;exact hK _ _ rfl (Only.refl _ _)
     apply rg_ev
     ·rintro a w hR ⟨(e39:_=_),(e2:_=_),-⟩;refine rg_want rfl rfl e39 fun K hK=>?_;clear e39;go_simp;exact hK _ _ rfl (Only.refl _ _)
     apply rg_ev
     ·rintro a w hR ⟨(e39:_=_),(e0:_=_),-⟩;refine rg_want rfl rfl e39 fun K hK=>?_;clear e39;go_simp;exact hK _ _ rfl (Only.refl _ _)
     apply rg_ev
     ·rintro a w hR ⟨(e39:_=_),(e9:_=_),-⟩;refine rg_want rfl rfl e39 fun K hK=>?_;clear e39;go_simp;exact hK _ _ rfl (Only.refl _ _)
     apply rg_ev
     ·rintro a w hR ⟨(e39:_=_),(e41:_=_),(e42:_=_),-⟩;refine rg_want rfl rfl e39 fun K hK=>?_;clear e39;have hix:(i:Int) < (n:Int):=(by omega);go_simp;exact hK _ _ rfl (Only.refl _ _)
     apply rg_ev
     ·rintro a w hR ⟨(e39:_=_),(e43:_=_),-⟩;refine rg_want rfl rfl e39 fun K hK=>?_;clear e39;have g0:=hR.cell x0 (by simp);have g1:=hR.cell x1 (by simp);have g2:=hR.cell x2 (by simp);have g3:=hR.cell x3 (by simp);have g4:=hR.cell x4 (by simp);go_simp;exact hK _ _ rfl (Only.refl _ _)
     apply rg_ev
     ·rintro a w hR ⟨(e39:_=_),(e4:_=_),-⟩;refine rg_want rfl rfl e39 fun K hK=>?_;clear e39;have g0:=hR.cell k0 (by simp);have g1:=hR.cell k1 (by simp);have g2:=hR.cell k2 (by simp);go_simp;exact hK _ _ rfl (Only.refl _ _)
     apply rg_ev
     ·rintro a w hR ⟨(e39:_=_),(e40:_=_),(e44:_=_),(e45:_=_),-⟩;refine rg_want rfl rfl e39 fun K hK=>?_;clear e39;go_simp;(with_reducible refine (hby w).mono ?_);rintro e w' ⟨rfl,o'⟩;exact hK _ _ rfl o'
     apply rg_ev
     ·rintro a w hR ⟨(e39:_=_),(e46:_=_),-⟩;refine rg_want rfl rfl e39 fun K hK=>?_;clear e39;go_simp;exact hK _ _ rfl (Only.refl _ _)
     apply rg_ev
     ·rintro a w hR ⟨(e39:_=_),(e47:_=_),-⟩;refine rg_plain rfl fun K hK=>?_;go_simp;exact hK _ _ rfl (Only.refl _ _)
     apply rg_ev
     ·rintro a w hR ⟨(e35:_=_),-⟩;refine rg_plain rfl fun K hK=>?_;go_simp;exact hK _ _ rfl (Only.refl _ _)
     apply rg_ev
     ·rintro a w hR ⟨(e48:_=_),-⟩;refine rg_plain rfl fun K hK=>?_;go_simp;exact hK _ _ rfl (Only.refl _ _)
     intro f8 w8 hR8 hf;dsimp only [mergeT];obtain ⟨e6,e7,-⟩:=hf;replace e6:f8 6=_:=e6;rw [e6];replace e7:f8 7=_:=e7;rw [e7];clear hby k0 k1 k2 x0 x1 x2 x3 x4;have HO2:=Lib.hid (HO.out.trans0 hR8);clear hR8;go_wp2_with fail
     go_ret2
     exact ⟨by rw [Hpos.out,Hth.out];rfl,Ho1.out.trans0 HO2.out⟩
    ·rw [decide_eq_false hk,if_neg (by simp)] at hby;rw [decide_eq_false hk] at Hth;clear hk
     go_upto_region 8 with (fail)
     refine wp_region_rg2 (Only []) [[(9,none)],[(9,none)],[(8,none)],[(36,some 1),(37,some 0)],[(38,some 0)],[(39,some 0),(2,none)],[(39,some 1),(0,none)],[(39,some 2),(9,none)],[(39,some 3),(41,some 1),(42,some 0)],[(39,some 4),(43,some 0)],[(39,some 5),(4,none)],[(39,some 6),(40,some 5),(44,some 1),(45,some 0)],[(39,some 7),(46,some 0)],[(39,some 8),(47,some 0)],[(35,some 13)],[(48,some 1)]] [(6,1),(7,0)] [none,none,none,none,none,none,some 6,some 7,none,none,none,none,none,none,none,none,none,none,none,none,none,none,none,none,none,none,none,none,none,none,none,none,none,none,none,some 35,some 36,some 37,some 38,some 39,some 40,some 41,some 42,some 43,some 44,some 45,some 46,some 47,some 48] (by kernel_rfl) rfl (by kernel_rfl) (fun _=>Only.refl _ _) (fun _ _ _ h k=>h.trans0 k) (Only.drew _) (by kernel_rfl) ?_
     apply rg_ev
     ·rintro a w hR ⟨(e9:_=_),-⟩;refine rg_plain rfl fun K hK=>?_;go_simp;exact hK _ _ rfl (Only.refl _ _)
     apply rg_ev
     ·rintro a w hR ⟨(e9:_=_),-⟩;refine rg_plain rfl fun K hK=>?_;go_simp;exact hK _ _ rfl (Only.refl _ _)
     apply rg_ev
     ·rintro a w hR ⟨(e8:_=_),-⟩;refine rg_plain rfl fun K hK=>?_;go_simp;exact hK _ _ rfl (Only.refl _ _)
     apply rg_ev
     ·rintro a w hR ⟨(e36:_=_),(e37:_=_),-⟩;refine rg_plain rfl fun K hK=>?_;go_simp;exact hK _ _ rfl (Only.refl _ _)
     apply rg_ev
     ·rintro a w hR ⟨(e38:_=_),-⟩;refine rg_plain rfl fun K hK=>?_;go_simp;exact hK _ _ rfl (Only.refl _ _)
     apply rg_ev
     ·rintro a w hR ⟨(e39:_=_),(e2:_=_),-⟩;refine rg_want rfl rfl e39 fun K hK=>?_;clear e39;go_simp;exact hK _ _ rfl (Only.refl _ _)
     apply rg_ev
     ·rintro a w hR ⟨(e39:_=_),(e0:_=_),-⟩;refine rg_want rfl rfl e39 fun K hK=>?_;clear e39;go_simp;exact hK _ _ rfl (Only.refl _ _)
     apply rg_ev
     ·rintro a w hR ⟨(e39:_=_),(e9:_=_),-⟩;refine rg_want rfl rfl e39 fun K hK=>?_;clear e39;go_simp;exact hK _ _ rfl (Only.refl _ _)
     apply rg_ev
     ·rintro a w hR ⟨(e39:_=_),(e41:_=_),(e42:_=_),-⟩;refine rg_want rfl rfl e39 fun K hK=>?_;clear e39;have hix:(i:Int) < (n:Int):=(by omega);go_simp;exact hK _ _ rfl (Only.refl _ _)
     apply rg_ev
     ·rintro a w hR ⟨(e39:_=_),(e43:_=_),-⟩;refine rg_want rfl rfl e39 fun K hK=>?_;clear e39;have g0:=hR.cell x0 (by simp);have g1:=hR.cell x1 (by simp);have g2:=hR.cell x2 (by simp);have g3:=hR.cell x3 (by simp);have g4:=hR.cell x4 (by simp);go_simp;exact hK _ _ rfl (Only.refl _ _)
     apply rg_ev
     ·rintro a w hR ⟨(e39:_=_),(e4:_=_),-⟩;refine rg_want rfl rfl e39 fun K hK=>?_;clear e39;have g0:=hR.cell k0 (by simp);have g1:=hR.cell k1 (by simp);have g2:=hR.cell k2 (by simp);go_simp;exact hK _ _ rfl (Only.refl _ _)
     apply rg_ev
     ·rintro a w hR ⟨(e39:_=_),(e40:_=_),(e44:_=_),(e45:_=_),-⟩;refine rg_want rfl rfl e39 fun K hK=>?_;clear e39;go_simp;(with_reducible refine (hby w).mono ?_);rintro e w' ⟨rfl,o'⟩;exact hK _ _ rfl o'
     apply rg_ev
     ·rintro a w hR ⟨(e39:_=_),(e46:_=_),-⟩;refine rg_want rfl rfl e39 fun K hK=>?_;clear e39;go_simp;exact hK _ _ rfl (Only.refl _ _)
     apply rg_ev
     ·rintro a w hR ⟨(e39:_=_),(e47:_=_),-⟩;refine rg_plain rfl fun K hK=>?_;go_simp;exact hK _ _ rfl (Only.refl _ _)
     apply rg_ev
     ·rintro a w hR ⟨(e35:_=_),-⟩;refine rg_plain rfl fun K hK=>?_;go_simp;exact hK _ _ rfl (Only.refl _ _)
     apply rg_ev
     ·rintro a w hR ⟨(e48:_=_),-⟩;refine rg_plain rfl fun K hK=>?_;go_simp;exact hK _ _ rfl (Only.refl _ _)
     intro f8 w8 hR8 hf;dsimp only [mergeT];obtain ⟨e6,e7,-⟩:=hf;replace e6:f8 6=_:=e6;rw [e6];replace e7:f8 7=_:=e7;rw [e7];clear hby k0 k1 k2 x0 x1 x2 x3 x4;have HO2:=Lib.hid (HO.out.trans0 hR8);clear hR8;go_wp2_with fail
     go_ret2
     exact ⟨by rw [Hpos.out,Hth.out];rfl,Ho1.out.trans0 HO2.out⟩
   ·obtain rfl:i=n:=by omega
    have Hth:Hid (thereL LUpl.id ltI xs k=false):=Lib.hid (by
     unfold thereL
     rw [Hpos.out,List.getElem?_eq_none_iff.2 (by rw [Hn.out];exact Nat.le_refl _)])
    go_upto_region 8 with (fail)
    refine wp_region_rg2 (Only []) [[(9,none)],[(9,none)],[(8,none)],[(36,some 1),(37,some 0)],[(38,some 0)],[(39,some 0),(2,none)],[(39,some 1),(0,none)],[(39,some 2),(9,none)],[(39,some 3),(41,some 1),(42,some 0)],[(39,some 4),(43,some 0)],[(39,some 5),(4,none)],[(39,some 6),(40,some 5),(44,some 1),(45,some 0)],[(39,some 7),(46,some 0)],[(39,some 8),(47,some 0)],[(35,some 13)],[(48,some 1)]] [(6,1),(7,0)] [none,none,none,none,none,none,some 6,some 7,none,none,none,none,none,none,none,none,none,none,none,none,none,none,none,none,none,none,none,none,none,none,none,none,none,none,none,some 35,some 36,some 37,some 38,some 39,some 40,some 41,some 42,some 43,some 44,some 45,some 46,some 47,some 48] (by kernel_rfl) rfl (by kernel_rfl) (fun _=>Only.refl _ _) (fun _ _ _ h k=>h.trans0 k) (Only.drew _) (by kernel_rfl) ?_
    apply rg_ev
    ·rintro a w hR ⟨(e9:_=_),-⟩;refine rg_plain rfl fun K hK=>?_;go_simp;exact hK _ _ rfl (Only.refl _ _)
    apply rg_ev
    ·rintro a w hR ⟨(e9:_=_),-⟩;refine rg_plain rfl fun K hK=>?_;go_simp;exact hK _ _ rfl (Only.refl _ _)
    apply rg_ev
    ·rintro a w hR ⟨(e8:_=_),-⟩;refine rg_plain rfl fun K hK=>?_;go_simp;exact hK _ _ rfl (Only.refl _ _)
    apply rg_ev
    ·rintro a w hR ⟨(e36:_=_),(e37:_=_),-⟩;refine rg_plain rfl fun K hK=>?_;go_simp;exact hK _ _ rfl (Only.refl _ _)
    apply rg_ev
    ·rintro a w hR ⟨(e38:_=_),-⟩;refine rg_plain rfl fun K hK=>?_;go_simp;exact hK _ _ rfl (Only.refl _ _)
    apply rg_ev
    ·rintro a w hR ⟨(e39:_=_),(e2:_=_),-⟩;exact rg_skip rfl rfl e39 rfl
    apply rg_ev
    ·rintro a w hR ⟨(e39:_=_),(e0:_=_),-⟩;exact rg_skip rfl rfl e39 rfl
    apply rg_ev
    ·rintro a w hR ⟨(e39:_=_),(e9:_=_),-⟩;exact rg_skip rfl rfl e39 rfl
    apply rg_ev
    ·rintro a w hR ⟨(e39:_=_),(e41:_=_),(e42:_=_),-⟩;exact rg_skip rfl rfl e39 rfl
    apply rg_ev
    ·rintro a w hR ⟨(e39:_=_),(e43:_=_),-⟩;exact rg_skip rfl rfl e39 rfl
    apply rg_ev
    ·rintro a w hR ⟨(e39:_=_),(e4:_=_),-⟩;exact rg_skip rfl rfl e39 rfl
    apply rg_ev
    ·rintro a w hR ⟨(e39:_=_),(e40:_=_),(e44:_=_),(e45:_=_),-⟩;exact rg_skip rfl rfl e39 rfl
    apply rg_ev
    ·rintro a w hR ⟨(e39:_=_),(e46:_=_),-⟩;exact rg_skip rfl rfl e39 rfl
    apply rg_ev
    ·rintro a w hR ⟨(e39:_=_),(e47:_=_),-⟩;refine rg_plain rfl fun K hK=>?_;go_simp;exact hK _ _ rfl (Only.refl _ _)
    apply rg_ev
    ·rintro a w hR ⟨(e35:_=_),-⟩;refine rg_plain rfl fun K hK=>?_;go_simp;exact hK _ _ rfl (Only.refl _ _)
    apply rg_ev
    ·rintro a w hR ⟨(e48:_=_),-⟩;refine rg_plain rfl fun K hK=>?_;go_simp;exact hK _ _ rfl (Only.refl _ _)
    intro f8 w8 hR8 hf;dsimp only [mergeT];obtain ⟨e6,e7,-⟩:=hf;replace e6:f8 6=_:=e6;rw [e6];replace e7:f8 7=_:=e7;rw [e7];go_wp2_with fail
    go_ret2
    exact ⟨by rw [Hpos.out,Hth.out];rfl,(Ho1.out.trans0 HO.out).trans0 hR8⟩
theorem findUp_any (p:Option Addr) (n c:Nat) (xs:List LUpl) (k:Cid) (w0:World) (hn:xs.length=n) (hb:n≤1000000) (hp:p=none→n=0) (hx:Rd w0 p (xs.flatMap luCells)) (hs:SortB LUpl.id ltI xs) :
  Calls Tryz.prog 69 #[.slice p n c,idV k,.func (.func 70) #[] #[]] w0 fun e w'=>e=.returned (.tuple #[.int .i64 ((posL LUpl.id ltI xs k:Nat):Int),.bool (thereL LUpl.id ltI xs k)])∧Only [] w0 w':=by
 obtain ⟨w1,hw1⟩:∃ w1,w1=w0.alloc (.cells #[.int .i64 k.node,.int .i64 k.boot,.int .i64 k.seq] 31):=⟨_,rfl⟩;have Hk:=Lib.hid (show Row w1 w0.heap.size 31 (idCells k) by rw [hw1];exact Row.newOf _ _ _ _ rfl);have Ho1:=Lib.hid (show Only [] w0 w1 by rw [hw1];exact Only.alloc _ _);have Hw1:=Lib.hid hw1;clear hw1;unfold idV;have h:=bsfUp_any p n c xs k w1 hn hb hp (hx.only0 Ho1.out) hs;have kr:=Hk.out;have k0:=kr.cell (i:=0) rfl;have k1:=kr.cell (i:=1) rfl;have k2:=kr.cell (i:=2) rfl;clear kr Hk;unfold idV at h;generalize posL LUpl.id ltI xs k=i at h
 generalize thereL LUpl.id ltI xs k=b at h
 go_enter Tryz.func69,Tryz.ntmps69
 go_wp2_with fail;rw [← Hw1.out];refine h.mono ?_;clear h k0 k1 k2;rintro e w' ⟨rfl,o'⟩;go_wp2_with fail
 go_ret2
 exact ⟨rfl,Ho1.out.trans0 o'⟩
end
section
open Go.RowKit
set_option maxHeartbeats 8000000 in
theorem bsfPt_any (p:Option Addr) (n c:Nat) (xs:List CPart) (k:Int) (w0:World) (hn:xs.length=n) (hb:n≤1000000) (hp:p=none→n=0) (hx:Rd w0 p (xs.flatMap ptCells)) (hs:SortB CPart.num ltZ xs) :
  Calls Tryz.prog 151 #[.slice p n c,.int .i64 k,.func (.func 136) #[] #[]] w0 fun e w'=>e=.returned (.tuple #[.int .i64 ((posL CPart.num ltZ xs k:Nat):Int),.bool (thereL CPart.num ltZ xs k)])∧Only [] w0 w':=by
 have Hx:=Lib.hid hx;have Hs:=Lib.hid hs;have Hn:=Lib.hid hn;have Hp:=Lib.hid hp;clear hx hs hn hp
 go_enter Tryz.func151,Tryz.ntmps151
 go_wp2_with fail
 go_loopw [9,10] (fun s9 s10 wr=>∃ i j:Nat,s9=.int .i64 (i:Int)∧s10=.int .i64 (j:Int)∧i≤j∧j≤n∧Hid ((∀ x,0 < i→xs[i - 1]?=some x→ltZ (CPart.num x) k)∧(∀ x,xs[j]?=some x→¬ ltZ (CPart.num x) k))∧Hid (Only [] w0 wr)) (fun s9 s10 _=>(intOf s10).toNat - (intOf s9).toNat)
 case atStart=>exact ⟨0,n,rfl,rfl,Nat.zero_le _,Nat.le_refl _,Lib.hid ⟨fun x h=>absurd h (by omega),fun x h=>by have:=(List.getElem?_eq_some_iff.1 h).1;rw [Hn.out] at this;omega⟩,Lib.hid (Only.refl _ _)⟩
 case round =>
  obtain ⟨i,j,rfl,rfl,hij,hjn,HI,HO⟩:=hrel
  by_cases hlt:i < j
  ·obtain ⟨x,hxx⟩:∃ x,xs[(i+j) / 2]?=some x:=⟨_,List.getElem?_eq_getElem (by rw [Hn.out];omega)⟩;have hrd:=Hx.out.only0 HO.out;have hne:xs.flatMap ptCells≠[]:=fun e'=>(by have:=flat_get ptCells 6 ptCells_len xs _ x 0 hxx (by omega);rw [e'] at this;cases this);obtain ⟨b,off,rfl,-⟩:=hrd.lt hne;have x0:=rd_elem ptCells_len hrd hxx (r:=0) rfl;have x1:=rd_elem ptCells_len hrd hxx (r:=1) rfl;have x2:=rd_elem ptCells_len hrd hxx (r:=2) rfl;have x3:=rd_elem ptCells_len hrd hxx (r:=3) rfl;have x4:=rd_elem ptCells_len hrd hxx (r:=4) rfl;have x5:=rd_elem ptCells_len hrd hxx (r:=5) rfl
   rw [Addr.add_lit,← Nat.add_assoc] at x0 x1 x2 x3 x4 x5;rw [Nat.add_zero] at x0;have hby:=byNumber_any x k wr;have Hxx:=Lib.hid hxx;unfold ptV at hby;have hmid:(i+j) / 2 < n:=(by omega);clear hrd hne hxx
   by_cases hl:ltZ (CPart.num x) k
   ·rw [decide_eq_true hl] at hby;unfold sgn at hby;rw [if_pos rfl] at hby;have Hl:=Lib.hid hl;clear hl;go_wp2_with fail;refine hby.mono ?_;clear hby x0 x1 x2 x3 x4 x5;rintro e w' ⟨rfl,o'⟩
    have HI2:Hid ((∀ x,0 < (i+j) / 2+1→xs[(i+j) / 2+1 - 1]?=some x→ltZ (CPart.num x) k)∧(∀ x,xs[j]?=some x→¬ ltZ (CPart.num x) k)):=Lib.hid ⟨fun y _ hy=>by
     rw [Nat.add_sub_cancel,Hxx.out] at hy
     cases hy
     exact Hl.out,HI.out.2⟩
    have HO2:=Lib.hid (HO.out.trans0 o');clear o';go_wp2_with fail;refine ⟨⟨(i+j) / 2+1,j,by go_num,rfl,by omega,hjn,HI2,HO2⟩,?_⟩
    simp [intOf];omega
   ·rw [decide_eq_false hl] at hby;unfold sgn at hby;rw [if_neg (by simp)] at hby;have Hl:=Lib.hid hl
    have HI2:Hid ((∀ x,0 < i→xs[i - 1]?=some x→ltZ (CPart.num x) k)∧(∀ x,xs[(i+j) / 2]?=some x→¬ ltZ (CPart.num x) k)):=Lib.hid ⟨HI.out.1,fun y hy=>by
     rw [Hxx.out] at hy
     cases hy
     exact Hl.out⟩
    clear hl
    by_cases hk:CPart.num x=k
    ·rw [decide_eq_true hk,if_pos rfl] at hby;clear hk;go_wp2_with fail;refine hby.mono ?_;clear hby x0 x1 x2 x3 x4 x5;rintro e w' ⟨rfl,o'⟩;have HO2:=Lib.hid (HO.out.trans0 o');clear o';go_wp2_with fail;refine ⟨⟨i,(i+j) / 2,rfl,by go_num,by omega,by omega,HI2,HO2⟩,?_⟩
     simp [intOf];omega
    ·rw [decide_eq_false hk,if_neg (by simp)] at hby;clear hk;go_wp2_with fail;refine hby.mono ?_;clear hby x0 x1 x2 x3 x4 x5;rintro e w' ⟨rfl,o'⟩;have HO2:=Lib.hid (HO.out.trans0 o');clear o';go_wp2_with fail;refine ⟨⟨i,(i+j) / 2,rfl,by go_num,by omega,by omega,HI2,HO2⟩,?_⟩
     simp [intOf];omega
  ·obtain rfl:i=j:=(by omega);have Hpos:Hid (posL CPart.num ltZ xs k=i):=Lib.hid (posL_eq linZ' Hs.out (by rw [Hn.out];exact hjn) HI.out.1 HI.out.2)
   by_cases hin:i < n
   ·obtain ⟨x,hxx⟩:∃ x,xs[i]?=some x:=⟨_,List.getElem?_eq_getElem (by rw [Hn.out];omega)⟩;have Hth:Hid (thereL CPart.num ltZ xs k=decide (CPart.num x=k)):=Lib.hid (by unfold thereL;rw [Hpos.out,hxx]);have hl:=HI.out.2 x hxx;have hrd:=Hx.out.only0 HO.out;have hne:xs.flatMap ptCells≠[]:=fun e'=>(by have:=flat_get ptCells 6 ptCells_len xs _ x 0 hxx (by omega);rw [e'] at this;cases this);obtain ⟨b,off,rfl,-⟩:=hrd.lt hne;have x0:=rd_elem ptCells_len hrd hxx (r:=0) rfl;have x1:=rd_elem ptCells_len hrd hxx (r:=1) rfl;have x2:=rd_elem ptCells_len hrd hxx (r:=2) rfl
    have x3:=rd_elem ptCells_len hrd hxx (r:=3) rfl;have x4:=rd_elem ptCells_len hrd hxx (r:=4) rfl;have x5:=rd_elem ptCells_len hrd hxx (r:=5) rfl;rw [Addr.add_lit,← Nat.add_assoc] at x0 x1 x2 x3 x4 x5;rw [Nat.add_zero] at x0;have hby:=byNumber_any x k wr;unfold ptV sgn at hby;rw [decide_eq_false hl,if_neg (by simp)] at hby;clear hrd hne hxx hl
    by_cases hk:CPart.num x=k
    ·rw [decide_eq_true hk,if_pos rfl] at hby;rw [decide_eq_true hk] at Hth;clear hk;go_wp2_with fail;refine hby.mono ?_;clear hby x0 x1 x2 x3 x4 x5;rintro e w' ⟨rfl,o'⟩;have HO2:=Lib.hid (HO.out.trans0 o');clear o';go_wp2_with fail
     go_ret2
     exact ⟨by rw [Hpos.out,Hth.out];rfl,HO2.out⟩
    ·rw [decide_eq_false hk,if_neg (by simp)] at hby;rw [decide_eq_false hk] at Hth;clear hk;go_wp2_with fail;refine hby.mono ?_;clear hby x0 x1 x2 x3 x4 x5;rintro e w' ⟨rfl,o'⟩;have HO2:=Lib.hid (HO.out.trans0 o');clear o';go_wp2_with fail
     go_ret2
     exact ⟨by rw [Hpos.out,Hth.out];rfl,HO2.out⟩
   ·obtain rfl:i=n:=by omega
    have Hth:Hid (thereL CPart.num ltZ xs k=false):=Lib.hid (by
     unfold thereL
     rw [Hpos.out,List.getElem?_eq_none_iff.2 (by rw [Hn.out];exact Nat.le_refl _)])
    go_wp2_with fail
    go_ret2
    exact ⟨by rw [Hpos.out,Hth.out];rfl,HO.out⟩
theorem findPt_any (p:Option Addr) (n c:Nat) (xs:List CPart) (k:Int) (w0:World) (hn:xs.length=n) (hb:n≤1000000) (hp:p=none→n=0) (hx:Rd w0 p (xs.flatMap ptCells)) (hs:SortB CPart.num ltZ xs) :
  Calls Tryz.prog 138 #[.slice p n c,.int .i64 k,.func (.func 136) #[] #[]] w0 fun e w'=>e=.returned (.tuple #[.int .i64 ((posL CPart.num ltZ xs k:Nat):Int),.bool (thereL CPart.num ltZ xs k)])∧Only [] w0 w':=by
 have h:=bsfPt_any p n c xs k w0 hn hb hp hx hs;generalize posL CPart.num ltZ xs k=i at h;generalize thereL CPart.num ltZ xs k=b at h
 go_enter Tryz.func138,Tryz.ntmps138
 go_wp2_with fail;refine h.mono ?_;clear h;rintro e w' ⟨rfl,o'⟩;go_wp2_with fail
 go_ret2
 exact ⟨rfl,o'⟩
end
end Go.Proofs.YtfeglnpmpgipiaaGreatDoor
