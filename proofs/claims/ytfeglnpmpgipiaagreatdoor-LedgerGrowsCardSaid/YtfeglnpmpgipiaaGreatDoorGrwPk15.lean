/- GrwPk, part 15: CmdMem, CmpW, ShelfCmpW, CmpW2, FindBkW, FindIdW, FindObW, FindUpW, FindPtW, Eqs. -/
import Derived.Test.YtfeglnpmpgipiaaGreatDoorGrwPk01
import Derived.Test.YtfeglnpmpgipiaaGreatDoorGrwPk06
import Derived.Test.YtfeglnpmpgipiaaGreatDoorGrwPk07
import Derived.Test.YtfeglnpmpgipiaaGreatDoorGrwPk09
import Derived.Test.YtfeglnpmpgipiaaGreatDoorGrwPk11
import Derived.Laws.StructEq
set_option linter.unusedVariables false
set_option maxRecDepth 100000
set_option linter.unusedSimpArgs false
namespace Go.Proofs.YtfeglnpmpgipiaaGreatDoor
section
open Go.RowKit
def jU (xs:List Int):List Value:=xs.map fun x=>.int .i64 x
structure zS where
 x:Cmd
 p:Option Addr
 c:Nat
def zK (m:zS):List Value:=[.int .i64 m.x.kind,.int .i64 m.x.id.node,.int .i64 m.x.id.boot,.int .i64 m.x.id.seq,.string (str m.x.bucket),.string (str m.x.key),.int .i64 m.x.upload.node,.int .i64 m.x.upload.boot,.int .i64 m.x.upload.seq,.int .i64 m.x.piece.blob.node,.int .i64 m.x.piece.blob.boot,.int .i64 m.x.piece.blob.seq,.int .i64 m.x.piece.size,.string (str m.x.piece.etag),.int .i64 m.x.part,.slice m.p m.x.parts.length m.c,.int .i64 m.x.time,.int .i64 m.x.days]
def lmV (m:zS):Value:=.agg #[.int .i64 m.x.kind,.int .i64 m.x.id.node,.int .i64 m.x.id.boot,.int .i64 m.x.id.seq,.string (str m.x.bucket),.string (str m.x.key),.int .i64 m.x.upload.node,.int .i64 m.x.upload.boot,.int .i64 m.x.upload.seq,.int .i64 m.x.piece.blob.node,.int .i64 m.x.piece.blob.boot,.int .i64 m.x.piece.blob.seq,.int .i64 m.x.piece.size,.string (str m.x.piece.etag),.int .i64 m.x.part,.slice m.p m.x.parts.length m.c,.int .i64 m.x.time,.int .i64 m.x.days]
theorem jB (m:zS):(zK m).length=18:=rfl
def jS (w:World) (m:zS):Prop:=zAA w m.p m.x.parts.length m.c (jU m.x.parts)
theorem jS.zB {w w':World} {m:zS} (h:jS w m) (ho:Only [] w w'):jS w' m:=zAA.zB h ho
def xM (o:yA):Value:=.agg #[.int .i64 o.code,.string (str o.etag)]
def jJ (o:yA):List Value:=[.int .i64 o.code,.string (str o.etag)]
theorem vK:(Tryz.prog.info? 36).map (·.size)=some 18:=by kernel_rfl
theorem Row.yM {P:Program} {w:World} {g:Nat} {t ty:TypeId} {fs:Array Field} {vs:List Value} (r:Row w g t vs) (hu:P.underlying ty=some (.struct fs)) (hi:(P.info? ty).map (·.size)=some vs.length):(Instr.loadAt ty (.pointer (some ⟨g,0,none⟩))).run P w=.ok (.agg vs.toArray) w:=by
 simp only [Instr.loadAt,Instr.sureAddr,Sem.run_bind,Sem.run_pure,Result.andThen];exact run_loadVar_row w g t ty vs.toArray (0,0) _ r hu rfl (by simpa using hi)
theorem jH:(Tryz.prog.info? 38).map (·.size)=some 2:=by kernel_rfl
theorem xH {xs:List Int} {i:Nat} {x:Int} (h:xs[i]?=some x):(jU xs)[i]?=some (.int .i64 x):=by simp [jU,h]
def Ty (w:World) (z:Nat) (t:TypeId):Prop:=∃ cs,w.heap[z]?=some (.cells cs t (0,0))
theorem Ty.uniq {w:World} {z:Nat} {t u:TypeId} (h:Ty w z t) (k:Ty w z u):t=u:=by
 obtain ⟨cs,hc⟩:=h;obtain ⟨ds,hd⟩:=k;rw [hc] at hd
 cases hd;rfl
theorem Ty.row {w:World} {z:Nat} {t:TypeId} {vs:List Value} (h:Row w z t vs):Ty w z t:=⟨_,h⟩
theorem zN.ty {w:World} {base K n m c:Nat} {e:TypeId} {q:Option Addr} {vs:List Value} (h:zN w base e K (.slice q m c) n vs):∀ z∈blk q,Ty w z e:=by
 intro z hz
 rcases h.2 with ⟨e1,-⟩ | ⟨g,cap,cur,e1,hg,hh,-⟩
 ·cases e1;simp [blk] at hz
 ·cases e1
  simp [blk] at hz;subst hz
  exact ⟨cur,hh⟩
def zJa (t:TypeId):Prop:=t=60∨t=38
def zJm (w0:World) (b b':LBk) (w:World):Prop:=∀ (S:List Nat) (w2:World),Only S w w2→(∀ z∈S,z < w0.heap.size∨∃ t,zJa t∧Ty w z t)→zFB w2 b→zFB w2 b'
theorem xD {P:Program} {fn:Func} {a b:Tmp} {ty t ty2 t2:TypeId} {fs gs:Array Field} {vs us:List Value} (h:fn.results=#[.cell a ty,.cell b ty2]) (tmps:Array Value) (w:World) (g k:Nat) (ht:tmps.getD a undef=.pointer (some ⟨g,0,none⟩)) (hk:tmps.getD b undef=.pointer (some ⟨k,0,none⟩)) (r:Row w g t vs) (r2:Row w k t2 us) (hu:P.underlying ty=some (.struct fs)) (hi:(P.info? ty).map (·.size)=some vs.length) (hu2:P.underlying ty2=some (.struct gs)) (hi2:(P.info? ty2).map (·.size)=some us.length) :
  (results fn tmps).run P w=.ok (.tuple #[.agg vs.toArray,.agg us.toArray]) w:=by
 rw [Array.getD_eq_getD_getElem?] at ht hk;have hl:=r.zGW hu hi;have hl2:=r2.zGW hu2 hi2
 simp [results,h,ht,hk,hl,hl2,asAddr]
theorem Row.set2 {w:World} {g:Nat} {t:TypeId} {v0 v1:Value} (h:Row w g t [v0,v1]) (u0 u1:Value):Row ((w.setCell ⟨g,0,none⟩ u0).setCell ⟨g,1,none⟩ u1) g t [u0,u1]:=(h.setCell 0 u0).setCell 1 u1
theorem qB (w:World) (g:Nat) (u0 u1:Value):Only [g] w ((w.setCell ⟨g,0,none⟩ u0).setCell ⟨g,1,none⟩ u1):=(Only.setCell w ⟨g,0,none⟩ u0).trans (Only.setCell _ ⟨g,1,none⟩ u1) (fun _ h _=>h)
end
section
open Go.RowKit
def sgn (a b:Bool):Int:=if a=true then -1 else if b=true then 0 else 1
theorem zAL (x:Int) (w:World):Calls Tryz.prog 129 #[.int .i64 x] w fun e w'=>e=.returned (.bool false)∧w=w':=by
 go_enter Tryz.func129,Tryz.ntmps129
 go_wp2_with fail
 go_ret
 exact ⟨by simp,rfl⟩
theorem zAD (x y:Int) (w:World):Calls Tryz.prog 93 #[.int .i64 x,.int .i64 y] w fun e w'=>e=.returned (.int .i64 (sgn (decide (x < y)) (decide (x=y))))∧w=w':=by
 by_cases h1:x < y
 ·rw [decide_eq_true h1];unfold sgn
  go_enter Tryz.func93,Tryz.ntmps93
  go_wp2_with fail;(with_reducible refine (zAL x w).mono ?_);rintro e w' ⟨rfl,rfl⟩;go_wp2_with fail;(with_reducible refine (zAL y w).mono ?_);rintro e w' ⟨rfl,rfl⟩;go_wp2_with fail
  go_ret
  exact ⟨rfl,rfl⟩
 ·rw [decide_eq_false h1]
  by_cases h2:y < x
  ·rw [decide_eq_false (show ¬ x=y by omega)];unfold sgn
   go_enter Tryz.func93,Tryz.ntmps93
   go_wp2_with fail;(with_reducible refine (zAL x w).mono ?_);rintro e w' ⟨rfl,rfl⟩;go_wp2_with fail;(with_reducible refine (zAL y w).mono ?_);rintro e w' ⟨rfl,rfl⟩;go_wp2_with fail
   go_ret
   exact ⟨rfl,rfl⟩
  ·rw [decide_eq_true (show x=y by omega)];unfold sgn
   go_enter Tryz.func93,Tryz.ntmps93
   go_wp2_with fail;(with_reducible refine (zAL x w).mono ?_);rintro e w' ⟨rfl,rfl⟩;go_wp2_with fail;(with_reducible refine (zAL y w).mono ?_);rintro e w' ⟨rfl,rfl⟩;go_wp2_with fail
   go_ret
   exact ⟨rfl,rfl⟩
theorem zDV (f:Cid) (k:Int) (w:World):Calls Tryz.prog 51 #[idV f,.int .i64 k] w fun e w'=>e=.returned (.int .i64 (sgn (decide (ltZ f.node k)) (decide (f.node=k))))∧Only [] w w':=by
 obtain ⟨w1,hw1⟩:∃ w1,w1=w.alloc (.cells #[.int .i64 f.node,.int .i64 f.boot,.int .i64 f.seq] 31):=⟨_,rfl⟩;have o1:Only [] w w1:=(by rw [hw1];exact Only.alloc _ _);have r1:Row w1 w.heap.size 31 (zI f):=(by rw [hw1];exact Row.zV _ _ _ _ rfl);have hc:=zAD f.node k w1;have c0:=r1.cell (i:=0) rfl;have Ho:=Lib.hid o1;have Hw:=Lib.hid hw1;unfold ltZ;unfold idV;clear o1 r1 hw1
 go_enter Tryz.func51,Tryz.ntmps51
 go_upto_region 1 with (fail)
 rw [← Hw.out];go_wp2_with fail;refine hc.mono ?_;clear hc c0;rintro e w' ⟨rfl,rfl⟩;go_wp2_with fail
 go_ret
 exact ⟨rfl,Ho.out⟩
end
section
open Go.RowKit
def orL (xs:List Int):Int:=(xs.find? fun x=>decide (x≠0)).getD 0
def zCo (xs:List Int):List Value:=xs.map fun x=>.int .i64 x
theorem zGt (p:Option Addr) (n c:Nat) (xs:List Int) (w:World) (hn:xs.length=n) (hb:n≤1000) (hx:Rd w p (zCo xs)) :
  Calls Tryz.prog 94 #[.slice p n c] w fun e w'=>e=.returned (.int .i64 (orL xs))∧w=w':=by
 have Hx:=Lib.hid hx;have Hn:=Lib.hid hn;clear hx hn
 go_enter Tryz.func94,Tryz.ntmps94
 go_wp2_with fail
 go_loop [8] (fun s8=>∃ i:Nat,s8=.int .i64 (i:Int)∧i≤n∧Hid (orL (xs.drop i)=orL xs)) (fun s8=>n - (intOf s8).toNat)
 case atStart=>exact ⟨0,rfl,Nat.zero_le _,Lib.hid (by rw [List.drop_zero])⟩
 case round =>
  obtain ⟨i,rfl,hi,HE⟩:=hrel
  by_cases hlt:i < n
  ·have hlx:i < xs.length:=(by rw [Hn.out];exact hlt);obtain ⟨x,hxx⟩:∃ x,xs[i]?=some x:=⟨_,List.getElem?_eq_getElem hlx⟩;have hxg:xs[i]=x:=(List.getElem?_eq_some_iff.1 hxx).2
   obtain ⟨b,off,hpe,hcell⟩:∃ b off,p=some ⟨b,off,none⟩∧w.cell? ⟨b,off+i,none⟩=some (.int .i64 x):=by
    rcases Hx.out with h | ⟨b,off,h1,h2⟩
    ·have:(zCo xs).length=0:=(by rw [h];rfl);rw [zCo,List.length_map] at this;omega
    ·exact ⟨b,off,h1,h2 i _ (by unfold zCo;rw [List.getElem?_map,hxx];rfl)⟩
   subst hpe;have hd:xs.drop i=x :: xs.drop (i+1):=by rw [List.drop_eq_getElem_cons hlx,hxg]
   by_cases hz:x=0
   ·have HE2:Hid (orL (xs.drop (i+1))=orL xs):=Lib.hid (by
     rw [← HE.out,hd];unfold orL
     rw [List.find?_cons_of_neg (by simp [hz])])
    have hzz:(x != 0)=false:=(by simp [hz]);clear hd hxg hxx hz hlx;go_wp2_with fail
    go_round
    case rel=>exact ⟨i+1,by go_num,by omega,HE2⟩
    case measure=>simp [intOf];omega
   ·have HE2:Hid (orL xs=x):=Lib.hid (by
     rw [← HE.out,hd];unfold orL;rw [List.find?_cons_of_pos (by simp [hz])]
     rfl)
    have hzz:(x != 0)=true:=(by simp [hz]);clear hd hxg hxx hz hlx;go_wp2_with fail
    go_ret
    exact ⟨by rw [HE2.out];rfl,rfl⟩
  ·obtain rfl:i=n:=by omega
   have HE2:Hid (orL xs=0):=Lib.hid (by
    rw [← HE.out,List.drop_eq_nil_of_le (by rw [Hn.out];exact Nat.le_refl _)]
    rfl)
   go_wp2_with fail
   go_ret
   exact ⟨by rw [HE2.out];rfl,rfl⟩
def SlZ (xs:List Int):Value→World→Prop:=fun v w=>∃ g,v=.slice (some ⟨g,0,none⟩) 3 3∧Rd w (some ⟨g,0,none⟩) (zCo xs)
theorem SlZ.stable (xs:List Int):Stable (Only []) (SlZ xs):=fun _ _ _ ⟨g,h1,h2⟩ ho=>⟨g,h1,h2.zB ho⟩
theorem zJQ (x y:Cid):orL [sgn (decide (x.node < y.node)) (decide (x.node=y.node)),sgn (decide (x.boot < y.boot)) (decide (x.boot=y.boot)),sgn (decide (x.seq < y.seq)) (decide (x.seq=y.seq))]=sgn (decide (ltI x y)) (decide (x=y)):=by
 obtain ⟨a1,a2,a3⟩:=x;obtain ⟨b1,b2,b3⟩:=y;unfold ltI orL sgn;simp only [Cid.mk.injEq]
 by_cases h1:a1 < b1
 ·simp [h1]
 ·by_cases h2:a1=b1
  ·subst h2
   by_cases h3:a2 < b2
   ·simp [h3]
   ·by_cases h4:a2=b2
    ·subst h4
     by_cases h5:a3 < b3
     ·simp [h5]
     ·by_cases h6:a3=b3
      ·subst h6;simp
      ·simp [h5,h6]
    ·simp [h3,h4]
  ·simp [h1,h2]
set_option maxHeartbeats 4000000 in
theorem zDs (x y:Cid) (w0:World):Calls Tryz.prog 52 #[idV x,idV y] w0 fun e w'=>e=.returned (.int .i64 (sgn (decide (ltI x y)) (decide (x=y))))∧Only [] w0 w':=by
 obtain ⟨w1,hw1⟩:∃ w1,w1=w0.alloc (.cells #[.int .i64 x.node,.int .i64 x.boot,.int .i64 x.seq] 31):=⟨_,rfl⟩;obtain ⟨w2,hw2⟩:∃ w2,w2=w1.alloc (.cells #[.int .i64 y.node,.int .i64 y.boot,.int .i64 y.seq] 31):=⟨_,rfl⟩;have o1:Only [] w0 w1:=(by rw [hw1];exact Only.alloc _ _);have o2:Only [] w1 w2:=(by rw [hw2];exact Only.alloc _ _);have s1:w1.heap.size=w0.heap.size+1:=(by rw [hw1];simp);have r1:Row w2 w0.heap.size 31 (zI x):=(show Row w1 w0.heap.size 31 (zI x) by rw [hw1];exact Row.zV _ _ _ _ rfl).zB o2;have r2:Row w2 (w0.heap.size+1) 31 (zI y):=by rw [← s1,hw2];exact Row.zV _ _ _ _ rfl
 have a0:=Lib.hid (r1.cell (i:=0) rfl);have a1:=Lib.hid (r1.cell (i:=1) rfl);have a2:=Lib.hid (r1.cell (i:=2) rfl);have b0:=Lib.hid (r2.cell (i:=0) rfl);have b1:=Lib.hid (r2.cell (i:=1) rfl);have b2:=Lib.hid (r2.cell (i:=2) rfl);have HO:=Lib.hid (o1.zC o2);have Hw1:=Lib.hid hw1;have Hw2:=Lib.hid hw2;unfold idV;clear o1 o2 s1 r1 r2 hw1 hw2
 go_enter Tryz.func52,Tryz.ntmps52
 go_wp2_with fail;rw [← Hw1.out,← Hw2.out];refine qY (Only []) [[(2,none)],[(5,some 0)],[(3,none)],[(7,some 0)],[(6,some 2),(8,some 0)],[(2,none)],[(10,some 0)],[(3,none)],[(12,some 0)],[(11,some 2),(13,some 0)],[(2,none)],[(15,some 0)],[(3,none)],[(17,some 0)],[(16,some 2),(18,some 0)],[(9,some 10),(14,some 5),(19,some 0)],[(20,some 0)],[(21,some 0)]] [(4,0)] [none,none,none,none,some 4,some 5,some 6,some 7,some 8,some 9,some 10,some 11,some 12,some 13,some 14,some 15,some 16,some 17,some 18,some 19,some 20,some 21] (by kernel_rfl) rfl (by kernel_rfl) (fun _=>Only.refl _ _) (fun _ _ _ h k=>h.zC k) (Only.drew _) (by kernel_rfl) ?_
 apply zJ
 ·rintro a w hR ⟨(e2:_=_),-⟩;refine zA rfl fun K hK=>?_;go_simp;exact hK _ _ rfl (Only.refl _ _)
 apply zJ
 ·rintro a w hR ⟨(e5:_=_),-⟩;refine zA rfl fun K hK=>?_;have g:=hR.cell a0.out (by simp);go_simp;exact hK _ _ rfl (Only.refl _ _)
 apply zJ
 ·rintro a w hR ⟨(e3:_=_),-⟩;refine zA rfl fun K hK=>?_;go_simp;exact hK _ _ rfl (Only.refl _ _)
 apply zJ
 ·rintro a w hR ⟨(e7:_=_),-⟩;refine zA rfl fun K hK=>?_;have g:=hR.cell b0.out (by simp);go_simp;exact hK _ _ rfl (Only.refl _ _)
 apply zJ
 ·rintro a w hR ⟨(e6:_=_),(e8:_=_),-⟩;refine zA rfl fun K hK=>?_;go_simp;(with_reducible refine (zAD x.node y.node w).mono ?_);rintro e w' ⟨rfl,rfl⟩;exact hK _ _ rfl (Only.refl _ _)
 apply zJ
 ·rintro a w hR ⟨(e2:_=_),-⟩;refine zA rfl fun K hK=>?_;go_simp;exact hK _ _ rfl (Only.refl _ _)
 apply zJ
 ·rintro a w hR ⟨(e10:_=_),-⟩;refine zA rfl fun K hK=>?_;have g:=hR.cell a1.out (by simp);go_simp;exact hK _ _ rfl (Only.refl _ _)
 apply zJ
 ·rintro a w hR ⟨(e3:_=_),-⟩;refine zA rfl fun K hK=>?_;go_simp;exact hK _ _ rfl (Only.refl _ _)
 apply zJ
 ·rintro a w hR ⟨(e12:_=_),-⟩;refine zA rfl fun K hK=>?_;have g:=hR.cell b1.out (by simp);go_simp;exact hK _ _ rfl (Only.refl _ _)
 apply zJ
 ·rintro a w hR ⟨(e11:_=_),(e13:_=_),-⟩;refine zA rfl fun K hK=>?_;go_simp;(with_reducible refine (zAD x.boot y.boot w).mono ?_);rintro e w' ⟨rfl,rfl⟩;exact hK _ _ rfl (Only.refl _ _)
 apply zJ
 ·rintro a w hR ⟨(e2:_=_),-⟩;refine zA rfl fun K hK=>?_;go_simp;exact hK _ _ rfl (Only.refl _ _)
 apply zJ
 ·rintro a w hR ⟨(e15:_=_),-⟩;refine zA rfl fun K hK=>?_;have g:=hR.cell a2.out (by simp);go_simp;exact hK _ _ rfl (Only.refl _ _)
 apply zJ
 ·rintro a w hR ⟨(e3:_=_),-⟩;refine zA rfl fun K hK=>?_;go_simp;exact hK _ _ rfl (Only.refl _ _)
 apply zJ
 ·rintro a w hR ⟨(e17:_=_),-⟩;refine zA rfl fun K hK=>?_;have g:=hR.cell b2.out (by simp);go_simp;exact hK _ _ rfl (Only.refl _ _)
 apply zJ
 ·rintro a w hR ⟨(e16:_=_),(e18:_=_),-⟩;refine zA rfl fun K hK=>?_;go_simp;(with_reducible refine (zAD x.seq y.seq w).mono ?_);rintro e w' ⟨rfl,rfl⟩;exact hK _ _ rfl (Only.refl _ _)
 refine ⟨SlZ [sgn (decide (x.node < y.node)) (decide (x.node=y.node)),sgn (decide (x.boot < y.boot)) (decide (x.boot=y.boot)),sgn (decide (x.seq < y.seq)) (decide (x.seq=y.seq))],SlZ.stable _,fun a w hR hf=>?_,?_⟩
 ·obtain ⟨e9,e14,e19,-⟩:=hf;replace e9:a.tmps.getD 9 undef=_:=e9;replace e14:a.tmps.getD 14 undef=_:=e14;replace e19:a.tmps.getD 19 undef=_:=e19;refine zA rfl fun K hK=>?_;have e9':=e9;rw [Array.getD_eq_getD_getElem?] at e9';have e14':=e14;rw [Array.getD_eq_getD_getElem?] at e14';have e19':=e19;rw [Array.getD_eq_getD_getElem?] at e19';go_simp;refine hK _ _ ⟨w.heap.size,rfl,(Row.zV w 3 _ _ (by rfl)).rd0⟩ (Only.alloc w _)
 apply zJ
 ·intro a w hR hf;obtain ⟨e20,-⟩:=hf;replace e20:SlZ [sgn (decide (x.node < y.node)) (decide (x.node=y.node)),sgn (decide (x.boot < y.boot)) (decide (x.boot=y.boot)),sgn (decide (x.seq < y.seq)) (decide (x.seq=y.seq))] (a.tmps.getD 20 undef) w:=e20;refine zA rfl fun K hK=>?_;obtain ⟨g,e20,hrd⟩:=e20;go_simp;(with_reducible refine (zGt (some ⟨g,0,none⟩) 3 3 _ w rfl (by decide) hrd).mono ?_);rintro e w' ⟨rfl,rfl⟩;exact hK _ _ rfl (Only.refl _ _)
 apply zJ
 ·rintro a w hR ⟨(e21:_=_),-⟩;refine zA rfl fun K hK=>?_;go_simp;exact hK _ _ rfl (Only.refl _ _)
 intro fR1 wR1 hRR1 hf;dsimp only [qE];obtain ⟨e4,-⟩:=hf;replace e4:fR1 4=_:=e4;rw [e4];go_wp2_with fail
 go_ret
 exact ⟨by rw [zJQ];rfl,HO.out.zC hRR1⟩
end
section
open Go.RowKit
def qG.key (x:qG):Bs:=x.o.key
def qN.id (x:qN):Cid:=x.u.id
theorem zAN (x:Bs) (w:World):Calls Tryz.prog 132 #[.string (str x)] w fun e w'=>e=.returned (.bool false)∧w=w':=by
 have h:=jV x x;rw [decide_eq_true rfl] at h
 go_enter Tryz.func132,Tryz.ntmps132
 go_wp2_with fail
 go_ret
 exact ⟨by simp,rfl⟩
theorem zCW (x y:Bs) (w:World):Calls Tryz.prog 97 #[.string (str x),.string (str y)] w fun e w'=>e=.returned (.int .i64 (sgn (decide (lt x y)) (decide (x=y))))∧w=w':=by
 have h1:=zGR x y;have h2:=zGR y x
 by_cases hl:lt x y
 ·rw [decide_eq_true hl] at h1 ⊢;unfold sgn;clear h2
  go_enter Tryz.func97,Tryz.ntmps97
  go_wp2_with fail;(with_reducible refine (zAN x w).mono ?_);rintro e w' ⟨rfl,rfl⟩;go_wp2_with fail;(with_reducible refine (zAN y w).mono ?_);rintro e w' ⟨rfl,rfl⟩;go_wp2_with fail
  go_ret
  exact ⟨rfl,rfl⟩
 ·by_cases hg:lt y x
  ·have hne:¬ x=y:=fun e=>(by subst e;exact hl hg);rw [decide_eq_false hl] at h1 ⊢;rw [decide_eq_true hg] at h2;have h3:=jV x y;rw [decide_eq_false hne] at h3 ⊢;unfold sgn;clear hne
   go_enter Tryz.func97,Tryz.ntmps97
   go_wp2_with fail;(with_reducible refine (zAN x w).mono ?_);rintro e w' ⟨rfl,rfl⟩;go_wp2_with fail;(with_reducible refine (zAN y w).mono ?_);rintro e w' ⟨rfl,rfl⟩;go_wp2_with fail
   go_ret
   exact ⟨rfl,rfl⟩
  ·have he:x=y:=by
    rcases zCw x y with h | h | h
    ·exact absurd h hl
    ·exact h
    ·exact absurd h hg
   rw [decide_eq_false hl] at h1 ⊢;rw [decide_eq_false hg] at h2;have h3:=jV x y;rw [decide_eq_true he] at h3 ⊢;unfold sgn;clear he
   go_enter Tryz.func97,Tryz.ntmps97
   go_wp2_with fail;(with_reducible refine (zAN x w).mono ?_);rintro e w' ⟨rfl,rfl⟩;go_wp2_with fail;(with_reducible refine (zAN y w).mono ?_);rintro e w' ⟨rfl,rfl⟩;go_wp2_with fail
   go_ret
   exact ⟨rfl,rfl⟩
theorem zDP (b:LBk) (k:Bs) (w:World):Calls Tryz.prog 55 #[lbV b,.string (str k)] w fun e w'=>e=.returned (.int .i64 (sgn (decide (lt b.name k)) (decide (b.name=k))))∧Only [] w w':=by
 obtain ⟨w1,hw1⟩:∃ w1,w1=w.alloc (.cells #[.string (str b.name),.int .i64 b.time,.int .i64 b.days,.slice b.po b.os.length b.co,.slice b.pu b.us.length b.cu] 60):=⟨_,rfl⟩;have o1:Only [] w w1:=(by rw [hw1];exact Only.alloc _ _);have r1:Row w1 w.heap.size 60 (zD b):=(by rw [hw1];exact Row.zV _ _ _ _ rfl);have hc:=zCW b.name k w1;have c0:=r1.cell (i:=0) rfl;have Ho:=Lib.hid o1;have Hw:=Lib.hid hw1;unfold lbV;clear o1 r1 hw1
 go_enter Tryz.func55,Tryz.ntmps55
 go_upto_region 1 with (fail)
 rw [← Hw.out];go_wp2_with fail;refine hc.mono ?_;clear hc c0;rintro e w' ⟨rfl,rfl⟩;go_wp2_with fail
 go_ret
 exact ⟨rfl,Ho.out⟩
theorem zEG (b:qG) (k:Bs) (w:World):Calls Tryz.prog 67 #[loV b,.string (str k)] w fun e w'=>e=.returned (.int .i64 (sgn (decide (lt b.key k)) (decide (b.key=k))))∧Only [] w w':=by
 obtain ⟨w1,hw1⟩:∃ w1,w1=w.alloc (.cells #[.string (str b.o.key),.int .i64 b.o.size,.string (str b.o.etag),.int .i64 b.o.time,.slice b.q b.o.pcs.length b.c] 48):=⟨_,rfl⟩;have o1:Only [] w w1:=(by rw [hw1];exact Only.alloc _ _);have r1:Row w1 w.heap.size 48 (zH b):=(by rw [hw1];exact Row.zV _ _ _ _ rfl);have hc:=zCW b.o.key k w1;have c0:=r1.cell (i:=0) rfl;have Ho:=Lib.hid o1;have Hw:=Lib.hid hw1;unfold loV qG.key;clear o1 r1 hw1
 go_enter Tryz.func67,Tryz.ntmps67
 go_upto_region 1 with (fail)
 rw [← Hw.out];go_wp2_with fail;refine hc.mono ?_;clear hc c0;rintro e w' ⟨rfl,rfl⟩;go_wp2_with fail
 go_ret
 exact ⟨rfl,Ho.out⟩
theorem zBp (p:qU) (k:Int) (w:World):Calls Tryz.prog 136 #[ptV p,.int .i64 k] w fun e w'=>e=.returned (.int .i64 (sgn (decide (ltZ p.num k)) (decide (p.num=k))))∧Only [] w w':=by
 obtain ⟨w1,hw1⟩:∃ w1,w1=w.alloc (.cells #[.int .i64 p.num,.int .i64 p.pc.blob.node,.int .i64 p.pc.blob.boot,.int .i64 p.pc.blob.seq,.int .i64 p.pc.size,.string (str p.pc.etag)] 111):=⟨_,rfl⟩;have o1:Only [] w w1:=(by rw [hw1];exact Only.alloc _ _);have r1:Row w1 w.heap.size 111 (zM p):=(by rw [hw1];exact Row.zV _ _ _ _ rfl);have hc:=zAD p.num k w1;have c0:=r1.cell (i:=0) rfl;have Ho:=Lib.hid o1;have Hw:=Lib.hid hw1;unfold ltZ;unfold ptV;clear o1 r1 hw1
 go_enter Tryz.func136,Tryz.ntmps136
 go_upto_region 1 with (fail)
 rw [← Hw.out];go_wp2_with fail;refine hc.mono ?_;clear hc c0;rintro e w' ⟨rfl,rfl⟩;go_wp2_with fail
 go_ret
 exact ⟨rfl,Ho.out⟩
theorem zFG (u:qN) (k:Cid) (w:World):Calls Tryz.prog 70 #[luV u,idV k] w fun e w'=>e=.returned (.int .i64 (sgn (decide (ltI u.id k)) (decide (u.id=k))))∧Only [] w w':=by
 obtain ⟨w1,hw1⟩:∃ w1,w1=w.alloc (.cells #[.int .i64 u.u.id.node,.int .i64 u.u.id.boot,.int .i64 u.u.id.seq,.string (str u.u.key),.slice u.q u.u.parts.length u.c] 54):=⟨_,rfl⟩;obtain ⟨w2,hw2⟩:∃ w2,w2=w1.alloc (.cells #[.int .i64 k.node,.int .i64 k.boot,.int .i64 k.seq] 31):=⟨_,rfl⟩;have o1:Only [] w w1:=(by rw [hw1];exact Only.alloc _ _);have o2:Only [] w1 w2:=(by rw [hw2];exact Only.alloc _ _);have s1:w1.heap.size=w.heap.size+1:=(by rw [hw1];simp);have r1:Row w2 w.heap.size 54 (zG u):=(show Row w1 w.heap.size 54 (zG u) by rw [hw1];exact Row.zV _ _ _ _ rfl).zB o2
 have r2:Row w2 (w.heap.size+1) 31 (zI k):=(by rw [← s1,hw2];exact Row.zV _ _ _ _ rfl);have hc:=zDs u.u.id k w2;have c0:=r1.cell (i:=0) rfl;have c1:=r1.cell (i:=1) rfl;have c2:=r1.cell (i:=2) rfl;have d0:=r2.cell (i:=0) rfl;have d1:=r2.cell (i:=1) rfl;have d2:=r2.cell (i:=2) rfl;rw [hw1] at hw2;have Ho:=Lib.hid (o1.zC o2);have Hw:=Lib.hid hw2;unfold idV at hc;unfold luV idV qN.id;clear o1 r1 hw1 o2 r2 hw2 s1
 go_enter Tryz.func70,Tryz.ntmps70
 go_upto_region 1 with (fail)
 rw [← Hw.out];go_wp2_with fail;refine hc.mono ?_;clear hc c0 c1 c2 d0 d1 d2;rintro e w' ⟨rfl,o'⟩;go_wp2_with fail
 go_ret
 exact ⟨rfl,Ho.out.zC o'⟩
end
section
open Go.RowKit
set_option maxHeartbeats 8000000 in
theorem zDx (p:Option Addr) (n c:Nat) (xs:List LBk) (k:Bs) (w0:World) (hn:xs.length=n) (hb:n≤1000000) (hp:p=none→n=0) (hx:Rd w0 p (xs.flatMap zD)) (hs:jD LBk.name lt xs) :
  Calls Tryz.prog 96 #[.slice p n c,.string (str k),.func (.func 55) #[] #[]] w0 fun e w'=>e=.returned (.tuple #[.int .i64 ((qV LBk.name lt xs k:Nat):Int),.bool (qC LBk.name lt xs k)])∧Only [] w0 w':=by
 have Hx:=Lib.hid hx;have Hs:=Lib.hid hs;have Hn:=Lib.hid hn;have Hp:=Lib.hid hp;clear hx hs hn hp
 go_enter Tryz.func96,Tryz.ntmps96
 go_wp2_with fail
 go_loopw [9,10] (fun s9 s10 wr=>∃ i j:Nat,s9=.int .i64 (i:Int)∧s10=.int .i64 (j:Int)∧i≤j∧j≤n∧Hid ((∀ x,0 < i→xs[i - 1]?=some x→lt (LBk.name x) k)∧(∀ x,xs[j]?=some x→¬ lt (LBk.name x) k))∧Hid (Only [] w0 wr)) (fun s9 s10 _=>(intOf s10).toNat - (intOf s9).toNat)
 case atStart=>exact ⟨0,n,rfl,rfl,Nat.zero_le _,Nat.le_refl _,Lib.hid ⟨fun x h=>absurd h (by omega),fun x h=>by have:=(List.getElem?_eq_some_iff.1 h).1;rw [Hn.out] at this;omega⟩,Lib.hid (Only.refl _ _)⟩
 case round =>
  obtain ⟨i,j,rfl,rfl,hij,hjn,HI,HO⟩:=hrel
  by_cases hlt:i < j
  ·obtain ⟨x,hxx⟩:∃ x,xs[(i+j) / 2]?=some x:=⟨_,List.getElem?_eq_getElem (by rw [Hn.out];omega)⟩;have hrd:=Hx.out.zB HO.out;have hne:xs.flatMap zD≠[]:=fun e'=>(by have:=flat_get zD 5 zQ xs _ x 0 hxx (by omega);rw [e'] at this;cases this);obtain ⟨b,off,rfl,-⟩:=hrd.lt hne;have x0:=zP zQ hrd hxx (r:=0) rfl;have x1:=zP zQ hrd hxx (r:=1) rfl;have x2:=zP zQ hrd hxx (r:=2) rfl;have x3:=zP zQ hrd hxx (r:=3) rfl;have x4:=zP zQ hrd hxx (r:=4) rfl;rw [Addr.add_lit,← Nat.add_assoc] at x0 x1 x2 x3 x4
   rw [Nat.add_zero] at x0;have hby:=zDP x k wr;have Hxx:=Lib.hid hxx;unfold lbV at hby;have hmid:(i+j) / 2 < n:=(by omega);clear hrd hne hxx
   by_cases hl:lt (LBk.name x) k
   ·rw [decide_eq_true hl] at hby;unfold sgn at hby;rw [if_pos rfl] at hby;have Hl:=Lib.hid hl;clear hl;go_wp2_with fail;refine hby.mono ?_;clear hby x0 x1 x2 x3 x4;rintro e w' ⟨rfl,o'⟩
    have HI2:Hid ((∀ x,0 < (i+j) / 2+1→xs[(i+j) / 2+1 - 1]?=some x→lt (LBk.name x) k)∧(∀ x,xs[j]?=some x→¬ lt (LBk.name x) k)):=Lib.hid ⟨fun y _ hy=>by
     rw [Nat.add_sub_cancel,Hxx.out] at hy
     cases hy
     exact Hl.out,HI.out.2⟩
    have HO2:=Lib.hid (HO.out.zC o');clear o';go_wp2_with fail;refine ⟨⟨(i+j) / 2+1,j,by go_num,rfl,by omega,hjn,HI2,HO2⟩,?_⟩
    simp [intOf];omega
   ·rw [decide_eq_false hl] at hby;unfold sgn at hby;rw [if_neg (by simp)] at hby;have Hl:=Lib.hid hl
    have HI2:Hid ((∀ x,0 < i→xs[i - 1]?=some x→lt (LBk.name x) k)∧(∀ x,xs[(i+j) / 2]?=some x→¬ lt (LBk.name x) k)):=Lib.hid ⟨HI.out.1,fun y hy=>by
     rw [Hxx.out] at hy
     cases hy
     exact Hl.out⟩
    clear hl
    by_cases hk:LBk.name x=k
    ·rw [decide_eq_true hk,if_pos rfl] at hby;clear hk;go_wp2_with fail;refine hby.mono ?_;clear hby x0 x1 x2 x3 x4;rintro e w' ⟨rfl,o'⟩;have HO2:=Lib.hid (HO.out.zC o');clear o';go_wp2_with fail;refine ⟨⟨i,(i+j) / 2,rfl,by go_num,by omega,by omega,HI2,HO2⟩,?_⟩
     simp [intOf];omega
    ·rw [decide_eq_false hk,if_neg (by simp)] at hby;clear hk;go_wp2_with fail;refine hby.mono ?_;clear hby x0 x1 x2 x3 x4;rintro e w' ⟨rfl,o'⟩;have HO2:=Lib.hid (HO.out.zC o');clear o';go_wp2_with fail;refine ⟨⟨i,(i+j) / 2,rfl,by go_num,by omega,by omega,HI2,HO2⟩,?_⟩
     simp [intOf];omega
  ·obtain rfl:i=j:=(by omega);have Hpos:Hid (qV LBk.name lt xs k=i):=Lib.hid (zBM zDk Hs.out (by rw [Hn.out];exact hjn) HI.out.1 HI.out.2)
   by_cases hin:i < n
   ·obtain ⟨x,hxx⟩:∃ x,xs[i]?=some x:=⟨_,List.getElem?_eq_getElem (by rw [Hn.out];omega)⟩;have Hth:Hid (qC LBk.name lt xs k=decide (LBk.name x=k)):=Lib.hid (by unfold qC;rw [Hpos.out,hxx]);have hl:=HI.out.2 x hxx;have hrd:=Hx.out.zB HO.out;have hne:xs.flatMap zD≠[]:=fun e'=>(by have:=flat_get zD 5 zQ xs _ x 0 hxx (by omega);rw [e'] at this;cases this);obtain ⟨b,off,rfl,-⟩:=hrd.lt hne;have x0:=zP zQ hrd hxx (r:=0) rfl;have x1:=zP zQ hrd hxx (r:=1) rfl;have x2:=zP zQ hrd hxx (r:=2) rfl
    have x3:=zP zQ hrd hxx (r:=3) rfl;have x4:=zP zQ hrd hxx (r:=4) rfl;rw [Addr.add_lit,← Nat.add_assoc] at x0 x1 x2 x3 x4;rw [Nat.add_zero] at x0;have hby:=zDP x k wr;unfold lbV sgn at hby;rw [decide_eq_false hl,if_neg (by simp)] at hby;clear hrd hne hxx hl
    by_cases hk:LBk.name x=k
    ·rw [decide_eq_true hk,if_pos rfl] at hby;rw [decide_eq_true hk] at Hth;clear hk;go_wp2_with fail;refine hby.mono ?_;clear hby x0 x1 x2 x3 x4;rintro e w' ⟨rfl,o'⟩;have HO2:=Lib.hid (HO.out.zC o');clear o';go_wp2_with fail
     go_ret2
     exact ⟨by rw [Hpos.out,Hth.out];rfl,HO2.out⟩
    ·rw [decide_eq_false hk,if_neg (by simp)] at hby;rw [decide_eq_false hk] at Hth;clear hk;go_wp2_with fail;refine hby.mono ?_;clear hby x0 x1 x2 x3 x4;rintro e w' ⟨rfl,o'⟩;have HO2:=Lib.hid (HO.out.zC o');clear o';go_wp2_with fail
     go_ret2
     exact ⟨by rw [Hpos.out,Hth.out];rfl,HO2.out⟩
   ·obtain rfl:i=n:=by omega
    have Hth:Hid (qC LBk.name lt xs k=false):=Lib.hid (by
     unfold qC
     rw [Hpos.out,List.getElem?_eq_none_iff.2 (by rw [Hn.out];exact Nat.le_refl _)])
    go_wp2_with fail
    go_ret2
    exact ⟨by rw [Hpos.out,Hth.out];rfl,HO.out⟩
theorem zDH (p:Option Addr) (n c:Nat) (xs:List LBk) (k:Bs) (w0:World) (hn:xs.length=n) (hb:n≤1000000) (hp:p=none→n=0) (hx:Rd w0 p (xs.flatMap zD)) (hs:jD LBk.name lt xs) :
  Calls Tryz.prog 54 #[.slice p n c,.string (str k),.func (.func 55) #[] #[]] w0 fun e w'=>e=.returned (.tuple #[.int .i64 ((qV LBk.name lt xs k:Nat):Int),.bool (qC LBk.name lt xs k)])∧Only [] w0 w':=by
 have h:=zDx p n c xs k w0 hn hb hp hx hs;generalize qV LBk.name lt xs k=i at h;generalize qC LBk.name lt xs k=b at h
 go_enter Tryz.func54,Tryz.ntmps54
 go_wp2_with fail;refine h.mono ?_;clear h;rintro e w' ⟨rfl,o'⟩;go_wp2_with fail
 go_ret2
 exact ⟨rfl,o'⟩
end
section
open Go.RowKit
set_option maxHeartbeats 8000000 in
theorem zEM (p:Option Addr) (n c:Nat) (xs:List Cid) (k:Int) (w0:World) (hn:xs.length=n) (hb:n≤1000000) (hp:p=none→n=0) (hx:Rd w0 p (xs.flatMap zI)) (hs:jD Cid.node ltZ xs) :
  Calls Tryz.prog 92 #[.slice p n c,.int .i64 k,.func (.func 51) #[] #[]] w0 fun e w'=>e=.returned (.tuple #[.int .i64 ((qV Cid.node ltZ xs k:Nat):Int),.bool (qC Cid.node ltZ xs k)])∧Only [] w0 w':=by
 have Hx:=Lib.hid hx;have Hs:=Lib.hid hs;have Hn:=Lib.hid hn;have Hp:=Lib.hid hp;clear hx hs hn hp
 go_enter Tryz.func92,Tryz.ntmps92
 go_wp2_with fail
 go_loopw [9,10] (fun s9 s10 wr=>∃ i j:Nat,s9=.int .i64 (i:Int)∧s10=.int .i64 (j:Int)∧i≤j∧j≤n∧Hid ((∀ x,0 < i→xs[i - 1]?=some x→ltZ (Cid.node x) k)∧(∀ x,xs[j]?=some x→¬ ltZ (Cid.node x) k))∧Hid (Only [] w0 wr)) (fun s9 s10 _=>(intOf s10).toNat - (intOf s9).toNat)
 case atStart=>exact ⟨0,n,rfl,rfl,Nat.zero_le _,Nat.le_refl _,Lib.hid ⟨fun x h=>absurd h (by omega),fun x h=>by have:=(List.getElem?_eq_some_iff.1 h).1;rw [Hn.out] at this;omega⟩,Lib.hid (Only.refl _ _)⟩
 case round =>
  obtain ⟨i,j,rfl,rfl,hij,hjn,HI,HO⟩:=hrel
  by_cases hlt:i < j
  ·obtain ⟨x,hxx⟩:∃ x,xs[(i+j) / 2]?=some x:=⟨_,List.getElem?_eq_getElem (by rw [Hn.out];omega)⟩;have hrd:=Hx.out.zB HO.out;have hne:xs.flatMap zI≠[]:=fun e'=>(by have:=flat_get zI 3 qD xs _ x 0 hxx (by omega);rw [e'] at this;cases this);obtain ⟨b,off,rfl,-⟩:=hrd.lt hne;have x0:=zP qD hrd hxx (r:=0) rfl;have x1:=zP qD hrd hxx (r:=1) rfl;have x2:=zP qD hrd hxx (r:=2) rfl;rw [Addr.add_lit,← Nat.add_assoc] at x0 x1 x2;rw [Nat.add_zero] at x0;have hby:=zDV x k wr;have Hxx:=Lib.hid hxx
   unfold idV at hby;have hmid:(i+j) / 2 < n:=(by omega);clear hrd hne hxx
   by_cases hl:ltZ (Cid.node x) k
   ·rw [decide_eq_true hl] at hby;unfold sgn at hby;rw [if_pos rfl] at hby;have Hl:=Lib.hid hl;clear hl;go_wp2_with fail;refine hby.mono ?_;clear hby x0 x1 x2;rintro e w' ⟨rfl,o'⟩
    have HI2:Hid ((∀ x,0 < (i+j) / 2+1→xs[(i+j) / 2+1 - 1]?=some x→ltZ (Cid.node x) k)∧(∀ x,xs[j]?=some x→¬ ltZ (Cid.node x) k)):=Lib.hid ⟨fun y _ hy=>by
     rw [Nat.add_sub_cancel,Hxx.out] at hy
     cases hy
     exact Hl.out,HI.out.2⟩
    have HO2:=Lib.hid (HO.out.zC o');clear o';go_wp2_with fail;refine ⟨⟨(i+j) / 2+1,j,by go_num,rfl,by omega,hjn,HI2,HO2⟩,?_⟩
    simp [intOf];omega
   ·rw [decide_eq_false hl] at hby;unfold sgn at hby;rw [if_neg (by simp)] at hby;have Hl:=Lib.hid hl
    have HI2:Hid ((∀ x,0 < i→xs[i - 1]?=some x→ltZ (Cid.node x) k)∧(∀ x,xs[(i+j) / 2]?=some x→¬ ltZ (Cid.node x) k)):=Lib.hid ⟨HI.out.1,fun y hy=>by
     rw [Hxx.out] at hy
     cases hy
     exact Hl.out⟩
    clear hl
    by_cases hk:Cid.node x=k
    ·rw [decide_eq_true hk,if_pos rfl] at hby;clear hk;go_wp2_with fail;refine hby.mono ?_;clear hby x0 x1 x2;rintro e w' ⟨rfl,o'⟩;have HO2:=Lib.hid (HO.out.zC o');clear o';go_wp2_with fail;refine ⟨⟨i,(i+j) / 2,rfl,by go_num,by omega,by omega,HI2,HO2⟩,?_⟩
     simp [intOf];omega
    ·rw [decide_eq_false hk,if_neg (by simp)] at hby;clear hk;go_wp2_with fail;refine hby.mono ?_;clear hby x0 x1 x2;rintro e w' ⟨rfl,o'⟩;have HO2:=Lib.hid (HO.out.zC o');clear o';go_wp2_with fail;refine ⟨⟨i,(i+j) / 2,rfl,by go_num,by omega,by omega,HI2,HO2⟩,?_⟩
     simp [intOf];omega
  ·obtain rfl:i=j:=(by omega);have Hpos:Hid (qV Cid.node ltZ xs k=i):=Lib.hid (zBM zBB Hs.out (by rw [Hn.out];exact hjn) HI.out.1 HI.out.2)
   by_cases hin:i < n
   ·obtain ⟨x,hxx⟩:∃ x,xs[i]?=some x:=⟨_,List.getElem?_eq_getElem (by rw [Hn.out];omega)⟩;have Hth:Hid (qC Cid.node ltZ xs k=decide (Cid.node x=k)):=Lib.hid (by unfold qC;rw [Hpos.out,hxx]);have hl:=HI.out.2 x hxx;have hrd:=Hx.out.zB HO.out;have hne:xs.flatMap zI≠[]:=fun e'=>(by have:=flat_get zI 3 qD xs _ x 0 hxx (by omega);rw [e'] at this;cases this);obtain ⟨b,off,rfl,-⟩:=hrd.lt hne;have x0:=zP qD hrd hxx (r:=0) rfl;have x1:=zP qD hrd hxx (r:=1) rfl;have x2:=zP qD hrd hxx (r:=2) rfl
    rw [Addr.add_lit,← Nat.add_assoc] at x0 x1 x2;rw [Nat.add_zero] at x0;have hby:=zDV x k wr;unfold idV sgn at hby;rw [decide_eq_false hl,if_neg (by simp)] at hby;clear hrd hne hxx hl
    by_cases hk:Cid.node x=k
    ·rw [decide_eq_true hk,if_pos rfl] at hby;rw [decide_eq_true hk] at Hth;clear hk;go_wp2_with fail;refine hby.mono ?_;clear hby x0 x1 x2;rintro e w' ⟨rfl,o'⟩;have HO2:=Lib.hid (HO.out.zC o');clear o';go_wp2_with fail
     go_ret2
     exact ⟨by rw [Hpos.out,Hth.out];rfl,HO2.out⟩
    ·rw [decide_eq_false hk,if_neg (by simp)] at hby;rw [decide_eq_false hk] at Hth;clear hk;go_wp2_with fail;refine hby.mono ?_;clear hby x0 x1 x2;rintro e w' ⟨rfl,o'⟩;have HO2:=Lib.hid (HO.out.zC o');clear o';go_wp2_with fail
     go_ret2
     exact ⟨by rw [Hpos.out,Hth.out];rfl,HO2.out⟩
   ·obtain rfl:i=n:=by omega
    have Hth:Hid (qC Cid.node ltZ xs k=false):=Lib.hid (by
     unfold qC
     rw [Hpos.out,List.getElem?_eq_none_iff.2 (by rw [Hn.out];exact Nat.le_refl _)])
    go_wp2_with fail
    go_ret2
    exact ⟨by rw [Hpos.out,Hth.out];rfl,HO.out⟩
theorem zFm (p:Option Addr) (n c:Nat) (xs:List Cid) (k:Int) (w0:World) (hn:xs.length=n) (hb:n≤1000000) (hp:p=none→n=0) (hx:Rd w0 p (xs.flatMap zI)) (hs:jD Cid.node ltZ xs) :
  Calls Tryz.prog 50 #[.slice p n c,.int .i64 k,.func (.func 51) #[] #[]] w0 fun e w'=>e=.returned (.tuple #[.int .i64 ((qV Cid.node ltZ xs k:Nat):Int),.bool (qC Cid.node ltZ xs k)])∧Only [] w0 w':=by
 have h:=zEM p n c xs k w0 hn hb hp hx hs;generalize qV Cid.node ltZ xs k=i at h;generalize qC Cid.node ltZ xs k=b at h
 go_enter Tryz.func50,Tryz.ntmps50
 go_wp2_with fail;refine h.mono ?_;clear h;rintro e w' ⟨rfl,o'⟩;go_wp2_with fail
 go_ret2
 exact ⟨rfl,o'⟩
end
section
open Go.RowKit
set_option maxHeartbeats 8000000 in
theorem zEA (p:Option Addr) (n c:Nat) (xs:List qG) (k:Bs) (w0:World) (hn:xs.length=n) (hb:n≤1000000) (hp:p=none→n=0) (hx:Rd w0 p (xs.flatMap zH)) (hs:jD qG.key lt xs) :
  Calls Tryz.prog 109 #[.slice p n c,.string (str k),.func (.func 67) #[] #[]] w0 fun e w'=>e=.returned (.tuple #[.int .i64 ((qV qG.key lt xs k:Nat):Int),.bool (qC qG.key lt xs k)])∧Only [] w0 w':=by
 have Hx:=Lib.hid hx;have Hs:=Lib.hid hs;have Hn:=Lib.hid hn;have Hp:=Lib.hid hp;clear hx hs hn hp
 go_enter Tryz.func109,Tryz.ntmps109
 go_wp2_with fail
 go_loopw [9,10] (fun s9 s10 wr=>∃ i j:Nat,s9=.int .i64 (i:Int)∧s10=.int .i64 (j:Int)∧i≤j∧j≤n∧Hid ((∀ x,0 < i→xs[i - 1]?=some x→lt (qG.key x) k)∧(∀ x,xs[j]?=some x→¬ lt (qG.key x) k))∧Hid (Only [] w0 wr)) (fun s9 s10 _=>(intOf s10).toNat - (intOf s9).toNat)
 case atStart=>exact ⟨0,n,rfl,rfl,Nat.zero_le _,Nat.le_refl _,Lib.hid ⟨fun x h=>absurd h (by omega),fun x h=>by have:=(List.getElem?_eq_some_iff.1 h).1;rw [Hn.out] at this;omega⟩,Lib.hid (Only.refl _ _)⟩
 case round =>
  obtain ⟨i,j,rfl,rfl,hij,hjn,HI,HO⟩:=hrel
  by_cases hlt:i < j
  ·obtain ⟨x,hxx⟩:∃ x,xs[(i+j) / 2]?=some x:=⟨_,List.getElem?_eq_getElem (by rw [Hn.out];omega)⟩;have hrd:=Hx.out.zB HO.out;have hne:xs.flatMap zH≠[]:=fun e'=>(by have:=flat_get zH 5 zO xs _ x 0 hxx (by omega);rw [e'] at this;cases this);obtain ⟨b,off,rfl,-⟩:=hrd.lt hne;have x0:=zP zO hrd hxx (r:=0) rfl;have x1:=zP zO hrd hxx (r:=1) rfl;have x2:=zP zO hrd hxx (r:=2) rfl;have x3:=zP zO hrd hxx (r:=3) rfl;have x4:=zP zO hrd hxx (r:=4) rfl;rw [Addr.add_lit,← Nat.add_assoc] at x0 x1 x2 x3 x4
   rw [Nat.add_zero] at x0;have hby:=zEG x k wr;have Hxx:=Lib.hid hxx;unfold loV at hby;have hmid:(i+j) / 2 < n:=(by omega);clear hrd hne hxx
   by_cases hl:lt (qG.key x) k
   ·rw [decide_eq_true hl] at hby;unfold sgn at hby;rw [if_pos rfl] at hby;have Hl:=Lib.hid hl;clear hl;go_wp2_with fail;refine hby.mono ?_;clear hby x0 x1 x2 x3 x4;rintro e w' ⟨rfl,o'⟩
    have HI2:Hid ((∀ x,0 < (i+j) / 2+1→xs[(i+j) / 2+1 - 1]?=some x→lt (qG.key x) k)∧(∀ x,xs[j]?=some x→¬ lt (qG.key x) k)):=Lib.hid ⟨fun y _ hy=>by
     rw [Nat.add_sub_cancel,Hxx.out] at hy
     cases hy
     exact Hl.out,HI.out.2⟩
    have HO2:=Lib.hid (HO.out.zC o');clear o';go_wp2_with fail;refine ⟨⟨(i+j) / 2+1,j,by go_num,rfl,by omega,hjn,HI2,HO2⟩,?_⟩
    simp [intOf];omega
   ·rw [decide_eq_false hl] at hby;unfold sgn at hby;rw [if_neg (by simp)] at hby;have Hl:=Lib.hid hl
    have HI2:Hid ((∀ x,0 < i→xs[i - 1]?=some x→lt (qG.key x) k)∧(∀ x,xs[(i+j) / 2]?=some x→¬ lt (qG.key x) k)):=Lib.hid ⟨HI.out.1,fun y hy=>by
     rw [Hxx.out] at hy
     cases hy
     exact Hl.out⟩
    clear hl
    by_cases hk:qG.key x=k
    ·rw [decide_eq_true hk,if_pos rfl] at hby;clear hk;go_wp2_with fail;refine hby.mono ?_;clear hby x0 x1 x2 x3 x4;rintro e w' ⟨rfl,o'⟩;have HO2:=Lib.hid (HO.out.zC o');clear o';go_wp2_with fail;refine ⟨⟨i,(i+j) / 2,rfl,by go_num,by omega,by omega,HI2,HO2⟩,?_⟩
     simp [intOf];omega
    ·rw [decide_eq_false hk,if_neg (by simp)] at hby;clear hk;go_wp2_with fail;refine hby.mono ?_;clear hby x0 x1 x2 x3 x4;rintro e w' ⟨rfl,o'⟩;have HO2:=Lib.hid (HO.out.zC o');clear o';go_wp2_with fail;refine ⟨⟨i,(i+j) / 2,rfl,by go_num,by omega,by omega,HI2,HO2⟩,?_⟩
     simp [intOf];omega
  ·obtain rfl:i=j:=(by omega);have Hpos:Hid (qV qG.key lt xs k=i):=Lib.hid (zBM zDk Hs.out (by rw [Hn.out];exact hjn) HI.out.1 HI.out.2)
   by_cases hin:i < n
   ·obtain ⟨x,hxx⟩:∃ x,xs[i]?=some x:=⟨_,List.getElem?_eq_getElem (by rw [Hn.out];omega)⟩;have Hth:Hid (qC qG.key lt xs k=decide (qG.key x=k)):=Lib.hid (by unfold qC;rw [Hpos.out,hxx]);have hl:=HI.out.2 x hxx;have hrd:=Hx.out.zB HO.out;have hne:xs.flatMap zH≠[]:=fun e'=>(by have:=flat_get zH 5 zO xs _ x 0 hxx (by omega);rw [e'] at this;cases this);obtain ⟨b,off,rfl,-⟩:=hrd.lt hne;have x0:=zP zO hrd hxx (r:=0) rfl;have x1:=zP zO hrd hxx (r:=1) rfl;have x2:=zP zO hrd hxx (r:=2) rfl
    have x3:=zP zO hrd hxx (r:=3) rfl;have x4:=zP zO hrd hxx (r:=4) rfl;rw [Addr.add_lit,← Nat.add_assoc] at x0 x1 x2 x3 x4;rw [Nat.add_zero] at x0;have hby:=zEG x k wr;unfold loV sgn at hby;rw [decide_eq_false hl,if_neg (by simp)] at hby;clear hrd hne hxx hl
    by_cases hk:qG.key x=k
    ·rw [decide_eq_true hk,if_pos rfl] at hby;rw [decide_eq_true hk] at Hth;clear hk;go_wp2_with fail;refine hby.mono ?_;clear hby x0 x1 x2 x3 x4;rintro e w' ⟨rfl,o'⟩;have HO2:=Lib.hid (HO.out.zC o');clear o';go_wp2_with fail
     go_ret2
     exact ⟨by rw [Hpos.out,Hth.out];rfl,HO2.out⟩
    ·rw [decide_eq_false hk,if_neg (by simp)] at hby;rw [decide_eq_false hk] at Hth;clear hk;go_wp2_with fail;refine hby.mono ?_;clear hby x0 x1 x2 x3 x4;rintro e w' ⟨rfl,o'⟩;have HO2:=Lib.hid (HO.out.zC o');clear o';go_wp2_with fail
     go_ret2
     exact ⟨by rw [Hpos.out,Hth.out];rfl,HO2.out⟩
   ·obtain rfl:i=n:=by omega
    have Hth:Hid (qC qG.key lt xs k=false):=Lib.hid (by
     unfold qC
     rw [Hpos.out,List.getElem?_eq_none_iff.2 (by rw [Hn.out];exact Nat.le_refl _)])
    go_wp2_with fail
    go_ret2
    exact ⟨by rw [Hpos.out,Hth.out];rfl,HO.out⟩
theorem zCn (p:Option Addr) (n c:Nat) (xs:List qG) (k:Bs) (w0:World) (hn:xs.length=n) (hb:n≤1000000) (hp:p=none→n=0) (hx:Rd w0 p (xs.flatMap zH)) (hs:jD qG.key lt xs) :
  Calls Tryz.prog 66 #[.slice p n c,.string (str k),.func (.func 67) #[] #[]] w0 fun e w'=>e=.returned (.tuple #[.int .i64 ((qV qG.key lt xs k:Nat):Int),.bool (qC qG.key lt xs k)])∧Only [] w0 w':=by
 have h:=zEA p n c xs k w0 hn hb hp hx hs;generalize qV qG.key lt xs k=i at h;generalize qC qG.key lt xs k=b at h
 go_enter Tryz.func66,Tryz.ntmps66
 go_wp2_with fail;refine h.mono ?_;clear h;rintro e w' ⟨rfl,o'⟩;go_wp2_with fail
 go_ret2
 exact ⟨rfl,o'⟩
end
section
open Go.RowKit
set_option maxHeartbeats 8000000 in
theorem zEH (p:Option Addr) (n c:Nat) (xs:List qN) (k:Cid) (w0:World) (hn:xs.length=n) (hb:n≤1000000) (hp:p=none→n=0) (hx:Rd w0 p (xs.flatMap zG)) (hs:jD qN.id ltI xs) :
  Calls Tryz.prog 111 #[.slice p n c,idV k,.func (.func 70) #[] #[]] w0 fun e w'=>e=.returned (.tuple #[.int .i64 ((qV qN.id ltI xs k:Nat):Int),.bool (qC qN.id ltI xs k)])∧Only [] w0 w':=by
 have Hx:=Lib.hid hx;have Hs:=Lib.hid hs;have Hn:=Lib.hid hn;have Hp:=Lib.hid hp;clear hx hs hn hp;obtain ⟨w1,hw1⟩:∃ w1,w1=w0.alloc (.cells #[.int .i64 k.node,.int .i64 k.boot,.int .i64 k.seq] 31):=⟨_,rfl⟩;have Hk:=Lib.hid (show Row w1 w0.heap.size 31 (zI k) by rw [hw1];exact Row.zV _ _ _ _ rfl);have Ho1:=Lib.hid (show Only [] w0 w1 by rw [hw1];exact Only.alloc _ _);have Hw1:=Lib.hid hw1;clear hw1;unfold idV
 go_enter Tryz.func111,Tryz.ntmps111
 go_wp2_with fail;rw [← Hw1.out];clear Hw1
 go_loopw [9,10] (fun s9 s10 wr=>∃ i j:Nat,s9=.int .i64 (i:Int)∧s10=.int .i64 (j:Int)∧i≤j∧j≤n∧Hid ((∀ x,0 < i→xs[i - 1]?=some x→ltI (qN.id x) k)∧(∀ x,xs[j]?=some x→¬ ltI (qN.id x) k))∧Hid (Only [] w1 wr)) (fun s9 s10 _=>(intOf s10).toNat - (intOf s9).toNat)
 case atStart=>exact ⟨0,n,rfl,rfl,Nat.zero_le _,Nat.le_refl _,Lib.hid ⟨fun x h=>absurd h (by omega),fun x h=>by have:=(List.getElem?_eq_some_iff.1 h).1;rw [Hn.out] at this;omega⟩,Lib.hid (Only.refl _ _)⟩
 case round =>
  obtain ⟨i,j,rfl,rfl,hij,hjn,HI,HO⟩:=hrel
  by_cases hlt:i < j
  ·obtain ⟨x,hxx⟩:∃ x,xs[(i+j) / 2]?=some x:=⟨_,List.getElem?_eq_getElem (by rw [Hn.out];omega)⟩;have hrd:=Hx.out.zB (Ho1.out.zC HO.out);have kr:=Hk.out.zB HO.out;have k0:=kr.cell (i:=0) rfl;have k1:=kr.cell (i:=1) rfl;have k2:=kr.cell (i:=2) rfl;have hne:xs.flatMap zG≠[]:=fun e'=>(by have:=flat_get zG 5 zT xs _ x 0 hxx (by omega);rw [e'] at this;cases this);obtain ⟨b,off,rfl,-⟩:=hrd.lt hne;have x0:=zP zT hrd hxx (r:=0) rfl;have x1:=zP zT hrd hxx (r:=1) rfl;have x2:=zP zT hrd hxx (r:=2) rfl
   have x3:=zP zT hrd hxx (r:=3) rfl;have x4:=zP zT hrd hxx (r:=4) rfl;rw [Addr.add_lit,← Nat.add_assoc] at x0 x1 x2 x3 x4;rw [Nat.add_zero] at x0;have hby:=fun w=>zFG x k w;have Hxx:=Lib.hid hxx;unfold luV idV at hby;have hmid:(i+j) / 2 < n:=(by omega);clear hrd hne kr hxx
   by_cases hl:ltI (qN.id x) k
   ·rw [decide_eq_true hl] at hby;unfold sgn at hby;rw [if_pos rfl] at hby;have Hl:=Lib.hid hl;clear hl
    go_upto_region 5 with (fail)
    refine qY (Only []) [[(2,none)],[(0,none)],[(11,none)],[(25,some 1),(26,some 0)],[(27,some 0)],[(4,none)],[(24,some 5),(28,some 1),(29,some 0)],[(30,some 0)]] [(31,0)] [none,none,none,none,none,none,none,none,none,none,none,none,none,none,none,none,none,none,none,none,none,none,none,none,some 24,some 25,some 26,some 27,some 28,some 29,some 30,some 31,none,none,none,none,none,none,none,none,none,none,none,none,none,none,none,none,none] (by kernel_rfl) rfl (by kernel_rfl) (fun _=>Only.refl _ _) (fun _ _ _ h k=>h.zC k) (Only.drew _) (by kernel_rfl) ?_
    apply zJ
    ·rintro a w hR ⟨(e2:_=_),-⟩;refine zA rfl fun K hK=>?_;go_simp;exact hK _ _ rfl (Only.refl _ _)
    apply zJ
    ·rintro a w hR ⟨(e0:_=_),-⟩;refine zA rfl fun K hK=>?_;go_simp;exact hK _ _ rfl (Only.refl _ _)
    apply zJ
    ·rintro a w hR ⟨(e11:_=_),-⟩;refine zA rfl fun K hK=>?_;go_simp;exact hK _ _ rfl (Only.refl _ _)
    apply zJ
    ·rintro a w hR ⟨(e25:_=_),(e26:_=_),-⟩;refine zA rfl fun K hK=>?_;have hix:0≤((i:Int)+(j:Int)) / 2∧((i:Int)+(j:Int)) / 2 < (n:Int):=(by omega);have hix2:(((i:Int)+(j:Int)) / 2).toNat=(i+j) / 2:=(by omega);go_simp;exact hK _ _ rfl (Only.refl _ _)
    apply zJ
    ·rintro a w hR ⟨(e27:_=_),-⟩;refine zA rfl fun K hK=>?_;have g0:=hR.cell x0 (by simp);have g1:=hR.cell x1 (by simp);have g2:=hR.cell x2 (by simp);have g3:=hR.cell x3 (by simp);have g4:=hR.cell x4 (by simp);go_simp;exact hK _ _ rfl (Only.refl _ _)
    apply zJ
    ·rintro a w hR ⟨(e4:_=_),-⟩;refine zA rfl fun K hK=>?_;have g0:=hR.cell k0 (by simp);have g1:=hR.cell k1 (by simp);have g2:=hR.cell k2 (by simp);go_simp;exact hK _ _ rfl (Only.refl _ _)
    apply zJ
    ·rintro a w hR ⟨(e24:_=_),(e28:_=_),(e29:_=_),-⟩;refine zA rfl fun K hK=>?_;go_simp;(with_reducible refine (hby w).mono ?_);rintro e w' ⟨rfl,o'⟩;exact hK _ _ rfl o'
    apply zJ
    ·rintro a w hR ⟨(e30:_=_),-⟩;refine zA rfl fun K hK=>?_;go_simp;exact hK _ _ rfl (Only.refl _ _)
    intro f5 w5 hR5 hf;dsimp only [qE];obtain ⟨e31,-⟩:=hf;replace e31:f5 31=_:=e31;rw [e31];clear hby k0 k1 k2 x0 x1 x2 x3 x4
    have HI2:Hid ((∀ x,0 < (i+j) / 2+1→xs[(i+j) / 2+1 - 1]?=some x→ltI (qN.id x) k)∧(∀ x,xs[j]?=some x→¬ ltI (qN.id x) k)):=Lib.hid ⟨fun y _ hy=>by
     rw [Nat.add_sub_cancel,Hxx.out] at hy
     cases hy
     exact Hl.out,HI.out.2⟩
    have HO2:=Lib.hid (HO.out.zC hR5);clear hR5;go_wp2_with fail;refine ⟨⟨(i+j) / 2+1,j,by go_num,rfl,by omega,hjn,HI2,HO2⟩,?_⟩
    simp [intOf];omega
   ·rw [decide_eq_false hl] at hby;unfold sgn at hby;rw [if_neg (by simp)] at hby;have Hl:=Lib.hid hl
    have HI2:Hid ((∀ x,0 < i→xs[i - 1]?=some x→ltI (qN.id x) k)∧(∀ x,xs[(i+j) / 2]?=some x→¬ ltI (qN.id x) k)):=Lib.hid ⟨HI.out.1,fun y hy=>by
     rw [Hxx.out] at hy
     cases hy
     exact Hl.out⟩
    clear hl
    by_cases hk:qN.id x=k
    ·rw [decide_eq_true hk,if_pos rfl] at hby;clear hk
     go_upto_region 5 with (fail)
     refine qY (Only []) [[(2,none)],[(0,none)],[(11,none)],[(25,some 1),(26,some 0)],[(27,some 0)],[(4,none)],[(24,some 5),(28,some 1),(29,some 0)],[(30,some 0)]] [(31,0)] [none,none,none,none,none,none,none,none,none,none,none,none,none,none,none,none,none,none,none,none,none,none,none,none,some 24,some 25,some 26,some 27,some 28,some 29,some 30,some 31,none,none,none,none,none,none,none,none,none,none,none,none,none,none,none,none,none] (by kernel_rfl) rfl (by kernel_rfl) (fun _=>Only.refl _ _) (fun _ _ _ h k=>h.zC k) (Only.drew _) (by kernel_rfl) ?_
     apply zJ
     ·rintro a w hR ⟨(e2:_=_),-⟩;refine zA rfl fun K hK=>?_;go_simp;exact hK _ _ rfl (Only.refl _ _)
     apply zJ
     ·rintro a w hR ⟨(e0:_=_),-⟩;refine zA rfl fun K hK=>?_;go_simp;exact hK _ _ rfl (Only.refl _ _)
     apply zJ
     ·rintro a w hR ⟨(e11:_=_),-⟩;refine zA rfl fun K hK=>?_;go_simp;exact hK _ _ rfl (Only.refl _ _)
     apply zJ
     ·rintro a w hR ⟨(e25:_=_),(e26:_=_),-⟩;refine zA rfl fun K hK=>?_;have hix:0≤((i:Int)+(j:Int)) / 2∧((i:Int)+(j:Int)) / 2 < (n:Int):=(by omega);have hix2:(((i:Int)+(j:Int)) / 2).toNat=(i+j) / 2:=(by omega);go_simp;exact hK _ _ rfl (Only.refl _ _)
     apply zJ
     ·rintro a w hR ⟨(e27:_=_),-⟩;refine zA rfl fun K hK=>?_;have g0:=hR.cell x0 (by simp);have g1:=hR.cell x1 (by simp);have g2:=hR.cell x2 (by simp);have g3:=hR.cell x3 (by simp);have g4:=hR.cell x4 (by simp);go_simp;exact hK _ _ rfl (Only.refl _ _)
     apply zJ
     ·rintro a w hR ⟨(e4:_=_),-⟩;refine zA rfl fun K hK=>?_;have g0:=hR.cell k0 (by simp);have g1:=hR.cell k1 (by simp);have g2:=hR.cell k2 (by simp);go_simp;exact hK _ _ rfl (Only.refl _ _)
     apply zJ
     ·rintro a w hR ⟨(e24:_=_),(e28:_=_),(e29:_=_),-⟩;refine zA rfl fun K hK=>?_;go_simp;(with_reducible refine (hby w).mono ?_);rintro e w' ⟨rfl,o'⟩;exact hK _ _ rfl o'
     apply zJ
     ·rintro a w hR ⟨(e30:_=_),-⟩;refine zA rfl fun K hK=>?_;go_simp;exact hK _ _ rfl (Only.refl _ _)
     intro f5 w5 hR5 hf;dsimp only [qE];obtain ⟨e31,-⟩:=hf;replace e31:f5 31=_:=e31;rw [e31];clear hby k0 k1 k2 x0 x1 x2 x3 x4;have HO2:=Lib.hid (HO.out.zC hR5);clear hR5;go_wp2_with fail;refine ⟨⟨i,(i+j) / 2,rfl,by go_num,by omega,by omega,HI2,HO2⟩,?_⟩
     simp [intOf];omega
    ·rw [decide_eq_false hk,if_neg (by simp)] at hby;clear hk
     go_upto_region 5 with (fail)
     refine qY (Only []) [[(2,none)],[(0,none)],[(11,none)],[(25,some 1),(26,some 0)],[(27,some 0)],[(4,none)],[(24,some 5),(28,some 1),(29,some 0)],[(30,some 0)]] [(31,0)] [none,none,none,none,none,none,none,none,none,none,none,none,none,none,none,none,none,none,none,none,none,none,none,none,some 24,some 25,some 26,some 27,some 28,some 29,some 30,some 31,none,none,none,none,none,none,none,none,none,none,none,none,none,none,none,none,none] (by kernel_rfl) rfl (by kernel_rfl) (fun _=>Only.refl _ _) (fun _ _ _ h k=>h.zC k) (Only.drew _) (by kernel_rfl) ?_
     apply zJ
     ·rintro a w hR ⟨(e2:_=_),-⟩;refine zA rfl fun K hK=>?_;go_simp;exact hK _ _ rfl (Only.refl _ _)
     apply zJ
     ·rintro a w hR ⟨(e0:_=_),-⟩;refine zA rfl fun K hK=>?_;go_simp;exact hK _ _ rfl (Only.refl _ _)
     apply zJ
     ·rintro a w hR ⟨(e11:_=_),-⟩;refine zA rfl fun K hK=>?_;go_simp;exact hK _ _ rfl (Only.refl _ _)
     apply zJ
     ·rintro a w hR ⟨(e25:_=_),(e26:_=_),-⟩;refine zA rfl fun K hK=>?_;have hix:0≤((i:Int)+(j:Int)) / 2∧((i:Int)+(j:Int)) / 2 < (n:Int):=(by omega);have hix2:(((i:Int)+(j:Int)) / 2).toNat=(i+j) / 2:=(by omega);go_simp;exact hK _ _ rfl (Only.refl _ _)
     apply zJ
     ·rintro a w hR ⟨(e27:_=_),-⟩;refine zA rfl fun K hK=>?_;have g0:=hR.cell x0 (by simp);have g1:=hR.cell x1 (by simp);have g2:=hR.cell x2 (by simp);have g3:=hR.cell x3 (by simp);have g4:=hR.cell x4 (by simp);go_simp;exact hK _ _ rfl (Only.refl _ _)
     apply zJ
     ·rintro a w hR ⟨(e4:_=_),-⟩;refine zA rfl fun K hK=>?_;have g0:=hR.cell k0 (by simp);have g1:=hR.cell k1 (by simp);have g2:=hR.cell k2 (by simp);go_simp;exact hK _ _ rfl (Only.refl _ _)
     apply zJ
     ·rintro a w hR ⟨(e24:_=_),(e28:_=_),(e29:_=_),-⟩;refine zA rfl fun K hK=>?_;go_simp;(with_reducible refine (hby w).mono ?_);rintro e w' ⟨rfl,o'⟩;exact hK _ _ rfl o'
     apply zJ
     ·rintro a w hR ⟨(e30:_=_),-⟩;refine zA rfl fun K hK=>?_;go_simp;exact hK _ _ rfl (Only.refl _ _)
     intro f5 w5 hR5 hf;dsimp only [qE];obtain ⟨e31,-⟩:=hf;replace e31:f5 31=_:=e31;rw [e31];clear hby k0 k1 k2 x0 x1 x2 x3 x4;have HO2:=Lib.hid (HO.out.zC hR5);clear hR5;go_wp2_with fail;refine ⟨⟨i,(i+j) / 2,rfl,by go_num,by omega,by omega,HI2,HO2⟩,?_⟩
     simp [intOf];omega
  ·obtain rfl:i=j:=(by omega);have Hpos:Hid (qV qN.id ltI xs k=i):=Lib.hid (zBM zFo Hs.out (by rw [Hn.out];exact hjn) HI.out.1 HI.out.2)
   by_cases hin:i < n
   ·obtain ⟨x,hxx⟩:∃ x,xs[i]?=some x:=⟨_,List.getElem?_eq_getElem (by rw [Hn.out];omega)⟩;have Hth:Hid (qC qN.id ltI xs k=decide (qN.id x=k)):=Lib.hid (by unfold qC;rw [Hpos.out,hxx]);have hl:=HI.out.2 x hxx;have hrd:=Hx.out.zB (Ho1.out.zC HO.out);have kr:=Hk.out.zB HO.out;have k0:=kr.cell (i:=0) rfl;have k1:=kr.cell (i:=1) rfl;have k2:=kr.cell (i:=2) rfl;have hne:xs.flatMap zG≠[]:=fun e'=>(by have:=flat_get zG 5 zT xs _ x 0 hxx (by omega);rw [e'] at this;cases this);obtain ⟨b,off,rfl,-⟩:=hrd.lt hne
    have x0:=zP zT hrd hxx (r:=0) rfl;have x1:=zP zT hrd hxx (r:=1) rfl;have x2:=zP zT hrd hxx (r:=2) rfl;have x3:=zP zT hrd hxx (r:=3) rfl;have x4:=zP zT hrd hxx (r:=4) rfl;rw [Addr.add_lit,← Nat.add_assoc] at x0 x1 x2 x3 x4;rw [Nat.add_zero] at x0;have hby:=fun w=>zFG x k w;unfold luV idV sgn at hby;rw [decide_eq_false hl,if_neg (by simp)] at hby;clear hrd hne kr hxx hl
    by_cases hk:qN.id x=k
    ·rw [decide_eq_true hk,if_pos rfl] at hby;rw [decide_eq_true hk] at Hth;clear hk
     go_upto_region 8 with (fail)
     refine qY (Only []) [[(9,none)],[(9,none)],[(8,none)],[(36,some 1),(37,some 0)],[(38,some 0)],[(39,some 0),(2,none)],[(39,some 1),(0,none)],[(39,some 2),(9,none)],[(39,some 3),(41,some 1),(42,some 0)],[(39,some 4),(43,some 0)],[(39,some 5),(4,none)],[(39,some 6),(40,some 5),(44,some 1),(45,some 0)],[(39,some 7),(46,some 0)],[(39,some 8),(47,some 0)],[(35,some 13)],[(48,some 1)]] [(6,1),(7,0)] [none,none,none,none,none,none,some 6,some 7,none,none,none,none,none,none,none,none,none,none,none,none,none,none,none,none,none,none,none,none,none,none,none,none,none,none,none,some 35,some 36,some 37,some 38,some 39,some 40,some 41,some 42,some 43,some 44,some 45,some 46,some 47,some 48] (by kernel_rfl) rfl (by kernel_rfl) (fun _=>Only.refl _ _) (fun _ _ _ h k=>h.zC k) (Only.drew _) (by kernel_rfl) ?_
     apply zJ
     ·rintro a w hR ⟨(e9:_=_),-⟩;refine zA rfl fun K hK=>?_;go_simp;exact hK _ _ rfl (Only.refl _ _)
     apply zJ
     ·rintro a w hR ⟨(e9:_=_),-⟩;refine zA rfl fun K hK=>?_;go_simp;exact hK _ _ rfl (Only.refl _ _)
     apply zJ
     ·rintro a w hR ⟨(e8:_=_),-⟩;refine zA rfl fun K hK=>?_;go_simp;exact hK _ _ rfl (Only.refl _ _)
     apply zJ
     ·rintro a w hR ⟨(e36:_=_),(e37:_=_),-⟩;refine zA rfl fun K hK=>?_;go_simp;exact hK _ _ rfl (Only.refl _ _)
     apply zJ
     ·rintro a w hR ⟨(e38:_=_),-⟩;refine zA rfl fun K hK=>?_;go_simp;exact hK _ _ rfl (Only.refl _ _)
     apply zJ
     ·rintro a w hR ⟨(e39:_=_),(e2:_=_),-⟩;refine zX rfl rfl e39 fun K hK=>?_;clear e39;go_simp;exact hK _ _ rfl (Only.refl _ _)
     apply zJ
     ·rintro a w hR ⟨(e39:_=_),(e0:_=_),-⟩;refine zX rfl rfl e39 fun K hK=>?_;clear e39;go_simp;exact hK _ _ rfl (Only.refl _ _)
     apply zJ
     ·rintro a w hR ⟨(e39:_=_),(e9:_=_),-⟩;refine zX rfl rfl e39 fun K hK=>?_;clear e39;go_simp;exact hK _ _ rfl (Only.refl _ _)
     apply zJ
     ·rintro a w hR ⟨(e39:_=_),(e41:_=_),(e42:_=_),-⟩;refine zX rfl rfl e39 fun K hK=>?_;clear e39;have hix:(i:Int) < (n:Int):=(by omega);go_simp;exact hK _ _ rfl (Only.refl _ _)
     apply zJ
     ·rintro a w hR ⟨(e39:_=_),(e43:_=_),-⟩;refine zX rfl rfl e39 fun K hK=>?_;clear e39;have g0:=hR.cell x0 (by simp);have g1:=hR.cell x1 (by simp);have g2:=hR.cell x2 (by simp);have g3:=hR.cell x3 (by simp);have g4:=hR.cell x4 (by simp);go_simp;exact hK _ _ rfl (Only.refl _ _)
     apply zJ
     ·rintro a w hR ⟨(e39:_=_),(e4:_=_),-⟩;refine zX rfl rfl e39 fun K hK=>?_;clear e39;have g0:=hR.cell k0 (by simp);have g1:=hR.cell k1 (by simp);have g2:=hR.cell k2 (by simp);go_simp;exact hK _ _ rfl (Only.refl _ _)
     apply zJ
     ·rintro a w hR ⟨(e39:_=_),(e40:_=_),(e44:_=_),(e45:_=_),-⟩;refine zX rfl rfl e39 fun K hK=>?_;clear e39;go_simp;(with_reducible refine (hby w).mono ?_);rintro e w' ⟨rfl,o'⟩;exact hK _ _ rfl o'
     apply zJ
     ·rintro a w hR ⟨(e39:_=_),(e46:_=_),-⟩;refine zX rfl rfl e39 fun K hK=>?_;clear e39;go_simp;exact hK _ _ rfl (Only.refl _ _)
     apply zJ
     ·rintro a w hR ⟨(e39:_=_),(e47:_=_),-⟩;refine zA rfl fun K hK=>?_;go_simp;exact hK _ _ rfl (Only.refl _ _)
     apply zJ
     ·rintro a w hR ⟨(e35:_=_),-⟩;refine zA rfl fun K hK=>?_;go_simp;exact hK _ _ rfl (Only.refl _ _)
     apply zJ
     ·rintro a w hR ⟨(e48:_=_),-⟩;refine zA rfl fun K hK=>?_;go_simp;exact hK _ _ rfl (Only.refl _ _)
     intro f8 w8 hR8 hf;dsimp only [qE];obtain ⟨e6,e7,-⟩:=hf;replace e6:f8 6=_:=e6;rw [e6];replace e7:f8 7=_:=e7;rw [e7];clear hby k0 k1 k2 x0 x1 x2 x3 x4;have HO2:=Lib.hid (HO.out.zC hR8);clear hR8;go_wp2_with fail
     go_ret2
     exact ⟨by rw [Hpos.out,Hth.out];rfl,Ho1.out.zC HO2.out⟩
    ·rw [decide_eq_false hk,if_neg (by simp)] at hby;rw [decide_eq_false hk] at Hth;clear hk
     go_upto_region 8 with (fail)
     refine qY (Only []) [[(9,none)],[(9,none)],[(8,none)],[(36,some 1),(37,some 0)],[(38,some 0)],[(39,some 0),(2,none)],[(39,some 1),(0,none)],[(39,some 2),(9,none)],[(39,some 3),(41,some 1),(42,some 0)],[(39,some 4),(43,some 0)],[(39,some 5),(4,none)],[(39,some 6),(40,some 5),(44,some 1),(45,some 0)],[(39,some 7),(46,some 0)],[(39,some 8),(47,some 0)],[(35,some 13)],[(48,some 1)]] [(6,1),(7,0)] [none,none,none,none,none,none,some 6,some 7,none,none,none,none,none,none,none,none,none,none,none,none,none,none,none,none,none,none,none,none,none,none,none,none,none,none,none,some 35,some 36,some 37,some 38,some 39,some 40,some 41,some 42,some 43,some 44,some 45,some 46,some 47,some 48] (by kernel_rfl) rfl (by kernel_rfl) (fun _=>Only.refl _ _) (fun _ _ _ h k=>h.zC k) (Only.drew _) (by kernel_rfl) ?_
     apply zJ
     ·rintro a w hR ⟨(e9:_=_),-⟩;refine zA rfl fun K hK=>?_;go_simp;exact hK _ _ rfl (Only.refl _ _)
     apply zJ
     ·rintro a w hR ⟨(e9:_=_),-⟩;refine zA rfl fun K hK=>?_;go_simp;exact hK _ _ rfl (Only.refl _ _)
     apply zJ
     ·rintro a w hR ⟨(e8:_=_),-⟩;refine zA rfl fun K hK=>?_;go_simp;exact hK _ _ rfl (Only.refl _ _)
     apply zJ
     ·rintro a w hR ⟨(e36:_=_),(e37:_=_),-⟩;refine zA rfl fun K hK=>?_;go_simp;exact hK _ _ rfl (Only.refl _ _)
     apply zJ
     ·rintro a w hR ⟨(e38:_=_),-⟩;refine zA rfl fun K hK=>?_;go_simp;exact hK _ _ rfl (Only.refl _ _)
     apply zJ
     ·rintro a w hR ⟨(e39:_=_),(e2:_=_),-⟩;refine zX rfl rfl e39 fun K hK=>?_;clear e39;go_simp;exact hK _ _ rfl (Only.refl _ _)
     apply zJ
     ·rintro a w hR ⟨(e39:_=_),(e0:_=_),-⟩;refine zX rfl rfl e39 fun K hK=>?_;clear e39;go_simp;exact hK _ _ rfl (Only.refl _ _)
     apply zJ
     ·rintro a w hR ⟨(e39:_=_),(e9:_=_),-⟩;refine zX rfl rfl e39 fun K hK=>?_;clear e39;go_simp;exact hK _ _ rfl (Only.refl _ _)
     apply zJ
     ·rintro a w hR ⟨(e39:_=_),(e41:_=_),(e42:_=_),-⟩;refine zX rfl rfl e39 fun K hK=>?_;clear e39;have hix:(i:Int) < (n:Int):=(by omega);go_simp;exact hK _ _ rfl (Only.refl _ _)
     apply zJ
     ·rintro a w hR ⟨(e39:_=_),(e43:_=_),-⟩;refine zX rfl rfl e39 fun K hK=>?_;clear e39;have g0:=hR.cell x0 (by simp);have g1:=hR.cell x1 (by simp);have g2:=hR.cell x2 (by simp);have g3:=hR.cell x3 (by simp);have g4:=hR.cell x4 (by simp);go_simp;exact hK _ _ rfl (Only.refl _ _)
     apply zJ
     ·rintro a w hR ⟨(e39:_=_),(e4:_=_),-⟩;refine zX rfl rfl e39 fun K hK=>?_;clear e39;have g0:=hR.cell k0 (by simp);have g1:=hR.cell k1 (by simp);have g2:=hR.cell k2 (by simp);go_simp;exact hK _ _ rfl (Only.refl _ _)
     apply zJ
     ·rintro a w hR ⟨(e39:_=_),(e40:_=_),(e44:_=_),(e45:_=_),-⟩;refine zX rfl rfl e39 fun K hK=>?_;clear e39;go_simp;(with_reducible refine (hby w).mono ?_);rintro e w' ⟨rfl,o'⟩;exact hK _ _ rfl o'
     apply zJ
     ·rintro a w hR ⟨(e39:_=_),(e46:_=_),-⟩;refine zX rfl rfl e39 fun K hK=>?_;clear e39;go_simp;exact hK _ _ rfl (Only.refl _ _)
     apply zJ
     ·rintro a w hR ⟨(e39:_=_),(e47:_=_),-⟩;refine zA rfl fun K hK=>?_;go_simp;exact hK _ _ rfl (Only.refl _ _)
     apply zJ
     ·rintro a w hR ⟨(e35:_=_),-⟩;refine zA rfl fun K hK=>?_;go_simp;exact hK _ _ rfl (Only.refl _ _)
     apply zJ
     ·rintro a w hR ⟨(e48:_=_),-⟩;refine zA rfl fun K hK=>?_;go_simp;exact hK _ _ rfl (Only.refl _ _)
     intro f8 w8 hR8 hf;dsimp only [qE];obtain ⟨e6,e7,-⟩:=hf;replace e6:f8 6=_:=e6;rw [e6];replace e7:f8 7=_:=e7;rw [e7];clear hby k0 k1 k2 x0 x1 x2 x3 x4;have HO2:=Lib.hid (HO.out.zC hR8);clear hR8;go_wp2_with fail
     go_ret2
     exact ⟨by rw [Hpos.out,Hth.out];rfl,Ho1.out.zC HO2.out⟩
   ·obtain rfl:i=n:=by omega
    have Hth:Hid (qC qN.id ltI xs k=false):=Lib.hid (by
     unfold qC
     rw [Hpos.out,List.getElem?_eq_none_iff.2 (by rw [Hn.out];exact Nat.le_refl _)])
    go_upto_region 8 with (fail)
    refine qY (Only []) [[(9,none)],[(9,none)],[(8,none)],[(36,some 1),(37,some 0)],[(38,some 0)],[(39,some 0),(2,none)],[(39,some 1),(0,none)],[(39,some 2),(9,none)],[(39,some 3),(41,some 1),(42,some 0)],[(39,some 4),(43,some 0)],[(39,some 5),(4,none)],[(39,some 6),(40,some 5),(44,some 1),(45,some 0)],[(39,some 7),(46,some 0)],[(39,some 8),(47,some 0)],[(35,some 13)],[(48,some 1)]] [(6,1),(7,0)] [none,none,none,none,none,none,some 6,some 7,none,none,none,none,none,none,none,none,none,none,none,none,none,none,none,none,none,none,none,none,none,none,none,none,none,none,none,some 35,some 36,some 37,some 38,some 39,some 40,some 41,some 42,some 43,some 44,some 45,some 46,some 47,some 48] (by kernel_rfl) rfl (by kernel_rfl) (fun _=>Only.refl _ _) (fun _ _ _ h k=>h.zC k) (Only.drew _) (by kernel_rfl) ?_
    apply zJ
    ·rintro a w hR ⟨(e9:_=_),-⟩;refine zA rfl fun K hK=>?_;go_simp;exact hK _ _ rfl (Only.refl _ _)
    apply zJ
    ·rintro a w hR ⟨(e9:_=_),-⟩;refine zA rfl fun K hK=>?_;go_simp;exact hK _ _ rfl (Only.refl _ _)
    apply zJ
    ·rintro a w hR ⟨(e8:_=_),-⟩;refine zA rfl fun K hK=>?_;go_simp;exact hK _ _ rfl (Only.refl _ _)
    apply zJ
    ·rintro a w hR ⟨(e36:_=_),(e37:_=_),-⟩;refine zA rfl fun K hK=>?_;go_simp;exact hK _ _ rfl (Only.refl _ _)
    apply zJ
    ·rintro a w hR ⟨(e38:_=_),-⟩;refine zA rfl fun K hK=>?_;go_simp;exact hK _ _ rfl (Only.refl _ _)
    apply zJ
    ·rintro a w hR ⟨(e39:_=_),(e2:_=_),-⟩;exact xQ rfl rfl e39 rfl
    apply zJ
    ·rintro a w hR ⟨(e39:_=_),(e0:_=_),-⟩;exact xQ rfl rfl e39 rfl
    apply zJ
    ·rintro a w hR ⟨(e39:_=_),(e9:_=_),-⟩;exact xQ rfl rfl e39 rfl
    apply zJ
    ·rintro a w hR ⟨(e39:_=_),(e41:_=_),(e42:_=_),-⟩;exact xQ rfl rfl e39 rfl
    apply zJ
    ·rintro a w hR ⟨(e39:_=_),(e43:_=_),-⟩;exact xQ rfl rfl e39 rfl
    apply zJ
    ·rintro a w hR ⟨(e39:_=_),(e4:_=_),-⟩;exact xQ rfl rfl e39 rfl
    apply zJ
    ·rintro a w hR ⟨(e39:_=_),(e40:_=_),(e44:_=_),(e45:_=_),-⟩;exact xQ rfl rfl e39 rfl
    apply zJ
    ·rintro a w hR ⟨(e39:_=_),(e46:_=_),-⟩;exact xQ rfl rfl e39 rfl
    apply zJ
    ·rintro a w hR ⟨(e39:_=_),(e47:_=_),-⟩;refine zA rfl fun K hK=>?_;go_simp;exact hK _ _ rfl (Only.refl _ _)
    apply zJ
    ·rintro a w hR ⟨(e35:_=_),-⟩;refine zA rfl fun K hK=>?_;go_simp;exact hK _ _ rfl (Only.refl _ _)
    apply zJ
    ·rintro a w hR ⟨(e48:_=_),-⟩;refine zA rfl fun K hK=>?_;go_simp;exact hK _ _ rfl (Only.refl _ _)
    intro f8 w8 hR8 hf;dsimp only [qE];obtain ⟨e6,e7,-⟩:=hf;replace e6:f8 6=_:=e6;rw [e6];replace e7:f8 7=_:=e7;rw [e7];go_wp2_with fail
    go_ret2
    exact ⟨by rw [Hpos.out,Hth.out];rfl,(Ho1.out.zC HO.out).zC hR8⟩
theorem zFp (p:Option Addr) (n c:Nat) (xs:List qN) (k:Cid) (w0:World) (hn:xs.length=n) (hb:n≤1000000) (hp:p=none→n=0) (hx:Rd w0 p (xs.flatMap zG)) (hs:jD qN.id ltI xs) :
  Calls Tryz.prog 69 #[.slice p n c,idV k,.func (.func 70) #[] #[]] w0 fun e w'=>e=.returned (.tuple #[.int .i64 ((qV qN.id ltI xs k:Nat):Int),.bool (qC qN.id ltI xs k)])∧Only [] w0 w':=by
 obtain ⟨w1,hw1⟩:∃ w1,w1=w0.alloc (.cells #[.int .i64 k.node,.int .i64 k.boot,.int .i64 k.seq] 31):=⟨_,rfl⟩;have Hk:=Lib.hid (show Row w1 w0.heap.size 31 (zI k) by rw [hw1];exact Row.zV _ _ _ _ rfl);have Ho1:=Lib.hid (show Only [] w0 w1 by rw [hw1];exact Only.alloc _ _);have Hw1:=Lib.hid hw1;clear hw1;unfold idV;have h:=zEH p n c xs k w1 hn hb hp (hx.zB Ho1.out) hs;have kr:=Hk.out;have k0:=kr.cell (i:=0) rfl;have k1:=kr.cell (i:=1) rfl;have k2:=kr.cell (i:=2) rfl;clear kr Hk;unfold idV at h;generalize qV qN.id ltI xs k=i at h
 generalize qC qN.id ltI xs k=b at h
 go_enter Tryz.func69,Tryz.ntmps69
 go_wp2_with fail;rw [← Hw1.out];refine h.mono ?_;clear h k0 k1 k2;rintro e w' ⟨rfl,o'⟩;go_wp2_with fail
 go_ret2
 exact ⟨rfl,Ho1.out.zC o'⟩
end
section
open Go.RowKit
set_option maxHeartbeats 8000000 in
theorem zDv (p:Option Addr) (n c:Nat) (xs:List qU) (k:Int) (w0:World) (hn:xs.length=n) (hb:n≤1000000) (hp:p=none→n=0) (hx:Rd w0 p (xs.flatMap zM)) (hs:jD qU.num ltZ xs) :
  Calls Tryz.prog 151 #[.slice p n c,.int .i64 k,.func (.func 136) #[] #[]] w0 fun e w'=>e=.returned (.tuple #[.int .i64 ((qV qU.num ltZ xs k:Nat):Int),.bool (qC qU.num ltZ xs k)])∧Only [] w0 w':=by
 have Hx:=Lib.hid hx;have Hs:=Lib.hid hs;have Hn:=Lib.hid hn;have Hp:=Lib.hid hp;clear hx hs hn hp
 go_enter Tryz.func151,Tryz.ntmps151
 go_wp2_with fail
 go_loopw [9,10] (fun s9 s10 wr=>∃ i j:Nat,s9=.int .i64 (i:Int)∧s10=.int .i64 (j:Int)∧i≤j∧j≤n∧Hid ((∀ x,0 < i→xs[i - 1]?=some x→ltZ (qU.num x) k)∧(∀ x,xs[j]?=some x→¬ ltZ (qU.num x) k))∧Hid (Only [] w0 wr)) (fun s9 s10 _=>(intOf s10).toNat - (intOf s9).toNat)
 case atStart=>exact ⟨0,n,rfl,rfl,Nat.zero_le _,Nat.le_refl _,Lib.hid ⟨fun x h=>absurd h (by omega),fun x h=>by have:=(List.getElem?_eq_some_iff.1 h).1;rw [Hn.out] at this;omega⟩,Lib.hid (Only.refl _ _)⟩
 case round =>
  obtain ⟨i,j,rfl,rfl,hij,hjn,HI,HO⟩:=hrel
  by_cases hlt:i < j
  ·obtain ⟨x,hxx⟩:∃ x,xs[(i+j) / 2]?=some x:=⟨_,List.getElem?_eq_getElem (by rw [Hn.out];omega)⟩;have hrd:=Hx.out.zB HO.out;have hne:xs.flatMap zM≠[]:=fun e'=>(by have:=flat_get zM 6 zW xs _ x 0 hxx (by omega);rw [e'] at this;cases this);obtain ⟨b,off,rfl,-⟩:=hrd.lt hne;have x0:=zP zW hrd hxx (r:=0) rfl;have x1:=zP zW hrd hxx (r:=1) rfl;have x2:=zP zW hrd hxx (r:=2) rfl;have x3:=zP zW hrd hxx (r:=3) rfl;have x4:=zP zW hrd hxx (r:=4) rfl;have x5:=zP zW hrd hxx (r:=5) rfl
   rw [Addr.add_lit,← Nat.add_assoc] at x0 x1 x2 x3 x4 x5;rw [Nat.add_zero] at x0;have hby:=zBp x k wr;have Hxx:=Lib.hid hxx;unfold ptV at hby;have hmid:(i+j) / 2 < n:=(by omega);clear hrd hne hxx
   by_cases hl:ltZ (qU.num x) k
   ·rw [decide_eq_true hl] at hby;unfold sgn at hby;rw [if_pos rfl] at hby;have Hl:=Lib.hid hl;clear hl;go_wp2_with fail;refine hby.mono ?_;clear hby x0 x1 x2 x3 x4 x5;rintro e w' ⟨rfl,o'⟩
    have HI2:Hid ((∀ x,0 < (i+j) / 2+1→xs[(i+j) / 2+1 - 1]?=some x→ltZ (qU.num x) k)∧(∀ x,xs[j]?=some x→¬ ltZ (qU.num x) k)):=Lib.hid ⟨fun y _ hy=>by
     rw [Nat.add_sub_cancel,Hxx.out] at hy
     cases hy
     exact Hl.out,HI.out.2⟩
    have HO2:=Lib.hid (HO.out.zC o');clear o';go_wp2_with fail;refine ⟨⟨(i+j) / 2+1,j,by go_num,rfl,by omega,hjn,HI2,HO2⟩,?_⟩
    simp [intOf];omega
   ·rw [decide_eq_false hl] at hby;unfold sgn at hby;rw [if_neg (by simp)] at hby;have Hl:=Lib.hid hl
    have HI2:Hid ((∀ x,0 < i→xs[i - 1]?=some x→ltZ (qU.num x) k)∧(∀ x,xs[(i+j) / 2]?=some x→¬ ltZ (qU.num x) k)):=Lib.hid ⟨HI.out.1,fun y hy=>by
     rw [Hxx.out] at hy
     cases hy
     exact Hl.out⟩
    clear hl
    by_cases hk:qU.num x=k
    ·rw [decide_eq_true hk,if_pos rfl] at hby;clear hk;go_wp2_with fail;refine hby.mono ?_;clear hby x0 x1 x2 x3 x4 x5;rintro e w' ⟨rfl,o'⟩;have HO2:=Lib.hid (HO.out.zC o');clear o';go_wp2_with fail;refine ⟨⟨i,(i+j) / 2,rfl,by go_num,by omega,by omega,HI2,HO2⟩,?_⟩
     simp [intOf];omega
    ·rw [decide_eq_false hk,if_neg (by simp)] at hby;clear hk;go_wp2_with fail;refine hby.mono ?_;clear hby x0 x1 x2 x3 x4 x5;rintro e w' ⟨rfl,o'⟩;have HO2:=Lib.hid (HO.out.zC o');clear o';go_wp2_with fail;refine ⟨⟨i,(i+j) / 2,rfl,by go_num,by omega,by omega,HI2,HO2⟩,?_⟩
     simp [intOf];omega
  ·obtain rfl:i=j:=(by omega);have Hpos:Hid (qV qU.num ltZ xs k=i):=Lib.hid (zBM zBB Hs.out (by rw [Hn.out];exact hjn) HI.out.1 HI.out.2)
   by_cases hin:i < n
   ·obtain ⟨x,hxx⟩:∃ x,xs[i]?=some x:=⟨_,List.getElem?_eq_getElem (by rw [Hn.out];omega)⟩;have Hth:Hid (qC qU.num ltZ xs k=decide (qU.num x=k)):=Lib.hid (by unfold qC;rw [Hpos.out,hxx]);have hl:=HI.out.2 x hxx;have hrd:=Hx.out.zB HO.out;have hne:xs.flatMap zM≠[]:=fun e'=>(by have:=flat_get zM 6 zW xs _ x 0 hxx (by omega);rw [e'] at this;cases this);obtain ⟨b,off,rfl,-⟩:=hrd.lt hne;have x0:=zP zW hrd hxx (r:=0) rfl;have x1:=zP zW hrd hxx (r:=1) rfl;have x2:=zP zW hrd hxx (r:=2) rfl
    have x3:=zP zW hrd hxx (r:=3) rfl;have x4:=zP zW hrd hxx (r:=4) rfl;have x5:=zP zW hrd hxx (r:=5) rfl;rw [Addr.add_lit,← Nat.add_assoc] at x0 x1 x2 x3 x4 x5;rw [Nat.add_zero] at x0;have hby:=zBp x k wr;unfold ptV sgn at hby;rw [decide_eq_false hl,if_neg (by simp)] at hby;clear hrd hne hxx hl
    by_cases hk:qU.num x=k
    ·rw [decide_eq_true hk,if_pos rfl] at hby;rw [decide_eq_true hk] at Hth;clear hk;go_wp2_with fail;refine hby.mono ?_;clear hby x0 x1 x2 x3 x4 x5;rintro e w' ⟨rfl,o'⟩;have HO2:=Lib.hid (HO.out.zC o');clear o';go_wp2_with fail
     go_ret2
     exact ⟨by rw [Hpos.out,Hth.out];rfl,HO2.out⟩
    ·rw [decide_eq_false hk,if_neg (by simp)] at hby;rw [decide_eq_false hk] at Hth;clear hk;go_wp2_with fail;refine hby.mono ?_;clear hby x0 x1 x2 x3 x4 x5;rintro e w' ⟨rfl,o'⟩;have HO2:=Lib.hid (HO.out.zC o');clear o';go_wp2_with fail
     go_ret2
     exact ⟨by rw [Hpos.out,Hth.out];rfl,HO2.out⟩
   ·obtain rfl:i=n:=by omega
    have Hth:Hid (qC qU.num ltZ xs k=false):=Lib.hid (by
     unfold qC
     rw [Hpos.out,List.getElem?_eq_none_iff.2 (by rw [Hn.out];exact Nat.le_refl _)])
    go_wp2_with fail
    go_ret2
    exact ⟨by rw [Hpos.out,Hth.out];rfl,HO.out⟩
theorem zFj (p:Option Addr) (n c:Nat) (xs:List qU) (k:Int) (w0:World) (hn:xs.length=n) (hb:n≤1000000) (hp:p=none→n=0) (hx:Rd w0 p (xs.flatMap zM)) (hs:jD qU.num ltZ xs) :
  Calls Tryz.prog 138 #[.slice p n c,.int .i64 k,.func (.func 136) #[] #[]] w0 fun e w'=>e=.returned (.tuple #[.int .i64 ((qV qU.num ltZ xs k:Nat):Int),.bool (qC qU.num ltZ xs k)])∧Only [] w0 w':=by
 have h:=zDv p n c xs k w0 hn hb hp hx hs;generalize qV qU.num ltZ xs k=i at h;generalize qC qU.num ltZ xs k=b at h
 go_enter Tryz.func138,Tryz.ntmps138
 go_wp2_with fail;refine h.mono ?_;clear h;rintro e w' ⟨rfl,o'⟩;go_wp2_with fail
 go_ret2
 exact ⟨rfl,o'⟩
end
section
open Go.RowKit
theorem yS (d:Nat) (a b:Cid) (w:World):(Op.equalIn (d+2) 31 (idV a) (idV b)).run Tryz.prog w=.ok (decide (a=b)) w:=by
 have hu:Tryz.prog.underlying 31=some (.struct (Tryz.prog.fieldsOf 31)):=(by kernel_rfl);have hs:Tryz.prog.stoodInHeld 31=false:=(by kernel_rfl);have h:=Tryz.underlying31;unfold idV;rw [show d+2=(d+1)+1 from rfl,run_equalIn_agg w (d+1) 31 _ _ hu hs];simp only [Program.fieldsOf,h];have q3:=fun (x y:Int) (w:World)=>run_equalIn_int (P:=Tryz.prog) w d 3 .i64 .i64 x y Tryz.underlying3
 simp [Op.eqFields,part,Tryz.isAgg3,q3]
 obtain ⟨a1,a2,a3⟩:=a;obtain ⟨b1,b2,b3⟩:=b;simp only [Cid.mk.injEq]
 by_cases h1:a1=b1 <;> by_cases h2:a2=b2 <;> by_cases h3:a3=b3 <;> simp [h1,h2,h3]
theorem zFH (d:Nat) (a b:Pc) (w:World):(Op.equalIn (d+3) 33 (pcV a) (pcV b)).run Tryz.prog w=.ok (decide (a=b)) w:=by
 have hu:Tryz.prog.underlying 33=some (.struct (Tryz.prog.fieldsOf 33)):=(by kernel_rfl);have hs:Tryz.prog.stoodInHeld 33=false:=(by kernel_rfl);have h:=Tryz.underlying33;have hsz:(Tryz.prog.info? 31).map (·.size)=some 3:=(by kernel_rfl);obtain ⟨ii,hii,hi3⟩:=Option.map_eq_some_iff.1 hsz;unfold pcV;rw [show d+3=(d+2)+1 from rfl,run_equalIn_agg w (d+2) 33 _ _ hu hs];simp only [Program.fieldsOf,h];have q3:=fun (x y:Int) (w:World)=>run_equalIn_int (P:=Tryz.prog) w (d+1) 3 .i64 .i64 x y Tryz.underlying3;have q9:=fun (x y:ByteArray) (w:World)=>run_equalIn_string (P:=Tryz.prog) w (d+1) 9 x y Tryz.underlying9
 have qi:=fun (x y:Cid) (w:World)=>yS d x y w;unfold idV at qi
 simp [Op.eqFields,part,Tryz.isAgg3,Tryz.isAgg9,Tryz.isAgg31,sizeOf,typeInfo,hii,hi3,q3,q9,qi a.blob b.blob,jV]
 obtain ⟨a1,a2,a3⟩:=a;obtain ⟨b1,b2,b3⟩:=b;simp only [Pc.mk.injEq]
 by_cases h1:a1=b1 <;> by_cases h2:a2=b2 <;> by_cases h3:a3=b3 <;> simp [h1,h2,h3]
end
end Go.Proofs.YtfeglnpmpgipiaaGreatDoor
