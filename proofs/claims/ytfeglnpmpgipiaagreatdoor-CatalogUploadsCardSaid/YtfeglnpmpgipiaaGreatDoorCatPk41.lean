/- CatPk, part 41: Alive11W, LawHeadL. -/
import Derived.Test.YtfeglnpmpgipiaaGreatDoorCatPk14
import Derived.Test.YtfeglnpmpgipiaaGreatDoorCatPk39
import Derived.Test.YtfeglnpmpgipiaaGreatDoorCatPk40
set_option linter.unusedVariables false
set_option maxRecDepth 100000
set_option linter.unusedSimpArgs false
namespace Go.Proofs.YtfeglnpmpgipiaaGreatDoor
section
open Go.RowKit
def mkC (t:Int):Cmd:=⟨1,⟨0,0,0⟩,[97,97,97],[],⟨0,0,0⟩,⟨⟨0,0,0⟩,0,[]⟩,0,[],t,0⟩
theorem mkC_ok {t:Int} (h:0≤t∧t≤100):CmdOk (mkC t):=by
 refine ⟨?_,?_,?_,?_,?_,?_,?_,?_,?_,?_,?_,?_,?_,?_⟩ <;> simp [mkC] <;> omega
theorem cat0_ok:CatOk ⟨[],[]⟩:=⟨List.Pairwise.nil,by simp,(fun b h=>by cases h),List.Pairwise.nil,(fun f h=>by cases h)⟩
def cat1:Cat:=⟨[⟨[97,97,97],4,0,[],[]⟩],[]⟩
theorem app1:apply smL ⟨[],[]⟩ (mkC 4)=(cat1,⟨0,[]⟩):=by
 unfold apply mkC;rw [if_pos rfl]
 rfl
theorem app2:apply smL cat1 (mkC 0)=(cat1,⟨4,[]⟩):=by
 unfold apply mkC
 rw [if_pos rfl,if_pos (by
  unfold thereL posL cat1
  simp [List.takeWhile,lt_irrefl])]
theorem cat1_ok:CatOk cat1:=by
 have h:=apply_ok smL smL_len cat0_ok (mkC_ok (t:=4) (by omega));rw [app1] at h;exact h
set_option maxHeartbeats 16000000 in
theorem alive11_any (w0:World):Calls Tryz.prog 14 #[] w0 fun e w'=>e=.returned (.bool true)∧Only [] w0 w':=by
 have h1:Calls Tryz.prog 16 #[.agg #[.slice none 0 0,.slice none 0 0],.agg #[.int .i64 1,.int .i64 0,.int .i64 0,.int .i64 0,.string ⟨#[97,97,97]⟩,.string ⟨#[]⟩,.int .i64 0,.int .i64 0,.int .i64 0,.int .i64 0,.int .i64 0,.int .i64 0,.int .i64 0,.string ⟨#[]⟩,.int .i64 0,.slice none 0 0,.int .i64 4,.int .i64 0]] w0 (ApplyQ ⟨[],none,0,[],none,0⟩ ⟨mkC 4,none,0⟩ w0) :=
  catApply_any ⟨[],none,0,[],none,0⟩ ⟨mkC 4,none,0⟩ w0 ⟨.nil _,.nil _,fun b h=>by cases h⟩ cat0_ok (mkC_ok (by omega)) (.nil _)
 have H1:=Lib.hid h1;clear h1
 go_enter Tryz.func14,Tryz.ntmps14
 go_wp2_with fail;refine H1.out.mono ?_;rintro e w1 ⟨L1,oc1,rfl,hown,happ,o1⟩;clear H1;rw [show (⟨[],none,0,[],none,0⟩:LCat).cat=⟨[],[]⟩ from rfl,app1] at happ;obtain ⟨hc1,hoc⟩:=Prod.mk.inj happ;subst hoc;obtain ⟨bs,p1,c1,fs,q1,d1⟩:=L1;have hfs:fs=[]:=congrArg Cat.floors hc1;subst hfs;have hbs:bs.map LBk.b=[⟨[97,97,97],4,0,[],[]⟩]:=congrArg Cat.bucks hc1;have hbl:bs.length=1:=(by have:=congrArg List.length hbs;simpa using this);obtain ⟨b,rfl⟩:=List.length_eq_one_iff.1 hbl
 have hb4:b.time=4:=by
  have h:=List.cons.inj hbs;exact congrArg CBuck.time h.1
 obtain ⟨g,rest,hg,-,hrow⟩:=hown.sb.rowOf (by simp);obtain rfl:p1=some ⟨g,0,none⟩:=hg;have h2:=fun W (h:Only [] w1 W)=>catApply_any ⟨[b],some ⟨g,0,none⟩,c1,[],q1,d1⟩ ⟨mkC 0,none,0⟩ W ((hown.only0 h).at) (by rw [hc1];exact cat1_ok) (mkC_ok (by omega)) (.nil _);have hgl:=hrow.lt;have y1:=hrow.cell (i:=1) (v:=.int .i64 4) (by rw [← hb4];rfl);have H2:Hid (∀ W,Only [] w1 W→Calls Tryz.prog 16 #[.agg #[.slice (some ⟨g,0,none⟩) 1 c1,.slice q1 0 d1],.agg #[.int .i64 1,.int .i64 0,.int .i64 0,.int .i64 0,.string ⟨#[97,97,97]⟩,.string ⟨#[]⟩,.int .i64 0,.int .i64 0,.int .i64 0,.int .i64 0,.int .i64 0,.int .i64 0,.int .i64 0,.string ⟨#[]⟩,.int .i64 0,.slice none 0 0,.int .i64 0,.int .i64 0]] W (ApplyQ ⟨[b],some ⟨g,0,none⟩,c1,[],q1,d1⟩ ⟨mkC 0,none,0⟩ W)):=Lib.hid h2
 have Hc1:=Lib.hid hc1;have HO1:=Lib.hid o1;have Hy1:=Lib.hid y1;unfold lcV oucV;dsimp only [List.length_cons,List.length_nil];obtain ⟨w2,hw2⟩:∃ w2,w2=w1.alloc (.cells #[.slice (some ⟨g,0,none⟩) 1 c1,.slice q1 0 d1] 29):=⟨_,rfl⟩;obtain ⟨w3,hw3⟩:∃ w3,w3=w2.alloc (.cells #[.int .i64 0,.string ⟨#[]⟩] 38):=⟨_,rfl⟩;have o2:Only [] w1 w2:=(by rw [hw2];exact Only.alloc _ _);have o3:Only [] w2 w3:=(by rw [hw3];exact Only.alloc _ _);have s2:w2.heap.size=w1.heap.size+1:=(by rw [hw2];simp);have r2:Row w3 w1.heap.size 29 [.slice (some ⟨g,0,none⟩) 1 c1,.slice q1 0 d1]:=(show Row w2 w1.heap.size 29 [.slice (some ⟨g,0,none⟩) 1 c1,.slice q1 0 d1] by rw [hw2];exact Row.newOf _ _ _ _ rfl).only0 o3
 have r3:Row w3 (w1.heap.size+1) 38 [.int .i64 0,.string ⟨#[]⟩]:=(by rw [← s2,hw3];exact Row.newOf _ _ _ _ rfl);have Hr2:=Lib.hid r2;have Hr3:=Lib.hid r3;have H13:=Lib.hid (o2.trans0 o3);rw [hw2] at hw3;have Hw3:=Lib.hid hw3;have c0:=r2.cell (i:=0) rfl;have c1':=r2.cell (i:=1) rfl;clear happ hc1 hbs hb4 hown hbl hrow h2 y1 o1 hw2 hw3 o2 o3 s2 r2 r3
 go_upto_region 2 with (fail)
 rw [show (str [])=⟨#[]⟩ from rfl,← Hw3.out];clear Hw3;go_wp2_with fail;refine (H2.out w3 H13.out).mono ?_;rintro e w4 ⟨L2,oc2,rfl,hown2,happ2,o4⟩;rw [Hc1.out,app2] at happ2;obtain ⟨-,hoc2⟩:=Prod.mk.inj happ2;subst hoc2;clear happ2 hown2 H2 c0 c1';unfold lcV oucV;obtain ⟨nb,hnb⟩:∃ n,L2.bs.length=n:=⟨_,rfl⟩;obtain ⟨nf,hnf⟩:∃ n,L2.fs.length=n:=⟨_,rfl⟩;rw [hnb,hnf];obtain ⟨w5,hw5⟩:∃ w5,w5=w4.alloc (.cells #[.slice L2.pb nb L2.cb,.slice L2.pf nf L2.cf] 29):=⟨_,rfl⟩;obtain ⟨w6,hw6⟩:∃ w6,w6=w5.alloc (.cells #[.int .i64 4,.string ⟨#[]⟩] 38):=⟨_,rfl⟩
 have o5:Only [] w4 w5:=(by rw [hw5];exact Only.alloc _ _);have o6:Only [] w5 w6:=(by rw [hw6];exact Only.alloc _ _);have s5:w5.heap.size=w4.heap.size+1:=(by rw [hw5];simp);have r6:Row w6 (w4.heap.size+1) 38 [.int .i64 4,.string ⟨#[]⟩]:=(by rw [← s5,hw6];exact Row.newOf _ _ _ _ rfl);have o36:=(o4.trans0 o5).trans0 o6;have a0:=(Hr2.out.only0 o36).cell (i:=0) rfl;have b0:=(Hr3.out.only0 o36).cell (i:=0) rfl;have d0:=r6.cell (i:=0) rfl;have y1:=(H13.out.trans0 o36).cell Hy1.out (by simp);have HE:=Lib.hid ((HO1.out.trans0 H13.out).trans0 o36);rw [hw5] at hw6
 have Hw6:=Lib.hid hw6;clear hnb hnf hw5 hw6 o4 o5 o6 s5 r6 o36
 go_upto_region 3 with (fail)
 rw [show (str [])=⟨#[]⟩ from rfl,← Hw6.out];go_wp2_with fail
 go_ret
 exact ⟨rfl,HE.out⟩
end
section
open Go.RowKit
theorem wpl_load_on {{P:Program}} {{ops:Array Oper}} {{rest:List Oper}} {{o:Oper}} {{a:Act}} {{Q:Exit→Act→World→Prop}} {{w:World}} {{x:Operand}} {{ty:TypeId}} {{pv v:Value}} (hw:Region.wanted o (yielded ops a.tmps)=true) (ho:o.op=.load ty x) (hx:a.eval x=pv)
  (hr:(Instr.loadAt ty pv).run P w=.ok v w) (h:wpList P ops Q rest (a.put o.dst v) w):wpList P ops Q (o :: rest) a w :=
 Go.BigFrame.wpList_want hw fun K hK=>by
  unfold Oper.wp execOp;simp only [ho,hx,hr,Sem.run_bind,Sem.run_pure,Result.andThen_ok];exact hK _ _ h
end
end Go.Proofs.YtfeglnpmpgipiaaGreatDoor
