/- CmpPk, part 37: Alive11W, LawCompW. -/
import Derived.Test.YtfeglnpmpgipiaaGreatDoorCmpPk01
import Derived.Test.YtfeglnpmpgipiaaGreatDoorCmpPk02
import Derived.Test.YtfeglnpmpgipiaaGreatDoorCmpPk04
import Derived.Test.YtfeglnpmpgipiaaGreatDoorCmpPk06
import Derived.Test.YtfeglnpmpgipiaaGreatDoorCmpPk08
import Derived.Test.YtfeglnpmpgipiaaGreatDoorCmpPk10
import Derived.Test.YtfeglnpmpgipiaaGreatDoorCmpPk14
import Derived.Test.YtfeglnpmpgipiaaGreatDoorCmpPk22
import Derived.Test.YtfeglnpmpgipiaaGreatDoorCmpPk26
import Derived.Test.YtfeglnpmpgipiaaGreatDoorCmpPk34
import Derived.Test.YtfeglnpmpgipiaaGreatDoorCmpPk36
import Derived.RangeFuncNested
import Derived.RangeFuncBound
import Derived.RangeFuncCalls
import Derived.RangeFuncLeaves
import Derived.TacticsInMore
import Derived.OwnWalkIn
import Derived.LoopNIn
import Derived.LoopIn
import Derived.Shelf.Abstract
import Derived.MapKept
import Derived.Laws.StructEq
set_option linter.unusedVariables false
set_option maxRecDepth 100000
set_option linter.unusedSimpArgs false
namespace Go.Proofs.YtfeglnpmpgipiaaGreatDoor
section
open Go.RowKit
def mkC (t:Int):Cmd:=⟨1,⟨0,0,0⟩,[97,97,97],[],⟨0,0,0⟩,⟨⟨0,0,0⟩,0,[]⟩,0,[],t,0⟩
theorem mkC_ok {t:Int} (h:0≤t∧t≤100):CmdOk (mkC t):=by
 refine ⟨?_,?_,?_,?_,?_,?_,?_,?_,?_,?_,?_,?_,?_,?_⟩ <;> simp [mkC] <;> omega
theorem cat0_ok:CatOk ⟨[],[]⟩:=⟨List.Pairwise.nil,by simp,(fun b h=>by cases h),List.Pairwise.nil,(fun f h=>by cases h)⟩
def cat1:Cat:=⟨[⟨[97,97,97],4,0,[],[]⟩],[]⟩
theorem app1:apply smL ⟨[],[]⟩ (mkC 4)=(cat1,⟨0,[]⟩):=by
 unfold apply mkC;rw [if_pos rfl]
 rfl
theorem app2:apply smL cat1 (mkC 0)=(cat1,⟨4,[]⟩):=by
 unfold apply mkC
 rw [if_pos rfl,if_pos (by
  unfold thereL posL cat1
  simp [List.takeWhile,lt_irrefl])]
theorem cat1_ok:CatOk cat1:=by
 have h:=apply_ok smL smL_len cat0_ok (mkC_ok (t:=4) (by omega));rw [app1] at h;exact h
set_option maxHeartbeats 16000000 in
theorem alive11_any (w0:World):Calls Tryz.prog 14 #[] w0 fun e w'=>e=.returned (.bool true)∧Only [] w0 w':=by
 have h1:Calls Tryz.prog 16 #[.agg #[.slice none 0 0,.slice none 0 0],.agg #[.int .i64 1,.int .i64 0,.int .i64 0,.int .i64 0,.string ⟨#[97,97,97]⟩,.string ⟨#[]⟩,.int .i64 0,.int .i64 0,.int .i64 0,.int .i64 0,.int .i64 0,.int .i64 0,.int .i64 0,.string ⟨#[]⟩,.int .i64 0,.slice none 0 0,.int .i64 4,.int .i64 0]] w0 (ApplyQ ⟨[],none,0,[],none,0⟩ ⟨mkC 4,none,0⟩ w0) :=
  catApply_any ⟨[],none,0,[],none,0⟩ ⟨mkC 4,none,0⟩ w0 ⟨.nil _,.nil _,fun b h=>by cases h⟩ cat0_ok (mkC_ok (by omega)) (.nil _)
 have H1:=Lib.hid h1;clear h1
 go_enter Tryz.func14,Tryz.ntmps14
 go_wp2_with fail;refine H1.out.mono ?_;rintro e w1 ⟨L1,oc1,rfl,hown,happ,o1⟩;clear H1;rw [show (⟨[],none,0,[],none,0⟩:LCat).cat=⟨[],[]⟩ from rfl,app1] at happ;obtain ⟨hc1,hoc⟩:=Prod.mk.inj happ;subst hoc;obtain ⟨bs,p1,c1,fs,q1,d1⟩:=L1;have hfs:fs=[]:=congrArg Cat.floors hc1;subst hfs;have hbs:bs.map LBk.b=[⟨[97,97,97],4,0,[],[]⟩]:=congrArg Cat.bucks hc1;have hbl:bs.length=1:=(by have:=congrArg List.length hbs;simpa using this);obtain ⟨b,rfl⟩:=List.length_eq_one_iff.1 hbl
 have hb4:b.time=4:=by
  have h:=List.cons.inj hbs;exact congrArg CBuck.time h.1
 obtain ⟨g,rest,hg,-,hrow⟩:=hown.sb.rowOf (by simp);obtain rfl:p1=some ⟨g,0,none⟩:=hg;have h2:=fun W (h:Only [] w1 W)=>catApply_any ⟨[b],some ⟨g,0,none⟩,c1,[],q1,d1⟩ ⟨mkC 0,none,0⟩ W ((hown.only0 h).at) (by rw [hc1];exact cat1_ok) (mkC_ok (by omega)) (.nil _);have hgl:=hrow.lt;have y1:=hrow.cell (i:=1) (v:=.int .i64 4) (by rw [← hb4];rfl);have H2:Hid (∀ W,Only [] w1 W→Calls Tryz.prog 16 #[.agg #[.slice (some ⟨g,0,none⟩) 1 c1,.slice q1 0 d1],.agg #[.int .i64 1,.int .i64 0,.int .i64 0,.int .i64 0,.string ⟨#[97,97,97]⟩,.string ⟨#[]⟩,.int .i64 0,.int .i64 0,.int .i64 0,.int .i64 0,.int .i64 0,.int .i64 0,.int .i64 0,.string ⟨#[]⟩,.int .i64 0,.slice none 0 0,.int .i64 0,.int .i64 0]] W (ApplyQ ⟨[b],some ⟨g,0,none⟩,c1,[],q1,d1⟩ ⟨mkC 0,none,0⟩ W)):=Lib.hid h2
 have Hc1:=Lib.hid hc1;have HO1:=Lib.hid o1;have Hy1:=Lib.hid y1;unfold lcV oucV;dsimp only [List.length_cons,List.length_nil];obtain ⟨w2,hw2⟩:∃ w2,w2=w1.alloc (.cells #[.slice (some ⟨g,0,none⟩) 1 c1,.slice q1 0 d1] 29):=⟨_,rfl⟩;obtain ⟨w3,hw3⟩:∃ w3,w3=w2.alloc (.cells #[.int .i64 0,.string ⟨#[]⟩] 38):=⟨_,rfl⟩;have o2:Only [] w1 w2:=(by rw [hw2];exact Only.alloc _ _);have o3:Only [] w2 w3:=(by rw [hw3];exact Only.alloc _ _);have s2:w2.heap.size=w1.heap.size+1:=(by rw [hw2];simp);have r2:Row w3 w1.heap.size 29 [.slice (some ⟨g,0,none⟩) 1 c1,.slice q1 0 d1]:=(show Row w2 w1.heap.size 29 [.slice (some ⟨g,0,none⟩) 1 c1,.slice q1 0 d1] by rw [hw2];exact Row.newOf _ _ _ _ rfl).only0 o3
 have r3:Row w3 (w1.heap.size+1) 38 [.int .i64 0,.string ⟨#[]⟩]:=(by rw [← s2,hw3];exact Row.newOf _ _ _ _ rfl);have Hr2:=Lib.hid r2;have Hr3:=Lib.hid r3;have H13:=Lib.hid (o2.trans0 o3);rw [hw2] at hw3;have Hw3:=Lib.hid hw3;have c0:=r2.cell (i:=0) rfl;have c1':=r2.cell (i:=1) rfl;clear happ hc1 hbs hb4 hown hbl hrow h2 y1 o1 hw2 hw3 o2 o3 s2 r2 r3
 go_upto_region 2 with (fail)
 rw [show (str [])=⟨#[]⟩ from rfl,← Hw3.out];clear Hw3;go_wp2_with fail;refine (H2.out w3 H13.out).mono ?_;rintro e w4 ⟨L2,oc2,rfl,hown2,happ2,o4⟩;rw [Hc1.out,app2] at happ2;obtain ⟨-,hoc2⟩:=Prod.mk.inj happ2;subst hoc2;clear happ2 hown2 H2 c0 c1';unfold lcV oucV;obtain ⟨nb,hnb⟩:∃ n,L2.bs.length=n:=⟨_,rfl⟩;obtain ⟨nf,hnf⟩:∃ n,L2.fs.length=n:=⟨_,rfl⟩;rw [hnb,hnf];obtain ⟨w5,hw5⟩:∃ w5,w5=w4.alloc (.cells #[.slice L2.pb nb L2.cb,.slice L2.pf nf L2.cf] 29):=⟨_,rfl⟩;obtain ⟨w6,hw6⟩:∃ w6,w6=w5.alloc (.cells #[.int .i64 4,.string ⟨#[]⟩] 38):=⟨_,rfl⟩
 have o5:Only [] w4 w5:=(by rw [hw5];exact Only.alloc _ _);have o6:Only [] w5 w6:=(by rw [hw6];exact Only.alloc _ _);have s5:w5.heap.size=w4.heap.size+1:=(by rw [hw5];simp);have r6:Row w6 (w4.heap.size+1) 38 [.int .i64 4,.string ⟨#[]⟩]:=(by rw [← s5,hw6];exact Row.newOf _ _ _ _ rfl);have o36:=(o4.trans0 o5).trans0 o6;have a0:=(Hr2.out.only0 o36).cell (i:=0) rfl;have b0:=(Hr3.out.only0 o36).cell (i:=0) rfl;have d0:=r6.cell (i:=0) rfl;have y1:=(H13.out.trans0 o36).cell Hy1.out (by simp);have HE:=Lib.hid ((HO1.out.trans0 H13.out).trans0 o36);rw [hw5] at hw6
 have Hw6:=Lib.hid hw6;clear hnb hnf hw5 hw6 o4 o5 o6 s5 r6 o36
 go_upto_region 3 with (fail)
 rw [show (str [])=⟨#[]⟩ from rfl,← Hw6.out];go_wp2_with fail
 go_ret
 exact ⟨rfl,HE.out⟩
end
section
open Go.RowKit
def etA:Bs:=[48,49,50,51,52,53,54,55,56,57,97,98,99,100,101,102,48,49,50,51,52,53,54,55,56,57,97,98,99,100,101,102,48,49,50,51,52,53,54,55,56,57,97,98,99,100,101,102,48,49,50,51,52,53,54,55,56,57,97,98,99,100,101,102]
theorem etA_len:etA.length=64:=rfl
def zA (xs:List Int) (j:Nat):Int:=(wrap64 ((xs.getD j 0).tmod 1025+1025)).tmod 1025
theorem rem_mod (v:Int) {k:Nat} (h0:0 < k) (hk:k≤4000):0≤(wrap64 (v.tmod k+k)).tmod k∧(wrap64 (v.tmod k+k)).tmod k < k:=by
 have b1:=Int.tmod_lt_of_pos v (show (0:Int) < k by omega);have b2:=Int.tmod_lt_of_pos (-v) (show (0:Int) < k by omega);rw [Int.neg_tmod] at b2;rw [IntWalk.wrap64_in _ (by omega)];exact ⟨Int.tmod_nonneg k (show 0≤v.tmod k+k by omega),Int.tmod_lt_of_pos _ (show (0:Int) < k by omega)⟩
theorem zA_range (xs:List Int) (j:Nat):0≤zA xs j∧zA xs j≤1024:=by
 have h:0≤zA xs j∧zA xs j < 1025:=rem_mod (xs.getD j 0) (k:=1025) (by omega) (by omega);exact ⟨h.1,by omega⟩
theorem cU0_ok:CatOk (cU []):=apply_ok smL smL_len bkA_ok stA_ok
def CompI (w:World) (X B:Nat) (n m:Nat) (z:Nat→Int) (i k:Nat) (pa:Option Addr) (ka:Nat):Prop :=
 OwnK w B 3 1 (.slice pa k ka) k ((allN k).flatMap intC)∧∃ L ps,Row w X 29 (lcCells L)∧CatOwn w (X+1) L∧(∀ g∈blk pa,g ∉ L.fp)∧CatOk L.cat∧L.cat=cU ps∧PsI etA n m z i ps
set_option maxHeartbeats 16000000 in
theorem lawComp_any (p:Option Addr) (ls c:Nat) (xs:List Int) (q:Option Addr) (m cq:Nat) (os:List Int) (w0:World) (hxl:xs.length=ls) (hxr:Rd w0 p (i64s xs)) (hol:os.length=m) (hor:Rd w0 q (i64s os)) :
  Calls Tryz.prog 7 #[.slice p ls c,.slice q m cq] w0 fun e w'=>e=.returned (.bool true)∧Only [] w0 w':=by
 have HX:=Lib.hid (And.intro hxl hxr);have HQ:=Lib.hid (And.intro hol hor);clear hxl hxr hol hor
 obtain ⟨n,hn1,hn2⟩:∃ n:Nat,min (ls:Int) 16=(n:Int)∧n≤ls∧n≤16:=by
  by_cases h:ls≤16
  ·exact ⟨ls,by omega,Nat.le_refl _,h⟩
  ·exact ⟨16,by omega,by omega,Nat.le_refl _⟩
 have hn16:=hn2.2;have HN:=Lib.hid hn2;clear hn2
 go_enter Tryz.func7,Tryz.ntmps7
 go_wp2_with fail;refine (alive11_any w0).mono ?_;rintro e wa ⟨rfl,oa⟩;have HOa:=Lib.hid oa;clear oa
 by_cases hn0:n=0
 ·subst hn0;go_wp2_with fail
  go_ret
  exact ⟨rfl,HOa.out⟩
 have hn0':((n:Int) == 0)=false:=beq_eq_false_iff_ne.2 (by omega)
 by_cases h60:m≤60
 rotate_left
 ·skip
  go_wp2_with fail
  go_ret
  exact ⟨rfl,HOa.out⟩
 have Hn0:=Lib.hid hn0;clear hn0
 go_upto_region 7 with (fail)
 have HN1:=Lib.hid hn1;clear hn1 hn0'
 have h1:Calls Tryz.prog 16 #[.agg #[.slice none 0 0,.slice none 0 0],.agg #[.int .i64 1,.int .i64 0,.int .i64 0,.int .i64 0,.string ⟨#[97,97,97]⟩,.string ⟨#[]⟩,.int .i64 0,.int .i64 0,.int .i64 0,.int .i64 0,.int .i64 0,.int .i64 0,.int .i64 0,.string ⟨#[]⟩,.int .i64 0,.slice none 0 0,.int .i64 0,.int .i64 0]] wa (ApplyQ ⟨[],none,0,[],none,0⟩ ⟨mkA,none,0⟩ wa) :=
  catApply_any ⟨[],none,0,[],none,0⟩ ⟨mkA,none,0⟩ wa ⟨.nil _,.nil _,fun b h=>by cases h⟩ cat0_ok mkA_ok (.nil _)
 have H1:=Lib.hid h1;clear h1;go_wp2_with fail;refine H1.out.mono ?_;rintro e w1 ⟨L1,oc1,rfl,hown1,happ1,o1⟩;clear H1;rw [show (⟨[],none,0,[],none,0⟩:LCat).cat=⟨[],[]⟩ from rfl,app_mkA] at happ1;obtain ⟨hc1,hoc1⟩:=Prod.mk.inj happ1;subst hoc1;obtain ⟨nb1,hnb1⟩:∃ k,L1.bs.length=k:=⟨_,rfl⟩;obtain ⟨nf1,hnf1⟩:∃ k,L1.fs.length=k:=⟨_,rfl⟩;have hLV1:lcV L1=.agg #[.slice L1.pb nb1 L1.cb,.slice L1.pf nf1 L1.cf]:=(by unfold lcV;rw [hnb1,hnf1]);rw [hLV1,show oucV ⟨0,[]⟩=.agg #[.int .i64 0,.string ⟨#[]⟩] from rfl];have HC1:=Lib.hid hc1;have HO1:=Lib.hid (HOa.out.trans0 o1)
 have HLV1:=Lib.hid hLV1;clear happ1 hc1 hLV1 hnb1 hnf1 o1
 go_upto_region 8 with (fail)
 obtain ⟨w2,hw2⟩:∃ w2,w2=w1.alloc (.cells #[.slice L1.pb nb1 L1.cb,.slice L1.pf nf1 L1.cf] 29):=⟨_,rfl⟩;have o2:Only [] w1 w2:=(by rw [hw2];exact Only.alloc _ _);have s2:w2.heap.size=w1.heap.size+1:=(by rw [hw2];simp);have r2:Row w2 w1.heap.size 29 [.slice L1.pb nb1 L1.cb,.slice L1.pf nf1 L1.cf]:=(by rw [hw2];exact Row.newOf _ _ _ _ rfl);obtain ⟨w3,hw3⟩:∃ w3,w3=w2.alloc (.cells #[.int .i64 0,.string ⟨#[]⟩] 38):=⟨_,rfl⟩;have o3:Only [] w2 w3:=(by rw [hw3];exact Only.alloc _ _);have s3:w3.heap.size=w1.heap.size+2:=(by rw [hw3];simp [s2]);rw [← hw2,← hw3]
 clear hw3
 go_upto_region 9 with (fail)
 obtain ⟨w4,hw4⟩:∃ w4,w4=w3.alloc (.cells #[.int .i64 1,.int .i64 0,.int .i64 1] 31):=⟨_,rfl⟩;have o4:Only [] w3 w4:=(by rw [hw4];exact Only.alloc _ _);have s4:w4.heap.size=w3.heap.size+1:=(by rw [hw4];simp);have r4:Row w4 w3.heap.size 31 [.int .i64 1,.int .i64 0,.int .i64 1]:=(by rw [hw4];exact Row.newOf _ _ _ _ rfl);rw [← hw4];obtain ⟨X,hX⟩:∃ X,w1.heap.size=X:=⟨_,rfl⟩;have Hw1:=Lib.hid hX;rw [hX] at r2 s3;rw [s3] at r4 s4;rw [hX];have hXI:X+2 < w4.heap.size:=(by omega);have o14:=o2.trans0 (o3.trans0 o4);have HO4:=Lib.hid (HO1.out.trans0 o14)
 have hown4:=hown1.only0 o14;have HX4:=Lib.hid (r2.only0 (o3.trans0 o4));have HI4:=Lib.hid r4;have a0:=HX4.out.cell (i:=0) rfl;have a1:=HX4.out.cell (i:=1) rfl;have b0:=r4.cell (i:=0) rfl;have b1:=r4.cell (i:=1) rfl;have b2:=r4.cell (i:=2) rfl
 have hap:Calls Tryz.prog 16 #[lcV L1,.agg #[.int .i64 5,.int .i64 1,.int .i64 0,.int .i64 1,.string ⟨#[97,97,97]⟩,.string ⟨#[107]⟩,.int .i64 0,.int .i64 0,.int .i64 0,.int .i64 0,.int .i64 0,.int .i64 0,.int .i64 0,.string ⟨#[]⟩,.int .i64 0,.slice none 0 0,.int .i64 0,.int .i64 0]] w4 (ApplyQ L1 ⟨stA,none,0⟩ w4) :=
  catApply_any L1 ⟨stA,none,0⟩ w4 hown4.at (by rw [HC1.out];exact bkA_ok) stA_ok (.nil _)
 rw [HLV1.out] at hap;have HAp:=Lib.hid hap;clear hw2 o2 s2 r2 o3 s3 hw4 o4 s4 r4 hX o14 hown4 hap hown1;go_wp2_with fail;refine HAp.out.mono ?_;rintro e w5 ⟨L2,oc2,rfl,hown2,happ2,o5⟩;rw [HC1.out,app_stA] at happ2;obtain ⟨hc2,hoc2⟩:=Prod.mk.inj happ2;subst hoc2;obtain ⟨nb2,hnb2⟩:∃ k,L2.bs.length=k:=⟨_,rfl⟩;obtain ⟨nf2,hnf2⟩:∃ k,L2.fs.length=k:=⟨_,rfl⟩;rw [show lcV L2=.agg #[.slice L2.pb nb2 L2.cb,.slice L2.pf nf2 L2.cf] by unfold lcV;rw [hnb2,hnf2],show oucV ⟨0,[]⟩=.agg #[.int .i64 0,.string ⟨#[]⟩] from rfl];have HX5:=Lib.hid (HX4.out.only0 o5)
 clear HAp a0 a1 b0 b1 b2 happ2 HX4 HLV1;have a0:=HX5.out.cell (i:=0) rfl;have a1:=HX5.out.cell (i:=1) rfl;have f0:=HX5.out.free 0;have f1:=HX5.out.free 1;have hXs:X < w5.heap.size:=HX5.out.lt
 go_upto_region 10 with (fail)
 obtain ⟨w6,hw6⟩:∃ w6,w6=(w5.setCell ⟨X,0,none⟩ (.slice L2.pb nb2 L2.cb)).setCell ⟨X,1,none⟩ (.slice L2.pf nf2 L2.cf):=⟨_,rfl⟩;have hrz:=HX5.out.set2 (.slice L2.pb nb2 L2.cb) (.slice L2.pf nf2 L2.cf);have hst:=only_set2 w5 X (.slice L2.pb nb2 L2.cb) (.slice L2.pf nf2 L2.cf);rw [← hw6] at hrz hst;have hs6:w6.heap.size=w5.heap.size:=(by rw [hw6];simp);obtain ⟨G,hG⟩:∃ G,w5.heap.size=G:=⟨_,rfl⟩;obtain ⟨w7,hw7⟩:∃ w7,w7=w6.alloc (.cells #[.int .i64 0,.string ⟨#[]⟩] 38):=⟨_,rfl⟩;have o7:Only [] w6 w7:=(by rw [hw7];exact Only.alloc _ _);have s7:w7.heap.size=G+1:=by rw [hw7];simp [hs6,hG]
 have r7:Row w7 G 38 [.int .i64 0,.string ⟨#[]⟩]:=(by rw [← hG,← hs6,hw7];exact Row.newOf _ _ _ _ rfl);rw [← hw6,← hw7,hG];have hXG:X+2 < G:=(by have:=o5.size;omega);have hw1X:w1.heap.size=X:=Hw1.out;have h01:=HO1.out.size;have HO7:=Lib.hid ((HO4.out.trans0 o5).transN (hst.trans0 o7) (by intro k hk;rw [List.mem_singleton.1 hk];omega));have HX7:=Lib.hid (hrz.only0 o7);have HI7:=Lib.hid ((HI4.out.only0 o5).only (hst.trans0 o7) (by intro hm;have:=List.mem_singleton.1 hm;omega));have HG7:=Lib.hid r7;have hlo2:=hown2.lo;have Hown7:Hid (CatOwn w7 w4.heap.size L2∧X ∉ L2.fp∧(∀ z∈L2.fp,z < G)∧L2.cat=cU []):=Lib.hid ⟨(hown2.only hst (fun z hz hm=>by have:=(hlo2 z hz).1;rw [List.mem_singleton.1 hm] at this;omega)).only0 o7,fun hm=>by have:=(hlo2 _ hm).1;omega,fun z hz=>by rw [← hG];exact (hlo2 z hz).2,hc2⟩
 have HL2:=Lib.hid (And.intro hnb2 hnf2);have hX0:w0.heap.size≤X:=(by rw [← hw1X];exact h01);have Hs7:=Lib.hid s7;clear hw6 hw7 hrz hst hs6 o7 s7 r7 hlo2 hown2 hc2 hnb2 hnf2 a0 a1 f0 f1 HX5 HI4 o5 hG hXs hw1X h01
 go_upto_region 13 with (fail)
 obtain ⟨eT,heT⟩:∃ v,str etA=v:=⟨_,rfl⟩;rw [show (⟨#[48,49,50,51,52,53,54,55,56,57,97,98,99,100,101,102,48,49,50,51,52,53,54,55,56,57,97,98,99,100,101,102,48,49,50,51,52,53,54,55,56,57,97,98,99,100,101,102,48,49,50,51,52,53,54,55,56,57,97,98,99,100,101,102]⟩:ByteArray)=eT from heT];have HeT:=Lib.hid heT;clear heT;obtain ⟨w8,hw8⟩:∃ w8,w8=w7.alloc (.cells #[] 3):=⟨_,rfl⟩;have o8:Only [] w7 w8:=(by rw [hw8];exact Only.alloc _ _);have ha8:OwnK w8 (G+1) 3 1 (.slice (some ⟨w7.heap.size,0,none⟩) 0 0) 0 []:=by rw [hw8];exact OwnK.new (K:=1) (n:=0) [] (Nat.le_of_eq Hs7.out.symm) rfl (by omega)
 rw [Hs7.out] at ha8;rw [← hw8,Hs7.out]
 have HCI:Hid (CompI w8 X (G+1) n m (zA xs) 0 0 (some ⟨G+1,0,none⟩) 0):=Lib.hid ⟨ha8,L2,[],by unfold lcCells;rw [HL2.out.1,HL2.out.2];exact HX7.out.only0 o8,(Hown7.out.1.only0 o8).weaken (by omega),fun g hg hm=>by
  have h9:=Hown7.out.2.2.1 g hm
  simp [blk] at hg
  omega,by rw [Hown7.out.2.2.2];exact cU0_ok,Hown7.out.2.2.2,PsI.start _ _ _ _⟩
 have HO78:Hid (Only [X] w7 w8):=Lib.hid (o8.mono (by simp));clear hw8 o8 ha8 HX7 Hown7 HL2;go_wp2_with fail
 go_loopw [13,12,11] (fun a sa st wl=>∃ (i k ka:Nat) (pa:Option Addr) (tot:Int),a=.int .i64 (i:Int)∧sa=.slice pa k ka∧st=.int .i64 tot∧i≤n+m∧Hid (k=i - m∧tot=totA (zA xs) k)∧Hid (CompI wl X (G+1) n m (zA xs) i k pa ka)∧Hid (Only [X] w7 wl)) (fun a _ _ _=>n+m - (intOf a).toNat)
 case atStart=>exact ⟨0,0,0,_,0,rfl,rfl,rfl,Nat.zero_le _,Lib.hid ⟨by omega,rfl⟩,HCI,HO78⟩
 case round =>
  clear HCI HO78;obtain ⟨i,k,ka,pa,tot,rfl,rfl,rfl,hi,HK,HI,HOl⟩:=hrel;obtain ⟨wq,rfl⟩:∃ wq,wq=wr:=⟨_,rfl⟩;have hO7:Only [] w0 wq:=HO7.out.transN HOl.out (by intro k hk;rw [List.mem_singleton.1 hk];omega);have HOq:=Lib.hid hO7;clear hO7
  by_cases hlt:i < n+m
  ·have hlI:(i:Int) < (n:Int)+(m:Int):=by omega
   go_upto_if 65 with (fail)
   go_cut [14,12,11] (fun sp sa st wx=>∃ (pt k ka:Nat) (pa:Option Addr) (tot:Int),sp=.int .i64 (pt:Int)∧sa=.slice pa k ka∧st=.int .i64 tot∧pt < n∧Hid (k=i+1 - m∧tot=totA (zA xs) k∧(i < m∨i=m+pt))∧Hid (OwnK wx (G+1) 3 1 (.slice pa k ka) k ((allN k).flatMap intC))∧Hid (∃ L ps,Row wx X 29 (lcCells L)∧CatOwn wx (X+1) L∧(∀ g∈blk pa,g ∉ L.fp)∧CatOk L.cat∧L.cat=cU ps∧PsI etA n m (zA xs) i ps)∧Hid (Only [X] w7 wx))
   case first =>
    have HKo:=Lib.hid HK.out
    by_cases him:i < m
    ·have himI:(i:Int) < (m:Int):=(by omega);obtain ⟨v,hv⟩:∃ v,os[i]?=some v:=⟨_,List.getElem?_eq_getElem (by rw [HQ.out.1];exact him)⟩;have hrd:=HQ.out.2.only0 HOq.out;have hne:i64s os≠[]:=fun e'=>(by have h9:(i64s os)[i]?=some (.int .i64 v):=(by unfold i64s;rw [List.getElem?_map,hv];rfl);rw [e'] at h9;cases h9);obtain ⟨bq,off,rfl,-⟩:=hrd.lt hne;have dv:=hrd.cells i _ (show (i64s os)[i]?=some (.int .i64 v) by unfold i64s;rw [List.getElem?_map,hv];rfl);rw [Addr.add_lit] at dv
     obtain ⟨pt,hpl,hpv⟩:∃ pt:Nat,pt < n∧(wrap64 (v.tmod (n:Int)+(n:Int))).tmod (n:Int)=(pt:Int):=by
      have h9:=rem_mod v (k:=n) (by have:=Hn0.out;omega) (by omega);exact ⟨((wrap64 (v.tmod (n:Int)+(n:Int))).tmod (n:Int)).toNat,by omega,by omega⟩
     have hnz:¬ ((n:Int)=0):=(by have:=Hn0.out;omega);have hnzb:((n:Int) == 0)=false:=beq_eq_false_iff_ne.2 hnz;have Hp:=Lib.hid hpl;clear hv hrd hne hpl;go_wp2_with fail
     go_meet
     exact ⟨pt,k,ka,pa,tot,rfl,rfl,rfl,Hp.out,Lib.hid ⟨by have:=HKo.out.1;omega,HKo.out.2,.inl him⟩,Lib.hid HI.out.1,Lib.hid HI.out.2,HOl⟩
    ·have himI:¬ ((i:Int) < (m:Int)):=(by omega);obtain ⟨pt,hp⟩:∃ pt,i=m+pt:=⟨i - m,by omega⟩;have hpn:pt < n:=(by omega);obtain rfl:k=pt:=(by have:=HK.out.1;omega);have hsub:(i:Int) - (m:Int)=(k:Int):=(by omega);have Hpp:=Lib.hid (And.intro hp hpn);have hk16:k < 16:=(by omega);have hXG1:X < G:=(by omega);obtain ⟨v,hv⟩:∃ v,xs[k]?=some v:=⟨_,List.getElem?_eq_getElem (by rw [HX.out.1];have:=HN.out.1;omega)⟩;have hs7:w7.heap.size=G+1:=Hs7.out;obtain ⟨p',k',w3,Hap,hown,ho3,hat⟩:=pushK (P:=Tryz.prog) (t:=34) (ty:=34) Tryz.underlying34 Tryz.infoI64c rfl (by omega) intC_len intC_one (allN k) ((k:Int)+1) HI.out.1 (by have:=HOl.out.size;omega) (by omega) (by omega)
     unfold intC at Hap;have hown2:OwnK w3 (G+1) 3 1 (.slice p' (k+1) k') (k+1) ((allN (k+1)).flatMap intC):=(by rw [allN_succ];exact hown);have HA2:=Lib.hid hown2;have hbl:∀ g∈blk pa,G+1≤g∧g < wq.heap.size:=ownIn HI.out.1;have HO3:Hid (Only [X] w7 w3):=Lib.hid (HOl.out.transN ho3 (fun g hg=>by rw [hs7];exact (hbl g hg).1));have ho03:Only [] w0 w3:=HO7.out.transN HO3.out (by intro k hk;rw [List.mem_singleton.1 hk];omega)
     have HC2:Hid (∃ L ps,Row w3 X 29 (lcCells L)∧CatOwn w3 (X+1) L∧(∀ g∈blk p',g ∉ L.fp)∧CatOk L.cat∧L.cat=cU ps∧PsI etA n m (zA xs) i ps):=Lib.hid (by
      obtain ⟨L,ps,h1,h2,h3,h4,h5,h6⟩:=HI.out.2;refine ⟨L,ps,h1.only ho3 (fun hm=>by have:=(hbl X hm).1;omega),h2.only ho3 (fun z hz hm=>h3 z hm hz),fun g hg hm=>?_,h4,h5,h6⟩
      rcases hat with e | ⟨g',e,hlt'⟩
      ·rw [e] at hg;exact h3 g hg hm
      ·rw [e] at hg
       simp [blk] at hg
       have:=(h2.lo g hm).2
       omega)
     have hrd:=HX.out.2.only0 ho03;have hne:i64s xs≠[]:=fun e'=>(by have h9:(i64s xs)[k]?=some (.int .i64 v):=(by unfold i64s;rw [List.getElem?_map,hv];rfl);rw [e'] at h9;cases h9);obtain ⟨bq,off,rfl,-⟩:=hrd.lt hne;have dv:=hrd.cells k _ (show (i64s xs)[k]?=some (.int .i64 v) by unfold i64s;rw [List.getElem?_map,hv];rfl);rw [Addr.add_lit] at dv;obtain ⟨zz,hzz⟩:∃ zz,(wrap64 (v.tmod 1025+1025)).tmod 1025=zz:=⟨_,rfl⟩;have hza:zA xs k=zz:=(by unfold zA;rw [List.getD_eq_getElem?_getD,hv];exact hzz);have hz0:=zA_range xs k;rw [hza] at hz0;have ht0:=totA_range (zA_range xs) k
     rw [← HK.out.2] at ht0;have hkls:(k:Int) < (ls:Int):=(by have:=HN.out.1;omega);have HT:Hid (tot+zz=totA (zA xs) (k+1)):=Lib.hid (by rw [HK.out.2,← hza];rfl);clear hown hown2 hbl ho3 hat ho03 hrd hne hv hza hp hpn hs7 HI HOl HK HKo HOq
     go_wp2_with (first | (at_builtin;refine wpl_append (s:=.tmp 80) (x:=.tmp 83) rfl rfl rfl rfl Hap.out ?_))
     go_meet
     exact ⟨k,k+1,k',p',tot+zz,rfl,rfl,rfl,Hpp.out.2,Lib.hid ⟨by have:=Hpp.out.1;omega,HT.out,.inr Hpp.out.1⟩,HA2,HC2,HO3⟩
   case rest =>
    clear HOq HI HOl HK;obtain ⟨pt,k,ka,pa,tot,rfl,rfl,rfl,hp,HK,HA,HI,HOl⟩:=hcut;obtain ⟨wk,rfl⟩:∃ wk,wk=wc:=⟨_,rfl⟩;have hp16:pt < 16:=(by omega);obtain ⟨v,hv⟩:∃ v,xs[pt]?=some v:=⟨_,List.getElem?_eq_getElem (by rw [HX.out.1];have:=HN.out.1;omega)⟩;have hok0:Only [] w0 wk:=HO7.out.transN HOl.out (by intro k hk;rw [List.mem_singleton.1 hk];omega);have hrd:=HX.out.2.only0 hok0;have hne:i64s xs≠[]:=fun e'=>(by have h9:(i64s xs)[pt]?=some (.int .i64 v):=(by unfold i64s;rw [List.getElem?_map,hv];rfl);rw [e'] at h9;cases h9);obtain ⟨bq,off,rfl,-⟩:=hrd.lt hne
    have dv:=hrd.cells pt _ (show (i64s xs)[pt]?=some (.int .i64 v) by unfold i64s;rw [List.getElem?_map,hv];rfl);rw [Addr.add_lit] at dv;obtain ⟨zz,hzz⟩:∃ zz,(wrap64 (v.tmod 1025+1025)).tmod 1025=zz:=⟨_,rfl⟩;have hza:zA xs pt=zz:=(by unfold zA;rw [List.getD_eq_getElem?_getD,hv];exact hzz);have hz0:=zA_range xs pt;rw [hza] at hz0;have hkls:(pt:Int) < (ls:Int):=(by have:=HN.out.1;omega);have Hza:=Lib.hid hza;have Hhzz:=Lib.hid hzz;have Hok0:=Lib.hid hok0;have HD:=Lib.hid dv;clear hv hrd hne hza hok0 dv hzz
    go_upto_region 22 with (fail)
    obtain ⟨wb,hwb⟩:∃ wb,wb=wk.alloc (.cells #[.int .i64 2,.int .i64 0,.int .i64 (i:Int)] 31):=⟨_,rfl⟩;have ob:Only [] wk wb:=(by rw [hwb];exact Only.alloc _ _);have sb:wb.heap.size=wk.heap.size+1:=(by rw [hwb];simp);have rb:Row wb wk.heap.size 31 [.int .i64 2,.int .i64 0,.int .i64 (i:Int)]:=(by rw [hwb];exact Row.newOf _ _ _ _ rfl);rw [← hwb];obtain ⟨E,hE⟩:∃ E,wk.heap.size=E:=⟨_,rfl⟩;rw [hE] at rb ⊢;obtain ⟨L,ps,hrow,hown,hdis,hok,hcat,hps⟩:=HI.out;obtain ⟨nb,hnb⟩:∃ k,L.bs.length=k:=⟨_,rfl⟩;obtain ⟨nf,hnf⟩:∃ k,L.fs.length=k:=⟨_,rfl⟩
    have hLV:lcV L=.agg #[.slice L.pb nb L.cb,.slice L.pf nf L.cf]:=(by unfold lcV;rw [hnb,hnf]);have hrowX:Row wb X 29 [.slice L.pb nb L.cb,.slice L.pf nf L.cf]:=(by rw [← hnb,← hnf];exact hrow.only0 ob);have HRX:=Lib.hid hrowX;have HRI:=Lib.hid ((HI7.out.only HOl.out (by simp)).only0 ob);have HRB:=Lib.hid rb;have HRD:=Lib.hid (ob.cell HD.out (by simp));obtain ⟨ps2,hps2⟩:∃ q,putL CPart.num ltZ ps ((pt:Int)+1) (ptA etA pt i zz)=q:=⟨_,rfl⟩;have hptok:=ptC_ok (p:=pt) (i:=i) etA_len hp16 hz0;have hres:apply smL L.cat (ptC etA pt i zz)=(cU ps2,⟨0,etA⟩):=by rw [hcat,app_ptC,hps2]
    have hok2:CatOk (cU ps2):=by have h9:=apply_ok smL smL_len hok hptok;rw [hres] at h9;exact h9
    have hps3:PsI etA n m (zA xs) (i+1) ps2:=by
     rw [← hps2,← Hza.out]
     rcases HK.out.2.2 with h1 | h1
     ·exact hps.any h1 pt _
     ·rw [h1] at hps ⊢;exact hps.each
    have Hcall:Hid (∀ w,Only [] wb w→Calls Tryz.prog 16 #[.agg #[.slice L.pb nb L.cb,.slice L.pf nf L.cf],.agg #[.int .i64 6,.int .i64 2,.int .i64 0,.int .i64 (i:Int),.string ⟨#[97,97,97]⟩,.string ⟨#[107]⟩,.int .i64 1,.int .i64 0,.int .i64 1,.int .i64 2,.int .i64 0,.int .i64 (i:Int),.int .i64 zz,.string eT,.int .i64 ((pt:Int)+1),.slice none 0 0,.int .i64 0,.int .i64 0]] w (fun e w'=>∃ L' oc,e=.returned (.tuple #[lcV L',oucV oc])∧CatOwn w' w.heap.size L'∧(L'.cat,oc)=(cU ps2,(⟨0,etA⟩:Outc))∧Only [] w w')):=Lib.hid (fun w hw=>by
     have hap:=catApply_any L ⟨ptC etA pt i zz,none,0⟩ w ((hown.only0 ob).only0 hw).at hok hptok (.nil _);rw [hLV,show lmV ⟨ptC etA pt i zz,none,0⟩=.agg #[.int .i64 6,.int .i64 2,.int .i64 0,.int .i64 (i:Int),.string ⟨#[97,97,97]⟩,.string ⟨#[107]⟩,.int .i64 1,.int .i64 0,.int .i64 1,.int .i64 2,.int .i64 0,.int .i64 (i:Int),.int .i64 zz,.string eT,.int .i64 ((pt:Int)+1),.slice none 0 0,.int .i64 0,.int .i64 0] by rw [← HeT.out];rfl] at hap;refine hap.mono ?_;rintro e w' ⟨L',oc,h1,h2,h3,h4⟩
     exact ⟨L',oc,h1,h2,h3.trans hres,h4⟩)
    have HE2:Hid (CatOk (cU ps2)∧PsI etA n m (zA xs) (i+1) ps2):=Lib.hid ⟨hok2,hps3⟩;have Hwb:=Lib.hid (And.intro ob (show wk.heap.size≤wb.heap.size from ob.size));clear hwb ob sb rb hE HI hrow hown hdis hok hcat hps hnb hnf hLV hrowX hps2 hptok hres hok2 hps3;have hRr:∀ x,Below wb.heap.size x x:=fun x=>Below.refl _ _;have hRt:∀ x b e,Below wb.heap.size x b→Below wb.heap.size b e→Below wb.heap.size x e:=fun x b e h h2=>h.trans h2;have hRd:Below wb.heap.size wb wb.drew:=(Only.drew _).below
    have hRs:∀ j w,DirtR [(22,TO wb.heap.size 29),(23,TO wb.heap.size 38)] j w w:=DirtR.refl (by
     intro x hx w;simp only [List.mem_cons,List.not_mem_nil,or_false] at hx
     rcases hx with rfl | rfl
     ·exact TO.refl _ _ _
     ·exact TO.refl _ _ _)
    refine wp_region_rg6 (Below wb.heap.size) (DirtR [(22,TO wb.heap.size 29),(23,TO wb.heap.size 38)]) [[(7,none)],[(15,none)],[(9,none)],[(14,none)],[(100,some 0)],[(15,none)],[(0,none)],[(14,none)],[(103,some 1),(104,some 0)],[(105,some 0)],[(106,some 0)],[(107,some 0)],[(108,some 0)],[(6,none)],[(102,some 8),(109,some 1),(110,some 0)],[(98,some 13),(99,some 12),(101,some 10),(111,some 0)],[(97,some 15),(112,some 0)],[(113,some 0)],[(96,some 0)],[(96,some 1)],[],[],[(16,some 1),(114,some 3)],[(17,some 1),(115,some 3)]] [] [(16,1),(17,0)] [none,none,none,none,none,none,none,none,none,none,none,none,none,none,none,none,some 16,some 17,none,none,none,none,none,none,none,none,none,none,none,none,none,none,none,none,none,none,none,none,none,none,none,none,none,none,none,none,none,none,none,none,none,none,none,none,none,none,none,none,none,none,none,none,none,none,none,none,none,none,none,none,none,none,none,none,none,none,none,none,none,none,none,none,none,none,none,none,none,none,none,none,none,none,none,none,none,none,some 96,some 97,some 98,some 99,some 100,some 101,some 102,some 103,some 104,some 105,some 106,some 107,some 108,some 109,some 110,some 111,some 112,some 113,some 114,some 115,none,none,none,none,none,none,none,none,none,none,none,none,none,none,none,none,none,none,none,none,none,none,none,none,none,none,none,none,none,none,none,none,none,none,none,none,none,none,none,none,none,none,none,none,none,none,none,none,none,none,none,none,none,none,none,none,none,none,none,none,none,none,none,none,none,none,none,none,none,none,none,none,none,none,none,none,none,none,none,none,none] (by kernel_rfl) rfl (by kernel_rfl) hRr hRt hRs hRd (by kernel_rfl) ?_
    apply rgl_ev rfl
    ·rintro a w hR ⟨(e7:_=_),-⟩;refine rg_plain rfl fun K hK=>?_;have hr:=HRX.out.only0 (Only.ofBelow hR);have a0:=hr.cell (i:=0) rfl;have a1:=hr.cell (i:=1) rfl;go_simp;exact hK _ _ rfl ⟨hRr _,hRs _ _⟩
    apply rgl_ev rfl
    ·rintro a w hR ⟨(e15:_=_),-⟩;refine rg_plain rfl fun K hK=>?_;have hr:=HRB.out.only0 (Only.ofBelow hR);have a0:=hr.cell (i:=0) rfl;have a1:=hr.cell (i:=1) rfl;have a2:=hr.cell (i:=2) rfl;go_simp;exact hK _ _ rfl ⟨hRr _,hRs _ _⟩
    apply rgl_ev rfl
    ·rintro a w hR ⟨(e9:_=_),-⟩;refine rg_plain rfl fun K hK=>?_;have hr:=HRI.out.only0 (Only.ofBelow hR);have a0:=hr.cell (i:=0) rfl;have a1:=hr.cell (i:=1) rfl;have a2:=hr.cell (i:=2) rfl;go_simp;exact hK _ _ rfl ⟨hRr _,hRs _ _⟩
    apply rgl_ev rfl
    ·rintro a w hR ⟨(e14:_=_),-⟩;refine rg_plain rfl fun K hK=>?_;go_simp;exact hK _ _ rfl ⟨hRr _,hRs _ _⟩
    apply rgl_ev rfl
    ·rintro a w hR ⟨(e100:_=_),-⟩;refine rg_plain rfl fun K hK=>?_;have hp4:IntKind.i64.wrap ((pt:Int)+1)=(pt:Int)+1:=(by rw [IntKind.wrap_i64];omega);go_simp;exact hK _ _ rfl ⟨hRr _,hRs _ _⟩
    apply rgl_ev rfl
    ·rintro a w hR ⟨(e15:_=_),-⟩;refine rg_plain rfl fun K hK=>?_;have hr:=HRB.out.only0 (Only.ofBelow hR);have a0:=hr.cell (i:=0) rfl;have a1:=hr.cell (i:=1) rfl;have a2:=hr.cell (i:=2) rfl;go_simp;exact hK _ _ rfl ⟨hRr _,hRs _ _⟩
    apply rgl_ev rfl
    ·rintro a w hR ⟨(e0:_=_),-⟩;refine rg_plain rfl fun K hK=>?_;go_simp;exact hK _ _ rfl ⟨hRr _,hRs _ _⟩
    apply rgl_ev rfl
    ·rintro a w hR ⟨(e14:_=_),-⟩;refine rg_plain rfl fun K hK=>?_;go_simp;exact hK _ _ rfl ⟨hRr _,hRs _ _⟩
    apply rgl_ev rfl
    ·rintro a w hR ⟨(e103:_=_),(e104:_=_),-⟩;refine rg_plain rfl fun K hK=>?_;go_simp;exact hK _ _ rfl ⟨hRr _,hRs _ _⟩
    apply rgl_ev rfl
    ·rintro a w hR ⟨(e105:_=_),-⟩;refine rg_plain rfl fun K hK=>?_;have a0:=(Only.ofBelow hR).cell HRD.out (by simp);go_simp;exact hK _ _ rfl ⟨hRr _,hRs _ _⟩
    apply rgl_ev rfl
    ·rintro a w hR ⟨(e106:_=_),-⟩;refine rg_plain rfl fun K hK=>?_;go_simp;exact hK _ _ rfl ⟨hRr _,hRs _ _⟩
    apply rgl_ev rfl
    ·rintro a w hR ⟨(e107:_=_),-⟩;refine rg_plain rfl fun K hK=>?_;go_simp;exact hK _ _ rfl ⟨hRr _,hRs _ _⟩
    apply rgl_ev rfl
    ·rintro a w hR ⟨(e108:_=_),-⟩;refine rg_plain rfl fun K hK=>?_;have hzz:(IntKind.i64.wrap (v.tmod 1025+1025)).tmod 1025=zz:=(by have h9:=Hhzz.out;rw [IntKind.wrap_i64];unfold wrap64 at h9;exact h9);go_simp;exact hK _ _ rfl ⟨hRr _,hRs _ _⟩
    apply rgl_ev rfl
    ·rintro a w hR ⟨(e6:_=_),-⟩;refine rg_plain rfl fun K hK=>?_;go_simp;exact hK _ _ rfl ⟨hRr _,hRs _ _⟩
    apply rgl_ev rfl
    ·rintro a w hR ⟨(e102:_=_),(e109:_=_),(e110:_=_),-⟩;refine rg_plain rfl fun K hK=>?_;have e102':=e102;rw [Array.getD_eq_getD_getElem?] at e102';have e109':=e109;rw [Array.getD_eq_getD_getElem?] at e109';have e110':=e110;rw [Array.getD_eq_getD_getElem?] at e110';go_simp;exact hK _ _ rfl ⟨hRr _,hRs _ _⟩
    apply rgl_ev rfl
    ·rintro a w hR ⟨(e98:_=_),(e99:_=_),(e101:_=_),(e111:_=_),-⟩;refine rg_plain rfl fun K hK=>?_;have e98':=e98;rw [Array.getD_eq_getD_getElem?] at e98';have e99':=e99;rw [Array.getD_eq_getD_getElem?] at e99';have e101':=e101;rw [Array.getD_eq_getD_getElem?] at e101';have e111':=e111;rw [Array.getD_eq_getD_getElem?] at e111';go_simp;exact hK _ _ rfl ⟨hRr _,hRs _ _⟩
    refine rgl_at (ApS wb.heap.size (cU ps2,(⟨0,etA⟩:Outc))) (stands5_of ApS.stable (by intro x hx hk;simp only [List.mem_cons,List.not_mem_nil,or_false] at hx;rcases hx with rfl | rfl <;> first | (refine (show Stable (TO wb.heap.size 29) (ApS wb.heap.size (cU ps2,(⟨0,etA⟩:Outc))) from ApS.to (.inl rfl));done) | (refine (show Stable (TO wb.heap.size 38) (ApS wb.heap.size (cU ps2,(⟨0,etA⟩:Outc))) from ApS.to (.inr rfl));done) | exact Bool.noConfusion (hk.symm.trans (by kernel_rfl:_=true)))) rfl (fun a w hR hf=>?_) ?_
    ·obtain ⟨e97,e112,-⟩:=hf;replace e97:a.tmps.getD 97 undef=_:=e97;replace e112:a.tmps.getD 112 undef=_:=e112;refine rg_plain rfl fun K hK=>?_;go_simp;(with_reducible refine (Hcall.out w (Only.ofBelow hR)).mono ?_);rintro e w' ⟨L',oc,rfl,hown,hres,ho⟩;exact hK _ _ ⟨L',oc,rfl,hres,hown.weaken hR.size⟩ ⟨ho.below.mono hR.size,ho⟩
    refine rgl_at (ApS wb.heap.size (cU ps2,(⟨0,etA⟩:Outc))) (stands5_of ApS.stable (by intro x hx hk;simp only [List.mem_cons,List.not_mem_nil,or_false] at hx;rcases hx with rfl | rfl <;> first | (refine (show Stable (TO wb.heap.size 29) (ApS wb.heap.size (cU ps2,(⟨0,etA⟩:Outc))) from ApS.to (.inl rfl));done) | (refine (show Stable (TO wb.heap.size 38) (ApS wb.heap.size (cU ps2,(⟨0,etA⟩:Outc))) from ApS.to (.inr rfl));done) | exact Bool.noConfusion (hk.symm.trans (by kernel_rfl:_=true)))) rfl (fun a w hR hf=>?_) ?_
    ·obtain ⟨e113,-⟩:=hf;replace e113:ApS wb.heap.size (cU ps2,(⟨0,etA⟩:Outc)) (a.tmps.getD 113 undef) w:=e113;refine rg_plain rfl fun K hK=>?_;generalize hv113:a.tmps.getD 113 undef=v113 at e113;go_simp;exact hK _ _ e113 ⟨hRr _,hRs _ _⟩
    refine rgl_at (CtS wb.heap.size (cU ps2,(⟨0,etA⟩:Outc))) (stands5_of CtS.stable (by intro x hx hk;simp only [List.mem_cons,List.not_mem_nil,or_false] at hx;rcases hx with rfl | rfl <;> first | (refine (show Stable (TO wb.heap.size 38) (CtS wb.heap.size (cU ps2,(⟨0,etA⟩:Outc))) from CtS.to (.inr rfl));done) | exact Bool.noConfusion (hk.symm.trans (by kernel_rfl:_=true)))) rfl (fun a w hR hf=>?_) ?_
    ·obtain ⟨e96,-⟩:=hf;replace e96:ApS wb.heap.size (cU ps2,(⟨0,etA⟩:Outc)) (a.tmps.getD 96 undef) w:=e96;refine rg_plain rfl fun K hK=>?_;obtain ⟨L',oc,e96,hres,hown⟩:=e96;go_simp;exact hK _ _ ⟨L',rfl,congrArg Prod.fst hres,hown⟩ ⟨hRr _,hRs _ _⟩
    refine rgl_at (OuS (cU ps2,(⟨0,etA⟩:Outc))) (stands5_of OuS.any (by intro x hx hk;simp only [List.mem_cons,List.not_mem_nil,or_false] at hx;rcases hx with rfl | rfl <;> first | (refine (show Stable (TO wb.heap.size 29) (OuS (cU ps2,(⟨0,etA⟩:Outc))) from OuS.any);done) | (refine (show Stable (TO wb.heap.size 38) (OuS (cU ps2,(⟨0,etA⟩:Outc))) from OuS.any);done) | exact Bool.noConfusion (hk.symm.trans (by kernel_rfl:_=true)))) rfl (fun a w hR hf=>?_) ?_
    ·obtain ⟨e96,-⟩:=hf;replace e96:ApS wb.heap.size (cU ps2,(⟨0,etA⟩:Outc)) (a.tmps.getD 96 undef) w:=e96;refine rg_plain rfl fun K hK=>?_;obtain ⟨L',oc,e96,hres,hown⟩:=e96;go_simp;exact hK _ _ (congrArg (fun x:Cat × Outc=>oucV x.2) hres) ⟨hRr _,hRs _ _⟩
    refine rgl_at (PtrT wb.heap.size 29 [.slice none 0 0,.slice none 0 0]) (stands5_of PtrT.stable (by intro x hx hk;simp only [List.mem_cons,List.not_mem_nil,or_false] at hx;rcases hx with rfl | rfl <;> first | (refine (show Stable (TO wb.heap.size 38) (PtrT wb.heap.size 29 [.slice none 0 0,.slice none 0 0]) from PtrT.to (by decide));done) | exact Bool.noConfusion (hk.symm.trans (by kernel_rfl:_=true)))) rfl (fun a w hR hf=>?_) ?_
    ·refine rg_plain rfl fun K hK=>?_;go_simp;exact hK _ _ ⟨w.heap.size,rfl,hR.size,Row.newOf _ _ _ _ (by rfl)⟩ ⟨(Only.alloc w _).below.mono hR.size,Only.alloc w _⟩
    refine rgl_at (PtrT wb.heap.size 38 [.int .i64 0,.string ⟨#[]⟩]) (stands5_of PtrT.stable (by intro x hx hk;simp only [List.mem_cons,List.not_mem_nil,or_false] at hx;rcases hx with rfl | rfl <;> first | (refine (show Stable (TO wb.heap.size 29) (PtrT wb.heap.size 38 [.int .i64 0,.string ⟨#[]⟩]) from PtrT.to (by decide));done) | exact Bool.noConfusion (hk.symm.trans (by kernel_rfl:_=true)))) rfl (fun a w hR hf=>?_) ?_
    ·refine rg_plain rfl fun K hK=>?_;go_simp;exact hK _ _ ⟨w.heap.size,rfl,hR.size,Row.newOf _ _ _ _ (by rfl)⟩ ⟨(Only.alloc w _).below.mono hR.size,Only.alloc w _⟩
    refine rgl_store (t:=16) (PtrC wb.heap.size (cU ps2,(⟨0,etA⟩:Outc))) (stands5_of PtrC.stable (by intro x hx hk;simp only [List.mem_cons,List.not_mem_nil,or_false] at hx;rcases hx with rfl | rfl <;> first | (refine (show Stable (TO wb.heap.size 38) (PtrC wb.heap.size (cU ps2,(⟨0,etA⟩:Outc))) from PtrC.to);done) | exact Bool.noConfusion (hk.symm.trans (by kernel_rfl:_=true)))) rfl (fun a w hR hf=>?_) ?_
    ·obtain ⟨e16,e114,-⟩:=hf;replace e16:PtrT wb.heap.size 29 [.slice none 0 0,.slice none 0 0] (a.tmps.getD 16 undef) w:=e16;replace e114:CtS wb.heap.size (cU ps2,(⟨0,etA⟩:Outc)) (a.tmps.getD 114 undef) w:=e114;refine rg_plain rfl fun K hK=>?_;obtain ⟨g,e16,hg,r⟩:=e16;obtain ⟨L',e114,hcat,hown⟩:=e114;have hst:=r.storeAt (P:=Tryz.prog) (us:=lcCells L') lcInfo rfl (lcCells_one L');have hos:=Only.setRow w g (lcCells L').toArray;have hTo:TO wb.heap.size 29 w (w.setRow g (lcCells L').toArray):=⟨[g],hos,fun z hz=>by rw [List.mem_singleton.1 hz];exact ⟨hg,Ty.row r⟩⟩
     exact rg_store (x:=.tmp 16) (y:=.tmp 114) rfl e16 e114 hst (show K a _ from hK (a.tmps.getD 16 undef) _ ⟨rfl,g,L',e16,hg,r.setRow _,hcat,hown.to (.inl rfl) hTo⟩ ⟨hos.belowOf hR.size (by intro x hx;obtain rfl:=List.mem_singleton.1 hx;exact hg),hTo⟩)
    refine rgl_store (t:=17) (PtrT wb.heap.size 38 (oucCells ((cU ps2,(⟨0,etA⟩:Outc))).2)) (stands5_of PtrT.stable (by intro x hx hk;simp only [List.mem_cons,List.not_mem_nil,or_false] at hx;rcases hx with rfl | rfl <;> first | (refine (show Stable (TO wb.heap.size 29) (PtrT wb.heap.size 38 (oucCells ((cU ps2,(⟨0,etA⟩:Outc))).2)) from PtrT.to (by decide));done) | exact Bool.noConfusion (hk.symm.trans (by kernel_rfl:_=true)))) rfl (fun a w hR hf=>?_) ?_
    ·obtain ⟨e17,e115,-⟩:=hf;replace e17:PtrT wb.heap.size 38 [.int .i64 0,.string ⟨#[]⟩] (a.tmps.getD 17 undef) w:=e17;replace e115:OuS (cU ps2,(⟨0,etA⟩:Outc)) (a.tmps.getD 115 undef) w:=e115;refine rg_plain rfl fun K hK=>?_;obtain ⟨g,e17,hg,r⟩:=e17;have hst:=r.storeAt (P:=Tryz.prog) (us:=oucCells ((cU ps2,(⟨0,etA⟩:Outc))).2) oucInfo rfl (by intro u hu;simp only [oucCells,List.mem_cons,List.not_mem_nil,or_false] at hu;rcases hu with rfl | rfl <;> rfl);have hos:=Only.setRow w g (oucCells ((cU ps2,(⟨0,etA⟩:Outc))).2).toArray;have hTo:TO wb.heap.size 38 w (w.setRow g (oucCells ((cU ps2,(⟨0,etA⟩:Outc))).2).toArray):=⟨[g],hos,fun z hz=>by rw [List.mem_singleton.1 hz];exact ⟨hg,Ty.row r⟩⟩
     exact rg_store (x:=.tmp 17) (y:=.tmp 115) rfl e17 e115 hst (show K a _ from hK (a.tmps.getD 17 undef) _ ⟨rfl,g,e17,hg,r.setRow _⟩ ⟨hos.belowOf hR.size (by intro x hx;obtain rfl:=List.mem_singleton.1 hx;exact hg),hTo⟩)
    intro f22 w22 hR22 hf hl22;dsimp only [mergeT];obtain ⟨l16,l17,-⟩:=hl22;replace l16:PtrC wb.heap.size (cU ps2,(⟨0,etA⟩:Outc)) (f22 16) w22:=l16;replace l17:PtrT wb.heap.size 38 (oucCells ((cU ps2,(⟨0,etA⟩:Outc))).2) (f22 17) w22:=l17;obtain ⟨D,L8,e16,hD,hrowD,hcat8,hown8⟩:=l16;obtain ⟨O,e17,hO,hrowO⟩:=l17;rw [e16,e17];have obw:Only [] wb w22:=Only.ofBelow hR22;obtain ⟨nb8,hnb8⟩:∃ k,L8.bs.length=k:=⟨_,rfl⟩;obtain ⟨nf8,hnf8⟩:∃ k,L8.fs.length=k:=⟨_,rfl⟩;have hrowD':Row w22 D 29 [.slice L8.pb nb8 L8.cb,.slice L8.pf nf8 L8.cf]:=by rw [← hnb8,← hnf8];exact hrowD
    have hrowO':Row w22 O 38 [.int .i64 0,.string (str etA)]:=hrowO;have hrowX:=HRX.out.only0 obw;have d0:=hrowD'.cell (i:=0) rfl;have d1:=hrowD'.cell (i:=1) rfl;have g0:=hrowO'.cell (i:=0) rfl;have a0:=hrowX.cell (i:=0) rfl;have a1:=hrowX.cell (i:=1) rfl;have f0:=hrowX.free 0;have f1:=hrowX.free 1;obtain ⟨wz,hwz⟩:∃ wz,wz=(w22.setCell ⟨X,0,none⟩ (.slice L8.pb nb8 L8.cb)).setCell ⟨X,1,none⟩ (.slice L8.pf nf8 L8.cf):=⟨_,rfl⟩;have hrz:=hrowX.set2 (.slice L8.pb nb8 L8.cb) (.slice L8.pf nf8 L8.cf);have hst:=only_set2 w22 X (.slice L8.pb nb8 L8.cb) (.slice L8.pf nf8 L8.cf)
    rw [← hwz] at hrz hst;have hXb:X < wb.heap.size:=HRX.out.lt;have hlo8:∀ k∈L8.fp,wb.heap.size≤k:=fun k hk=>(hown8.lo k hk).1;have hs7:w7.heap.size=G+1:=Hs7.out;have hbl:∀ g∈blk pa,G+1≤g∧g < wk.heap.size:=ownIn HA.out
    have HI2:Hid (CompI wz X (G+1) n m (zA xs) (i+1) k pa ka):=Lib.hid ⟨((HA.out.only0 Hwb.out.1).only0 obw).onlyB hst (fun z hz hm=>by have:=(hbl z hz).1;rw [List.mem_singleton.1 hm] at this;omega),L8,ps2,by unfold lcCells;rw [hnb8,hnf8];exact hrz,(hown8.only hst (fun z hz hm=>by have:=hlo8 z hz;rw [List.mem_singleton.1 hm] at this;omega)).weaken (by omega),fun g hg hm=>by
     have h1:=(hbl g hg).2;have h2:=hlo8 g hm;have h3:=Hwb.out.2
     omega,by rw [hcat8];exact HE2.out.1,hcat8,HE2.out.2⟩
    have HO2:Hid (Only [X] w7 wz):=Lib.hid ((HOl.out.trans0 (Hwb.out.1.trans0 obw)).trans hst (fun _ h _=>h));have HK2:Hid (k=i+1 - m∧tot=totA (zA xs) k):=Lib.hid ⟨HK.out.1,HK.out.2.1⟩;have Hwz:=Lib.hid hwz;clear hrowD hrowD' hrowO hrowO' hrowX hcat8 hown8 hnb8 hnf8 hrz hst hXb hlo8 hs7 hbl hwz obw hR22 hRr hRt hRd hRs HE2 HK HOl Hcall HA e16 e17;go_wp2_with fail;rw [← Hwz.out];refine ⟨⟨i+1,k,ka,pa,tot,by go_num,rfl,rfl,by omega,HK2,HI2,HO2⟩,?_⟩
    simp [intOf];omega
  ·obtain rfl:i=n+m:=(by omega);have hlI:¬ (((n+m:Nat):Int) < (n:Int)+(m:Int)):=(by omega);obtain rfl:n=k:=(by have:=HK.out.1;omega);obtain ⟨L,ps,hrow,hown,hdis,hok,hcat,hps⟩:=HI.out.2;obtain ⟨pl,hpl⟩:∃ l,pcsA etA n m (zA xs)=l:=⟨_,rfl⟩;have hgat:gather ps (allN n)=some pl:=(by rw [← hpl];exact PsI.gather (by rw [Nat.add_comm m n];exact hps));have hsz:sizes pl=tot:=(by rw [← hpl,totA_sizes];exact HK.out.2.symm);have hpll:pl.length=n:=(by rw [← hpl];simp [pcsA]);have hpat:∀ j,j < n→pl[j]?=some (pcA etA (m+j) (zA xs j)):=fun j hj=>by rw [← hpl];unfold pcsA;rw [List.getElem?_map,List.getElem?_range hj];rfl
   have HP:=Lib.hid (And.intro hpll hpat);obtain ⟨eS,heS⟩:∃ v,str (smL pl)=v:=⟨_,rfl⟩;obtain ⟨nb,hnb⟩:∃ k,L.bs.length=k:=⟨_,rfl⟩;obtain ⟨nf,hnf⟩:∃ k,L.fs.length=k:=⟨_,rfl⟩;have hLV:lcV L=.agg #[.slice L.pb nb L.cb,.slice L.pf nf L.cf]:=(by unfold lcV;rw [hnb,hnf]);have hrowX:Row wq X 29 [.slice L.pb nb L.cb,.slice L.pf nf L.cf]:=(by rw [← hnb,← hnf];exact hrow);have HIq:=Lib.hid (HI7.out.only HOl.out (by simp));have HGq:=Lib.hid (HG7.out.only HOl.out (by simp;omega));have hcok:=coC_ok (n:=n) (by have:=Hn0.out;omega) hn16
   have hcm:CmAt wq ⟨coC n,pa,ka⟩:=by
    have h9:=SlOk.own HI.out.1;rw [intC_flat] at h9;unfold CmAt;rw [show (coC n).parts=allN n from rfl,allN_len];exact h9
   have hap:=catApply_any L ⟨coC n,pa,ka⟩ wq hown.at hok hcok hcm;have hres:apply smL L.cat (coC n)=(bkA [obA smL n pl] [],⟨0,smL pl⟩):=(by rw [hcat,app_coC smL hgat]);have hok2:CatOk (bkA [obA smL n pl] []):=(by have h9:=apply_ok smL smL_len hok hcok;rw [hres] at h9;exact h9);rw [hLV,show lmV ⟨coC n,pa,ka⟩=.agg #[.int .i64 7,.int .i64 0,.int .i64 0,.int .i64 9,.string ⟨#[97,97,97]⟩,.string ⟨#[107]⟩,.int .i64 1,.int .i64 0,.int .i64 1,.int .i64 0,.int .i64 0,.int .i64 0,.int .i64 0,.string ⟨#[]⟩,.int .i64 0,.slice pa n ka,.int .i64 4,.int .i64 0] by unfold lmV;rw [show (coC n).parts=allN n from rfl,allN_len];rfl] at hap
   have HAp:=Lib.hid hap;have HR2:Hid (apply smL L.cat (coC n)=(bkA [obA smL n pl] [],⟨0,smL pl⟩)∧CatOk (bkA [obA smL n pl] [])∧sizes pl=tot):=Lib.hid ⟨hres,hok2,hsz⟩;have HeS:=Lib.hid heS;have a0:=hrowX.cell (i:=0) rfl;have a1:=hrowX.cell (i:=1) rfl;have b0:=HIq.out.cell (i:=0) rfl;have b1:=HIq.out.cell (i:=1) rfl;have b2:=HIq.out.cell (i:=2) rfl;clear hlt hi hrow hown hdis hok hcat hps hpl hgat hsz hpll hpat heS hnb hnf hLV hrowX hcok hcm hap hres hok2 HI HOl HK;go_wp2_with fail;refine HAp.out.mono ?_;rintro e w10 ⟨L9,oc9,rfl,hown9,happ9,o10⟩
   rw [HR2.out.1] at happ9;obtain ⟨hcat9,hoc9⟩:=Prod.mk.inj happ9;subst hoc9;obtain ⟨nb9,hnb9⟩:∃ k,L9.bs.length=k:=⟨_,rfl⟩;obtain ⟨nf9,hnf9⟩:∃ k,L9.fs.length=k:=⟨_,rfl⟩;have hLV9:lcV L9=.agg #[.slice L9.pb nb9 L9.cb,.slice L9.pf nf9 L9.cf]:=(by unfold lcV;rw [hnb9,hnf9]);rw [hLV9,show oucV ⟨0,smL pl⟩=.agg #[.int .i64 0,.string eS] by rw [← HeS.out];rfl];clear HAp a0 a1 b0 b1 b2 happ9
   go_upto_region 27 with (fail)
   obtain ⟨w11,hw11⟩:∃ w11,w11=w10.alloc (.cells #[.slice L9.pb nb9 L9.cb,.slice L9.pf nf9 L9.cf] 29):=⟨_,rfl⟩;have o11:Only [] w10 w11:=(by rw [hw11];exact Only.alloc _ _);have s11:w11.heap.size=w10.heap.size+1:=(by rw [hw11];simp);have r11:Row w11 w10.heap.size 29 [.slice L9.pb nb9 L9.cb,.slice L9.pf nf9 L9.cf]:=(by rw [hw11];exact Row.newOf _ _ _ _ rfl);obtain ⟨w12,hw12⟩:∃ w12,w12=w11.alloc (.cells #[.int .i64 0,.string eS] 38):=⟨_,rfl⟩;have o12:Only [] w11 w12:=(by rw [hw12];exact Only.alloc _ _);have s12:w12.heap.size=w11.heap.size+1:=by rw [hw12];simp
   have r12:Row w12 w11.heap.size 38 [.int .i64 0,.string eS]:=(by rw [hw12];exact Row.newOf _ _ _ _ rfl);rw [← hw11,← hw12];rw [s11] at r12;obtain ⟨D,hD⟩:∃ D,w10.heap.size=D:=⟨_,rfl⟩;rw [hD] at r11 r12 ⊢;have o1012:=o10.trans0 (o11.trans0 o12);have HO12:=Lib.hid (HOq.out.trans0 o1012);have HI12:=Lib.hid (HIq.out.only0 o1012);have HG12:=Lib.hid (HGq.out.only0 o1012);have HD12:=Lib.hid (r11.only0 o12);have HQ12:=Lib.hid r12;have hok9:CatOk L9.cat:=by rw [hcat9];exact HR2.out.2.1
   have hat9:=(hown9.only0 (o11.trans0 o12)).at
   have hob:=catObject_any L9 bsA bsK w12 hat9 hok9;unfold ObjQ at hob;rw [hLV9,hcat9,findO_end] at hob;have Hob:=Lib.hid hob;have HA9:Hid (CatAt w12 L9∧CatOk L9.cat∧L9.cat=bkA [obA smL n pl] []∧lcV L9=.agg #[.slice L9.pb nb9 L9.cb,.slice L9.pf nf9 L9.cf]):=Lib.hid ⟨hat9,hok9,hcat9,hLV9⟩;have d0:=HD12.out.cell (i:=0) rfl;have d1:=HD12.out.cell (i:=1) rfl;clear hw11 hw12 o11 o12 s11 s12 r11 r12 hD o1012 o10 hob hat9 hok9 hcat9 hLV9 hnb9 hnf9 hown9 HIq HGq;go_wp2_with fail;refine Hob.out.mono ?_;rintro e w13 ⟨x,rfl,hxo,hxown,o13⟩;have hxo2:x.o=obA smL n pl:=hxo
   have Hxo:=Lib.hid hxo2;clear hxo hxo2;obtain ⟨xq,hxq⟩:∃ v,x.q=v:=⟨_,rfl⟩;obtain ⟨xc,hxc⟩:∃ v,x.c=v:=⟨_,rfl⟩;rw [show loV x=.agg #[.string ⟨#[107]⟩,.int .i64 tot,.string eS,.int .i64 4,.slice xq n xc] by unfold loV;rw [hxq,hxc,Hxo.out,← HeS.out,← HR2.out.2.2];show Value.agg #[_,_,_,_,.slice xq pl.length xc]=_;rw [HP.out.1];rfl]
   have hpr:Rd w13 xq (pl.flatMap pcCells):=by
    have h9:=(SlOk.own hxown).1;rw [hxq,Hxo.out] at h9;exact h9
   clear Hob d0 d1 hxown hxq hxc
   go_upto_region 28 with (fail)
   obtain ⟨w14,hw14⟩:∃ w14,w14=w13.alloc (.cells #[.string ⟨#[107]⟩,.int .i64 tot,.string eS,.int .i64 4,.slice xq n xc] 48):=⟨_,rfl⟩;have o14:Only [] w13 w14:=(by rw [hw14];exact Only.alloc _ _);have s14:w14.heap.size=w13.heap.size+1:=(by rw [hw14];simp);have r14:Row w14 w13.heap.size 48 [.string ⟨#[107]⟩,.int .i64 tot,.string eS,.int .i64 4,.slice xq n xc]:=(by rw [hw14];exact Row.newOf _ _ _ _ rfl);rw [← hw14];obtain ⟨B,hB⟩:∃ B,w13.heap.size=B:=⟨_,rfl⟩;rw [hB] at r14 ⊢;have o1214:=o13.trans0 o14;have HO14:=Lib.hid (HO12.out.trans0 o1214);have HG14:=Lib.hid (HG12.out.only0 o1214)
   have HQ14:=Lib.hid (HQ12.out.only0 o1214);have HI14:=Lib.hid (HI12.out.only0 o1214);have HD14:=Lib.hid (HD12.out.only0 o1214);have HB14:=Lib.hid r14;have Hpr:=Lib.hid (hpr.only0 o14);have hup:=catUpload_any L9 bsA bsK idU w14 (HA9.out.1.only0 o1214) HA9.out.2.1;unfold UplQ at hup;rw [HA9.out.2.2.2,HA9.out.2.2.1,findU_end] at hup;unfold idV at hup;have Hup:=Lib.hid hup;have d0:=HD14.out.cell (i:=0) rfl;have d1:=HD14.out.cell (i:=1) rfl;have b0:=HI14.out.cell (i:=0) rfl;have b1:=HI14.out.cell (i:=1) rfl;have b2:=HI14.out.cell (i:=2) rfl;clear hw14 o14 s14 r14 hB o13 o1214 hup hpr HO12 HG12 HQ12 HI12 HD12
   go_wp2_with fail;refine Hup.out.mono ?_;rintro e w15 ⟨u,rfl,-,-,o15⟩;obtain ⟨nu,hnu⟩:∃ k,u.u.parts.length=k:=⟨_,rfl⟩;rw [show luV u=.agg #[.int .i64 u.u.id.node,.int .i64 u.u.id.boot,.int .i64 u.u.id.seq,.string (str u.u.key),.slice u.q nu u.c] by unfold luV;rw [hnu]];clear Hup d0 d1 b0 b1 b2 hnu
   go_upto_region 29 with (fail)
   obtain ⟨w16,hw16⟩:∃ w16,w16=w15.alloc (.cells #[.int .i64 u.u.id.node,.int .i64 u.u.id.boot,.int .i64 u.u.id.seq,.string (str u.u.key),.slice u.q nu u.c] 54):=⟨_,rfl⟩;have o16:Only [] w15 w16:=(by rw [hw16];exact Only.alloc _ _);have s16:w16.heap.size=w15.heap.size+1:=(by rw [hw16];simp);have r16:Row w16 w15.heap.size 54 [.int .i64 u.u.id.node,.int .i64 u.u.id.boot,.int .i64 u.u.id.seq,.string (str u.u.key),.slice u.q nu u.c]:=(by rw [hw16];exact Row.newOf _ _ _ _ rfl);rw [← hw16];have o1416:=o15.trans0 o16;have HO16:=Lib.hid (HO14.out.trans0 o1416);have HB16:=Lib.hid (HB14.out.only0 o1416)
   have HQ16:=Lib.hid (HQ14.out.only0 o1416);have HG16:=Lib.hid (HG14.out.only0 o1416);have Hpr16:=Lib.hid (Hpr.out.only0 o1416);have p1:=HB16.out.cell (i:=1) rfl;have p2:=HB16.out.cell (i:=2) rfl;have p3:=HB16.out.cell (i:=3) rfl;have p4:=HB16.out.cell (i:=4) rfl;have q0:=HQ16.out.cell (i:=0) rfl;have q1:=HQ16.out.cell (i:=1) rfl;have g0:=HG16.out.cell (i:=0) rfl;have hse:=str_eqb (smL pl) (smL pl);rw [decide_eq_true rfl,HeS.out] at hse;clear hw16 o16 s16 r16 o15 o1416 HO14 HB14 HQ14 HG14 Hpr HI14 HD14;go_wp2_with fail;clear p1 p2 p3 p4 q0 q1 g0 hse
   go_loopw [183] (fun a wl=>∃ j:Nat,a=.int .i64 (j:Int)∧j≤n∧Hid (Only [] w16 wl)) (fun a _=>n - (intOf a).toNat)
   case atStart=>exact ⟨0,rfl,Nat.zero_le _,Lib.hid (Only.refl _ _)⟩
   case round =>
    obtain ⟨j,rfl,hj,HOl⟩:=hrel;obtain ⟨we,rfl⟩:∃ we,we=wr:=⟨_,rfl⟩
    by_cases hlt:j < n
    ·have hy:=HP.out.2 j hlt;have hrd:=Hpr16.out.only0 HOl.out;have hne:pl.flatMap pcCells≠[]:=fun e'=>(by have:=flat_get pcCells 5 pcCells_len pl _ _ 0 hy (by omega);rw [e'] at this;cases this);obtain ⟨bq,off,rfl,-⟩:=hrd.lt hne;obtain ⟨s,hs⟩:∃ s:Int,(m:Int)+(j:Int)=s:=⟨_,rfl⟩;have hsw:wrap64 ((m:Int)+(j:Int))=s:=(by rw [IntWalk.wrap64_in _ (by omega),hs]);obtain ⟨zz,hzz⟩:∃ v,zA xs j=v:=⟨_,rfl⟩;rw [hzz] at hy;have d0:=rd_elem pcCells_len hrd hy (r:=0) rfl;have d1:=rd_elem pcCells_len hrd hy (r:=1) rfl;have d2:=rd_elem pcCells_len hrd hy (r:=2) rfl
     have d3:=rd_elem pcCells_len hrd hy (r:=3) rfl;have d4:=rd_elem pcCells_len hrd hy (r:=4) rfl;rw [Addr.add_lit,← Nat.add_assoc] at d0 d1 d2 d3 d4;rw [Nat.add_zero] at d0;have hms:((m+j:Nat):Int)=s:=(by omega);simp only [pcA,hms] at d0 d1 d2 d3 d4;have hq:=fun w=>eqIdN 9998 ⟨2,0,s⟩ ⟨2,0,s⟩ w;unfold idV at hq;dsimp only at hq;simp only [decide_eq_true (rfl:(⟨2,0,s⟩:Cid)=⟨2,0,s⟩)] at hq;have hji:(j:Int) < (n:Int):=(by omega);clear hy hrd hne hms hzz
     go_upto_region 34 with (fail)
     obtain ⟨wy,hwy⟩:∃ wy,wy=we.alloc (.cells #[.int .i64 2,.int .i64 0,.int .i64 s,.int .i64 zz,.string (str etA)] 33):=⟨_,rfl⟩;have oy:Only [] we wy:=(by rw [hwy];exact Only.alloc _ _);have ry:Row wy we.heap.size 33 [.int .i64 2,.int .i64 0,.int .i64 s,.int .i64 zz,.string (str etA)]:=(by rw [hwy];exact Row.newOf _ _ _ _ rfl);rw [← hwy];have HOy:=Lib.hid (HOl.out.trans0 oy);have e0:=ry.cell (i:=0) rfl;have e1:=ry.cell (i:=1) rfl;have e2:=ry.cell (i:=2) rfl;clear hwy oy ry d0 d1 d2 d3 d4;go_wp2_with fail;refine ⟨⟨j+1,by go_num,by omega,HOy⟩,?_⟩
     simp [intOf];omega
    ·skip
     go_wp2_with fail
     go_ret
     exact ⟨rfl,HO16.out.trans0 HOl.out⟩
end
end Go.Proofs.YtfeglnpmpgipiaaGreatDoor
