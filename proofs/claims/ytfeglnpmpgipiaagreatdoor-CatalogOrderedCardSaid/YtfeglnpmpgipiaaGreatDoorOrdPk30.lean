/- OrdPk, part 30: SetObW, CatPutW, SetUpW. -/
import Derived.Test.YtfeglnpmpgipiaaGreatDoorOrdPk12
import Derived.Test.YtfeglnpmpgipiaaGreatDoorOrdPk15
import Derived.Test.YtfeglnpmpgipiaaGreatDoorOrdPk28
import Derived.Test.YtfeglnpmpgipiaaGreatDoorOrdPk29
set_option linter.unusedVariables false
set_option maxRecDepth 100000
set_option linter.unusedSimpArgs false
namespace Go.Proofs.YtfeglnpmpgipiaaGreatDoor
section
open Go.RowKit
set_option maxHeartbeats 8000000 in
theorem setOb_any (p:Option Addr) (n c:Nat) (xs:List LObj) (k:Bs) (x:LObj) (base:Nat) (w0:World) (hn:xs.length=n) (hb:n≤100000) (hown:OwnK w0 base 48 5 (.slice p n c) n (xs.flatMap loCells)) (hbase:base≤w0.heap.size) (hs:SortB LObj.key lt xs) :
  Calls Tryz.prog 133 #[.slice p n c,.string (str k),.func (.func 67) #[] #[],loV x] w0 fun e' w'=>∃ p' c',e'=.returned (.slice p' (putL LObj.key lt xs k x).length c')∧OwnK w' base 48 5 (.slice p' (putL LObj.key lt xs k x).length c') (putL LObj.key lt xs k x).length ((putL LObj.key lt xs k x).flatMap loCells)∧Only (blk p) w0 w'∧∀ z∈blk p',z∈blk p∨w0.heap.size≤z:=by
 generalize hYS:putL LObj.key lt xs k x=YS;obtain ⟨i,hi⟩:∃ i,posL LObj.key lt xs k=i:=⟨_,rfl⟩;obtain ⟨b,hbt⟩:∃ b,thereL LObj.key lt xs k=b:=⟨_,rfl⟩;have hile:i≤n:=(by rw [← hi,← hn];exact posL_le _ _);obtain ⟨wb,hwb⟩:∃ wb,wb=w0.alloc (.cells #[.string (str x.o.key),.int .i64 x.o.size,.string (str x.o.etag),.int .i64 x.o.time,.slice x.q x.o.pcs.length x.c] 48):=⟨_,rfl⟩;have owb:Only [] w0 wb:=(by rw [hwb];exact Only.alloc _ _);have rb:Row wb w0.heap.size 48 [.string (str x.o.key),.int .i64 x.o.size,.string (str x.o.etag),.int .i64 x.o.time,.slice x.q x.o.pcs.length x.c]:=by rw [hwb];exact Row.newOf _ _ _ _ rfl
 have hbs:=bsfOb_any p n c xs k wb hn (by omega) (fun h=>(hown.view.2.2.2.1 h).1) (hown.view.2.2.1.only0 owb) hs;rw [hi,hbt] at hbs;have Hw:=Lib.hid hwb;have Ho:=Lib.hid owb;have Hrb:=Lib.hid rb;have Hb:=Lib.hid hbs;have hile2:(i:Int)≤(n:Int):=by omega
 cases b with
 | true =>
  have hput:YS=xs.set i x:=(by rw [← hYS];unfold putL;rw [hbt,if_pos rfl,hi]);obtain ⟨y,hy,-⟩:=there_at hbt;rw [hi] at hy;have hin:i < n:=(by have:=(List.getElem?_eq_some_iff.1 hy).1;omega);have hini:(i:Int) < (n:Int):=(by omega);obtain ⟨g,-,rfl,-,-⟩:=hown.rowOf (by omega);obtain ⟨rest,hrow,hlen,hnc,hcm,hgb,-⟩:=hown.row;have hYl:YS.length=n:=(by rw [hput,List.length_set,hn]);rw [hYl];have Hrow:=Lib.hid hrow;have HF:Hid (YS=xs.set i x∧xs[i]?=some y∧xs.length=n∧base≤g∧n≤c∧c≤9223372036854775807∧(xs.flatMap loCells ++ rest).length=c * 5):=Lib.hid ⟨hput,hy,hn,hgb,hnc,hcm,hlen⟩
  clear hYS hi hbt hwb owb rb hbs hput hy hown hrow hlen hnc hcm hgb hYl hn hs;unfold loV
  go_enter Tryz.func133,Tryz.ntmps133
  go_wp2_with fail;rw [← Hw.out];refine Hb.out.mono ?_;rintro e1 w1 ⟨rfl,o1⟩;have o01:Only [] w0 w1:=Ho.out.trans0 o1;have r1:=Hrow.out.only0 o01;have rx:=Hrb.out.only0 o1;obtain ⟨h1,hy,hn,hgb,hnc,hcm,hlen⟩:=HF.out;have hra:=flat_recAt (rest:=rest) loCells_len hy;have x0:=hra.cell r1 (r:=0) rfl;have x1:=hra.cell r1 (r:=1) rfl;have x2:=hra.cell r1 (r:=2) rfl;have x3:=hra.cell r1 (r:=3) rfl;have x4:=hra.cell r1 (r:=4) rfl;rw [Nat.add_zero] at x0;have y0:=r1.free (i * 5);have y1:=r1.free (i * 5+1);have y2:=r1.free (i * 5+2);have y3:=r1.free (i * 5+3)
  have y4:=r1.free (i * 5+4);have a0:=rx.cell (i:=0) rfl;have a1:=rx.cell (i:=1) rfl;have a2:=rx.cell (i:=2) rfl;have a3:=rx.cell (i:=3) rfl;have a4:=rx.cell (i:=4) rfl;obtain ⟨wz,hwz⟩:∃ wz,wz=(((((w1.setCell ⟨g,i * 5,none⟩ (.string (str x.o.key))).setCell ⟨g,i * 5+1,none⟩ (.int .i64 x.o.size)).setCell ⟨g,i * 5+2,none⟩ (.string (str x.o.etag))).setCell ⟨g,i * 5+3,none⟩ (.int .i64 x.o.time)).setCell ⟨g,i * 5+4,none⟩ (.slice x.q x.o.pcs.length x.c)):=⟨_,rfl⟩;have ozz:Only [g] w1 wz:=by rw [hwz];exact (((((Only.setCell _ ⟨g,i * 5,none⟩ _).trans (Only.setCell _ ⟨g,i * 5+1,none⟩ _) (fun _ h _=>h)).trans (Only.setCell _ ⟨g,i * 5+2,none⟩ _) (fun _ h _=>h)).trans (Only.setCell _ ⟨g,i * 5+3,none⟩ _) (fun _ h _=>h)).trans (Only.setCell _ ⟨g,i * 5+4,none⟩ _) (fun _ h _=>h))
  have hra2:=(((((hra.set (i:=0) (.string (str x.o.key)) (by simp only [List.length_set,loCells_len];omega)).set (i:=1) (.int .i64 x.o.size) (by simp only [List.length_set,loCells_len];omega)).set (i:=2) (.string (str x.o.etag)) (by simp only [List.length_set,loCells_len];omega)).set (i:=3) (.int .i64 x.o.time) (by simp only [List.length_set,loCells_len];omega)).set (i:=4) (.slice x.q x.o.pcs.length x.c) (by simp only [List.length_set,loCells_len];omega));have hrz:=(((((r1.setCell (i * 5) (.string (str x.o.key))).setCell (i * 5+1) (.int .i64 x.o.size)).setCell (i * 5+2) (.string (str x.o.etag))).setCell (i * 5+3) (.int .i64 x.o.time)).setCell (i * 5+4) (.slice x.q x.o.pcs.length x.c))
  rw [← hwz] at hrz;have hE:=OwnK.setRec (y:=x) (by omega) loCells_len hgb hn hin hnc hcm hlen hrz (((((Outside.set (i * 5) 5 _ (i:=i * 5) (.string (str x.o.key)) (by omega) (by omega)).trans (Outside.set (i * 5) 5 _ (i:=i * 5+1) (.int .i64 x.o.size) (by omega) (by omega))).trans (Outside.set (i * 5) 5 _ (i:=i * 5+2) (.string (str x.o.etag)) (by omega) (by omega))).trans (Outside.set (i * 5) 5 _ (i:=i * 5+3) (.int .i64 x.o.time) (by omega) (by omega))).trans (Outside.set (i * 5) 5 _ (i:=i * 5+4) (.slice x.q x.o.pcs.length x.c) (by omega) (by omega))) hra2;rw [← h1] at hE
  have HE:Hid (OwnK wz base 48 5 (.slice (some ⟨g,0,none⟩) n c) n (YS.flatMap loCells)∧Only (blk (some (⟨g,0,none⟩:Addr))) w0 wz):=Lib.hid ⟨hE,(o01.mono (fun _ h=>by cases h)).trans ozz (fun _ h _=>h)⟩;have Hz:=Lib.hid hwz;clear hwz ozz hra hra2 hrz hE r1 rx o1 o01 h1 hy hn hgb hnc hcm hlen HF Hrow Hrb Hb;go_wp2_with fail;rw [← Hz.out]
  go_ret
  exact ⟨_,_,rfl,HE.out.1,HE.out.2,fun z hz=>.inl hz⟩
 | false =>
  have hput:YS=xs.take i ++ x :: xs.drop i:=(by rw [← hYS];unfold putL;rw [hbt,if_neg (by simp),hi]);have hYl:YS.length=n+1:=(by rw [hput];simp;omega);rw [hYl];have HF:Hid (YS=xs.take i ++ x :: xs.drop i∧xs.length=n∧OwnK w0 base 48 5 (.slice p n c) n (xs.flatMap loCells)):=Lib.hid ⟨hput,hn,hown⟩;clear hYS hi hbt hwb owb rb hbs hput hown hYl hn hs;unfold loV
  go_enter Tryz.func133,Tryz.ntmps133
  go_wp2_with fail;rw [← Hw.out];refine Hb.out.mono ?_;rintro e1 w1 ⟨rfl,o1⟩;have o01:Only [] w0 w1:=Ho.out.trans0 o1;have rx:=Hrb.out.only0 o1;obtain ⟨h1,hn,hown⟩:=HF.out;obtain ⟨wv,hwv⟩:∃ wv,wv=w1.alloc (.cells #[.string (str x.o.key),.int .i64 x.o.size,.string (str x.o.etag),.int .i64 x.o.time,.slice x.q x.o.pcs.length x.c] 48):=⟨_,rfl⟩;have ov:Only [] w1 wv:=(by rw [hwv];exact Only.alloc _ _);have rv:Row wv w1.heap.size 48 (loCells x):=(by rw [hwv];exact Row.newOf _ _ _ _ rfl);have hlo:=hown.view.2.2.2.2.2.2;have hsz:=o01.size;have hins:=insOb_any p n c xs x i w1.heap.size base wv (hown.only0 (o01.trans0 ov)) (by have:=ov.size;omega) hn hile (by omega) rv (fun hm=>by have:=(hlo _ hm).2;omega)
  rw [← h1] at hins;have Hi:=Lib.hid hins;have Hv:=Lib.hid hwv;have Hov:Hid (Only [] w0 wv):=Lib.hid (o01.trans0 ov);have a0:=rx.cell (i:=0) rfl;have a1:=rx.cell (i:=1) rfl;have a2:=rx.cell (i:=2) rfl;have a3:=rx.cell (i:=3) rfl;have a4:=rx.cell (i:=4) rfl;clear hins hwv ov rv hlo rx o1 h1 hn hown HF Hrb Hb;go_wp2_with fail;rw [← Hv.out];refine Hi.out.mono ?_;rintro e2 w2 ⟨p',c',rfl,h1,h2,h3⟩;have HE:Hid (OwnK w2 base 48 5 (.slice p' (n+1) c') (n+1) (YS.flatMap loCells)∧Only (blk p) w0 w2∧∀ z∈blk p',z∈blk p∨w0.heap.size≤z):=Lib.hid ⟨h1,(Hov.out.mono (fun _ h=>by cases h)).trans h2 (fun _ h _=>h),fun z hz=>(h3 z hz).imp id (fun h=>by have:=Hov.out.size;omega)⟩
  clear h1 h2 h3 Hi Hv Hov;go_wp2_with fail
  go_ret
  exact ⟨_,_,rfl,HE.out⟩
end
section
open Go.RowKit
def PutQ (b:LBk) (x:LObj) (g o B:Nat) (cur:List Value) (w0:World):Ending→World→Prop:=fun e w'=>∃ b' cur',e=.returned (oucV (putO b.b x.o).2)∧b'.b=(putO b.b x.o).1∧BkRes w0 w' B g o cur b (blk x.q) cur' b'∧b'.us=b.us∧b'.pu=b.pu∧b'.cu=b.cu
set_option maxHeartbeats 16000000 in
theorem put_any (b:LBk) (x:LObj) (g o B:Nat) (cur:List Value) (w0:World) (hrow:Row w0 g 60 cur) (hat:RecAt o cur (lbCells b)) (hown:BkOwn w0 B b) (hg:g ∉ b.fp) (hx:ObOwn w0 B x) (hxq:∀ z∈blk x.q,z ∉ b.fp∧z≠g) (hB:B≤w0.heap.size) (hs:SortB CObj.key lt (b.os.map LObj.o)) (hl:b.os.length≤128) :
  Calls Tryz.prog 98 #[.pointer (some ⟨g,o,none⟩),loV x] w0 (PutQ b x g o B cur w0):=by
 obtain ⟨n,hn⟩:∃ n,b.os.length=n:=⟨_,rfl⟩;obtain ⟨nq,hnq⟩:∃ nq,x.o.pcs.length=nq:=⟨_,rfl⟩;obtain ⟨nu,hnu⟩:∃ nu,b.us.length=nu:=⟨_,rfl⟩;obtain ⟨w1,hw1⟩:∃ w1,w1=w0.alloc (.cells #[.string (str x.o.key),.int .i64 x.o.size,.string (str x.o.etag),.int .i64 x.o.time,.slice x.q nq x.c] 48):=⟨_,rfl⟩;have o1:Only [] w0 w1:=(by rw [hw1];exact Only.alloc _ _);have s1:w1.heap.size=w0.heap.size+1:=(by rw [hw1];simp);have r1:Row w1 (w0.heap.size) 48 [.string (str x.o.key),.int .i64 x.o.size,.string (str x.o.etag),.int .i64 x.o.time,.slice x.q nq x.c]:=by rw [hw1];exact Row.newOf _ _ _ _ rfl
 obtain ⟨w2,hw2⟩:∃ w2,w2=w1.alloc (.cells #[.int .i64 0,.string ⟨#[]⟩] 38):=⟨_,rfl⟩;have o2:Only [] w1 w2:=(by rw [hw2];exact Only.alloc _ _);have s2:w2.heap.size=w0.heap.size+1+1:=(by rw [hw2];simp [s1]);have r2:Row w2 (w0.heap.size+1) 38 [.int .i64 0,.string ⟨#[]⟩]:=(by rw [← s1,hw2];exact Row.newOf _ _ _ _ rfl);replace r1:=r1.only0 o2;have oAll:Only [] w0 w2:=(o1.trans0 o2);rw [hw1] at hw2;have hgl:=hrow.lt;have hgpo:g ∉ blk b.po:=fun h=>hg (by unfold LBk.fp;exact List.mem_append_left _ h);have hss:SortB LObj.key lt b.os:=sortB_map (key:=LObj.key) LObj.o (fun _=>rfl) hs
 obtain ⟨i,hi⟩:∃ i,posL LObj.key lt b.os x.o.key=i:=⟨_,rfl⟩;obtain ⟨th,hth⟩:∃ th,thereL LObj.key lt b.os x.o.key=th:=⟨_,rfl⟩;have hfind:=fun (W:World) (h:Only [] w0 W)=>findOb_any b.po n b.co b.os x.o.key W hn (by omega) (fun h0=>by rw [← hn];exact (hown.so.view.2.2.2.1 h0).1) (hown.so.view.2.2.1.only0 h) hss;rw [hi,hth] at hfind;have hset:=fun (W:World) (h:Only [] w0 W)=>setOb_any b.po n b.co b.os x.o.key x B W hn (by omega) (by have h9:=hown.so.only0 h;rw [hn] at h9;exact h9) (Nat.le_trans hB h.size) hss;obtain ⟨YS,hYS⟩:∃ YS,putL LObj.key lt b.os x.o.key x=YS:=⟨_,rfl⟩
 obtain ⟨ny,hny⟩:∃ ny,YS.length=ny:=⟨_,rfl⟩;rw [hYS] at hset;rw [hny] at hset;have hpt:=putO_L b x;rw [hth,hn,hYS] at hpt;have hatc:=hat;unfold lbCells at hatc;rw [hn,hnu] at hatc;have HF:=Lib.hid hfind
 have hset2:∀ (W:World),Only [] w0 W→w2.heap.size≤W.heap.size→Calls Tryz.prog 133 #[.slice b.po n b.co,.string (str x.o.key),.func (.func 67) #[] #[],.agg #[.string (str x.o.key),.int .i64 x.o.size,.string (str x.o.etag),.int .i64 x.o.time,.slice x.q nq x.c]] W fun e' w'=>∃ p' c',e'=.returned (.slice p' ny c')∧OwnK w' B 48 5 (.slice p' ny c') ny (YS.flatMap loCells)∧Only (blk b.po) W w'∧∀ z∈blk p',z∈blk b.po∨w2.heap.size≤z:=fun W hW0 hW2=>by
  have hW:=hW0;have h:=hset W hW;unfold loV at h;rw [hnq] at h;refine h.mono ?_;rintro e' w' ⟨p',c',h1,h2,h3,h4⟩;exact ⟨p',c',h1,h2,h3,fun z hz=>(h4 z hz).imp id (fun h5=>by omega)⟩
 have HS:=Lib.hid hset2;have Hat:=Lib.hid hatc;have Hrow:=Lib.hid (hrow.only0 oAll);have HO:=Lib.hid oAll;have Hw:=Lib.hid hw2;have Hsz:Hid (w2.heap.size=w0.heap.size+1+1):=Lib.hid s2;have Hr1:=Lib.hid r1;have Hr2:=Lib.hid r2;have HP:=Lib.hid hpt;have hHB:Hid (BkOwn w0 B b∧g ∉ b.fp∧ObOwn w0 B x∧(∀ z∈blk x.q,z ∉ b.fp∧z≠g)∧Row w0 g 60 cur∧RecAt o cur (lbCells b)):=Lib.hid ⟨hown,hg,hx,hxq,hrow,hat⟩;have HY:Hid (putL LObj.key lt b.os x.o.key x=YS∧YS.length=ny∧b.us.length=nu):=Lib.hid ⟨hYS,hny,hnu⟩;have hgN:g < w0.heap.size:=hgl
 have h1i:=fun (r:Nat) (v:Value)=>hatc.cell (r:=r) (v:=v) (hrow.only0 oAll);have z3:=h1i 3 _ rfl;have a0:=r1.cell (i:=0) rfl;have a2:=r1.cell (i:=2) rfl;have Hz3:=Lib.hid z3;have Ha0:=Lib.hid a0;clear hfind hset hset2 hpt hatc hat hrow oAll hw2 s2 s1 r1 r2 o1 o2 hw1 hYS hny hss hs hown hg hx hxq hgl hi hth h1i hn;rw [show loV x=.agg #[.string (str x.o.key),.int .i64 x.o.size,.string (str x.o.etag),.int .i64 x.o.time,.slice x.q nq x.c] by unfold loV;rw [hnq]];clear hnq hnu z3 a0
 go_enter Tryz.func98,Tryz.ntmps98
 go_upto_region 1 with (fail)
 rw [← Hw.out];refine wp_region_rg2 (Only []) [[(0,none)],[(8,some 0)],[(9,some 0)],[(10,some 0)],[(3,none)],[(12,some 0)],[(11,some 2),(13,some 0)],[(14,some 0)],[(7,some 0)],[(7,some 1)],[(15,some 1)],[(16,some 1)]] [(5,1),(6,0)] [none,none,none,none,none,some 5,some 6,some 7,some 8,some 9,some 10,some 11,some 12,some 13,some 14,some 15,some 16,none,none,none,none,none,none,none,none,none,none,none,none,none,none,none,none,none,none,none,none,none,none,none,none,none] (by kernel_rfl) rfl (by kernel_rfl) (fun _=>Only.refl _ _) (fun _ _ _ h k=>h.trans0 k) (Only.drew _) (by kernel_rfl) ?_
 apply rg_ev
 ·rintro a w hR ⟨(e0:_=_),-⟩;refine rg_plain rfl fun K hK=>?_;go_simp;exact hK _ _ rfl (Only.refl _ _)
 apply rg_ev
 ·rintro a w hR ⟨(e8:_=_),-⟩;refine rg_plain rfl fun K hK=>?_;go_simp;exact hK _ _ rfl (Only.refl _ _)
 apply rg_ev
 ·rintro a w hR ⟨(e9:_=_),-⟩;refine rg_plain rfl fun K hK=>?_;go_simp;exact hK _ _ rfl (Only.refl _ _)
 apply rg_ev
 ·rintro a w hR ⟨(e10:_=_),-⟩;refine rg_plain rfl fun K hK=>?_;have g3:=hR.cell Hz3.out (by simp);go_simp;exact hK _ _ rfl (Only.refl _ _)
 apply rg_ev
 ·rintro a w hR ⟨(e3:_=_),-⟩;refine rg_plain rfl fun K hK=>?_;go_simp;exact hK _ _ rfl (Only.refl _ _)
 apply rg_ev
 ·rintro a w hR ⟨(e12:_=_),-⟩;refine rg_plain rfl fun K hK=>?_;have g0:=hR.cell Ha0.out (by simp);go_simp;exact hK _ _ rfl (Only.refl _ _)
 apply rg_ev
 ·rintro a w hR ⟨(e11:_=_),(e13:_=_),-⟩;refine rg_plain rfl fun K hK=>?_;go_simp;(with_reducible refine (HF.out w (HO.out.trans0 hR)).mono ?_);rintro e w' ⟨rfl,o'⟩;exact hK _ _ rfl o'
 apply rg_ev
 ·rintro a w hR ⟨(e14:_=_),-⟩;refine rg_plain rfl fun K hK=>?_;go_simp;exact hK _ _ rfl (Only.refl _ _)
 apply rg_ev
 ·rintro a w hR ⟨(e7:_=_),-⟩;refine rg_plain rfl fun K hK=>?_;go_simp;exact hK _ _ rfl (Only.refl _ _)
 apply rg_ev
 ·rintro a w hR ⟨(e7:_=_),-⟩;refine rg_plain rfl fun K hK=>?_;go_simp;exact hK _ _ rfl (Only.refl _ _)
 apply rg_ev
 ·rintro a w hR ⟨(e15:_=_),-⟩;refine rg_plain rfl fun K hK=>?_;go_simp;exact hK _ _ rfl (Only.refl _ _)
 apply rg_ev
 ·rintro a w hR ⟨(e16:_=_),-⟩;refine rg_plain rfl fun K hK=>?_;go_simp;exact hK _ _ rfl (Only.refl _ _)
 intro fa wa hRa hf;dsimp only [mergeT];obtain ⟨e5,e6,-⟩:=hf;replace e5:fa 5=_:=e5;rw [e5];replace e6:fa 6=_:=e6;rw [e6];have HOa:Hid (Only [] w2 wa):=Lib.hid hRa;have rO:=Hr2.out.only0 hRa;have g3:=hRa.cell Hz3.out (by simp);clear hRa HF
 by_cases hfull:th=false∧128≤n
 ·have HP1:Hid (putO b.b x.o=(b.b,⟨7,[]⟩)):=Lib.hid ((HP.out none 0).trans (if_pos hfull));clear HP;obtain ⟨rfl,h128⟩:=hfull;have h128i:(128:Int)≤(n:Int):=(by omega);go_wp2_with fail;refine (done_any 7 wa).mono ?_;rintro e w' ⟨rfl,o'⟩;unfold oucV;have rO':=rO.only0 o';have c0:=rO'.cell (i:=0) rfl;have c1:=rO'.cell (i:=1) rfl;have f0:=rO'.free 0;have f1:=rO'.free 1;have hrz:=rO'.set2 (.int .i64 7) (.string (str []));have hst:=only_set2 w' (w0.heap.size+1) (.int .i64 7) (.string (str []));obtain ⟨wz,hwz⟩:∃ wz,wz=(w'.setCell ⟨w0.heap.size+1,0,none⟩ (.int .i64 7)).setCell ⟨w0.heap.size+1,1,none⟩ (.string (str [])):=⟨_,rfl⟩
  rw [← hwz] at hrz hst;have Hrz:=Lib.hid hrz;obtain ⟨hown,hg,hx,hxq,hrow,hat⟩:=hHB.out;have HE:Hid (putO b.b x.o=(b.b,⟨7,[]⟩)∧BkRes w0 wz B g o cur b (blk x.q) cur b):=Lib.hid ⟨HP1.out,(BkRes.refl hrow hat hown _ ((HO.out.trans0 HOa.out).trans0 o')).stepN hst (by simp;omega) (fun z hz=>by rw [List.mem_singleton.1 hz];exact ⟨by omega,fun hm=>by have:=(hown.lo _ hm).2;omega⟩)⟩;have Hwz:=Lib.hid hwz;clear rO rO' hrz hst hwz o' hown hg hx hxq hrow hat hHB g3;go_wp2_with fail;rw [← Hwz.out];exact bodyPost_ret (results_c1 rfl _ _ _ rfl Hrz.out Tryz.underlying38 oucInfo) rfl ⟨b,cur,by rw [HE.out.1];rfl,by rw [HE.out.1],HE.out.2,rfl,rfl,rfl⟩
 ·have hcase:th=true∨(th=false∧n < 128):=by
   cases th
   ·exact .inr ⟨rfl,by simp at hfull;omega⟩
   ·exact .inl rfl
  have HPn:Hid (∀ p' c',putO b.b x.o=(({ b with os:=YS,po:=p',co:=c' }:LBk).b,⟨0,x.o.etag⟩)):=Lib.hid (fun p' c'=>(HP.out p' c').trans (if_neg hfull));clear HP;clear hfull
  rcases hcase with rfl | ⟨rfl,hlt⟩
  rotate_left
  ·have h128i:¬ (128:Int)≤(n:Int):=by omega
   skip
   go_upto_region 4 with (fail)
   have HRowa:=Lib.hid (Hrow.out.only0 HOa.out);have HatL:=Hat.out;have hgp:g ∉ blk b.po:=hgpo;have hgN2:g < w2.heap.size:=(by have:=Hsz.out;omega);replace hgN:=hgN2
   have hnx:w0.heap.size ∉ g :: blk b.po:=fun h=>by
    have h5:=hHB.out
    rcases List.mem_cons.1 h with h | h
    ·have:=h5.2.2.2.2.1.lt;omega
    ·have:=(h5.1.so.view.2.2.2.2.2.2 _ h).2;omega
   have hxa:=Hr1.out.only0 HOa.out;have x0:=hxa.cell (i:=0) rfl;have x1:=hxa.cell (i:=1) rfl;have x2:=hxa.cell (i:=2) rfl;have x3:=hxa.cell (i:=3) rfl;have x4:=hxa.cell (i:=4) rfl;have HX:Hid (∀ w,Only (g :: blk b.po) wa w→w.cell? ⟨w0.heap.size,0,none⟩=some (.string (str x.o.key))∧w.cell? ⟨w0.heap.size,1,none⟩=some (.int .i64 x.o.size)∧w.cell? ⟨w0.heap.size,2,none⟩=some (.string (str x.o.etag))∧w.cell? ⟨w0.heap.size,3,none⟩=some (.int .i64 x.o.time)∧w.cell? ⟨w0.heap.size,4,none⟩=some (.slice x.q nq x.c)):=Lib.hid (fun w h=>⟨h.cell x0 hnx,h.cell x1 hnx,h.cell x2 hnx,h.cell x3 hnx,h.cell x4 hnx⟩)
   clear hxa x0 x1 x2 x3 x4;have HSO:∀ z∈[g],z < w2.heap.size∧z ∉ blk b.po:=fun z hz=>(by rw [List.mem_singleton.1 hz];exact ⟨hgN,hgp⟩);have hRr:∀ x,(Only (g :: blk b.po)) x x:=fun x=>Only.refl _ _;have hRt:∀ x y z,(Only (g :: blk b.po)) x y→(Only (g :: blk b.po)) y z→(Only (g :: blk b.po)) x z:=fun _ _ _ h k=>h.trans k (fun _ h _=>h);have hRd:(Only (g :: blk b.po)) wa wa.drew:=(Only.drew _).mono (by simp)
   have hRs:∀ j w,DirtR [(8,Only (blk b.po)),(11,Only [g])] j w w:=DirtR.refl (by
    intro x hx w;simp only [List.mem_cons,List.not_mem_nil,or_false] at hx
    rcases hx with rfl | rfl <;> exact Only.refl _ _)
   have hC0:∀ d∈[8,11],(fun (i:Nat) (a:World)=>(i=8→Only [] wa a)∧(i=11→Row a g 60 cur)) d wa.drew:=fun _ _=>⟨fun _=>Only.drew _,fun _=>HRowa.out.only0 (Only.drew _)⟩;refine wp_region_rg7 (Only (g :: blk b.po)) (DirtR [(8,Only (blk b.po)),(11,Only [g])]) (fun (i:Nat) (a:World)=>(i=8→Only [] wa a)∧(i=11→Row a g 60 cur)) [8,11] [[(0,none)],[(0,none)],[(29,some 0)],[(30,some 0)],[(31,some 0)],[(3,none)],[(33,some 0)],[(3,none)],[(32,some 3),(34,some 1),(35,some 0)],[(28,some 8)],[(37,some 0)],[(38,some 0),(36,some 2)]] [] [0] [none,none,none,none,none,none,none,none,none,none,none,none,none,none,none,none,none,none,none,none,none,none,none,none,none,none,none,none,some 28,some 29,some 30,some 31,some 32,some 33,some 34,some 35,some 36,some 37,some 38,none,none,none] (by kernel_rfl) rfl (by kernel_rfl) hRr hRt hRs hRd hC0 (by kernel_rfl) (by kernel_rfl) ?_
   apply rg7_ev
   ·rintro a w hR hC ⟨(e0:_=_),-⟩;refine rg_plain rfl fun K hK=>?_;go_simp;exact hK _ _ rfl ⟨hRr _,hRs _ _,fun _ _ _ _ h=>h⟩
   apply rg7_ev
   ·rintro a w hR hC ⟨(e0:_=_),-⟩;refine rg_plain rfl fun K hK=>?_;go_simp;exact hK _ _ rfl ⟨hRr _,hRs _ _,fun _ _ _ _ h=>h⟩
   apply rg7_ev
   ·rintro a w hR hC ⟨(e29:_=_),-⟩;refine rg_plain rfl fun K hK=>?_;go_simp;exact hK _ _ rfl ⟨hRr _,hRs _ _,fun _ _ _ _ h=>h⟩
   apply rg7_ev
   ·rintro a w hR hC ⟨(e30:_=_),-⟩;refine rg_plain rfl fun K hK=>?_;go_simp;exact hK _ _ rfl ⟨hRr _,hRs _ _,fun _ _ _ _ h=>h⟩
   apply rg7_ev
   ·rintro a w hR hC ⟨(e31:_=_),-⟩;refine rg_plain rfl fun K hK=>?_;have rz:=(hC 11 (by simp) (by kernel_rfl)).2 rfl;have z3:=HatL.cell rz (r:=3) rfl;go_simp;exact hK _ _ rfl ⟨hRr _,hRs _ _,fun _ _ _ _ h=>h⟩
   apply rg7_ev
   ·rintro a w hR hC ⟨(e3:_=_),-⟩;refine rg_plain rfl fun K hK=>?_;go_simp;exact hK _ _ rfl ⟨hRr _,hRs _ _,fun _ _ _ _ h=>h⟩
   apply rg7_ev
   ·rintro a w hR hC ⟨(e33:_=_),-⟩;refine rg_plain rfl fun K hK=>?_;obtain ⟨q0,q1,q2,q3,q4⟩:=HX.out w hR;go_simp;exact hK _ _ rfl ⟨hRr _,hRs _ _,fun _ _ _ _ h=>h⟩
   apply rg7_ev
   ·rintro a w hR hC ⟨(e3:_=_),-⟩;refine rg_plain rfl fun K hK=>?_;obtain ⟨q0,q1,q2,q3,q4⟩:=HX.out w hR;go_simp;exact hK _ _ rfl ⟨hRr _,hRs _ _,fun _ _ _ _ h=>h⟩
   refine ⟨SlP loCells 48 5 B b.po w2.heap.size ny YS,stands5_of SlP.stable (by intro x hx hk;simp only [List.mem_cons,List.not_mem_nil,or_false] at hx;rcases hx with rfl | rfl <;> first | exact Bool.noConfusion (hk.symm.trans (by kernel_rfl:_=true)) | (refine SlP.stableO ?_;exact HSO;done)),fun a w hR hC hf=>?_,?_⟩
   ·obtain ⟨e32,e34,e35,-⟩:=hf;replace e32:a.tmps.getD 32 undef=_:=e32;replace e34:a.tmps.getD 34 undef=_:=e34;replace e35:a.tmps.getD 35 undef=_:=e35;refine rg_plain rfl fun K hK=>?_;have hC5:=(hC 8 (by simp) (by kernel_rfl)).1 rfl;go_simp;(with_reducible refine (HS.out w (HO.out.trans0 (HOa.out.trans0 hC5)) (HOa.out.trans0 hC5).size).mono ?_);rintro e w' ⟨p',c',rfl,h1,h2,h3⟩;replace h3:∀ z∈blk p',z∈blk b.po∨w2.heap.size≤z:=h3;exact hK _ _ ⟨_,_,rfl,h1,h3⟩ ⟨h2.mono (fun x hx=>List.mem_cons_of_mem _ hx),h2,fun i hi hne ha hc=>⟨fun e=>absurd e hne,fun e=>(hc.2 e).only h2 hgp⟩⟩
   apply rg7_ev
   ·rintro a w hR hC ⟨(e28:_=_),-⟩;refine rg_plain rfl fun K hK=>?_;go_simp;exact hK _ _ rfl ⟨hRr _,hRs _ _,fun _ _ _ _ h=>h⟩
   apply rg7_ev
   ·rintro a w hR hC ⟨(e37:_=_),-⟩;refine rg_plain rfl fun K hK=>?_;go_simp;exact hK _ _ rfl ⟨hRr _,hRs _ _,fun _ _ _ _ h=>h⟩
   refine ⟨SlR loCells 48 5 B b.po w2.heap.size ny YS (g) 60 cur (o+3),stands5_of SlR.stable (by intro x hx hk;simp only [List.mem_cons,List.not_mem_nil,or_false] at hx;rcases hx with rfl | rfl <;> exact Bool.noConfusion (hk.symm.trans (by kernel_rfl:_=true))),fun a w hR hC hf=>?_,?_⟩
   ·obtain ⟨e38,e36,-⟩:=hf;replace e38:a.tmps.getD 38 undef=_:=e38;replace e36:SlP loCells 48 5 B b.po w2.heap.size ny YS (a.tmps.getD 36 undef) w:=e36;refine rg_plain rfl fun K hK=>?_;obtain ⟨p',c',e36,hown',hb'⟩:=e36;have rz:=(hC 11 (by simp) (by kernel_rfl)).2 rfl;have zc:=HatL.cell rz (r:=3) rfl;have zf:=rz.free (o+3);go_simp;have hst:=Only.setCell w ⟨g,o+3,none⟩ (.slice p' (ny) c');refine hK undef _ ⟨p',c',hown'.onlyB hst (fun z hz hm=>?_),hb',rz.setCell (o+3) _⟩ ⟨hst.mono (by simp),hst,fun i hi hne ha hc=>?_⟩
    ·rcases hb' z hz with h4 | h4
     ·exact (HSO z hm).2 h4
     ·have:=(HSO z hm).1;omega
    ·simp only [List.mem_cons,List.not_mem_nil,or_false] at hi
     rcases hi with rfl | rfl
     ·exact Bool.noConfusion (ha.symm.trans (by kernel_rfl:_=true))
     ·exact absurd rfl hne
   intro fb wb hRb hf hlb;dsimp only [mergeT];obtain ⟨l11,-⟩:=hlb;replace l11:∃ v,(SlR loCells 48 5 B b.po w2.heap.size ny YS (g) 60 cur (o+3)) v wb:=l11;have HOb:=Lib.hid hRb;obtain ⟨_,p',c',h1,h2,h3⟩:=l11;obtain ⟨hown,hg,hx,hxq,hrow,hat⟩:=hHB.out;obtain ⟨hYS,hny,hnu⟩:=HY.out;rw [← hny] at h1;have ho2:Only (g :: blk b.po) w2 wb:=(HOa.out.mono (by simp)).trans hRb (fun _ h _=>h);have hown2:=hown.only0 HO.out;have hx2:ObOwn w2 B x:=OwnK.only0 hx HO.out
   have hbo:=hown2.objs (S:=g :: blk b.po) (new:=blk x.q) ho2 (fun z hz=>by
    rcases List.mem_cons.1 hz with rfl | hz
    ·exact .inr ⟨hg,fun h=>(hxq _ h).2 rfl⟩
    ·exact .inl hz) h1 (fun y hy=>by
    rw [← hYS] at hy
    rcases put_mem hy with rfl | h
    ·exact .inr ⟨hx2,fun z hz=>hz⟩
    ·exact .inl h) h2 (by rw [← hYS];exact put_perm (fun x:LObj=>blk x.q) b.os x.o.key x) (blk_nodup _) (fun z hz=>⟨(hxq z hz).1,(ownIn hx2 z hz).2⟩)
   obtain ⟨hb1,hb2⟩:=hbo
   have hra:RecAt o (cur.set (o+3) (.slice p' ny c')) (lbCells { b with os:=YS,po:=p',co:=c' }):=by
    have h9:=hat.set (i:=3) (.slice p' ny c') (by rw [lbCells_len];omega);rw [← hny] at h9 ⊢;exact h9
   have hres:BkRes w2 wb B g o cur b (blk x.q) (cur.set (o+3) (.slice p' ny c')) { b with os:=YS,po:=p',co:=c' }:=⟨h3,hra,Outside.set o 5 cur _ (by omega) (by omega),hb1,hb2,ho2.mono (fun z hz=>by
    rcases List.mem_cons.1 hz with rfl | hz
    ·exact List.mem_cons_self ..
    ·exact List.mem_cons_of_mem _ (by unfold LBk.fp;exact List.mem_append_left _ hz))⟩
   have hA2:w0.heap.size+1 ∉ ({ b with os:=YS,po:=p',co:=c' }:LBk).fp:=fun hm=>by
    rcases hb2 _ hm with h | h | h
    ·have:=(hown.lo _ h).2;omega
    ·have:=(ownIn hx _ h).2;omega
    ·have:=Hsz.out;omega
   have hnA:w0.heap.size+1 ∉ g :: blk b.po:=fun h=>by
    rcases List.mem_cons.1 h with h | h
    ·have:=hrow.lt;omega
    ·have:=(hown.so.view.2.2.2.2.2.2 _ h).2;omega
   have rOb:=rO.only hRb hnA;have c0:=rOb.cell (i:=0) rfl;have c1:=rOb.cell (i:=1) rfl;have f0:=rOb.free 0;have f1:=rOb.free 1;have e2:=(HX.out wb hRb).2.2.1;have hrz:=rOb.set2 (.int .i64 0) (.string (str x.o.etag));have hst:=only_set2 wb (w0.heap.size+1) (.int .i64 0) (.string (str x.o.etag));obtain ⟨wz,hwz⟩:∃ wz,wz=(wb.setCell ⟨w0.heap.size+1,0,none⟩ (.int .i64 0)).setCell ⟨w0.heap.size+1,1,none⟩ (.string (str x.o.etag)):=⟨_,rfl⟩;rw [← hwz] at hrz hst;have Hrz:=Lib.hid hrz;have HE:Hid (putO b.b x.o=(({ b with os:=YS,po:=p',co:=c' }:LBk).b,⟨0,x.o.etag⟩)∧BkRes w0 wz B g o cur b (blk x.q) (cur.set (o+3) (.slice p' ny c')) { b with os:=YS,po:=p',co:=c' }):=Lib.hid ⟨HPn.out p' c',(hres.base HO.out).stepN hst (by have:=hrow.lt;simp;omega) (fun z hz=>by rw [List.mem_singleton.1 hz];exact ⟨by omega,hA2⟩)⟩
   have Hwz:=Lib.hid hwz;clear rO rOb hrz hst hwz hown hg hx hxq hrow hat hHB g3 h1 h2 h3 hYS hny hnu ho2 hown2 hx2 hb1 hb2 hra hres hA2 hnA hRb hRr hRt hRd hRs hC0 HSO HatL hgp hgN hnx;go_wp2_with fail;rw [← Hwz.out];exact bodyPost_ret (results_c1 rfl _ _ _ rfl Hrz.out Tryz.underlying38 oucInfo) rfl ⟨{ b with os:=YS,po:=p',co:=c' },cur.set (o+3) (.slice p' ny c'),by rw [HE.out.1];rfl,by rw [HE.out.1],HE.out.2,rfl,rfl,rfl⟩
  ·skip
   go_upto_region 4 with (fail)
   have HRowa:=Lib.hid (Hrow.out.only0 HOa.out);have HatL:=Hat.out;have hgp:g ∉ blk b.po:=hgpo;have hgN2:g < w2.heap.size:=(by have:=Hsz.out;omega);replace hgN:=hgN2
   have hnx:w0.heap.size ∉ g :: blk b.po:=fun h=>by
    have h5:=hHB.out
    rcases List.mem_cons.1 h with h | h
    ·have:=h5.2.2.2.2.1.lt;omega
    ·have:=(h5.1.so.view.2.2.2.2.2.2 _ h).2;omega
   have hxa:=Hr1.out.only0 HOa.out;have x0:=hxa.cell (i:=0) rfl;have x1:=hxa.cell (i:=1) rfl;have x2:=hxa.cell (i:=2) rfl;have x3:=hxa.cell (i:=3) rfl;have x4:=hxa.cell (i:=4) rfl;have HX:Hid (∀ w,Only (g :: blk b.po) wa w→w.cell? ⟨w0.heap.size,0,none⟩=some (.string (str x.o.key))∧w.cell? ⟨w0.heap.size,1,none⟩=some (.int .i64 x.o.size)∧w.cell? ⟨w0.heap.size,2,none⟩=some (.string (str x.o.etag))∧w.cell? ⟨w0.heap.size,3,none⟩=some (.int .i64 x.o.time)∧w.cell? ⟨w0.heap.size,4,none⟩=some (.slice x.q nq x.c)):=Lib.hid (fun w h=>⟨h.cell x0 hnx,h.cell x1 hnx,h.cell x2 hnx,h.cell x3 hnx,h.cell x4 hnx⟩)
   clear hxa x0 x1 x2 x3 x4;have HSO:∀ z∈[g],z < w2.heap.size∧z ∉ blk b.po:=fun z hz=>(by rw [List.mem_singleton.1 hz];exact ⟨hgN,hgp⟩);have hRr:∀ x,(Only (g :: blk b.po)) x x:=fun x=>Only.refl _ _;have hRt:∀ x y z,(Only (g :: blk b.po)) x y→(Only (g :: blk b.po)) y z→(Only (g :: blk b.po)) x z:=fun _ _ _ h k=>h.trans k (fun _ h _=>h);have hRd:(Only (g :: blk b.po)) wa wa.drew:=(Only.drew _).mono (by simp)
   have hRs:∀ j w,DirtR [(8,Only (blk b.po)),(11,Only [g])] j w w:=DirtR.refl (by
    intro x hx w;simp only [List.mem_cons,List.not_mem_nil,or_false] at hx
    rcases hx with rfl | rfl <;> exact Only.refl _ _)
   have hC0:∀ d∈[8,11],(fun (i:Nat) (a:World)=>(i=8→Only [] wa a)∧(i=11→Row a g 60 cur)) d wa.drew:=fun _ _=>⟨fun _=>Only.drew _,fun _=>HRowa.out.only0 (Only.drew _)⟩;refine wp_region_rg7 (Only (g :: blk b.po)) (DirtR [(8,Only (blk b.po)),(11,Only [g])]) (fun (i:Nat) (a:World)=>(i=8→Only [] wa a)∧(i=11→Row a g 60 cur)) [8,11] [[(0,none)],[(0,none)],[(29,some 0)],[(30,some 0)],[(31,some 0)],[(3,none)],[(33,some 0)],[(3,none)],[(32,some 3),(34,some 1),(35,some 0)],[(28,some 8)],[(37,some 0)],[(38,some 0),(36,some 2)]] [] [0] [none,none,none,none,none,none,none,none,none,none,none,none,none,none,none,none,none,none,none,none,none,none,none,none,none,none,none,none,some 28,some 29,some 30,some 31,some 32,some 33,some 34,some 35,some 36,some 37,some 38,none,none,none] (by kernel_rfl) rfl (by kernel_rfl) hRr hRt hRs hRd hC0 (by kernel_rfl) (by kernel_rfl) ?_
   apply rg7_ev
   ·rintro a w hR hC ⟨(e0:_=_),-⟩;refine rg_plain rfl fun K hK=>?_;go_simp;exact hK _ _ rfl ⟨hRr _,hRs _ _,fun _ _ _ _ h=>h⟩
   apply rg7_ev
   ·rintro a w hR hC ⟨(e0:_=_),-⟩;refine rg_plain rfl fun K hK=>?_;go_simp;exact hK _ _ rfl ⟨hRr _,hRs _ _,fun _ _ _ _ h=>h⟩
   apply rg7_ev
   ·rintro a w hR hC ⟨(e29:_=_),-⟩;refine rg_plain rfl fun K hK=>?_;go_simp;exact hK _ _ rfl ⟨hRr _,hRs _ _,fun _ _ _ _ h=>h⟩
   apply rg7_ev
   ·rintro a w hR hC ⟨(e30:_=_),-⟩;refine rg_plain rfl fun K hK=>?_;go_simp;exact hK _ _ rfl ⟨hRr _,hRs _ _,fun _ _ _ _ h=>h⟩
   apply rg7_ev
   ·rintro a w hR hC ⟨(e31:_=_),-⟩;refine rg_plain rfl fun K hK=>?_;have rz:=(hC 11 (by simp) (by kernel_rfl)).2 rfl;have z3:=HatL.cell rz (r:=3) rfl;go_simp;exact hK _ _ rfl ⟨hRr _,hRs _ _,fun _ _ _ _ h=>h⟩
   apply rg7_ev
   ·rintro a w hR hC ⟨(e3:_=_),-⟩;refine rg_plain rfl fun K hK=>?_;go_simp;exact hK _ _ rfl ⟨hRr _,hRs _ _,fun _ _ _ _ h=>h⟩
   apply rg7_ev
   ·rintro a w hR hC ⟨(e33:_=_),-⟩;refine rg_plain rfl fun K hK=>?_;obtain ⟨q0,q1,q2,q3,q4⟩:=HX.out w hR;go_simp;exact hK _ _ rfl ⟨hRr _,hRs _ _,fun _ _ _ _ h=>h⟩
   apply rg7_ev
   ·rintro a w hR hC ⟨(e3:_=_),-⟩;refine rg_plain rfl fun K hK=>?_;obtain ⟨q0,q1,q2,q3,q4⟩:=HX.out w hR;go_simp;exact hK _ _ rfl ⟨hRr _,hRs _ _,fun _ _ _ _ h=>h⟩
   refine ⟨SlP loCells 48 5 B b.po w2.heap.size ny YS,stands5_of SlP.stable (by intro x hx hk;simp only [List.mem_cons,List.not_mem_nil,or_false] at hx;rcases hx with rfl | rfl <;> first | exact Bool.noConfusion (hk.symm.trans (by kernel_rfl:_=true)) | (refine SlP.stableO ?_;exact HSO;done)),fun a w hR hC hf=>?_,?_⟩
   ·obtain ⟨e32,e34,e35,-⟩:=hf;replace e32:a.tmps.getD 32 undef=_:=e32;replace e34:a.tmps.getD 34 undef=_:=e34;replace e35:a.tmps.getD 35 undef=_:=e35;refine rg_plain rfl fun K hK=>?_;have hC5:=(hC 8 (by simp) (by kernel_rfl)).1 rfl;go_simp;(with_reducible refine (HS.out w (HO.out.trans0 (HOa.out.trans0 hC5)) (HOa.out.trans0 hC5).size).mono ?_);rintro e w' ⟨p',c',rfl,h1,h2,h3⟩;replace h3:∀ z∈blk p',z∈blk b.po∨w2.heap.size≤z:=h3;exact hK _ _ ⟨_,_,rfl,h1,h3⟩ ⟨h2.mono (fun x hx=>List.mem_cons_of_mem _ hx),h2,fun i hi hne ha hc=>⟨fun e=>absurd e hne,fun e=>(hc.2 e).only h2 hgp⟩⟩
   apply rg7_ev
   ·rintro a w hR hC ⟨(e28:_=_),-⟩;refine rg_plain rfl fun K hK=>?_;go_simp;exact hK _ _ rfl ⟨hRr _,hRs _ _,fun _ _ _ _ h=>h⟩
   apply rg7_ev
   ·rintro a w hR hC ⟨(e37:_=_),-⟩;refine rg_plain rfl fun K hK=>?_;go_simp;exact hK _ _ rfl ⟨hRr _,hRs _ _,fun _ _ _ _ h=>h⟩
   refine ⟨SlR loCells 48 5 B b.po w2.heap.size ny YS (g) 60 cur (o+3),stands5_of SlR.stable (by intro x hx hk;simp only [List.mem_cons,List.not_mem_nil,or_false] at hx;rcases hx with rfl | rfl <;> exact Bool.noConfusion (hk.symm.trans (by kernel_rfl:_=true))),fun a w hR hC hf=>?_,?_⟩
   ·obtain ⟨e38,e36,-⟩:=hf;replace e38:a.tmps.getD 38 undef=_:=e38;replace e36:SlP loCells 48 5 B b.po w2.heap.size ny YS (a.tmps.getD 36 undef) w:=e36;refine rg_plain rfl fun K hK=>?_;obtain ⟨p',c',e36,hown',hb'⟩:=e36;have rz:=(hC 11 (by simp) (by kernel_rfl)).2 rfl;have zc:=HatL.cell rz (r:=3) rfl;have zf:=rz.free (o+3);go_simp;have hst:=Only.setCell w ⟨g,o+3,none⟩ (.slice p' (ny) c');refine hK undef _ ⟨p',c',hown'.onlyB hst (fun z hz hm=>?_),hb',rz.setCell (o+3) _⟩ ⟨hst.mono (by simp),hst,fun i hi hne ha hc=>?_⟩
    ·rcases hb' z hz with h4 | h4
     ·exact (HSO z hm).2 h4
     ·have:=(HSO z hm).1;omega
    ·simp only [List.mem_cons,List.not_mem_nil,or_false] at hi
     rcases hi with rfl | rfl
     ·exact Bool.noConfusion (ha.symm.trans (by kernel_rfl:_=true))
     ·exact absurd rfl hne
   intro fb wb hRb hf hlb;dsimp only [mergeT];obtain ⟨l11,-⟩:=hlb;replace l11:∃ v,(SlR loCells 48 5 B b.po w2.heap.size ny YS (g) 60 cur (o+3)) v wb:=l11;have HOb:=Lib.hid hRb;obtain ⟨_,p',c',h1,h2,h3⟩:=l11;obtain ⟨hown,hg,hx,hxq,hrow,hat⟩:=hHB.out;obtain ⟨hYS,hny,hnu⟩:=HY.out;rw [← hny] at h1;have ho2:Only (g :: blk b.po) w2 wb:=(HOa.out.mono (by simp)).trans hRb (fun _ h _=>h);have hown2:=hown.only0 HO.out;have hx2:ObOwn w2 B x:=OwnK.only0 hx HO.out
   have hbo:=hown2.objs (S:=g :: blk b.po) (new:=blk x.q) ho2 (fun z hz=>by
    rcases List.mem_cons.1 hz with rfl | hz
    ·exact .inr ⟨hg,fun h=>(hxq _ h).2 rfl⟩
    ·exact .inl hz) h1 (fun y hy=>by
    rw [← hYS] at hy
    rcases put_mem hy with rfl | h
    ·exact .inr ⟨hx2,fun z hz=>hz⟩
    ·exact .inl h) h2 (by rw [← hYS];exact put_perm (fun x:LObj=>blk x.q) b.os x.o.key x) (blk_nodup _) (fun z hz=>⟨(hxq z hz).1,(ownIn hx2 z hz).2⟩)
   obtain ⟨hb1,hb2⟩:=hbo
   have hra:RecAt o (cur.set (o+3) (.slice p' ny c')) (lbCells { b with os:=YS,po:=p',co:=c' }):=by
    have h9:=hat.set (i:=3) (.slice p' ny c') (by rw [lbCells_len];omega);rw [← hny] at h9 ⊢;exact h9
   have hres:BkRes w2 wb B g o cur b (blk x.q) (cur.set (o+3) (.slice p' ny c')) { b with os:=YS,po:=p',co:=c' }:=⟨h3,hra,Outside.set o 5 cur _ (by omega) (by omega),hb1,hb2,ho2.mono (fun z hz=>by
    rcases List.mem_cons.1 hz with rfl | hz
    ·exact List.mem_cons_self ..
    ·exact List.mem_cons_of_mem _ (by unfold LBk.fp;exact List.mem_append_left _ hz))⟩
   have hA2:w0.heap.size+1 ∉ ({ b with os:=YS,po:=p',co:=c' }:LBk).fp:=fun hm=>by
    rcases hb2 _ hm with h | h | h
    ·have:=(hown.lo _ h).2;omega
    ·have:=(ownIn hx _ h).2;omega
    ·have:=Hsz.out;omega
   have hnA:w0.heap.size+1 ∉ g :: blk b.po:=fun h=>by
    rcases List.mem_cons.1 h with h | h
    ·have:=hrow.lt;omega
    ·have:=(hown.so.view.2.2.2.2.2.2 _ h).2;omega
   have rOb:=rO.only hRb hnA;have c0:=rOb.cell (i:=0) rfl;have c1:=rOb.cell (i:=1) rfl;have f0:=rOb.free 0;have f1:=rOb.free 1;have e2:=(HX.out wb hRb).2.2.1;have hrz:=rOb.set2 (.int .i64 0) (.string (str x.o.etag));have hst:=only_set2 wb (w0.heap.size+1) (.int .i64 0) (.string (str x.o.etag));obtain ⟨wz,hwz⟩:∃ wz,wz=(wb.setCell ⟨w0.heap.size+1,0,none⟩ (.int .i64 0)).setCell ⟨w0.heap.size+1,1,none⟩ (.string (str x.o.etag)):=⟨_,rfl⟩;rw [← hwz] at hrz hst;have Hrz:=Lib.hid hrz;have HE:Hid (putO b.b x.o=(({ b with os:=YS,po:=p',co:=c' }:LBk).b,⟨0,x.o.etag⟩)∧BkRes w0 wz B g o cur b (blk x.q) (cur.set (o+3) (.slice p' ny c')) { b with os:=YS,po:=p',co:=c' }):=Lib.hid ⟨HPn.out p' c',(hres.base HO.out).stepN hst (by have:=hrow.lt;simp;omega) (fun z hz=>by rw [List.mem_singleton.1 hz];exact ⟨by omega,hA2⟩)⟩
   have Hwz:=Lib.hid hwz;clear rO rOb hrz hst hwz hown hg hx hxq hrow hat hHB g3 h1 h2 h3 hYS hny hnu ho2 hown2 hx2 hb1 hb2 hra hres hA2 hnA hRb hRr hRt hRd hRs hC0 HSO HatL hgp hgN hnx;go_wp2_with fail;rw [← Hwz.out];exact bodyPost_ret (results_c1 rfl _ _ _ rfl Hrz.out Tryz.underlying38 oucInfo) rfl ⟨{ b with os:=YS,po:=p',co:=c' },cur.set (o+3) (.slice p' ny c'),by rw [HE.out.1];rfl,by rw [HE.out.1],HE.out.2,rfl,rfl,rfl⟩
end
section
open Go.RowKit
set_option maxHeartbeats 8000000 in
theorem setUp_any (p:Option Addr) (n c:Nat) (xs:List LUpl) (k:Cid) (x:LUpl) (base:Nat) (w0:World) (hn:xs.length=n) (hb:n≤100000) (hown:OwnK w0 base 54 5 (.slice p n c) n (xs.flatMap luCells)) (hbase:base≤w0.heap.size) (hs:SortB LUpl.id ltI xs) :
  Calls Tryz.prog 100 #[.slice p n c,idV k,.func (.func 70) #[] #[],luV x] w0 fun e' w'=>∃ p' c',e'=.returned (.slice p' (putL LUpl.id ltI xs k x).length c')∧OwnK w' base 54 5 (.slice p' (putL LUpl.id ltI xs k x).length c') (putL LUpl.id ltI xs k x).length ((putL LUpl.id ltI xs k x).flatMap luCells)∧Only (blk p) w0 w'∧∀ z∈blk p',z∈blk p∨w0.heap.size≤z:=by
 generalize hYS:putL LUpl.id ltI xs k x=YS;obtain ⟨i,hi⟩:∃ i,posL LUpl.id ltI xs k=i:=⟨_,rfl⟩;obtain ⟨b,hbt⟩:∃ b,thereL LUpl.id ltI xs k=b:=⟨_,rfl⟩;have hile:i≤n:=(by rw [← hi,← hn];exact posL_le _ _);obtain ⟨wa,hwa⟩:∃ wa,wa=w0.alloc (.cells #[.int .i64 k.node,.int .i64 k.boot,.int .i64 k.seq] 31):=⟨_,rfl⟩;obtain ⟨wb,hwb⟩:∃ wb,wb=wa.alloc (.cells #[.int .i64 x.u.id.node,.int .i64 x.u.id.boot,.int .i64 x.u.id.seq,.string (str x.u.key),.slice x.q x.u.parts.length x.c] 54):=⟨_,rfl⟩;have sa:wa.heap.size=w0.heap.size+1:=by rw [hwa];simp
 have owa:Only [] w0 wa:=(by rw [hwa];exact Only.alloc _ _);have owab:Only [] wa wb:=(by rw [hwb];exact Only.alloc _ _);have owb:Only [] w0 wb:=owa.trans0 owab;have rk:Row wb w0.heap.size 31 (idCells k):=(show Row wa w0.heap.size 31 (idCells k) by rw [hwa];exact Row.newOf _ _ _ _ rfl).only0 owab;have rb:Row wb (w0.heap.size+1) 54 [.int .i64 x.u.id.node,.int .i64 x.u.id.boot,.int .i64 x.u.id.seq,.string (str x.u.key),.slice x.q x.u.parts.length x.c]:=(by rw [← sa,hwb];exact Row.newOf _ _ _ _ rfl);have k0:=rk.cell (i:=0) rfl;have k1:=rk.cell (i:=1) rfl;have k2:=rk.cell (i:=2) rfl
 rw [hwa] at hwb;unfold idV;clear rk owab owa sa hwa;have hbs:=bsfUp_any p n c xs k wb hn (by omega) (fun h=>(hown.view.2.2.2.1 h).1) (hown.view.2.2.1.only0 owb) hs;rw [hi,hbt] at hbs;unfold idV at hbs;have Hw:=Lib.hid hwb;have Ho:=Lib.hid owb;have Hrb:=Lib.hid rb;have Hb:=Lib.hid hbs;have hile2:(i:Int)≤(n:Int):=by omega
 cases b with
 | true =>
  have hput:YS=xs.set i x:=(by rw [← hYS];unfold putL;rw [hbt,if_pos rfl,hi]);obtain ⟨y,hy,-⟩:=there_at hbt;rw [hi] at hy;have hin:i < n:=(by have:=(List.getElem?_eq_some_iff.1 hy).1;omega);have hini:(i:Int) < (n:Int):=(by omega);obtain ⟨g,-,rfl,-,-⟩:=hown.rowOf (by omega);obtain ⟨rest,hrow,hlen,hnc,hcm,hgb,-⟩:=hown.row;have hYl:YS.length=n:=(by rw [hput,List.length_set,hn]);rw [hYl];have Hrow:=Lib.hid hrow;have HF:Hid (YS=xs.set i x∧xs[i]?=some y∧xs.length=n∧base≤g∧n≤c∧c≤9223372036854775807∧(xs.flatMap luCells ++ rest).length=c * 5):=Lib.hid ⟨hput,hy,hn,hgb,hnc,hcm,hlen⟩
  clear hYS hi hbt hwb owb rb hbs hput hy hown hrow hlen hnc hcm hgb hYl hn hs;unfold luV
  go_enter Tryz.func100,Tryz.ntmps100
  go_wp2_with fail;rw [← Hw.out];refine Hb.out.mono ?_;clear k0 k1 k2;rintro e1 w1 ⟨rfl,o1⟩;have o01:Only [] w0 w1:=Ho.out.trans0 o1;have r1:=Hrow.out.only0 o01;have rx:=Hrb.out.only0 o1;obtain ⟨h1,hy,hn,hgb,hnc,hcm,hlen⟩:=HF.out;have hra:=flat_recAt (rest:=rest) luCells_len hy;have x0:=hra.cell r1 (r:=0) rfl;have x1:=hra.cell r1 (r:=1) rfl;have x2:=hra.cell r1 (r:=2) rfl;have x3:=hra.cell r1 (r:=3) rfl;have x4:=hra.cell r1 (r:=4) rfl;rw [Nat.add_zero] at x0;have y0:=r1.free (i * 5);have y1:=r1.free (i * 5+1);have y2:=r1.free (i * 5+2)
  have y3:=r1.free (i * 5+3);have y4:=r1.free (i * 5+4);have a0:=rx.cell (i:=0) rfl;have a1:=rx.cell (i:=1) rfl;have a2:=rx.cell (i:=2) rfl;have a3:=rx.cell (i:=3) rfl;have a4:=rx.cell (i:=4) rfl;obtain ⟨wz,hwz⟩:∃ wz,wz=(((((w1.setCell ⟨g,i * 5,none⟩ (.int .i64 x.u.id.node)).setCell ⟨g,i * 5+1,none⟩ (.int .i64 x.u.id.boot)).setCell ⟨g,i * 5+2,none⟩ (.int .i64 x.u.id.seq)).setCell ⟨g,i * 5+3,none⟩ (.string (str x.u.key))).setCell ⟨g,i * 5+4,none⟩ (.slice x.q x.u.parts.length x.c)):=⟨_,rfl⟩;have ozz:Only [g] w1 wz:=by rw [hwz];exact (((((Only.setCell _ ⟨g,i * 5,none⟩ _).trans (Only.setCell _ ⟨g,i * 5+1,none⟩ _) (fun _ h _=>h)).trans (Only.setCell _ ⟨g,i * 5+2,none⟩ _) (fun _ h _=>h)).trans (Only.setCell _ ⟨g,i * 5+3,none⟩ _) (fun _ h _=>h)).trans (Only.setCell _ ⟨g,i * 5+4,none⟩ _) (fun _ h _=>h))
  have hra2:=(((((hra.set (i:=0) (.int .i64 x.u.id.node) (by simp only [List.length_set,luCells_len];omega)).set (i:=1) (.int .i64 x.u.id.boot) (by simp only [List.length_set,luCells_len];omega)).set (i:=2) (.int .i64 x.u.id.seq) (by simp only [List.length_set,luCells_len];omega)).set (i:=3) (.string (str x.u.key)) (by simp only [List.length_set,luCells_len];omega)).set (i:=4) (.slice x.q x.u.parts.length x.c) (by simp only [List.length_set,luCells_len];omega));have hrz:=(((((r1.setCell (i * 5) (.int .i64 x.u.id.node)).setCell (i * 5+1) (.int .i64 x.u.id.boot)).setCell (i * 5+2) (.int .i64 x.u.id.seq)).setCell (i * 5+3) (.string (str x.u.key))).setCell (i * 5+4) (.slice x.q x.u.parts.length x.c))
  rw [← hwz] at hrz;have hE:=OwnK.setRec (y:=x) (by omega) luCells_len hgb hn hin hnc hcm hlen hrz (((((Outside.set (i * 5) 5 _ (i:=i * 5) (.int .i64 x.u.id.node) (by omega) (by omega)).trans (Outside.set (i * 5) 5 _ (i:=i * 5+1) (.int .i64 x.u.id.boot) (by omega) (by omega))).trans (Outside.set (i * 5) 5 _ (i:=i * 5+2) (.int .i64 x.u.id.seq) (by omega) (by omega))).trans (Outside.set (i * 5) 5 _ (i:=i * 5+3) (.string (str x.u.key)) (by omega) (by omega))).trans (Outside.set (i * 5) 5 _ (i:=i * 5+4) (.slice x.q x.u.parts.length x.c) (by omega) (by omega))) hra2;rw [← h1] at hE
  have HE:Hid (OwnK wz base 54 5 (.slice (some ⟨g,0,none⟩) n c) n (YS.flatMap luCells)∧Only (blk (some (⟨g,0,none⟩:Addr))) w0 wz):=Lib.hid ⟨hE,(o01.mono (fun _ h=>by cases h)).trans ozz (fun _ h _=>h)⟩;have Hz:=Lib.hid hwz;clear hwz ozz hra hra2 hrz hE r1 rx o1 o01 h1 hy hn hgb hnc hcm hlen HF Hrow Hrb Hb;go_wp2_with fail;rw [← Hz.out]
  go_ret
  exact ⟨_,_,rfl,HE.out.1,HE.out.2,fun z hz=>.inl hz⟩
 | false =>
  have hput:YS=xs.take i ++ x :: xs.drop i:=(by rw [← hYS];unfold putL;rw [hbt,if_neg (by simp),hi]);have hYl:YS.length=n+1:=(by rw [hput];simp;omega);rw [hYl];have HF:Hid (YS=xs.take i ++ x :: xs.drop i∧xs.length=n∧OwnK w0 base 54 5 (.slice p n c) n (xs.flatMap luCells)):=Lib.hid ⟨hput,hn,hown⟩;clear hYS hi hbt hwb owb rb hbs hput hown hYl hn hs;unfold luV
  go_enter Tryz.func100,Tryz.ntmps100
  go_wp2_with fail;rw [← Hw.out];refine Hb.out.mono ?_;clear k0 k1 k2;rintro e1 w1 ⟨rfl,o1⟩;have o01:Only [] w0 w1:=Ho.out.trans0 o1;have rx:=Hrb.out.only0 o1;obtain ⟨h1,hn,hown⟩:=HF.out;obtain ⟨wv,hwv⟩:∃ wv,wv=w1.alloc (.cells #[.int .i64 x.u.id.node,.int .i64 x.u.id.boot,.int .i64 x.u.id.seq,.string (str x.u.key),.slice x.q x.u.parts.length x.c] 54):=⟨_,rfl⟩;have ov:Only [] w1 wv:=(by rw [hwv];exact Only.alloc _ _);have rv:Row wv w1.heap.size 54 (luCells x):=(by rw [hwv];exact Row.newOf _ _ _ _ rfl);have hlo:=hown.view.2.2.2.2.2.2;have hsz:=o01.size
  have hins:=insUp_any p n c xs x i w1.heap.size base wv (hown.only0 (o01.trans0 ov)) (by have:=ov.size;omega) hn hile (by omega) rv (fun hm=>by have:=(hlo _ hm).2;omega);rw [← h1] at hins;have Hi:=Lib.hid hins;have Hv:=Lib.hid hwv;have Hov:Hid (Only [] w0 wv):=Lib.hid (o01.trans0 ov);have a0:=rx.cell (i:=0) rfl;have a1:=rx.cell (i:=1) rfl;have a2:=rx.cell (i:=2) rfl;have a3:=rx.cell (i:=3) rfl;have a4:=rx.cell (i:=4) rfl;clear hins hwv ov rv hlo rx o1 h1 hn hown HF Hrb Hb;go_wp2_with fail;rw [← Hv.out];refine Hi.out.mono ?_;rintro e2 w2 ⟨p',c',rfl,h1,h2,h3⟩
  have HE:Hid (OwnK w2 base 54 5 (.slice p' (n+1) c') (n+1) (YS.flatMap luCells)∧Only (blk p) w0 w2∧∀ z∈blk p',z∈blk p∨w0.heap.size≤z):=Lib.hid ⟨h1,(Hov.out.mono (fun _ h=>by cases h)).trans h2 (fun _ h _=>h),fun z hz=>(h3 z hz).imp id (fun h=>by have:=Hov.out.size;omega)⟩;clear h1 h2 h3 Hi Hv Hov;go_wp2_with fail
  go_ret
  exact ⟨_,_,rfl,HE.out⟩
end
end Go.Proofs.YtfeglnpmpgipiaaGreatDoor
