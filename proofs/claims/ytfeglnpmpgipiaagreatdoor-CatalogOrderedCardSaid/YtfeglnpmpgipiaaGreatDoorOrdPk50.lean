/- OrdPk, part 50: OrderedW. -/
import Derived.Test.YtfeglnpmpgipiaaGreatDoorOrdPk06
import Derived.Test.YtfeglnpmpgipiaaGreatDoorOrdPk10
import Derived.Test.YtfeglnpmpgipiaaGreatDoorOrdPk12
import Derived.Test.YtfeglnpmpgipiaaGreatDoorOrdPk23
set_option linter.unusedVariables false
set_option maxRecDepth 100000
set_option linter.unusedSimpArgs false
namespace Go.Proofs.YtfeglnpmpgipiaaGreatDoor
section
open Go.RowKit
theorem pw_lt {α κ:Type} {key:α→κ} {l:κ→κ→Prop} {xs:List α} (h:SortB key l xs) {i:Nat} (hi:0 < i) {x y:α} (hx:xs[i]?=some x) (hy:xs[i - 1]?=some y):l (key y) (key x):=by
 obtain ⟨h1,e1⟩:=List.getElem?_eq_some_iff.1 hx;obtain ⟨h2,e2⟩:=List.getElem?_eq_some_iff.1 hy;have:=List.pairwise_iff_getElem.1 h (i - 1) i h2 h1 (by omega);rw [e1,e2] at this;exact this
theorem SortB_map_name {bs:List LBk} (h:SortB CBuck.name lt (bs.map LBk.b)):SortB LBk.name lt bs:=sortB_map (key:=LBk.name) LBk.b (fun _=>rfl) h
theorem SortB_map_key {bs:List LObj} (h:SortB CObj.key lt (bs.map LObj.o)):SortB (fun x:LObj=>x.o.key) lt bs:=sortB_map (key:=fun x:LObj=>x.o.key) LObj.o (fun _=>rfl) h
theorem SortB_map_id {bs:List LUpl} (h:SortB CUpl.id ltI (bs.map LUpl.u)):SortB (fun x:LUpl=>x.u.id) ltI bs:=sortB_map (key:=fun x:LUpl=>x.u.id) LUpl.u (fun _=>rfl) h
theorem sizes_range {ps:List Pc} (h:∀ p∈ps,PcOk p):∀ t:Nat,0≤sizes (ps.take t)∧sizes (ps.take t)≤1024 * t:=by
 intro t
 induction t with
 | zero=>simp [sizes]
 | succ t ih =>
  rw [List.take_add_one]
  cases hp:ps[t]? with
  | none=>simp [sizes] at ih ⊢;omega
  | some p =>
   have:=h p (List.mem_of_getElem? hp);have h1:=this.lo;have h2:=this.hi
   simp [sizes,List.map_append,List.sum_append] at ih ⊢
   omega
set_option maxHeartbeats 16000000 in
theorem ordered_any (L:LCat) (w0:World) (hA:CatAt w0 L) (hok:CatOk L.cat):Calls Tryz.prog 20 #[lcV L] w0 fun e w'=>e=.returned (.bool true)∧Only [] w0 w':=by
 obtain ⟨nb,hnb⟩:∃ k,L.bs.length=k:=⟨_,rfl⟩;obtain ⟨nf,hnf⟩:∃ k,L.fs.length=k:=⟨_,rfl⟩;obtain ⟨pb,hpb⟩:∃ p,L.pb=p:=⟨_,rfl⟩;obtain ⟨pf,hpf⟩:∃ p,L.pf=p:=⟨_,rfl⟩;rw [show lcV L=.agg #[.slice pb nb L.cb,.slice pf nf L.cf] by unfold lcV;rw [hnb,hnf,hpb,hpf]];obtain ⟨w1,hw1⟩:∃ w1,w1=w0.alloc (.cells #[.slice pb nb L.cb,.slice pf nf L.cf] 29):=⟨_,rfl⟩;have o1:Only [] w0 w1:=(by rw [hw1];exact Only.alloc _ _);have r1:Row w1 w0.heap.size 29 [.slice pb nb L.cb,.slice pf nf L.cf]:=(by rw [hw1];exact Row.newOf _ _ _ _ rfl);have hnb16:nb≤16:=by have:=len_bs hok;omega
 have hnf16:nf≤16:=(by have:=hok.flen;rw [show L.cat.floors=L.fs from rfl] at this;omega);have HA:=Lib.hid (hA.only0 o1);have Hok:=Lib.hid hok;have HO:=Lib.hid o1;have HN:Hid (L.bs.length=nb∧L.fs.length=nf∧L.pb=pb∧L.pf=pf):=Lib.hid ⟨hnb,hnf,hpb,hpf⟩;have Hw:=Lib.hid hw1;have HR:=Lib.hid r1;have c0:=r1.cell (i:=0) rfl;have c1:=r1.cell (i:=1) rfl;clear hA hok o1 hnb hnf hpb hpf hw1 r1
 go_enter Tryz.func20,Tryz.ntmps20
 go_upto_region 1 with (fail)
 rw [← Hw.out];clear Hw;go_wp2_with fail;clear c0 c1
 go_loopw [29] (fun a wl=>∃ i:Nat,a=.int .i64 (i:Int)∧i≤nb∧Hid (Only [] w1 wl)) (fun a _=>nb - (intOf a).toNat)
 case atStart=>exact ⟨0,rfl,Nat.zero_le _,Lib.hid (Only.refl _ _)⟩
 case round =>
  obtain ⟨i,rfl,hi,HO2⟩:=hrel;obtain ⟨w2,rfl⟩:∃ w2,w2=wr:=⟨_,rfl⟩
  by_cases hlt:i < nb
  ·obtain ⟨b,hb⟩:∃ b,L.bs[i]?=some b:=⟨_,List.getElem?_eq_getElem (by rw [HN.out.1];assumption)⟩;have hrd:=(HA.out.sb.only0 HO2.out).1;have hne:L.bs.flatMap lbCells≠[]:=fun e'=>(by have:=flat_get lbCells 5 lbCells_len L.bs _ b 0 hb (by omega);rw [e'] at this;cases this);obtain ⟨bq,off,hg,-⟩:=hrd.lt hne;rw [hg] at hrd;obtain rfl:=HN.out.2.2.1.symm.trans hg;clear hg;have d0:=rd_elem lbCells_len hrd hb (r:=0) rfl;have d1:=rd_elem lbCells_len hrd hb (r:=1) rfl;have d2:=rd_elem lbCells_len hrd hb (r:=2) rfl;have d3:=rd_elem lbCells_len hrd hb (r:=3) rfl
   have d4:=rd_elem lbCells_len hrd hb (r:=4) rfl;rw [Addr.add_lit,← Nat.add_assoc] at d0 d1 d2 d3 d4;rw [Nat.add_zero] at d0;clear hne;have hbm:=List.mem_of_getElem? hb;obtain ⟨no,hno⟩:∃ n,b.os.length=n:=⟨_,rfl⟩;obtain ⟨nu,hnu⟩:∃ n,b.us.length=n:=⟨_,rfl⟩;obtain ⟨po,hpo⟩:∃ n,b.po=n:=⟨_,rfl⟩;obtain ⟨pu,hpu⟩:∃ n,b.pu=n:=⟨_,rfl⟩;rw [hno,hpo] at d3;rw [hnu,hpu] at d4;have hbk:=bkOk_of Hok.out hbm;have hno8:no≤128:=(by have:=len_os hbk;omega);have hnu8:nu≤16:=(by have:=len_us hbk;omega);have hno8b:¬ ((128:Int) < (no:Int)):=by omega
   have hnu8b:¬ ((16:Int) < (nu:Int)):=(by omega);have HB:Hid (b.os.length=no∧b.us.length=nu∧b.po=po∧b.pu=pu∧BkAt w1 b∧BkOk b.b):=Lib.hid ⟨hno,hnu,hpo,hpu,HA.out.bk b hbm,hbk⟩;have Hb:=Lib.hid hb;have Hrd:=Lib.hid hrd;clear hb hbm hno hnu hpo hpu hbk hrd
   go_upto_region 6 with (fail)
   obtain ⟨w3,hw3⟩:∃ w3,w3=w2.alloc (.cells #[.string (str b.name),.int .i64 b.time,.int .i64 b.days,.slice po no b.co,.slice pu nu b.cu] 60):=⟨_,rfl⟩;have o3:Only [] w2 w3:=(by rw [hw3];exact Only.alloc _ _);have r3:Row w3 w2.heap.size 60 [.string (str b.name),.int .i64 b.time,.int .i64 b.days,.slice po no b.co,.slice pu nu b.cu]:=(by rw [hw3];exact Row.newOf _ _ _ _ rfl);rw [← hw3];have HO3:=Lib.hid (HO2.out.trans0 o3);have H1:=Lib.hid (HR.out.only0 HO3.out);have H3:=Lib.hid r3;have hrd3:=Hrd.out.only0 o3;have c0:=H1.out.cell (i:=0) rfl;have e0:=r3.cell (i:=0) rfl
   have e3:=r3.cell (i:=3) rfl;have e4:=r3.cell (i:=4) rfl;have Hrd3:=Lib.hid hrd3;clear hw3 o3 r3 d0 d1 d2 d3 d4 hrd3
   go_cut [59] from 34 to 59 (fun b wx=>b=.bool false∧Hid (Only [] w3 wx))
   case first =>
    by_cases hi0:0 < i
    rotate_left
    ·obtain rfl:i=0:=(by omega);have q0:¬ ((0:Int) < ((0:Nat):Int)):=(by omega);clear hi0 Hb Hrd3;refine wp_region_rg2 (Only []) [[(3,none)],[(34,some 0)],[(35,some 0)],[(36,some 0),(1,none)],[(36,some 1),(37,some 0)],[(36,some 2),(3,none)],[(36,some 3),(39,some 0)],[(36,some 4),(38,some 2),(40,some 0)],[(36,some 5),(41,some 0)],[(36,some 6),(42,some 0)],[(36,some 7),(4,none)],[(36,some 8),(44,some 0)],[(36,some 9),(43,some 2),(45,some 0)],[(36,some 10),(46,some 0)],[(47,some 0)],[(48,some 0),(4,none)],[(48,some 1),(49,some 0)],[(48,some 2),(50,some 0)],[(48,some 3),(51,some 0)],[(48,some 4),(52,some 0)],[(53,some 0)],[(54,some 0),(4,none)],[(54,some 1),(55,some 0)],[(54,some 2),(56,some 0)],[(54,some 3),(57,some 0)],[(54,some 4),(58,some 0)]] [(59,0)] [none,none,none,none,none,none,none,none,none,none,none,none,none,none,none,none,none,none,none,none,none,none,none,none,none,none,none,none,none,none,none,none,none,none,some 34,some 35,some 36,some 37,some 38,some 39,some 40,some 41,some 42,some 43,some 44,some 45,some 46,some 47,some 48,some 49,some 50,some 51,some 52,some 53,some 54,some 55,some 56,some 57,some 58,some 59,none,none,none,none,none,none,none,none,none,none,none,none,none,none,none,none,none,none,none,none,none,none,none,none,none,none,none,none,none,none,none,none,none,none,none,none,none,none,none,none,none,none,none,none,none,none,none,none,none,none,none,none,none,none,none,none,none,none,none,none,none,none,none,none,none,none,none,none,none,none,none,none,none,none,none,none,none,none,none,none,none,none,none,none,none,none,none,none,none,none,none,none,none,none,none,none,none,none,none,none,none,none,none,none,none,none,none,none,none,none,none,none,none,none,none,none,none,none,none,none,none,none,none,none,none,none,none,none] (by kernel_rfl) rfl (by kernel_rfl) (fun _=>Only.refl _ _) (fun _ _ _ h k=>h.trans0 k) (Only.drew _) (by kernel_rfl) ?_
     apply rg_ev
     ·rintro a w hR ⟨(e3:_=_),-⟩;refine rg_plain rfl fun K hK=>?_;go_simp;exact hK _ _ rfl (Only.refl _ _)
     apply rg_ev
     ·rintro a w hR ⟨(e34:_=_),-⟩;refine rg_plain rfl fun K hK=>?_;go_simp;exact hK _ _ rfl (Only.refl _ _)
     apply rg_ev
     ·rintro a w hR ⟨(e35:_=_),-⟩;refine rg_plain rfl fun K hK=>?_;go_simp;exact hK _ _ rfl (Only.refl _ _)
     apply rg_ev
     ·rintro a w hR ⟨(e36:_=_),(e1:_=_),-⟩;exact rg_skip rfl rfl e36 rfl
     apply rg_ev
     ·rintro a w hR ⟨(e36:_=_),(e37:_=_),-⟩;exact rg_skip rfl rfl e36 rfl
     apply rg_ev
     ·rintro a w hR ⟨(e36:_=_),(e3:_=_),-⟩;exact rg_skip rfl rfl e36 rfl
     apply rg_ev
     ·rintro a w hR ⟨(e36:_=_),(e39:_=_),-⟩;exact rg_skip rfl rfl e36 rfl
     apply rg_ev
     ·rintro a w hR ⟨(e36:_=_),(e38:_=_),(e40:_=_),-⟩;exact rg_skip rfl rfl e36 rfl
     apply rg_ev
     ·rintro a w hR ⟨(e36:_=_),(e41:_=_),-⟩;exact rg_skip rfl rfl e36 rfl
     apply rg_ev
     ·rintro a w hR ⟨(e36:_=_),(e42:_=_),-⟩;exact rg_skip rfl rfl e36 rfl
     apply rg_ev
     ·rintro a w hR ⟨(e36:_=_),(e4:_=_),-⟩;exact rg_skip rfl rfl e36 rfl
     apply rg_ev
     ·rintro a w hR ⟨(e36:_=_),(e44:_=_),-⟩;exact rg_skip rfl rfl e36 rfl
     apply rg_ev
     ·rintro a w hR ⟨(e36:_=_),(e43:_=_),(e45:_=_),-⟩;exact rg_skip rfl rfl e36 rfl
     apply rg_ev
     ·rintro a w hR ⟨(e36:_=_),(e46:_=_),-⟩;refine rg_plain rfl fun K hK=>?_;go_simp;exact hK _ _ rfl (Only.refl _ _)
     apply rg_ev
     ·rintro a w hR ⟨(e47:_=_),-⟩;refine rg_plain rfl fun K hK=>?_;go_simp;exact hK _ _ rfl (Only.refl _ _)
     apply rg_ev
     ·rintro a w hR ⟨(e48:_=_),(e4:_=_),-⟩;refine rg_want rfl rfl e48 fun K hK=>?_;clear e48;go_simp;exact hK _ _ rfl (Only.refl _ _)
     apply rg_ev
     ·rintro a w hR ⟨(e48:_=_),(e49:_=_),-⟩;refine rg_want rfl rfl e48 fun K hK=>?_;clear e48;have g16:=hR.cell e3 (by simp);go_simp;exact hK _ _ rfl (Only.refl _ _)
     apply rg_ev
     ·rintro a w hR ⟨(e48:_=_),(e50:_=_),-⟩;refine rg_want rfl rfl e48 fun K hK=>?_;clear e48;go_simp;exact hK _ _ rfl (Only.refl _ _)
     apply rg_ev
     ·rintro a w hR ⟨(e48:_=_),(e51:_=_),-⟩;refine rg_want rfl rfl e48 fun K hK=>?_;clear e48;go_simp;exact hK _ _ rfl (Only.refl _ _)
     apply rg_ev
     ·rintro a w hR ⟨(e48:_=_),(e52:_=_),-⟩;refine rg_plain rfl fun K hK=>?_;go_simp;exact hK _ _ rfl (Only.refl _ _)
     apply rg_ev
     ·rintro a w hR ⟨(e53:_=_),-⟩;refine rg_plain rfl fun K hK=>?_;go_simp;exact hK _ _ rfl (Only.refl _ _)
     apply rg_ev
     ·rintro a w hR ⟨(e54:_=_),(e4:_=_),-⟩;refine rg_want rfl rfl e54 fun K hK=>?_;clear e54;go_simp;exact hK _ _ rfl (Only.refl _ _)
     apply rg_ev
     ·rintro a w hR ⟨(e54:_=_),(e55:_=_),-⟩;refine rg_want rfl rfl e54 fun K hK=>?_;clear e54;have g22:=hR.cell e4 (by simp);go_simp;exact hK _ _ rfl (Only.refl _ _)
     apply rg_ev
     ·rintro a w hR ⟨(e54:_=_),(e56:_=_),-⟩;refine rg_want rfl rfl e54 fun K hK=>?_;clear e54;go_simp;exact hK _ _ rfl (Only.refl _ _)
     apply rg_ev
     ·rintro a w hR ⟨(e54:_=_),(e57:_=_),-⟩;refine rg_want rfl rfl e54 fun K hK=>?_;clear e54;go_simp;exact hK _ _ rfl (Only.refl _ _)
     apply rg_ev
     ·rintro a w hR ⟨(e54:_=_),(e58:_=_),-⟩;refine rg_plain rfl fun K hK=>?_;go_simp;exact hK _ _ rfl (Only.refl _ _)
     intro f w hR hf;dsimp only [mergeT];obtain ⟨e59,-⟩:=hf;replace e59:f 59=_:=e59;rw [e59];go_wp2_with fail
     go_meet
     exact ⟨rfl,Lib.hid hR⟩
    ·obtain ⟨b9,hb9⟩:∃ b9,L.bs[i - 1]?=some b9:=⟨_,List.getElem?_eq_getElem (by rw [HN.out.1];omega)⟩;have Hlt:=pw_lt (SortB_map_name Hok.out.bs) hi0 Hb.out hb9;have q0:(0:Int) < (i:Int):=(by omega);have q1:wrap64 ((i:Int) - 1)=((i - 1:Nat):Int):=(by rw [IntWalk.wrap64_in _ (by omega)];omega);have q2:IntKind.i64.wrap ((i:Int) - 1)=((i - 1:Nat):Int):=(by rw [IntWalk.i64_in _ (by omega)];omega);have q3:i - 1 < nb:=(by omega);have hp0:=rd_elem lbCells_len Hrd3.out hb9 (r:=0) rfl;rw [Addr.add_lit,← Nat.add_assoc] at hp0;rw [Nat.add_zero] at hp0
     have hcl:=str_ltb b9.name b.name;rw [decide_eq_true Hlt] at hcl;clear hb9 Hlt Hrd3 Hb;refine wp_region_rg2 (Only []) [[(3,none)],[(34,some 0)],[(35,some 0)],[(36,some 0),(1,none)],[(36,some 1),(37,some 0)],[(36,some 2),(3,none)],[(36,some 3),(39,some 0)],[(36,some 4),(38,some 2),(40,some 0)],[(36,some 5),(41,some 0)],[(36,some 6),(42,some 0)],[(36,some 7),(4,none)],[(36,some 8),(44,some 0)],[(36,some 9),(43,some 2),(45,some 0)],[(36,some 10),(46,some 0)],[(47,some 0)],[(48,some 0),(4,none)],[(48,some 1),(49,some 0)],[(48,some 2),(50,some 0)],[(48,some 3),(51,some 0)],[(48,some 4),(52,some 0)],[(53,some 0)],[(54,some 0),(4,none)],[(54,some 1),(55,some 0)],[(54,some 2),(56,some 0)],[(54,some 3),(57,some 0)],[(54,some 4),(58,some 0)]] [(59,0)] [none,none,none,none,none,none,none,none,none,none,none,none,none,none,none,none,none,none,none,none,none,none,none,none,none,none,none,none,none,none,none,none,none,none,some 34,some 35,some 36,some 37,some 38,some 39,some 40,some 41,some 42,some 43,some 44,some 45,some 46,some 47,some 48,some 49,some 50,some 51,some 52,some 53,some 54,some 55,some 56,some 57,some 58,some 59,none,none,none,none,none,none,none,none,none,none,none,none,none,none,none,none,none,none,none,none,none,none,none,none,none,none,none,none,none,none,none,none,none,none,none,none,none,none,none,none,none,none,none,none,none,none,none,none,none,none,none,none,none,none,none,none,none,none,none,none,none,none,none,none,none,none,none,none,none,none,none,none,none,none,none,none,none,none,none,none,none,none,none,none,none,none,none,none,none,none,none,none,none,none,none,none,none,none,none,none,none,none,none,none,none,none,none,none,none,none,none,none,none,none,none,none,none,none,none,none,none,none,none,none,none,none,none,none] (by kernel_rfl) rfl (by kernel_rfl) (fun _=>Only.refl _ _) (fun _ _ _ h k=>h.trans0 k) (Only.drew _) (by kernel_rfl) ?_
     apply rg_ev
     ·rintro a w hR ⟨(e3:_=_),-⟩;refine rg_plain rfl fun K hK=>?_;go_simp;exact hK _ _ rfl (Only.refl _ _)
     apply rg_ev
     ·rintro a w hR ⟨(e34:_=_),-⟩;refine rg_plain rfl fun K hK=>?_;go_simp;exact hK _ _ rfl (Only.refl _ _)
     apply rg_ev
     ·rintro a w hR ⟨(e35:_=_),-⟩;refine rg_plain rfl fun K hK=>?_;go_simp;exact hK _ _ rfl (Only.refl _ _)
     apply rg_ev
     ·rintro a w hR ⟨(e36:_=_),(e1:_=_),-⟩;refine rg_want rfl rfl e36 fun K hK=>?_;clear e36;go_simp;exact hK _ _ rfl (Only.refl _ _)
     apply rg_ev
     ·rintro a w hR ⟨(e36:_=_),(e37:_=_),-⟩;refine rg_want rfl rfl e36 fun K hK=>?_;clear e36;have g4:=hR.cell c0 (by simp);go_simp;exact hK _ _ rfl (Only.refl _ _)
     apply rg_ev
     ·rintro a w hR ⟨(e36:_=_),(e3:_=_),-⟩;refine rg_want rfl rfl e36 fun K hK=>?_;clear e36;go_simp;exact hK _ _ rfl (Only.refl _ _)
     apply rg_ev
     ·rintro a w hR ⟨(e36:_=_),(e39:_=_),-⟩;refine rg_want rfl rfl e36 fun K hK=>?_;clear e36;go_simp;exact hK _ _ rfl (Only.refl _ _)
     apply rg_ev
     ·rintro a w hR ⟨(e36:_=_),(e38:_=_),(e40:_=_),-⟩;refine rg_want rfl rfl e36 fun K hK=>?_;clear e36;go_simp;exact hK _ _ rfl (Only.refl _ _)
     apply rg_ev
     ·rintro a w hR ⟨(e36:_=_),(e41:_=_),-⟩;refine rg_want rfl rfl e36 fun K hK=>?_;clear e36;go_simp;exact hK _ _ rfl (Only.refl _ _)
     apply rg_ev
     ·rintro a w hR ⟨(e36:_=_),(e42:_=_),-⟩;refine rg_want rfl rfl e36 fun K hK=>?_;clear e36;have g9:=hR.cell hp0 (by simp);go_simp;exact hK _ _ rfl (Only.refl _ _)
     apply rg_ev
     ·rintro a w hR ⟨(e36:_=_),(e4:_=_),-⟩;refine rg_want rfl rfl e36 fun K hK=>?_;clear e36;go_simp;exact hK _ _ rfl (Only.refl _ _)
     apply rg_ev
     ·rintro a w hR ⟨(e36:_=_),(e44:_=_),-⟩;refine rg_want rfl rfl e36 fun K hK=>?_;clear e36;have g11:=hR.cell e0 (by simp);go_simp;exact hK _ _ rfl (Only.refl _ _)
     apply rg_ev
     ·rintro a w hR ⟨(e36:_=_),(e43:_=_),(e45:_=_),-⟩;refine rg_want rfl rfl e36 fun K hK=>?_;clear e36;go_simp;exact hK _ _ rfl (Only.refl _ _)
     apply rg_ev
     ·rintro a w hR ⟨(e36:_=_),(e46:_=_),-⟩;refine rg_plain rfl fun K hK=>?_;go_simp;exact hK _ _ rfl (Only.refl _ _)
     apply rg_ev
     ·rintro a w hR ⟨(e47:_=_),-⟩;refine rg_plain rfl fun K hK=>?_;go_simp;exact hK _ _ rfl (Only.refl _ _)
     apply rg_ev
     ·rintro a w hR ⟨(e48:_=_),(e4:_=_),-⟩;refine rg_want rfl rfl e48 fun K hK=>?_;clear e48;go_simp;exact hK _ _ rfl (Only.refl _ _)
     apply rg_ev
     ·rintro a w hR ⟨(e48:_=_),(e49:_=_),-⟩;refine rg_want rfl rfl e48 fun K hK=>?_;clear e48;have g16:=hR.cell e3 (by simp);go_simp;exact hK _ _ rfl (Only.refl _ _)
     apply rg_ev
     ·rintro a w hR ⟨(e48:_=_),(e50:_=_),-⟩;refine rg_want rfl rfl e48 fun K hK=>?_;clear e48;go_simp;exact hK _ _ rfl (Only.refl _ _)
     apply rg_ev
     ·rintro a w hR ⟨(e48:_=_),(e51:_=_),-⟩;refine rg_want rfl rfl e48 fun K hK=>?_;clear e48;go_simp;exact hK _ _ rfl (Only.refl _ _)
     apply rg_ev
     ·rintro a w hR ⟨(e48:_=_),(e52:_=_),-⟩;refine rg_plain rfl fun K hK=>?_;go_simp;exact hK _ _ rfl (Only.refl _ _)
     apply rg_ev
     ·rintro a w hR ⟨(e53:_=_),-⟩;refine rg_plain rfl fun K hK=>?_;go_simp;exact hK _ _ rfl (Only.refl _ _)
     apply rg_ev
     ·rintro a w hR ⟨(e54:_=_),(e4:_=_),-⟩;refine rg_want rfl rfl e54 fun K hK=>?_;clear e54;go_simp;exact hK _ _ rfl (Only.refl _ _)
     apply rg_ev
     ·rintro a w hR ⟨(e54:_=_),(e55:_=_),-⟩;refine rg_want rfl rfl e54 fun K hK=>?_;clear e54;have g22:=hR.cell e4 (by simp);go_simp;exact hK _ _ rfl (Only.refl _ _)
     apply rg_ev
     ·rintro a w hR ⟨(e54:_=_),(e56:_=_),-⟩;refine rg_want rfl rfl e54 fun K hK=>?_;clear e54;go_simp;exact hK _ _ rfl (Only.refl _ _)
     apply rg_ev
     ·rintro a w hR ⟨(e54:_=_),(e57:_=_),-⟩;refine rg_want rfl rfl e54 fun K hK=>?_;clear e54;go_simp;exact hK _ _ rfl (Only.refl _ _)
     apply rg_ev
     ·rintro a w hR ⟨(e54:_=_),(e58:_=_),-⟩;refine rg_plain rfl fun K hK=>?_;go_simp;exact hK _ _ rfl (Only.refl _ _)
     intro f w hR hf;dsimp only [mergeT];obtain ⟨e59,-⟩:=hf;replace e59:f 59=_:=e59;rw [e59];go_wp2_with fail
     go_meet
     exact ⟨rfl,Lib.hid hR⟩
   case rest =>
   obtain ⟨rfl,HOc⟩:=hcut;clear c0 e0 e3 e4 Hb Hrd3;have e3:=(H3.out.only0 HOc.out).cell (i:=3) rfl;go_wp2_with fail;clear e3
   go_loopw [63] (fun a wl=>∃ j:Nat,a=.int .i64 (j:Int)∧j≤no∧Hid (Only [] w1 wl)∧Hid (Only [] w3 wl)) (fun a _=>no - (intOf a).toNat)
   case atStart=>exact ⟨0,rfl,Nat.zero_le _,Lib.hid (HO3.out.trans0 HOc.out),HOc⟩
   case round =>
    clear HO3 HOc;obtain ⟨j,rfl,hj,HO4,HO34⟩:=hrel;obtain ⟨w4,rfl⟩:∃ w4,w4=wr:=⟨_,rfl⟩
    by_cases hlt2:j < no
    ·have hlq:=hlt2;obtain ⟨x,hx⟩:∃ x,b.os[j]?=some x:=⟨_,List.getElem?_eq_getElem (by rw [HB.out.1];assumption)⟩;have hrd:=(HB.out.2.2.2.2.1.so.only0 HO4.out).1;have hne:b.os.flatMap loCells≠[]:=fun e'=>(by have:=flat_get loCells 5 loCells_len b.os _ x 0 hx (by omega);rw [e'] at this;cases this);obtain ⟨bq,off,hg,-⟩:=hrd.lt hne;rw [hg] at hrd;obtain rfl:=HB.out.2.2.1.symm.trans hg;clear hg;have d0:=rd_elem loCells_len hrd hx (r:=0) rfl;have d1:=rd_elem loCells_len hrd hx (r:=1) rfl;have d2:=rd_elem loCells_len hrd hx (r:=2) rfl;have d3:=rd_elem loCells_len hrd hx (r:=3) rfl
     have d4:=rd_elem loCells_len hrd hx (r:=4) rfl;rw [Addr.add_lit,← Nat.add_assoc] at d0 d1 d2 d3 d4;rw [Nat.add_zero] at d0;clear hne;have hxm:=List.mem_of_getElem? hx;obtain ⟨kp,hkp⟩:∃ n,x.o.pcs.length=n:=⟨_,rfl⟩;obtain ⟨qx,hqx⟩:∃ n,x.q=n:=⟨_,rfl⟩;obtain ⟨sz,hsz⟩:∃ n,x.o.size=n:=⟨_,rfl⟩;rw [hkp,hqx] at d4;rw [hsz] at d1;have hob:=obOk_of HB.out.2.2.2.2.2 hxm;have hkp16:kp≤16:=by have:=hob.len;omega
     have hkp0:0 < kp:=by
      rcases Nat.eq_zero_or_pos kp with h | h
      ·exact absurd (List.eq_nil_of_length_eq_zero (hkp.trans h)) hob.ne
      ·exact h
     have HX:Hid (x.o.pcs.length=kp∧x.q=qx∧ObAt w1 x∧ObOk x.o∧x.o.size=sz):=Lib.hid ⟨hkp,hqx,HB.out.2.2.2.2.1.ob x hxm,hob,hsz⟩;have Hx:=Lib.hid hx;have Hrd:=Lib.hid hrd;clear hx hxm hkp hqx hob hsz hrd hlq
     go_upto_region 11 with (fail)
     obtain ⟨w5,hw5⟩:∃ w5,w5=w4.alloc (.cells #[.string (str x.o.key),.int .i64 sz,.string (str x.o.etag),.int .i64 x.o.time,.slice qx kp x.c] 48):=⟨_,rfl⟩;have o5:Only [] w4 w5:=(by rw [hw5];exact Only.alloc _ _);have r5:Row w5 w4.heap.size 48 [.string (str x.o.key),.int .i64 sz,.string (str x.o.etag),.int .i64 x.o.time,.slice qx kp x.c]:=(by rw [hw5];exact Row.newOf _ _ _ _ rfl);rw [← hw5];have HO5:=Lib.hid (HO4.out.trans0 o5);have HO35:=Lib.hid (HO34.out.trans0 o5);have H5:=Lib.hid r5;have Hrd5:=Lib.hid (Hrd.out.only0 o5);have e4:=r5.cell (i:=4) rfl;clear hw5 o5 r5 d0 d1 d2 d3 d4
     go_wp2_with fail;clear e4
     go_loopw [71,7] (fun a s wl=>∃ (t:Nat) (v:Int),a=.int .i64 (t:Int)∧s=.int .i64 v∧t≤kp∧Hid (v=sizes (x.o.pcs.take t))∧Hid (Only [] w1 wl)∧Hid (Only [] w5 wl)) (fun a _ _=>kp - (intOf a).toNat)
     case atStart=>exact ⟨0,0,rfl,rfl,Nat.zero_le _,Lib.hid rfl,HO5,Lib.hid (Only.refl _ _)⟩
     case round =>
      clear HO5;obtain ⟨t,v,rfl,rfl,ht,HV,HO6,HO56⟩:=hrel;obtain ⟨w6,rfl⟩:∃ w6,w6=wr:=⟨_,rfl⟩
      by_cases hlt4:t < kp
      ·have hlq:=hlt4;obtain ⟨pc,hpc⟩:∃ pc,x.o.pcs[t]?=some pc:=⟨_,List.getElem?_eq_getElem (by rw [HX.out.1];assumption)⟩;have hrd:=(HX.out.2.2.1.1.only0 HO6.out);have hne:x.o.pcs.flatMap pcCells≠[]:=fun e'=>(by have:=flat_get pcCells 5 pcCells_len x.o.pcs _ pc 0 hpc (by omega);rw [e'] at this;cases this);obtain ⟨bq,off,hg,-⟩:=hrd.lt hne;rw [hg] at hrd;obtain rfl:=HX.out.2.1.symm.trans hg;clear hg;have d0:=rd_elem pcCells_len hrd hpc (r:=0) rfl;have d1:=rd_elem pcCells_len hrd hpc (r:=1) rfl;have d2:=rd_elem pcCells_len hrd hpc (r:=2) rfl;have d3:=rd_elem pcCells_len hrd hpc (r:=3) rfl
       have d4:=rd_elem pcCells_len hrd hpc (r:=4) rfl;rw [Addr.add_lit,← Nat.add_assoc] at d0 d1 d2 d3 d4;rw [Nat.add_zero] at d0;clear hrd hne;have hpm:=List.mem_of_getElem? hpc;have hpk:=HX.out.2.2.2.1.pcs pc hpm;have hv1:v=sizes (x.o.pcs.take t):=HV.out;have hsl:=sizes_range HX.out.2.2.2.1.pcs t;have hv2:v+pc.size=sizes (x.o.pcs.take (t+1)):=(by rw [List.take_add_one,hpc,hv1];simp [sizes,List.map_append,List.sum_append]);have hvw:wrap64 (v+pc.size)=v+pc.size:=IntWalk.wrap64_in _ (by have:=hpk.lo;have:=hpk.hi;omega);have hvw2:IntKind.i64.wrap (v+pc.size)=v+pc.size:=IntWalk.i64_in _ (by have:=hpk.lo;have:=hpk.hi;omega)
       have HV2:=Lib.hid hv2;clear hpc hpm hpk hv1 hsl hv2 hlq HV
       go_upto_region 15 with (fail)
       obtain ⟨w7,hw7⟩:∃ w7,w7=w6.alloc (.cells #[.int .i64 pc.blob.node,.int .i64 pc.blob.boot,.int .i64 pc.blob.seq,.int .i64 pc.size,.string (str pc.etag)] 33):=⟨_,rfl⟩;have o7:Only [] w6 w7:=(by rw [hw7];exact Only.alloc _ _);have r7:Row w7 w6.heap.size 33 [.int .i64 pc.blob.node,.int .i64 pc.blob.boot,.int .i64 pc.blob.seq,.int .i64 pc.size,.string (str pc.etag)]:=(by rw [hw7];exact Row.newOf _ _ _ _ rfl);rw [← hw7];have HO7:=Lib.hid (HO6.out.trans0 o7);have HO57:=Lib.hid (HO56.out.trans0 o7);have f1:=r7.cell (i:=3) rfl;clear hw7 o7 r7 d0 d1 d2 d3 d4;go_wp2_with fail
       refine ⟨⟨t+1,v+pc.size,by go_num,rfl,by omega,HV2,HO7,HO57⟩,?_⟩
       simp [intOf];omega
      ·obtain rfl:t=kp:=(by omega);clear hlt4 ht
       have hvs:v=sz:=by
        have h9:v=sizes (x.o.pcs.take t):=HV.out;rw [List.take_of_length_le (by rw [HX.out.1];exact Nat.le_refl _),← HX.out.2.2.2.1.size,HX.out.2.2.2.2] at h9;exact h9
       subst hvs;have HR6:=Lib.hid (H5.out.only0 HO56.out);have H36:=Lib.hid (H3.out.only0 (HO35.out.trans0 HO56.out));have e0:=HR6.out.cell (i:=0) rfl;have e1:=HR6.out.cell (i:=1) rfl;have e4:=HR6.out.cell (i:=4) rfl;have g3:=H36.out.cell (i:=3) rfl;have HO36:=Lib.hid (HO35.out.trans0 HO56.out);have hkz:((t:Int) == 0)=false:=beq_eq_false_iff_ne.2 (by omega);have Hrd6:=Lib.hid (Hrd5.out.only0 HO56.out);clear HV
       go_upto_region 17 with (fail)
       by_cases hj0:0 < j
       rotate_left
       ·obtain rfl:j=0:=(by omega);have q0:¬ ((0:Int) < ((0:Nat):Int)):=(by omega);clear hj0 Hx;refine wp_region_rg2 (Only []) [[(5,none)],[(80,some 0)],[(81,some 0)],[(82,some 0),(4,none)],[(82,some 1),(83,some 0)],[(82,some 2),(5,none)],[(82,some 3),(85,some 0)],[(82,some 4),(84,some 2),(86,some 0)],[(82,some 5),(87,some 0)],[(82,some 6),(88,some 0)],[(82,some 7),(6,none)],[(82,some 8),(90,some 0)],[(82,some 9),(89,some 2),(91,some 0)],[(82,some 10),(92,some 0)],[(93,some 0)],[(94,some 0),(6,none)],[(94,some 1),(95,some 0)],[(94,some 2),(96,some 0)],[(94,some 3),(97,some 0)],[(94,some 4),(98,some 0)],[(99,some 0)],[(100,some 0),(7,none)],[(100,some 1),(6,none)],[(100,some 2),(102,some 0)],[(100,some 3),(101,some 2),(103,some 0)],[(100,some 4),(104,some 0)]] [(105,0)] [none,none,none,none,none,none,none,none,none,none,none,none,none,none,none,none,none,none,none,none,none,none,none,none,none,none,none,none,none,none,none,none,none,none,none,none,none,none,none,none,none,none,none,none,none,none,none,none,none,none,none,none,none,none,none,none,none,none,none,none,none,none,none,none,none,none,none,none,none,none,none,none,none,none,none,none,none,none,none,none,some 80,some 81,some 82,some 83,some 84,some 85,some 86,some 87,some 88,some 89,some 90,some 91,some 92,some 93,some 94,some 95,some 96,some 97,some 98,some 99,some 100,some 101,some 102,some 103,some 104,some 105,none,none,none,none,none,none,none,none,none,none,none,none,none,none,none,none,none,none,none,none,none,none,none,none,none,none,none,none,none,none,none,none,none,none,none,none,none,none,none,none,none,none,none,none,none,none,none,none,none,none,none,none,none,none,none,none,none,none,none,none,none,none,none,none,none,none,none,none,none,none,none,none,none,none,none,none,none,none,none,none,none,none] (by kernel_rfl) rfl (by kernel_rfl) (fun _=>Only.refl _ _) (fun _ _ _ h k=>h.trans0 k) (Only.drew _) (by kernel_rfl) ?_
        apply rg_ev
        ·rintro a w hR ⟨(e5:_=_),-⟩;refine rg_plain rfl fun K hK=>?_;go_simp;exact hK _ _ rfl (Only.refl _ _)
        apply rg_ev
        ·rintro a w hR ⟨(e80:_=_),-⟩;refine rg_plain rfl fun K hK=>?_;go_simp;exact hK _ _ rfl (Only.refl _ _)
        apply rg_ev
        ·rintro a w hR ⟨(e81:_=_),-⟩;refine rg_plain rfl fun K hK=>?_;go_simp;exact hK _ _ rfl (Only.refl _ _)
        apply rg_ev
        ·rintro a w hR ⟨(e82:_=_),(e4:_=_),-⟩;exact rg_skip rfl rfl e82 rfl
        apply rg_ev
        ·rintro a w hR ⟨(e82:_=_),(e83:_=_),-⟩;exact rg_skip rfl rfl e82 rfl
        apply rg_ev
        ·rintro a w hR ⟨(e82:_=_),(e5:_=_),-⟩;exact rg_skip rfl rfl e82 rfl
        apply rg_ev
        ·rintro a w hR ⟨(e82:_=_),(e85:_=_),-⟩;exact rg_skip rfl rfl e82 rfl
        apply rg_ev
        ·rintro a w hR ⟨(e82:_=_),(e84:_=_),(e86:_=_),-⟩;exact rg_skip rfl rfl e82 rfl
        apply rg_ev
        ·rintro a w hR ⟨(e82:_=_),(e87:_=_),-⟩;exact rg_skip rfl rfl e82 rfl
        apply rg_ev
        ·rintro a w hR ⟨(e82:_=_),(e88:_=_),-⟩;exact rg_skip rfl rfl e82 rfl
        apply rg_ev
        ·rintro a w hR ⟨(e82:_=_),(e6:_=_),-⟩;exact rg_skip rfl rfl e82 rfl
        apply rg_ev
        ·rintro a w hR ⟨(e82:_=_),(e90:_=_),-⟩;exact rg_skip rfl rfl e82 rfl
        apply rg_ev
        ·rintro a w hR ⟨(e82:_=_),(e89:_=_),(e91:_=_),-⟩;exact rg_skip rfl rfl e82 rfl
        apply rg_ev
        ·rintro a w hR ⟨(e82:_=_),(e92:_=_),-⟩;refine rg_plain rfl fun K hK=>?_;go_simp;exact hK _ _ rfl (Only.refl _ _)
        apply rg_ev
        ·rintro a w hR ⟨(e93:_=_),-⟩;refine rg_plain rfl fun K hK=>?_;go_simp;exact hK _ _ rfl (Only.refl _ _)
        apply rg_ev
        ·rintro a w hR ⟨(e94:_=_),(e6:_=_),-⟩;refine rg_want rfl rfl e94 fun K hK=>?_;clear e94;go_simp;exact hK _ _ rfl (Only.refl _ _)
        apply rg_ev
        ·rintro a w hR ⟨(e94:_=_),(e95:_=_),-⟩;refine rg_want rfl rfl e94 fun K hK=>?_;clear e94;have g16:=hR.cell e4 (by simp);go_simp;exact hK _ _ rfl (Only.refl _ _)
        apply rg_ev
        ·rintro a w hR ⟨(e94:_=_),(e96:_=_),-⟩;refine rg_want rfl rfl e94 fun K hK=>?_;clear e94;go_simp;exact hK _ _ rfl (Only.refl _ _)
        apply rg_ev
        ·rintro a w hR ⟨(e94:_=_),(e97:_=_),-⟩;refine rg_want rfl rfl e94 fun K hK=>?_;clear e94;go_simp;exact hK _ _ rfl (Only.refl _ _)
        apply rg_ev
        ·rintro a w hR ⟨(e94:_=_),(e98:_=_),-⟩;refine rg_plain rfl fun K hK=>?_;go_simp;exact hK _ _ rfl (Only.refl _ _)
        apply rg_ev
        ·rintro a w hR ⟨(e99:_=_),-⟩;refine rg_plain rfl fun K hK=>?_;go_simp;exact hK _ _ rfl (Only.refl _ _)
        apply rg_ev
        ·rintro a w hR ⟨(e100:_=_),(e7:_=_),-⟩;refine rg_want rfl rfl e100 fun K hK=>?_;clear e100;go_simp;exact hK _ _ rfl (Only.refl _ _)
        apply rg_ev
        ·rintro a w hR ⟨(e100:_=_),(e6:_=_),-⟩;refine rg_want rfl rfl e100 fun K hK=>?_;clear e100;go_simp;exact hK _ _ rfl (Only.refl _ _)
        apply rg_ev
        ·rintro a w hR ⟨(e100:_=_),(e102:_=_),-⟩;refine rg_want rfl rfl e100 fun K hK=>?_;clear e100;have g23:=hR.cell e1 (by simp);go_simp;exact hK _ _ rfl (Only.refl _ _)
        apply rg_ev
        ·rintro a w hR ⟨(e100:_=_),(e101:_=_),(e103:_=_),-⟩;refine rg_want rfl rfl e100 fun K hK=>?_;clear e100;go_simp;exact hK _ _ rfl (Only.refl _ _)
        apply rg_ev
        ·rintro a w hR ⟨(e100:_=_),(e104:_=_),-⟩;refine rg_plain rfl fun K hK=>?_;go_simp;exact hK _ _ rfl (Only.refl _ _)
        intro f w hR hf;dsimp only [mergeT];obtain ⟨e105,-⟩:=hf;replace e105:f 105=_:=e105;rw [e105];have HO66:=Lib.hid (HO6.out.trans0 hR);have HO37:=Lib.hid (HO36.out.trans0 hR);go_wp2_with fail;refine ⟨⟨0+1,by go_num,by omega,HO66,HO37⟩,?_⟩
        simp [intOf];omega
       ·obtain ⟨x9,hx9⟩:∃ x9,b.os[j - 1]?=some x9:=⟨_,List.getElem?_eq_getElem (by rw [HB.out.1];omega)⟩;have Hlt:=pw_lt (SortB_map_key HB.out.2.2.2.2.2.os) hj0 Hx.out hx9;have q0:(0:Int) < (j:Int):=(by omega);have q1:wrap64 ((j:Int) - 1)=((j - 1:Nat):Int):=(by rw [IntWalk.wrap64_in _ (by omega)];omega);have q2:IntKind.i64.wrap ((j:Int) - 1)=((j - 1:Nat):Int):=(by rw [IntWalk.i64_in _ (by omega)];omega);have q3:j - 1 < no:=(by omega);have hp0:=rd_elem loCells_len Hrd6.out hx9 (r:=0) rfl;rw [Addr.add_lit,← Nat.add_assoc] at hp0;rw [Nat.add_zero] at hp0
        have hcl:=str_ltb x9.o.key x.o.key;rw [decide_eq_true Hlt] at hcl;clear hx9 Hlt Hx;refine wp_region_rg2 (Only []) [[(5,none)],[(80,some 0)],[(81,some 0)],[(82,some 0),(4,none)],[(82,some 1),(83,some 0)],[(82,some 2),(5,none)],[(82,some 3),(85,some 0)],[(82,some 4),(84,some 2),(86,some 0)],[(82,some 5),(87,some 0)],[(82,some 6),(88,some 0)],[(82,some 7),(6,none)],[(82,some 8),(90,some 0)],[(82,some 9),(89,some 2),(91,some 0)],[(82,some 10),(92,some 0)],[(93,some 0)],[(94,some 0),(6,none)],[(94,some 1),(95,some 0)],[(94,some 2),(96,some 0)],[(94,some 3),(97,some 0)],[(94,some 4),(98,some 0)],[(99,some 0)],[(100,some 0),(7,none)],[(100,some 1),(6,none)],[(100,some 2),(102,some 0)],[(100,some 3),(101,some 2),(103,some 0)],[(100,some 4),(104,some 0)]] [(105,0)] [none,none,none,none,none,none,none,none,none,none,none,none,none,none,none,none,none,none,none,none,none,none,none,none,none,none,none,none,none,none,none,none,none,none,none,none,none,none,none,none,none,none,none,none,none,none,none,none,none,none,none,none,none,none,none,none,none,none,none,none,none,none,none,none,none,none,none,none,none,none,none,none,none,none,none,none,none,none,none,none,some 80,some 81,some 82,some 83,some 84,some 85,some 86,some 87,some 88,some 89,some 90,some 91,some 92,some 93,some 94,some 95,some 96,some 97,some 98,some 99,some 100,some 101,some 102,some 103,some 104,some 105,none,none,none,none,none,none,none,none,none,none,none,none,none,none,none,none,none,none,none,none,none,none,none,none,none,none,none,none,none,none,none,none,none,none,none,none,none,none,none,none,none,none,none,none,none,none,none,none,none,none,none,none,none,none,none,none,none,none,none,none,none,none,none,none,none,none,none,none,none,none,none,none,none,none,none,none,none,none,none,none,none,none] (by kernel_rfl) rfl (by kernel_rfl) (fun _=>Only.refl _ _) (fun _ _ _ h k=>h.trans0 k) (Only.drew _) (by kernel_rfl) ?_
        apply rg_ev
        ·rintro a w hR ⟨(e5:_=_),-⟩;refine rg_plain rfl fun K hK=>?_;go_simp;exact hK _ _ rfl (Only.refl _ _)
        apply rg_ev
        ·rintro a w hR ⟨(e80:_=_),-⟩;refine rg_plain rfl fun K hK=>?_;go_simp;exact hK _ _ rfl (Only.refl _ _)
        apply rg_ev
        ·rintro a w hR ⟨(e81:_=_),-⟩;refine rg_plain rfl fun K hK=>?_;go_simp;exact hK _ _ rfl (Only.refl _ _)
        apply rg_ev
        ·rintro a w hR ⟨(e82:_=_),(e4:_=_),-⟩;refine rg_want rfl rfl e82 fun K hK=>?_;clear e82;go_simp;exact hK _ _ rfl (Only.refl _ _)
        apply rg_ev
        ·rintro a w hR ⟨(e82:_=_),(e83:_=_),-⟩;refine rg_want rfl rfl e82 fun K hK=>?_;clear e82;have g4:=hR.cell g3 (by simp);go_simp;exact hK _ _ rfl (Only.refl _ _)
        apply rg_ev
        ·rintro a w hR ⟨(e82:_=_),(e5:_=_),-⟩;refine rg_want rfl rfl e82 fun K hK=>?_;clear e82;go_simp;exact hK _ _ rfl (Only.refl _ _)
        apply rg_ev
        ·rintro a w hR ⟨(e82:_=_),(e85:_=_),-⟩;refine rg_want rfl rfl e82 fun K hK=>?_;clear e82;go_simp;exact hK _ _ rfl (Only.refl _ _)
        apply rg_ev
        ·rintro a w hR ⟨(e82:_=_),(e84:_=_),(e86:_=_),-⟩;refine rg_want rfl rfl e82 fun K hK=>?_;clear e82;go_simp;exact hK _ _ rfl (Only.refl _ _)
        apply rg_ev
        ·rintro a w hR ⟨(e82:_=_),(e87:_=_),-⟩;refine rg_want rfl rfl e82 fun K hK=>?_;clear e82;go_simp;exact hK _ _ rfl (Only.refl _ _)
        apply rg_ev
        ·rintro a w hR ⟨(e82:_=_),(e88:_=_),-⟩;refine rg_want rfl rfl e82 fun K hK=>?_;clear e82;have g9:=hR.cell hp0 (by simp);go_simp;exact hK _ _ rfl (Only.refl _ _)
        apply rg_ev
        ·rintro a w hR ⟨(e82:_=_),(e6:_=_),-⟩;refine rg_want rfl rfl e82 fun K hK=>?_;clear e82;go_simp;exact hK _ _ rfl (Only.refl _ _)
        apply rg_ev
        ·rintro a w hR ⟨(e82:_=_),(e90:_=_),-⟩;refine rg_want rfl rfl e82 fun K hK=>?_;clear e82;have g11:=hR.cell e0 (by simp);go_simp;exact hK _ _ rfl (Only.refl _ _)
        apply rg_ev
        ·rintro a w hR ⟨(e82:_=_),(e89:_=_),(e91:_=_),-⟩;refine rg_want rfl rfl e82 fun K hK=>?_;clear e82;go_simp;exact hK _ _ rfl (Only.refl _ _)
        apply rg_ev
        ·rintro a w hR ⟨(e82:_=_),(e92:_=_),-⟩;refine rg_plain rfl fun K hK=>?_;go_simp;exact hK _ _ rfl (Only.refl _ _)
        apply rg_ev
        ·rintro a w hR ⟨(e93:_=_),-⟩;refine rg_plain rfl fun K hK=>?_;go_simp;exact hK _ _ rfl (Only.refl _ _)
        apply rg_ev
        ·rintro a w hR ⟨(e94:_=_),(e6:_=_),-⟩;refine rg_want rfl rfl e94 fun K hK=>?_;clear e94;go_simp;exact hK _ _ rfl (Only.refl _ _)
        apply rg_ev
        ·rintro a w hR ⟨(e94:_=_),(e95:_=_),-⟩;refine rg_want rfl rfl e94 fun K hK=>?_;clear e94;have g16:=hR.cell e4 (by simp);go_simp;exact hK _ _ rfl (Only.refl _ _)
        apply rg_ev
        ·rintro a w hR ⟨(e94:_=_),(e96:_=_),-⟩;refine rg_want rfl rfl e94 fun K hK=>?_;clear e94;go_simp;exact hK _ _ rfl (Only.refl _ _)
        apply rg_ev
        ·rintro a w hR ⟨(e94:_=_),(e97:_=_),-⟩;refine rg_want rfl rfl e94 fun K hK=>?_;clear e94;go_simp;exact hK _ _ rfl (Only.refl _ _)
        apply rg_ev
        ·rintro a w hR ⟨(e94:_=_),(e98:_=_),-⟩;refine rg_plain rfl fun K hK=>?_;go_simp;exact hK _ _ rfl (Only.refl _ _)
        apply rg_ev
        ·rintro a w hR ⟨(e99:_=_),-⟩;refine rg_plain rfl fun K hK=>?_;go_simp;exact hK _ _ rfl (Only.refl _ _)
        apply rg_ev
        ·rintro a w hR ⟨(e100:_=_),(e7:_=_),-⟩;refine rg_want rfl rfl e100 fun K hK=>?_;clear e100;go_simp;exact hK _ _ rfl (Only.refl _ _)
        apply rg_ev
        ·rintro a w hR ⟨(e100:_=_),(e6:_=_),-⟩;refine rg_want rfl rfl e100 fun K hK=>?_;clear e100;go_simp;exact hK _ _ rfl (Only.refl _ _)
        apply rg_ev
        ·rintro a w hR ⟨(e100:_=_),(e102:_=_),-⟩;refine rg_want rfl rfl e100 fun K hK=>?_;clear e100;have g23:=hR.cell e1 (by simp);go_simp;exact hK _ _ rfl (Only.refl _ _)
        apply rg_ev
        ·rintro a w hR ⟨(e100:_=_),(e101:_=_),(e103:_=_),-⟩;refine rg_want rfl rfl e100 fun K hK=>?_;clear e100;go_simp;exact hK _ _ rfl (Only.refl _ _)
        apply rg_ev
        ·rintro a w hR ⟨(e100:_=_),(e104:_=_),-⟩;refine rg_plain rfl fun K hK=>?_;go_simp;exact hK _ _ rfl (Only.refl _ _)
        intro f w hR hf;dsimp only [mergeT];obtain ⟨e105,-⟩:=hf;replace e105:f 105=_:=e105;rw [e105];have HO66:=Lib.hid (HO6.out.trans0 hR);have HO37:=Lib.hid (HO36.out.trans0 hR);go_wp2_with fail;refine ⟨⟨j+1,by go_num,by omega,HO66,HO37⟩,?_⟩
        simp [intOf];omega
    ·obtain rfl:j=no:=(by omega);clear hlt2 hj;have e4:=(H3.out.only0 HO34.out).cell (i:=4) rfl;go_wp2_with fail;clear e4
     go_loopw [110] (fun a wl=>∃ j:Nat,a=.int .i64 (j:Int)∧j≤nu∧Hid (Only [] w1 wl)∧Hid (Only [] w3 wl)) (fun a _=>nu - (intOf a).toNat)
     case atStart=>exact ⟨0,rfl,Nat.zero_le _,HO4,HO34⟩
     case round =>
      clear HO4 HO34;obtain ⟨k,rfl,hk,HO4,HO34⟩:=hrel;obtain ⟨w4,rfl⟩:∃ w4,w4=wr:=⟨_,rfl⟩
      by_cases hlt3:k < nu
      ·have hlq:=hlt3;obtain ⟨u,hu⟩:∃ u,b.us[k]?=some u:=⟨_,List.getElem?_eq_getElem (by rw [HB.out.2.1];assumption)⟩;have hrd:=(HB.out.2.2.2.2.1.su.only0 HO4.out).1;have hne:b.us.flatMap luCells≠[]:=fun e'=>(by have:=flat_get luCells 5 luCells_len b.us _ u 0 hu (by omega);rw [e'] at this;cases this);obtain ⟨bq,off,hg,-⟩:=hrd.lt hne;rw [hg] at hrd;obtain rfl:=HB.out.2.2.2.1.symm.trans hg;clear hg;have d0:=rd_elem luCells_len hrd hu (r:=0) rfl;have d1:=rd_elem luCells_len hrd hu (r:=1) rfl;have d2:=rd_elem luCells_len hrd hu (r:=2) rfl;have d3:=rd_elem luCells_len hrd hu (r:=3) rfl
       have d4:=rd_elem luCells_len hrd hu (r:=4) rfl;rw [Addr.add_lit,← Nat.add_assoc] at d0 d1 d2 d3 d4;rw [Nat.add_zero] at d0;clear hne;have hum:=List.mem_of_getElem? hu;obtain ⟨kp,hkp⟩:∃ n,u.u.parts.length=n:=⟨_,rfl⟩;obtain ⟨qx,hqx⟩:∃ n,u.q=n:=⟨_,rfl⟩;rw [hkp,hqx] at d4;have huk:=upOk_of HB.out.2.2.2.2.2 hum;have hkp16:kp≤100000:=(by have:=huk.len;omega);have HX:Hid (u.u.parts.length=kp∧u.q=qx∧UpAt w1 u∧UpOk u.u):=Lib.hid ⟨hkp,hqx,HB.out.2.2.2.2.1.up u hum,huk⟩;have Hu:=Lib.hid hu;have Hrd:=Lib.hid hrd;clear hu hum hkp hqx huk hrd hlq
       go_upto_region 23 with (fail)
       obtain ⟨w5,hw5⟩:∃ w5,w5=w4.alloc (.cells #[.int .i64 u.u.id.node,.int .i64 u.u.id.boot,.int .i64 u.u.id.seq,.string (str u.u.key),.slice qx kp u.c] 54):=⟨_,rfl⟩;have o5:Only [] w4 w5:=(by rw [hw5];exact Only.alloc _ _);have r5:Row w5 w4.heap.size 54 [.int .i64 u.u.id.node,.int .i64 u.u.id.boot,.int .i64 u.u.id.seq,.string (str u.u.key),.slice qx kp u.c]:=(by rw [hw5];exact Row.newOf _ _ _ _ rfl);rw [← hw5];have HO5:=Lib.hid (HO4.out.trans0 o5);have HO35:=Lib.hid (HO34.out.trans0 o5);have H5:=Lib.hid r5;have hrd5:=Hrd.out.only0 o5;have H35:=Lib.hid (H3.out.only0 HO35.out)
       have Hrd5:=Lib.hid hrd5;clear hw5 o5 r5 d0 d1 d2 d3 d4 hrd5
       go_cut [129] from 115 to 129 (fun b wx=>b=.bool false∧Hid (Only [] w5 wx))
       case first =>
        by_cases hk0:0 < k
        rotate_left
        ·obtain rfl:k=0:=(by omega);have q0:¬ ((0:Int) < ((0:Nat):Int)):=(by omega);clear hk0 Hu;refine wp_region_rg2 (Only []) [[(10,none)],[(115,some 0)],[(116,some 0)],[(117,some 0),(4,none)],[(117,some 1),(118,some 0)],[(117,some 2),(10,none)],[(117,some 3),(120,some 0)],[(117,some 4),(119,some 2),(121,some 0)],[(117,some 5),(122,some 0)],[(117,some 6),(123,some 0)],[(117,some 7),(11,none)],[(117,some 8),(125,some 0)],[(117,some 9),(124,some 2),(126,some 0)],[(117,some 10),(127,some 0)],[(117,some 11),(128,some 0)]] [(129,0)] [none,none,none,none,none,none,none,none,none,none,none,none,none,none,none,none,none,none,none,none,none,none,none,none,none,none,none,none,none,none,none,none,none,none,none,none,none,none,none,none,none,none,none,none,none,none,none,none,none,none,none,none,none,none,none,none,none,none,none,none,none,none,none,none,none,none,none,none,none,none,none,none,none,none,none,none,none,none,none,none,none,none,none,none,none,none,none,none,none,none,none,none,none,none,none,none,none,none,none,none,none,none,none,none,none,none,none,none,none,none,none,none,none,none,none,some 115,some 116,some 117,some 118,some 119,some 120,some 121,some 122,some 123,some 124,some 125,some 126,some 127,some 128,some 129,none,none,none,none,none,none,none,none,none,none,none,none,none,none,none,none,none,none,none,none,none,none,none,none,none,none,none,none,none,none,none,none,none,none,none,none,none,none,none,none,none,none,none,none,none,none,none,none,none,none,none,none,none,none,none,none,none,none] (by kernel_rfl) rfl (by kernel_rfl) (fun _=>Only.refl _ _) (fun _ _ _ h k=>h.trans0 k) (Only.drew _) (by kernel_rfl) ?_
         apply rg_ev
         ·rintro a w hR ⟨(e10:_=_),-⟩;refine rg_plain rfl fun K hK=>?_;go_simp;exact hK _ _ rfl (Only.refl _ _)
         apply rg_ev
         ·rintro a w hR ⟨(e115:_=_),-⟩;refine rg_plain rfl fun K hK=>?_;go_simp;exact hK _ _ rfl (Only.refl _ _)
         apply rg_ev
         ·rintro a w hR ⟨(e116:_=_),-⟩;refine rg_plain rfl fun K hK=>?_;go_simp;exact hK _ _ rfl (Only.refl _ _)
         apply rg_ev
         ·rintro a w hR ⟨(e117:_=_),(e4:_=_),-⟩;exact rg_skip rfl rfl e117 rfl
         apply rg_ev
         ·rintro a w hR ⟨(e117:_=_),(e118:_=_),-⟩;exact rg_skip rfl rfl e117 rfl
         apply rg_ev
         ·rintro a w hR ⟨(e117:_=_),(e10:_=_),-⟩;exact rg_skip rfl rfl e117 rfl
         apply rg_ev
         ·rintro a w hR ⟨(e117:_=_),(e120:_=_),-⟩;exact rg_skip rfl rfl e117 rfl
         apply rg_ev
         ·rintro a w hR ⟨(e117:_=_),(e119:_=_),(e121:_=_),-⟩;exact rg_skip rfl rfl e117 rfl
         apply rg_ev
         ·rintro a w hR ⟨(e117:_=_),(e122:_=_),-⟩;exact rg_skip rfl rfl e117 rfl
         apply rg_ev
         ·rintro a w hR ⟨(e117:_=_),(e123:_=_),-⟩;exact rg_skip rfl rfl e117 rfl
         apply rg_ev
         ·rintro a w hR ⟨(e117:_=_),(e11:_=_),-⟩;exact rg_skip rfl rfl e117 rfl
         apply rg_ev
         ·rintro a w hR ⟨(e117:_=_),(e125:_=_),-⟩;exact rg_skip rfl rfl e117 rfl
         apply rg_ev
         ·rintro a w hR ⟨(e117:_=_),(e124:_=_),(e126:_=_),-⟩;exact rg_skip rfl rfl e117 rfl
         apply rg_ev
         ·rintro a w hR ⟨(e117:_=_),(e127:_=_),-⟩;exact rg_skip rfl rfl e117 rfl
         apply rg_ev
         ·rintro a w hR ⟨(e117:_=_),(e128:_=_),-⟩;refine rg_plain rfl fun K hK=>?_;go_simp;exact hK _ _ rfl (Only.refl _ _)
         intro f w hR hf;dsimp only [mergeT];obtain ⟨e129,-⟩:=hf;replace e129:f 129=_:=e129;rw [e129];go_wp2_with fail
         go_meet
         exact ⟨rfl,Lib.hid hR⟩
        ·obtain ⟨u9,hu9⟩:∃ u9,b.us[k - 1]?=some u9:=⟨_,List.getElem?_eq_getElem (by rw [HB.out.2.1];omega)⟩;have Hlt:=pw_lt (SortB_map_id HB.out.2.2.2.2.2.us) hk0 Hu.out hu9;have q0:(0:Int) < (k:Int):=(by omega);have q1:wrap64 ((k:Int) - 1)=((k - 1:Nat):Int):=(by rw [IntWalk.wrap64_in _ (by omega)];omega);have q2:IntKind.i64.wrap ((k:Int) - 1)=((k - 1:Nat):Int):=(by rw [IntWalk.i64_in _ (by omega)];omega);have q3:k - 1 < nu:=(by omega);have hp0:=rd_elem luCells_len Hrd5.out hu9 (r:=0) rfl;have hp1:=rd_elem luCells_len Hrd5.out hu9 (r:=1) rfl;have hp2:=rd_elem luCells_len Hrd5.out hu9 (r:=2) rfl
         rw [Addr.add_lit,← Nat.add_assoc] at hp0 hp1 hp2;rw [Nat.add_zero] at hp0;have hle:=fun w=>less_any u9.u.id u.u.id w;unfold idV at hle;rw [show decide (ltI u9.u.id u.u.id)=true from decide_eq_true Hlt] at hle;have Hle:=Lib.hid hle;have HP0:=Lib.hid hp0;have HP1:=Lib.hid hp1;have HP2:=Lib.hid hp2;clear hu9 Hlt Hu hle hp0 hp1 hp2;refine wp_region_rg2 (Only []) [[(10,none)],[(115,some 0)],[(116,some 0)],[(117,some 0),(4,none)],[(117,some 1),(118,some 0)],[(117,some 2),(10,none)],[(117,some 3),(120,some 0)],[(117,some 4),(119,some 2),(121,some 0)],[(117,some 5),(122,some 0)],[(117,some 6),(123,some 0)],[(117,some 7),(11,none)],[(117,some 8),(125,some 0)],[(117,some 9),(124,some 2),(126,some 0)],[(117,some 10),(127,some 0)],[(117,some 11),(128,some 0)]] [(129,0)] [none,none,none,none,none,none,none,none,none,none,none,none,none,none,none,none,none,none,none,none,none,none,none,none,none,none,none,none,none,none,none,none,none,none,none,none,none,none,none,none,none,none,none,none,none,none,none,none,none,none,none,none,none,none,none,none,none,none,none,none,none,none,none,none,none,none,none,none,none,none,none,none,none,none,none,none,none,none,none,none,none,none,none,none,none,none,none,none,none,none,none,none,none,none,none,none,none,none,none,none,none,none,none,none,none,none,none,none,none,none,none,none,none,none,none,some 115,some 116,some 117,some 118,some 119,some 120,some 121,some 122,some 123,some 124,some 125,some 126,some 127,some 128,some 129,none,none,none,none,none,none,none,none,none,none,none,none,none,none,none,none,none,none,none,none,none,none,none,none,none,none,none,none,none,none,none,none,none,none,none,none,none,none,none,none,none,none,none,none,none,none,none,none,none,none,none,none,none,none,none,none,none,none] (by kernel_rfl) rfl (by kernel_rfl) (fun _=>Only.refl _ _) (fun _ _ _ h k=>h.trans0 k) (Only.drew _) (by kernel_rfl) ?_
         apply rg_ev
         ·rintro a w hR ⟨(e10:_=_),-⟩;refine rg_plain rfl fun K hK=>?_;go_simp;exact hK _ _ rfl (Only.refl _ _)
         apply rg_ev
         ·rintro a w hR ⟨(e115:_=_),-⟩;refine rg_plain rfl fun K hK=>?_;go_simp;exact hK _ _ rfl (Only.refl _ _)
         apply rg_ev
         ·rintro a w hR ⟨(e116:_=_),-⟩;refine rg_plain rfl fun K hK=>?_;go_simp;exact hK _ _ rfl (Only.refl _ _)
         apply rg_ev
         ·rintro a w hR ⟨(e117:_=_),(e4:_=_),-⟩;refine rg_want rfl rfl e117 fun K hK=>?_;clear e117;go_simp;exact hK _ _ rfl (Only.refl _ _)
         apply rg_ev
         ·rintro a w hR ⟨(e117:_=_),(e118:_=_),-⟩;refine rg_want rfl rfl e117 fun K hK=>?_;clear e117;have g4:=H35.out.only0 hR;have g4c:=g4.cell (i:=4) rfl;go_simp;exact hK _ _ rfl (Only.refl _ _)
         apply rg_ev
         ·rintro a w hR ⟨(e117:_=_),(e10:_=_),-⟩;refine rg_want rfl rfl e117 fun K hK=>?_;clear e117;go_simp;exact hK _ _ rfl (Only.refl _ _)
         apply rg_ev
         ·rintro a w hR ⟨(e117:_=_),(e120:_=_),-⟩;refine rg_want rfl rfl e117 fun K hK=>?_;clear e117;go_simp;exact hK _ _ rfl (Only.refl _ _)
         apply rg_ev
         ·rintro a w hR ⟨(e117:_=_),(e119:_=_),(e121:_=_),-⟩;refine rg_want rfl rfl e117 fun K hK=>?_;clear e117;go_simp;exact hK _ _ rfl (Only.refl _ _)
         apply rg_ev
         ·rintro a w hR ⟨(e117:_=_),(e122:_=_),-⟩;refine rg_want rfl rfl e117 fun K hK=>?_;clear e117;go_simp;exact hK _ _ rfl (Only.refl _ _)
         apply rg_ev
         ·rintro a w hR ⟨(e117:_=_),(e123:_=_),-⟩;refine rg_want rfl rfl e117 fun K hK=>?_;clear e117;have p0:=hR.cell HP0.out (by simp);have p1:=hR.cell HP1.out (by simp);have p2:=hR.cell HP2.out (by simp);go_simp;exact hK _ _ rfl (Only.refl _ _)
         apply rg_ev
         ·rintro a w hR ⟨(e117:_=_),(e11:_=_),-⟩;refine rg_want rfl rfl e117 fun K hK=>?_;clear e117;go_simp;exact hK _ _ rfl (Only.refl _ _)
         apply rg_ev
         ·rintro a w hR ⟨(e117:_=_),(e125:_=_),-⟩;refine rg_want rfl rfl e117 fun K hK=>?_;clear e117;have g5:=H5.out.only0 hR;have f0:=g5.cell (i:=0) rfl;have f1:=g5.cell (i:=1) rfl;have f2:=g5.cell (i:=2) rfl;go_simp;exact hK _ _ rfl (Only.refl _ _)
         apply rg_ev
         ·rintro a w hR ⟨(e117:_=_),(e124:_=_),(e126:_=_),-⟩;refine rg_want rfl rfl e117 fun K hK=>?_;clear e117;go_simp;(with_reducible refine (Hle.out w).mono ?_);rintro e w' ⟨rfl,o'⟩;exact hK _ _ rfl o'
         apply rg_ev
         ·rintro a w hR ⟨(e117:_=_),(e127:_=_),-⟩;refine rg_want rfl rfl e117 fun K hK=>?_;clear e117;go_simp;exact hK _ _ rfl (Only.refl _ _)
         apply rg_ev
         ·rintro a w hR ⟨(e117:_=_),(e128:_=_),-⟩;refine rg_plain rfl fun K hK=>?_;go_simp;exact hK _ _ rfl (Only.refl _ _)
         intro f w hR hf;dsimp only [mergeT];obtain ⟨e129,-⟩:=hf;replace e129:f 129=_:=e129;rw [e129];go_wp2_with fail
         go_meet
         exact ⟨rfl,Lib.hid hR⟩
       case rest =>
       obtain ⟨rfl,HOc⟩:=hcut;clear Hu Hrd5;have f4:=(H5.out.only0 HOc.out).cell (i:=4) rfl;go_wp2_with fail;clear f4
       go_loopw [133] (fun a wl=>∃ t:Nat,a=.int .i64 (t:Int)∧t≤kp∧Hid (Only [] w1 wl)∧Hid (Only [] w5 wl)) (fun a _=>kp - (intOf a).toNat)
       case atStart=>exact ⟨0,rfl,Nat.zero_le _,Lib.hid (HO5.out.trans0 HOc.out),HOc⟩
       case round =>
        clear HO5 HOc;obtain ⟨t,rfl,ht,HO6,HO56⟩:=hrel;obtain ⟨w6,rfl⟩:∃ w6,w6=wr:=⟨_,rfl⟩
        by_cases hlt4:t < kp
        ·have hlq:=hlt4;obtain ⟨pt,hpt⟩:∃ pt,u.u.parts[t]?=some pt:=⟨_,List.getElem?_eq_getElem (by rw [HX.out.1];assumption)⟩;have hrd:=(HX.out.2.2.1.1.only0 HO6.out);have hne:u.u.parts.flatMap ptCells≠[]:=fun e'=>(by have:=flat_get ptCells 6 ptCells_len u.u.parts _ pt 0 hpt (by omega);rw [e'] at this;cases this);obtain ⟨bq,off,hg,-⟩:=hrd.lt hne;rw [hg] at hrd;obtain rfl:=HX.out.2.1.symm.trans hg;clear hg;have d0:=rd_elem ptCells_len hrd hpt (r:=0) rfl;have d1:=rd_elem ptCells_len hrd hpt (r:=1) rfl;have d2:=rd_elem ptCells_len hrd hpt (r:=2) rfl
         have d3:=rd_elem ptCells_len hrd hpt (r:=3) rfl;have d4:=rd_elem ptCells_len hrd hpt (r:=4) rfl;have d5:=rd_elem ptCells_len hrd hpt (r:=5) rfl;rw [Addr.add_lit,← Nat.add_assoc] at d0 d1 d2 d3 d4 d5;rw [Nat.add_zero] at d0;clear hne;have hpm:=List.mem_of_getElem? hpt;have hpk:=HX.out.2.2.2.parts pt hpm;have hp1:(1:Int)≤pt.num:=hpk.1;have hp16:pt.num≤(16:Int):=hpk.2.1;have hp1b:¬ (pt.num < (1:Int)):=(by omega);have hp16b:¬ ((16:Int) < pt.num):=(by omega);have Hpt:=Lib.hid hpt;have Hrd:=Lib.hid hrd;clear hpt hpm hpk hrd hlq
         go_upto_region 28 with (fail)
         obtain ⟨w7,hw7⟩:∃ w7,w7=w6.alloc (.cells #[.int .i64 pt.num,.int .i64 pt.pc.blob.node,.int .i64 pt.pc.blob.boot,.int .i64 pt.pc.blob.seq,.int .i64 pt.pc.size,.string (str pt.pc.etag)] 111):=⟨_,rfl⟩;have o7:Only [] w6 w7:=(by rw [hw7];exact Only.alloc _ _);have r7:Row w7 w6.heap.size 111 [.int .i64 pt.num,.int .i64 pt.pc.blob.node,.int .i64 pt.pc.blob.boot,.int .i64 pt.pc.blob.seq,.int .i64 pt.pc.size,.string (str pt.pc.etag)]:=(by rw [hw7];exact Row.newOf _ _ _ _ rfl);rw [← hw7];have HO7:=Lib.hid (HO6.out.trans0 o7);have HO57:=Lib.hid (HO56.out.trans0 o7);have f0:=r7.cell (i:=0) rfl
         have f4:=(H5.out.only0 HO57.out).cell (i:=4) rfl;have hrd7:=Hrd.out.only0 o7;have Hrd7:=Lib.hid hrd7;clear hw7 o7 r7 d0 d1 d2 d3 d4 d5 hrd7
         by_cases ht0:0 < t
         rotate_left
         ·obtain rfl:t=0:=(by omega);have q0:¬ ((0:Int) < ((0:Nat):Int)):=(by omega);clear ht0 Hpt;refine wp_region_rg2 (Only []) [[(12,none)],[(138,some 0)],[(139,some 0)],[(140,some 0),(11,none)],[(140,some 1),(141,some 0)],[(140,some 2),(12,none)],[(140,some 3),(143,some 0)],[(140,some 4),(142,some 2),(144,some 0)],[(140,some 5),(145,some 0)],[(140,some 6),(146,some 0)],[(140,some 7),(13,none)],[(140,some 8),(148,some 0)],[(140,some 9),(147,some 2),(149,some 0)],[(140,some 10),(150,some 0)],[(151,some 0)],[(152,some 0),(13,none)],[(152,some 1),(153,some 0)],[(152,some 2),(154,some 0)],[(152,some 3),(155,some 0)],[(156,some 0)],[(157,some 0),(13,none)],[(157,some 1),(158,some 0)],[(157,some 2),(159,some 0)],[(157,some 3),(160,some 0)]] [(161,0)] [none,none,none,none,none,none,none,none,none,none,none,none,none,none,none,none,none,none,none,none,none,none,none,none,none,none,none,none,none,none,none,none,none,none,none,none,none,none,none,none,none,none,none,none,none,none,none,none,none,none,none,none,none,none,none,none,none,none,none,none,none,none,none,none,none,none,none,none,none,none,none,none,none,none,none,none,none,none,none,none,none,none,none,none,none,none,none,none,none,none,none,none,none,none,none,none,none,none,none,none,none,none,none,none,none,none,none,none,none,none,none,none,none,none,none,none,none,none,none,none,none,none,none,none,none,none,none,none,none,none,none,none,none,none,none,none,none,none,some 138,some 139,some 140,some 141,some 142,some 143,some 144,some 145,some 146,some 147,some 148,some 149,some 150,some 151,some 152,some 153,some 154,some 155,some 156,some 157,some 158,some 159,some 160,some 161,none,none,none,none,none,none,none,none,none,none,none,none,none,none,none,none,none,none,none,none,none,none,none,none,none,none] (by kernel_rfl) rfl (by kernel_rfl) (fun _=>Only.refl _ _) (fun _ _ _ h k=>h.trans0 k) (Only.drew _) (by kernel_rfl) ?_
          apply rg_ev
          ·rintro a w hR ⟨(e12:_=_),-⟩;refine rg_plain rfl fun K hK=>?_;go_simp;exact hK _ _ rfl (Only.refl _ _)
          apply rg_ev
          ·rintro a w hR ⟨(e138:_=_),-⟩;refine rg_plain rfl fun K hK=>?_;go_simp;exact hK _ _ rfl (Only.refl _ _)
          apply rg_ev
          ·rintro a w hR ⟨(e139:_=_),-⟩;refine rg_plain rfl fun K hK=>?_;go_simp;exact hK _ _ rfl (Only.refl _ _)
          apply rg_ev
          ·rintro a w hR ⟨(e140:_=_),(e11:_=_),-⟩;exact rg_skip rfl rfl e140 rfl
          apply rg_ev
          ·rintro a w hR ⟨(e140:_=_),(e141:_=_),-⟩;exact rg_skip rfl rfl e140 rfl
          apply rg_ev
          ·rintro a w hR ⟨(e140:_=_),(e12:_=_),-⟩;exact rg_skip rfl rfl e140 rfl
          apply rg_ev
          ·rintro a w hR ⟨(e140:_=_),(e143:_=_),-⟩;exact rg_skip rfl rfl e140 rfl
          apply rg_ev
          ·rintro a w hR ⟨(e140:_=_),(e142:_=_),(e144:_=_),-⟩;exact rg_skip rfl rfl e140 rfl
          apply rg_ev
          ·rintro a w hR ⟨(e140:_=_),(e145:_=_),-⟩;exact rg_skip rfl rfl e140 rfl
          apply rg_ev
          ·rintro a w hR ⟨(e140:_=_),(e146:_=_),-⟩;exact rg_skip rfl rfl e140 rfl
          apply rg_ev
          ·rintro a w hR ⟨(e140:_=_),(e13:_=_),-⟩;exact rg_skip rfl rfl e140 rfl
          apply rg_ev
          ·rintro a w hR ⟨(e140:_=_),(e148:_=_),-⟩;exact rg_skip rfl rfl e140 rfl
          apply rg_ev
          ·rintro a w hR ⟨(e140:_=_),(e147:_=_),(e149:_=_),-⟩;exact rg_skip rfl rfl e140 rfl
          apply rg_ev
          ·rintro a w hR ⟨(e140:_=_),(e150:_=_),-⟩;refine rg_plain rfl fun K hK=>?_;go_simp;exact hK _ _ rfl (Only.refl _ _)
          apply rg_ev
          ·rintro a w hR ⟨(e151:_=_),-⟩;refine rg_plain rfl fun K hK=>?_;go_simp;exact hK _ _ rfl (Only.refl _ _)
          apply rg_ev
          ·rintro a w hR ⟨(e152:_=_),(e13:_=_),-⟩;refine rg_want rfl rfl e152 fun K hK=>?_;clear e152;go_simp;exact hK _ _ rfl (Only.refl _ _)
          apply rg_ev
          ·rintro a w hR ⟨(e152:_=_),(e153:_=_),-⟩;refine rg_want rfl rfl e152 fun K hK=>?_;clear e152;have g16:=hR.cell f0 (by simp);go_simp;exact hK _ _ rfl (Only.refl _ _)
          apply rg_ev
          ·rintro a w hR ⟨(e152:_=_),(e154:_=_),-⟩;refine rg_want rfl rfl e152 fun K hK=>?_;clear e152;go_simp;exact hK _ _ rfl (Only.refl _ _)
          apply rg_ev
          ·rintro a w hR ⟨(e152:_=_),(e155:_=_),-⟩;refine rg_plain rfl fun K hK=>?_;go_simp;exact hK _ _ rfl (Only.refl _ _)
          apply rg_ev
          ·rintro a w hR ⟨(e156:_=_),-⟩;refine rg_plain rfl fun K hK=>?_;go_simp;exact hK _ _ rfl (Only.refl _ _)
          apply rg_ev
          ·rintro a w hR ⟨(e157:_=_),(e13:_=_),-⟩;refine rg_want rfl rfl e157 fun K hK=>?_;clear e157;go_simp;exact hK _ _ rfl (Only.refl _ _)
          apply rg_ev
          ·rintro a w hR ⟨(e157:_=_),(e158:_=_),-⟩;refine rg_want rfl rfl e157 fun K hK=>?_;clear e157;have g21:=hR.cell f0 (by simp);go_simp;exact hK _ _ rfl (Only.refl _ _)
          apply rg_ev
          ·rintro a w hR ⟨(e157:_=_),(e159:_=_),-⟩;refine rg_want rfl rfl e157 fun K hK=>?_;clear e157;go_simp;exact hK _ _ rfl (Only.refl _ _)
          apply rg_ev
          ·rintro a w hR ⟨(e157:_=_),(e160:_=_),-⟩;refine rg_plain rfl fun K hK=>?_;go_simp;exact hK _ _ rfl (Only.refl _ _)
          intro f w hR hf;dsimp only [mergeT];obtain ⟨e161,-⟩:=hf;replace e161:f 161=_:=e161;rw [e161];have HO77:=Lib.hid (HO7.out.trans0 hR);have HO58:=Lib.hid (HO57.out.trans0 hR);go_wp2_with fail;refine ⟨⟨0+1,by go_num,by omega,HO77,HO58⟩,?_⟩
          simp [intOf];omega
         ·obtain ⟨pt9,hpt9⟩:∃ pt9,u.u.parts[t - 1]?=some pt9:=⟨_,List.getElem?_eq_getElem (by rw [HX.out.1];omega)⟩;have Hlt:=pw_lt HX.out.2.2.2.sort ht0 Hpt.out hpt9;have q0:(0:Int) < (t:Int):=(by omega);have q1:wrap64 ((t:Int) - 1)=((t - 1:Nat):Int):=(by rw [IntWalk.wrap64_in _ (by omega)];omega);have q2:IntKind.i64.wrap ((t:Int) - 1)=((t - 1:Nat):Int):=(by rw [IntWalk.i64_in _ (by omega)];omega);have q3:t - 1 < kp:=(by omega);have hp0:=rd_elem ptCells_len Hrd7.out hpt9 (r:=0) rfl;rw [Addr.add_lit,← Nat.add_assoc] at hp0;rw [Nat.add_zero] at hp0
          have hcl0:pt9.num < pt.num:=Hlt;have hcl:¬ (pt.num≤pt9.num):=(by omega);clear hpt9 Hlt Hpt;refine wp_region_rg2 (Only []) [[(12,none)],[(138,some 0)],[(139,some 0)],[(140,some 0),(11,none)],[(140,some 1),(141,some 0)],[(140,some 2),(12,none)],[(140,some 3),(143,some 0)],[(140,some 4),(142,some 2),(144,some 0)],[(140,some 5),(145,some 0)],[(140,some 6),(146,some 0)],[(140,some 7),(13,none)],[(140,some 8),(148,some 0)],[(140,some 9),(147,some 2),(149,some 0)],[(140,some 10),(150,some 0)],[(151,some 0)],[(152,some 0),(13,none)],[(152,some 1),(153,some 0)],[(152,some 2),(154,some 0)],[(152,some 3),(155,some 0)],[(156,some 0)],[(157,some 0),(13,none)],[(157,some 1),(158,some 0)],[(157,some 2),(159,some 0)],[(157,some 3),(160,some 0)]] [(161,0)] [none,none,none,none,none,none,none,none,none,none,none,none,none,none,none,none,none,none,none,none,none,none,none,none,none,none,none,none,none,none,none,none,none,none,none,none,none,none,none,none,none,none,none,none,none,none,none,none,none,none,none,none,none,none,none,none,none,none,none,none,none,none,none,none,none,none,none,none,none,none,none,none,none,none,none,none,none,none,none,none,none,none,none,none,none,none,none,none,none,none,none,none,none,none,none,none,none,none,none,none,none,none,none,none,none,none,none,none,none,none,none,none,none,none,none,none,none,none,none,none,none,none,none,none,none,none,none,none,none,none,none,none,none,none,none,none,none,none,some 138,some 139,some 140,some 141,some 142,some 143,some 144,some 145,some 146,some 147,some 148,some 149,some 150,some 151,some 152,some 153,some 154,some 155,some 156,some 157,some 158,some 159,some 160,some 161,none,none,none,none,none,none,none,none,none,none,none,none,none,none,none,none,none,none,none,none,none,none,none,none,none,none] (by kernel_rfl) rfl (by kernel_rfl) (fun _=>Only.refl _ _) (fun _ _ _ h k=>h.trans0 k) (Only.drew _) (by kernel_rfl) ?_
          apply rg_ev
          ·rintro a w hR ⟨(e12:_=_),-⟩;refine rg_plain rfl fun K hK=>?_;go_simp;exact hK _ _ rfl (Only.refl _ _)
          apply rg_ev
          ·rintro a w hR ⟨(e138:_=_),-⟩;refine rg_plain rfl fun K hK=>?_;go_simp;exact hK _ _ rfl (Only.refl _ _)
          apply rg_ev
          ·rintro a w hR ⟨(e139:_=_),-⟩;refine rg_plain rfl fun K hK=>?_;go_simp;exact hK _ _ rfl (Only.refl _ _)
          apply rg_ev
          ·rintro a w hR ⟨(e140:_=_),(e11:_=_),-⟩;refine rg_want rfl rfl e140 fun K hK=>?_;clear e140;go_simp;exact hK _ _ rfl (Only.refl _ _)
          apply rg_ev
          ·rintro a w hR ⟨(e140:_=_),(e141:_=_),-⟩;refine rg_want rfl rfl e140 fun K hK=>?_;clear e140;have g4:=hR.cell f4 (by simp);go_simp;exact hK _ _ rfl (Only.refl _ _)
          apply rg_ev
          ·rintro a w hR ⟨(e140:_=_),(e12:_=_),-⟩;refine rg_want rfl rfl e140 fun K hK=>?_;clear e140;go_simp;exact hK _ _ rfl (Only.refl _ _)
          apply rg_ev
          ·rintro a w hR ⟨(e140:_=_),(e143:_=_),-⟩;refine rg_want rfl rfl e140 fun K hK=>?_;clear e140;go_simp;exact hK _ _ rfl (Only.refl _ _)
          apply rg_ev
          ·rintro a w hR ⟨(e140:_=_),(e142:_=_),(e144:_=_),-⟩;refine rg_want rfl rfl e140 fun K hK=>?_;clear e140;go_simp;exact hK _ _ rfl (Only.refl _ _)
          apply rg_ev
          ·rintro a w hR ⟨(e140:_=_),(e145:_=_),-⟩;refine rg_want rfl rfl e140 fun K hK=>?_;clear e140;go_simp;exact hK _ _ rfl (Only.refl _ _)
          apply rg_ev
          ·rintro a w hR ⟨(e140:_=_),(e146:_=_),-⟩;refine rg_want rfl rfl e140 fun K hK=>?_;clear e140;have g9:=hR.cell hp0 (by simp);go_simp;exact hK _ _ rfl (Only.refl _ _)
          apply rg_ev
          ·rintro a w hR ⟨(e140:_=_),(e13:_=_),-⟩;refine rg_want rfl rfl e140 fun K hK=>?_;clear e140;go_simp;exact hK _ _ rfl (Only.refl _ _)
          apply rg_ev
          ·rintro a w hR ⟨(e140:_=_),(e148:_=_),-⟩;refine rg_want rfl rfl e140 fun K hK=>?_;clear e140;have g11:=hR.cell f0 (by simp);go_simp;exact hK _ _ rfl (Only.refl _ _)
          apply rg_ev
          ·rintro a w hR ⟨(e140:_=_),(e147:_=_),(e149:_=_),-⟩;refine rg_want rfl rfl e140 fun K hK=>?_;clear e140;go_simp;exact hK _ _ rfl (Only.refl _ _)
          apply rg_ev
          ·rintro a w hR ⟨(e140:_=_),(e150:_=_),-⟩;refine rg_plain rfl fun K hK=>?_;go_simp;exact hK _ _ rfl (Only.refl _ _)
          apply rg_ev
          ·rintro a w hR ⟨(e151:_=_),-⟩;refine rg_plain rfl fun K hK=>?_;go_simp;exact hK _ _ rfl (Only.refl _ _)
          apply rg_ev
          ·rintro a w hR ⟨(e152:_=_),(e13:_=_),-⟩;refine rg_want rfl rfl e152 fun K hK=>?_;clear e152;go_simp;exact hK _ _ rfl (Only.refl _ _)
          apply rg_ev
          ·rintro a w hR ⟨(e152:_=_),(e153:_=_),-⟩;refine rg_want rfl rfl e152 fun K hK=>?_;clear e152;have g16:=hR.cell f0 (by simp);go_simp;exact hK _ _ rfl (Only.refl _ _)
          apply rg_ev
          ·rintro a w hR ⟨(e152:_=_),(e154:_=_),-⟩;refine rg_want rfl rfl e152 fun K hK=>?_;clear e152;go_simp;exact hK _ _ rfl (Only.refl _ _)
          apply rg_ev
          ·rintro a w hR ⟨(e152:_=_),(e155:_=_),-⟩;refine rg_plain rfl fun K hK=>?_;go_simp;exact hK _ _ rfl (Only.refl _ _)
          apply rg_ev
          ·rintro a w hR ⟨(e156:_=_),-⟩;refine rg_plain rfl fun K hK=>?_;go_simp;exact hK _ _ rfl (Only.refl _ _)
          apply rg_ev
          ·rintro a w hR ⟨(e157:_=_),(e13:_=_),-⟩;refine rg_want rfl rfl e157 fun K hK=>?_;clear e157;go_simp;exact hK _ _ rfl (Only.refl _ _)
          apply rg_ev
          ·rintro a w hR ⟨(e157:_=_),(e158:_=_),-⟩;refine rg_want rfl rfl e157 fun K hK=>?_;clear e157;have g21:=hR.cell f0 (by simp);go_simp;exact hK _ _ rfl (Only.refl _ _)
          apply rg_ev
          ·rintro a w hR ⟨(e157:_=_),(e159:_=_),-⟩;refine rg_want rfl rfl e157 fun K hK=>?_;clear e157;go_simp;exact hK _ _ rfl (Only.refl _ _)
          apply rg_ev
          ·rintro a w hR ⟨(e157:_=_),(e160:_=_),-⟩;refine rg_plain rfl fun K hK=>?_;go_simp;exact hK _ _ rfl (Only.refl _ _)
          intro f w hR hf;dsimp only [mergeT];obtain ⟨e161,-⟩:=hf;replace e161:f 161=_:=e161;rw [e161];have HO77:=Lib.hid (HO7.out.trans0 hR);have HO58:=Lib.hid (HO57.out.trans0 hR);go_wp2_with fail;refine ⟨⟨t+1,by go_num,by omega,HO77,HO58⟩,?_⟩
          simp [intOf];omega
        ·obtain rfl:t=kp:=(by omega);have HO36:=Lib.hid (HO35.out.trans0 HO56.out);go_wp2_with fail;refine ⟨⟨k+1,by go_num,by omega,HO6,HO36⟩,?_⟩
         simp [intOf];omega
      ·obtain rfl:k=nu:=(by omega);go_wp2_with fail;refine ⟨⟨i+1,by go_num,by omega,HO4⟩,?_⟩
       simp [intOf];omega
  ·obtain rfl:i=nb:=(by omega);clear hlt hi;have c1:=(HR.out.only0 HO2.out).cell (i:=1) rfl;go_wp2_with fail;clear c1
   go_loopw [168] (fun a wl=>∃ j:Nat,a=.int .i64 (j:Int)∧j≤nf∧Hid (Only [] w1 wl)) (fun a _=>nf - (intOf a).toNat)
   case atStart=>exact ⟨0,rfl,Nat.zero_le _,HO2⟩
   case round =>
    clear HO2;obtain ⟨j,rfl,hj,HO3⟩:=hrel;obtain ⟨w3,rfl⟩:∃ w3,w3=wr:=⟨_,rfl⟩
    by_cases hlt2:j < nf
    rotate_left
    ·obtain rfl:j=nf:=(by omega);go_wp2_with fail
     go_ret
     exact ⟨rfl,HO.out.trans0 HO3.out⟩
    ·have hlq:=hlt2;obtain ⟨f,hf⟩:∃ f,L.fs[j]?=some f:=⟨_,List.getElem?_eq_getElem (by rw [HN.out.2.1];assumption)⟩;have hrd:=(HA.out.sf.only0 HO3.out).1;have hne:L.fs.flatMap idCells≠[]:=fun e'=>(by have:=flat_get idCells 3 idCells_len L.fs _ f 0 hf (by omega);rw [e'] at this;cases this);obtain ⟨bq,off,hg,-⟩:=hrd.lt hne;rw [hg] at hrd;obtain rfl:=HN.out.2.2.2.symm.trans hg;clear hg;have d0:=rd_elem idCells_len hrd hf (r:=0) rfl;have d1:=rd_elem idCells_len hrd hf (r:=1) rfl;have d2:=rd_elem idCells_len hrd hf (r:=2) rfl;rw [Addr.add_lit,← Nat.add_assoc] at d0 d1 d2
     rw [Nat.add_zero] at d0;clear hne;have Hf:=Lib.hid hf;have Hrd:=Lib.hid hrd;clear hf hrd hlq
     go_upto_region 36 with (fail)
     obtain ⟨w4,hw4⟩:∃ w4,w4=w3.alloc (.cells #[.int .i64 f.node,.int .i64 f.boot,.int .i64 f.seq] 31):=⟨_,rfl⟩;have o4:Only [] w3 w4:=(by rw [hw4];exact Only.alloc _ _);have r4:Row w4 w3.heap.size 31 [.int .i64 f.node,.int .i64 f.boot,.int .i64 f.seq]:=(by rw [hw4];exact Row.newOf _ _ _ _ rfl);rw [← hw4];have HO4:=Lib.hid (HO3.out.trans0 o4);have f0:=r4.cell (i:=0) rfl;have c1:=(HR.out.only0 HO4.out).cell (i:=1) rfl;have hrd4:=Hrd.out.only0 o4;have Hrd4:=Lib.hid hrd4;clear hw4 o4 r4 d0 d1 d2 hrd4
     by_cases hj0:0 < j
     rotate_left
     ·obtain rfl:j=0:=(by omega);have q0:¬ ((0:Int) < ((0:Nat):Int)):=(by omega);clear hj0 Hf;refine wp_region_rg2 (Only []) [[(14,none)],[(173,some 0)],[(174,some 0)],[(175,some 0),(1,none)],[(175,some 1),(176,some 0)],[(175,some 2),(14,none)],[(175,some 3),(178,some 0)],[(175,some 4),(177,some 2),(179,some 0)],[(175,some 5),(180,some 0)],[(175,some 6),(181,some 0)],[(175,some 7),(15,none)],[(175,some 8),(183,some 0)],[(175,some 9),(182,some 2),(184,some 0)],[(175,some 10),(185,some 0)]] [(186,0)] [none,none,none,none,none,none,none,none,none,none,none,none,none,none,none,none,none,none,none,none,none,none,none,none,none,none,none,none,none,none,none,none,none,none,none,none,none,none,none,none,none,none,none,none,none,none,none,none,none,none,none,none,none,none,none,none,none,none,none,none,none,none,none,none,none,none,none,none,none,none,none,none,none,none,none,none,none,none,none,none,none,none,none,none,none,none,none,none,none,none,none,none,none,none,none,none,none,none,none,none,none,none,none,none,none,none,none,none,none,none,none,none,none,none,none,none,none,none,none,none,none,none,none,none,none,none,none,none,none,none,none,none,none,none,none,none,none,none,none,none,none,none,none,none,none,none,none,none,none,none,none,none,none,none,none,none,none,none,none,none,none,none,none,none,none,none,none,none,none,none,none,none,none,some 173,some 174,some 175,some 176,some 177,some 178,some 179,some 180,some 181,some 182,some 183,some 184,some 185,some 186,none] (by kernel_rfl) rfl (by kernel_rfl) (fun _=>Only.refl _ _) (fun _ _ _ h k=>h.trans0 k) (Only.drew _) (by kernel_rfl) ?_
      apply rg_ev
      ·rintro a w hR ⟨(e14:_=_),-⟩;refine rg_plain rfl fun K hK=>?_;go_simp;exact hK _ _ rfl (Only.refl _ _)
      apply rg_ev
      ·rintro a w hR ⟨(e173:_=_),-⟩;refine rg_plain rfl fun K hK=>?_;go_simp;exact hK _ _ rfl (Only.refl _ _)
      apply rg_ev
      ·rintro a w hR ⟨(e174:_=_),-⟩;refine rg_plain rfl fun K hK=>?_;go_simp;exact hK _ _ rfl (Only.refl _ _)
      apply rg_ev
      ·rintro a w hR ⟨(e175:_=_),(e1:_=_),-⟩;exact rg_skip rfl rfl e175 rfl
      apply rg_ev
      ·rintro a w hR ⟨(e175:_=_),(e176:_=_),-⟩;exact rg_skip rfl rfl e175 rfl
      apply rg_ev
      ·rintro a w hR ⟨(e175:_=_),(e14:_=_),-⟩;exact rg_skip rfl rfl e175 rfl
      apply rg_ev
      ·rintro a w hR ⟨(e175:_=_),(e178:_=_),-⟩;exact rg_skip rfl rfl e175 rfl
      apply rg_ev
      ·rintro a w hR ⟨(e175:_=_),(e177:_=_),(e179:_=_),-⟩;exact rg_skip rfl rfl e175 rfl
      apply rg_ev
      ·rintro a w hR ⟨(e175:_=_),(e180:_=_),-⟩;exact rg_skip rfl rfl e175 rfl
      apply rg_ev
      ·rintro a w hR ⟨(e175:_=_),(e181:_=_),-⟩;exact rg_skip rfl rfl e175 rfl
      apply rg_ev
      ·rintro a w hR ⟨(e175:_=_),(e15:_=_),-⟩;exact rg_skip rfl rfl e175 rfl
      apply rg_ev
      ·rintro a w hR ⟨(e175:_=_),(e183:_=_),-⟩;exact rg_skip rfl rfl e175 rfl
      apply rg_ev
      ·rintro a w hR ⟨(e175:_=_),(e182:_=_),(e184:_=_),-⟩;exact rg_skip rfl rfl e175 rfl
      apply rg_ev
      ·rintro a w hR ⟨(e175:_=_),(e185:_=_),-⟩;refine rg_plain rfl fun K hK=>?_;go_simp;exact hK _ _ rfl (Only.refl _ _)
      intro f w hR hf;dsimp only [mergeT];obtain ⟨e186,-⟩:=hf;replace e186:f 186=_:=e186;rw [e186];have HO44:=Lib.hid (HO4.out.trans0 hR);go_wp2_with fail;refine ⟨⟨0+1,by go_num,by omega,HO44⟩,?_⟩
      simp [intOf];omega
     ·obtain ⟨f9,hf9⟩:∃ f9,L.fs[j - 1]?=some f9:=⟨_,List.getElem?_eq_getElem (by rw [HN.out.2.1];omega)⟩;have Hlt:=pw_lt Hok.out.fs hj0 Hf.out hf9;have q0:(0:Int) < (j:Int):=(by omega);have q1:wrap64 ((j:Int) - 1)=((j - 1:Nat):Int):=(by rw [IntWalk.wrap64_in _ (by omega)];omega);have q2:IntKind.i64.wrap ((j:Int) - 1)=((j - 1:Nat):Int):=(by rw [IntWalk.i64_in _ (by omega)];omega);have q3:j - 1 < nf:=(by omega);have hp0:=rd_elem idCells_len Hrd4.out hf9 (r:=0) rfl;rw [Addr.add_lit,← Nat.add_assoc] at hp0;rw [Nat.add_zero] at hp0;have hcl0:f9.node < f.node:=Hlt
      have hcl:¬ (f.node≤f9.node):=(by omega);clear hf9 Hlt Hf;refine wp_region_rg2 (Only []) [[(14,none)],[(173,some 0)],[(174,some 0)],[(175,some 0),(1,none)],[(175,some 1),(176,some 0)],[(175,some 2),(14,none)],[(175,some 3),(178,some 0)],[(175,some 4),(177,some 2),(179,some 0)],[(175,some 5),(180,some 0)],[(175,some 6),(181,some 0)],[(175,some 7),(15,none)],[(175,some 8),(183,some 0)],[(175,some 9),(182,some 2),(184,some 0)],[(175,some 10),(185,some 0)]] [(186,0)] [none,none,none,none,none,none,none,none,none,none,none,none,none,none,none,none,none,none,none,none,none,none,none,none,none,none,none,none,none,none,none,none,none,none,none,none,none,none,none,none,none,none,none,none,none,none,none,none,none,none,none,none,none,none,none,none,none,none,none,none,none,none,none,none,none,none,none,none,none,none,none,none,none,none,none,none,none,none,none,none,none,none,none,none,none,none,none,none,none,none,none,none,none,none,none,none,none,none,none,none,none,none,none,none,none,none,none,none,none,none,none,none,none,none,none,none,none,none,none,none,none,none,none,none,none,none,none,none,none,none,none,none,none,none,none,none,none,none,none,none,none,none,none,none,none,none,none,none,none,none,none,none,none,none,none,none,none,none,none,none,none,none,none,none,none,none,none,none,none,none,none,none,none,some 173,some 174,some 175,some 176,some 177,some 178,some 179,some 180,some 181,some 182,some 183,some 184,some 185,some 186,none] (by kernel_rfl) rfl (by kernel_rfl) (fun _=>Only.refl _ _) (fun _ _ _ h k=>h.trans0 k) (Only.drew _) (by kernel_rfl) ?_
      apply rg_ev
      ·rintro a w hR ⟨(e14:_=_),-⟩;refine rg_plain rfl fun K hK=>?_;go_simp;exact hK _ _ rfl (Only.refl _ _)
      apply rg_ev
      ·rintro a w hR ⟨(e173:_=_),-⟩;refine rg_plain rfl fun K hK=>?_;go_simp;exact hK _ _ rfl (Only.refl _ _)
      apply rg_ev
      ·rintro a w hR ⟨(e174:_=_),-⟩;refine rg_plain rfl fun K hK=>?_;go_simp;exact hK _ _ rfl (Only.refl _ _)
      apply rg_ev
      ·rintro a w hR ⟨(e175:_=_),(e1:_=_),-⟩;refine rg_want rfl rfl e175 fun K hK=>?_;clear e175;go_simp;exact hK _ _ rfl (Only.refl _ _)
      apply rg_ev
      ·rintro a w hR ⟨(e175:_=_),(e176:_=_),-⟩;refine rg_want rfl rfl e175 fun K hK=>?_;clear e175;have g4:=hR.cell c1 (by simp);go_simp;exact hK _ _ rfl (Only.refl _ _)
      apply rg_ev
      ·rintro a w hR ⟨(e175:_=_),(e14:_=_),-⟩;refine rg_want rfl rfl e175 fun K hK=>?_;clear e175;go_simp;exact hK _ _ rfl (Only.refl _ _)
      apply rg_ev
      ·rintro a w hR ⟨(e175:_=_),(e178:_=_),-⟩;refine rg_want rfl rfl e175 fun K hK=>?_;clear e175;go_simp;exact hK _ _ rfl (Only.refl _ _)
      apply rg_ev
      ·rintro a w hR ⟨(e175:_=_),(e177:_=_),(e179:_=_),-⟩;refine rg_want rfl rfl e175 fun K hK=>?_;clear e175;go_simp;exact hK _ _ rfl (Only.refl _ _)
      apply rg_ev
      ·rintro a w hR ⟨(e175:_=_),(e180:_=_),-⟩;refine rg_want rfl rfl e175 fun K hK=>?_;clear e175;go_simp;exact hK _ _ rfl (Only.refl _ _)
      apply rg_ev
      ·rintro a w hR ⟨(e175:_=_),(e181:_=_),-⟩;refine rg_want rfl rfl e175 fun K hK=>?_;clear e175;have g9:=hR.cell hp0 (by simp);go_simp;exact hK _ _ rfl (Only.refl _ _)
      apply rg_ev
      ·rintro a w hR ⟨(e175:_=_),(e15:_=_),-⟩;refine rg_want rfl rfl e175 fun K hK=>?_;clear e175;go_simp;exact hK _ _ rfl (Only.refl _ _)
      apply rg_ev
      ·rintro a w hR ⟨(e175:_=_),(e183:_=_),-⟩;refine rg_want rfl rfl e175 fun K hK=>?_;clear e175;have g11:=hR.cell f0 (by simp);go_simp;exact hK _ _ rfl (Only.refl _ _)
      apply rg_ev
      ·rintro a w hR ⟨(e175:_=_),(e182:_=_),(e184:_=_),-⟩;refine rg_want rfl rfl e175 fun K hK=>?_;clear e175;go_simp;exact hK _ _ rfl (Only.refl _ _)
      apply rg_ev
      ·rintro a w hR ⟨(e175:_=_),(e185:_=_),-⟩;refine rg_plain rfl fun K hK=>?_;go_simp;exact hK _ _ rfl (Only.refl _ _)
      intro f w hR hf;dsimp only [mergeT];obtain ⟨e186,-⟩:=hf;replace e186:f 186=_:=e186;rw [e186];have HO44:=Lib.hid (HO4.out.trans0 hR);go_wp2_with fail;refine ⟨⟨j+1,by go_num,by omega,HO44⟩,?_⟩
      simp [intOf];omega
end
end Go.Proofs.YtfeglnpmpgipiaaGreatDoor
