/- GrwPk, part 37: Forms10, PieceW, GoodBuckW, GoodKeyW, InForm10T, InForm10P, InForm10M. -/
import Derived.Test.YtfeglnpmpgipiaaGreatDoorGrwPk01
import Derived.Test.YtfeglnpmpgipiaaGreatDoorGrwPk05
import Derived.Test.YtfeglnpmpgipiaaGreatDoorGrwPk08
import Derived.Test.YtfeglnpmpgipiaaGreatDoorGrwPk11
import Derived.Test.YtfeglnpmpgipiaaGreatDoorGrwPk15
import Derived.Test.YtfeglnpmpgipiaaGreatDoorGrwPk36
import Derived.Laws.StructEq
set_option linter.unusedVariables false
set_option maxRecDepth 100000
set_option linter.unusedSimpArgs false
namespace Go.Proofs.YtfeglnpmpgipiaaGreatDoor
section
open Go.RowKit
set_option maxHeartbeats 4000000 in
theorem zCd (n:Int) (w:World):Calls Tryz.prog 65 #[.int .i64 n] w fun e w'=>e=.returned (.bool (decide (0≤n∧n≤1099511627776)))∧Only [] w w':=by
 go_enter Tryz.func65,Tryz.ntmps65
 by_cases h1:0≤n
 ·by_cases h2:n≤1099511627776
  ·skip
   go_wp2_with fail
   go_ret
   exact ⟨by rw [decide_eq_true ⟨h1,h2⟩];rfl,Only.refl _ _⟩
  ·skip
   go_wp2_with fail
   go_ret
   exact ⟨by rw [decide_eq_false (by omega)];rfl,Only.refl _ _⟩
 ·skip
  go_wp2_with fail
  go_ret
  exact ⟨by rw [decide_eq_false (by omega)];rfl,Only.refl _ _⟩
def yF (x:UInt8):Prop:=(97≤x.toNat∧x.toNat≤122)∨(48≤x.toNat∧x.toNat≤57)
instance (x:UInt8):Decidable (yF x):=by unfold yF;exact inferInstance
set_option maxHeartbeats 4000000 in
theorem zFF (x:UInt8) (w:World):Calls Tryz.prog 108 #[.int .u8 (x.toNat:Int)] w fun e w'=>e=.returned (.bool (decide (yF x)))∧Only [] w w':=by
 have F1:Hid (yF x→Ending.returned (Value.bool true)=.returned (.bool (decide (yF x)))):=Lib.hid (fun h=>by rw [decide_eq_true h]);have F0:Hid (¬ yF x→Ending.returned (Value.bool false)=.returned (.bool (decide (yF x)))):=Lib.hid (fun h=>by rw [decide_eq_false h])
 go_enter Tryz.func108,Tryz.ntmps108
 by_cases h1:(97:Int)≤(x.toNat:Int)
 ·by_cases h2:(x.toNat:Int)≤122
  ·skip
   go_wp2_with fail
   go_ret
   exact ⟨F1.out (by unfold yF;omega),Only.refl _ _⟩
  ·by_cases h3:(48:Int)≤(x.toNat:Int)
   ·by_cases h4:(x.toNat:Int)≤57
    ·skip
     go_wp2_with fail
     go_ret
     exact ⟨F1.out (by unfold yF;omega),Only.refl _ _⟩
    ·skip
     go_wp2_with fail
     go_ret
     exact ⟨F0.out (by unfold yF;omega),Only.refl _ _⟩
   ·skip
    go_wp2_with fail
    go_ret
    exact ⟨F0.out (by unfold yF;omega),Only.refl _ _⟩
 ·by_cases h3:(48:Int)≤(x.toNat:Int)
  ·by_cases h4:(x.toNat:Int)≤57
   ·skip
    go_wp2_with fail
    go_ret
    exact ⟨F1.out (by unfold yF;omega),Only.refl _ _⟩
   ·skip
    go_wp2_with fail
    go_ret
    exact ⟨F0.out (by unfold yF;omega),Only.refl _ _⟩
  ·skip
   go_wp2_with fail
   go_ret
   exact ⟨F0.out (by unfold yF;omega),Only.refl _ _⟩
end
section
open Go.RowKit
set_option maxHeartbeats 16000000 in
theorem zCU (p:Pc) (w0:World) (hb:p.etag.length≤140737488355328):Calls Tryz.prog 64 #[pcV p] w0 fun e w'=>∃ v,e=.returned (.bool v)∧(v=true→zDb p)∧Only [] w0 w':=by
 obtain ⟨w1,hw1⟩:∃ w1,w1=w0.alloc (.cells #[.int .i64 p.blob.node,.int .i64 p.blob.boot,.int .i64 p.blob.seq,.int .i64 p.size,.string (str p.etag)] 33):=⟨_,rfl⟩;have o1:Only [] w0 w1:=(by rw [hw1];exact Only.alloc _ _);have r1:Row w1 w0.heap.size 33 [.int .i64 p.blob.node,.int .i64 p.blob.boot,.int .i64 p.blob.seq,.int .i64 p.size,.string (str p.etag)]:=(by rw [hw1];exact Row.zV _ _ _ _ rfl);have c0:=r1.cell (i:=0) rfl;have c1:=r1.cell (i:=1) rfl;have c2:=r1.cell (i:=2) rfl;have hid:=zBg p.blob.node p.blob.boot p.blob.seq w1;rw [hw1] at c0 c1 c2
 obtain ⟨n,hn⟩:∃ n,p.etag.length=n:=⟨_,rfl⟩;have hsz:(str p.etag).size=n:=(by rw [zAm,hn]);have Hn:=Lib.hid hn;have Hat:Hid (∀ (j:Nat) x,p.etag[j]?=some x→∀ hh:j < (str p.etag).size,(str p.etag)[j]'hh=x):=Lib.hid fun j x h=>zGF h;have HOK:Hid ((0≤p.size∧p.size≤1024∧n=64)→zDb p):=Lib.hid (fun h=>⟨h.1,h.2.1,hn.trans h.2.2⟩);rw [hn] at hb;have Hw:=Lib.hid hw1;have HO:=Lib.hid o1;have Hr1:=Lib.hid r1;unfold pcV;obtain ⟨z,hz⟩:∃ z,p.size=z:=⟨_,rfl⟩;obtain ⟨S,hS⟩:∃ S,str p.etag=S:=⟨_,rfl⟩;rw [hz] at HOK
 rw [hS] at hsz Hat;rw [hz,hS] at Hw Hr1 c0 c1 c2 ⊢;clear hn hS hz o1 r1 hw1
 go_enter Tryz.func64,Tryz.ntmps64
 go_wp2_with fail;rw [← Hw.out];(with_reducible refine hid.mono ?_);clear hid c0 c1 c2 Hw;rintro e wi ⟨rfl,oi⟩;have HOi:=Lib.hid oi;have ri:=Hr1.out.zB oi;have c3:=ri.cell (i:=3) rfl;have c4:=ri.cell (i:=4) rfl;clear oi ri;obtain ⟨gv,hgv⟩:∃ gv,decide (zAq p.blob.node p.blob.boot p.blob.seq)=gv:=⟨_,rfl⟩;rw [hgv];clear hgv
 have hcase:gv=false∨(gv=true∧¬ 0≤z)∨(gv=true∧0≤z∧¬ z≤1024)∨(gv=true∧0≤z∧z≤1024∧((n:Int) == 64)=false)∨(gv=true∧0≤z∧z≤1024∧((n:Int) == 64)=true∧n=64):=by
  cases gv with
  | false=>exact .inl rfl
  | true =>
   by_cases h1:0≤z
   ·by_cases h2:z≤1024
    ·by_cases h3:(n:Int)=64
     ·exact .inr (.inr (.inr (.inr ⟨rfl,h1,h2,beq_iff_eq.2 h3,by omega⟩)))
     ·exact .inr (.inr (.inr (.inl ⟨rfl,h1,h2,beq_eq_false_iff_ne.2 h3⟩)))
    ·exact .inr (.inr (.inl ⟨rfl,h1,h2⟩))
   ·exact .inr (.inl ⟨rfl,h1⟩)
 have Hfin:Hid (∀ v:Bool,(v=true→0≤z∧z≤1024∧n=64)→v=true→zDb p):=Lib.hid (fun v h hv=>HOK.out (h hv));clear HOK
 rcases hcase with rfl | ⟨rfl,h1⟩ | ⟨rfl,h1,h2⟩ | ⟨rfl,h1,h2,h3⟩ | ⟨rfl,h1,h2,h3,h4⟩
 all_goals
  go_wp2_with fail
  go_loopw [3,4] (fun f a wl=>∃ (j:Nat) (b:Bool),f=.bool b∧a=.int .i64 (j:Int)∧j≤n∧Hid (b=true→0≤z∧z≤1024∧n=64)∧Hid (Only [] w1 wl)) (fun _ a _=>n - (intOf a).toNat)
  case atStart=>exact ⟨0,_,rfl,rfl,Nat.zero_le _,Lib.hid (by first | (intro h;cases h;done) | (intro _;exact ⟨h1,h2,h4⟩)),HOi⟩
  case round =>
   (try clear h4)
   (try clear h3)
   (try clear h2)
   (try clear h1)
   clear c3 c4;obtain ⟨j,b,rfl,rfl,hj,HC,HOl⟩:=hrel;have c4:=(Hr1.out.zB HOl.out).cell (i:=4) rfl
   by_cases hlt:j < n
   ·obtain ⟨x,hx⟩:∃ x,p.etag[j]?=some x:=⟨_,List.getElem?_eq_getElem (by rw [Hn.out];exact hlt)⟩;have hix:=Hat.out j x hx (by omega);have hxl:=x.toNat_lt;clear hx
    cases b with
    | false =>
     go_wp2_with fail;exact ⟨⟨j+1,false,rfl,by go_num,by omega,Lib.hid (by simp),HOl⟩,by simp [intOf];omega⟩
    | true =>
     have HT:∀ v:Bool,Hid (v=true→0≤z∧z≤1024∧n=64):=fun v=>Lib.hid (fun _=>HC.out rfl)
     by_cases g1:(48:Int)≤(x.toNat:Int)
     ·by_cases g2:(x.toNat:Int)≤57
      ·skip
       go_wp2_with fail;exact ⟨⟨j+1,true,rfl,by go_num,by omega,HT true,HOl⟩,by simp [intOf];omega⟩
      ·by_cases g3:(97:Int)≤(x.toNat:Int)
       ·by_cases g4:(x.toNat:Int)≤102
        ·skip
         go_wp2_with fail;exact ⟨⟨j+1,true,rfl,by go_num,by omega,HT true,HOl⟩,by simp [intOf];omega⟩
        ·skip
         go_wp2_with fail;exact ⟨⟨j+1,false,rfl,by go_num,by omega,HT false,HOl⟩,by simp [intOf];omega⟩
       ·skip
        go_wp2_with fail;exact ⟨⟨j+1,false,rfl,by go_num,by omega,HT false,HOl⟩,by simp [intOf];omega⟩
     ·have g3:¬ (97:Int)≤(x.toNat:Int):=(by omega);go_wp2_with fail;exact ⟨⟨j+1,false,rfl,by go_num,by omega,HT false,HOl⟩,by simp [intOf];omega⟩
   ·obtain rfl:j=n:=(by omega);go_wp2_with fail
    go_ret
    first | exact ⟨b,rfl,Hfin.out b HC.out,HO.out.zC HOl.out⟩ | exact ⟨Hfin.out b HC.out,HO.out.zC HOl.out⟩
end
section
open Go.RowKit
set_option maxHeartbeats 8000000 in
theorem zCJ (s:Bs) (w0:World) (hb:s.length≤140737488355328):Calls Tryz.prog 62 #[.string (str s)] w0 fun e w'=>∃ v,e=.returned (.bool v)∧(v=true→3≤s.length∧s.length≤63)∧Only [] w0 w':=by
 obtain ⟨n,hn⟩:∃ n,s.length=n:=⟨_,rfl⟩;have hsz:(str s).size=n:=(by rw [zAm,hn]);have Hn:=Lib.hid hn;have Hat:Hid (∀ (j:Nat) x,s[j]?=some x→∀ hh:j < (str s).size,(str s)[j]'hh=x):=Lib.hid fun j x h=>zGF h;rw [hn] at hb ⊢;obtain ⟨S,hS⟩:∃ S,str s=S:=⟨_,rfl⟩;rw [hS] at hsz Hat ⊢;clear hn hS
 go_enter Tryz.func62,Tryz.ntmps62
 have hcase:((3:Int)≤(n:Int)∧(n:Int)≤63)∨¬ (3:Int)≤(n:Int)∨((3:Int)≤(n:Int)∧¬ (n:Int)≤63):=by omega
 rcases hcase with ⟨h1,h2⟩ | h1 | ⟨h1,h2⟩
 all_goals
  go_wp2_with fail
  go_loopw [3,4] (fun f a wl=>∃ (j:Nat) (b:Bool),f=.bool b∧a=.int .i64 (j:Int)∧j≤n∧Hid (b=true→3≤n∧n≤63)∧Hid (Only [] w0 wl)) (fun _ a _=>n - (intOf a).toNat)
  case atStart=>exact ⟨0,_,rfl,rfl,Nat.zero_le _,Lib.hid (by first | (intro h;cases h;done) | (intro _;omega)),Lib.hid (Only.refl _ _)⟩
  case round =>
   (try clear h2)
   clear h1;obtain ⟨j,b,rfl,rfl,hj,HC,HOl⟩:=hrel
   by_cases hlt:j < n
   ·obtain ⟨x,hx⟩:∃ x,s[j]?=some x:=⟨_,List.getElem?_eq_getElem (by rw [Hn.out];exact hlt)⟩;have hix:=Hat.out j x hx (by omega);have hxl:=x.toNat_lt;clear hx
    cases b with
    | false =>
     go_wp2_with fail;exact ⟨⟨j+1,false,rfl,by go_num,by omega,Lib.hid (by simp),HOl⟩,by simp [intOf];omega⟩
    | true =>
     have HT:∀ v:Bool,Hid (v=true→3≤n∧n≤63):=fun v=>Lib.hid (fun _=>HC.out rfl);have hpl:=zFF x wr;go_wp2_with fail;(with_reducible refine hpl.mono ?_);clear hpl;rintro e wp ⟨rfl,op⟩;have HOw:=Lib.hid (HOl.out.zC op);clear op;obtain ⟨pv,hpv⟩:∃ pv,decide (yF x)=pv:=⟨_,rfl⟩;rw [hpv];clear hpv
     cases pv with
     | true =>
      go_wp2_with fail;exact ⟨⟨j+1,true,rfl,by go_num,by omega,HT true,HOw⟩,by simp [intOf];omega⟩
     | false =>
      have hw1:wrap64 ((n:Int) - 1)=(n:Int) - 1:=IntWalk.wrap64_in _ (by omega)
      by_cases g1:(0:Int) < (j:Int)
      ·by_cases g2:(j:Int) < (n:Int) - 1
       ·by_cases g3:(x.toNat:Int)=45
        ·have e3:((x.toNat:Int) == 45)=true:=beq_iff_eq.2 g3;go_wp2_with fail;exact ⟨⟨j+1,true,rfl,by go_num,by omega,HT true,HOw⟩,by simp [intOf];omega⟩
        ·have e3:((x.toNat:Int) == 45)=false:=beq_eq_false_iff_ne.2 g3
         by_cases g4:(x.toNat:Int)=46
         ·have e4:((x.toNat:Int) == 46)=true:=beq_iff_eq.2 g4;go_wp2_with fail;exact ⟨⟨j+1,true,rfl,by go_num,by omega,HT true,HOw⟩,by simp [intOf];omega⟩
         ·have e4:((x.toNat:Int) == 46)=false:=beq_eq_false_iff_ne.2 g4;go_wp2_with fail;exact ⟨⟨j+1,false,rfl,by go_num,by omega,HT false,HOw⟩,by simp [intOf];omega⟩
       ·skip
        go_wp2_with fail;exact ⟨⟨j+1,false,rfl,by go_num,by omega,HT false,HOw⟩,by simp [intOf];omega⟩
      ·skip
       go_wp2_with fail;exact ⟨⟨j+1,false,rfl,by go_num,by omega,HT false,HOw⟩,by simp [intOf];omega⟩
   ·obtain rfl:j=n:=(by omega);go_wp2_with fail
    go_ret
    first | exact ⟨b,rfl,HC.out,HOl.out⟩ | exact ⟨HC.out,HOl.out⟩
end
section
open Go.RowKit
set_option maxHeartbeats 8000000 in
theorem zDY (s:Bs) (w0:World) (hb:s.length≤140737488355328):Calls Tryz.prog 63 #[.string (str s)] w0 fun e w'=>∃ v,e=.returned (.bool v)∧(v=true→1≤s.length∧s.length≤200)∧Only [] w0 w':=by
 obtain ⟨n,hn⟩:∃ n,s.length=n:=⟨_,rfl⟩;have hsz:(str s).size=n:=(by rw [zAm,hn]);have Hn:=Lib.hid hn;have Hat:Hid (∀ (j:Nat) x,s[j]?=some x→∀ hh:j < (str s).size,(str s)[j]'hh=x):=Lib.hid fun j x h=>zGF h;rw [hn] at hb ⊢;obtain ⟨S,hS⟩:∃ S,str s=S:=⟨_,rfl⟩;rw [hS] at hsz Hat ⊢;clear hn hS
 go_enter Tryz.func63,Tryz.ntmps63
 have hcase:((1:Int)≤(n:Int)∧(n:Int)≤200)∨¬ (1:Int)≤(n:Int)∨((1:Int)≤(n:Int)∧¬ (n:Int)≤200):=by omega
 rcases hcase with ⟨h1,h2⟩ | h1 | ⟨h1,h2⟩
 all_goals
  go_wp2_with fail
  go_loopw [3,4] (fun f a wl=>∃ (j:Nat) (b:Bool),f=.bool b∧a=.int .i64 (j:Int)∧j≤n∧Hid (b=true→1≤n∧n≤200)∧Hid (Only [] w0 wl)) (fun _ a _=>n - (intOf a).toNat)
  case atStart=>exact ⟨0,_,rfl,rfl,Nat.zero_le _,Lib.hid (by first | (intro h;cases h;done) | (intro _;omega)),Lib.hid (Only.refl _ _)⟩
  case round =>
   (try clear h2)
   clear h1;obtain ⟨j,b,rfl,rfl,hj,HC,HOl⟩:=hrel
   by_cases hlt:j < n
   ·obtain ⟨x,hx⟩:∃ x,s[j]?=some x:=⟨_,List.getElem?_eq_getElem (by rw [Hn.out];exact hlt)⟩;have hix:=Hat.out j x hx (by omega);have hxl:=x.toNat_lt;clear hx
    cases b with
    | false =>
     go_wp2_with fail;exact ⟨⟨j+1,false,rfl,by go_num,by omega,Lib.hid (by simp),HOl⟩,by simp [intOf];omega⟩
    | true =>
     by_cases g1:(32:Int)≤(x.toNat:Int)
     ·by_cases g2:(x.toNat:Int)≤126
      ·skip
       go_wp2_with fail;exact ⟨⟨j+1,true,rfl,by go_num,by omega,HC,HOl⟩,by simp [intOf];omega⟩
      ·skip
       go_wp2_with fail;exact ⟨⟨j+1,false,rfl,by go_num,by omega,Lib.hid (by simp),HOl⟩,by simp [intOf];omega⟩
     ·skip
      go_wp2_with fail;exact ⟨⟨j+1,false,rfl,by go_num,by omega,Lib.hid (by simp),HOl⟩,by simp [intOf];omega⟩
   ·obtain rfl:j=n:=(by omega);go_wp2_with fail
    go_ret
    first | exact ⟨b,rfl,HC.out,HOl.out⟩ | exact ⟨HC.out,HOl.out⟩
end
section
open Go.RowKit
theorem zJp (a b:Pc) (w:World):(Op.equalIn 10000 33 (pcV a) (pcV b)).run Tryz.prog w=.ok (decide (a=b)) w:=by
 have hu:Tryz.prog.underlying 33=some (.struct (Tryz.prog.fieldsOf 33)):=(by kernel_rfl);have hs:Tryz.prog.stoodInHeld 33=false:=(by kernel_rfl);have hu2:Tryz.prog.underlying 31=some (.struct (Tryz.prog.fieldsOf 31)):=(by kernel_rfl);have hs2:Tryz.prog.stoodInHeld 31=false:=(by kernel_rfl);have h:=Tryz.underlying33;have h2:=Tryz.underlying31
 have qi:∀ (x y:Cid) (w:World),(Op.equalIn 9999 31 (.agg #[.int .i64 x.node,.int .i64 x.boot,.int .i64 x.seq]) (.agg #[.int .i64 y.node,.int .i64 y.boot,.int .i64 y.seq])).run Tryz.prog w=.ok (decide (x=y)) w:=by
  intro x y w;rw [show (9999:Nat)=9998+1 from rfl,run_equalIn_agg w 9998 31 _ _ hu2 hs2];simp only [Program.fieldsOf,h2];have q3:=fun (x y:Int) (w:World)=>run_equalIn_int (P:=Tryz.prog) w 9997 3 .i64 .i64 x y Tryz.underlying3
  simp [Op.eqFields,part,Tryz.isAgg3,q3]
  obtain ⟨a1,a2,a3⟩:=x;obtain ⟨b1,b2,b3⟩:=y;simp only [Cid.mk.injEq]
  by_cases e1:a1=b1 <;> by_cases e2:a2=b2 <;> by_cases e3:a3=b3 <;> simp [e1,e2,e3]
 unfold pcV;rw [show (10000:Nat)=9999+1 from rfl,run_equalIn_agg w 9999 33 _ _ hu hs];simp only [Program.fieldsOf,h];have q1:=fun (x y:ByteArray) (w:World)=>run_equalIn_string (P:=Tryz.prog) w 9998 9 x y Tryz.underlying9;have q3:=fun (x y:Int) (w:World)=>run_equalIn_int (P:=Tryz.prog) w 9998 3 .i64 .i64 x y Tryz.underlying3;have hi:=qi a.blob b.blob
 simp [Op.eqFields,part,Tryz.isAgg9,Tryz.isAgg31,Tryz.isAgg3,Tryz.sizeOf31,q1,q3,hi,zAV]
 obtain ⟨a1,a2,a3⟩:=a;obtain ⟨b1,b2,b3⟩:=b;simp only [Pc.mk.injEq]
 by_cases e1:a1=b1 <;> by_cases e2:a2=b2 <;> by_cases e3:a3=b3 <;> simp [e1,e2,e3]
theorem yP {P:Program} {o:Oper} {a:Act} {w:World} {K:Act→World→Prop} {c x:Nat} {g t:Bool} (ho:o.op=.pick (.tmp c) (.tmp x) (.const (.bool false))) (hc:a.tmps.getD c undef=.bool g) (hx:g=true→a.tmps.getD x undef=.bool t)
  (h:K (a.put o.dst (.bool (g && t))) w):o.wp P a w K (fun _ _ _=>False):=by
 unfold Oper.wp execOp;have e1:a.eval (.tmp c)=.bool g:=hc;have e2:g=true→a.eval (.tmp x)=.bool t:=hx;simp only [ho]
 cases g with
 | false=>go_simp;exact h
 | true=>replace e2:=e2 rfl;go_simp;exact h
def zDd:Code→Code
 | .seq _ b=>b
 | c=>c
noncomputable def zAO:Code:=zDd (zDd (zDd (zDd (zDd (zDd (zDd (zDd (zDd ((Tryz.f21.body).getD .skip)))))))))
structure zIJ (m z:zS):Prop where
 tt:0≤m.x.time∧m.x.time≤1099511627776
 dd:0≤m.x.days∧m.x.days≤1099511627776
 up:zAq m.x.upload.node m.x.upload.boot m.x.upload.seq
 bucket:z.x.bucket=m.x.bucket
 key:z.x.key=m.x.key
 upload:z.x.upload=m.x.upload
 piece:z.x.piece=m.x.piece
 part:z.x.part=m.x.part
 time:z.x.time=m.x.time
 days:z.x.days=m.x.days
 parts:z.x.parts.length=m.x.parts.length
set_option maxHeartbeats 16000000 in
theorem zAY {Q:Exit→Act→World→Prop} {c0 c2 c5 c6 c7 c8 c9 c10 c11 c12 c13 c14 c15 c16 c17 c18 c19 c20 c21 c22 c23 c24 c25 c26 c27 c28 c29 c30 c31 c32 c33 c34 c35 c36 c37 c38 c39 c40 c41 c42 c43 c44 c45 c46 c47 c48 c49 c50 c51 c52 c53 c54 c55 c56 c57 c58 c59 c60 c61 c62 c63 c64 c65 c66 c67 c68 c69 c70 c71 c72 c73 c74 c75 c76 c77 c78 c79 c80 c81 c82 c83 c84 c85 c86 c87 c88 c89 c90 c91 c92 c93 c94 c95 c96 c97 c98 c99 c100 c101 c102 c103 c104 c105 c106 c107 c108 c109 c110 c111 c112 c113 c114 c115 c116 c117 c118 c119 c120 c121 c122 c123 c124 c125 c126 c127 c128 c129 c130 c131 c132 c133 c134 c135 c136 c137 c138 c139 c140 c141 c142 c143 c144 c145 c146 c147 c148 c149 c150 c151 c152 c153 c154 c155 c156 c157 c158 c159 c160 c161 c162 c163 c164 c165 c166 c167 c168 c169 c170 c171 c172 c173 c174 c175 c176 c177 c178 c179 c180 c181 c182 c183 c184 c185 c186 c187 c188 c189 c190 c191 c192 c193 c194 c195 c196 c197 c198 c199 c200 c201 c202 c203 c204 c205 c206 c207 c208 c209 c210 c211 c212 c213 c214 c215 c216 c217 c218 c219 c220 c221 c222 c223 c224 c225 c226 c227 c228 c229 c230 c231 c232 c233 c234 c235 c236 c237 c238 c239 c240 c241 c242 c243 c244 c245 c246 c247 c248 c249 c250 c251 c252 c253 c254:Value} (X Z:Nat) (m z:zS) (b:Bool) (w0:World) (rX:Row w0 X 36 (zK m)) (rZ:Row w0 Z 36 (zK z))
  (hexit:∀ (a:Act) (v:Bool) (w':World),a.tmps.getD 2 undef=.bool v→a.defers=[]→(v=true→b=true∧zIJ m z)→Only [] w0 w'→Q .ret a w') :
  Code.wp Tryz.prog zAO Q ⟨(c0 :: .pointer (some ⟨X,0,none⟩) :: c2 :: .pointer (some ⟨Z,0,none⟩) :: .bool b :: c5 :: c6 :: c7 :: c8 :: c9 :: c10 :: c11 :: c12 :: c13 :: c14 :: c15 :: c16 :: c17 :: c18 :: c19 :: c20 :: c21 :: c22 :: c23 :: c24 :: c25 :: c26 :: c27 :: c28 :: c29 :: c30 :: c31 :: c32 :: c33 :: c34 :: c35 :: c36 :: c37 :: c38 :: c39 :: c40 :: c41 :: c42 :: c43 :: c44 :: c45 :: c46 :: c47 :: c48 :: c49 :: c50 :: c51 :: c52 :: c53 :: c54 :: c55 :: c56 :: c57 :: c58 :: c59 :: c60 :: c61 :: c62 :: c63 :: c64 :: c65 :: c66 :: c67 :: c68 :: c69 :: c70 :: c71 :: c72 :: c73 :: c74 :: c75 :: c76 :: c77 :: c78 :: c79 :: c80 :: c81 :: c82 :: c83 :: c84 :: c85 :: c86 :: c87 :: c88 :: c89 :: c90 :: c91 :: c92 :: c93 :: c94 :: c95 :: c96 :: c97 :: c98 :: c99 :: c100 :: c101 :: c102 :: c103 :: c104 :: c105 :: c106 :: c107 :: c108 :: c109 :: c110 :: c111 :: c112 :: c113 :: c114 :: c115 :: c116 :: c117 :: c118 :: c119 :: c120 :: c121 :: c122 :: c123 :: c124 :: c125 :: c126 :: c127 :: c128 :: c129 :: c130 :: c131 :: c132 :: c133 :: c134 :: c135 :: c136 :: c137 :: c138 :: c139 :: c140 :: c141 :: c142 :: c143 :: c144 :: c145 :: c146 :: c147 :: c148 :: c149 :: c150 :: c151 :: c152 :: c153 :: c154 :: c155 :: c156 :: c157 :: c158 :: c159 :: c160 :: c161 :: c162 :: c163 :: c164 :: c165 :: c166 :: c167 :: c168 :: c169 :: c170 :: c171 :: c172 :: c173 :: c174 :: c175 :: c176 :: c177 :: c178 :: c179 :: c180 :: c181 :: c182 :: c183 :: c184 :: c185 :: c186 :: c187 :: c188 :: c189 :: c190 :: c191 :: c192 :: c193 :: c194 :: c195 :: c196 :: c197 :: c198 :: c199 :: c200 :: c201 :: c202 :: c203 :: c204 :: c205 :: c206 :: c207 :: c208 :: c209 :: c210 :: c211 :: c212 :: c213 :: c214 :: c215 :: c216 :: c217 :: c218 :: c219 :: c220 :: c221 :: c222 :: c223 :: c224 :: c225 :: c226 :: c227 :: c228 :: c229 :: c230 :: c231 :: c232 :: c233 :: c234 :: c235 :: c236 :: c237 :: c238 :: c239 :: c240 :: c241 :: c242 :: c243 :: c244 :: c245 :: c246 :: c247 :: c248 :: c249 :: c250 :: c251 :: c252 :: c253 :: c254 :: []).toArray,[]⟩ w0:=by
 conv=>arg 2;whnf
 have HX:=Lib.hid rX;have HZ:=Lib.hid rZ;have HE:=Lib.hid hexit;clear hexit rX rZ;obtain ⟨T1,hT1⟩:∃ T1:Bool,decide (0≤m.x.time∧m.x.time≤1099511627776)=T1:=⟨_,rfl⟩;have HT1:=Lib.hid hT1;obtain ⟨T2,hT2⟩:∃ T2:Bool,decide (0≤m.x.days∧m.x.days≤1099511627776)=T2:=⟨_,rfl⟩;have HT2:=Lib.hid hT2;obtain ⟨T3,hT3⟩:∃ T3:Bool,decide (zAq m.x.upload.node m.x.upload.boot m.x.upload.seq)=T3:=⟨_,rfl⟩;have HT3:=Lib.hid hT3;obtain ⟨T4,hT4⟩:∃ T4:Bool,decide (z.x.bucket=m.x.bucket)=T4:=⟨_,rfl⟩;have HT4:=Lib.hid hT4;obtain ⟨T5,hT5⟩:∃ T5:Bool,decide (z.x.key=m.x.key)=T5:=⟨_,rfl⟩
 have HT5:=Lib.hid hT5;obtain ⟨T6,hT6⟩:∃ T6:Bool,decide (z.x.upload=m.x.upload)=T6:=⟨_,rfl⟩;have HT6:=Lib.hid hT6;obtain ⟨T7,hT7⟩:∃ T7:Bool,decide (z.x.piece=m.x.piece)=T7:=⟨_,rfl⟩;have HT7:=Lib.hid hT7;obtain ⟨T8,hT8⟩:∃ T8:Bool,(z.x.part == m.x.part)=T8:=⟨_,rfl⟩;have HT8:=Lib.hid hT8;obtain ⟨T9,hT9⟩:∃ T9:Bool,(z.x.time == m.x.time)=T9:=⟨_,rfl⟩;have HT9:=Lib.hid hT9;obtain ⟨T10,hT10⟩:∃ T10:Bool,(z.x.days == m.x.days)=T10:=⟨_,rfl⟩;have HT10:=Lib.hid hT10;obtain ⟨T11,hT11⟩:∃ T11:Bool,((z.x.parts.length:Int) == (m.x.parts.length:Int))=T11:=⟨_,rfl⟩
 have HT11:=Lib.hid hT11;clear hT1 hT2 hT3 hT4 hT5 hT6 hT7 hT8 hT9 hT10 hT11;refine wp_seq_k fun K hK0=>?_;refine zDg (Only []) [[(4,none)],[(181,some 0)],[(182,some 0),(1,none)],[(182,some 1),(183,some 0)],[(182,some 2),(184,some 0)],[(182,some 3),(185,some 0)],[(186,some 0)],[(187,some 0),(1,none)],[(187,some 1),(188,some 0)],[(187,some 2),(189,some 0)],[(187,some 3),(190,some 0)],[(191,some 0)],[(192,some 0),(1,none)],[(192,some 1),(193,some 0)],[(192,some 2),(194,some 0)],[(192,some 3),(195,some 0)],[(196,some 0)],[(197,some 0),(3,none)],[(197,some 1),(198,some 0)],[(197,some 2),(1,none)],[(197,some 3),(200,some 0)],[(197,some 4),(199,some 2),(201,some 0)],[(197,some 5),(202,some 0)],[(203,some 0)],[(204,some 0),(3,none)],[(204,some 1),(205,some 0)],[(204,some 2),(1,none)],[(204,some 3),(207,some 0)],[(204,some 4),(206,some 2),(208,some 0)],[(204,some 5),(209,some 0)],[(210,some 0)],[(211,some 0),(3,none)],[(211,some 1),(212,some 0)],[(211,some 2),(1,none)],[(211,some 3),(214,some 0)],[(211,some 4),(213,some 2),(215,some 0)],[(211,some 5),(216,some 0)],[(217,some 0)],[(218,some 0),(3,none)],[(218,some 1),(219,some 0)],[(218,some 2),(1,none)],[(218,some 3),(221,some 0)],[(218,some 4),(220,some 2),(222,some 0)],[(218,some 5),(223,some 0)],[(224,some 0)],[(225,some 0),(3,none)],[(225,some 1),(226,some 0)],[(225,some 2),(1,none)],[(225,some 3),(228,some 0)],[(225,some 4),(227,some 2),(229,some 0)],[(225,some 5),(230,some 0)],[(231,some 0)],[(232,some 0),(3,none)],[(232,some 1),(233,some 0)],[(232,some 2),(1,none)],[(232,some 3),(235,some 0)],[(232,some 4),(234,some 2),(236,some 0)],[(232,some 5),(237,some 0)],[(238,some 0)],[(239,some 0),(3,none)],[(239,some 1),(240,some 0)],[(239,some 2),(1,none)],[(239,some 3),(242,some 0)],[(239,some 4),(241,some 2),(243,some 0)],[(239,some 5),(244,some 0)],[(245,some 0)],[(246,some 0),(3,none)],[(246,some 1),(247,some 0)],[(246,some 2),(248,some 0)],[(246,some 3),(1,none)],[(246,some 4),(250,some 0)],[(246,some 5),(251,some 0)],[(246,some 6),(249,some 3),(252,some 0)],[(246,some 7),(253,some 0)],[(254,some 0)]] [(2,0)] [none,none,some 2,none,none,none,none,none,none,none,none,none,none,none,none,none,none,none,none,none,none,none,none,none,none,none,none,none,none,none,none,none,none,none,none,none,none,none,none,none,none,none,none,none,none,none,none,none,none,none,none,none,none,none,none,none,none,none,none,none,none,none,none,none,none,none,none,none,none,none,none,none,none,none,none,none,none,none,none,none,none,none,none,none,none,none,none,none,none,none,none,none,none,none,none,none,none,none,none,none,none,none,none,none,none,none,none,none,none,none,none,none,none,none,none,none,none,none,none,none,none,none,none,none,none,none,none,none,none,none,none,none,none,none,none,none,none,none,none,none,none,none,none,none,none,none,none,none,none,none,none,none,none,none,none,none,none,none,none,none,none,none,none,none,none,none,none,none,none,none,none,none,none,none,none,none,none,none,none,none,none,some 181,some 182,some 183,some 184,some 185,some 186,some 187,some 188,some 189,some 190,some 191,some 192,some 193,some 194,some 195,some 196,some 197,some 198,some 199,some 200,some 201,some 202,some 203,some 204,some 205,some 206,some 207,some 208,some 209,some 210,some 211,some 212,some 213,some 214,some 215,some 216,some 217,some 218,some 219,some 220,some 221,some 222,some 223,some 224,some 225,some 226,some 227,some 228,some 229,some 230,some 231,some 232,some 233,some 234,some 235,some 236,some 237,some 238,some 239,some 240,some 241,some 242,some 243,some 244,some 245,some 246,some 247,some 248,some 249,some 250,some 251,some 252,some 253,some 254] (by kernel_rfl) rfl (fun _=>Only.refl _ _) (fun _ _ _ h k=>h.zC k) (by kernel_rfl) ?_
 refine ⟨EV (.bool b),EV.stable _,fun a w hR hf=>?_,?_⟩
 ·obtain ⟨e4,-⟩:=hf;replace e4:a.tmps.getD 4 undef=_:=e4;refine zA rfl fun K hK=>?_;rw [Array.getD_eq_getD_getElem?] at e4;go_simp;exact hK _ _ rfl (Only.refl _ _)
 refine ⟨EV (.bool b),EV.stable _,fun a w hR hf=>?_,?_⟩
 ·obtain ⟨e181,-⟩:=hf;replace e181:EV (.bool b) (a.tmps.getD 181 undef) w:=e181;refine zA rfl fun K hK=>?_;generalize hv181:a.tmps.getD 181 undef=v181 at e181;go_simp;exact hK _ _ e181 (Only.refl _ _)
 apply jM (b)
 ·intro a w hR hf;obtain ⟨e182,e1,-⟩:=hf;replace e182:EV (.bool b) (a.tmps.getD 182 undef) w:=e182;replace e1:a.tmps.getD 1 undef=_:=e1;refine qF rfl rfl e182 (fun hgd K hK=>?_) (fun hn h=>absurd h hn);clear e182;go_simp;exact hK _ _ (fun _=>rfl) (Only.refl _ _)
 apply jM (b)
 ·intro a w hR hf;obtain ⟨e182,e183,-⟩:=hf;replace e182:EV (.bool b) (a.tmps.getD 182 undef) w:=e182;replace e183:b=true→a.tmps.getD 183 undef=_:=e183;refine qF rfl rfl e182 (fun hgd K hK=>?_) (fun hn h=>absurd h hn);replace e183:=e183 hgd;clear e182;have c16:=(HX.out.zB hR).cell (i:=16) rfl;go_simp;exact hK _ _ (fun _=>rfl) (Only.refl _ _)
 apply jM (b)
 ·intro a w hR hf;obtain ⟨e182,e184,-⟩:=hf;replace e182:EV (.bool b) (a.tmps.getD 182 undef) w:=e182;replace e184:b=true→a.tmps.getD 184 undef=_:=e184;refine qF rfl rfl e182 (fun hgd K hK=>?_) (fun hn h=>absurd h hn);replace e184:=e184 hgd;clear e182;go_simp;have hc:=zCd m.x.time w;rw [HT1.out] at hc;(with_reducible refine hc.mono ?_);rintro e w' ⟨rfl,o⟩;exact hK _ _ (fun _=>rfl) o
 refine ⟨EV (.bool (b && T1)),EV.stable _,fun a w hR hf=>?_,?_⟩
 ·obtain ⟨e182,e185,-⟩:=hf;replace e182:EV (.bool b) (a.tmps.getD 182 undef) w:=e182;replace e185:b=true→a.tmps.getD 185 undef=_:=e185;refine zA rfl fun K hK=>?_;exact yP rfl e182 e185 (hK _ _ rfl (Only.refl _ _))
 refine ⟨EV (.bool (b && T1)),EV.stable _,fun a w hR hf=>?_,?_⟩
 ·obtain ⟨e186,-⟩:=hf;replace e186:EV (.bool (b && T1)) (a.tmps.getD 186 undef) w:=e186;refine zA rfl fun K hK=>?_;generalize hv186:a.tmps.getD 186 undef=v186 at e186;go_simp;exact hK _ _ e186 (Only.refl _ _)
 apply jM ((b && T1))
 ·intro a w hR hf;obtain ⟨e187,e1,-⟩:=hf;replace e187:EV (.bool (b && T1)) (a.tmps.getD 187 undef) w:=e187;replace e1:a.tmps.getD 1 undef=_:=e1;refine qF rfl rfl e187 (fun hgd K hK=>?_) (fun hn h=>absurd h hn);clear e187;go_simp;exact hK _ _ (fun _=>rfl) (Only.refl _ _)
 apply jM ((b && T1))
 ·intro a w hR hf;obtain ⟨e187,e188,-⟩:=hf;replace e187:EV (.bool (b && T1)) (a.tmps.getD 187 undef) w:=e187;replace e188:(b && T1)=true→a.tmps.getD 188 undef=_:=e188;refine qF rfl rfl e187 (fun hgd K hK=>?_) (fun hn h=>absurd h hn);replace e188:=e188 hgd;clear e187;have c17:=(HX.out.zB hR).cell (i:=17) rfl;go_simp;exact hK _ _ (fun _=>rfl) (Only.refl _ _)
 apply jM ((b && T1))
 ·intro a w hR hf;obtain ⟨e187,e189,-⟩:=hf;replace e187:EV (.bool (b && T1)) (a.tmps.getD 187 undef) w:=e187;replace e189:(b && T1)=true→a.tmps.getD 189 undef=_:=e189;refine qF rfl rfl e187 (fun hgd K hK=>?_) (fun hn h=>absurd h hn);replace e189:=e189 hgd;clear e187;go_simp;have hc:=zCd m.x.days w;rw [HT2.out] at hc;(with_reducible refine hc.mono ?_);rintro e w' ⟨rfl,o⟩;exact hK _ _ (fun _=>rfl) o
 refine ⟨EV (.bool ((b && T1) && T2)),EV.stable _,fun a w hR hf=>?_,?_⟩
 ·obtain ⟨e187,e190,-⟩:=hf;replace e187:EV (.bool (b && T1)) (a.tmps.getD 187 undef) w:=e187;replace e190:(b && T1)=true→a.tmps.getD 190 undef=_:=e190;refine zA rfl fun K hK=>?_;exact yP rfl e187 e190 (hK _ _ rfl (Only.refl _ _))
 refine ⟨EV (.bool ((b && T1) && T2)),EV.stable _,fun a w hR hf=>?_,?_⟩
 ·obtain ⟨e191,-⟩:=hf;replace e191:EV (.bool ((b && T1) && T2)) (a.tmps.getD 191 undef) w:=e191;refine zA rfl fun K hK=>?_;generalize hv191:a.tmps.getD 191 undef=v191 at e191;go_simp;exact hK _ _ e191 (Only.refl _ _)
 apply jM (((b && T1) && T2))
 ·intro a w hR hf;obtain ⟨e192,e1,-⟩:=hf;replace e192:EV (.bool ((b && T1) && T2)) (a.tmps.getD 192 undef) w:=e192;replace e1:a.tmps.getD 1 undef=_:=e1;refine qF rfl rfl e192 (fun hgd K hK=>?_) (fun hn h=>absurd h hn);clear e192;go_simp;exact hK _ _ (fun _=>rfl) (Only.refl _ _)
 apply jM (((b && T1) && T2))
 ·intro a w hR hf;obtain ⟨e192,e193,-⟩:=hf;replace e192:EV (.bool ((b && T1) && T2)) (a.tmps.getD 192 undef) w:=e192;replace e193:((b && T1) && T2)=true→a.tmps.getD 193 undef=_:=e193;refine qF rfl rfl e192 (fun hgd K hK=>?_) (fun hn h=>absurd h hn);replace e193:=e193 hgd;clear e192;have c6:=(HX.out.zB hR).cell (i:=6) rfl;have c7:=(HX.out.zB hR).cell (i:=7) rfl;have c8:=(HX.out.zB hR).cell (i:=8) rfl;go_simp;exact hK _ _ (fun _=>rfl) (Only.refl _ _)
 apply jM (((b && T1) && T2))
 ·intro a w hR hf;obtain ⟨e192,e194,-⟩:=hf;replace e192:EV (.bool ((b && T1) && T2)) (a.tmps.getD 192 undef) w:=e192;replace e194:((b && T1) && T2)=true→a.tmps.getD 194 undef=_:=e194;refine qF rfl rfl e192 (fun hgd K hK=>?_) (fun hn h=>absurd h hn);replace e194:=e194 hgd;clear e192;go_simp;have hc:=zBg m.x.upload.node m.x.upload.boot m.x.upload.seq w;rw [HT3.out] at hc;(with_reducible refine hc.mono ?_);rintro e w' ⟨rfl,o⟩;exact hK _ _ (fun _=>rfl) o
 refine ⟨EV (.bool (((b && T1) && T2) && T3)),EV.stable _,fun a w hR hf=>?_,?_⟩
 ·obtain ⟨e192,e195,-⟩:=hf;replace e192:EV (.bool ((b && T1) && T2)) (a.tmps.getD 192 undef) w:=e192;replace e195:((b && T1) && T2)=true→a.tmps.getD 195 undef=_:=e195;refine zA rfl fun K hK=>?_;exact yP rfl e192 e195 (hK _ _ rfl (Only.refl _ _))
 refine ⟨EV (.bool (((b && T1) && T2) && T3)),EV.stable _,fun a w hR hf=>?_,?_⟩
 ·obtain ⟨e196,-⟩:=hf;replace e196:EV (.bool (((b && T1) && T2) && T3)) (a.tmps.getD 196 undef) w:=e196;refine zA rfl fun K hK=>?_;generalize hv196:a.tmps.getD 196 undef=v196 at e196;go_simp;exact hK _ _ e196 (Only.refl _ _)
 apply jM ((((b && T1) && T2) && T3))
 ·intro a w hR hf;obtain ⟨e197,e3,-⟩:=hf;replace e197:EV (.bool (((b && T1) && T2) && T3)) (a.tmps.getD 197 undef) w:=e197;replace e3:a.tmps.getD 3 undef=_:=e3;refine qF rfl rfl e197 (fun hgd K hK=>?_) (fun hn h=>absurd h hn);clear e197;go_simp;exact hK _ _ (fun _=>rfl) (Only.refl _ _)
 apply jM ((((b && T1) && T2) && T3))
 ·intro a w hR hf;obtain ⟨e197,e198,-⟩:=hf;replace e197:EV (.bool (((b && T1) && T2) && T3)) (a.tmps.getD 197 undef) w:=e197;replace e198:(((b && T1) && T2) && T3)=true→a.tmps.getD 198 undef=_:=e198;refine qF rfl rfl e197 (fun hgd K hK=>?_) (fun hn h=>absurd h hn);replace e198:=e198 hgd;clear e197;have c4:=(HZ.out.zB hR).cell (i:=4) rfl;go_simp;exact hK _ _ (fun _=>rfl) (Only.refl _ _)
 apply jM ((((b && T1) && T2) && T3))
 ·intro a w hR hf;obtain ⟨e197,e1,-⟩:=hf;replace e197:EV (.bool (((b && T1) && T2) && T3)) (a.tmps.getD 197 undef) w:=e197;replace e1:a.tmps.getD 1 undef=_:=e1;refine qF rfl rfl e197 (fun hgd K hK=>?_) (fun hn h=>absurd h hn);clear e197;go_simp;exact hK _ _ (fun _=>rfl) (Only.refl _ _)
 apply jM ((((b && T1) && T2) && T3))
 ·intro a w hR hf;obtain ⟨e197,e200,-⟩:=hf;replace e197:EV (.bool (((b && T1) && T2) && T3)) (a.tmps.getD 197 undef) w:=e197;replace e200:(((b && T1) && T2) && T3)=true→a.tmps.getD 200 undef=_:=e200;refine qF rfl rfl e197 (fun hgd K hK=>?_) (fun hn h=>absurd h hn);replace e200:=e200 hgd;clear e197;have c4:=(HX.out.zB hR).cell (i:=4) rfl;go_simp;exact hK _ _ (fun _=>rfl) (Only.refl _ _)
 apply jM ((((b && T1) && T2) && T3))
 ·intro a w hR hf;obtain ⟨e197,e199,e201,-⟩:=hf;replace e197:EV (.bool (((b && T1) && T2) && T3)) (a.tmps.getD 197 undef) w:=e197;replace e199:(((b && T1) && T2) && T3)=true→a.tmps.getD 199 undef=_:=e199;replace e201:(((b && T1) && T2) && T3)=true→a.tmps.getD 201 undef=_:=e201;refine qF rfl rfl e197 (fun hgd K hK=>?_) (fun hn h=>absurd h hn);replace e199:=e199 hgd;replace e201:=e201 hgd;clear e197;have q:=jV z.x.bucket m.x.bucket;rw [HT4.out] at q;go_simp;exact hK _ _ (fun _=>rfl) (Only.refl _ _)
 refine ⟨EV (.bool ((((b && T1) && T2) && T3) && T4)),EV.stable _,fun a w hR hf=>?_,?_⟩
 ·obtain ⟨e197,e202,-⟩:=hf;replace e197:EV (.bool (((b && T1) && T2) && T3)) (a.tmps.getD 197 undef) w:=e197;replace e202:(((b && T1) && T2) && T3)=true→a.tmps.getD 202 undef=_:=e202;refine zA rfl fun K hK=>?_;exact yP rfl e197 e202 (hK _ _ rfl (Only.refl _ _))
 refine ⟨EV (.bool ((((b && T1) && T2) && T3) && T4)),EV.stable _,fun a w hR hf=>?_,?_⟩
 ·obtain ⟨e203,-⟩:=hf;replace e203:EV (.bool ((((b && T1) && T2) && T3) && T4)) (a.tmps.getD 203 undef) w:=e203;refine zA rfl fun K hK=>?_;generalize hv203:a.tmps.getD 203 undef=v203 at e203;go_simp;exact hK _ _ e203 (Only.refl _ _)
 apply jM (((((b && T1) && T2) && T3) && T4))
 ·intro a w hR hf;obtain ⟨e204,e3,-⟩:=hf;replace e204:EV (.bool ((((b && T1) && T2) && T3) && T4)) (a.tmps.getD 204 undef) w:=e204;replace e3:a.tmps.getD 3 undef=_:=e3;refine qF rfl rfl e204 (fun hgd K hK=>?_) (fun hn h=>absurd h hn);clear e204;go_simp;exact hK _ _ (fun _=>rfl) (Only.refl _ _)
 apply jM (((((b && T1) && T2) && T3) && T4))
 ·intro a w hR hf;obtain ⟨e204,e205,-⟩:=hf;replace e204:EV (.bool ((((b && T1) && T2) && T3) && T4)) (a.tmps.getD 204 undef) w:=e204;replace e205:((((b && T1) && T2) && T3) && T4)=true→a.tmps.getD 205 undef=_:=e205;refine qF rfl rfl e204 (fun hgd K hK=>?_) (fun hn h=>absurd h hn);replace e205:=e205 hgd;clear e204;have c5:=(HZ.out.zB hR).cell (i:=5) rfl;go_simp;exact hK _ _ (fun _=>rfl) (Only.refl _ _)
 apply jM (((((b && T1) && T2) && T3) && T4))
 ·intro a w hR hf;obtain ⟨e204,e1,-⟩:=hf;replace e204:EV (.bool ((((b && T1) && T2) && T3) && T4)) (a.tmps.getD 204 undef) w:=e204;replace e1:a.tmps.getD 1 undef=_:=e1;refine qF rfl rfl e204 (fun hgd K hK=>?_) (fun hn h=>absurd h hn);clear e204;go_simp;exact hK _ _ (fun _=>rfl) (Only.refl _ _)
 apply jM (((((b && T1) && T2) && T3) && T4))
 ·intro a w hR hf;obtain ⟨e204,e207,-⟩:=hf;replace e204:EV (.bool ((((b && T1) && T2) && T3) && T4)) (a.tmps.getD 204 undef) w:=e204;replace e207:((((b && T1) && T2) && T3) && T4)=true→a.tmps.getD 207 undef=_:=e207;refine qF rfl rfl e204 (fun hgd K hK=>?_) (fun hn h=>absurd h hn);replace e207:=e207 hgd;clear e204;have c5:=(HX.out.zB hR).cell (i:=5) rfl;go_simp;exact hK _ _ (fun _=>rfl) (Only.refl _ _)
 apply jM (((((b && T1) && T2) && T3) && T4))
 ·intro a w hR hf;obtain ⟨e204,e206,e208,-⟩:=hf;replace e204:EV (.bool ((((b && T1) && T2) && T3) && T4)) (a.tmps.getD 204 undef) w:=e204;replace e206:((((b && T1) && T2) && T3) && T4)=true→a.tmps.getD 206 undef=_:=e206;replace e208:((((b && T1) && T2) && T3) && T4)=true→a.tmps.getD 208 undef=_:=e208;refine qF rfl rfl e204 (fun hgd K hK=>?_) (fun hn h=>absurd h hn);replace e206:=e206 hgd;replace e208:=e208 hgd;clear e204;have q:=jV z.x.key m.x.key;rw [HT5.out] at q;go_simp;exact hK _ _ (fun _=>rfl) (Only.refl _ _)
 refine ⟨EV (.bool (((((b && T1) && T2) && T3) && T4) && T5)),EV.stable _,fun a w hR hf=>?_,?_⟩
 ·obtain ⟨e204,e209,-⟩:=hf;replace e204:EV (.bool ((((b && T1) && T2) && T3) && T4)) (a.tmps.getD 204 undef) w:=e204;replace e209:((((b && T1) && T2) && T3) && T4)=true→a.tmps.getD 209 undef=_:=e209;refine zA rfl fun K hK=>?_;exact yP rfl e204 e209 (hK _ _ rfl (Only.refl _ _))
 refine ⟨EV (.bool (((((b && T1) && T2) && T3) && T4) && T5)),EV.stable _,fun a w hR hf=>?_,?_⟩
 ·obtain ⟨e210,-⟩:=hf;replace e210:EV (.bool (((((b && T1) && T2) && T3) && T4) && T5)) (a.tmps.getD 210 undef) w:=e210;refine zA rfl fun K hK=>?_;generalize hv210:a.tmps.getD 210 undef=v210 at e210;go_simp;exact hK _ _ e210 (Only.refl _ _)
 apply jM ((((((b && T1) && T2) && T3) && T4) && T5))
 ·intro a w hR hf;obtain ⟨e211,e3,-⟩:=hf;replace e211:EV (.bool (((((b && T1) && T2) && T3) && T4) && T5)) (a.tmps.getD 211 undef) w:=e211;replace e3:a.tmps.getD 3 undef=_:=e3;refine qF rfl rfl e211 (fun hgd K hK=>?_) (fun hn h=>absurd h hn);clear e211;go_simp;exact hK _ _ (fun _=>rfl) (Only.refl _ _)
 apply jM ((((((b && T1) && T2) && T3) && T4) && T5))
 ·intro a w hR hf;obtain ⟨e211,e212,-⟩:=hf;replace e211:EV (.bool (((((b && T1) && T2) && T3) && T4) && T5)) (a.tmps.getD 211 undef) w:=e211;replace e212:(((((b && T1) && T2) && T3) && T4) && T5)=true→a.tmps.getD 212 undef=_:=e212;refine qF rfl rfl e211 (fun hgd K hK=>?_) (fun hn h=>absurd h hn);replace e212:=e212 hgd;clear e211;have c6:=(HZ.out.zB hR).cell (i:=6) rfl;have c7:=(HZ.out.zB hR).cell (i:=7) rfl;have c8:=(HZ.out.zB hR).cell (i:=8) rfl;go_simp;exact hK _ _ (fun _=>rfl) (Only.refl _ _)
 apply jM ((((((b && T1) && T2) && T3) && T4) && T5))
 ·intro a w hR hf;obtain ⟨e211,e1,-⟩:=hf;replace e211:EV (.bool (((((b && T1) && T2) && T3) && T4) && T5)) (a.tmps.getD 211 undef) w:=e211;replace e1:a.tmps.getD 1 undef=_:=e1;refine qF rfl rfl e211 (fun hgd K hK=>?_) (fun hn h=>absurd h hn);clear e211;go_simp;exact hK _ _ (fun _=>rfl) (Only.refl _ _)
 apply jM ((((((b && T1) && T2) && T3) && T4) && T5))
 ·intro a w hR hf;obtain ⟨e211,e214,-⟩:=hf;replace e211:EV (.bool (((((b && T1) && T2) && T3) && T4) && T5)) (a.tmps.getD 211 undef) w:=e211;replace e214:(((((b && T1) && T2) && T3) && T4) && T5)=true→a.tmps.getD 214 undef=_:=e214;refine qF rfl rfl e211 (fun hgd K hK=>?_) (fun hn h=>absurd h hn);replace e214:=e214 hgd;clear e211;have c6:=(HX.out.zB hR).cell (i:=6) rfl;have c7:=(HX.out.zB hR).cell (i:=7) rfl;have c8:=(HX.out.zB hR).cell (i:=8) rfl;go_simp;exact hK _ _ (fun _=>rfl) (Only.refl _ _)
 apply jM ((((((b && T1) && T2) && T3) && T4) && T5))
 ·intro a w hR hf;obtain ⟨e211,e213,e215,-⟩:=hf;replace e211:EV (.bool (((((b && T1) && T2) && T3) && T4) && T5)) (a.tmps.getD 211 undef) w:=e211;replace e213:(((((b && T1) && T2) && T3) && T4) && T5)=true→a.tmps.getD 213 undef=_:=e213;replace e215:(((((b && T1) && T2) && T3) && T4) && T5)=true→a.tmps.getD 215 undef=_:=e215;refine qF rfl rfl e211 (fun hgd K hK=>?_) (fun hn h=>absurd h hn);replace e213:=e213 hgd;replace e215:=e215 hgd;clear e211;have q:=zJR z.x.upload m.x.upload;unfold idV at q;simp only [HT6.out] at q;go_simp;exact hK _ _ (fun _=>rfl) (Only.refl _ _)
 refine ⟨EV (.bool ((((((b && T1) && T2) && T3) && T4) && T5) && T6)),EV.stable _,fun a w hR hf=>?_,?_⟩
 ·obtain ⟨e211,e216,-⟩:=hf;replace e211:EV (.bool (((((b && T1) && T2) && T3) && T4) && T5)) (a.tmps.getD 211 undef) w:=e211;replace e216:(((((b && T1) && T2) && T3) && T4) && T5)=true→a.tmps.getD 216 undef=_:=e216;refine zA rfl fun K hK=>?_;exact yP rfl e211 e216 (hK _ _ rfl (Only.refl _ _))
 refine ⟨EV (.bool ((((((b && T1) && T2) && T3) && T4) && T5) && T6)),EV.stable _,fun a w hR hf=>?_,?_⟩
 ·obtain ⟨e217,-⟩:=hf;replace e217:EV (.bool ((((((b && T1) && T2) && T3) && T4) && T5) && T6)) (a.tmps.getD 217 undef) w:=e217;refine zA rfl fun K hK=>?_;generalize hv217:a.tmps.getD 217 undef=v217 at e217;go_simp;exact hK _ _ e217 (Only.refl _ _)
 apply jM (((((((b && T1) && T2) && T3) && T4) && T5) && T6))
 ·intro a w hR hf;obtain ⟨e218,e3,-⟩:=hf;replace e218:EV (.bool ((((((b && T1) && T2) && T3) && T4) && T5) && T6)) (a.tmps.getD 218 undef) w:=e218;replace e3:a.tmps.getD 3 undef=_:=e3;refine qF rfl rfl e218 (fun hgd K hK=>?_) (fun hn h=>absurd h hn);clear e218;go_simp;exact hK _ _ (fun _=>rfl) (Only.refl _ _)
 apply jM (((((((b && T1) && T2) && T3) && T4) && T5) && T6))
 ·intro a w hR hf;obtain ⟨e218,e219,-⟩:=hf;replace e218:EV (.bool ((((((b && T1) && T2) && T3) && T4) && T5) && T6)) (a.tmps.getD 218 undef) w:=e218;replace e219:((((((b && T1) && T2) && T3) && T4) && T5) && T6)=true→a.tmps.getD 219 undef=_:=e219;refine qF rfl rfl e218 (fun hgd K hK=>?_) (fun hn h=>absurd h hn);replace e219:=e219 hgd;clear e218;have c9:=(HZ.out.zB hR).cell (i:=9) rfl;have c10:=(HZ.out.zB hR).cell (i:=10) rfl;have c11:=(HZ.out.zB hR).cell (i:=11) rfl;have c12:=(HZ.out.zB hR).cell (i:=12) rfl;have c13:=(HZ.out.zB hR).cell (i:=13) rfl
  go_simp;exact hK _ _ (fun _=>rfl) (Only.refl _ _)
 apply jM (((((((b && T1) && T2) && T3) && T4) && T5) && T6))
 ·intro a w hR hf;obtain ⟨e218,e1,-⟩:=hf;replace e218:EV (.bool ((((((b && T1) && T2) && T3) && T4) && T5) && T6)) (a.tmps.getD 218 undef) w:=e218;replace e1:a.tmps.getD 1 undef=_:=e1;refine qF rfl rfl e218 (fun hgd K hK=>?_) (fun hn h=>absurd h hn);clear e218;go_simp;exact hK _ _ (fun _=>rfl) (Only.refl _ _)
 apply jM (((((((b && T1) && T2) && T3) && T4) && T5) && T6))
 ·intro a w hR hf;obtain ⟨e218,e221,-⟩:=hf;replace e218:EV (.bool ((((((b && T1) && T2) && T3) && T4) && T5) && T6)) (a.tmps.getD 218 undef) w:=e218;replace e221:((((((b && T1) && T2) && T3) && T4) && T5) && T6)=true→a.tmps.getD 221 undef=_:=e221;refine qF rfl rfl e218 (fun hgd K hK=>?_) (fun hn h=>absurd h hn);replace e221:=e221 hgd;clear e218;have c9:=(HX.out.zB hR).cell (i:=9) rfl;have c10:=(HX.out.zB hR).cell (i:=10) rfl;have c11:=(HX.out.zB hR).cell (i:=11) rfl;have c12:=(HX.out.zB hR).cell (i:=12) rfl;have c13:=(HX.out.zB hR).cell (i:=13) rfl
  go_simp;exact hK _ _ (fun _=>rfl) (Only.refl _ _)
 apply jM (((((((b && T1) && T2) && T3) && T4) && T5) && T6))
 ·intro a w hR hf;obtain ⟨e218,e220,e222,-⟩:=hf;replace e218:EV (.bool ((((((b && T1) && T2) && T3) && T4) && T5) && T6)) (a.tmps.getD 218 undef) w:=e218;replace e220:((((((b && T1) && T2) && T3) && T4) && T5) && T6)=true→a.tmps.getD 220 undef=_:=e220;replace e222:((((((b && T1) && T2) && T3) && T4) && T5) && T6)=true→a.tmps.getD 222 undef=_:=e222;refine qF rfl rfl e218 (fun hgd K hK=>?_) (fun hn h=>absurd h hn);replace e220:=e220 hgd;replace e222:=e222 hgd;clear e218;have q:=zJp z.x.piece m.x.piece;unfold pcV at q;simp only [HT7.out] at q
  go_simp;exact hK _ _ (fun _=>rfl) (Only.refl _ _)
 refine ⟨EV (.bool (((((((b && T1) && T2) && T3) && T4) && T5) && T6) && T7)),EV.stable _,fun a w hR hf=>?_,?_⟩
 ·obtain ⟨e218,e223,-⟩:=hf;replace e218:EV (.bool ((((((b && T1) && T2) && T3) && T4) && T5) && T6)) (a.tmps.getD 218 undef) w:=e218;replace e223:((((((b && T1) && T2) && T3) && T4) && T5) && T6)=true→a.tmps.getD 223 undef=_:=e223;refine zA rfl fun K hK=>?_;exact yP rfl e218 e223 (hK _ _ rfl (Only.refl _ _))
 refine ⟨EV (.bool (((((((b && T1) && T2) && T3) && T4) && T5) && T6) && T7)),EV.stable _,fun a w hR hf=>?_,?_⟩
 ·obtain ⟨e224,-⟩:=hf;replace e224:EV (.bool (((((((b && T1) && T2) && T3) && T4) && T5) && T6) && T7)) (a.tmps.getD 224 undef) w:=e224;refine zA rfl fun K hK=>?_;generalize hv224:a.tmps.getD 224 undef=v224 at e224;go_simp;exact hK _ _ e224 (Only.refl _ _)
 apply jM ((((((((b && T1) && T2) && T3) && T4) && T5) && T6) && T7))
 ·intro a w hR hf;obtain ⟨e225,e3,-⟩:=hf;replace e225:EV (.bool (((((((b && T1) && T2) && T3) && T4) && T5) && T6) && T7)) (a.tmps.getD 225 undef) w:=e225;replace e3:a.tmps.getD 3 undef=_:=e3;refine qF rfl rfl e225 (fun hgd K hK=>?_) (fun hn h=>absurd h hn);clear e225;go_simp;exact hK _ _ (fun _=>rfl) (Only.refl _ _)
 apply jM ((((((((b && T1) && T2) && T3) && T4) && T5) && T6) && T7))
 ·intro a w hR hf;obtain ⟨e225,e226,-⟩:=hf;replace e225:EV (.bool (((((((b && T1) && T2) && T3) && T4) && T5) && T6) && T7)) (a.tmps.getD 225 undef) w:=e225;replace e226:(((((((b && T1) && T2) && T3) && T4) && T5) && T6) && T7)=true→a.tmps.getD 226 undef=_:=e226;refine qF rfl rfl e225 (fun hgd K hK=>?_) (fun hn h=>absurd h hn);replace e226:=e226 hgd;clear e225;have c14:=(HZ.out.zB hR).cell (i:=14) rfl;go_simp;exact hK _ _ (fun _=>rfl) (Only.refl _ _)
 apply jM ((((((((b && T1) && T2) && T3) && T4) && T5) && T6) && T7))
 ·intro a w hR hf;obtain ⟨e225,e1,-⟩:=hf;replace e225:EV (.bool (((((((b && T1) && T2) && T3) && T4) && T5) && T6) && T7)) (a.tmps.getD 225 undef) w:=e225;replace e1:a.tmps.getD 1 undef=_:=e1;refine qF rfl rfl e225 (fun hgd K hK=>?_) (fun hn h=>absurd h hn);clear e225;go_simp;exact hK _ _ (fun _=>rfl) (Only.refl _ _)
 apply jM ((((((((b && T1) && T2) && T3) && T4) && T5) && T6) && T7))
 ·intro a w hR hf;obtain ⟨e225,e228,-⟩:=hf;replace e225:EV (.bool (((((((b && T1) && T2) && T3) && T4) && T5) && T6) && T7)) (a.tmps.getD 225 undef) w:=e225;replace e228:(((((((b && T1) && T2) && T3) && T4) && T5) && T6) && T7)=true→a.tmps.getD 228 undef=_:=e228;refine qF rfl rfl e225 (fun hgd K hK=>?_) (fun hn h=>absurd h hn);replace e228:=e228 hgd;clear e225;have c14:=(HX.out.zB hR).cell (i:=14) rfl;go_simp;exact hK _ _ (fun _=>rfl) (Only.refl _ _)
 apply jM ((((((((b && T1) && T2) && T3) && T4) && T5) && T6) && T7))
 ·intro a w hR hf;obtain ⟨e225,e227,e229,-⟩:=hf;replace e225:EV (.bool (((((((b && T1) && T2) && T3) && T4) && T5) && T6) && T7)) (a.tmps.getD 225 undef) w:=e225;replace e227:(((((((b && T1) && T2) && T3) && T4) && T5) && T6) && T7)=true→a.tmps.getD 227 undef=_:=e227;replace e229:(((((((b && T1) && T2) && T3) && T4) && T5) && T6) && T7)=true→a.tmps.getD 229 undef=_:=e229;refine qF rfl rfl e225 (fun hgd K hK=>?_) (fun hn h=>absurd h hn);replace e227:=e227 hgd;replace e229:=e229 hgd;clear e225;have q:=HT8.out;go_simp;exact hK _ _ (fun _=>rfl) (Only.refl _ _)
 refine ⟨EV (.bool ((((((((b && T1) && T2) && T3) && T4) && T5) && T6) && T7) && T8)),EV.stable _,fun a w hR hf=>?_,?_⟩
 ·obtain ⟨e225,e230,-⟩:=hf;replace e225:EV (.bool (((((((b && T1) && T2) && T3) && T4) && T5) && T6) && T7)) (a.tmps.getD 225 undef) w:=e225;replace e230:(((((((b && T1) && T2) && T3) && T4) && T5) && T6) && T7)=true→a.tmps.getD 230 undef=_:=e230;refine zA rfl fun K hK=>?_;exact yP rfl e225 e230 (hK _ _ rfl (Only.refl _ _))
 refine ⟨EV (.bool ((((((((b && T1) && T2) && T3) && T4) && T5) && T6) && T7) && T8)),EV.stable _,fun a w hR hf=>?_,?_⟩
 ·obtain ⟨e231,-⟩:=hf;replace e231:EV (.bool ((((((((b && T1) && T2) && T3) && T4) && T5) && T6) && T7) && T8)) (a.tmps.getD 231 undef) w:=e231;refine zA rfl fun K hK=>?_;generalize hv231:a.tmps.getD 231 undef=v231 at e231;go_simp;exact hK _ _ e231 (Only.refl _ _)
 apply jM (((((((((b && T1) && T2) && T3) && T4) && T5) && T6) && T7) && T8))
 ·intro a w hR hf;obtain ⟨e232,e3,-⟩:=hf;replace e232:EV (.bool ((((((((b && T1) && T2) && T3) && T4) && T5) && T6) && T7) && T8)) (a.tmps.getD 232 undef) w:=e232;replace e3:a.tmps.getD 3 undef=_:=e3;refine qF rfl rfl e232 (fun hgd K hK=>?_) (fun hn h=>absurd h hn);clear e232;go_simp;exact hK _ _ (fun _=>rfl) (Only.refl _ _)
 apply jM (((((((((b && T1) && T2) && T3) && T4) && T5) && T6) && T7) && T8))
 ·intro a w hR hf;obtain ⟨e232,e233,-⟩:=hf;replace e232:EV (.bool ((((((((b && T1) && T2) && T3) && T4) && T5) && T6) && T7) && T8)) (a.tmps.getD 232 undef) w:=e232;replace e233:((((((((b && T1) && T2) && T3) && T4) && T5) && T6) && T7) && T8)=true→a.tmps.getD 233 undef=_:=e233;refine qF rfl rfl e232 (fun hgd K hK=>?_) (fun hn h=>absurd h hn);replace e233:=e233 hgd;clear e232;have c16:=(HZ.out.zB hR).cell (i:=16) rfl;go_simp;exact hK _ _ (fun _=>rfl) (Only.refl _ _)
 apply jM (((((((((b && T1) && T2) && T3) && T4) && T5) && T6) && T7) && T8))
 ·intro a w hR hf;obtain ⟨e232,e1,-⟩:=hf;replace e232:EV (.bool ((((((((b && T1) && T2) && T3) && T4) && T5) && T6) && T7) && T8)) (a.tmps.getD 232 undef) w:=e232;replace e1:a.tmps.getD 1 undef=_:=e1;refine qF rfl rfl e232 (fun hgd K hK=>?_) (fun hn h=>absurd h hn);clear e232;go_simp;exact hK _ _ (fun _=>rfl) (Only.refl _ _)
 apply jM (((((((((b && T1) && T2) && T3) && T4) && T5) && T6) && T7) && T8))
 ·intro a w hR hf;obtain ⟨e232,e235,-⟩:=hf;replace e232:EV (.bool ((((((((b && T1) && T2) && T3) && T4) && T5) && T6) && T7) && T8)) (a.tmps.getD 232 undef) w:=e232;replace e235:((((((((b && T1) && T2) && T3) && T4) && T5) && T6) && T7) && T8)=true→a.tmps.getD 235 undef=_:=e235;refine qF rfl rfl e232 (fun hgd K hK=>?_) (fun hn h=>absurd h hn);replace e235:=e235 hgd;clear e232;have c16:=(HX.out.zB hR).cell (i:=16) rfl;go_simp;exact hK _ _ (fun _=>rfl) (Only.refl _ _)
 apply jM (((((((((b && T1) && T2) && T3) && T4) && T5) && T6) && T7) && T8))
 ·intro a w hR hf;obtain ⟨e232,e234,e236,-⟩:=hf;replace e232:EV (.bool ((((((((b && T1) && T2) && T3) && T4) && T5) && T6) && T7) && T8)) (a.tmps.getD 232 undef) w:=e232;replace e234:((((((((b && T1) && T2) && T3) && T4) && T5) && T6) && T7) && T8)=true→a.tmps.getD 234 undef=_:=e234;replace e236:((((((((b && T1) && T2) && T3) && T4) && T5) && T6) && T7) && T8)=true→a.tmps.getD 236 undef=_:=e236;refine qF rfl rfl e232 (fun hgd K hK=>?_) (fun hn h=>absurd h hn);replace e234:=e234 hgd;replace e236:=e236 hgd;clear e232;have q:=HT9.out;go_simp
  exact hK _ _ (fun _=>rfl) (Only.refl _ _)
 refine ⟨EV (.bool (((((((((b && T1) && T2) && T3) && T4) && T5) && T6) && T7) && T8) && T9)),EV.stable _,fun a w hR hf=>?_,?_⟩
 ·obtain ⟨e232,e237,-⟩:=hf;replace e232:EV (.bool ((((((((b && T1) && T2) && T3) && T4) && T5) && T6) && T7) && T8)) (a.tmps.getD 232 undef) w:=e232;replace e237:((((((((b && T1) && T2) && T3) && T4) && T5) && T6) && T7) && T8)=true→a.tmps.getD 237 undef=_:=e237;refine zA rfl fun K hK=>?_;exact yP rfl e232 e237 (hK _ _ rfl (Only.refl _ _))
 refine ⟨EV (.bool (((((((((b && T1) && T2) && T3) && T4) && T5) && T6) && T7) && T8) && T9)),EV.stable _,fun a w hR hf=>?_,?_⟩
 ·obtain ⟨e238,-⟩:=hf;replace e238:EV (.bool (((((((((b && T1) && T2) && T3) && T4) && T5) && T6) && T7) && T8) && T9)) (a.tmps.getD 238 undef) w:=e238;refine zA rfl fun K hK=>?_;generalize hv238:a.tmps.getD 238 undef=v238 at e238;go_simp;exact hK _ _ e238 (Only.refl _ _)
 apply jM ((((((((((b && T1) && T2) && T3) && T4) && T5) && T6) && T7) && T8) && T9))
 ·intro a w hR hf;obtain ⟨e239,e3,-⟩:=hf;replace e239:EV (.bool (((((((((b && T1) && T2) && T3) && T4) && T5) && T6) && T7) && T8) && T9)) (a.tmps.getD 239 undef) w:=e239;replace e3:a.tmps.getD 3 undef=_:=e3;refine qF rfl rfl e239 (fun hgd K hK=>?_) (fun hn h=>absurd h hn);clear e239;go_simp;exact hK _ _ (fun _=>rfl) (Only.refl _ _)
 apply jM ((((((((((b && T1) && T2) && T3) && T4) && T5) && T6) && T7) && T8) && T9))
 ·intro a w hR hf;obtain ⟨e239,e240,-⟩:=hf;replace e239:EV (.bool (((((((((b && T1) && T2) && T3) && T4) && T5) && T6) && T7) && T8) && T9)) (a.tmps.getD 239 undef) w:=e239;replace e240:(((((((((b && T1) && T2) && T3) && T4) && T5) && T6) && T7) && T8) && T9)=true→a.tmps.getD 240 undef=_:=e240;refine qF rfl rfl e239 (fun hgd K hK=>?_) (fun hn h=>absurd h hn);replace e240:=e240 hgd;clear e239;have c17:=(HZ.out.zB hR).cell (i:=17) rfl;go_simp;exact hK _ _ (fun _=>rfl) (Only.refl _ _)
 apply jM ((((((((((b && T1) && T2) && T3) && T4) && T5) && T6) && T7) && T8) && T9))
 ·intro a w hR hf;obtain ⟨e239,e1,-⟩:=hf;replace e239:EV (.bool (((((((((b && T1) && T2) && T3) && T4) && T5) && T6) && T7) && T8) && T9)) (a.tmps.getD 239 undef) w:=e239;replace e1:a.tmps.getD 1 undef=_:=e1;refine qF rfl rfl e239 (fun hgd K hK=>?_) (fun hn h=>absurd h hn);clear e239;go_simp;exact hK _ _ (fun _=>rfl) (Only.refl _ _)
 apply jM ((((((((((b && T1) && T2) && T3) && T4) && T5) && T6) && T7) && T8) && T9))
 ·intro a w hR hf;obtain ⟨e239,e242,-⟩:=hf;replace e239:EV (.bool (((((((((b && T1) && T2) && T3) && T4) && T5) && T6) && T7) && T8) && T9)) (a.tmps.getD 239 undef) w:=e239;replace e242:(((((((((b && T1) && T2) && T3) && T4) && T5) && T6) && T7) && T8) && T9)=true→a.tmps.getD 242 undef=_:=e242;refine qF rfl rfl e239 (fun hgd K hK=>?_) (fun hn h=>absurd h hn);replace e242:=e242 hgd;clear e239;have c17:=(HX.out.zB hR).cell (i:=17) rfl;go_simp;exact hK _ _ (fun _=>rfl) (Only.refl _ _)
 apply jM ((((((((((b && T1) && T2) && T3) && T4) && T5) && T6) && T7) && T8) && T9))
 ·intro a w hR hf;obtain ⟨e239,e241,e243,-⟩:=hf;replace e239:EV (.bool (((((((((b && T1) && T2) && T3) && T4) && T5) && T6) && T7) && T8) && T9)) (a.tmps.getD 239 undef) w:=e239;replace e241:(((((((((b && T1) && T2) && T3) && T4) && T5) && T6) && T7) && T8) && T9)=true→a.tmps.getD 241 undef=_:=e241;replace e243:(((((((((b && T1) && T2) && T3) && T4) && T5) && T6) && T7) && T8) && T9)=true→a.tmps.getD 243 undef=_:=e243;refine qF rfl rfl e239 (fun hgd K hK=>?_) (fun hn h=>absurd h hn);replace e241:=e241 hgd;replace e243:=e243 hgd;clear e239;have q:=HT10.out
  go_simp;exact hK _ _ (fun _=>rfl) (Only.refl _ _)
 refine ⟨EV (.bool ((((((((((b && T1) && T2) && T3) && T4) && T5) && T6) && T7) && T8) && T9) && T10)),EV.stable _,fun a w hR hf=>?_,?_⟩
 ·obtain ⟨e239,e244,-⟩:=hf;replace e239:EV (.bool (((((((((b && T1) && T2) && T3) && T4) && T5) && T6) && T7) && T8) && T9)) (a.tmps.getD 239 undef) w:=e239;replace e244:(((((((((b && T1) && T2) && T3) && T4) && T5) && T6) && T7) && T8) && T9)=true→a.tmps.getD 244 undef=_:=e244;refine zA rfl fun K hK=>?_;exact yP rfl e239 e244 (hK _ _ rfl (Only.refl _ _))
 refine ⟨EV (.bool ((((((((((b && T1) && T2) && T3) && T4) && T5) && T6) && T7) && T8) && T9) && T10)),EV.stable _,fun a w hR hf=>?_,?_⟩
 ·obtain ⟨e245,-⟩:=hf;replace e245:EV (.bool ((((((((((b && T1) && T2) && T3) && T4) && T5) && T6) && T7) && T8) && T9) && T10)) (a.tmps.getD 245 undef) w:=e245;refine zA rfl fun K hK=>?_;generalize hv245:a.tmps.getD 245 undef=v245 at e245;go_simp;exact hK _ _ e245 (Only.refl _ _)
 apply jM (((((((((((b && T1) && T2) && T3) && T4) && T5) && T6) && T7) && T8) && T9) && T10))
 ·intro a w hR hf;obtain ⟨e246,e3,-⟩:=hf;replace e246:EV (.bool ((((((((((b && T1) && T2) && T3) && T4) && T5) && T6) && T7) && T8) && T9) && T10)) (a.tmps.getD 246 undef) w:=e246;replace e3:a.tmps.getD 3 undef=_:=e3;refine qF rfl rfl e246 (fun hgd K hK=>?_) (fun hn h=>absurd h hn);clear e246;go_simp;exact hK _ _ (fun _=>rfl) (Only.refl _ _)
 apply jM (((((((((((b && T1) && T2) && T3) && T4) && T5) && T6) && T7) && T8) && T9) && T10))
 ·intro a w hR hf;obtain ⟨e246,e247,-⟩:=hf;replace e246:EV (.bool ((((((((((b && T1) && T2) && T3) && T4) && T5) && T6) && T7) && T8) && T9) && T10)) (a.tmps.getD 246 undef) w:=e246;replace e247:((((((((((b && T1) && T2) && T3) && T4) && T5) && T6) && T7) && T8) && T9) && T10)=true→a.tmps.getD 247 undef=_:=e247;refine qF rfl rfl e246 (fun hgd K hK=>?_) (fun hn h=>absurd h hn);replace e247:=e247 hgd;clear e246;have c15:=(HZ.out.zB hR).cell (i:=15) rfl;go_simp;exact hK _ _ (fun _=>rfl) (Only.refl _ _)
 apply jM (((((((((((b && T1) && T2) && T3) && T4) && T5) && T6) && T7) && T8) && T9) && T10))
 ·intro a w hR hf;obtain ⟨e246,e248,-⟩:=hf;replace e246:EV (.bool ((((((((((b && T1) && T2) && T3) && T4) && T5) && T6) && T7) && T8) && T9) && T10)) (a.tmps.getD 246 undef) w:=e246;replace e248:((((((((((b && T1) && T2) && T3) && T4) && T5) && T6) && T7) && T8) && T9) && T10)=true→a.tmps.getD 248 undef=_:=e248;refine qF rfl rfl e246 (fun hgd K hK=>?_) (fun hn h=>absurd h hn);replace e248:=e248 hgd;clear e246;go_simp;exact hK _ _ (fun _=>rfl) (Only.refl _ _)
 apply jM (((((((((((b && T1) && T2) && T3) && T4) && T5) && T6) && T7) && T8) && T9) && T10))
 ·intro a w hR hf;obtain ⟨e246,e1,-⟩:=hf;replace e246:EV (.bool ((((((((((b && T1) && T2) && T3) && T4) && T5) && T6) && T7) && T8) && T9) && T10)) (a.tmps.getD 246 undef) w:=e246;replace e1:a.tmps.getD 1 undef=_:=e1;refine qF rfl rfl e246 (fun hgd K hK=>?_) (fun hn h=>absurd h hn);clear e246;go_simp;exact hK _ _ (fun _=>rfl) (Only.refl _ _)
 apply jM (((((((((((b && T1) && T2) && T3) && T4) && T5) && T6) && T7) && T8) && T9) && T10))
 ·intro a w hR hf;obtain ⟨e246,e250,-⟩:=hf;replace e246:EV (.bool ((((((((((b && T1) && T2) && T3) && T4) && T5) && T6) && T7) && T8) && T9) && T10)) (a.tmps.getD 246 undef) w:=e246;replace e250:((((((((((b && T1) && T2) && T3) && T4) && T5) && T6) && T7) && T8) && T9) && T10)=true→a.tmps.getD 250 undef=_:=e250;refine qF rfl rfl e246 (fun hgd K hK=>?_) (fun hn h=>absurd h hn);replace e250:=e250 hgd;clear e246;have c15:=(HX.out.zB hR).cell (i:=15) rfl;go_simp;exact hK _ _ (fun _=>rfl) (Only.refl _ _)
 apply jM (((((((((((b && T1) && T2) && T3) && T4) && T5) && T6) && T7) && T8) && T9) && T10))
 ·intro a w hR hf;obtain ⟨e246,e251,-⟩:=hf;replace e246:EV (.bool ((((((((((b && T1) && T2) && T3) && T4) && T5) && T6) && T7) && T8) && T9) && T10)) (a.tmps.getD 246 undef) w:=e246;replace e251:((((((((((b && T1) && T2) && T3) && T4) && T5) && T6) && T7) && T8) && T9) && T10)=true→a.tmps.getD 251 undef=_:=e251;refine qF rfl rfl e246 (fun hgd K hK=>?_) (fun hn h=>absurd h hn);replace e251:=e251 hgd;clear e246;go_simp;exact hK _ _ (fun _=>rfl) (Only.refl _ _)
 apply jM (((((((((((b && T1) && T2) && T3) && T4) && T5) && T6) && T7) && T8) && T9) && T10))
 ·intro a w hR hf;obtain ⟨e246,e249,e252,-⟩:=hf;replace e246:EV (.bool ((((((((((b && T1) && T2) && T3) && T4) && T5) && T6) && T7) && T8) && T9) && T10)) (a.tmps.getD 246 undef) w:=e246;replace e249:((((((((((b && T1) && T2) && T3) && T4) && T5) && T6) && T7) && T8) && T9) && T10)=true→a.tmps.getD 249 undef=_:=e249;replace e252:((((((((((b && T1) && T2) && T3) && T4) && T5) && T6) && T7) && T8) && T9) && T10)=true→a.tmps.getD 252 undef=_:=e252;refine qF rfl rfl e246 (fun hgd K hK=>?_) (fun hn h=>absurd h hn);replace e249:=e249 hgd;replace e252:=e252 hgd
  clear e246;have q:=HT11.out;go_simp;exact hK _ _ (fun _=>rfl) (Only.refl _ _)
 refine ⟨EV (.bool (((((((((((b && T1) && T2) && T3) && T4) && T5) && T6) && T7) && T8) && T9) && T10) && T11)),EV.stable _,fun a w hR hf=>?_,?_⟩
 ·obtain ⟨e246,e253,-⟩:=hf;replace e246:EV (.bool ((((((((((b && T1) && T2) && T3) && T4) && T5) && T6) && T7) && T8) && T9) && T10)) (a.tmps.getD 246 undef) w:=e246;replace e253:((((((((((b && T1) && T2) && T3) && T4) && T5) && T6) && T7) && T8) && T9) && T10)=true→a.tmps.getD 253 undef=_:=e253;refine zA rfl fun K hK=>?_;exact yP rfl e246 e253 (hK _ _ rfl (Only.refl _ _))
 refine ⟨EV (.bool (((((((((((b && T1) && T2) && T3) && T4) && T5) && T6) && T7) && T8) && T9) && T10) && T11)),EV.stable _,fun a w hR hf=>?_,?_⟩
 ·obtain ⟨e254,-⟩:=hf;replace e254:EV (.bool (((((((((((b && T1) && T2) && T3) && T4) && T5) && T6) && T7) && T8) && T9) && T10) && T11)) (a.tmps.getD 254 undef) w:=e254;refine zA rfl fun K hK=>?_;generalize hv254:a.tmps.getD 254 undef=v254 at e254;go_simp;exact hK _ _ e254 (Only.refl _ _)
 intro f w hR hf;dsimp only [qE];obtain ⟨e2,-⟩:=hf;replace e2:EV (.bool (((((((((((b && T1) && T2) && T3) && T4) && T5) && T6) && T7) && T8) && T9) && T10) && T11)) (f 2) w:=e2;refine hK0 _ _ ?_;refine wp_ret (HE.out _ ((((((((((((b && T1) && T2) && T3) && T4) && T5) && T6) && T7) && T8) && T9) && T10) && T11)) _ e2 rfl (fun hv=>?_) hR);simp only [Bool.and_eq_true] at hv;obtain ⟨⟨⟨⟨⟨⟨⟨⟨⟨⟨⟨v0,v1⟩,v2⟩,v3⟩,v4⟩,v5⟩,v6⟩,v7⟩,v8⟩,v9⟩,v10⟩,v11⟩:=hv;have d1:=HT1.out.trans v1;replace d1:=of_decide_eq_true d1;have d2:=HT2.out.trans v2;replace d2:=of_decide_eq_true d2
 have d3:=HT3.out.trans v3;replace d3:=of_decide_eq_true d3;have d4:=HT4.out.trans v4;replace d4:=of_decide_eq_true d4;have d5:=HT5.out.trans v5;replace d5:=of_decide_eq_true d5;have d6:=HT6.out.trans v6;replace d6:=of_decide_eq_true d6;have d7:=HT7.out.trans v7;replace d7:=of_decide_eq_true d7;have d8:=HT8.out.trans v8;replace d8:=beq_iff_eq.1 d8;have d9:=HT9.out.trans v9;replace d9:=beq_iff_eq.1 d9;have d10:=HT10.out.trans v10;replace d10:=beq_iff_eq.1 d10;have d11:=HT11.out.trans v11;replace d11:=beq_iff_eq.1 d11;exact ⟨v0,d1,d2,d3,d4,d5,d6,d7,d8,d9,d10,by omega⟩
end
section
open Go.RowKit
def zJo:Code→Code
 | .seq a _=>a
 | c=>c
def zJj:Nat→Code→Code
 | 0,c=>c
 | n+1,c=>zJj n (zDd c)
noncomputable def yE (k:Nat):Code:=zJo (zJj k ((Tryz.f21.body).getD .skip))
def zAu (k:Int) (i:Cid):zS:=⟨⟨k,i,[],[],⟨0,0,0⟩,⟨⟨0,0,0⟩,0,[]⟩,0,[],0,0⟩,none,0⟩
set_option maxHeartbeats 16000000 in
theorem zFw {Q:Exit→Act→World→Prop} {c1 c2 c3 c4 c5 c6 c7 c8 c9 c10 c11 c12 c13 c14 c15 c16 c17 c18 c19 c20 c21 c22 c23 c24 c25 c26 c27 c28 c29 c30 c31 c32 c33 c34 c35 c36 c37 c38 c39 c40 c41 c42 c43 c44 c45 c46 c47 c48 c49 c50 c51 c52 c53 c54 c55 c56 c57 c58 c59 c60 c61 c62 c63 c64 c65 c66 c67 c68 c69 c70 c71 c72 c73 c74 c75 c76 c77 c78 c79 c80 c81 c82 c83 c84 c85 c86 c87 c88 c89 c90 c91 c92 c93 c94 c95 c96 c97 c98 c99 c100 c101 c102 c103 c104 c105 c106 c107 c108 c109 c110 c111 c112 c113 c114 c115 c116 c117 c118 c119 c120 c121 c122 c123 c124 c125 c126 c127 c128 c129 c130 c131 c132 c133 c134 c135 c136 c137 c138 c139 c140 c141 c142 c143 c144 c145 c146 c147 c148 c149 c150 c151 c152 c153 c154 c155 c156 c157 c158 c159 c160 c161 c162 c163 c164 c165 c166 c167 c168 c169 c170 c171 c172 c173 c174 c175 c176 c177 c178 c179 c180 c181 c182 c183 c184 c185 c186 c187 c188 c189 c190 c191 c192 c193 c194 c195 c196 c197 c198 c199 c200 c201 c202 c203 c204 c205 c206 c207 c208 c209 c210 c211 c212 c213 c214 c215 c216 c217 c218 c219 c220 c221 c222 c223 c224 c225 c226 c227 c228 c229 c230 c231 c232 c233 c234 c235 c236 c237 c238 c239 c240 c241 c242 c243 c244 c245 c246 c247 c248 c249 c250 c251 c252 c253 c254:Value} (Y:Code) (m:zS) (w0:World)
  (hret:∀ (a:Act) (w':World),a.tmps.getD 2 undef=.bool false→a.defers=[]→Only [] w0 w'→Q .ret a w')
  (hexit:∀ (u9 u10 u11 u12 u13 u14 u15 u16 u17:Value) (X Z:Nat) (w':World),X≠Z→Row w' X 36 (zK m)→Row w' Z 36 (zK (zAu m.x.kind m.x.id))→Only [] w0 w'→w0.heap.size≤Z→zAq m.x.id.node m.x.id.boot m.x.id.seq→Y.wp Tryz.prog Q ⟨(lmV m :: .pointer (some ⟨X,0,none⟩) :: .bool false :: .pointer (some ⟨Z,0,none⟩) :: c4 :: c5 :: c6 :: c7 :: c8 :: u9 :: u10 :: u11 :: u12 :: u13 :: u14 :: u15 :: u16 :: u17 :: c18 :: c19 :: c20 :: c21 :: c22 :: c23 :: c24 :: c25 :: c26 :: c27 :: c28 :: c29 :: c30 :: c31 :: c32 :: c33 :: c34 :: c35 :: c36 :: c37 :: c38 :: c39 :: c40 :: c41 :: c42 :: c43 :: c44 :: c45 :: c46 :: c47 :: c48 :: c49 :: c50 :: c51 :: c52 :: c53 :: c54 :: c55 :: c56 :: c57 :: c58 :: c59 :: c60 :: c61 :: c62 :: c63 :: c64 :: c65 :: c66 :: c67 :: c68 :: c69 :: c70 :: c71 :: c72 :: c73 :: c74 :: c75 :: c76 :: c77 :: c78 :: c79 :: c80 :: c81 :: c82 :: c83 :: c84 :: c85 :: c86 :: c87 :: c88 :: c89 :: c90 :: c91 :: c92 :: c93 :: c94 :: c95 :: c96 :: c97 :: c98 :: c99 :: c100 :: c101 :: c102 :: c103 :: c104 :: c105 :: c106 :: c107 :: c108 :: c109 :: c110 :: c111 :: c112 :: c113 :: c114 :: c115 :: c116 :: c117 :: c118 :: c119 :: c120 :: c121 :: c122 :: c123 :: c124 :: c125 :: c126 :: c127 :: c128 :: c129 :: c130 :: c131 :: c132 :: c133 :: c134 :: c135 :: c136 :: c137 :: c138 :: c139 :: c140 :: c141 :: c142 :: c143 :: c144 :: c145 :: c146 :: c147 :: c148 :: c149 :: c150 :: c151 :: c152 :: c153 :: c154 :: c155 :: c156 :: c157 :: c158 :: c159 :: c160 :: c161 :: c162 :: c163 :: c164 :: c165 :: c166 :: c167 :: c168 :: c169 :: c170 :: c171 :: c172 :: c173 :: c174 :: c175 :: c176 :: c177 :: c178 :: c179 :: c180 :: c181 :: c182 :: c183 :: c184 :: c185 :: c186 :: c187 :: c188 :: c189 :: c190 :: c191 :: c192 :: c193 :: c194 :: c195 :: c196 :: c197 :: c198 :: c199 :: c200 :: c201 :: c202 :: c203 :: c204 :: c205 :: c206 :: c207 :: c208 :: c209 :: c210 :: c211 :: c212 :: c213 :: c214 :: c215 :: c216 :: c217 :: c218 :: c219 :: c220 :: c221 :: c222 :: c223 :: c224 :: c225 :: c226 :: c227 :: c228 :: c229 :: c230 :: c231 :: c232 :: c233 :: c234 :: c235 :: c236 :: c237 :: c238 :: c239 :: c240 :: c241 :: c242 :: c243 :: c244 :: c245 :: c246 :: c247 :: c248 :: c249 :: c250 :: c251 :: c252 :: c253 :: c254 :: []).toArray,[]⟩ w') :
  Code.wp Tryz.prog (Code.seq (yE 0) (Code.seq (yE 1) (Code.seq (yE 2) Y))) Q ⟨(lmV m :: c1 :: c2 :: c3 :: c4 :: c5 :: c6 :: c7 :: c8 :: c9 :: c10 :: c11 :: c12 :: c13 :: c14 :: c15 :: c16 :: c17 :: c18 :: c19 :: c20 :: c21 :: c22 :: c23 :: c24 :: c25 :: c26 :: c27 :: c28 :: c29 :: c30 :: c31 :: c32 :: c33 :: c34 :: c35 :: c36 :: c37 :: c38 :: c39 :: c40 :: c41 :: c42 :: c43 :: c44 :: c45 :: c46 :: c47 :: c48 :: c49 :: c50 :: c51 :: c52 :: c53 :: c54 :: c55 :: c56 :: c57 :: c58 :: c59 :: c60 :: c61 :: c62 :: c63 :: c64 :: c65 :: c66 :: c67 :: c68 :: c69 :: c70 :: c71 :: c72 :: c73 :: c74 :: c75 :: c76 :: c77 :: c78 :: c79 :: c80 :: c81 :: c82 :: c83 :: c84 :: c85 :: c86 :: c87 :: c88 :: c89 :: c90 :: c91 :: c92 :: c93 :: c94 :: c95 :: c96 :: c97 :: c98 :: c99 :: c100 :: c101 :: c102 :: c103 :: c104 :: c105 :: c106 :: c107 :: c108 :: c109 :: c110 :: c111 :: c112 :: c113 :: c114 :: c115 :: c116 :: c117 :: c118 :: c119 :: c120 :: c121 :: c122 :: c123 :: c124 :: c125 :: c126 :: c127 :: c128 :: c129 :: c130 :: c131 :: c132 :: c133 :: c134 :: c135 :: c136 :: c137 :: c138 :: c139 :: c140 :: c141 :: c142 :: c143 :: c144 :: c145 :: c146 :: c147 :: c148 :: c149 :: c150 :: c151 :: c152 :: c153 :: c154 :: c155 :: c156 :: c157 :: c158 :: c159 :: c160 :: c161 :: c162 :: c163 :: c164 :: c165 :: c166 :: c167 :: c168 :: c169 :: c170 :: c171 :: c172 :: c173 :: c174 :: c175 :: c176 :: c177 :: c178 :: c179 :: c180 :: c181 :: c182 :: c183 :: c184 :: c185 :: c186 :: c187 :: c188 :: c189 :: c190 :: c191 :: c192 :: c193 :: c194 :: c195 :: c196 :: c197 :: c198 :: c199 :: c200 :: c201 :: c202 :: c203 :: c204 :: c205 :: c206 :: c207 :: c208 :: c209 :: c210 :: c211 :: c212 :: c213 :: c214 :: c215 :: c216 :: c217 :: c218 :: c219 :: c220 :: c221 :: c222 :: c223 :: c224 :: c225 :: c226 :: c227 :: c228 :: c229 :: c230 :: c231 :: c232 :: c233 :: c234 :: c235 :: c236 :: c237 :: c238 :: c239 :: c240 :: c241 :: c242 :: c243 :: c244 :: c245 :: c246 :: c247 :: c248 :: c249 :: c250 :: c251 :: c252 :: c253 :: c254 :: []).toArray,[]⟩ w0:=by
 obtain ⟨w1,hw1⟩:∃ w1,w1=w0.alloc (.cells #[.int .i64 m.x.kind,.int .i64 m.x.id.node,.int .i64 m.x.id.boot,.int .i64 m.x.id.seq,.string (str m.x.bucket),.string (str m.x.key),.int .i64 m.x.upload.node,.int .i64 m.x.upload.boot,.int .i64 m.x.upload.seq,.int .i64 m.x.piece.blob.node,.int .i64 m.x.piece.blob.boot,.int .i64 m.x.piece.blob.seq,.int .i64 m.x.piece.size,.string (str m.x.piece.etag),.int .i64 m.x.part,.slice m.p m.x.parts.length m.c,.int .i64 m.x.time,.int .i64 m.x.days] 36):=⟨_,rfl⟩;have o1:Only [] w0 w1:=(by rw [hw1];exact Only.alloc _ _);have r1:Row w1 w0.heap.size 36 (zK m):=by rw [hw1];exact Row.zV _ _ _ _ rfl
 have c1':=r1.cell (i:=1) rfl;have c2':=r1.cell (i:=2) rfl;have c3':=r1.cell (i:=3) rfl;have hid:=zBg m.x.id.node m.x.id.boot m.x.id.seq w1;rw [hw1] at c1' c2' c3' hid;have HO1:=Lib.hid o1;have HR1:=Lib.hid r1;have Hw:=Lib.hid hw1;have HRet:=Lib.hid hret;have HE:=Lib.hid hexit;unfold lmV;clear o1 r1 hw1 hret hexit;refine wp_seq_k fun K0 h0=>?_
 conv=>arg 2;whnf
 go_wp2_with fail
 conv=>arg 2;whnf
 go_wp2_with fail;(with_reducible refine hid.mono ?_);clear hid c1' c2' c3';rw [← Hw.out];rintro e w2 ⟨rfl,o2⟩;obtain ⟨gv,hgv⟩:∃ gv,decide (zAq m.x.id.node m.x.id.boot m.x.id.seq)=gv:=⟨_,rfl⟩;rw [hgv];have Hgv:=Lib.hid hgv;clear hgv;have HO2:=Lib.hid (HO1.out.zC o2);have HR2:=Lib.hid (HR1.out.zB o2);clear o2
 cases gv with
 | false =>
  go_wp2_with fail;exact HRet.out _ _ rfl rfl HO2.out
 | true =>
  go_wp2_with fail
  conv=>arg 2;whnf
  have c0':=HR2.out.cell (i:=0) rfl;have c1':=HR2.out.cell (i:=1) rfl;have c2':=HR2.out.cell (i:=2) rfl;have c3':=HR2.out.cell (i:=3) rfl;go_wp2_with fail;obtain ⟨w3,hw3⟩:∃ w3,w3=w2.alloc (.cells (zK (zAu m.x.kind m.x.id)).toArray 36):=⟨_,rfl⟩;have o3:Only [] w2 w3:=(by rw [hw3];exact Only.alloc _ _);have r3:Row w3 w2.heap.size 36 (zK (zAu m.x.kind m.x.id)):=(by rw [hw3];exact Row.zV _ _ _ _ rfl);have hlt:=HR2.out.lt;have hne:w0.heap.size≠w2.heap.size:=(by omega);have hz:=HO2.out.size;exact hw3 ▸ HE.out _ _ _ _ _ _ _ _ _ _ _ _ hne (HR2.out.zB o3) r3 (HO2.out.zC o3) hz (of_decide_eq_true Hgv.out)
end
section
open Go.RowKit
structure zJA (m z:zS) (b:Bool):Prop where
 zz:z=⟨⟨m.x.kind,m.x.id,z.x.bucket,z.x.key,⟨0,0,0⟩,⟨⟨0,0,0⟩,0,[]⟩,0,[],0,0⟩,none,0⟩
 bk:(b=true→z.x.bucket=m.x.bucket→m.x.bucket.length≤63)
 ky:(b=true→z.x.key=m.x.key→m.x.key.length≤200)
structure zBn (m:zS):Prop where
 bk:m.x.bucket.length≤140737488355328
 ky:m.x.key.length≤140737488355328
 et:m.x.piece.etag.length≤140737488355328
 ps:m.x.parts.length≤140737488355328
set_option maxHeartbeats 16000000 in
theorem zFd {Q:Exit→Act→World→Prop} {c0 c2 c4 c5 c6 c7 c8 c9 c10 c11 c12 c13 c14 c15 c16 c17 c18 c19 c20 c21 c22 c23 c24 c25 c26 c27 c28 c29 c30 c31 c32 c33 c34 c35 c36 c37 c38 c39 c40 c41 c42 c43 c44 c45 c46 c47 c48 c49 c50 c51 c52 c53 c54 c55 c56 c57 c58 c59 c60 c61 c62 c63 c64 c65 c66 c67 c68 c69 c70 c71 c72 c73 c74 c75 c76 c77 c78 c79 c80 c81 c82 c83 c84 c85 c86 c87 c88 c89 c90 c91 c92 c93 c94 c95 c96 c97 c98 c99 c100 c101 c102 c103 c104 c105 c106 c107 c108 c109 c110 c111 c112 c113 c114 c115 c116 c117 c118 c119 c120 c121 c122 c123 c124 c125 c126 c127 c128 c129 c130 c131 c132 c133 c134 c135 c136 c137 c138 c139 c140 c141 c142 c143 c144 c145 c146 c147 c148 c149 c150 c151 c152 c153 c154 c155 c156 c157 c158 c159 c160 c161 c162 c163 c164 c165 c166 c167 c168 c169 c170 c171 c172 c173 c174 c175 c176 c177 c178 c179 c180 c181 c182 c183 c184 c185 c186 c187 c188 c189 c190 c191 c192 c193 c194 c195 c196 c197 c198 c199 c200 c201 c202 c203 c204 c205 c206 c207 c208 c209 c210 c211 c212 c213 c214 c215 c216 c217 c218 c219 c220 c221 c222 c223 c224 c225 c226 c227 c228 c229 c230 c231 c232 c233 c234 c235 c236 c237 c238 c239 c240 c241 c242 c243 c244 c245 c246 c247 c248 c249 c250 c251 c252 c253 c254:Value} (Y:Code) (m:zS) (X Z:Nat) (w0:World) (hne:X≠Z) (rX:Row w0 X 36 (zK m)) (rZ:Row w0 Z 36 (zK (zAu m.x.kind m.x.id))) (hs:zBn m)
  (hexit:∀ (u5 u6 u18 u19 u20 u21 u22 u23 u24 u25 u26 u27 u28 u29 u30 u31 u32 u33 u34 u35 u36 u37 u38 u39 u40 u41 u42 u43 u44 u45 u46 u47 u48 u49 u50:Value) (b:Bool) (z:zS) (w':World),Row w' X 36 (zK m)→Row w' Z 36 (zK z)→Only [Z] w0 w'→zJA m z b→Y.wp Tryz.prog Q ⟨(c0 :: .pointer (some ⟨X,0,none⟩) :: c2 :: .pointer (some ⟨Z,0,none⟩) :: .bool b :: u5 :: u6 :: c7 :: c8 :: c9 :: c10 :: c11 :: c12 :: c13 :: c14 :: c15 :: c16 :: c17 :: u18 :: u19 :: u20 :: u21 :: u22 :: u23 :: u24 :: u25 :: u26 :: u27 :: u28 :: u29 :: u30 :: u31 :: u32 :: u33 :: u34 :: u35 :: u36 :: u37 :: u38 :: u39 :: u40 :: u41 :: u42 :: u43 :: u44 :: u45 :: u46 :: u47 :: u48 :: u49 :: u50 :: c51 :: c52 :: c53 :: c54 :: c55 :: c56 :: c57 :: c58 :: c59 :: c60 :: c61 :: c62 :: c63 :: c64 :: c65 :: c66 :: c67 :: c68 :: c69 :: c70 :: c71 :: c72 :: c73 :: c74 :: c75 :: c76 :: c77 :: c78 :: c79 :: c80 :: c81 :: c82 :: c83 :: c84 :: c85 :: c86 :: c87 :: c88 :: c89 :: c90 :: c91 :: c92 :: c93 :: c94 :: c95 :: c96 :: c97 :: c98 :: c99 :: c100 :: c101 :: c102 :: c103 :: c104 :: c105 :: c106 :: c107 :: c108 :: c109 :: c110 :: c111 :: c112 :: c113 :: c114 :: c115 :: c116 :: c117 :: c118 :: c119 :: c120 :: c121 :: c122 :: c123 :: c124 :: c125 :: c126 :: c127 :: c128 :: c129 :: c130 :: c131 :: c132 :: c133 :: c134 :: c135 :: c136 :: c137 :: c138 :: c139 :: c140 :: c141 :: c142 :: c143 :: c144 :: c145 :: c146 :: c147 :: c148 :: c149 :: c150 :: c151 :: c152 :: c153 :: c154 :: c155 :: c156 :: c157 :: c158 :: c159 :: c160 :: c161 :: c162 :: c163 :: c164 :: c165 :: c166 :: c167 :: c168 :: c169 :: c170 :: c171 :: c172 :: c173 :: c174 :: c175 :: c176 :: c177 :: c178 :: c179 :: c180 :: c181 :: c182 :: c183 :: c184 :: c185 :: c186 :: c187 :: c188 :: c189 :: c190 :: c191 :: c192 :: c193 :: c194 :: c195 :: c196 :: c197 :: c198 :: c199 :: c200 :: c201 :: c202 :: c203 :: c204 :: c205 :: c206 :: c207 :: c208 :: c209 :: c210 :: c211 :: c212 :: c213 :: c214 :: c215 :: c216 :: c217 :: c218 :: c219 :: c220 :: c221 :: c222 :: c223 :: c224 :: c225 :: c226 :: c227 :: c228 :: c229 :: c230 :: c231 :: c232 :: c233 :: c234 :: c235 :: c236 :: c237 :: c238 :: c239 :: c240 :: c241 :: c242 :: c243 :: c244 :: c245 :: c246 :: c247 :: c248 :: c249 :: c250 :: c251 :: c252 :: c253 :: c254 :: []).toArray,[]⟩ w') :
  Code.wp Tryz.prog (Code.seq (yE 3) (Code.seq (yE 4) (Code.seq (yE 5) (Code.seq (yE 6) (Code.seq (yE 7) Y))))) Q ⟨(c0 :: .pointer (some ⟨X,0,none⟩) :: c2 :: .pointer (some ⟨Z,0,none⟩) :: c4 :: c5 :: c6 :: c7 :: c8 :: c9 :: c10 :: c11 :: c12 :: c13 :: c14 :: c15 :: c16 :: c17 :: c18 :: c19 :: c20 :: c21 :: c22 :: c23 :: c24 :: c25 :: c26 :: c27 :: c28 :: c29 :: c30 :: c31 :: c32 :: c33 :: c34 :: c35 :: c36 :: c37 :: c38 :: c39 :: c40 :: c41 :: c42 :: c43 :: c44 :: c45 :: c46 :: c47 :: c48 :: c49 :: c50 :: c51 :: c52 :: c53 :: c54 :: c55 :: c56 :: c57 :: c58 :: c59 :: c60 :: c61 :: c62 :: c63 :: c64 :: c65 :: c66 :: c67 :: c68 :: c69 :: c70 :: c71 :: c72 :: c73 :: c74 :: c75 :: c76 :: c77 :: c78 :: c79 :: c80 :: c81 :: c82 :: c83 :: c84 :: c85 :: c86 :: c87 :: c88 :: c89 :: c90 :: c91 :: c92 :: c93 :: c94 :: c95 :: c96 :: c97 :: c98 :: c99 :: c100 :: c101 :: c102 :: c103 :: c104 :: c105 :: c106 :: c107 :: c108 :: c109 :: c110 :: c111 :: c112 :: c113 :: c114 :: c115 :: c116 :: c117 :: c118 :: c119 :: c120 :: c121 :: c122 :: c123 :: c124 :: c125 :: c126 :: c127 :: c128 :: c129 :: c130 :: c131 :: c132 :: c133 :: c134 :: c135 :: c136 :: c137 :: c138 :: c139 :: c140 :: c141 :: c142 :: c143 :: c144 :: c145 :: c146 :: c147 :: c148 :: c149 :: c150 :: c151 :: c152 :: c153 :: c154 :: c155 :: c156 :: c157 :: c158 :: c159 :: c160 :: c161 :: c162 :: c163 :: c164 :: c165 :: c166 :: c167 :: c168 :: c169 :: c170 :: c171 :: c172 :: c173 :: c174 :: c175 :: c176 :: c177 :: c178 :: c179 :: c180 :: c181 :: c182 :: c183 :: c184 :: c185 :: c186 :: c187 :: c188 :: c189 :: c190 :: c191 :: c192 :: c193 :: c194 :: c195 :: c196 :: c197 :: c198 :: c199 :: c200 :: c201 :: c202 :: c203 :: c204 :: c205 :: c206 :: c207 :: c208 :: c209 :: c210 :: c211 :: c212 :: c213 :: c214 :: c215 :: c216 :: c217 :: c218 :: c219 :: c220 :: c221 :: c222 :: c223 :: c224 :: c225 :: c226 :: c227 :: c228 :: c229 :: c230 :: c231 :: c232 :: c233 :: c234 :: c235 :: c236 :: c237 :: c238 :: c239 :: c240 :: c241 :: c242 :: c243 :: c244 :: c245 :: c246 :: c247 :: c248 :: c249 :: c250 :: c251 :: c252 :: c253 :: c254 :: []).toArray,[]⟩ w0:=by
 have HE:=Lib.hid hexit;have HX:=Lib.hid rX;have HZ:=Lib.hid rZ;have hgb:=fun w=>zCJ m.x.bucket w hs.bk;have hgk:=fun w=>zDY m.x.key w hs.ky;have HB:=Lib.hid hgb;have HK:=Lib.hid hgk;have k0:=rX.cell (i:=0) rfl;obtain ⟨k,hk⟩:∃ k,m.x.kind=k:=⟨_,rfl⟩;rw [hk] at k0;have Hk:=Lib.hid hk;clear hexit rX rZ hgb hgk hk;refine wp_seq_k fun K0 h0=>?_
 conv=>arg 2;whnf
 have hcase:k=10∨k=11∨(k≠10∧k≠11):=by omega
 rcases hcase with rfl | rfl | ⟨n10,n11⟩
 ·skip
  go_wp2_with fail
  conv=>arg 2;whnf
  go_wp2_with fail
  conv=>arg 2;whnf
  go_wp2_with fail
  conv=>arg 2;whnf
  go_wp2_with fail
  conv=>arg 2;whnf
  go_wp2_with fail;exact HE.out _ _ _ _ _ _ _ _ _ _ _ _ _ _ _ _ _ _ _ _ _ _ _ _ _ _ _ _ _ _ _ _ _ _ _ _ (zAu m.x.kind m.x.id) _ HX.out HZ.out (Only.refl _ _) ⟨rfl,fun _ h=>by rw [show m.x.bucket=[] from h.symm];simp,fun _ h=>by rw [show m.x.key=[] from h.symm];simp⟩
 ·skip
  go_wp2_with fail
  conv=>arg 2;whnf
  go_wp2_with fail
  conv=>arg 2;whnf
  go_wp2_with fail
  conv=>arg 2;whnf
  go_wp2_with fail
  conv=>arg 2;whnf
  go_wp2_with fail;exact HE.out _ _ _ _ _ _ _ _ _ _ _ _ _ _ _ _ _ _ _ _ _ _ _ _ _ _ _ _ _ _ _ _ _ _ _ _ (zAu m.x.kind m.x.id) _ HX.out HZ.out (Only.refl _ _) ⟨rfl,fun _ h=>by rw [show m.x.bucket=[] from h.symm];simp,fun _ h=>by rw [show m.x.key=[] from h.symm];simp⟩
 ·have q10:(k == 10)=false:=beq_eq_false_iff_ne.2 n10;have q11:(k == 11)=false:=beq_eq_false_iff_ne.2 n11;have q10':(k != 10)=true:=(by simp [bne,q10]);have q11':(k != 11)=true:=(by simp [bne,q11]);clear n10 n11;have x4:=HX.out.cell (i:=4) rfl;have z4:=HZ.out.cell (i:=4) rfl;have f4:=HZ.out.free 4;obtain ⟨wb,hwb⟩:∃ wb,wb=w0.setCell ⟨Z,4,none⟩ (.string (str m.x.bucket)):=⟨_,rfl⟩;have ob:Only [Z] w0 wb:=(by rw [hwb];exact Only.setCell w0 ⟨Z,4,none⟩ _);have rZb:Row wb Z 36 (zK ⟨{ (zAu m.x.kind m.x.id).x with bucket:=m.x.bucket },none,0⟩):=by rw [hwb];exact HZ.out.setCell 4 _
  have rXb:=HX.out.only ob (by simp;exact hne);have xb4:=rXb.cell (i:=4) rfl;rw [hwb] at xb4;have hgb:=HB.out wb;rw [hwb] at hgb;have HOb:=Lib.hid ob;have HZb:=Lib.hid rZb;have HXb:=Lib.hid rXb;have Hwb:=Lib.hid hwb;clear ob rZb rXb hwb;go_wp2_with fail
  conv=>arg 2;whnf
  go_wp2_with fail
  conv=>arg 2;whnf
  go_wp2_with fail;(with_reducible refine hgb.mono ?_);clear hgb xb4 x4 z4 f4 k0;rw [← Hwb.out];rintro e w2 ⟨b1,rfl,hb1,o2⟩;have HX2:=Lib.hid (HXb.out.zB o2);have HZ2:=Lib.hid (HZb.out.zB o2);have HO2:=Lib.hid (HOb.out.zC o2);have HB1:Hid (b1=true→m.x.bucket.length≤63):=Lib.hid (fun h=>(hb1 h).2);clear hb1 o2 HXb HZb HOb Hwb;have k0:=HX2.out.cell (i:=0) rfl;rw [Hk.out] at k0;go_wp2_with fail
  conv=>arg 2;whnf
  have hcase:(3≤k∧k≤8)∨(¬ 3≤k)∨(3≤k∧¬ k≤8):=by omega
  rcases hcase with ⟨h1,h2⟩ | h1 | ⟨h1,h2⟩
  ·have x5:=HX2.out.cell (i:=5) rfl;have z5:=HZ2.out.cell (i:=5) rfl;have f5:=HZ2.out.free 5;obtain ⟨wb,hwb⟩:∃ wb,wb=w2.setCell ⟨Z,5,none⟩ (.string (str m.x.key)):=⟨_,rfl⟩;have ob:Only [Z] w2 wb:=(by rw [hwb];exact Only.setCell w2 ⟨Z,5,none⟩ _);have rZb:Row wb Z 36 (zK ⟨{ (zAu m.x.kind m.x.id).x with bucket:=m.x.bucket,key:=m.x.key },none,0⟩):=(by rw [hwb];exact HZ2.out.setCell 5 _);have rXb:=HX2.out.only ob (by simp;exact hne);have xb5:=rXb.cell (i:=5) rfl;rw [hwb] at xb5;have hgk:=HK.out wb;rw [hwb] at hgk;have HO3:=Lib.hid (HO2.out.trans ob (by simp))
   have HZ3:=Lib.hid rZb;have HX3:=Lib.hid rXb;have Hwb:=Lib.hid hwb;clear ob rZb rXb hwb;go_wp2_with fail
   conv=>arg 2;whnf
   cases b1 with
   | true =>
    go_wp2_with fail;(with_reducible refine hgk.mono ?_);clear hgk xb5 x5 z5 f5 k0;rw [← Hwb.out];rintro e w4 ⟨b2,rfl,hb2,o4⟩;have HX4:=Lib.hid (HX3.out.zB o4);have HZ4:=Lib.hid (HZ3.out.zB o4);have HO4:=Lib.hid (HO3.out.zC o4);have HB2:Hid (b2=true→m.x.key.length≤200):=Lib.hid (fun h=>(hb2 h).2);clear hb2 o4;go_wp2_with fail;exact HE.out _ _ _ _ _ _ _ _ _ _ _ _ _ _ _ _ _ _ _ _ _ _ _ _ _ _ _ _ _ _ _ _ _ _ _ _ _ _ HX4.out HZ4.out HO4.out ⟨rfl,fun _ _=>HB1.out trivial,fun h _=>HB2.out h⟩
   | false =>
    go_wp2_with fail;rw [← Hwb.out];exact HE.out _ _ _ _ _ _ _ _ _ _ _ _ _ _ _ _ _ _ _ _ _ _ _ _ _ _ _ _ _ _ _ _ _ _ _ _ _ _ HX3.out HZ3.out HO3.out ⟨rfl,fun h _=>absurd h (by decide),fun h _=>absurd h (by decide)⟩
  ·skip
   go_wp2_with fail
   conv=>arg 2;whnf
   go_wp2_with fail;exact HE.out _ _ _ _ _ _ _ _ _ _ _ _ _ _ _ _ _ _ _ _ _ _ _ _ _ _ _ _ _ _ _ _ _ _ _ _ _ _ HX2.out HZ2.out HO2.out ⟨rfl,fun h _=>HB1.out h,fun _ h=>by rw [show m.x.key=[] from h.symm];simp⟩
  ·skip
   go_wp2_with fail
   conv=>arg 2;whnf
   go_wp2_with fail;exact HE.out _ _ _ _ _ _ _ _ _ _ _ _ _ _ _ _ _ _ _ _ _ _ _ _ _ _ _ _ _ _ _ _ _ _ _ _ _ _ HX2.out HZ2.out HO2.out ⟨rfl,fun h _=>HB1.out h,fun _ h=>by rw [show m.x.key=[] from h.symm];simp⟩
end
end Go.Proofs.YtfeglnpmpgipiaaGreatDoor
