/- GrwPk, part 38: OpenCmds. -/
import Derived.Test.YtfeglnpmpgipiaaGreatDoorGrwPk02
import Derived.Test.YtfeglnpmpgipiaaGreatDoorGrwPk37
set_option linter.unusedVariables false
set_option maxRecDepth 100000
set_option linter.unusedSimpArgs false
namespace Go.Proofs.YtfeglnpmpgipiaaGreatDoor
section
open Go.ChangeShapes Go.WideShapes Go.ChangeAt Go.RowKit Go.Deep Go.Joins
structure zGe (w:World) (ms:List zS):Prop where
 ca:∀ m∈ms,jS w m
 sh:∀ m∈ms,zBn m
theorem zFK {α:Type} {f:α→List Value} {K:Nat} (hf:∀ a,(f a).length=K) (hK:0 < K) {w:World} {p:Option Addr} {n:Nat} {os:List α} (hl:os.length=n) (hp:p=none→n=0) (hne:∀ a,p=some a→0 < n→∃ b off,a=⟨b,off,none⟩)
  (hc:∀ (j:Nat) o b off,os[j]?=some o→p=some ⟨b,off,none⟩→∀ r,r < K→w.cell? ⟨b,off+j * K+r,none⟩=(f o)[r]?):Rd w p (os.flatMap f):=by
 by_cases h0:n=0
 ·left
  rw [List.eq_nil_of_length_eq_zero (hl.trans h0)];rfl
 ·obtain ⟨q,rfl⟩:∃ q,p=some q:=by
   cases p with
   | none=>exact absurd (hp rfl) h0
   | some q=>exact ⟨q,rfl⟩
  obtain ⟨b,off,rfl⟩:=hne q rfl (by omega)
  right
  refine ⟨b,off,rfl,fun i v hv=>?_⟩;have hlt:i < (os.flatMap f).length:=(List.getElem?_eq_some_iff.1 hv).1;rw [qR f K hf] at hlt;have hj:i / K < os.length:=(Nat.div_lt_iff_lt_mul hK).2 hlt;have hr:i % K < K:=Nat.mod_lt _ hK;have he:i / K * K+i % K=i:=Nat.div_add_mod' i K;have ho:os[i / K]?=some os[i / K]:=List.getElem?_eq_getElem hj;rw [← he,flat_get f K hf os _ _ _ ho hr] at hv;have:=hc _ _ b off ho rfl _ hr;rw [hv,Nat.add_assoc,he] at this;exact this
section
variable {H:Type} {enc:TypeId × Value→H} {base:Nat} {spare:Nat→Bool} {held:Bool}
theorem zEa {w:World} {fuel:Nat} {cs:List Value} {x:DataW H × List MemPlace} (hl:cs.length=3) (h:DataW.trod enc Tryz.prog w base spare held fuel 31 cs=some x):∃ i:Cid,cs=zI i:=by
 match cs,hl with
 | [c0,c1,c2],_ =>
  obtain ⟨ys,m,_,rfl,_,hlen2,hg⟩:=DataW.trod_struct Tryz.underlying31 h;have hlen2':ys.length=3:=hlen2;have k1:Tryz.prog.cellsOf 3=1:=by kernel_rfl
  match ys,hlen2' with
  | [z0,z1,z2],_ =>
   have g0:=hg 0 _ rfl;have g1:=hg 1 _ rfl;have g2:=hg 2 _ rfl
   simp [k1] at g0 g1 g2
   obtain ⟨a0,rfl,_⟩:=yN Tryz.underlying3 g0;obtain ⟨a1,rfl,_⟩:=yN Tryz.underlying3 g1;obtain ⟨a2,rfl,_⟩:=yN Tryz.underlying3 g2;exact ⟨⟨a0,a1,a2⟩,rfl⟩
theorem zIw {w:World} {fuel:Nat} {cs:List Value} {x:DataW H × List MemPlace} (hl:cs.length=5) (h:DataW.trod enc Tryz.prog w base spare held fuel 33 cs=some x) (hf:Fits Tryz.prog 33 x.1):∃ p:Pc,cs=jK p∧p.etag.length≤140737488351232∧p.etag.length≤Rows.uptoBulk x.1:=by
 match cs,hl with
 | [c0,c1,c2,c3,c4],_ =>
  obtain ⟨ys,m,_,rfl,_,hlen2,hg⟩:=DataW.trod_struct Tryz.underlying33 h;have hlen2':ys.length=3:=hlen2;have k1:Tryz.prog.cellsOf 3=1:=(by kernel_rfl);have k2:Tryz.prog.cellsOf 9=1:=(by kernel_rfl);have k3:Tryz.prog.cellsOf 31=3:=by kernel_rfl
  match ys,hlen2' with
  | [z0,z1,z2],_ =>
   have g0:=hg 0 _ rfl;have g1:=hg 1 _ rfl;have g2:=hg 2 _ rfl
   simp [k1,k2,k3] at g0 g1 g2
   obtain ⟨i,hi⟩:=zEa rfl g0;obtain ⟨a1,rfl,_⟩:=yN Tryz.underlying3 g1;obtain ⟨xs,rfl,b,bn⟩:=zDT Tryz.underlying9 g2 (zAT Tryz.underlying33 hf (j:=2) rfl rfl);simp only [zI,List.cons.injEq,and_true] at hi;obtain ⟨rfl,rfl,rfl⟩:=hi;refine ⟨⟨i,a1,xs⟩,rfl,b,?_⟩;simp only [List.map_cons,List.map_nil,Rows.uptoBulk,Rows.uptoBulkAll];show xs.length≤_;omega
def zIy (m:zS):Nat:=m.x.bucket.length+m.x.key.length+m.x.piece.etag.length+m.x.parts.length
theorem zIc {w:World} {fuel:Nat} {cs:List Value} {x:DataW H × List MemPlace} (hl:cs.length=18) (h:DataW.trod enc Tryz.prog w 0 (fun _=>true) true fuel 36 cs=some x) (hf:Fits Tryz.prog 36 x.1):∃ m:zS,(cs=zK m∧jS w m∧zBn m)∧zIy m≤Rows.uptoBulk x.1:=by
 match cs,hl with
 | [c0,c1,c2,c3,c4,c5,c6,c7,c8,c9,c10,c11,c12,c13,c14,c15,c16,c17],_ =>
  obtain ⟨ys,m,_,rfl,_,hlen2,hg⟩:=DataW.trod_struct Tryz.underlying36 h;have hlen2':ys.length=10:=hlen2;have k1:Tryz.prog.cellsOf 3=1:=(by kernel_rfl);have k2:Tryz.prog.cellsOf 9=1:=(by kernel_rfl);have k3:Tryz.prog.cellsOf 31=3:=(by kernel_rfl);have k4:Tryz.prog.cellsOf 33=5:=(by kernel_rfl);have k5:Tryz.prog.cellsOf 34=1:=by kernel_rfl
  match ys,hlen2' with
  | [z0,z1,z2,z3,z4,z5,z6,z7,z8,z9],_ =>
   have g0:=hg 0 _ rfl;have g1:=hg 1 _ rfl;have g2:=hg 2 _ rfl;have g3:=hg 3 _ rfl;have g4:=hg 4 _ rfl;have g5:=hg 5 _ rfl;have g6:=hg 6 _ rfl;have g7:=hg 7 _ rfl;have g8:=hg 8 _ rfl;have g9:=hg 9 _ rfl
   simp [k1,k2,k3,k4,k5] at g0 g1 g2 g3 g4 g5 g6 g7 g8 g9
   obtain ⟨a0,rfl,_⟩:=yN Tryz.underlying3 g0;obtain ⟨i1,hi1⟩:=zEa rfl g1;obtain ⟨x2,rfl,b2,n2⟩:=zDT Tryz.underlying9 g2 (zAT Tryz.underlying36 hf (j:=2) rfl rfl);obtain ⟨x3,rfl,b3,n3⟩:=zDT Tryz.underlying9 g3 (zAT Tryz.underlying36 hf (j:=3) rfl rfl);obtain ⟨i4,hi4⟩:=zEa rfl g4;obtain ⟨p5,hp5,b5,n5⟩:=zIw rfl g5 (zAT Tryz.underlying36 hf (j:=5) rfl rfl);obtain ⟨a6,rfl,_⟩:=yN Tryz.underlying3 g6;obtain ⟨p7,m7,c7',ns,rfl,l7,q7,r7,z7',n7,rd7,-⟩:=open_ints g7 (zAT Tryz.underlying36 hf (j:=7) rfl rfl)
   obtain ⟨a8,rfl,_⟩:=yN Tryz.underlying3 g8;obtain ⟨a9,rfl,_⟩:=yN Tryz.underlying3 g9;simp only [zI,jK,List.cons.injEq,and_true] at hi1 hi4 hp5;obtain ⟨rfl,rfl,rfl⟩:=hi1;obtain ⟨rfl,rfl,rfl⟩:=hi4;obtain ⟨rfl,rfl,rfl,rfl,rfl⟩:=hp5;subst l7;have hrb:reachBytes≤140737488355328:=(by decide);refine ⟨⟨⟨a0,i1,x2,x3,i4,p5,a6,ns,a8,a9⟩,p7,c7'⟩,⟨rfl,⟨rd7,z7',q7⟩,⟨by show x2.length≤_;omega,by show x3.length≤_;omega,by show p5.etag.length≤_;omega,by show ns.length≤_;omega⟩⟩,?_⟩;simp only [List.map_cons,List.map_nil,Rows.uptoBulk,Rows.uptoBulkAll,zIy]
   omega
theorem zHS {w:World} {fuel:Nat} {v:Value} {x:DataW H × List MemPlace} (h:DataW.trod enc Tryz.prog w 0 (fun _=>true) true fuel 22 [v]=some x) (hf:Fits Tryz.prog 22 x.1) :
  ∃ p n cp,∃ os:List zS,v=.slice p n cp∧os.length=n∧n≤cp∧cp * 184≤reachBytes∧(p=none→n=0∧cp=0)∧(os.map zIy).sum≤Rows.uptoBulk x.1∧Rd w p (os.flatMap zK)∧zGe w os:=by
 have hb:Tryz.prog.bytesOf 36=184:=by kernel_rfl
 haveI:Inhabited zS:=⟨zAu 0 ⟨0,0,0⟩⟩
 obtain ⟨p,n,cp,os,rfl,hl,hn,hcp,hp,hw,hne,hos⟩:=zCx (α:=zS) 18 (fun o cs=>cs=zK o∧jS w o∧zBn o) zIy Tryz.underlying22 (by kernel_rfl) (by omega) (by
  intro k cs y hlen hy hfy
  exact zIc hlen hy hfy) h hf
 have hat:∀ (j:Nat) o,os[j]?=some o→∃ b off,p=some ⟨b,off,none⟩:=by
  intro j o hj;have h0:0 < n:=by have:=(List.getElem?_eq_some_iff.1 hj).1;omega
  obtain ⟨a,rfl⟩:∃ a,p=some a:=by
   cases p with
   | none=>have:=(hp rfl).1;omega
   | some a=>exact ⟨a,rfl⟩
  obtain ⟨b,off,rfl⟩:=hne a rfl h0;exact ⟨b,off,rfl⟩
 have hmem:∀ o∈os,jS w o∧zBn o:=by
  intro o ho;obtain ⟨j,hj⟩:=List.getElem?_of_mem ho;obtain ⟨b,off,hpe⟩:=hat j o hj;obtain ⟨cs,h1,_,hc⟩:=hos j o b off hj hpe;exact h1.2
 refine ⟨p,n,cp,os,rfl,hl,hn,by rw [hb] at hcp;exact hcp,hp,hw,zFK jB (by omega) hl (fun h=>(hp h).1) hne (fun j o b off hj hpe r hr=>by
  obtain ⟨cs,⟨rfl,_⟩,_,hc⟩:=hos j o b off hj hpe
  exact hc r hr),⟨fun o ho=>(hmem o ho).1,fun o ho=>(hmem o ho).2⟩⟩
end
end
end Go.Proofs.YtfeglnpmpgipiaaGreatDoor
