/- GrwPk, part 1: Mem, RowLoad. -/
import Derived.WalkKit
import Derived.Lib.Hide
import Derived.WalkSpells
import Derived.WalkLawsBesides
import Derived.Laws.CopyOwn
import Derived.Deep.Draws
import Derived.Deep.QuietTactic
import Derived.BigQuiet
import Derived.Laws.Rows
import Derived.Laws.Tables
set_option linter.unusedVariables false
set_option maxRecDepth 100000
set_option linter.unusedSimpArgs false
namespace Go.Proofs.YtfeglnpmpgipiaaGreatDoor
section
open Go.RowKit
structure Only (S:List Nat) (w w':World):Prop where
 os:w'.os=w.os
 tape:w'.tape=w.tape
 output:w'.output=w.output
 size:w.heap.size≤w'.heap.size
 block:∀ k,k < w.heap.size→k ∉ S→w'.heap[k]?=w.heap[k]?
theorem Only.refl (S:List Nat) (w:World):Only S w w:=⟨rfl,rfl,rfl,Nat.le_refl _,fun _ _ _=>rfl⟩
theorem Only.trans {S T:List Nat} {a b c:World} (h:Only S a b) (k:Only T b c) (hT:∀ i∈T,i < a.heap.size→i∈S):Only S a c :=
 ⟨k.os.trans h.os,k.tape.trans h.tape,k.output.trans h.output,Nat.le_trans h.size k.size,fun i hi hn =>
  (k.block i (Nat.lt_of_lt_of_le hi h.size) (fun hm=>hn (hT i hm hi))).trans (h.block i hi hn)⟩
theorem Only.zC {S:List Nat} {a b c:World} (h:Only S a b) (k:Only [] b c):Only S a c:=h.trans k (by simp)
theorem Only.zY {S T:List Nat} {a b c:World} (h:Only S a b) (k:Only T b c) (hT:∀ i∈T,a.heap.size≤i):Only S a c :=
 h.trans k (fun i hi hl=>absurd (hT i hi) (by omega))
theorem Only.mono {S T:List Nat} {w w':World} (h:Only S w w') (hs:∀ k∈S,k∈T):Only T w w':=⟨h.os,h.tape,h.output,h.size,fun k hk hn=>h.block k hk (fun m=>hn (hs k m))⟩
theorem Only.drop {S:List Nat} {w w':World} (h:Only S w w') (hs:∀ k∈S,w.heap.size≤k):Only [] w w' :=
 ⟨h.os,h.tape,h.output,h.size,fun k hk _=>h.block k hk (fun m=>absurd (hs k m) (by omega))⟩
theorem Only.drewN (w:World) (n:Nat):Only [] w (w.drewN n):=⟨rfl,rfl,rfl,Nat.le_refl _,fun _ _ _=>rfl⟩
theorem Only.drew (w:World):Only [] w w.drew:=⟨rfl,rfl,rfl,Nat.le_refl _,fun _ _ _=>rfl⟩
theorem Only.alloc (w:World) (o:Obj):Only [] w (w.alloc o):=⟨rfl,rfl,rfl,by simp,fun k hk _=>Below.heap_alloc _ _ _ hk⟩
theorem Only.setCell (w:World) (a:Addr) (u:Value):Only [a.block] w (w.setCell a u) :=
 ⟨rfl,rfl,rfl,by simp [World.setCell],fun k _ hn=>Below.heap_setCell _ _ _ _ (by simpa using hn)⟩
theorem Only.setRow (w:World) (g:Nat) (cs:Array Value):Only [g] w (w.setRow g cs) :=
 ⟨rfl,rfl,rfl,by simp,fun k _ hn=>setRow_other w g k cs (by simpa using hn)⟩
theorem Only.grown {w w':World} {row:Option Nat} (h:w.grownBy w' row):Only row.toList w w' :=
 ⟨h.os,h.tape,h.output,h.size,fun k hk hn=>h.block k hk (fun e=>hn (by rw [← e];simp))⟩
theorem Only.below {w w':World} (h:Only [] w w'):Below w.heap.size w w':=⟨h.os,h.tape,h.output,h.size,fun k hk=>h.block k hk (by simp)⟩
theorem Only.zCh {B:Nat} {S:List Nat} {w w':World} (h:Only S w w') (hB:B≤w.heap.size) (hS:∀ k∈S,B≤k):Below B w w' :=
 ⟨h.os,h.tape,h.output,h.size,fun k hk=>h.block k (by omega) (fun m=>absurd (hS k m) (by omega))⟩
theorem Only.yX {w w':World} (h:Below w.heap.size w w'):Only [] w w':=⟨h.os,h.tape,h.output,h.size,fun k hk _=>h.block k hk⟩
theorem Only.cell {S:List Nat} {w w':World} (h:Only S w w') {a:Addr} {v:Value} (hc:w.cell? a=some v) (hn:a.block ∉ S):w'.cell? a=some v :=
 (World.cell?_of_block (h.block a.block (World.block_lt_of_cell? w a hc) hn)).trans hc
theorem zHP {P:Program} {f:FuncId} {args:Array Value} {w:World} {n:Nat} {v:Value}
  (h:Calls P f args (w.drewN n) fun e w'=>e=.returned v∧w.drewN n=w'):Calls P f args (w.drewN n) fun e w''=>e=.returned v∧∃ m,w''=w.drewN m :=
 h.mono fun _ _ ⟨he,hd⟩=>⟨he,n,hd.symm⟩
def Rd (w:World) (p:Option Addr) (vs:List Value):Prop :=
 vs=[]∨∃ b off,p=some ⟨b,off,none⟩∧∀ j v,vs[j]?=some v→w.cell? ⟨b,off+j,none⟩=some v
theorem Rd.nil (w:World) (p:Option Addr):Rd w p []:=.inl rfl
theorem Rd.only {S:List Nat} {w w':World} {p:Option Addr} {vs:List Value} (h:Rd w p vs) (ho:Only S w w') (hp:∀ a,p=some a→a.block ∉ S):Rd w' p vs:=by
 rcases h with h | ⟨b,off,rfl,h⟩
 ·exact .inl h
 ·exact .inr ⟨b,off,rfl,fun j v hv=>ho.cell (h j v hv) (hp ⟨b,off,none⟩ rfl)⟩
theorem Rd.zB {w w':World} {p:Option Addr} {vs:List Value} (h:Rd w p vs) (ho:Only [] w w'):Rd w' p vs:=h.only ho (by simp)
theorem Rd.lt {w:World} {p:Option Addr} {vs:List Value} (h:Rd w p vs) (hne:vs≠[]):∃ b off,p=some ⟨b,off,none⟩∧b < w.heap.size:=by
 rcases h with h | ⟨b,off,rfl,h⟩
 ·exact absurd h hne
 ·cases vs with
  | nil=>exact absurd rfl hne
  | cons v vs=>exact ⟨b,off,rfl,World.block_lt_of_cell? w _ (h 0 v rfl)⟩
theorem Rd.take {w:World} {p:Option Addr} {vs:List Value} (h:Rd w p vs) (n:Nat):Rd w p (vs.take n):=by
 rcases h with h | ⟨b,off,rfl,h⟩
 ·exact .inl (by simp [h])
 ·exact .inr ⟨b,off,rfl,fun j v hv=>h j v (by rw [List.getElem?_take] at hv;split at hv;exact hv;cases hv)⟩
def u8 (x:UInt8):Value:=.int .u8 (x.toNat:Int)
def u8s (xs:List UInt8):List Value:=xs.map u8
theorem jY (xs:List UInt8):(u8s xs).length=xs.length:=by simp [u8s]
theorem zBi (xs ys:List UInt8):u8s (xs ++ ys)=u8s xs ++ u8s ys:=by simp [u8s]
theorem zGd {xs:List UInt8} {i:Nat} (h:i < xs.length):(u8s xs)[i]?=some (.int .u8 ((xs[i]).toNat:Int)):=by simp [u8s,h,u8]
theorem zBT {xs:List UInt8} {v:Value} (h:v∈u8s xs):v.oneCell'=true:=by
 obtain ⟨x,_,rfl⟩:=List.mem_map.1 h;rfl
theorem zFU (xs:List UInt8) (n:Nat):(u8s xs).take n=u8s (xs.take n):=by simp [u8s,List.map_take]
theorem zFZ (xs:List UInt8) (n:Nat):(u8s xs).drop n=u8s (xs.drop n):=by simp [u8s,List.map_drop]
theorem zCk (xs:List UInt8) (n:Nat) (x:UInt8):(u8s xs).set n (u8 x)=u8s (xs.set n x):=by simp [u8s,List.map_set]
theorem Rd.bytes {w:World} {p:Option Addr} {xs:List UInt8} (h:Rd w p (u8s xs)) (hne:0 < xs.length) :
  ∃ b off,p=some ⟨b,off,none⟩∧∀ i (hi:i < xs.length),w.cell? ⟨b,off+i,none⟩=some (.int .u8 ((xs[i]).toNat:Int)):=by
 rcases h with h | ⟨b,off,rfl,h⟩
 ·have:(u8s xs).length=0:=(by rw [h];rfl);rw [jY] at this;omega
 ·exact ⟨b,off,rfl,fun i hi=>h i _ (zGd hi)⟩
def Row (w:World) (g:Nat) (e:TypeId) (vs:List Value):Prop:=w.heap[g]?=some (.cells vs.toArray e (0,0))
theorem Row.lt {w:World} {g:Nat} {e:TypeId} {vs:List Value} (h:Row w g e vs):g < w.heap.size:=(Array.getElem?_eq_some_iff.1 h).1
theorem Row.cell {w:World} {g:Nat} {e:TypeId} {vs:List Value} (h:Row w g e vs) {i:Nat} {v:Value} (hv:vs[i]?=some v):w.cell? ⟨g,i,none⟩=some v:=by
 rw [cell_of_row w g i _ e (0,0) h];simpa using hv
theorem Row.free {w:World} {g:Nat} {e:TypeId} {vs:List Value} (h:Row w g e vs) (i:Nat):w.frozen? ⟨g,i,none⟩=false:=by
 unfold Row at h
 simp [World.frozen?,h]
theorem Row.only {S:List Nat} {w w':World} {g:Nat} {e:TypeId} {vs:List Value} (h:Row w g e vs) (ho:Only S w w') (hn:g ∉ S):Row w' g e vs :=
 (ho.block g h.lt hn).trans h
theorem Row.zB {w w':World} {g:Nat} {e:TypeId} {vs:List Value} (h:Row w g e vs) (ho:Only [] w w'):Row w' g e vs:=h.only ho (by simp)
theorem Row.new (w:World) (e:TypeId) (vs:List Value):Row (w.alloc (.cells vs.toArray e)) w.heap.size e vs:=heap_alloc_new w _
theorem Row.newAt (w:World) (e:TypeId) (vs:List Value) {n:Nat} (h:w.heap.size=n):Row (w.alloc (.cells vs.toArray e)) n e vs:=by subst h;exact Row.new w e vs
theorem Row.setCell {w:World} {g:Nat} {e:TypeId} {vs:List Value} (h:Row w g e vs) (i:Nat) (u:Value):Row (w.setCell ⟨g,i,none⟩ u) g e (vs.set i u):=by
 rw [setCell_eq_setRow w g i _ e (0,0) u h];unfold Row;rw [setRow_heap w g _ _ e (0,0) h]
 simp
theorem Row.setRow {w:World} {g:Nat} {e:TypeId} {vs:List Value} (h:Row w g e vs) (us:List Value):Row (w.setRow g us.toArray) g e us:=setRow_heap w g _ _ e (0,0) h
theorem Row.rd {w:World} {g:Nat} {e:TypeId} {vs:List Value} (h:Row w g e vs) (o:Nat):Rd w (some ⟨g,o,none⟩) (vs.drop o) :=
 .inr ⟨g,o,rfl,fun j v hv=>h.cell (by rw [List.getElem?_drop] at hv;exact hv)⟩
theorem Row.rd0 {w:World} {g:Nat} {e:TypeId} {vs:List Value} (h:Row w g e vs):Rd w (some ⟨g,0,none⟩) vs:=h.rd 0
section
variable {P:Program} (w:World)
end
end
section
open Go.RowKit
theorem Row.loadAt {P:Program} {w:World} {g:Nat} {t ty e:TypeId} {n:Nat} {vs:List Value} (r:Row w g t vs) (hu:P.underlying ty=some (.array n e)) (hi:(P.info? ty).map (·.size)=some vs.length) :
  (Instr.loadAt ty (.pointer (some ⟨g,0,none⟩))).run P w=.ok (.agg vs.toArray) w:=by
 simp only [Instr.loadAt,Instr.sureAddr,Sem.run_bind,Sem.run_pure,Result.andThen];exact run_loadVar_row w g t ty vs.toArray (0,0) _ r hu rfl (by simpa using hi)
theorem Row.storeAt {P:Program} {w:World} {g:Nat} {t ty:TypeId} {vs us:List Value} (r:Row w g t vs) (hi:(P.info? ty).map (·.size)=some us.length) (hl:vs.length=us.length) (h1:∀ u∈us,u.oneCell'=true) :
  (Instr.storeAt ty (.pointer (some ⟨g,0,none⟩)) (.agg us.toArray)).run P w=.ok () (w.setRow g us.toArray):=by
 simp only [Instr.storeAt,Instr.sureAddr,Sem.run_bind,Sem.run_pure,Result.andThen];exact run_storeVar_row w g t ty vs.toArray us.toArray r (by simpa using hi) (by simpa using hl) (by simpa using h1)
theorem jG {P:Program} {ops:Array Oper} {rest:List Oper} {o:Oper} {a:Act} {Q:Exit→Act→World→Prop} {w:World} {x:Operand} {ty:TypeId} {pv v:Value} (hg:o.guard=none) (ho:o.op=.load ty x) (hx:a.eval x=pv)
  (hr:(Instr.loadAt ty pv).run P w=.ok v w) (h:wpList P ops Q rest (a.put o.dst v) w):wpList P ops Q (o :: rest) a w :=
 wpList_plain hg fun K hK=>by
  unfold Oper.wp execOp;simp only [ho,hx,hr,Sem.run_bind,Sem.run_pure,Result.andThen_ok];exact hK _ _ h
theorem jO {P:Program} {ops:Array Oper} {rest:List Oper} {o:Oper} {a:Act} {Q:Exit→Act→World→Prop} {w w':World} {x y:Operand} {ty:TypeId} {pv v:Value} (hg:o.guard=none) (ho:o.op=.store ty x y) (hx:a.eval x=pv) (hy:a.eval y=v)
  (hr:(Instr.storeAt ty pv v).run P w=.ok () w') (h:wpList P ops Q rest (a.put o.dst undef) w'):wpList P ops Q (o :: rest) a w :=
 wpList_plain hg fun K hK=>by
  unfold Oper.wp execOp;simp only [ho,hx,hy,hr,Sem.run_bind,Sem.run_pure,Result.andThen_ok];exact hK _ _ h
end
end Go.Proofs.YtfeglnpmpgipiaaGreatDoor
