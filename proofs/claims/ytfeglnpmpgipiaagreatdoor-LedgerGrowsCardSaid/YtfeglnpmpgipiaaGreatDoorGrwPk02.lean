/- GrwPk, part 2: Opens, OpenStr, OpenInts. -/
import Derived.Test.YtfeglnpmpgipiaaGreatDoorGrwPk01
import Derived.ProofKit
import Derived.WalkSmall
import Derived.Carry
import Derived.Deep.DeepHandedRow
import Derived.Test.YtfeglnpmpgipiaaGreatDoorRows
import Derived.OpenShut
import Derived.SizedLaws
import Derived.Lib.SmallJoins
import Derived.Deep.Slices
set_option linter.unusedVariables false
set_option maxRecDepth 100000
set_option linter.unusedSimpArgs false
namespace Go.Proofs.YtfeglnpmpgipiaaGreatDoor
end Go.Proofs.YtfeglnpmpgipiaaGreatDoor
section
set_option linter.unusedVariables false
set_option maxRecDepth 100000
section
namespace Go.Proofs.YtfeglnpmpgipiaaGreatDoor
open Go.ChangeShapes Go.WideShapes Go.ChangeAt Go.RowKit
section
variable {H:Type} {enc:TypeId × Value→H} {P:Program}
def zBP (P:Program) (ts:List TypeId):Bool:=ts.all fun t=>P.readableRec t && decide (t < P.types.size)
def zBl (P:Program) (ns:List String):Bool:=ns.all fun n=>match P.globalNamed n with
 | some g=>match P.globals[g]? with
  | some x=>P.readableRec x.type && decide (x.type < P.types.size)
  | none=>false
 | none=>false
theorem zBa (hl:laidOutB P=true) {W W':World} (hb:Below W.heap.size W W'):∀ {ts:List TypeId} {vs:List Value} {ds:List (DataW H)} {ps:List MemPlace},zBP P ts=true →
  DataW.TrodAll enc P W 0 (fun _=>true) true ts vs ds ps→(∀ x∈ps,x.block < W.heap.size)→DataW.TrodAll enc P W' 0 (fun b=>decide (b < W.heap.size)) true ts vs ds ps
 | [],[],[],_,_,h,_=>h
 | t :: ts,v :: vs,d :: ds,ps,hf,h,hlt=>by
  obtain ⟨p,q,h1,h2,rfl⟩:=h;simp only [zBP,List.all_cons,Bool.and_eq_true,decide_eq_true_eq] at hf
  exact ⟨p,q,Below.trod hl hf.1.1 hf.1.2 h1 hb (fun x hx=>hlt x (List.mem_append_left _ hx)),
   zBa hl hb (by simpa [zBP] using hf.2) h2 (fun x hx=>hlt x (List.mem_append_right _ hx)),rfl⟩
 | [],[],_ :: _,_,_,h,_=>h.elim
 | [],_ :: _,_,_,_,h,_=>h.elim
 | _ :: _,[],_,_,_,h,_=>h.elim
 | _ :: _,_ :: _,[],_,_,h,_=>h.elim
theorem zBJ (hl:laidOutB P=true) {W W':World} (hb:Below W.heap.size W W'):∀ {ns:List String} {ds:List (DataW H)} {ps:List MemPlace},zBl P ns=true →
  DataW.TrodVars enc P W (fun _=>true) ns ds ps→(∀ x∈ps,x.block < W.heap.size)→DataW.TrodVars enc P W' (fun b=>decide (b < W.heap.size)) ns ds ps
 | [],[],_,_,h,_=>h
 | n :: ns,d :: ds,ps,hf,h,hlt=>by
  obtain ⟨g,t,cs,fuel,p,q,hg,ht,hv,hr,h2,rfl⟩:=h;simp only [zBl,List.all_cons,Bool.and_eq_true] at hf;obtain ⟨hf1,hf2⟩:=hf;rw [hg] at hf1;obtain ⟨x,hx,rfl⟩:=Option.map_eq_some_iff.1 ht;simp only [hx,Bool.and_eq_true,decide_eq_true_eq] at hf1
  have hgl:g < W.heap.size:=by
   unfold World.var? at hv;simp only [hg,Option.bind_some] at hv
   rcases Nat.lt_or_ge g W.heap.size with h | h
   ·exact h
   ·rw [Array.getElem?_eq_none h] at hv;cases hv
  refine ⟨g,_,cs,fuel,p,q,hg,ht,var?_below hb hg hgl hv,?_,zBJ hl hb (by simpa [zBl] using hf2) h2 (fun x hx=>hlt x (List.mem_append_right _ hx)),rfl⟩
  exact DataW.trod_stays (kids_book hl hf1.1) (book_sized hf1.1) (fun h=>by cases h) ⟨hf1.2,book_self _⟩ hr
   (fun y hy=>hb.same (hlt y (List.mem_append_left _ (List.mem_append_right _ hy))))
   (fun y hy=>by simpa using hlt y (List.mem_append_left _ (List.mem_append_right _ hy)))
 | [],_ :: _,_,_,h,_=>h.elim
 | _ :: _,[],_,_,h,_=>h.elim
theorem zIb {f:Func} {s:ChangeSpec} {W W':World} {args:Array Value} {ds gs:List (DataW H)} {before:List MemPlace} {T:TypeId}
  (hl:laidOutB P=true) (hpar:zBP P f.params.toList=true) (hvars:zBl P s.vars=true) (hrt:f.resultTypes=#[T]) (hT:P.underlying T=some .bool)
  (hW:DataW.Whole enc P f.params.toList s.vars false W args.toList ds gs before)
  (hres:(s.fn H (ds ++ gs)).results=[.lit (.bool true)]) (hargs:(s.fn H (ds ++ gs)).args=ds) (hvs:(s.fn H (ds ++ gs)).vars=gs) (hB:Below W.heap.size W W') :
  s.post enc P f false true false false W args (.bool true) W':=by
 have hlt:=hW.lt;have hW':=hW;obtain ⟨p,q,hA,hV,rfl,_,_⟩:=hW;refine ⟨ds,gs,p ++ q,[],p,q,hW',?_,?_,?_,hB.frame _,fun h=>by cases h⟩
 ·rw [hres,hrt];exact ⟨[],[],shut_bool hT true,rfl,rfl⟩
 ·rw [hargs];exact zBa hl hB hpar hA (fun x hx=>hlt x (List.mem_append_left _ hx))
 ·rw [hvs];exact zBJ hl hB hvars hV (fun x hx=>hlt x (List.mem_append_right _ hx))
end
end Go.Proofs.YtfeglnpmpgipiaaGreatDoor
end
section
set_option linter.unusedVariables false
namespace Go.Proofs.YtfeglnpmpgipiaaGreatDoor
open Go.ChangeShapes Go.WideShapes Go.ChangeAt Go.RowKit
theorem own:ownKnob Tryz.prog.godebug=none:=by kernel_rfl
theorem laidOut:laidOutB Tryz.prog=true:=by kernel_rfl
theorem zHR {a:Int} (h:(Lit.int .i64 a).wf=true):-9223372036854775808≤a∧a≤9223372036854775807:=by
 simpa [Lit.wf,IntKind.min,IntKind.max,IntKind.bits,IntKind.signed] using h
section
variable {H:Type} {enc:TypeId × Value→H} {P:Program}
def Fits (P:Program) (t:TypeId) (d:DataW H):Prop:=∀ n∈d.weights P t,n≤reachBytes
theorem zFE {ts:List TypeId} {ds:List (DataW H)} (h:(DataW.weightsEach P ts ds).all (·≤reachBytes)=true) {j:Nat} {t:TypeId} {d:DataW H} (ht:ts[j]?=some t) (hd:ds[j]?=some d):Fits P t d :=
 fun n hn=>by simpa using List.all_eq_true.1 h n (DataW.weights_mem_each ht hd n hn)
theorem zAT {t:TypeId} {fs:Array Field} {parts:List (DataW H)} (hu:P.underlying t=some (.struct fs)) (h:Fits P t (.agg parts)) {j:Nat} {t':TypeId} {d:DataW H} (ht:(fs.toList.map (·.type))[j]?=some t') (hd:parts[j]?=some d):Fits P t' d :=
 fun n hn=>h n (by simp only [DataW.weights,hu];exact DataW.weights_mem_each ht hd n hn)
theorem zBG {e:TypeId} {d:DataW H} {n:Nat} (hn:n∈d.weights P e):∀ {l:List (DataW H)},d∈l→n∈DataW.weightsAll P e l
 | x :: r,hd=>by
  simp only [DataW.weightsAll,List.mem_append]
  rcases List.mem_cons.1 hd with rfl | hd
  ·exact .inl hn
  ·exact .inr (zBG hn hd)
theorem zHG {t e:TypeId} {elems spare:List (DataW H)} (hu:P.underlying t=some (.slice e)) (h:Fits P t (.slice elems spare)) {d:DataW H} (hd:d∈elems):Fits P e d:=by
 intro n hn;refine h n ?_;simp only [DataW.weights,hu,List.mem_cons,List.mem_append];exact .inr (.inl (zBG hn hd))
theorem zGE {t e:TypeId} {elems spare:List (DataW H)} (hu:P.underlying t=some (.slice e)) (h:Fits P t (.slice elems spare)):(elems.length+spare.length) * P.bytesOf e≤reachBytes :=
 h _ (by simp [DataW.weights,hu])
theorem yN {w:World} {base:Nat} {spare:Nat→Bool} {held:Bool} {fuel:Nat} {t:TypeId} {v:Value} {x:DataW H × List MemPlace} (ht:P.underlying t=some (.int .i64))
  (h:DataW.trod enc P w base spare held fuel t [v]=some x):∃ a:Int,v=.int .i64 a∧(-9223372036854775808≤a∧a≤9223372036854775807):=by
 obtain ⟨n,hc,_,hw⟩:=DataW.trod_int ht h;exact ⟨n,by simpa using hc,zHR hw⟩
theorem zEI {W:World} {r:Reach} {b0 base:Nat} {spare:Nat→Bool} {held:Bool} {t e:TypeId} {v:Value} {d:DataW H} {ps:List MemPlace} (ht:P.underlying t=some (.slice e)) (hok:Value.okWide P W r b0 t v)
  (h:DataW.Trod enc P W base spare held t v d ps):∃ fu,DataW.trod enc P W base spare held fu t [v]=some (d,ps):=by
 obtain ⟨a,len,cap,rfl⟩:=okWide_slice ht hok;exact h
end
end Go.Proofs.YtfeglnpmpgipiaaGreatDoor
end
section
set_option linter.unusedVariables false
namespace Go.Proofs.YtfeglnpmpgipiaaGreatDoor
open Go.ChangeShapes Go.WideShapes Go.ChangeAt Go.RowKit Go.Deep
section
variable {H:Type} {enc:TypeId × Value→H} {P:Program}
theorem zIE (d:DataW H):1≤Rows.uptoBulk d:=by
 cases d with
 | lit l=>cases l <;> simp [Rows.uptoBulk]
 | nil=>simp [Rows.uptoBulk]
 | ptr d=>simp [Rows.uptoBulk]
 | slice elems spare=>simp [Rows.uptoBulk]
 | agg parts=>simp [Rows.uptoBulk]
 | iface t d=>simp [Rows.uptoBulk]
 | map entries=>simp [Rows.uptoBulk]
 | held h=>simp [Rows.uptoBulk]
theorem zEz (l r:List (DataW H)):Rows.uptoBulkAll (l ++ r)=Rows.uptoBulkAll l+Rows.uptoBulkAll r:=by
 induction l with
 | nil=>simp [Rows.uptoBulkAll]
 | cons x l ih=>simp only [List.cons_append,Rows.uptoBulkAll,ih];omega
theorem zDK (wt:Nat→Nat) (D:Nat→DataW H):∀ n,(∀ i,i < n→wt i≤Rows.uptoBulk (D i))→((List.range n).map wt).sum≤Rows.uptoBulkAll ((List.range n).map D)
 | 0,_=>by simp [Rows.uptoBulkAll]
 | n+1,h=>by
  have:=zDK wt D n (fun i hi=>h i (by omega));have h1:=h n (by omega);rw [List.range_succ,List.map_append,List.map_append,List.sum_append,zEz]
  simp [Rows.uptoBulkAll];omega
theorem zCx {α:Type} [Inhabited α] {w:World} {base:Nat} {held:Bool} {fuel:Nat} {t e:TypeId} {v:Value} {x:DataW H × List MemPlace} (K:Nat) (El:α→List Value→Prop) (wt:α→Nat) (ht:P.underlying t=some (.slice e)) (hc:P.cellsOf e=K) (hK:0 < K)
  (hel:∀ n cs y,cs.length=K→DataW.trod enc P w base (fun _=>true) held n e cs=some y→Fits P e y.1→∃ o,El o cs∧wt o≤Rows.uptoBulk y.1)
  (h:DataW.trod enc P w base (fun _=>true) held fuel t [v]=some x) (hf:Fits P t x.1) :
  ∃ p n cp,∃ os:List α,v=.slice p n cp∧os.length=n∧n≤cp∧cp * P.bytesOf e≤reachBytes∧(p=none→n=0∧cp=0)∧(os.map wt).sum≤Rows.uptoBulk x.1 ∧
   (∀ a,p=some a→0 < n→∃ b off,a=⟨b,off,none⟩) ∧
   ∀ (j:Nat) o b off,os[j]?=some o→p=some ⟨b,off,none⟩→∃ cs,El o cs∧cs.length=K∧∀ f,f < K→w.cell? ⟨b,off+j * K+f,none⟩=cs[f]?:=by
 have hsz:∀ elems spare,x.1=.slice elems spare→(elems.length+spare.length) * P.bytesOf e≤reachBytes:=fun elems spare e1=>zGE ht (e1 ▸ hf);have hfe:∀ elems spare,x.1=.slice elems spare→∀ d∈elems,Fits P e d:=fun elems spare e1 d hd=>zHG ht (e1 ▸ hf) hd
 rcases open_slice ht h with ⟨e1,e2⟩ | ⟨a,len,cap,m,k,D,Pl,e1,hb,hl,hm,hmm,hx,hcell⟩
 ·obtain rfl:v=.slice none 0 0:=(by simpa using e1);exact ⟨none,0,0,[],rfl,rfl,Nat.le_refl _,by simp,fun _=>⟨rfl,rfl⟩,by simp,by simp,by simp⟩
 ·obtain rfl:v=.slice (some a) len cap:=(by simpa using e1);simp only [if_true] at hmm;subst hmm;have hx1:x.1=.slice ((List.range len).map D) ((List.range (m - len)).map fun j=>D (len+j)):=by rw [hx]
  have each:∀ i,i < len→∃ o:α,∃ cs,El o cs∧wt o≤Rows.uptoBulk (D i)∧cs.length=K∧∀ f,f < K→w.cell? (a.add (i * K+f))=cs[f]?:=by
   intro i hi;obtain ⟨cs',h1,h2⟩:=hcell i (by omega);rw [hc] at h1;obtain ⟨_,hlen,hcl⟩:=World.cells?_some h1;obtain ⟨o,h3,h4⟩:=hel k cs' _ hlen h2 (hfe _ _ hx1 (D i) (List.mem_map.2 ⟨i,List.mem_range.2 hi,rfl⟩));exact ⟨o,cs',h3,h4,hlen,fun f hf=>by rw [← hcl f hf,add_add]⟩
  obtain ⟨f,hfn⟩:=choose_lt each;refine ⟨some a,len,m,(List.range len).map f,rfl,by simp,hl,?_,by simp,?_,?_,?_⟩
  ·have:=hsz _ _ hx1;simp only [List.length_map,List.length_range] at this
   rwa [show len+(m - len)=m by omega] at this
  ·rw [hx1,List.map_map];have:=zDK (wt ∘ f) D len (fun i hi=>(hfn i hi).choose_spec.2.1);simp only [Rows.uptoBulk];omega
  ·intro a' ha' hn;obtain rfl:=Option.some.inj ha';obtain ⟨cs,_,_,hlen,h0⟩:=hfn 0 hn;obtain ⟨b,off,spot⟩:=a;have h1:=h0 0 hK;rw [Nat.zero_mul,Nat.zero_add] at h1;have hcs:∃ u,cs[0]?=some u:=⟨_,List.getElem?_eq_getElem (by omega:0 < cs.length)⟩;obtain ⟨u,hu⟩:=hcs;rw [hu] at h1;have hspot:spot=none:=(by simpa [Addr.add] using World.cell?_spot h1);exact ⟨b,off,by rw [hspot]⟩
  ·intro j o b off ho ha;obtain rfl:=Option.some.inj ha
   have hj:j < len:=by
    have:=(List.getElem?_eq_some_iff.1 ho).1
    simpa using this
   have ho':f j=o:=by
    rw [List.getElem?_map,List.getElem?_range hj] at ho
    simpa using ho
   obtain ⟨cs,h1,_,hlen,h2⟩:=hfn j hj;rw [ho'] at h1;exact ⟨cs,h1,hlen,fun f hf=>by rw [← h2 f hf,Addr.add_lit,Nat.add_assoc]⟩
end
end Go.Proofs.YtfeglnpmpgipiaaGreatDoor
end
end
namespace Go.Proofs.YtfeglnpmpgipiaaGreatDoor
section
open Go.ChangeShapes Go.WideShapes Go.ChangeAt Go.RowKit Go.Deep Go.Joins
section
variable {H:Type} {enc:TypeId × Value→H}
theorem zDT {P:Program} {w:World} {base:Nat} {spare:Nat→Bool} {held:Bool} {fuel:Nat} {t:TypeId} {v:Value} {x:DataW H × List MemPlace} (ht:P.underlying t=some .string)
  (h:DataW.trod enc P w base spare held fuel t [v]=some x) (hf:Fits P t x.1):∃ xs:List UInt8,v=.string ⟨xs.toArray⟩∧xs.length≤140737488351232∧xs.length+1≤Rows.uptoBulk x.1:=by
 obtain ⟨s,hc,hx,_⟩:=DataW.trod_string ht h;refine ⟨s.data.toList,by simpa using hc,hf s.data.toList.length (by rw [hx];simp [DataW.weights]),by rw [hx];simp [Rows.uptoBulk]⟩
end
end
section
open Go.ChangeShapes Go.WideShapes Go.ChangeAt Go.RowKit Go.Deep Go.Joins
section
variable {H:Type} {enc:TypeId × Value→H}
def zDl (ns:List Int):List Value:=ns.map fun n=>.int .i64 n
theorem open_ints {w:World} {fuel:Nat} {v:Value} {x:DataW H × List MemPlace} (h:DataW.trod enc Tryz.prog w 0 (fun _=>true) true fuel 34 [v]=some x) (hf:Fits Tryz.prog 34 x.1) :
  ∃ p n cp,∃ ns:List Int,v=.slice p n cp∧ns.length=n∧n≤cp∧cp * 8≤reachBytes∧(p=none→n=0∧cp=0)∧n≤Rows.uptoBulk x.1∧Rd w p (zDl ns)∧∀ a∈ns,-9223372036854775808≤a∧a≤9223372036854775807:=by
 have hb:Tryz.prog.bytesOf 3=8:=by kernel_rfl
 obtain ⟨p,n,cp,os,rfl,hl,hn,hcp,hp,hw,hne,hos⟩:=zCx (α:=Int) 1 (fun o cs=>cs=[.int .i64 o]∧(-9223372036854775808≤o∧o≤9223372036854775807)) (fun o=>1) Tryz.underlying34 (by kernel_rfl) (by omega) (by
  intro k cs y hlen hy hfy
  match cs,hlen with
  | [c0],_ =>
   obtain ⟨a,rfl,b⟩:=yN Tryz.underlying3 hy
   exact ⟨a,⟨rfl,b⟩,zIE _⟩) h hf
 have hrange:∀ a∈os,-9223372036854775808≤a∧a≤9223372036854775807:=by
  intro a ha;obtain ⟨j,hj⟩:=List.getElem?_of_mem ha
  have h0:0 < n:=by
   have:=(List.getElem?_eq_some_iff.1 hj).1;omega
  obtain ⟨q,rfl⟩:∃ q,p=some q:=by
   cases p with
   | none=>have:=(hp rfl).1;omega
   | some q=>exact ⟨q,rfl⟩
  obtain ⟨b,off,rfl⟩:=hne q rfl h0;obtain ⟨cs,⟨rfl,hok⟩,_,hc⟩:=hos j a b off hj rfl;exact hok
 refine ⟨p,n,cp,os,rfl,hl,hn,by rw [hb] at hcp;exact hcp,hp,?_,?_,hrange⟩
 ·have:∀ l:List Int,(l.map fun _=>1).sum=l.length:=fun l=>(by induction l with | nil=>rfl | cons a l ih=>simp only [List.map_cons,List.sum_cons,ih,List.length_cons];omega);rw [this,hl] at hw;exact hw
 ·by_cases h0:n=0
  ·left;unfold zDl;rw [List.map_eq_nil_iff];exact List.eq_nil_of_length_eq_zero (hl.trans h0)
  ·obtain ⟨q,rfl⟩:∃ q,p=some q:=by
    cases p with
    | none=>have:=(hp rfl).1;omega
    | some q=>exact ⟨q,rfl⟩
   obtain ⟨b,off,rfl⟩:=hne q rfl (by omega)
   right
   refine ⟨b,off,rfl,fun j v hj=>?_⟩;unfold zDl at hj;rw [List.getElem?_map] at hj
   cases ho:os[j]? with
   | none=>rw [ho] at hj;simp at hj
   | some a =>
    rw [ho] at hj;obtain rfl:v=.int .i64 a:=(by simpa using hj.symm);obtain ⟨cs,⟨rfl,hok⟩,_,hc⟩:=hos j a b off ho rfl;have:=hc 0 (by omega)
    rwa [Nat.mul_one,Nat.add_zero] at this
end
end
end Go.Proofs.YtfeglnpmpgipiaaGreatDoor
