/- GrwPk, part 20: ShaSums0. -/
import Derived.Test.YtfeglnpmpgipiaaGreatDoorGrwPk06
import Derived.Test.YtfeglnpmpgipiaaGreatDoorGrwPk19
import Derived.Laws.IdiomCopy
import Derived.Deep.AppendSrc
import Derived.Deep.MidRow
set_option linter.unusedVariables false
set_option maxRecDepth 100000
set_option linter.unusedSimpArgs false
namespace Go.Proofs.YtfeglnpmpgipiaaGreatDoor
end Go.Proofs.YtfeglnpmpgipiaaGreatDoor
section
set_option linter.unusedVariables false
set_option maxRecDepth 100000
section
set_option linter.unusedVariables false
namespace Go.Proofs.YtfeglnpmpgipiaaGreatDoor
open Go.RowKit
theorem Row.setCells {g:Nat} {e:TypeId}:∀ (vs:List Value) (o:Nat) {w:World} {us:List Value},Row w g e us→o+vs.length≤us.length→Row (w.setCells g o vs) g e (us.take o ++ vs ++ us.drop (o+vs.length))
 | [],o,w,us,h,_=>by
  simp only [World.setCells,List.length_nil,Nat.add_zero,List.append_nil,List.take_append_drop];exact h
 | v :: r,o,w,us,h,hl=>by
  simp only [List.length_cons] at hl;have h2:=Row.setCells r (o+1) (h.setCell o v) (by rw [List.length_set];omega);simp only [World.setCells]
  have e2:(us.set o v).take (o+1) ++ r ++ (us.set o v).drop (o+1+r.length)=us.take o ++ (v :: r) ++ us.drop (o+(v :: r).length):=by
   rw [List.take_add_one,List.take_set_of_le (by omega),List.getElem?_set_self (by omega),List.drop_set_of_lt (by omega)];simp only [Option.toList_some,List.append_assoc,List.cons_append,List.nil_append,List.length_cons]
   congr 4
   omega
  rw [e2] at h2;exact h2
theorem Only.setCells (g:Nat):∀ (vs:List Value) (o:Nat) (w:World),Only [g] w (w.setCells g o vs)
 | [],_,w=>Only.refl _ _
 | v :: r,o,w=>(Only.setCell w ⟨g,o,none⟩ v).trans (Only.setCells g r (o+1) _) (fun i hi _=>hi)
def yK (w:World) (base:Nat) (e:TypeId) (p:Option Addr) (n c:Nat) (vs:List Value):Prop :=
 vs.length=n∧n≤c∧c≤9223372036854775807∧((p=none∧c=0)∨∃ g off us,p=some ⟨g,off,none⟩∧base≤g∧Row w g e us∧off+c≤us.length∧(us.drop off).take n=vs)
theorem yK.nil (w:World) (base:Nat) (e:TypeId):yK w base e none 0 0 []:=⟨rfl,by omega,by omega,.inl ⟨rfl,rfl⟩⟩
theorem yK.zJk {w:World} {base:Nat} {e:TypeId} {p:Option Addr} {n c:Nat} {vs:List Value} (h:Own w base e (.slice p n c) vs):yK w base e p n c vs:=by
 obtain ⟨_,hl,hp,hnc,hc,_⟩:=h.view;refine ⟨hl,hnc,hc,?_⟩
 rcases h.cases with ⟨e1,_⟩ | ⟨g,cap,rest,e1,hg,r,hcap,hm⟩
 ·obtain ⟨rfl,-,rfl⟩:p=none∧n=0∧c=0:=(by simpa using e1);exact .inl ⟨rfl,rfl⟩
 ·obtain ⟨rfl,rfl,rfl⟩:p=some ⟨g,0,none⟩∧n=vs.length∧c=cap:=(by simpa using e1);exact .inr ⟨g,0,vs ++ rest,rfl,hg,r,by omega,by simp⟩
theorem yK.only {S:List Nat} {w w':World} {base:Nat} {e:TypeId} {p:Option Addr} {n c:Nat} {vs:List Value} (h:yK w base e p n c vs) (ho:Only S w w') (hn:∀ k∈blk p,k ∉ S):yK w' base e p n c vs:=by
 obtain ⟨h1,h2,h3,h4⟩:=h;refine ⟨h1,h2,h3,?_⟩
 rcases h4 with h4 | ⟨g,off,us,rfl,hg,r,hu,ht⟩
 ·exact .inl h4
 ·exact .inr ⟨g,off,us,rfl,hg,r.only ho (hn g (by simp [blk])),hu,ht⟩
theorem yK.zB {w w':World} {base:Nat} {e:TypeId} {p:Option Addr} {n c:Nat} {vs:List Value} (h:yK w base e p n c vs) (ho:Only [] w w'):yK w' base e p n c vs:=h.only ho (by simp)
theorem yK.lt {w:World} {base:Nat} {e:TypeId} {p:Option Addr} {n c:Nat} {vs:List Value} (h:yK w base e p n c vs):∀ k∈blk p,base≤k∧k < w.heap.size:=by
 rcases h.2.2.2 with ⟨rfl,_⟩ | ⟨g,off,us,rfl,hg,r,hu,ht⟩
 ·simp [blk]
 ·intro k hk;obtain rfl:k=g:=(by simpa [blk] using hk);exact ⟨hg,r.lt⟩
theorem yK.rd {w:World} {base:Nat} {e:TypeId} {p:Option Addr} {n c:Nat} {vs:List Value} (h:yK w base e p n c vs):Rd w p vs:=by
 obtain ⟨h1,h2,h3,h4⟩:=h
 rcases h4 with ⟨rfl,rfl⟩ | ⟨g,off,us,rfl,hg,r,hu,rfl⟩
 ·obtain rfl:n=0:=(by omega);rw [List.eq_nil_of_length_eq_zero h1];exact Rd.nil _ _
 ·exact (r.rd off).take n
theorem yK.zJg {w:World} {base:Nat} {e:TypeId} {p:Option Addr} {n c:Nat} {vs:List Value} (h:yK w base e p n c vs):p=none→n=0∧c=0:=by
 obtain ⟨h1,h2,h3,h4⟩:=h
 rcases h4 with ⟨rfl,rfl⟩ | ⟨g,off,us,rfl,_⟩
 ·intro _;omega
 ·simp
theorem yK.cut {w:World} {base:Nat} {e:TypeId} {p:Option Addr} {n c:Nat} {vs:List Value} (h:yK w base e p n c vs) (k:Nat) (hk:k≤n) (hk0:0 < k):yK w base e (if c=k then p else p.map (·.add k)) (n - k) (c - k) (vs.drop k)∧blk (if c=k then p else p.map (·.add k))=blk p:=by
 obtain ⟨h1,h2,h3,h4⟩:=h
 rcases h4 with ⟨rfl,rfl⟩ | ⟨g,off,us,rfl,hg,r,hu,rfl⟩
 ·omega
 ·by_cases hck:c=k
  ·rw [if_pos hck];refine ⟨⟨by rw [List.length_drop];omega,by omega,by omega,.inr ⟨g,off,us,rfl,hg,r,by omega,?_⟩⟩,rfl⟩;obtain rfl:n=k:=(by omega);rw [Nat.sub_self,List.take_zero,List.drop_eq_nil_of_le (by omega)]
  ·rw [if_neg hck];refine ⟨⟨by rw [List.length_drop];omega,by omega,by omega,.inr ⟨g,off+k,us,by simp [Addr.add_lit],hg,r,by omega,?_⟩⟩,by simp [blk,Addr.add_lit]⟩;rw [List.drop_take,List.drop_drop]
theorem zGf {P:Program} (w:World) {t ty e:TypeId} {z:Value} {bytes base n cap m c:Nat} {p q:Option Addr} {vs news:List Value} (ht:P.underlying t=some (.slice e)) (hi:(P.info? e).map (fun i=>(i.zero,i.size,i.bytes))=some (some z,1,bytes)) (hz:z.cells=#[z])
  (hown:yK w base e p n cap vs) (hr:Rd w q news) (hm:news.length=m) (hq:q=none→m=0∧c=0) (h1:∀ u∈news,u.oneCell'=true) (hb:(n+m) * bytes≤140737488355328) (h63:n+m≤9223372036854775807) (hbase:base≤w.heap.size) :
  ∃ p' cap' w',(Builtin.append_ #[t,t] ty #[.slice p n cap,.slice q m c]).run P w=.ok (.slice p' (n+m) cap') w'∧yK w' base e p' (n+m) cap' (vs ++ news)∧Only (blk p) w w'∧(∀ k∈blk p',k∈blk p∨w.heap.size≤k):=by
 by_cases hg:cap < n+m
 ·obtain ⟨g,cap',k,w',h2,h3,h4,h5,h6,h7⟩:=zDQ (P:=P) w (t:=t) (ty:=ty) ht hi hz hown.rd hown.1 hown.zJg hr hm hq hg hown.2.1 hb h63;refine ⟨_,cap',w',h2,⟨by rw [List.length_append,hown.1,hm],by omega,h6,.inr ⟨g,0,_,rfl,by omega,h4,?_,?_⟩⟩,h7.mono (by simp),?_⟩
  ·simp only [List.length_append,List.length_replicate,hown.1,hm];omega
  ·rw [List.drop_zero,List.take_left' (by rw [List.length_append,hown.1,hm])]
  ·intro i hi;right;obtain rfl:i=g:=(by simpa [blk] using hi);exact h3
 ·obtain ⟨i,hii,hz0,hz1,hz2⟩:=info_parts hi
  have hnil:∀ q' c',m=0→Rd w q' []→(Builtin.append_ #[t,t] ty #[.slice p n cap,.slice q' 0 c']).run P w=.ok (.slice p n cap) w→∃ p' cap' w',(Builtin.append_ #[t,t] ty #[.slice p n cap,.slice q' 0 c']).run P w=.ok (.slice p' n cap') w'∧yK w' base e p' n cap' vs∧Only (blk p) w w'∧(∀ k∈blk p',k∈blk p∨w.heap.size≤k) :=
   fun q' c' _ _ hrun=>⟨p,cap,w,hrun,hown,Only.refl _ _,fun k hk=>.inl hk⟩
  have hsrc:Src P i.size t (.slice q m c) m news w:=by
   cases q with
   | none =>
    obtain ⟨rfl,rfl⟩:=hq rfl;obtain rfl:news=[]:=List.eq_nil_of_length_eq_zero hm;exact Src.ofNil w ht 0
   | some a=>exact Src.ofSlice w ht a m c news (by rw [hz1];omega) hr.cells h1
  obtain ⟨k1,k2,k3,k4⟩:=hown
  rcases k4 with ⟨rfl,rfl⟩ | ⟨g,off,us,rfl,hgb,r,hu,hvs⟩
  ·obtain rfl:m=0:=(by omega);obtain rfl:n=0:=(by omega);obtain rfl:news=[]:=List.eq_nil_of_length_eq_zero hm;obtain rfl:vs=[]:=List.eq_nil_of_length_eq_zero k1;refine ⟨none,0,w,?_,yK.nil _ _ _,Only.refl _ _,by simp [blk]⟩;have hc:=hsrc.cells
   simp [Builtin.append_,run_underlying ht,sizeOf,typeInfo,hii,Builtin.lenOf,hc]
  ·have hrun:=run_append_room_src (P:=P) w t t ty e i ht hii g off n cap (.slice q m c) m news hsrc (by omega) (fun j hj=>by
    rw [hz1,Nat.mul_one];have hlt:off+n+j < us.length:=by omega
    rw [r.cell (List.getElem?_eq_getElem hlt)];rfl) (fun j hj=>r.free _)
   rw [hz1,Nat.mul_one] at hrun;have hset:=Row.setCells news (off+n) r (by omega);refine ⟨_,cap,_,hrun,⟨by rw [List.length_append,k1,hm],by omega,k3,.inr ⟨g,off,_,rfl,hgb,hset,?_,?_⟩⟩,(Only.setCells g news (off+n) w).mono (by simp [blk]),fun k hk=>.inl hk⟩
   ·simp only [List.length_append,List.length_take,List.length_drop];omega
   ·subst hvs;have hl:(us.take (off+n)).length=off+n:=(by rw [List.length_take];omega);rw [List.append_assoc,List.drop_append_of_le_length (by omega),List.take_append];have hl2:((us.take (off+n)).drop off).length=n:=(by rw [List.length_drop,hl];omega);rw [List.take_of_length_le (by omega),hl2,show n+m - n=m by omega,List.take_left' hm,List.drop_take,show off+n - off=n by omega]
end Go.Proofs.YtfeglnpmpgipiaaGreatDoor
end
section
set_option linter.unusedVariables false
namespace Go.Proofs.YtfeglnpmpgipiaaGreatDoor
open Go.RowKit
theorem Row.zGX {P:Program} {w:World} {g o:Nat} {t ty e:TypeId} {n:Nat} {vs us:List Value} (r:Row w g t vs) (hu:P.underlying ty=some (.array n e)) (hi:(P.info? ty).map (·.size)=some us.length) (ht:(vs.drop o).take us.length=us) :
  (Instr.loadAt ty (.pointer (some ⟨g,o,none⟩))).run P w=.ok (.agg us.toArray) w:=by
 simp only [Instr.loadAt,Instr.sureAddr,Sem.run_bind,Sem.run_pure,Result.andThen];refine run_loadVar_mid w g o ty us _ (fun j v hv=>r.cell ?_) hu rfl hi;rw [← ht,List.getElem?_take,List.getElem?_drop] at hv
 split at hv
 ·exact hv
 ·cases hv
theorem Row.zID {P:Program} {w:World} {g o:Nat} {t ty:TypeId} {vs us:List Value} (r:Row w g t vs) (hi:(P.info? ty).map (·.size)=some us.length) (hl:o+us.length≤vs.length) (h1:∀ u∈us,u.oneCell'=true) :
  (Instr.storeAt ty (.pointer (some ⟨g,o,none⟩)) (.agg us.toArray)).run P w=.ok () (w.setCells g o us):=by
 simp only [Instr.storeAt,Instr.sureAddr,Sem.run_bind,Sem.run_pure,Result.andThen]
 have:=run_storeVar_mid (P:=P) w g o ty us.toArray (fun j hj=>⟨by
  have hj':o+j < vs.length:=by simp at hj;omega
  rw [r.cell (List.getElem?_eq_getElem hj')];rfl,r.free _⟩) (by simpa using hi) (by simpa using h1)
 simpa using this
theorem infoU8s:(Tryz.prog.info? 5).map (fun i=>(i.zero,i.size,i.bytes))=some (some (.int .u8 0),1,1):=by kernel_rfl
theorem infoSt:(Tryz.prog.info? 160).map (·.size)=some 8:=by kernel_rfl
theorem zBN {P:Program} {o:Oper} {a:Act} {K:Act→World→Prop} {w:World} {x:Operand} {ty:TypeId} {pv v:Value} (ho:o.op=.load ty x) (hx:a.eval x=pv)
  (hr:(Instr.loadAt ty pv).run P w=.ok v w) (h:K (a.put o.dst v) w):o.wp P a w K (fun _ _ _=>False):=by
 unfold Oper.wp execOp;simp only [ho,hx,hr,Sem.run_bind,Sem.run_pure,Result.andThen_ok];exact h
theorem zBv {P:Program} {o:Oper} {a:Act} {K:Act→World→Prop} {w w':World} {x y:Operand} {ty:TypeId} {pv v:Value} (ho:o.op=.store ty x y) (hx:a.eval x=pv) (hy:a.eval y=v)
  (hr:(Instr.storeAt ty pv v).run P w=.ok () w') (h:K (a.put o.dst undef) w'):o.wp P a w K (fun _ _ _=>False):=by
 unfold Oper.wp execOp;simp only [ho,hx,hy,hr,Sem.run_bind,Sem.run_pure,Result.andThen_ok];exact h
def hrow (s:St) (v:Value) (N:Nat):List Value:=qQ s.l ++ [v,.int .i64 (N:Int)]
theorem zBj (s:St) (v:Value) (N:Nat):(hrow s v N)[8]?=some v:=rfl
theorem zFk (s:St) (v:Value) (N:Nat):(hrow s v N)[9]?=some (.int .i64 (N:Int)):=rfl
theorem zDw (s:St) (v u:Value) (N:Nat):(hrow s v N).set 8 u=hrow s u N:=rfl
theorem zGr (s:St) (v:Value) (N M:Nat):(hrow s v N).set 9 (.int .i64 (M:Int))=hrow s v M:=rfl
theorem zEs (s:St) (v:Value) (N:Nat):(hrow s v N).length=10:=rfl
theorem zGU (s:St) (v:Value) (N:Nat):((hrow s v N).drop 0).take (qQ s.l).length=qQ s.l:=rfl
theorem zHq (s t:St) (v:Value) (N:Nat):(hrow s v N).take 0 ++ qQ t.l ++ (hrow s v N).drop (0+(qQ t.l).length)=hrow t v N:=rfl
def HsJ (w:World) (F:List Nat) (B:Nat) (s:St) (left:List UInt8) (N:Nat):Prop :=
 ∃ p c,F=B :: blk p∧Row w B 163 (hrow s (.slice p left.length c) N)∧yK w 0 5 p left.length c (u8s left)∧B ∉ blk p
def Hs (w:World) (F:List Nat) (B:Nat) (xs:List UInt8):Prop:=HsJ w F B (zAX st0 (xs.length / 64) xs) (xs.drop (64 * (xs.length / 64))) xs.length
theorem HsJ.only {S:List Nat} {w w':World} {F:List Nat} {B:Nat} {s:St} {left:List UInt8} {N:Nat} (h:HsJ w F B s left N) (ho:Only S w w') (hn:∀ k∈F,k ∉ S):HsJ w' F B s left N:=by
 obtain ⟨p,c,rfl,r,o,hne⟩:=h;exact ⟨p,c,rfl,r.only ho (hn _ (by simp)),o.only ho (fun k hk=>hn k (List.mem_cons_of_mem _ hk)),hne⟩
theorem HsJ.lt {w:World} {F:List Nat} {B:Nat} {s:St} {left:List UInt8} {N:Nat} (h:HsJ w F B s left N):∀ k∈F,k < w.heap.size:=by
 obtain ⟨p,c,rfl,r,o,hne⟩:=h;intro k hk
 rcases List.mem_cons.1 hk with rfl | hk
 ·exact r.lt
 ·exact (o.lt k hk).2
theorem HsJ.head {w:World} {F:List Nat} {B:Nat} {s:St} {left:List UInt8} {N:Nat} (h:HsJ w F B s left N):B∈F:=by
 obtain ⟨p,c,rfl,_⟩:=h;simp
theorem zIt (w:World):Calls Tryz.prog 79 #[] w fun e w'=>∃ B F,e=.returned (.pointer (some ⟨B,0,none⟩))∧Hs w' F B []∧Only [] w w'∧(∀ k∈F,w.heap.size≤k):=by
 go_enter Tryz.func79,Tryz.ntmps79
 go_wp2_with fail;(with_reducible refine (zHW w).mono ?_);rintro e w1 ⟨rfl,h1⟩;go_wp2_with fail
 go_ret
 refine ⟨w1.heap.size,[w1.heap.size],rfl,⟨none,0,rfl,Row.zV w1 _ _ (hrow st0 (.slice none 0 0) 0) (by rfl),yK.nil _ _ _,by simp [blk]⟩,h1.zC (Only.alloc _ _),by simpa using h1.size⟩
theorem yK.zJW {w:World} {base:Nat} {e:TypeId} {p:Option Addr} {n c:Nat} {vs:List Value} (h:yK w base e p n c vs) (k:Nat):(if c=k then p else Option.map (fun x=>(⟨x.block,x.off+k,none⟩:Addr)) p)=(if c=k then p else p.map (·.add k)):=by
 rcases h.2.2.2 with ⟨rfl,_⟩ | ⟨g,off,us,rfl,_⟩
 ·rfl
 ·simp [Addr.add_lit]
theorem zEn (j:Nat) (xs:List UInt8) (h:64≤(xs.drop (64 * j)).length):dig (zAX st0 j xs) ((xs.drop (64 * j)).take 64)=zAX st0 (j+1) xs:=by
 rw [zFC j 1];rfl
theorem left_step (j:Nat) (xs:List UInt8):(xs.drop (64 * j)).drop 64=xs.drop (64 * (j+1)):=by
 rw [List.drop_drop];congr 1
set_option maxRecDepth 100000 in
set_option maxHeartbeats 20000000 in
theorem zGz (ww:World) (F:List Nat) (B:Nat) (xs bs:List UInt8) (q:Option Addr) (m c:Nat) (hw:Hs ww F B xs) (hr:∀ w1,Only [B] ww w1→Rd w1 q (u8s bs)) (hm:bs.length=m) (hq:q=none→m=0∧c=0)
  (hbm:m+64≤140737488355328) (hb:xs.length+m≤1152921504606846976) :
  Calls Tryz.prog 80 #[.pointer (some ⟨B,0,none⟩),.slice q m c] ww fun e w'=>e=.returned (.tuple #[])∧∃ F',Hs w' F' B (xs ++ bs)∧Only F ww w'∧(∀ k∈F',k∈F∨ww.heap.size≤k):=by
 unfold Hs at hw;obtain ⟨p,c0,rfl,r,o,hne⟩:=hw;have hj:64 * (xs.length / 64)≤xs.length:=(by omega);obtain ⟨j,hjj⟩:∃ j,j=xs.length / 64:=⟨_,rfl⟩;rw [← hjj] at r o hj;obtain ⟨N,hN⟩:∃ N,N=xs.length:=⟨_,rfl⟩;rw [← hN] at r hb;obtain ⟨L,hL⟩:∃ L,L=xs.drop (64 * j):=⟨_,rfl⟩;rw [← hL] at r o;have hll:L.length < 64:=(by rw [hL,List.length_drop];omega);obtain ⟨s0,hs0⟩:∃ s,s=zAX st0 j (xs ++ bs):=⟨_,rfl⟩;rw [show zAX st0 j xs=s0 by rw [hs0,zDI _ _ _ _ hj]] at r;have hLb:L ++ bs=(xs ++ bs).drop (64 * j):=by rw [hL,List.drop_append_of_le_length hj]
 have hNb:N+m=(xs ++ bs).length:=(by rw [List.length_append,hN,hm]);obtain ⟨l,hl⟩:∃ l,l=L.length:=⟨_,rfl⟩;rw [← hl] at r o hll;have r1:=r.setCell 9 (.int .i64 ((N+m:Nat):Int));rw [zGr] at r1;have o1:Only [B] ww (ww.setCell ⟨B,9,none⟩ (.int .i64 ((N+m:Nat):Int))):=Only.setCell _ ⟨B,9,none⟩ _;have oa1:=o.only o1 (fun k hk h=>hne (by obtain rfl:=List.mem_singleton.1 h;exact hk));have hc8:=r.cell (zBj _ _ _);have hc9:=r.cell (zFk _ _ _);have hf9:=r.free 9;have hrd:=hr _ o1;obtain ⟨w1,hw1⟩:∃ w1,w1=ww.setCell ⟨B,9,none⟩ (.int .i64 ((N+m:Nat):Int)):=⟨_,rfl⟩
 rw [← hw1] at r1 o1 oa1 hrd;have hBl:=r1.lt;obtain ⟨p',c',w2,hr2,o2,h2,hp⟩:=zGf (P:=Tryz.prog) (n:=l) (m:=m) (c:=c) (bytes:=1) (q:=q) (news:=u8s bs) (t:=130) (ty:=130) w1 Tryz.underlying130 infoU8s rfl oa1 hrd (by rw [jY,hm]) hq (fun v hv=>zBT hv) (by omega) (by omega) (Nat.zero_le _);have r2:=r1.only h2 hne;have hc8':=r2.cell (zBj _ _ _);have hf8':=r2.free 8;have r3:=r2.setCell 8 (.slice p' (l+m) c');rw [zDw] at r3;have hne':B ∉ blk p':=fun h=>(hp B h).elim hne (fun h=>by omega);have o3:Only [B] w2 (w2.setCell ⟨B,8,none⟩ (.slice p' (l+m) c')):=Only.setCell _ ⟨B,8,none⟩ _
 have oa3:=o2.only o3 (fun k hk h=>hne' (by obtain rfl:=List.mem_singleton.1 h;exact hk));rw [← zBi] at oa3;have ho13:Only (B :: blk p) ww (w2.setCell ⟨B,8,none⟩ (.slice p' (l+m) c')):=((o1.mono (by simp)).trans h2 (fun i hi _=>List.mem_cons_of_mem _ hi)).trans o3 (by simp)
 have hF':∀ k∈B :: blk p',k∈B :: blk p∨ww.heap.size≤k:=fun k hk=>by
  rcases List.mem_cons.1 hk with rfl | hk
  ·exact .inl (by simp)
  ·rcases hp k hk with h | h
   ·exact .inl (List.mem_cons_of_mem _ h)
   ·exact .inr (Nat.le_trans o1.size h)
 have hlen:(L ++ bs).length=l+m:=(by rw [List.length_append,hl,hm]);have Hr2:=Lib.hid hr2;have Hstart:=Lib.hid (And.intro r3 (And.intro oa3 (And.intro hne' (And.intro ho13 hF'))));have HLb:=Lib.hid hLb;have Hs0:=Lib.hid hs0;have Hlen:=Lib.hid hlen;have HNb:=Lib.hid hNb;have hc9w:IntKind.i64.wrap ((N:Int)+(m:Int))=((N+m:Nat):Int):=(by rw [IntWalk.i64_in ((N:Int)+(m:Int)) (by omega)];simp);clear r1 o1 oa1 hrd o2 h2 hp r2 r3 hne' o3 oa3 ho13 hF' hr2 hLb hs0 hlen hNb r o hne hr hL hN hjj hl hq;subst hw1
 go_enter Tryz.func80,Tryz.ntmps80
 go_wp2_with (first | (at_builtin;refine qP (s:=.tmp 17) (x:=.tmp 18) rfl rfl rfl rfl Hr2.out ?_))
 generalize w2.setCell ⟨B,8,none⟩ (.slice p' (l+m) c')=w3 at Hstart ⊢;clear hc8 hc9 hf9 hc8' hf8' Hr2 hc9w hBl;obtain ⟨M,hM⟩:∃ M,M=N+m:=⟨_,rfl⟩;have Hb:M≤1152921504606846976:=(by omega);rw [← hM] at Hstart HNb;clear hM hb;generalize L ++ bs=L1 at Hstart HLb Hlen;obtain ⟨Y,hY⟩:∃ Y,Y=xs ++ bs:=⟨_,rfl⟩;rw [← hY] at Hs0 HLb HNb;have hj':64 * j≤Y.length:=(by rw [hY,List.length_append];omega);have HY:=Lib.hid hY;clear hY hj hm;generalize l+m=l1 at Hstart Hlen;clear hll
 go_loopw [] (fun wr=>∃ (k lk:Nat) (sk:St) (Lk:List UInt8) (pk:Option Addr) (ck:Nat),64 * k≤Y.length∧Hid (Lk.length=lk)∧Hid (sk=zAX st0 k Y)∧Hid (Lk=Y.drop (64 * k))∧Hid (Row wr B 163 (hrow sk (.slice pk lk ck) M))∧Hid (yK wr 0 5 pk lk ck (u8s Lk))∧B ∉ blk pk∧Hid (Only (B :: blk p) ww wr)∧Hid (∀ x∈B :: blk pk,x∈B :: blk p∨ww.heap.size≤x)) (fun wr=>match wr.cell? ⟨B,8,none⟩ with | some (.slice _ n _)=>n | _=>0)
 case atStart=>exact ⟨j,l1,s0,L1,p',c',hj',Hlen,Hs0,HLb,Lib.hid Hstart.out.1,Lib.hid Hstart.out.2.1,Hstart.out.2.2.1,Lib.hid Hstart.out.2.2.2.1,Lib.hid Hstart.out.2.2.2.2⟩
 case round =>
  clear Hstart HLb Hs0 Hlen hj';obtain ⟨k,lk,sk,Lk,pk,ck,hk,Hlk,Hsk,HLk,R,O,hnk,Ho,HF⟩:=hrel;have hc8:=R.out.cell (zBj _ _ _)
  by_cases h64:64≤lk
  ·have hi1:(64:Int)≤(lk:Int):=(by omega);have hck:lk≤ck:=O.out.2.1;have hi2:(64:Int)≤(ck:Int):=(by omega);have hck0:ck≠0:=(by omega);obtain ⟨s1,hs1⟩:∃ s1,s1=dig sk (Lk.take 64):=⟨_,rfl⟩;have hdig:=fun w h=>zGP sk pk (Lk.take 64) ck w (by rw [List.length_take,Hlk.out];omega) h;rw [← hs1] at hdig;have Hdig:=Lib.hid hdig;have hrdk:=O.out.rd.take 64;rw [zFU] at hrdk;have Hrd:Hid (∀ w,Only [B] wr w→Rd w pk (u8s (Lk.take 64))):=Lib.hid fun w h=>hrdk.only h (fun a ha hb=>hnk (by obtain rfl:=List.mem_singleton.1 hb;rw [ha];simp [blk]))
   have Hs1:=Lib.hid hs1;clear hdig hrdk hs1;go_wp2_with fail;have hRr:∀ a,Only [B] a a:=fun a=>Only.refl _ _;have hRt:∀ a b e,Only [B] a b→Only [B] b e→Only [B] a e:=fun a b e h h2=>h.trans h2 (fun i hi _=>hi);have hRd:Only [B] wr wr.drew:=(Only.drew _).mono (by simp);have hC0:∀ i∈[13],(fun (_:Nat) (a:World)=>Row a B 163 (hrow sk (.slice pk lk ck) M)) i wr.drew:=fun _ _=>R.out.zB (Only.drew _);refine xG (Only [B]) (zDm [(13,[B])]) (fun (_:Nat) (a:World)=>Row a B 163 (hrow sk (.slice pk lk ck) M)) [13] [[(0,none)],[(0,none)],[(29,some 0)],[(30,some 0)],[(31,some 0)],[(0,none)],[(33,some 0)],[(34,some 0)],[(35,some 0)],[(36,some 0)],[(32,some 5),(37,some 0)],[(28,some 10)],[(39,some 0)],[(40,some 0),(38,some 2)]] [] [none,none,none,none,none,none,none,none,none,none,none,none,none,none,none,none,none,none,none,none,none,none,none,none,none,none,none,none,some 28,some 29,some 30,some 31,some 32,some 33,some 34,some 35,some 36,some 37,some 38,some 39,some 40,none,none,none,none,none,none,none,none] (by kernel_rfl) rfl (by kernel_rfl) hRr hRt (fun _ _=>Only.refl _ _) hRd hC0 (by kernel_rfl) (by kernel_rfl) ?_
   apply zR
   ·rintro a w hR hC ⟨(e0:_=_),-⟩;refine zA rfl fun K hK=>?_;go_simp;exact hK _ _ rfl ⟨hRr _,Only.refl _ _,fun _ _ _ _ h=>h⟩
   apply zR
   ·rintro a w hR hC ⟨(e0:_=_),-⟩;refine zA rfl fun K hK=>?_;go_simp;exact hK _ _ rfl ⟨hRr _,Only.refl _ _,fun _ _ _ _ h=>h⟩
   apply zR
   ·rintro a w hR hC ⟨(e29:_=_),-⟩;refine zA rfl fun K hK=>?_;go_simp;exact hK _ _ rfl ⟨hRr _,Only.refl _ _,fun _ _ _ _ h=>h⟩
   apply zR
   ·rintro a w hR hC ⟨(e30:_=_),-⟩;refine zA rfl fun K hK=>?_;go_simp;exact hK _ _ rfl ⟨hRr _,Only.refl _ _,fun _ _ _ _ h=>h⟩
   apply zR
   ·rintro a w hR hC ⟨(e31:_=_),-⟩;refine zA rfl fun K hK=>?_;have hC4:=hC 13 (by simp) (by kernel_rfl);have hl:=hC4.zGX (P:=Tryz.prog) (o:=0) (us:=qQ sk.l) Tryz.underlying160 infoSt (zGU _ _ _);exact zBN (x:=.tmp 31) rfl e31 hl (hK _ _ rfl ⟨hRr _,Only.refl _ _,fun _ _ _ _ h=>h⟩)
   apply zR
   ·rintro a w hR hC ⟨(e0:_=_),-⟩;refine zA rfl fun K hK=>?_;go_simp;exact hK _ _ rfl ⟨hRr _,Only.refl _ _,fun _ _ _ _ h=>h⟩
   apply zR
   ·rintro a w hR hC ⟨(e33:_=_),-⟩;refine zA rfl fun K hK=>?_;go_simp;exact hK _ _ rfl ⟨hRr _,Only.refl _ _,fun _ _ _ _ h=>h⟩
   apply zR
   ·rintro a w hR hC ⟨(e34:_=_),-⟩;refine zA rfl fun K hK=>?_;go_simp;exact hK _ _ rfl ⟨hRr _,Only.refl _ _,fun _ _ _ _ h=>h⟩
   apply zR
   ·rintro a w hR hC ⟨(e35:_=_),-⟩;refine zA rfl fun K hK=>?_;have hl:=(hC 13 (by simp) (by kernel_rfl)).cell (zBj _ _ _);go_simp;exact hK _ _ rfl ⟨hRr _,Only.refl _ _,fun _ _ _ _ h=>h⟩
   apply zR
   ·rintro a w hR hC ⟨(e36:_=_),-⟩;refine zA rfl fun K hK=>?_;go_simp;exact hK _ _ rfl ⟨hRr _,Only.refl _ _,fun _ _ _ _ h=>h⟩
   apply zR
   ·rintro a w hR hC ⟨(e32:_=_),(e37:_=_),-⟩;refine zA rfl fun K hK=>?_;go_simp;(with_reducible refine (Hdig.out w (Hrd.out w hR)).mono ?_);rintro e w' ⟨rfl,ho⟩;exact hK _ _ rfl ⟨ho.mono (by simp),ho,fun i hi hne ha h=>h.zB ho⟩
   apply zR
   ·rintro a w hR hC ⟨(e28:_=_),-⟩;refine zA rfl fun K hK=>?_;go_simp;exact hK _ _ rfl ⟨hRr _,Only.refl _ _,fun _ _ _ _ h=>h⟩
   apply zR
   ·rintro a w hR hC ⟨(e39:_=_),-⟩;refine zA rfl fun K hK=>?_;go_simp;exact hK _ _ rfl ⟨hRr _,Only.refl _ _,fun _ _ _ _ h=>h⟩
   refine ⟨fun _ a=>Row a B 163 (hrow s1 (.slice pk lk ck) M),jP (fun _ _ _ h ho=>h.zB ho) (by intro x hx hk;obtain rfl:=List.mem_singleton.1 hx;simp at hk),fun a w hR hC hf=>?_,?_⟩
   ·obtain ⟨e40,e38,-⟩:=hf;replace e40:a.tmps.getD 40 undef=_:=e40;replace e38:a.tmps.getD 38 undef=_:=e38;refine zA rfl fun K hK=>?_;have hC13:=hC 13 (by simp) (by kernel_rfl);have hst:=hC13.zID (P:=Tryz.prog) (o:=0) (ty:=160) (us:=qQ s1.l) infoSt (by rw [zEs,qM];exact (by decide:0+8≤10)) (fun u hu=>vO hu);have hoo:=Only.setCells B (qQ s1.l) 0 w;refine zBv (x:=.tmp 40) (y:=.tmp 38) rfl e40 e38 hst (hK _ _ ?_ ⟨hoo,hoo,fun i hi hne ha _=>absurd (List.mem_singleton.1 hi) hne⟩);exact (by have:=Row.setCells (qQ s1.l) 0 hC13 (by rw [zEs,qM];exact (by decide:0+8≤10));rw [zHq] at this;exact this)
   intro f3 w3 hR3 hf hz3;dsimp only [qE];obtain ⟨v13,r13⟩:=hz3 _ (List.mem_cons_self ..);have hc8':=r13.cell (zBj _ _ _);have hf8':=r13.free 8;go_wp2_with fail;have hlen3:lk=Y.length - 64 * k:=(by rw [← Hlk.out,HLk.out,List.length_drop]);have hs3:s1=zAX st0 (k+1) Y:=(by rw [Hs1.out,Hsk.out,HLk.out];exact zEn k Y (by rw [← HLk.out,Hlk.out];exact h64));have hL3:Lk.drop 64=Y.drop (64 * (k+1)):=(by rw [HLk.out];exact left_step k Y);obtain ⟨ocut,hblk⟩:=O.out.cut 64 h64 (by omega);rw [O.out.zJW 64];generalize (if ck=64 then pk else pk.map (·.add 64))=pk2 at ocut hblk ⊢
   have hnk2:B ∉ blk pk2:=(by rw [hblk];exact hnk);rw [zFZ] at ocut;have r4:=r13.setCell 8 (.slice pk2 (lk - 64) (ck - 64));rw [zDw] at r4;have oset:Only [B] w3 (w3.setCell ⟨B,8,none⟩ (.slice pk2 (lk - 64) (ck - 64))):=Only.setCell _ ⟨B,8,none⟩ _;have oo:=(hR3.trans oset (fun i hi _=>hi));have ocut2:=ocut.only oo (fun x hx h=>hnk2 (by obtain rfl:=List.mem_singleton.1 h;exact hx));refine ⟨⟨k+1,lk - 64,s1,Lk.drop 64,pk2,ck - 64,by omega,Lib.hid (by rw [List.length_drop,Hlk.out]),Lib.hid hs3,Lib.hid hL3,Lib.hid r4,Lib.hid ocut2,hnk2,Lib.hid (Ho.out.trans oo (fun i hi _=>by obtain rfl:=List.mem_singleton.1 hi;simp)),Lib.hid (by rw [hblk];exact HF.out)⟩,?_⟩
   rw [r4.cell (zBj _ _ _),hc8];show lk - 64 < lk;omega
  ·have hi1:¬ (64:Int)≤(lk:Int):=(by omega);go_wp2_with fail
   (first | go_end0 | ((try simp only [Exit.inBlock,Exit.then]);refine bodyPost_ret (results_none rfl _ _ _) rfl ?_))
   have hlen3:lk=Y.length - 64 * k:=(by rw [← Hlk.out,HLk.out,List.length_drop]);have hkk:k=Y.length / 64:=(by omega);refine ⟨rfl,B :: blk pk,?_,Ho.out,fun x hx=>by have:=HF.out x hx;simpa using this⟩;rw [← HY.out];have hr:=R.out;have ho:=O.out;rw [HNb.out,Hsk.out,← Hlk.out,HLk.out] at hr;rw [← Hlk.out,HLk.out] at ho;rw [hkk] at hr ho;exact ⟨pk,ck,rfl,hr,ho,hnk⟩
end Go.Proofs.YtfeglnpmpgipiaaGreatDoor
end
section
set_option linter.unusedVariables false
namespace Go.Proofs.YtfeglnpmpgipiaaGreatDoor
open Go.RowKit
theorem zHl (wr:World) (base:Nat) (p:Option Addr) (n c:Nat) (xs:List UInt8) (x:UInt8) (own:Own wr base 5 (.slice p n c) (u8s xs)) (hb:n+1≤140737488355328) (hbase:base≤wr.heap.size) :
  ∃ p' c' w2,Hid ((Builtin.append_ #[130,130] 130 #[.slice p n c,.slice (some ⟨wr.heap.size,0,none⟩) 1 1]).run Tryz.prog (wr.alloc (.cells #[.int .u8 (x.toNat:Int)] 5))=.ok (.slice p' (n+1) c') w2) ∧
   Own w2 base 5 (.slice p' (n+1) c') (u8s (xs ++ [x]))∧Only (blk p) wr w2:=by
 have on:=Only.alloc wr (.cells #[.int .u8 (x.toNat:Int)] 5);have rn:=Row.new wr 5 (u8s [x]);obtain ⟨p',c',w2,hr,o2,h2,hp⟩:=zAx (P:=Tryz.prog) (n:=n) (m:=1) (bytes:=1) (q:=some ⟨wr.heap.size,0,none⟩) (c:=1) (news:=u8s [x]) (t:=130) (ty:=130) _ Tryz.underlying130 infoU8s rfl (own.zB on) rn.rd0 (by rfl) (by simp) (fun v hv=>zBT hv) (by omega) (by omega) (by have:=on.size;omega);exact ⟨p',c',w2,Lib.hid hr,by rw [zBi];exact o2,(on.mono (by simp)).trans h2 (fun i hi _=>hi)⟩
theorem Own.blk {w:World} {base n c:Nat} {e:TypeId} {p:Option Addr} {vs:List Value} (o:Own w base e (.slice p n c) vs):∀ k∈blk p,base≤k:=by
 intro k hk
 cases p with
 | none=>simp [Go.Proofs.YtfeglnpmpgipiaaGreatDoor.blk] at hk
 | some a=>simp [Go.Proofs.YtfeglnpmpgipiaaGreatDoor.blk] at hk;subst hk;exact (o.lt _ rfl).1
theorem zIv (m q:Nat) (x:UInt8) (hq:q < 8) (hx:(zFr m)[q]?=some x):(m:Int) / 2 ^ (56 - 8 * q) % 256=(x.toNat:Int):=by
 have h:∀ a:Nat,(UInt8.ofNat a).toNat=a % 256:=fun a=>UInt8.toNat_ofNat'
 rcases (by omega:q=0∨q=1∨q=2∨q=3∨q=4∨q=5∨q=6∨q=7) with rfl | rfl | rfl | rfl | rfl | rfl | rfl | rfl <;>
  (simp only [zFr,List.getElem?_cons_succ,List.getElem?_cons_zero,Option.some.injEq] at hx;subst hx;rw [h];simp)
theorem zDc {P:Program} (w:World) {t e:TypeId} {n:Nat} {d:TypeDesc} (cs:Array Value) (k:IntKind) (i:Int) (v:Value) (h:P.underlying t=some (.array n e)) (he:P.underlying e=some d) (hd:(match d with | .struct _ | .array _ _=>true | _=>false)=false) (hi:(P.info? e).map (·.size)=some 1) (h1:0≤i) (h2:i < n) (hv:cs[i.toNat]?=some v) :
  (Instr.index t (.agg cs) (.int k i)).run P w=.ok v w:=by
 cases hq:P.info? e with
 | none=>simp [hq] at hi
 | some inf =>
  simp [hq] at hi
  simp only [Instr.index,asIntOf,Sem.run_bind,Sem.run_pure,Result.andThen_ok,run_underlying h,run_underlying he,part,isAgg,sizeOf,h1,h2,and_self,if_true]
  cases d <;> first | (simp at hd;done) | simp [hq,hi,hv,typeInfo]
theorem zCK {P:Program} {ops:Array Oper} {rest:List Oper} {o:Oper} {a:Act} {Q:Exit→Act→World→Prop} {w:World} {x y:Operand} {ty:TypeId} {xv yv v:Value} (hg:o.guard=none) (ho:o.op=.index ty x y) (hx:a.eval x=xv) (hy:a.eval y=yv)
  (hr:(Instr.index ty xv yv).run P w=.ok v w) (h:wpList P ops Q rest (a.put o.dst v) w):wpList P ops Q (o :: rest) a w :=
 wpList_plain hg fun K hK=>by
  unfold Oper.wp execOp;simp only [ho,hx,hy,hr,Sem.run_bind,Sem.run_pure,Result.andThen_ok];exact hK _ _ h
theorem zIk (s:St) (j:Nat) (x:UInt32) (h:s.l[j]?=some x):(zFs s)[4 * j]?=some (UInt8.ofNat (x.toNat / 16777216))∧(zFs s)[4 * j+1]?=some (UInt8.ofNat (x.toNat / 65536))∧(zFs s)[4 * j+2]?=some (UInt8.ofNat (x.toNat / 256))∧(zFs s)[4 * j+3]?=some (UInt8.ofNat x.toNat):=by
 have hj:j < 8:=(List.getElem?_eq_some_iff.1 h).1
 rcases (by omega:j=0∨j=1∨j=2∨j=3∨j=4∨j=5∨j=6∨j=7) with rfl | rfl | rfl | rfl | rfl | rfl | rfl | rfl <;>
  (obtain rfl:=Option.some.inj h;exact ⟨rfl,rfl,rfl,rfl⟩)
theorem zGA (x:UInt32):Value.int .u8 ((x.toNat:Int) / 16777216 % 256)=u8 (UInt8.ofNat (x.toNat / 16777216))∧Value.int .u8 ((x.toNat:Int) / 65536 % 256)=u8 (UInt8.ofNat (x.toNat / 65536))∧Value.int .u8 ((x.toNat:Int) / 256 % 256)=u8 (UInt8.ofNat (x.toNat / 256))∧Value.int .u8 ((x.toNat:Int) % 256)=u8 (UInt8.ofNat x.toNat):=by
 have ee:∀ n:Nat,Value.int .u8 (((n % 256:Nat)):Int)=u8 (UInt8.ofNat n):=fun n=>(by unfold u8;rw [UInt8.toNat_ofNat']);exact ⟨by rw [← ee];congr 1,by rw [← ee];congr 1,by rw [← ee];congr 1,by rw [← ee];congr 1⟩
def zBL (l:List UInt8) (j:Nat):List UInt8:=l.take j ++ List.replicate (32 - j) 0
theorem zBA (l:List UInt8) (h:l.length=32) {j:Nat} {x:UInt8} (hj:l[j]?=some x):(zBL l j).set j x=zBL l (j+1):=by
 have hjl:=(List.getElem?_eq_some_iff.1 hj).1;unfold zBL;have hlt:(l.take j).length=j:=(by rw [List.length_take];omega);rw [List.set_append_right _ _ (by omega),hlt,Nat.sub_self,List.take_add_one,hj];obtain ⟨m,hm⟩:∃ m,32 - j=m+1:=⟨31 - j,by omega⟩;rw [hm,show 32 - (j+1)=m by omega,List.replicate_succ]
 simp
theorem zFv (l:List UInt8) (h:l.length=32) (j:Nat) (hj:j≤32):(zBL l j).length=32:=by
 unfold zBL;rw [List.length_append,List.length_take,List.length_replicate];omega
end Go.Proofs.YtfeglnpmpgipiaaGreatDoor
end
section
set_option linter.unusedVariables false
namespace Go.Proofs.YtfeglnpmpgipiaaGreatDoor
open Go.RowKit
set_option maxRecDepth 100000 in
set_option maxHeartbeats 20000000 in
theorem zFV (ww:World) (F:List Nat) (B:Nat) (xs:List UInt8) (hw:Hs ww F B xs) (hb:xs.length≤1152921504606846976) :
  Calls Tryz.prog 81 #[.pointer (some ⟨B,0,none⟩)] ww fun e w'=>e=.returned (.agg (u8s (zFN xs)).toArray)∧Only [] ww w':=by
 unfold Hs at hw;obtain ⟨p,c0,rfl,r,o,hne⟩:=hw;obtain ⟨N,hN⟩:∃ N,N=xs.length:=⟨_,rfl⟩;rw [← hN] at r o hb;obtain ⟨j0,hj0⟩:∃ j0,j0=N / 64:=⟨_,rfl⟩;rw [← hj0] at r o;have hans:zFN xs=zFs (zAX st0 ((N+72) / 64) (xs ++ zBb N)):=(by rw [hN];rfl);obtain ⟨Y,hY⟩:∃ Y,Y=xs ++ zBb N:=⟨_,rfl⟩;rw [← hY] at hans;obtain ⟨A,hA⟩:∃ A,A=zFN xs:=⟨_,rfl⟩;rw [← hA] at hans ⊢;clear hA;obtain ⟨L,hL⟩:∃ L,L=xs.drop (64 * j0):=⟨_,rfl⟩;rw [← hL] at r o;obtain ⟨s0,hs0⟩:∃ s,s=zAX st0 j0 Y:=⟨_,rfl⟩;rw [show zAX st0 j0 xs=s0 by rw [hs0,hY,zDI _ _ _ _ (by omega)]] at r
 have hLY:L ++ zBb N=Y.drop (64 * j0):=(by rw [hL,hY,List.drop_append_of_le_length (by omega)]);obtain ⟨l,hl⟩:∃ l,l=L.length:=⟨_,rfl⟩;have hll:l=N % 64:=(by rw [hl,hL,List.length_drop];omega);rw [← hl] at r o;have hYl:Y.length=N+(zBb N).length:=(by rw [hY,List.length_append,hN]);obtain ⟨ht1,ht2⟩:=zHz N;rw [← hYl] at ht1 ht2;have hBl:=r.lt;have hBne:B≠ww.heap.size:=(by omega);have hc8:=r.cell (zBj _ _ _);have hc9:=r.cell (zFk _ _ _);have R:=Lib.hid r;have O:=Lib.hid o;have Hans:=Lib.hid hans;have Hs0:=Lib.hid hs0;have HLY:=Lib.hid hLY
 have Hj0:=Lib.hid hj0;have Hl:=Lib.hid hl;have Hll:=Lib.hid hll;have Ht1:=Lib.hid ht1;have Ht2:=Lib.hid ht2;have HN:=Lib.hid hN;clear r o hans hs0 hLY hj0 hl hll ht1 ht2 hYl hY hL hN;have hlN:l < 64:=(by rw [Hll.out];omega);obtain ⟨w0,hw0⟩:∃ w0,w0=ww.alloc (.cells (u8s (List.replicate 32 0)).toArray 131):=⟨_,rfl⟩;have ho0:Only [] ww w0:=(by rw [hw0];exact Only.alloc _ _);obtain ⟨p1,c1,w1,hr1,o1,h1,hp1⟩:=zAx (P:=Tryz.prog) (n:=0) (m:=l) (c:=c0) (bytes:=1) (q:=p) (news:=u8s L) (t:=130) (ty:=130) w0 Tryz.underlying130 infoU8s rfl (Own.nil w0 (ww.heap.size+1) _) (O.out.rd.zB ho0) (by rw [jY,Hl.out]) O.out.zJg (fun v hv=>zBT hv) (by omega) (by omega) (by rw [hw0];simp)
 rw [Nat.zero_add] at hr1 o1;rw [List.nil_append] at o1;have ho1:Only [] ww w1:=ho0.zC h1;obtain ⟨p2,c2,w2,Hr2,o2,h2⟩:=zHl w1 (ww.heap.size+1) p1 l c1 L 128 o1 (by omega) (by have:=h1.size;rw [hw0] at this;simp at this;omega);have ho2:Only [] ww w2:=ho1.zY h2 (fun k hk=>by have:=o1.blk k hk;omega);have Hr1:=Lib.hid hr1
 have rz:Row w2 ww.heap.size 131 (u8s (List.replicate 32 0)):=by
  have hne1:ww.heap.size ∉ blk p1:=fun h=>(by have:=o1.blk _ h;omega);have h0:Row w0 ww.heap.size 131 (u8s (List.replicate 32 0)):=(by rw [hw0];exact Row.new _ _ _);exact (h0.zB h1).only h2 hne1
 clear hr1 h1 hp1 h2 ho1 ho0;subst hw0
 go_enter Tryz.func81,Tryz.ntmps81
 go_wp2_with (first | (at_builtin;refine qP (s:=.const (.slice none 0 0)) (x:=.tmp 13) rfl rfl rfl rfl Hr1.out ?_) | (at_builtin;refine qP (s:=.tmp 15) (x:=.tmp 16) rfl rfl rfl rfl Hr2.out ?_))
 have O2:=Lib.hid (o2);have Rz:=Lib.hid rz;have Ho2:=Lib.hid ho2;have hBz:B≠ww.heap.size:=(by omega);clear Hr1 Hr2 O rz o2 ho2 o1 hne hc8 hc9;obtain ⟨zz,hzz⟩:∃ zz,zz=zeros N:=⟨_,rfl⟩;have hz1:0+(120 - (l+1+0) % 64) % 64=zz:=(by rw [hzz,Hll.out];unfold zeros;omega);have Hzz:=Lib.hid hzz;clear hzz
 go_loopw [3] (fun v wr=>∃ (k:Nat) (p:Option Addr) (c:Nat),v=.slice p (l+1+k) c∧Hid (k+(120 - (l+1+k) % 64) % 64=zz)∧Hid (Own wr (ww.heap.size+1) 5 (.slice p (l+1+k) c) (u8s (L ++ [128] ++ List.replicate k 0)))∧Hid (Row wr ww.heap.size 131 (u8s (List.replicate 32 0)))∧Hid (Only [] ww wr)) (fun v _=>match v with | .slice _ n _=>(120 - n % 64) % 64 | _=>0)
 case atStart=>exact ⟨0,p2,c2,rfl,Lib.hid hz1,Lib.hid (by simpa using O2.out),Rz,Ho2⟩
 case round =>
  clear Rz Ho2 O2 hz1;obtain ⟨k,p,c,rfl,hk,O,Rz,Ho⟩:=hrel;have hkz:k≤zz:=(by have:=hk.out;omega);have hzl:zz < 64:=by rw [Hzz.out];unfold zeros;omega
  by_cases h56:(l+1+k) % 64=56
  ·have hd:(((l:Int)+1+(k:Int)) % 64 != 56)=false:=by
    have:((l:Int)+1+(k:Int)) % 64=56:=(by omega);rw [this];rfl
   obtain rfl:k=zz:=(by have:=hk.out;omega);have hc9:=Ho.out.cell (R.out.cell (zFk _ _ _)) (by simp);have hu1:IntKind.u64.wrap (N:Int)=(N:Int):=(by simp [IntKind.wrap,IntKind.bits,IntKind.signed];omega);obtain ⟨M,hM⟩:∃ M,M=8 * N:=⟨_,rfl⟩;have hu2:IntKind.u64.wrap ((N:Int) * 8)=(M:Int):=(by simp [IntKind.wrap,IntKind.bits,IntKind.signed];omega);have hMb:M < 18446744073709551616:=(by omega);have HM:=Lib.hid hM;clear hM hk;go_wp2_with fail
   have hE:L ++ [128] ++ List.replicate k 0 ++ zFr M=Y.drop (64 * j0):=by
    rw [← HLY.out,HM.out];unfold zBb;rw [← Hzz.out];simp
   have hlE:(L ++ [128] ++ List.replicate k 0).length=l+1+k:=(by simp [← Hl.out];omega);generalize L ++ [128] ++ List.replicate k 0=E at O hE hlE;obtain ⟨e,he⟩:∃ e,e=l+1+k:=⟨_,rfl⟩;rw [← he] at O hlE ⊢;have hel:e≤200:=(by omega);have HE:=Lib.hid hE;have HlE:=Lib.hid hlE;have hBt:(zFr M).length=8:=rfl;obtain ⟨T,hT⟩:∃ T,T=zFr M:=⟨_,rfl⟩;rw [← hT] at hBt HE;have HT:=Lib.hid hT;have He:=Lib.hid he;have HBt:=Lib.hid hBt;clear hE hlE hT he hBt hu1 hu2 hc9
   go_loopw [3,5] (fun v i wr=>∃ (q:Nat) (p:Option Addr) (c:Nat),v=.slice p (e+q) c∧i=.int .i64 (56 - 8 * (q:Int))∧q≤8∧Hid (Own wr (ww.heap.size+1) 5 (.slice p (e+q) c) (u8s (E ++ T.take q)))∧Hid (Row wr ww.heap.size 131 (u8s (List.replicate 32 0)))∧Hid (Only [] ww wr)) (fun v i _=>(intOf i+8).toNat)
   case atStart=>exact ⟨0,p,c,rfl,rfl,by omega,Lib.hid (by simpa using O.out),Rz,Ho⟩
   case round =>
    clear O Rz Ho;obtain ⟨q,p,c,rfl,rfl,hq,O,Rz,Ho⟩:=hrel
    by_cases hq8:q < 8
    ·obtain ⟨x,hx⟩:∃ x,T[q]?=some x:=⟨_,List.getElem?_eq_getElem (by rw [HBt.out];exact hq8)⟩;obtain ⟨p',c',w2,Hr,O',h'⟩:=zHl wr (ww.heap.size+1) p (e+q) c _ x O.out (by omega) Rz.out.lt;have hno:∀ k∈blk p,ww.heap.size+1≤k:=O.out.blk;have O':=Lib.hid O';have hzb:ww.heap.size ∉ blk p:=fun h=>(by have:=hno _ h;omega);have rz':=Rz.out.only h' hzb;have hi1:(0:Int)≤56 - 8 * (q:Int):=(by omega);have hxv:(M:Int) / 2 ^ (56 - 8 * q) % 256=(x.toNat:Int):=zIv M q x hq8 (by rw [← HT.out];exact hx);have Hx:=Lib.hid hx;clear hx
     go_wp2_with (first | (at_builtin;refine qP (s:=.tmp 35) (x:=.tmp 40) rfl rfl rfl rfl Hr.out ?_))
     refine ⟨⟨q+1,p',c',by rw [Nat.add_assoc e],by congr 1;omega,by omega,Lib.hid ?_,Lib.hid rz',Lib.hid (Ho.out.zY h' (fun k hk=>by have:=hno k hk;omega))⟩,by simp [intOf];omega⟩;rw [List.take_add_one,Hx.out,← Nat.add_assoc,← List.append_assoc];exact O'.out
    ·obtain rfl:q=8:=(by omega);have rS:=R.out.zB Ho.out;have hld:=rS.zGX (P:=Tryz.prog) (o:=0) (us:=qQ s0.l) Tryz.underlying160 infoSt (zGU _ _ _);obtain ⟨W1,hW1⟩:∃ W1,W1=wr.alloc (.cells (List.replicate 8 (Value.int .u32 0)).toArray 160):=⟨_,rfl⟩;have oW1:Only [] wr W1:=(by rw [hW1];exact Only.alloc _ _);have r6:Row W1 wr.heap.size 160 (List.replicate 8 (Value.int .u32 0)):=(by rw [hW1];exact Row.new _ _ _);have hst:=r6.storeAt (P:=Tryz.prog) (ty:=160) (us:=qQ s0.l) (by rw [qM];exact infoSt) (by rw [qM];rfl) (fun u hu=>vO hu)
     have r6':=r6.setRow (qQ s0.l);have oW2:Only [wr.heap.size] W1 (W1.setRow wr.heap.size (qQ s0.l).toArray):=Only.setRow _ _ _;have hsz:=Rz.out.lt;have hpl:=O.out.lt
     have hg6:wr.heap.size ∉ blk p:=by
      cases p with
      | none=>simp [blk]
      | some a=>simp [blk];have:=(hpl _ rfl).2;omega
     have rz2:=(Rz.out.zB oW1).only oW2 (by simp;omega);have oA:=((yK.zJk O.out).zB oW1).only oW2 (fun k hk h=>hg6 (by obtain rfl:=List.mem_singleton.1 h;exact hk));have ho2:=(Ho.out.zC oW1).zY oW2 (by have:=Ho.out.size;simpa using this);have e2:E ++ T.take 8=Y.drop (64 * j0):=(by rw [List.take_of_length_le (by rw [HBt.out];exact Nat.le_refl _)];exact HE.out);rw [e2] at oA;have hg0:ww.heap.size < wr.heap.size:=hsz;have Hst:=Lib.hid hst;have Hld:=Lib.hid hld;have H0:=Lib.hid (And.intro r6' (And.intro oA (And.intro rz2 ho2)));clear hst hld rS r6 r6' oW1 oW2 hsz hpl rz2 oA ho2 e2 O Rz Ho
     subst hW1
     go_wp2_with (first | ((with_reducible show wpList _ _ _ _ _ _);refine jG (ty:=160) (x:=.tmp 44) rfl rfl rfl Hld.out ?_) | ((with_reducible show wpList _ _ _ _ _ _);refine jO (ty:=160) (x:=.tmp 6) (y:=.tmp 45) rfl rfl rfl rfl Hst.out ?_))
     dsimp only [Act.put];clear Hst Hld;generalize (wr.alloc (.cells (List.replicate 8 (Value.int .u32 0)).toArray 160)).setRow wr.heap.size (qQ s0.l).toArray=w4 at H0 ⊢;generalize wr.heap.size=g6 at H0 hg6 hg0 ⊢
     have hj0l:64 * j0≤Y.length:=by
      have h1:=Ht2.out;have h2:=Ht1.out;have h3:=Hj0.out;omega
     have hL0:(Y.drop (64 * j0)).length=e+8:=by rw [← HE.out,List.length_append,HlE.out,HBt.out]
     have hL1:(e+8) % 64=0:=by
      rw [List.length_drop] at hL0;have h2:=Ht1.out;omega
     have HL0:=Lib.hid hL0;have HL1:=Lib.hid hL1;clear hL0 hL1
     go_loopw [3] (fun v wr=>∃ (k lk:Nat) (sk:St) (Lk:List UInt8) (pk:Option Addr) (ck:Nat),v=.slice pk lk ck∧64 * k≤Y.length∧Hid (Lk.length=lk)∧Hid (lk % 64=0)∧Hid (sk=zAX st0 k Y)∧Hid (Lk=Y.drop (64 * k))∧Hid (Row wr g6 160 (qQ sk.l))∧Hid (yK wr (ww.heap.size+1) 5 pk lk ck (u8s Lk))∧g6 ∉ blk pk∧Hid (Row wr ww.heap.size 131 (u8s (List.replicate 32 0)))∧Hid (Only [] ww wr)) (fun v _=>match v with | .slice _ n _=>n | _=>0)
     case atStart=>exact ⟨j0,e+8,s0,Y.drop (64 * j0),p,c,rfl,hj0l,HL0,HL1,Hs0,Lib.hid rfl,Lib.hid H0.out.1,Lib.hid H0.out.2.1,hg6,Lib.hid H0.out.2.2.1,Lib.hid H0.out.2.2.2⟩
     case round =>
      clear H0 HL0 HL1 hj0l hg6 hel HE HlE HT He HBt;obtain ⟨k,lk,sk,Lk,pk,ck,rfl,hk,Hlk,Hlm,Hsk,HLk,R6,O,hnk,Rz,Ho⟩:=hrel
      by_cases h64:0 < lk
      ·have h64':64≤lk:=(by have:=Hlm.out;omega);have hi1:(0:Int) < (lk:Int):=(by omega);have hi2:(64:Int)≤(lk:Int):=(by omega);have hck:lk≤ck:=O.out.2.1;have hi3:(64:Int)≤(ck:Int):=(by omega);have hck0:ck≠0:=(by omega);obtain ⟨s1,hs1⟩:∃ s1,s1=dig sk (Lk.take 64):=⟨_,rfl⟩;have hdig:=fun w h=>zGP sk pk (Lk.take 64) ck w (by rw [List.length_take,Hlk.out];omega) h;rw [← hs1] at hdig;have Hdig:=Lib.hid hdig;have hrdk:=O.out.rd.take 64;rw [zFU] at hrdk;have Hrd:Hid (∀ w,Only [g6] wr w→Rd w pk (u8s (Lk.take 64))):=Lib.hid fun w h=>hrdk.only h (fun a ha hb=>hnk (by obtain rfl:=List.mem_singleton.1 hb;rw [ha];simp [blk]))
       have Hs1:=Lib.hid hs1;clear hdig hrdk hs1;go_wp2_with fail;have hRr:∀ a,Only [g6] a a:=fun a=>Only.refl _ _;have hRt:∀ a b e,Only [g6] a b→Only [g6] b e→Only [g6] a e:=fun a b e h h2=>h.trans h2 (fun i hi _=>hi);have hRd:Only [g6] wr wr.drew:=(Only.drew _).mono (by simp);have hC0:∀ i∈[4],(fun (_:Nat) (a:World)=>Row a g6 160 (qQ sk.l)) i wr.drew:=fun _ _=>R6.out.zB (Only.drew _);refine xG (Only [g6]) (zDm [(4,[g6])]) (fun (_:Nat) (a:World)=>Row a g6 160 (qQ sk.l)) [4] [[(6,none)],[(3,none)],[(52,some 0)],[(51,some 2),(53,some 0)],[(6,none),(54,some 0)]] [] [none,none,none,none,none,none,none,none,none,none,none,none,none,none,none,none,none,none,none,none,none,none,none,none,none,none,none,none,none,none,none,none,none,none,none,none,none,none,none,none,none,none,none,none,none,none,none,none,none,none,none,some 51,some 52,some 53,some 54,none,none,none,none,none,none,none,none,none,none,none,none,none,none,none,none,none,none,none,none,none,none,none,none,none,none,none,none,none,none,none,none,none] (by kernel_rfl) rfl (by kernel_rfl) hRr hRt (fun _ _=>Only.refl _ _) hRd hC0 (by kernel_rfl) (by kernel_rfl) ?_
       apply zR
       ·rintro a w hR hC ⟨(e6:_=_),-⟩;refine zA rfl fun K hK=>?_;have hl:=(hC 4 (by simp) (by kernel_rfl)).loadAt (P:=Tryz.prog) Tryz.underlying160 (by rw [qM];exact infoSt);exact zBN (x:=.tmp 6) rfl e6 hl (hK _ _ rfl ⟨hRr _,Only.refl _ _,fun _ _ _ _ h=>h⟩)
       apply zR
       ·rintro a w hR hC ⟨(e3:_=_),-⟩;refine zA rfl fun K hK=>?_;go_simp;exact hK _ _ rfl ⟨hRr _,Only.refl _ _,fun _ _ _ _ h=>h⟩
       apply zR
       ·rintro a w hR hC ⟨(e52:_=_),-⟩;refine zA rfl fun K hK=>?_;go_simp;exact hK _ _ rfl ⟨hRr _,Only.refl _ _,fun _ _ _ _ h=>h⟩
       apply zR
       ·rintro a w hR hC ⟨(e51:_=_),(e53:_=_),-⟩;refine zA rfl fun K hK=>?_;go_simp;(with_reducible refine (Hdig.out w (Hrd.out w hR)).mono ?_);rintro e w' ⟨rfl,ho⟩;exact hK _ _ rfl ⟨ho.mono (by simp),ho,fun i hi hne ha h=>h.zB ho⟩
       refine ⟨fun _ a=>Row a g6 160 (qQ s1.l),jP (fun _ _ _ h ho=>h.zB ho) (by intro x hx hk;obtain rfl:=List.mem_singleton.1 hx;simp at hk),fun a w hR hC hf=>?_,?_⟩
       ·obtain ⟨e6,e54,-⟩:=hf;replace e6:a.tmps.getD 6 undef=_:=e6;replace e54:a.tmps.getD 54 undef=_:=e54;refine zA rfl fun K hK=>?_;have hC4:=hC 4 (by simp) (by kernel_rfl);have hst:=hC4.storeAt (P:=Tryz.prog) (ty:=160) (us:=qQ s1.l) (by rw [qM];exact infoSt) (by rw [qM,qM];rfl) (fun u hu=>vO hu);have hoo:Only [g6] w (w.setRow g6 (qQ s1.l).toArray):=Only.setRow _ _ _;refine zBv (x:=.tmp 6) (y:=.tmp 54) rfl e6 e54 hst (hK _ _ ?_ ⟨hoo,hoo,fun i hi hne ha _=>absurd (List.mem_singleton.1 hi) hne⟩);exact hC4.setRow _
       intro f13 w13 hR13 hf hz13;dsimp only [qE];obtain ⟨v4,r4⟩:=hz13 _ (List.mem_cons_self ..);go_wp2_with fail;have hlen3:lk=Y.length - 64 * k:=(by rw [← Hlk.out,HLk.out,List.length_drop]);have hs3:s1=zAX st0 (k+1) Y:=(by rw [Hs1.out,Hsk.out,HLk.out];exact zEn k Y (by rw [← HLk.out,Hlk.out];exact h64'));have hL3:Lk.drop 64=Y.drop (64 * (k+1)):=(by rw [HLk.out];exact left_step k Y);obtain ⟨ocut,hblk⟩:=O.out.cut 64 h64' (by omega);rw [O.out.zJW 64];generalize (if ck=64 then pk else pk.map (·.add 64))=pk2 at ocut hblk ⊢;have hnk2:g6 ∉ blk pk2:=by rw [hblk];exact hnk
       rw [zFZ] at ocut;have ocut2:=ocut.only hR13 (fun x hx h=>hnk2 (by obtain rfl:=List.mem_singleton.1 h;exact hx));refine ⟨⟨k+1,lk - 64,s1,Lk.drop 64,pk2,ck - 64,rfl,by omega,Lib.hid (by rw [List.length_drop,Hlk.out]),Lib.hid (by have:=Hlm.out;omega),Lib.hid hs3,Lib.hid hL3,Lib.hid r4,Lib.hid ocut2,hnk2,Lib.hid (Rz.out.only hR13 (by simp;omega)),Lib.hid (Ho.out.zY hR13 (by simp;omega))⟩,?_⟩;show lk - 64 < lk;omega
      ·obtain rfl:lk=0:=(by omega);have hlen3:0=Y.length - 64 * k:=(by rw [← Hlk.out,HLk.out,List.length_drop]);have hkk:k=(N+72) / 64:=(by have:=Ht2.out;omega);have hans:A=zFs sk:=(by rw [Hans.out,Hsk.out,hkk]);obtain ⟨W1,hW1⟩:∃ W1,W1=wr.alloc (.cells #[.int .u8 0,.int .u8 0,.int .u8 0,.int .u8 0,.int .u8 0,.int .u8 0,.int .u8 0,.int .u8 0,.int .u8 0,.int .u8 0,.int .u8 0,.int .u8 0,.int .u8 0,.int .u8 0,.int .u8 0,.int .u8 0,.int .u8 0,.int .u8 0,.int .u8 0,.int .u8 0,.int .u8 0,.int .u8 0,.int .u8 0,.int .u8 0,.int .u8 0,.int .u8 0,.int .u8 0,.int .u8 0,.int .u8 0,.int .u8 0,.int .u8 0,.int .u8 0] 131):=⟨_,rfl⟩
       have oW1:Only [] wr W1:=(by rw [hW1];exact Only.alloc _ _);have r7:Row W1 wr.heap.size 131 (u8s (List.replicate 32 0)):=(by rw [hW1];exact Row.zV _ _ _ _ (by rfl));have hld:=(R6.out.zB oW1).loadAt (P:=Tryz.prog) Tryz.underlying160 (by rw [qM];exact infoSt);have hzg:ww.heap.size < wr.heap.size:=Rz.out.lt;have rz1:=Rz.out.zB oW1;have ho1:=Ho.out.zC oW1;have H0:=Lib.hid (And.intro r7 (And.intro rz1 ho1));have HA:=Lib.hid hans;have Hld:=Lib.hid hld;clear hld rz1 ho1 r7 oW1 hans hkk hlen3 hnk O Rz Ho R6 Hlk HLk Hsk Hlm;subst hW1
       go_wp2_with (first | ((with_reducible show wpList _ _ _ _ _ _);refine jG (ty:=160) (x:=.tmp 6) rfl rfl rfl Hld.out ?_))
       clear Hld;generalize wr.alloc (.cells #[.int .u8 0,.int .u8 0,.int .u8 0,.int .u8 0,.int .u8 0,.int .u8 0,.int .u8 0,.int .u8 0,.int .u8 0,.int .u8 0,.int .u8 0,.int .u8 0,.int .u8 0,.int .u8 0,.int .u8 0,.int .u8 0,.int .u8 0,.int .u8 0,.int .u8 0,.int .u8 0,.int .u8 0,.int .u8 0,.int .u8 0,.int .u8 0,.int .u8 0,.int .u8 0,.int .u8 0,.int .u8 0,.int .u8 0,.int .u8 0,.int .u8 0,.int .u8 0] 131)=w4 at H0 ⊢;generalize wr.heap.size=g7 at H0 hzg ⊢;have HlA:Hid (A.length=32):=Lib.hid (by rw [HA.out];rfl);obtain ⟨Z,hZ⟩:∃ Z,Z=List.replicate 32 (0:UInt8):=⟨_,rfl⟩
       rw [← hZ] at H0;have HZ:Hid (Z=List.replicate 32 (0:UInt8)):=Lib.hid hZ;clear hZ
       go_loopw [56] (fun i wr=>∃ (j:Nat),i=.int .i64 (j:Int)∧j≤8∧Hid (Row wr g7 131 (u8s (zBL A (4 * j))))∧Hid (Row wr ww.heap.size 131 (u8s Z))∧Hid (Only [] ww wr)) (fun i _=>8 - (intOf i).toNat)
       case atStart=>exact ⟨0,rfl,by omega,Lib.hid (by have:=H0.out.1;rw [HZ.out] at this;exact this),Lib.hid H0.out.2.1,Lib.hid H0.out.2.2⟩
       case round =>
        clear H0;obtain ⟨j,rfl,hj,R7,Rz,Ho⟩:=hrel
        by_cases hlt:j < 8
        ·obtain ⟨x,hx⟩:∃ x,sk.l[j]?=some x:=⟨_,List.getElem?_eq_getElem hlt⟩;obtain ⟨hb0,hb1,hb2,hb3⟩:=zIk sk j x hx;rw [← HA.out] at hb0 hb1 hb2 hb3;have hgx:(qQ sk.l)[j]?=some (.int .u32 (x.toNat:Int)):=jW hx;have hji:(j:Int) < 8:=(by omega);have hlF:=zFv A HlA.out (4 * j) (by omega);have hcell:∀ i,i < 32→∃ v,wr.cell? ⟨g7,i,none⟩=some v:=fun i hi=>⟨_,R7.out.cell (List.getElem?_eq_getElem (by rw [jY,hlF];exact hi))⟩;obtain ⟨v0,hc0⟩:=hcell (4 * j) (by omega);obtain ⟨v1,hc1⟩:=hcell (4 * j+1) (by omega);obtain ⟨v2,hc2⟩:=hcell (4 * j+2) (by omega)
         obtain ⟨v3,hc3⟩:=hcell (4 * j+3) (by omega);have hf0:=R7.out.free (4 * j);have hf1:=R7.out.free (4 * j+1);have hf2:=R7.out.free (4 * j+2);have hf3:=R7.out.free (4 * j+3);have ha0:(0:Int)≤4 * (j:Int):=(by omega);have hz0:4 * (j:Int) < 32:=(by omega);have ht0:(4 * (j:Int)).toNat=4 * j:=(by omega);have ha1:(0:Int)≤4 * (j:Int)+1:=(by omega);have hz1:4 * (j:Int)+1 < 32:=(by omega);have ht1:(4 * (j:Int)+1).toNat=4 * j+1:=(by omega);have ha2:(0:Int)≤4 * (j:Int)+2:=(by omega);have hz2:4 * (j:Int)+2 < 32:=by omega
         have ht2:(4 * (j:Int)+2).toNat=4 * j+2:=(by omega);have ha3:(0:Int)≤4 * (j:Int)+3:=(by omega);have hz3:4 * (j:Int)+3 < 32:=(by omega);have ht3:(4 * (j:Int)+3).toNat=4 * j+3:=(by omega);clear hcell hlF;have hidx:=zDc (P:=Tryz.prog) wr (t:=160) (e:=158) (qQ sk.l).toArray .i64 (j:Int) _ Tryz.underlying160 Tryz.underlying158 rfl (by kernel_rfl) (by omega) hji (by simpa using hgx);have Hidx:=Lib.hid hidx;clear hx hidx hgx
         go_wp2_with (first | ((with_reducible show wpList _ _ _ _ _ _);refine zCK (ty:=160) (x:=.tmp 55) (y:=.tmp 56) rfl rfl rfl rfl Hidx.out ?_))
         obtain ⟨e0,e1,e2,e3⟩:=zGA x;rw [e0,e1,e2,e3];have r0:=R7.out.setCell (4 * j) (Go.Proofs.YtfeglnpmpgipiaaGreatDoor.u8 (UInt8.ofNat (x.toNat / 16777216)));rw [zCk,zBA A HlA.out hb0] at r0;have r1:=r0.setCell (4 * j+1) (Go.Proofs.YtfeglnpmpgipiaaGreatDoor.u8 (UInt8.ofNat (x.toNat / 65536)));rw [zCk,zBA A HlA.out hb1] at r1;have r2:=r1.setCell (4 * j+2) (Go.Proofs.YtfeglnpmpgipiaaGreatDoor.u8 (UInt8.ofNat (x.toNat / 256)));rw [zCk,zBA A HlA.out hb2] at r2;have r3:=r2.setCell (4 * j+3) (Go.Proofs.YtfeglnpmpgipiaaGreatDoor.u8 (UInt8.ofNat x.toNat))
         rw [zCk,zBA A HlA.out hb3] at r3
         have o:Only [g7] wr (World.setCell (World.setCell (World.setCell (World.setCell wr ⟨g7,4 * j,none⟩ (Go.Proofs.YtfeglnpmpgipiaaGreatDoor.u8 (UInt8.ofNat (x.toNat / 16777216)))) ⟨g7,4 * j+1,none⟩ (Go.Proofs.YtfeglnpmpgipiaaGreatDoor.u8 (UInt8.ofNat (x.toNat / 65536)))) ⟨g7,4 * j+2,none⟩ (Go.Proofs.YtfeglnpmpgipiaaGreatDoor.u8 (UInt8.ofNat (x.toNat / 256)))) ⟨g7,4 * j+3,none⟩ (Go.Proofs.YtfeglnpmpgipiaaGreatDoor.u8 (UInt8.ofNat x.toNat))) :=
          (((Only.setCell wr ⟨g7,4 * j,none⟩ _).trans (Only.setCell _ ⟨g7,4 * j+1,none⟩ _) (fun i hi _=>hi)).trans (Only.setCell _ ⟨g7,4 * j+2,none⟩ _) (fun i hi _=>hi)).trans (Only.setCell _ ⟨g7,4 * j+3,none⟩ _) (fun i hi _=>hi)
         refine ⟨⟨j+1,by go_num,by omega,Lib.hid r3,Lib.hid (Rz.out.only o (by simp;omega)),Lib.hid (Ho.out.zY o (by simp;omega))⟩,by simp [intOf];omega⟩
        ·obtain rfl:j=8:=(by omega);have r7:=R7.out;have hfull:zBL A (4 * 8)=A:=(by unfold zBL;rw [List.take_of_length_le (by rw [HlA.out];exact Nat.le_refl _)];simp);rw [hfull] at r7;have hsz:(Tryz.prog.info? 131).map (·.size)=some (u8s A).length:=(by rw [jY,HlA.out];kernel_rfl);have hld:=r7.loadAt (P:=Tryz.prog) Tryz.underlying131 hsz;have hst:=Rz.out.storeAt (P:=Tryz.prog) hsz (by rw [jY,jY,HlA.out,HZ.out];simp) (fun u hu=>zBT hu);have hrow:=Rz.out.setRow (u8s A);have hos:Only [ww.heap.size] wr (wr.setRow ww.heap.size (u8s A).toArray):=Only.setRow _ _ _
         have Hrow:=Lib.hid hrow;have Hld:=Lib.hid hld;have Hst:=Lib.hid hst;have Hsz:=Lib.hid hsz;clear hld hst hfull hsz hrow r7 Rz R7
         go_wp2_with (first | ((with_reducible show wpList _ _ _ _ _ _);refine jG (ty:=131) (x:=.tmp 7) rfl rfl rfl Hld.out ?_) | ((with_reducible show wpList _ _ _ _ _ _);refine jO (ty:=131) (x:=.tmp 2) (y:=.tmp 87) rfl rfl rfl rfl Hst.out ?_))
         refine bodyPost_ret (results_cell_row (p:=2) rfl _ _ ww.heap.size 131 (u8s A).toArray (0,0) _ (by rfl) Hrow.out Tryz.underlying131 rfl (by rw [List.size_toArray];exact Hsz.out)) (by rfl) ?_;exact ⟨rfl,Ho.out.zY hos (by simp)⟩
  ·have hd:(((l:Int)+1+(k:Int)) % 64 != 56)=true:=by
    have:((l:Int)+1+(k:Int)) % 64≠56:=by omega
    simpa using this
   obtain ⟨p',c',w2,Hr,O',h'⟩:=zHl wr (ww.heap.size+1) p (l+1+k) c _ 0 O.out (by omega) Rz.out.lt;have hno:∀ k∈blk p,ww.heap.size+1≤k:=O.out.blk;have O':=Lib.hid O';have hzb:ww.heap.size ∉ blk p:=fun h=>(by have:=hno _ h;omega);have rz':=Rz.out.only h' hzb
   go_wp2_with (first | (at_builtin;refine qP (s:=.tmp 22) (x:=.tmp 23) rfl rfl rfl rfl Hr.out ?_))
   go_roundw
   case rel=>exact ⟨k+1,p',c',by rw [Nat.add_assoc (l+1)],Lib.hid (by have:=hk.out;omega),Lib.hid (by rw [← Nat.add_assoc,List.replicate_succ'];rw [← List.append_assoc];exact O'.out),Lib.hid rz',Lib.hid (Ho.out.zY h' (fun k hk=>by have:=hno k hk;omega))⟩
   case measure=>simp;omega
end Go.Proofs.YtfeglnpmpgipiaaGreatDoor
end
section
set_option linter.unusedVariables false
namespace Go.Proofs.YtfeglnpmpgipiaaGreatDoor
open Go.RowKit
end Go.Proofs.YtfeglnpmpgipiaaGreatDoor
end
end
namespace Go.Proofs.YtfeglnpmpgipiaaGreatDoor
end Go.Proofs.YtfeglnpmpgipiaaGreatDoor
