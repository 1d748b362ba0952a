/- CatPk, part 11: CatMem, CloneW, CatOwn, Forms10, PieceW, CopyObW, GoodBuckW, GoodKeyW, IdSet, CmpW, ShelfCmpW, CmpW2, FindBkW, FindIdW, FindObW, Eqs. -/
import Derived.Test.YtfeglnpmpgipiaaGreatDoorCatPk01
import Derived.Test.YtfeglnpmpgipiaaGreatDoorCatPk04
import Derived.Test.YtfeglnpmpgipiaaGreatDoorCatPk05
import Derived.Test.YtfeglnpmpgipiaaGreatDoorCatPk06
import Derived.Test.YtfeglnpmpgipiaaGreatDoorCatPk07
import Derived.Test.YtfeglnpmpgipiaaGreatDoorCatPk08
import Derived.Test.YtfeglnpmpgipiaaGreatDoorCatPk09
import Derived.Test.YtfeglnpmpgipiaaGreatDoorCatPk10
import Derived.Test.YtfeglnpmpgipiaaGreatDoorProg
import Derived.Deep.DeepCutAuto
import Derived.Deep.Cut
import Derived.Laws.IdiomStrings
import Derived.RangeFuncNested
import Derived.RangeFuncBound
import Derived.RangeFuncCalls
import Derived.RangeFuncLeaves
import Derived.TacticsInMore
import Derived.OwnWalkIn
import Derived.LoopNIn
import Derived.LoopIn
import Derived.Shelf.Abstract
import Derived.MapKept
import Derived.Laws.StructEq
set_option linter.unusedVariables false
set_option maxRecDepth 100000
set_option linter.unusedSimpArgs false
namespace Go.Proofs.YtfeglnpmpgipiaaGreatDoor
section
open Go.RowKit
def idCells (a:Cid):List Value:=[.int .i64 a.node,.int .i64 a.boot,.int .i64 a.seq]
def idV (a:Cid):Value:=.agg #[.int .i64 a.node,.int .i64 a.boot,.int .i64 a.seq]
def pcCells (p:Pc):List Value:=[.int .i64 p.blob.node,.int .i64 p.blob.boot,.int .i64 p.blob.seq,.int .i64 p.size,.string (str p.etag)]
def pcV (p:Pc):Value:=.agg #[.int .i64 p.blob.node,.int .i64 p.blob.boot,.int .i64 p.blob.seq,.int .i64 p.size,.string (str p.etag)]
def ptCells (p:CPart):List Value:=[.int .i64 p.num,.int .i64 p.pc.blob.node,.int .i64 p.pc.blob.boot,.int .i64 p.pc.blob.seq,.int .i64 p.pc.size,.string (str p.pc.etag)]
def ptV (p:CPart):Value:=.agg #[.int .i64 p.num,.int .i64 p.pc.blob.node,.int .i64 p.pc.blob.boot,.int .i64 p.pc.blob.seq,.int .i64 p.pc.size,.string (str p.pc.etag)]
theorem idCells_len (a:Cid):(idCells a).length=3:=rfl
theorem pcCells_len (a:Pc):(pcCells a).length=5:=rfl
theorem ptCells_len (a:CPart):(ptCells a).length=6:=rfl
structure LObj where
 o:CObj
 q:Option Addr
 c:Nat
structure LUpl where
 u:CUpl
 q:Option Addr
 c:Nat
structure LBk where
 name:Bs
 time:Int
 days:Int
 os:List LObj
 po:Option Addr
 co:Nat
 us:List LUpl
 pu:Option Addr
 cu:Nat
structure LCat where
 bs:List LBk
 pb:Option Addr
 cb:Nat
 fs:List Cid
 pf:Option Addr
 cf:Nat
def loCells (x:LObj):List Value:=[.string (str x.o.key),.int .i64 x.o.size,.string (str x.o.etag),.int .i64 x.o.time,.slice x.q x.o.pcs.length x.c]
def loV (x:LObj):Value:=.agg #[.string (str x.o.key),.int .i64 x.o.size,.string (str x.o.etag),.int .i64 x.o.time,.slice x.q x.o.pcs.length x.c]
def luCells (x:LUpl):List Value:=[.int .i64 x.u.id.node,.int .i64 x.u.id.boot,.int .i64 x.u.id.seq,.string (str x.u.key),.slice x.q x.u.parts.length x.c]
def luV (x:LUpl):Value:=.agg #[.int .i64 x.u.id.node,.int .i64 x.u.id.boot,.int .i64 x.u.id.seq,.string (str x.u.key),.slice x.q x.u.parts.length x.c]
def lbCells (b:LBk):List Value:=[.string (str b.name),.int .i64 b.time,.int .i64 b.days,.slice b.po b.os.length b.co,.slice b.pu b.us.length b.cu]
def lbV (b:LBk):Value:=.agg #[.string (str b.name),.int .i64 b.time,.int .i64 b.days,.slice b.po b.os.length b.co,.slice b.pu b.us.length b.cu]
def lcCells (c:LCat):List Value:=[.slice c.pb c.bs.length c.cb,.slice c.pf c.fs.length c.cf]
def lcV (c:LCat):Value:=.agg #[.slice c.pb c.bs.length c.cb,.slice c.pf c.fs.length c.cf]
theorem loCells_len (a:LObj):(loCells a).length=5:=rfl
theorem luCells_len (a:LUpl):(luCells a).length=5:=rfl
theorem lbCells_len (a:LBk):(lbCells a).length=5:=rfl
theorem idCells_one (a:Cid):∀ u∈idCells a,u.oneCell'=true:=by intro u hu;simp only [idCells,List.mem_cons,List.not_mem_nil,or_false] at hu;rcases hu with rfl | rfl | rfl <;> rfl
theorem pcCells_one (a:Pc):∀ u∈pcCells a,u.oneCell'=true:=by intro u hu;simp only [pcCells,List.mem_cons,List.not_mem_nil,or_false] at hu;rcases hu with rfl | rfl | rfl | rfl | rfl <;> rfl
theorem ptCells_one (a:CPart):∀ u∈ptCells a,u.oneCell'=true:=by intro u hu;simp only [ptCells,List.mem_cons,List.not_mem_nil,or_false] at hu;rcases hu with rfl | rfl | rfl | rfl | rfl | rfl <;> rfl
theorem loCells_one (a:LObj):∀ u∈loCells a,u.oneCell'=true:=by intro u hu;simp only [loCells,List.mem_cons,List.not_mem_nil,or_false] at hu;rcases hu with rfl | rfl | rfl | rfl | rfl <;> rfl
theorem luCells_one (a:LUpl):∀ u∈luCells a,u.oneCell'=true:=by intro u hu;simp only [luCells,List.mem_cons,List.not_mem_nil,or_false] at hu;rcases hu with rfl | rfl | rfl | rfl | rfl <;> rfl
theorem lbCells_one (a:LBk):∀ u∈lbCells a,u.oneCell'=true:=by intro u hu;simp only [lbCells,List.mem_cons,List.not_mem_nil,or_false] at hu;rcases hu with rfl | rfl | rfl | rfl | rfl <;> rfl
def LBk.b (b:LBk):CBuck:=⟨b.name,b.time,b.days,b.os.map LObj.o,b.us.map LUpl.u⟩
def LCat.cat (c:LCat):Cat:=⟨c.bs.map LBk.b,c.fs⟩
def SlOk (w:World) (q:Option Addr) (n c:Nat) (vs:List Value):Prop:=Rd w q vs∧(q=none→n=0∧c=0)∧n≤c
theorem SlOk.only {S:List Nat} {w w':World} {q:Option Addr} {n c:Nat} {vs:List Value} (h:SlOk w q n c vs) (ho:Only S w w') (hq:∀ x∈blk q,x ∉ S):SlOk w' q n c vs :=
 ⟨h.1.only ho (fun a ha=>hq _ (by rw [ha];simp [blk])),h.2⟩
theorem SlOk.only0 {w w':World} {q:Option Addr} {n c:Nat} {vs:List Value} (h:SlOk w q n c vs) (ho:Only [] w w'):SlOk w' q n c vs:=h.only ho (by simp)
theorem SlOk.nil (w:World):SlOk w none 0 0 []:=⟨Rd.nil _ _,fun _=>⟨rfl,rfl⟩,Nat.le_refl _⟩
theorem SlOk.own {w:World} {base K n c:Nat} {e:TypeId} {p:Option Addr} {vs:List Value} (h:OwnK w base e K (.slice p n c) n vs):SlOk w p n c vs:=⟨h.view.2.2.1,h.view.2.2.2.1,h.view.2.2.2.2.1⟩
def ObAt (w:World) (x:LObj):Prop:=SlOk w x.q x.o.pcs.length x.c (x.o.pcs.flatMap pcCells)
def UpAt (w:World) (x:LUpl):Prop:=SlOk w x.q x.u.parts.length x.c (x.u.parts.flatMap ptCells)
structure BkAt (w:World) (b:LBk):Prop where
 so:SlOk w b.po b.os.length b.co (b.os.flatMap loCells)
 su:SlOk w b.pu b.us.length b.cu (b.us.flatMap luCells)
 ob:∀ x∈b.os,ObAt w x
 up:∀ x∈b.us,UpAt w x
structure CatAt (w:World) (c:LCat):Prop where
 sb:SlOk w c.pb c.bs.length c.cb (c.bs.flatMap lbCells)
 sf:SlOk w c.pf c.fs.length c.cf (c.fs.flatMap idCells)
 bk:∀ b∈c.bs,BkAt w b
theorem BkAt.only0 {w w':World} {b:LBk} (h:BkAt w b) (ho:Only [] w w'):BkAt w' b:=⟨h.so.only0 ho,h.su.only0 ho,fun x hx=>(h.ob x hx).only0 ho,fun x hx=>(h.up x hx).only0 ho⟩
theorem CatAt.only0 {w w':World} {c:LCat} (h:CatAt w c) (ho:Only [] w w'):CatAt w' c:=⟨h.sb.only0 ho,h.sf.only0 ho,fun x hx=>(h.bk x hx).only0 ho⟩
end
section
open Go.RowKit
theorem Tryz.infoId:(Tryz.prog.info? 31).map (fun i=>(i.zero,i.size,i.bytes))=some (some (.agg #[.int .i64 0,.int .i64 0,.int .i64 0]),3,24):=by kernel_rfl
theorem Tryz.infoPc:(Tryz.prog.info? 33).map (fun i=>(i.zero,i.size,i.bytes))=some (some (.agg #[.int .i64 0,.int .i64 0,.int .i64 0,.int .i64 0,.string ⟨#[]⟩]),5,48):=by kernel_rfl
theorem Tryz.infoPt:(Tryz.prog.info? 111).map (fun i=>(i.zero,i.size,i.bytes))=some (some (.agg #[.int .i64 0,.int .i64 0,.int .i64 0,.int .i64 0,.int .i64 0,.string ⟨#[]⟩]),6,56):=by kernel_rfl
theorem Tryz.infoLO:(Tryz.prog.info? 48).map (fun i=>(i.zero,i.size,i.bytes))=some (some (.agg #[.string ⟨#[]⟩,.int .i64 0,.string ⟨#[]⟩,.int .i64 0,.slice none 0 0]),5,72):=by kernel_rfl
theorem Tryz.infoLU:(Tryz.prog.info? 54).map (fun i=>(i.zero,i.size,i.bytes))=some (some (.agg #[.int .i64 0,.int .i64 0,.int .i64 0,.string ⟨#[]⟩,.slice none 0 0]),5,64):=by kernel_rfl
theorem Tryz.infoLB:(Tryz.prog.info? 60).map (fun i=>(i.zero,i.size,i.bytes))=some (some (.agg #[.string ⟨#[]⟩,.int .i64 0,.int .i64 0,.slice none 0 0,.slice none 0 0]),5,80):=by kernel_rfl
theorem cloneId_any (p:Option Addr) (xs:List Cid) (n c:Nat) (w:World) (hn:xs.length=n) (hb:n≤1000000) (hx:SlOk w p n c (xs.flatMap idCells)) :
  Calls Tryz.prog 88 #[.slice p n c] w fun e w'=>∃ p' c',e=.returned (.slice p' n c')∧OwnK w' w.heap.size 31 3 (.slice p' n c') n (xs.flatMap idCells)∧Only [] w w':=by
 obtain ⟨hx,hp,-⟩:=hx;have Hn:=Lib.hid hn;have heq:=Lib.run_eql_slice_nil (P:=Tryz.prog) w 27 31 p n c 0 0 Tryz.underlying27
 cases p with
 | none =>
  obtain ⟨rfl,rfl⟩:=hp rfl;have hxs:xs=[]:=List.eq_nil_of_length_eq_zero hn;clear hn hp
  go_enter Tryz.func88,Tryz.ntmps88
  go_wp2_with fail
  go_ret
  subst hxs;exact ⟨none,0,rfl,OwnK.nil _ _ _ _,Only.refl _ _⟩
 | some a =>
  have on:=Only.alloc w (.cells #[] 31);have ow:OwnK (w.alloc (.cells #[] 31)) w.heap.size 31 3 (.slice (some ⟨w.heap.size,0,none⟩) 0 0) 0 []:=OwnK.new (K:=3) (n:=0) [] (Nat.le_refl _) rfl (by omega);obtain ⟨p',c',w2,hr,o2,h2⟩:=appendK (P:=Tryz.prog) (bytes:=24) (c:=c) (q:=some a) (m:=n) (news:=xs.flatMap idCells) (t:=27) (ty:=27) _ Tryz.underlying27 Tryz.infoId rfl (by omega) ow (hx.only0 on) (by rw [flat_length idCells 3 idCells_len,hn]) (by simp) (fun u hu=>flat_one idCells idCells_one hu) (by omega) (by omega) on.size;rw [Nat.zero_add] at hr o2;have Hr:=Lib.hid hr
  clear hn hp hr
  go_enter Tryz.func88,Tryz.ntmps88
  go_wp2_with (first | (at_builtin;refine wpl_append (s:=.tmp 5) (x:=.tmp 6) rfl rfl rfl rfl Hr.out ?_))
  go_ret
  exact ⟨p',c',rfl,o2,on.transN h2 (by simp [blk])|>.drop (by simp)⟩
theorem clonePc_any (p:Option Addr) (xs:List Pc) (n c:Nat) (w:World) (hn:xs.length=n) (hb:n≤1000000) (hx:SlOk w p n c (xs.flatMap pcCells)) :
  Calls Tryz.prog 110 #[.slice p n c] w fun e w'=>∃ p' c',e=.returned (.slice p' n c')∧OwnK w' w.heap.size 33 5 (.slice p' n c') n (xs.flatMap pcCells)∧Only [] w w':=by
 obtain ⟨hx,hp,-⟩:=hx;have Hn:=Lib.hid hn;have heq:=Lib.run_eql_slice_nil (P:=Tryz.prog) w 46 33 p n c 0 0 Tryz.underlying46
 cases p with
 | none =>
  obtain ⟨rfl,rfl⟩:=hp rfl;have hxs:xs=[]:=List.eq_nil_of_length_eq_zero hn;clear hn hp
  go_enter Tryz.func110,Tryz.ntmps110
  go_wp2_with fail
  go_ret
  subst hxs;exact ⟨none,0,rfl,OwnK.nil _ _ _ _,Only.refl _ _⟩
 | some a =>
  have on:=Only.alloc w (.cells #[] 33);have ow:OwnK (w.alloc (.cells #[] 33)) w.heap.size 33 5 (.slice (some ⟨w.heap.size,0,none⟩) 0 0) 0 []:=OwnK.new (K:=5) (n:=0) [] (Nat.le_refl _) rfl (by omega);obtain ⟨p',c',w2,hr,o2,h2⟩:=appendK (P:=Tryz.prog) (bytes:=48) (c:=c) (q:=some a) (m:=n) (news:=xs.flatMap pcCells) (t:=46) (ty:=46) _ Tryz.underlying46 Tryz.infoPc rfl (by omega) ow (hx.only0 on) (by rw [flat_length pcCells 5 pcCells_len,hn]) (by simp) (fun u hu=>flat_one pcCells pcCells_one hu) (by omega) (by omega) on.size;rw [Nat.zero_add] at hr o2;have Hr:=Lib.hid hr
  clear hn hp hr
  go_enter Tryz.func110,Tryz.ntmps110
  go_wp2_with (first | (at_builtin;refine wpl_append (s:=.tmp 5) (x:=.tmp 6) rfl rfl rfl rfl Hr.out ?_))
  go_ret
  exact ⟨p',c',rfl,o2,on.transN h2 (by simp [blk])|>.drop (by simp)⟩
theorem clonePt_any (p:Option Addr) (xs:List CPart) (n c:Nat) (w:World) (hn:xs.length=n) (hb:n≤1000000) (hx:SlOk w p n c (xs.flatMap ptCells)) :
  Calls Tryz.prog 112 #[.slice p n c] w fun e w'=>∃ p' c',e=.returned (.slice p' n c')∧OwnK w' w.heap.size 111 6 (.slice p' n c') n (xs.flatMap ptCells)∧Only [] w w':=by
 obtain ⟨hx,hp,-⟩:=hx;have Hn:=Lib.hid hn;have heq:=Lib.run_eql_slice_nil (P:=Tryz.prog) w 52 111 p n c 0 0 Tryz.underlying52
 cases p with
 | none =>
  obtain ⟨rfl,rfl⟩:=hp rfl;have hxs:xs=[]:=List.eq_nil_of_length_eq_zero hn;clear hn hp
  go_enter Tryz.func112,Tryz.ntmps112
  go_wp2_with fail
  go_ret
  subst hxs;exact ⟨none,0,rfl,OwnK.nil _ _ _ _,Only.refl _ _⟩
 | some a =>
  have on:=Only.alloc w (.cells #[] 111);have ow:OwnK (w.alloc (.cells #[] 111)) w.heap.size 111 6 (.slice (some ⟨w.heap.size,0,none⟩) 0 0) 0 []:=OwnK.new (K:=6) (n:=0) [] (Nat.le_refl _) rfl (by omega);obtain ⟨p',c',w2,hr,o2,h2⟩:=appendK (P:=Tryz.prog) (bytes:=56) (c:=c) (q:=some a) (m:=n) (news:=xs.flatMap ptCells) (t:=52) (ty:=52) _ Tryz.underlying52 Tryz.infoPt rfl (by omega) ow (hx.only0 on) (by rw [flat_length ptCells 6 ptCells_len,hn]) (by simp) (fun u hu=>flat_one ptCells ptCells_one hu) (by omega) (by omega) on.size;rw [Nat.zero_add] at hr o2;have Hr:=Lib.hid hr
  clear hn hp hr
  go_enter Tryz.func112,Tryz.ntmps112
  go_wp2_with (first | (at_builtin;refine wpl_append (s:=.tmp 5) (x:=.tmp 6) rfl rfl rfl rfl Hr.out ?_))
  go_ret
  exact ⟨p',c',rfl,o2,on.transN h2 (by simp [blk])|>.drop (by simp)⟩
end
section
open Go.RowKit
def ObOwn (w:World) (B:Nat) (x:LObj):Prop:=OwnK w B 33 5 (.slice x.q x.o.pcs.length x.c) x.o.pcs.length (x.o.pcs.flatMap pcCells)
def UpOwn (w:World) (B:Nat) (x:LUpl):Prop:=OwnK w B 111 6 (.slice x.q x.u.parts.length x.c) x.u.parts.length (x.u.parts.flatMap ptCells)
def LBk.fp (b:LBk):List Nat:=blk b.po ++ (blk b.pu ++ (b.os.flatMap (fun x=>blk x.q) ++ b.us.flatMap (fun x=>blk x.q)))
def LCat.fp (c:LCat):List Nat:=blk c.pb ++ (blk c.pf ++ c.bs.flatMap LBk.fp)
structure BkOwn (w:World) (B:Nat) (b:LBk):Prop where
 so:OwnK w B 48 5 (.slice b.po b.os.length b.co) b.os.length (b.os.flatMap loCells)
 su:OwnK w B 54 5 (.slice b.pu b.us.length b.cu) b.us.length (b.us.flatMap luCells)
 ob:∀ x∈b.os,ObOwn w B x
 up:∀ x∈b.us,UpOwn w B x
 nd:b.fp.Nodup
structure CatOwn (w:World) (B:Nat) (c:LCat):Prop where
 sb:OwnK w B 60 5 (.slice c.pb c.bs.length c.cb) c.bs.length (c.bs.flatMap lbCells)
 sf:OwnK w B 31 3 (.slice c.pf c.fs.length c.cf) c.fs.length (c.fs.flatMap idCells)
 bk:∀ b∈c.bs,BkOwn w B b
 nd:c.fp.Nodup
theorem ownIn {w:World} {base K n c:Nat} {e:TypeId} {p:Option Addr} {vs:List Value} (h:OwnK w base e K (.slice p n c) n vs):∀ z∈blk p,base≤z∧z < w.heap.size:=h.view.2.2.2.2.2.2
theorem BkOwn.lo {w:World} {B:Nat} {b:LBk} (h:BkOwn w B b):∀ z∈b.fp,B≤z∧z < w.heap.size:=fun z hz=>by
 unfold LBk.fp at hz
 rcases List.mem_append.1 hz with hz | hz
 ·exact ownIn h.so z hz
 rcases List.mem_append.1 hz with hz | hz
 ·exact ownIn h.su z hz
 rcases List.mem_append.1 hz with hz | hz
 ·obtain ⟨x,hx,hz⟩:=List.mem_flatMap.1 hz;exact ownIn (h.ob x hx) z hz
 ·obtain ⟨x,hx,hz⟩:=List.mem_flatMap.1 hz;exact ownIn (h.up x hx) z hz
theorem CatOwn.lo {w:World} {B:Nat} {c:LCat} (h:CatOwn w B c):∀ z∈c.fp,B≤z∧z < w.heap.size:=fun z hz=>by
 unfold LCat.fp at hz
 rcases List.mem_append.1 hz with hz | hz
 ·exact ownIn h.sb z hz
 rcases List.mem_append.1 hz with hz | hz
 ·exact ownIn h.sf z hz
 ·obtain ⟨b,hb,hz⟩:=List.mem_flatMap.1 hz;exact (h.bk b hb).lo z hz
theorem OwnK.onlyB {S:List Nat} {w w':World} {base K n m c:Nat} {e:TypeId} {p:Option Addr} {vs:List Value} (h:OwnK w base e K (.slice p m c) n vs) (ho:Only S w w') (hn:∀ z∈blk p,z ∉ S):OwnK w' base e K (.slice p m c) n vs :=
 h.only ho (fun k hk=>hn k (ownBlkF hk))
theorem BkOwn.only {S:List Nat} {w w':World} {B:Nat} {b:LBk} (h:BkOwn w B b) (ho:Only S w w') (hS:∀ z∈b.fp,z ∉ S):BkOwn w' B b:=by
 unfold LBk.fp at hS
 exact ⟨h.so.onlyB ho (fun z hz=>hS z (by simp [hz])),h.su.onlyB ho (fun z hz=>hS z (by simp [hz])),
  fun x hx=>OwnK.onlyB (h.ob x hx) ho (fun z hz=>hS z (by simp only [List.mem_append,List.mem_flatMap];exact .inr (.inr (.inl ⟨x,hx,hz⟩)))),
  fun x hx=>OwnK.onlyB (h.up x hx) ho (fun z hz=>hS z (by simp only [List.mem_append,List.mem_flatMap];exact .inr (.inr (.inr ⟨x,hx,hz⟩)))),h.nd⟩
theorem CatOwn.only {S:List Nat} {w w':World} {B:Nat} {c:LCat} (h:CatOwn w B c) (ho:Only S w w') (hS:∀ z∈c.fp,z ∉ S):CatOwn w' B c:=by
 unfold LCat.fp at hS
 exact ⟨h.sb.onlyB ho (fun z hz=>hS z (by simp [hz])),h.sf.onlyB ho (fun z hz=>hS z (by simp [hz])),
  fun b hb=>(h.bk b hb).only ho (fun z hz=>hS z (by simp only [List.mem_append,List.mem_flatMap];exact .inr (.inr ⟨b,hb,hz⟩))),h.nd⟩
theorem CatOwn.only0 {w w':World} {B:Nat} {c:LCat} (h:CatOwn w B c) (ho:Only [] w w'):CatOwn w' B c:=h.only ho (fun _ _=>by simp)
theorem BkOwn.only0 {w w':World} {B:Nat} {b:LBk} (h:BkOwn w B b) (ho:Only [] w w'):BkOwn w' B b:=h.only ho (fun _ _=>by simp)
theorem BkOwn.weaken {w:World} {B B':Nat} {b:LBk} (h:BkOwn w B b) (hb:B'≤B):BkOwn w B' b :=
 ⟨h.so.weaken hb,h.su.weaken hb,fun x hx=>OwnK.weaken (h.ob x hx) hb,fun x hx=>OwnK.weaken (h.up x hx) hb,h.nd⟩
theorem BkOwn.at {w:World} {B:Nat} {b:LBk} (h:BkOwn w B b):BkAt w b:=⟨.own h.so,.own h.su,fun x hx=>.own (h.ob x hx),fun x hx=>.own (h.up x hx)⟩
theorem CatOwn.at {w:World} {B:Nat} {c:LCat} (h:CatOwn w B c):CatAt w c:=⟨.own h.sb,.own h.sf,fun b hb=>(h.bk b hb).at⟩
theorem CatOwn.weaken {w:World} {B B':Nat} {c:LCat} (h:CatOwn w B c) (hb:B'≤B):CatOwn w B' c:=⟨h.sb.weaken hb,h.sf.weaken hb,fun b h'=>(h.bk b h').weaken hb,h.nd⟩
theorem blk_nodup (p:Option Addr):(blk p).Nodup:=by cases p <;> simp [blk]
section
variable {β:Type} (f:β→List Value) (V:β→Value) (e:TypeId) (K:Nat) (P:β→World→Prop) (fp:β→List Nat) (lo:Nat)
def CpV:Value→World→Prop:=fun v w=>∃ x,v=V x∧P x w
def CpS:Value→World→Prop:=fun v w=>∃ x g,v=.slice (some ⟨g,0,none⟩) 1 1∧lo≤g∧Row w g e (f x)∧P x w
def CpA (B:Nat) (D:List Nat) (m:Nat) (ys:List β):Value→World→Prop:=fun v w=>∃ x p k,v=.slice p (m+1) k∧P x w∧OwnK w B e K (.slice p (m+1) k) (m+1) ((ys ++ [x]).flatMap f)∧∀ z∈blk p,z∈D∨(lo≤z∧z ∉ fp x)
def CpZ (B:Nat) (D:List Nat) (m:Nat) (ys:List β) (X:Nat) (t:TypeId) (up:Value→List Value):Value→World→Prop:=fun _ w=>∃ x p k,P x w∧OwnK w B e K (.slice p (m+1) k) (m+1) ((ys ++ [x]).flatMap f)∧(∀ z∈blk p,z∈D∨(lo≤z∧z ∉ fp x))∧Row w X t (up (.slice p (m+1) k))
variable {f V e K P fp lo}
variable (hst:∀ x a b (S:List Nat),P x a→Only S a b→(∀ s∈S,s < lo)→P x b)
include hst
theorem CpV.stable {S:List Nat} (hS:∀ s∈S,s < lo):Stable (Only S) (CpV V P):=fun v a b ⟨x,h1,h2⟩ ho=>⟨x,h1,hst x a b S h2 ho hS⟩
theorem CpS.stable {S:List Nat} (hS:∀ s∈S,s < lo):Stable (Only S) (CpS f e P lo):=fun v a b ⟨x,g,h1,h2,h3,h4⟩ ho=>⟨x,g,h1,h2,h3.only ho (fun hm=>by have:=hS g hm;omega),hst x a b S h4 ho hS⟩
theorem CpA.stable {B m:Nat} {D S:List Nat} {ys:List β} (hS:∀ s∈S,s < lo) (hD:∀ s∈S,s ∉ D):Stable (Only S) (CpA f e K P fp lo B D m ys):=fun v a b ⟨x,p,k,h1,h2,h3,h4⟩ ho =>
 ⟨x,p,k,h1,hst x a b S h2 ho hS,h3.onlyB ho (fun z hz hm=>by
  rcases h4 z hz with h | h
  ·exact hD z hm h
  ·have:=hS z hm;omega),h4⟩
theorem CpZ.stable {B m X:Nat} {t:TypeId} {D:List Nat} {ys:List β} {up:Value→List Value}:Stable (Only []) (CpZ f e K P fp lo B D m ys X t up):=fun v a b ⟨x,p,k,h2,h3,h4,h5⟩ ho =>
 ⟨x,p,k,hst x a b [] h2 ho (by simp),h3.only0 ho,h4,h5.only0 ho⟩
end
end
section
open Go.RowKit
set_option maxHeartbeats 4000000 in
theorem ticks10_any (n:Int) (w:World):Calls Tryz.prog 65 #[.int .i64 n] w fun e w'=>e=.returned (.bool (decide (0≤n∧n≤1099511627776)))∧Only [] w w':=by
 go_enter Tryz.func65,Tryz.ntmps65
 by_cases h1:0≤n
 ·by_cases h2:n≤1099511627776
  ·skip
   go_wp2_with fail
   go_ret
   exact ⟨by rw [decide_eq_true ⟨h1,h2⟩];rfl,Only.refl _ _⟩
  ·skip
   go_wp2_with fail
   go_ret
   exact ⟨by rw [decide_eq_false (by omega)];rfl,Only.refl _ _⟩
 ·skip
  go_wp2_with fail
  go_ret
  exact ⟨by rw [decide_eq_false (by omega)];rfl,Only.refl _ _⟩
def plainP (x:UInt8):Prop:=(97≤x.toNat∧x.toNat≤122)∨(48≤x.toNat∧x.toNat≤57)
instance (x:UInt8):Decidable (plainP x):=by unfold plainP;exact inferInstance
set_option maxHeartbeats 4000000 in
theorem plain10_any (x:UInt8) (w:World):Calls Tryz.prog 108 #[.int .u8 (x.toNat:Int)] w fun e w'=>e=.returned (.bool (decide (plainP x)))∧Only [] w w':=by
 have F1:Hid (plainP x→Ending.returned (Value.bool true)=.returned (.bool (decide (plainP x)))):=Lib.hid (fun h=>by rw [decide_eq_true h]);have F0:Hid (¬ plainP x→Ending.returned (Value.bool false)=.returned (.bool (decide (plainP x)))):=Lib.hid (fun h=>by rw [decide_eq_false h])
 go_enter Tryz.func108,Tryz.ntmps108
 by_cases h1:(97:Int)≤(x.toNat:Int)
 ·by_cases h2:(x.toNat:Int)≤122
  ·skip
   go_wp2_with fail
   go_ret
   exact ⟨F1.out (by unfold plainP;omega),Only.refl _ _⟩
  ·by_cases h3:(48:Int)≤(x.toNat:Int)
   ·by_cases h4:(x.toNat:Int)≤57
    ·skip
     go_wp2_with fail
     go_ret
     exact ⟨F1.out (by unfold plainP;omega),Only.refl _ _⟩
    ·skip
     go_wp2_with fail
     go_ret
     exact ⟨F0.out (by unfold plainP;omega),Only.refl _ _⟩
   ·skip
    go_wp2_with fail
    go_ret
    exact ⟨F0.out (by unfold plainP;omega),Only.refl _ _⟩
 ·by_cases h3:(48:Int)≤(x.toNat:Int)
  ·by_cases h4:(x.toNat:Int)≤57
   ·skip
    go_wp2_with fail
    go_ret
    exact ⟨F1.out (by unfold plainP;omega),Only.refl _ _⟩
   ·skip
    go_wp2_with fail
    go_ret
    exact ⟨F0.out (by unfold plainP;omega),Only.refl _ _⟩
  ·skip
   go_wp2_with fail
   go_ret
   exact ⟨F0.out (by unfold plainP;omega),Only.refl _ _⟩
end
section
open Go.RowKit
set_option maxHeartbeats 16000000 in
theorem piece10_any (p:Pc) (w0:World) (hb:p.etag.length≤140737488355328):Calls Tryz.prog 64 #[pcV p] w0 fun e w'=>∃ v,e=.returned (.bool v)∧(v=true→PcOk p)∧Only [] w0 w':=by
 obtain ⟨w1,hw1⟩:∃ w1,w1=w0.alloc (.cells #[.int .i64 p.blob.node,.int .i64 p.blob.boot,.int .i64 p.blob.seq,.int .i64 p.size,.string (str p.etag)] 33):=⟨_,rfl⟩;have o1:Only [] w0 w1:=(by rw [hw1];exact Only.alloc _ _);have r1:Row w1 w0.heap.size 33 [.int .i64 p.blob.node,.int .i64 p.blob.boot,.int .i64 p.blob.seq,.int .i64 p.size,.string (str p.etag)]:=(by rw [hw1];exact Row.newOf _ _ _ _ rfl);have c0:=r1.cell (i:=0) rfl;have c1:=r1.cell (i:=1) rfl;have c2:=r1.cell (i:=2) rfl;have hid:=goodId_any p.blob.node p.blob.boot p.blob.seq w1;rw [hw1] at c0 c1 c2
 obtain ⟨n,hn⟩:∃ n,p.etag.length=n:=⟨_,rfl⟩;have hsz:(str p.etag).size=n:=(by rw [str_size,hn]);have Hn:=Lib.hid hn;have Hat:Hid (∀ (j:Nat) x,p.etag[j]?=some x→∀ hh:j < (str p.etag).size,(str p.etag)[j]'hh=x):=Lib.hid fun j x h=>str_at h;have HOK:Hid ((0≤p.size∧p.size≤1024∧n=64)→PcOk p):=Lib.hid (fun h=>⟨h.1,h.2.1,hn.trans h.2.2⟩);rw [hn] at hb;have Hw:=Lib.hid hw1;have HO:=Lib.hid o1;have Hr1:=Lib.hid r1;unfold pcV;obtain ⟨z,hz⟩:∃ z,p.size=z:=⟨_,rfl⟩;obtain ⟨S,hS⟩:∃ S,str p.etag=S:=⟨_,rfl⟩;rw [hz] at HOK
 rw [hS] at hsz Hat;rw [hz,hS] at Hw Hr1 c0 c1 c2 ⊢;clear hn hS hz o1 r1 hw1
 go_enter Tryz.func64,Tryz.ntmps64
 go_wp2_with fail;rw [← Hw.out];(with_reducible refine hid.mono ?_);clear hid c0 c1 c2 Hw;rintro e wi ⟨rfl,oi⟩;have HOi:=Lib.hid oi;have ri:=Hr1.out.only0 oi;have c3:=ri.cell (i:=3) rfl;have c4:=ri.cell (i:=4) rfl;clear oi ri;obtain ⟨gv,hgv⟩:∃ gv,decide (idOk p.blob.node p.blob.boot p.blob.seq)=gv:=⟨_,rfl⟩;rw [hgv];clear hgv
 have hcase:gv=false∨(gv=true∧¬ 0≤z)∨(gv=true∧0≤z∧¬ z≤1024)∨(gv=true∧0≤z∧z≤1024∧((n:Int) == 64)=false)∨(gv=true∧0≤z∧z≤1024∧((n:Int) == 64)=true∧n=64):=by
  cases gv with
  | false=>exact .inl rfl
  | true =>
   by_cases h1:0≤z
   ·by_cases h2:z≤1024
    ·by_cases h3:(n:Int)=64
     ·exact .inr (.inr (.inr (.inr ⟨rfl,h1,h2,beq_iff_eq.2 h3,by omega⟩)))
     ·exact .inr (.inr (.inr (.inl ⟨rfl,h1,h2,beq_eq_false_iff_ne.2 h3⟩)))
    ·exact .inr (.inr (.inl ⟨rfl,h1,h2⟩))
   ·exact .inr (.inl ⟨rfl,h1⟩)
 have Hfin:Hid (∀ v:Bool,(v=true→0≤z∧z≤1024∧n=64)→v=true→PcOk p):=Lib.hid (fun v h hv=>HOK.out (h hv));clear HOK
 rcases hcase with rfl | ⟨rfl,h1⟩ | ⟨rfl,h1,h2⟩ | ⟨rfl,h1,h2,h3⟩ | ⟨rfl,h1,h2,h3,h4⟩
 all_goals
  go_wp2_with fail
  go_loopw [3,4] (fun f a wl=>∃ (j:Nat) (b:Bool),f=.bool b∧a=.int .i64 (j:Int)∧j≤n∧Hid (b=true→0≤z∧z≤1024∧n=64)∧Hid (Only [] w1 wl)) (fun _ a _=>n - (intOf a).toNat)
  case atStart=>exact ⟨0,_,rfl,rfl,Nat.zero_le _,Lib.hid (by first | (intro h;cases h;done) | (intro _;exact ⟨h1,h2,h4⟩)),HOi⟩
  case round =>
   (try clear h4)
   (try clear h3)
   (try clear h2)
   (try clear h1)
   clear c3 c4;obtain ⟨j,b,rfl,rfl,hj,HC,HOl⟩:=hrel;have c4:=(Hr1.out.only0 HOl.out).cell (i:=4) rfl
   by_cases hlt:j < n
   ·obtain ⟨x,hx⟩:∃ x,p.etag[j]?=some x:=⟨_,List.getElem?_eq_getElem (by rw [Hn.out];exact hlt)⟩;have hix:=Hat.out j x hx (by omega);have hxl:=x.toNat_lt;clear hx
    cases b with
    | false =>
     go_wp2_with fail;exact ⟨⟨j+1,false,rfl,by go_num,by omega,Lib.hid (by simp),HOl⟩,by simp [intOf];omega⟩
    | true =>
     have HT:∀ v:Bool,Hid (v=true→0≤z∧z≤1024∧n=64):=fun v=>Lib.hid (fun _=>HC.out rfl)
     by_cases g1:(48:Int)≤(x.toNat:Int)
     ·by_cases g2:(x.toNat:Int)≤57
      ·skip
       go_wp2_with fail;exact ⟨⟨j+1,true,rfl,by go_num,by omega,HT true,HOl⟩,by simp [intOf];omega⟩
      ·by_cases g3:(97:Int)≤(x.toNat:Int)
       ·by_cases g4:(x.toNat:Int)≤102
        ·skip
         go_wp2_with fail;exact ⟨⟨j+1,true,rfl,by go_num,by omega,HT true,HOl⟩,by simp [intOf];omega⟩
        ·skip
         go_wp2_with fail;exact ⟨⟨j+1,false,rfl,by go_num,by omega,HT false,HOl⟩,by simp [intOf];omega⟩
       ·skip
        go_wp2_with fail;exact ⟨⟨j+1,false,rfl,by go_num,by omega,HT false,HOl⟩,by simp [intOf];omega⟩
     ·have g3:¬ (97:Int)≤(x.toNat:Int):=(by omega);go_wp2_with fail;exact ⟨⟨j+1,false,rfl,by go_num,by omega,HT false,HOl⟩,by simp [intOf];omega⟩
   ·obtain rfl:j=n:=(by omega);go_wp2_with fail
    go_ret
    first | exact ⟨b,rfl,Hfin.out b HC.out,HO.out.trans0 HOl.out⟩ | exact ⟨Hfin.out b HC.out,HO.out.trans0 HOl.out⟩
end
section
open Go.RowKit
theorem loInfo:(Tryz.prog.info? 48).map (·.size)=some 5:=by kernel_rfl
set_option maxHeartbeats 4000000 in
theorem copyObject_any (x:LObj) (w0:World) (hx:SlOk w0 x.q x.o.pcs.length x.c (x.o.pcs.flatMap pcCells)) (hb:x.o.pcs.length≤1000000) :
  Calls Tryz.prog 68 #[loV x] w0 fun e w'=>∃ q' c',e=.returned (loV ⟨x.o,q',c'⟩)∧OwnK w' w0.heap.size 33 5 (.slice q' x.o.pcs.length c') x.o.pcs.length (x.o.pcs.flatMap pcCells)∧Only [] w0 w':=by
 obtain ⟨n,hn⟩:∃ n,x.o.pcs.length=n:=⟨_,rfl⟩;obtain ⟨w1,hw1⟩:∃ w1,w1=w0.alloc (.cells #[.string (str x.o.key),.int .i64 x.o.size,.string (str x.o.etag),.int .i64 x.o.time,.slice x.q n x.c] 48):=⟨_,rfl⟩;obtain ⟨w2,hw2⟩:∃ w2,w2=w1.alloc (.cells #[.string ⟨#[]⟩,.int .i64 0,.string ⟨#[]⟩,.int .i64 0,.slice none 0 0] 48):=⟨_,rfl⟩;have o1:Only [] w0 w1:=(by rw [hw1];exact Only.alloc _ _);have o2:Only [] w1 w2:=(by rw [hw2];exact Only.alloc _ _);have s1:w1.heap.size=w0.heap.size+1:=(by rw [hw1];simp);have r1:Row w2 w0.heap.size 48 [.string (str x.o.key),.int .i64 x.o.size,.string (str x.o.etag),.int .i64 x.o.time,.slice x.q n x.c]:=(show Row w1 w0.heap.size 48 [.string (str x.o.key),.int .i64 x.o.size,.string (str x.o.etag),.int .i64 x.o.time,.slice x.q n x.c] by rw [hw1];exact Row.newOf _ _ _ _ rfl).only0 o2
 have r2:Row w2 (w0.heap.size+1) 48 [.string ⟨#[]⟩,.int .i64 0,.string ⟨#[]⟩,.int .i64 0,.slice none 0 0]:=(by rw [← s1,hw2];exact Row.newOf _ _ _ _ rfl);have o12:=o1.trans0 o2;rw [hn] at hx hb;have hcl:=clonePc_any x.q x.o.pcs n x.c w2 hn hb (hx.only0 o12);have c4:=r1.cell (i:=4) rfl;have HO:=Lib.hid o12;have HR1:=Lib.hid r1;have HR2:=Lib.hid r2;have Hw1:=Lib.hid hw1;have Hw2:=Lib.hid hw2;unfold loV;dsimp only;rw [hn];clear o1 o2 s1 r1 r2 o12 hw1 hw2 hx hb
 go_enter Tryz.func68,Tryz.ntmps68
 go_upto_region 1 with (fail)
 rw [← Hw1.out,← Hw2.out];clear Hw1 Hw2;go_wp2_with fail;refine hcl.mono ?_;clear hcl c4;rintro e w3 ⟨q',c',rfl,own,o3⟩;have hr1:=HR1.out.only0 o3;have f4:=hr1.free 4;have c4:=hr1.cell (i:=4) rfl;obtain ⟨w4,hw4⟩:∃ w4,w4=w3.setCell ⟨w0.heap.size,4,none⟩ (.slice q' n c'):=⟨_,rfl⟩;have o4:Only [w0.heap.size] w3 w4:=(by rw [hw4];exact Only.setCell _ ⟨_,_,none⟩ _);have r4:Row w4 w0.heap.size 48 [.string (str x.o.key),.int .i64 x.o.size,.string (str x.o.etag),.int .i64 x.o.time,.slice q' n c']:=(by rw [hw4];exact hr1.setCell 4 _);have r24:=(HR2.out.only0 o3).only o4 (by simp)
 have own4:=own.only o4 (fun y hy hm=>by have h1:=(own.view.2.2.2.2.2.2 y (ownBlkF hy)).1;have h2:=List.mem_singleton.1 hm;have h3:=HR1.out.lt;omega);have x0:=r4.cell (i:=0) rfl;have x1:=r4.cell (i:=1) rfl;have x2:=r4.cell (i:=2) rfl;have x3:=r4.cell (i:=3) rfl;have x4:=r4.cell (i:=4) rfl;have Hst:=Lib.hid (r24.storeAt (P:=Tryz.prog) (ty:=48) (us:=[.string (str x.o.key),.int .i64 x.o.size,.string (str x.o.etag),.int .i64 x.o.time,.slice q' n c']) loInfo rfl (by simp [Value.oneCell']));have Hrow:=Lib.hid (r24.setRow [.string (str x.o.key),.int .i64 x.o.size,.string (str x.o.etag),.int .i64 x.o.time,.slice q' n c'])
 have oS:=Only.setRow w4 (w0.heap.size+1) #[.string (str x.o.key),.int .i64 x.o.size,.string (str x.o.etag),.int .i64 x.o.time,.slice q' n c'];have HOf:=Lib.hid (((HO.out.trans0 o3).transN o4 (by simp)).transN oS (by simp));have Hown:=Lib.hid ((own4.only oS (fun y hy hm=>by have h1:=(own.view.2.2.2.2.2.2 y (ownBlkF hy)).1;have h2:=List.mem_singleton.1 hm;have h3:=HR2.out.lt;omega)).weaken HO.out.size);have Hw4:=Lib.hid hw4;clear hr1 own o3 o4 r4 r24 own4 oS hw4
 go_upto_region 2 with (fail)
 rw [← Hw4.out];clear Hw4 c4 f4
 go_wp2_with (first | ((with_reducible show wpList _ _ _ _ _ _);refine wpl_store (ty:=48) (x:=.tmp 2) (y:=.tmp 7) rfl rfl rfl rfl Hst.out ?_))
 exact bodyPost_ret (results_c1 rfl _ _ _ rfl Hrow.out Tryz.underlying48 loInfo) rfl ⟨q',c',rfl,Hown.out,HOf.out⟩
theorem luInfo:(Tryz.prog.info? 54).map (·.size)=some 5:=by kernel_rfl
set_option maxHeartbeats 4000000 in
theorem copyUpload_any (x:LUpl) (w0:World) (hx:SlOk w0 x.q x.u.parts.length x.c (x.u.parts.flatMap ptCells)) (hb:x.u.parts.length≤1000000) :
  Calls Tryz.prog 71 #[luV x] w0 fun e w'=>∃ q' c',e=.returned (luV ⟨x.u,q',c'⟩)∧OwnK w' w0.heap.size 111 6 (.slice q' x.u.parts.length c') x.u.parts.length (x.u.parts.flatMap ptCells)∧Only [] w0 w':=by
 obtain ⟨n,hn⟩:∃ n,x.u.parts.length=n:=⟨_,rfl⟩;obtain ⟨w1,hw1⟩:∃ w1,w1=w0.alloc (.cells #[.int .i64 x.u.id.node,.int .i64 x.u.id.boot,.int .i64 x.u.id.seq,.string (str x.u.key),.slice x.q n x.c] 54):=⟨_,rfl⟩;obtain ⟨w2,hw2⟩:∃ w2,w2=w1.alloc (.cells #[.int .i64 0,.int .i64 0,.int .i64 0,.string ⟨#[]⟩,.slice none 0 0] 54):=⟨_,rfl⟩;have o1:Only [] w0 w1:=(by rw [hw1];exact Only.alloc _ _);have o2:Only [] w1 w2:=(by rw [hw2];exact Only.alloc _ _);have s1:w1.heap.size=w0.heap.size+1:=(by rw [hw1];simp);have r1:Row w2 w0.heap.size 54 [.int .i64 x.u.id.node,.int .i64 x.u.id.boot,.int .i64 x.u.id.seq,.string (str x.u.key),.slice x.q n x.c]:=(show Row w1 w0.heap.size 54 [.int .i64 x.u.id.node,.int .i64 x.u.id.boot,.int .i64 x.u.id.seq,.string (str x.u.key),.slice x.q n x.c] by rw [hw1];exact Row.newOf _ _ _ _ rfl).only0 o2
 have r2:Row w2 (w0.heap.size+1) 54 [.int .i64 0,.int .i64 0,.int .i64 0,.string ⟨#[]⟩,.slice none 0 0]:=(by rw [← s1,hw2];exact Row.newOf _ _ _ _ rfl);have o12:=o1.trans0 o2;rw [hn] at hx hb;have hcl:=clonePt_any x.q x.u.parts n x.c w2 hn hb (hx.only0 o12);have c4:=r1.cell (i:=4) rfl;have HO:=Lib.hid o12;have HR1:=Lib.hid r1;have HR2:=Lib.hid r2;have Hw1:=Lib.hid hw1;have Hw2:=Lib.hid hw2;unfold luV;dsimp only;rw [hn];clear o1 o2 s1 r1 r2 o12 hw1 hw2 hx hb
 go_enter Tryz.func71,Tryz.ntmps71
 go_upto_region 1 with (fail)
 rw [← Hw1.out,← Hw2.out];clear Hw1 Hw2;go_wp2_with fail;refine hcl.mono ?_;clear hcl c4;rintro e w3 ⟨q',c',rfl,own,o3⟩;have hr1:=HR1.out.only0 o3;have f4:=hr1.free 4;have c4:=hr1.cell (i:=4) rfl;obtain ⟨w4,hw4⟩:∃ w4,w4=w3.setCell ⟨w0.heap.size,4,none⟩ (.slice q' n c'):=⟨_,rfl⟩;have o4:Only [w0.heap.size] w3 w4:=(by rw [hw4];exact Only.setCell _ ⟨_,_,none⟩ _);have r4:Row w4 w0.heap.size 54 [.int .i64 x.u.id.node,.int .i64 x.u.id.boot,.int .i64 x.u.id.seq,.string (str x.u.key),.slice q' n c']:=(by rw [hw4];exact hr1.setCell 4 _);have r24:=(HR2.out.only0 o3).only o4 (by simp)
 have own4:=own.only o4 (fun y hy hm=>by have h1:=(own.view.2.2.2.2.2.2 y (ownBlkF hy)).1;have h2:=List.mem_singleton.1 hm;have h3:=HR1.out.lt;omega);have x0:=r4.cell (i:=0) rfl;have x1:=r4.cell (i:=1) rfl;have x2:=r4.cell (i:=2) rfl;have x3:=r4.cell (i:=3) rfl;have x4:=r4.cell (i:=4) rfl;have Hst:=Lib.hid (r24.storeAt (P:=Tryz.prog) (ty:=54) (us:=[.int .i64 x.u.id.node,.int .i64 x.u.id.boot,.int .i64 x.u.id.seq,.string (str x.u.key),.slice q' n c']) luInfo rfl (by simp [Value.oneCell']));have Hrow:=Lib.hid (r24.setRow [.int .i64 x.u.id.node,.int .i64 x.u.id.boot,.int .i64 x.u.id.seq,.string (str x.u.key),.slice q' n c'])
 have oS:=Only.setRow w4 (w0.heap.size+1) #[.int .i64 x.u.id.node,.int .i64 x.u.id.boot,.int .i64 x.u.id.seq,.string (str x.u.key),.slice q' n c'];have HOf:=Lib.hid (((HO.out.trans0 o3).transN o4 (by simp)).transN oS (by simp));have Hown:=Lib.hid ((own4.only oS (fun y hy hm=>by have h1:=(own.view.2.2.2.2.2.2 y (ownBlkF hy)).1;have h2:=List.mem_singleton.1 hm;have h3:=HR2.out.lt;omega)).weaken HO.out.size);have Hw4:=Lib.hid hw4;clear hr1 own o3 o4 r4 r24 own4 oS hw4
 go_upto_region 2 with (fail)
 rw [← Hw4.out];clear Hw4 c4 f4
 go_wp2_with (first | ((with_reducible show wpList _ _ _ _ _ _);refine wpl_store (ty:=54) (x:=.tmp 2) (y:=.tmp 7) rfl rfl rfl rfl Hst.out ?_))
 exact bodyPost_ret (results_c1 rfl _ _ _ rfl Hrow.out Tryz.underlying54 luInfo) rfl ⟨q',c',rfl,Hown.out,HOf.out⟩
end
section
open Go.RowKit
set_option maxHeartbeats 8000000 in
theorem goodBucket10_any (s:Bs) (w0:World) (hb:s.length≤140737488355328):Calls Tryz.prog 62 #[.string (str s)] w0 fun e w'=>∃ v,e=.returned (.bool v)∧(v=true→3≤s.length∧s.length≤63)∧Only [] w0 w':=by
 obtain ⟨n,hn⟩:∃ n,s.length=n:=⟨_,rfl⟩;have hsz:(str s).size=n:=(by rw [str_size,hn]);have Hn:=Lib.hid hn;have Hat:Hid (∀ (j:Nat) x,s[j]?=some x→∀ hh:j < (str s).size,(str s)[j]'hh=x):=Lib.hid fun j x h=>str_at h;rw [hn] at hb ⊢;obtain ⟨S,hS⟩:∃ S,str s=S:=⟨_,rfl⟩;rw [hS] at hsz Hat ⊢;clear hn hS
 go_enter Tryz.func62,Tryz.ntmps62
 have hcase:((3:Int)≤(n:Int)∧(n:Int)≤63)∨¬ (3:Int)≤(n:Int)∨((3:Int)≤(n:Int)∧¬ (n:Int)≤63):=by omega
 rcases hcase with ⟨h1,h2⟩ | h1 | ⟨h1,h2⟩
 all_goals
  go_wp2_with fail
  go_loopw [3,4] (fun f a wl=>∃ (j:Nat) (b:Bool),f=.bool b∧a=.int .i64 (j:Int)∧j≤n∧Hid (b=true→3≤n∧n≤63)∧Hid (Only [] w0 wl)) (fun _ a _=>n - (intOf a).toNat)
  case atStart=>exact ⟨0,_,rfl,rfl,Nat.zero_le _,Lib.hid (by first | (intro h;cases h;done) | (intro _;omega)),Lib.hid (Only.refl _ _)⟩
  case round =>
   (try clear h2)
   clear h1;obtain ⟨j,b,rfl,rfl,hj,HC,HOl⟩:=hrel
   by_cases hlt:j < n
   ·obtain ⟨x,hx⟩:∃ x,s[j]?=some x:=⟨_,List.getElem?_eq_getElem (by rw [Hn.out];exact hlt)⟩;have hix:=Hat.out j x hx (by omega);have hxl:=x.toNat_lt;clear hx
    cases b with
    | false =>
     go_wp2_with fail;exact ⟨⟨j+1,false,rfl,by go_num,by omega,Lib.hid (by simp),HOl⟩,by simp [intOf];omega⟩
    | true =>
     have HT:∀ v:Bool,Hid (v=true→3≤n∧n≤63):=fun v=>Lib.hid (fun _=>HC.out rfl);have hpl:=plain10_any x wr;go_wp2_with fail;(with_reducible refine hpl.mono ?_);clear hpl;rintro e wp ⟨rfl,op⟩;have HOw:=Lib.hid (HOl.out.trans0 op);clear op;obtain ⟨pv,hpv⟩:∃ pv,decide (plainP x)=pv:=⟨_,rfl⟩;rw [hpv];clear hpv
     cases pv with
     | true =>
      go_wp2_with fail;exact ⟨⟨j+1,true,rfl,by go_num,by omega,HT true,HOw⟩,by simp [intOf];omega⟩
     | false =>
      have hw1:wrap64 ((n:Int) - 1)=(n:Int) - 1:=IntWalk.wrap64_in _ (by omega)
      by_cases g1:(0:Int) < (j:Int)
      ·by_cases g2:(j:Int) < (n:Int) - 1
       ·by_cases g3:(x.toNat:Int)=45
        ·have e3:((x.toNat:Int) == 45)=true:=beq_iff_eq.2 g3;go_wp2_with fail;exact ⟨⟨j+1,true,rfl,by go_num,by omega,HT true,HOw⟩,by simp [intOf];omega⟩
        ·have e3:((x.toNat:Int) == 45)=false:=beq_eq_false_iff_ne.2 g3
         by_cases g4:(x.toNat:Int)=46
         ·have e4:((x.toNat:Int) == 46)=true:=beq_iff_eq.2 g4;go_wp2_with fail;exact ⟨⟨j+1,true,rfl,by go_num,by omega,HT true,HOw⟩,by simp [intOf];omega⟩
         ·have e4:((x.toNat:Int) == 46)=false:=beq_eq_false_iff_ne.2 g4;go_wp2_with fail;exact ⟨⟨j+1,false,rfl,by go_num,by omega,HT false,HOw⟩,by simp [intOf];omega⟩
       ·skip
        go_wp2_with fail;exact ⟨⟨j+1,false,rfl,by go_num,by omega,HT false,HOw⟩,by simp [intOf];omega⟩
      ·skip
       go_wp2_with fail;exact ⟨⟨j+1,false,rfl,by go_num,by omega,HT false,HOw⟩,by simp [intOf];omega⟩
   ·obtain rfl:j=n:=(by omega);go_wp2_with fail
    go_ret
    first | exact ⟨b,rfl,HC.out,HOl.out⟩ | exact ⟨HC.out,HOl.out⟩
end
section
open Go.RowKit
set_option maxHeartbeats 8000000 in
theorem goodKey10_any (s:Bs) (w0:World) (hb:s.length≤140737488355328):Calls Tryz.prog 63 #[.string (str s)] w0 fun e w'=>∃ v,e=.returned (.bool v)∧(v=true→1≤s.length∧s.length≤200)∧Only [] w0 w':=by
 obtain ⟨n,hn⟩:∃ n,s.length=n:=⟨_,rfl⟩;have hsz:(str s).size=n:=(by rw [str_size,hn]);have Hn:=Lib.hid hn;have Hat:Hid (∀ (j:Nat) x,s[j]?=some x→∀ hh:j < (str s).size,(str s)[j]'hh=x):=Lib.hid fun j x h=>str_at h;rw [hn] at hb ⊢;obtain ⟨S,hS⟩:∃ S,str s=S:=⟨_,rfl⟩;rw [hS] at hsz Hat ⊢;clear hn hS
 go_enter Tryz.func63,Tryz.ntmps63
 have hcase:((1:Int)≤(n:Int)∧(n:Int)≤200)∨¬ (1:Int)≤(n:Int)∨((1:Int)≤(n:Int)∧¬ (n:Int)≤200):=by omega
 rcases hcase with ⟨h1,h2⟩ | h1 | ⟨h1,h2⟩
 all_goals
  go_wp2_with fail
  go_loopw [3,4] (fun f a wl=>∃ (j:Nat) (b:Bool),f=.bool b∧a=.int .i64 (j:Int)∧j≤n∧Hid (b=true→1≤n∧n≤200)∧Hid (Only [] w0 wl)) (fun _ a _=>n - (intOf a).toNat)
  case atStart=>exact ⟨0,_,rfl,rfl,Nat.zero_le _,Lib.hid (by first | (intro h;cases h;done) | (intro _;omega)),Lib.hid (Only.refl _ _)⟩
  case round =>
   (try clear h2)
   clear h1;obtain ⟨j,b,rfl,rfl,hj,HC,HOl⟩:=hrel
   by_cases hlt:j < n
   ·obtain ⟨x,hx⟩:∃ x,s[j]?=some x:=⟨_,List.getElem?_eq_getElem (by rw [Hn.out];exact hlt)⟩;have hix:=Hat.out j x hx (by omega);have hxl:=x.toNat_lt;clear hx
    cases b with
    | false =>
     go_wp2_with fail;exact ⟨⟨j+1,false,rfl,by go_num,by omega,Lib.hid (by simp),HOl⟩,by simp [intOf];omega⟩
    | true =>
     by_cases g1:(32:Int)≤(x.toNat:Int)
     ·by_cases g2:(x.toNat:Int)≤126
      ·skip
       go_wp2_with fail;exact ⟨⟨j+1,true,rfl,by go_num,by omega,HC,HOl⟩,by simp [intOf];omega⟩
      ·skip
       go_wp2_with fail;exact ⟨⟨j+1,false,rfl,by go_num,by omega,Lib.hid (by simp),HOl⟩,by simp [intOf];omega⟩
     ·skip
      go_wp2_with fail;exact ⟨⟨j+1,false,rfl,by go_num,by omega,Lib.hid (by simp),HOl⟩,by simp [intOf];omega⟩
   ·obtain rfl:j=n:=(by omega);go_wp2_with fail
    go_ret
    first | exact ⟨b,rfl,HC.out,HOl.out⟩ | exact ⟨HC.out,HOl.out⟩
end
section
open Go.RowKit
theorem eqId (a b:Cid) (w:World):(Op.equalIn 10000 31 (idV a) (idV b)).run Tryz.prog w=.ok (decide (a=b)) w:=by
 have hu:Tryz.prog.underlying 31=some (.struct (Tryz.prog.fieldsOf 31)):=(by kernel_rfl);have hs:Tryz.prog.stoodInHeld 31=false:=(by kernel_rfl);have h:=Tryz.underlying31;unfold idV;rw [show (10000:Nat)=9999+1 from rfl,run_equalIn_agg w 9999 31 _ _ hu hs];simp only [Program.fieldsOf,h];have q3:=fun (x y:Int) (w:World)=>run_equalIn_int (P:=Tryz.prog) w 9998 3 .i64 .i64 x y Tryz.underlying3
 simp [Op.eqFields,part,Tryz.isAgg3,q3]
 obtain ⟨a1,a2,a3⟩:=a;obtain ⟨b1,b2,b3⟩:=b;simp only [Cid.mk.injEq]
 by_cases h1:a1=b1 <;> by_cases h2:a2=b2 <;> by_cases h3:a3=b3 <;> simp [h1,h2,h3]
end
section
open Go.RowKit
def sgn (a b:Bool):Int:=if a=true then -1 else if b=true then 0 else 1
theorem isNaN_int (x:Int) (w:World):Calls Tryz.prog 129 #[.int .i64 x] w fun e w'=>e=.returned (.bool false)∧w=w':=by
 go_enter Tryz.func129,Tryz.ntmps129
 go_wp2_with fail
 go_ret
 exact ⟨by simp,rfl⟩
theorem compare_int (x y:Int) (w:World):Calls Tryz.prog 93 #[.int .i64 x,.int .i64 y] w fun e w'=>e=.returned (.int .i64 (sgn (decide (x < y)) (decide (x=y))))∧w=w':=by
 by_cases h1:x < y
 ·rw [decide_eq_true h1];unfold sgn
  go_enter Tryz.func93,Tryz.ntmps93
  go_wp2_with fail;(with_reducible refine (isNaN_int x w).mono ?_);rintro e w' ⟨rfl,rfl⟩;go_wp2_with fail;(with_reducible refine (isNaN_int y w).mono ?_);rintro e w' ⟨rfl,rfl⟩;go_wp2_with fail
  go_ret
  exact ⟨rfl,rfl⟩
 ·rw [decide_eq_false h1]
  by_cases h2:y < x
  ·rw [decide_eq_false (show ¬ x=y by omega)];unfold sgn
   go_enter Tryz.func93,Tryz.ntmps93
   go_wp2_with fail;(with_reducible refine (isNaN_int x w).mono ?_);rintro e w' ⟨rfl,rfl⟩;go_wp2_with fail;(with_reducible refine (isNaN_int y w).mono ?_);rintro e w' ⟨rfl,rfl⟩;go_wp2_with fail
   go_ret
   exact ⟨rfl,rfl⟩
  ·rw [decide_eq_true (show x=y by omega)];unfold sgn
   go_enter Tryz.func93,Tryz.ntmps93
   go_wp2_with fail;(with_reducible refine (isNaN_int x w).mono ?_);rintro e w' ⟨rfl,rfl⟩;go_wp2_with fail;(with_reducible refine (isNaN_int y w).mono ?_);rintro e w' ⟨rfl,rfl⟩;go_wp2_with fail
   go_ret
   exact ⟨rfl,rfl⟩
theorem byNode_any (f:Cid) (k:Int) (w:World):Calls Tryz.prog 51 #[idV f,.int .i64 k] w fun e w'=>e=.returned (.int .i64 (sgn (decide (ltZ f.node k)) (decide (f.node=k))))∧Only [] w w':=by
 obtain ⟨w1,hw1⟩:∃ w1,w1=w.alloc (.cells #[.int .i64 f.node,.int .i64 f.boot,.int .i64 f.seq] 31):=⟨_,rfl⟩;have o1:Only [] w w1:=(by rw [hw1];exact Only.alloc _ _);have r1:Row w1 w.heap.size 31 (idCells f):=(by rw [hw1];exact Row.newOf _ _ _ _ rfl);have hc:=compare_int f.node k w1;have c0:=r1.cell (i:=0) rfl;have Ho:=Lib.hid o1;have Hw:=Lib.hid hw1;unfold ltZ;unfold idV;clear o1 r1 hw1
 go_enter Tryz.func51,Tryz.ntmps51
 go_upto_region 1 with (fail)
 rw [← Hw.out];go_wp2_with fail;refine hc.mono ?_;clear hc c0;rintro e w' ⟨rfl,rfl⟩;go_wp2_with fail
 go_ret
 exact ⟨rfl,Ho.out⟩
end
section
open Go.RowKit
def orL (xs:List Int):Int:=(xs.find? fun x=>decide (x≠0)).getD 0
def zCells (xs:List Int):List Value:=xs.map fun x=>.int .i64 x
theorem orInt_any (p:Option Addr) (n c:Nat) (xs:List Int) (w:World) (hn:xs.length=n) (hb:n≤1000) (hx:Rd w p (zCells xs)) :
  Calls Tryz.prog 94 #[.slice p n c] w fun e w'=>e=.returned (.int .i64 (orL xs))∧w=w':=by
 have Hx:=Lib.hid hx;have Hn:=Lib.hid hn;clear hx hn
 go_enter Tryz.func94,Tryz.ntmps94
 go_wp2_with fail
 go_loop [8] (fun s8=>∃ i:Nat,s8=.int .i64 (i:Int)∧i≤n∧Hid (orL (xs.drop i)=orL xs)) (fun s8=>n - (intOf s8).toNat)
 case atStart=>exact ⟨0,rfl,Nat.zero_le _,Lib.hid (by rw [List.drop_zero])⟩
 case round =>
  obtain ⟨i,rfl,hi,HE⟩:=hrel
  by_cases hlt:i < n
  ·have hlx:i < xs.length:=(by rw [Hn.out];exact hlt);obtain ⟨x,hxx⟩:∃ x,xs[i]?=some x:=⟨_,List.getElem?_eq_getElem hlx⟩;have hxg:xs[i]=x:=(List.getElem?_eq_some_iff.1 hxx).2
   obtain ⟨b,off,hpe,hcell⟩:∃ b off,p=some ⟨b,off,none⟩∧w.cell? ⟨b,off+i,none⟩=some (.int .i64 x):=by
    rcases Hx.out with h | ⟨b,off,h1,h2⟩
    ·have:(zCells xs).length=0:=(by rw [h];rfl);rw [zCells,List.length_map] at this;omega
    ·exact ⟨b,off,h1,h2 i _ (by unfold zCells;rw [List.getElem?_map,hxx];rfl)⟩
   subst hpe;have hd:xs.drop i=x :: xs.drop (i+1):=by rw [List.drop_eq_getElem_cons hlx,hxg]
   by_cases hz:x=0
   ·have HE2:Hid (orL (xs.drop (i+1))=orL xs):=Lib.hid (by
     rw [← HE.out,hd];unfold orL
     rw [List.find?_cons_of_neg (by simp [hz])])
    have hzz:(x != 0)=false:=(by simp [hz]);clear hd hxg hxx hz hlx;go_wp2_with fail
    go_round
    case rel=>exact ⟨i+1,by go_num,by omega,HE2⟩
    case measure=>simp [intOf];omega
   ·have HE2:Hid (orL xs=x):=Lib.hid (by
     rw [← HE.out,hd];unfold orL;rw [List.find?_cons_of_pos (by simp [hz])]
     rfl)
    have hzz:(x != 0)=true:=(by simp [hz]);clear hd hxg hxx hz hlx;go_wp2_with fail
    go_ret
    exact ⟨by rw [HE2.out];rfl,rfl⟩
  ·obtain rfl:i=n:=by omega
   have HE2:Hid (orL xs=0):=Lib.hid (by
    rw [← HE.out,List.drop_eq_nil_of_le (by rw [Hn.out];exact Nat.le_refl _)]
    rfl)
   go_wp2_with fail
   go_ret
   exact ⟨by rw [HE2.out];rfl,rfl⟩
def SlZ (xs:List Int):Value→World→Prop:=fun v w=>∃ g,v=.slice (some ⟨g,0,none⟩) 3 3∧Rd w (some ⟨g,0,none⟩) (zCells xs)
theorem SlZ.stable (xs:List Int):Stable (Only []) (SlZ xs):=fun _ _ _ ⟨g,h1,h2⟩ ho=>⟨g,h1,h2.only0 ho⟩
theorem or_sgn (x y:Cid):orL [sgn (decide (x.node < y.node)) (decide (x.node=y.node)),sgn (decide (x.boot < y.boot)) (decide (x.boot=y.boot)),sgn (decide (x.seq < y.seq)) (decide (x.seq=y.seq))]=sgn (decide (ltI x y)) (decide (x=y)):=by
 obtain ⟨a1,a2,a3⟩:=x;obtain ⟨b1,b2,b3⟩:=y;unfold ltI orL sgn;simp only [Cid.mk.injEq]
 by_cases h1:a1 < b1
 ·simp [h1]
 ·by_cases h2:a1=b1
  ·subst h2
   by_cases h3:a2 < b2
   ·simp [h3]
   ·by_cases h4:a2=b2
    ·subst h4
     by_cases h5:a3 < b3
     ·simp [h5]
     ·by_cases h6:a3=b3
      ·subst h6;simp
      ·simp [h5,h6]
    ·simp [h3,h4]
  ·simp [h1,h2]
set_option maxHeartbeats 4000000 in
theorem cmpId_any (x y:Cid) (w0:World):Calls Tryz.prog 52 #[idV x,idV y] w0 fun e w'=>e=.returned (.int .i64 (sgn (decide (ltI x y)) (decide (x=y))))∧Only [] w0 w':=by
 obtain ⟨w1,hw1⟩:∃ w1,w1=w0.alloc (.cells #[.int .i64 x.node,.int .i64 x.boot,.int .i64 x.seq] 31):=⟨_,rfl⟩;obtain ⟨w2,hw2⟩:∃ w2,w2=w1.alloc (.cells #[.int .i64 y.node,.int .i64 y.boot,.int .i64 y.seq] 31):=⟨_,rfl⟩;have o1:Only [] w0 w1:=(by rw [hw1];exact Only.alloc _ _);have o2:Only [] w1 w2:=(by rw [hw2];exact Only.alloc _ _);have s1:w1.heap.size=w0.heap.size+1:=(by rw [hw1];simp);have r1:Row w2 w0.heap.size 31 (idCells x):=(show Row w1 w0.heap.size 31 (idCells x) by rw [hw1];exact Row.newOf _ _ _ _ rfl).only0 o2;have r2:Row w2 (w0.heap.size+1) 31 (idCells y):=by rw [← s1,hw2];exact Row.newOf _ _ _ _ rfl
 have a0:=Lib.hid (r1.cell (i:=0) rfl);have a1:=Lib.hid (r1.cell (i:=1) rfl);have a2:=Lib.hid (r1.cell (i:=2) rfl);have b0:=Lib.hid (r2.cell (i:=0) rfl);have b1:=Lib.hid (r2.cell (i:=1) rfl);have b2:=Lib.hid (r2.cell (i:=2) rfl);have HO:=Lib.hid (o1.trans0 o2);have Hw1:=Lib.hid hw1;have Hw2:=Lib.hid hw2;unfold idV;clear o1 o2 s1 r1 r2 hw1 hw2
 go_enter Tryz.func52,Tryz.ntmps52
 go_wp2_with fail;rw [← Hw1.out,← Hw2.out];refine wp_region_rg2 (Only []) [[(2,none)],[(5,some 0)],[(3,none)],[(7,some 0)],[(6,some 2),(8,some 0)],[(2,none)],[(10,some 0)],[(3,none)],[(12,some 0)],[(11,some 2),(13,some 0)],[(2,none)],[(15,some 0)],[(3,none)],[(17,some 0)],[(16,some 2),(18,some 0)],[(9,some 10),(14,some 5),(19,some 0)],[(20,some 0)],[(21,some 0)]] [(4,0)] [none,none,none,none,some 4,some 5,some 6,some 7,some 8,some 9,some 10,some 11,some 12,some 13,some 14,some 15,some 16,some 17,some 18,some 19,some 20,some 21] (by kernel_rfl) rfl (by kernel_rfl) (fun _=>Only.refl _ _) (fun _ _ _ h k=>h.trans0 k) (Only.drew _) (by kernel_rfl) ?_
 apply rg_ev
 ·rintro a w hR ⟨(e2:_=_),-⟩;refine rg_plain rfl fun K hK=>?_;go_simp;exact hK _ _ rfl (Only.refl _ _)
 apply rg_ev
 ·rintro a w hR ⟨(e5:_=_),-⟩;refine rg_plain rfl fun K hK=>?_;have g:=hR.cell a0.out (by simp);go_simp;exact hK _ _ rfl (Only.refl _ _)
 apply rg_ev
 ·rintro a w hR ⟨(e3:_=_),-⟩;refine rg_plain rfl fun K hK=>?_;go_simp;exact hK _ _ rfl (Only.refl _ _)
 apply rg_ev
 ·rintro a w hR ⟨(e7:_=_),-⟩;refine rg_plain rfl fun K hK=>?_;have g:=hR.cell b0.out (by simp);go_simp;exact hK _ _ rfl (Only.refl _ _)
 apply rg_ev
 ·rintro a w hR ⟨(e6:_=_),(e8:_=_),-⟩;refine rg_plain rfl fun K hK=>?_;go_simp;(with_reducible refine (compare_int x.node y.node w).mono ?_);rintro e w' ⟨rfl,rfl⟩;exact hK _ _ rfl (Only.refl _ _)
 apply rg_ev
 ·rintro a w hR ⟨(e2:_=_),-⟩;refine rg_plain rfl fun K hK=>?_;go_simp;exact hK _ _ rfl (Only.refl _ _)
 apply rg_ev
 ·rintro a w hR ⟨(e10:_=_),-⟩;refine rg_plain rfl fun K hK=>?_;have g:=hR.cell a1.out (by simp);go_simp;exact hK _ _ rfl (Only.refl _ _)
 apply rg_ev
 ·rintro a w hR ⟨(e3:_=_),-⟩;refine rg_plain rfl fun K hK=>?_;go_simp;exact hK _ _ rfl (Only.refl _ _)
 apply rg_ev
 ·rintro a w hR ⟨(e12:_=_),-⟩;refine rg_plain rfl fun K hK=>?_;have g:=hR.cell b1.out (by simp);go_simp;exact hK _ _ rfl (Only.refl _ _)
 apply rg_ev
 ·rintro a w hR ⟨(e11:_=_),(e13:_=_),-⟩;refine rg_plain rfl fun K hK=>?_;go_simp;(with_reducible refine (compare_int x.boot y.boot w).mono ?_);rintro e w' ⟨rfl,rfl⟩;exact hK _ _ rfl (Only.refl _ _)
 apply rg_ev
 ·rintro a w hR ⟨(e2:_=_),-⟩;refine rg_plain rfl fun K hK=>?_;go_simp;exact hK _ _ rfl (Only.refl _ _)
 apply rg_ev
 ·rintro a w hR ⟨(e15:_=_),-⟩;refine rg_plain rfl fun K hK=>?_;have g:=hR.cell a2.out (by simp);go_simp;exact hK _ _ rfl (Only.refl _ _)
 apply rg_ev
 ·rintro a w hR ⟨(e3:_=_),-⟩;refine rg_plain rfl fun K hK=>?_;go_simp;exact hK _ _ rfl (Only.refl _ _)
 apply rg_ev
 ·rintro a w hR ⟨(e17:_=_),-⟩;refine rg_plain rfl fun K hK=>?_;have g:=hR.cell b2.out (by simp);go_simp;exact hK _ _ rfl (Only.refl _ _)
 apply rg_ev
 ·rintro a w hR ⟨(e16:_=_),(e18:_=_),-⟩;refine rg_plain rfl fun K hK=>?_;go_simp;(with_reducible refine (compare_int x.seq y.seq w).mono ?_);rintro e w' ⟨rfl,rfl⟩;exact hK _ _ rfl (Only.refl _ _)
 refine ⟨SlZ [sgn (decide (x.node < y.node)) (decide (x.node=y.node)),sgn (decide (x.boot < y.boot)) (decide (x.boot=y.boot)),sgn (decide (x.seq < y.seq)) (decide (x.seq=y.seq))],SlZ.stable _,fun a w hR hf=>?_,?_⟩
 ·obtain ⟨e9,e14,e19,-⟩:=hf;replace e9:a.tmps.getD 9 undef=_:=e9;replace e14:a.tmps.getD 14 undef=_:=e14;replace e19:a.tmps.getD 19 undef=_:=e19;refine rg_plain rfl fun K hK=>?_;have e9':=e9;rw [Array.getD_eq_getD_getElem?] at e9';have e14':=e14;rw [Array.getD_eq_getD_getElem?] at e14';have e19':=e19;rw [Array.getD_eq_getD_getElem?] at e19';go_simp;refine hK _ _ ⟨w.heap.size,rfl,(Row.newOf w 3 _ _ (by rfl)).rd0⟩ (Only.alloc w _)
 apply rg_ev
 ·intro a w hR hf;obtain ⟨e20,-⟩:=hf;replace e20:SlZ [sgn (decide (x.node < y.node)) (decide (x.node=y.node)),sgn (decide (x.boot < y.boot)) (decide (x.boot=y.boot)),sgn (decide (x.seq < y.seq)) (decide (x.seq=y.seq))] (a.tmps.getD 20 undef) w:=e20;refine rg_plain rfl fun K hK=>?_;obtain ⟨g,e20,hrd⟩:=e20;go_simp;(with_reducible refine (orInt_any (some ⟨g,0,none⟩) 3 3 _ w rfl (by decide) hrd).mono ?_);rintro e w' ⟨rfl,rfl⟩;exact hK _ _ rfl (Only.refl _ _)
 apply rg_ev
 ·rintro a w hR ⟨(e21:_=_),-⟩;refine rg_plain rfl fun K hK=>?_;go_simp;exact hK _ _ rfl (Only.refl _ _)
 intro fR1 wR1 hRR1 hf;dsimp only [mergeT];obtain ⟨e4,-⟩:=hf;replace e4:fR1 4=_:=e4;rw [e4];go_wp2_with fail
 go_ret
 exact ⟨by rw [or_sgn];rfl,HO.out.trans0 hRR1⟩
end
section
open Go.RowKit
def LObj.key (x:LObj):Bs:=x.o.key
def LUpl.id (x:LUpl):Cid:=x.u.id
theorem isNaN_str (x:Bs) (w:World):Calls Tryz.prog 132 #[.string (str x)] w fun e w'=>e=.returned (.bool false)∧w=w':=by
 have h:=str_eqb x x;rw [decide_eq_true rfl] at h
 go_enter Tryz.func132,Tryz.ntmps132
 go_wp2_with fail
 go_ret
 exact ⟨by simp,rfl⟩
theorem compare_str (x y:Bs) (w:World):Calls Tryz.prog 97 #[.string (str x),.string (str y)] w fun e w'=>e=.returned (.int .i64 (sgn (decide (lt x y)) (decide (x=y))))∧w=w':=by
 have h1:=str_ltb x y;have h2:=str_ltb y x
 by_cases hl:lt x y
 ·rw [decide_eq_true hl] at h1 ⊢;unfold sgn;clear h2
  go_enter Tryz.func97,Tryz.ntmps97
  go_wp2_with fail;(with_reducible refine (isNaN_str x w).mono ?_);rintro e w' ⟨rfl,rfl⟩;go_wp2_with fail;(with_reducible refine (isNaN_str y w).mono ?_);rintro e w' ⟨rfl,rfl⟩;go_wp2_with fail
  go_ret
  exact ⟨rfl,rfl⟩
 ·by_cases hg:lt y x
  ·have hne:¬ x=y:=fun e=>(by subst e;exact hl hg);rw [decide_eq_false hl] at h1 ⊢;rw [decide_eq_true hg] at h2;have h3:=str_eqb x y;rw [decide_eq_false hne] at h3 ⊢;unfold sgn;clear hne
   go_enter Tryz.func97,Tryz.ntmps97
   go_wp2_with fail;(with_reducible refine (isNaN_str x w).mono ?_);rintro e w' ⟨rfl,rfl⟩;go_wp2_with fail;(with_reducible refine (isNaN_str y w).mono ?_);rintro e w' ⟨rfl,rfl⟩;go_wp2_with fail
   go_ret
   exact ⟨rfl,rfl⟩
  ·have he:x=y:=by
    rcases lt_total x y with h | h | h
    ·exact absurd h hl
    ·exact h
    ·exact absurd h hg
   rw [decide_eq_false hl] at h1 ⊢;rw [decide_eq_false hg] at h2;have h3:=str_eqb x y;rw [decide_eq_true he] at h3 ⊢;unfold sgn;clear he
   go_enter Tryz.func97,Tryz.ntmps97
   go_wp2_with fail;(with_reducible refine (isNaN_str x w).mono ?_);rintro e w' ⟨rfl,rfl⟩;go_wp2_with fail;(with_reducible refine (isNaN_str y w).mono ?_);rintro e w' ⟨rfl,rfl⟩;go_wp2_with fail
   go_ret
   exact ⟨rfl,rfl⟩
theorem byName_any (b:LBk) (k:Bs) (w:World):Calls Tryz.prog 55 #[lbV b,.string (str k)] w fun e w'=>e=.returned (.int .i64 (sgn (decide (lt b.name k)) (decide (b.name=k))))∧Only [] w w':=by
 obtain ⟨w1,hw1⟩:∃ w1,w1=w.alloc (.cells #[.string (str b.name),.int .i64 b.time,.int .i64 b.days,.slice b.po b.os.length b.co,.slice b.pu b.us.length b.cu] 60):=⟨_,rfl⟩;have o1:Only [] w w1:=(by rw [hw1];exact Only.alloc _ _);have r1:Row w1 w.heap.size 60 (lbCells b):=(by rw [hw1];exact Row.newOf _ _ _ _ rfl);have hc:=compare_str b.name k w1;have c0:=r1.cell (i:=0) rfl;have Ho:=Lib.hid o1;have Hw:=Lib.hid hw1;unfold lbV;clear o1 r1 hw1
 go_enter Tryz.func55,Tryz.ntmps55
 go_upto_region 1 with (fail)
 rw [← Hw.out];go_wp2_with fail;refine hc.mono ?_;clear hc c0;rintro e w' ⟨rfl,rfl⟩;go_wp2_with fail
 go_ret
 exact ⟨rfl,Ho.out⟩
theorem byKey_any (b:LObj) (k:Bs) (w:World):Calls Tryz.prog 67 #[loV b,.string (str k)] w fun e w'=>e=.returned (.int .i64 (sgn (decide (lt b.key k)) (decide (b.key=k))))∧Only [] w w':=by
 obtain ⟨w1,hw1⟩:∃ w1,w1=w.alloc (.cells #[.string (str b.o.key),.int .i64 b.o.size,.string (str b.o.etag),.int .i64 b.o.time,.slice b.q b.o.pcs.length b.c] 48):=⟨_,rfl⟩;have o1:Only [] w w1:=(by rw [hw1];exact Only.alloc _ _);have r1:Row w1 w.heap.size 48 (loCells b):=(by rw [hw1];exact Row.newOf _ _ _ _ rfl);have hc:=compare_str b.o.key k w1;have c0:=r1.cell (i:=0) rfl;have Ho:=Lib.hid o1;have Hw:=Lib.hid hw1;unfold loV LObj.key;clear o1 r1 hw1
 go_enter Tryz.func67,Tryz.ntmps67
 go_upto_region 1 with (fail)
 rw [← Hw.out];go_wp2_with fail;refine hc.mono ?_;clear hc c0;rintro e w' ⟨rfl,rfl⟩;go_wp2_with fail
 go_ret
 exact ⟨rfl,Ho.out⟩
theorem byNumber_any (p:CPart) (k:Int) (w:World):Calls Tryz.prog 136 #[ptV p,.int .i64 k] w fun e w'=>e=.returned (.int .i64 (sgn (decide (ltZ p.num k)) (decide (p.num=k))))∧Only [] w w':=by
 obtain ⟨w1,hw1⟩:∃ w1,w1=w.alloc (.cells #[.int .i64 p.num,.int .i64 p.pc.blob.node,.int .i64 p.pc.blob.boot,.int .i64 p.pc.blob.seq,.int .i64 p.pc.size,.string (str p.pc.etag)] 111):=⟨_,rfl⟩;have o1:Only [] w w1:=(by rw [hw1];exact Only.alloc _ _);have r1:Row w1 w.heap.size 111 (ptCells p):=(by rw [hw1];exact Row.newOf _ _ _ _ rfl);have hc:=compare_int p.num k w1;have c0:=r1.cell (i:=0) rfl;have Ho:=Lib.hid o1;have Hw:=Lib.hid hw1;unfold ltZ;unfold ptV;clear o1 r1 hw1
 go_enter Tryz.func136,Tryz.ntmps136
 go_upto_region 1 with (fail)
 rw [← Hw.out];go_wp2_with fail;refine hc.mono ?_;clear hc c0;rintro e w' ⟨rfl,rfl⟩;go_wp2_with fail
 go_ret
 exact ⟨rfl,Ho.out⟩
theorem byId_any (u:LUpl) (k:Cid) (w:World):Calls Tryz.prog 70 #[luV u,idV k] w fun e w'=>e=.returned (.int .i64 (sgn (decide (ltI u.id k)) (decide (u.id=k))))∧Only [] w w':=by
 obtain ⟨w1,hw1⟩:∃ w1,w1=w.alloc (.cells #[.int .i64 u.u.id.node,.int .i64 u.u.id.boot,.int .i64 u.u.id.seq,.string (str u.u.key),.slice u.q u.u.parts.length u.c] 54):=⟨_,rfl⟩;obtain ⟨w2,hw2⟩:∃ w2,w2=w1.alloc (.cells #[.int .i64 k.node,.int .i64 k.boot,.int .i64 k.seq] 31):=⟨_,rfl⟩;have o1:Only [] w w1:=(by rw [hw1];exact Only.alloc _ _);have o2:Only [] w1 w2:=(by rw [hw2];exact Only.alloc _ _);have s1:w1.heap.size=w.heap.size+1:=(by rw [hw1];simp);have r1:Row w2 w.heap.size 54 (luCells u):=(show Row w1 w.heap.size 54 (luCells u) by rw [hw1];exact Row.newOf _ _ _ _ rfl).only0 o2
 have r2:Row w2 (w.heap.size+1) 31 (idCells k):=(by rw [← s1,hw2];exact Row.newOf _ _ _ _ rfl);have hc:=cmpId_any u.u.id k w2;have c0:=r1.cell (i:=0) rfl;have c1:=r1.cell (i:=1) rfl;have c2:=r1.cell (i:=2) rfl;have d0:=r2.cell (i:=0) rfl;have d1:=r2.cell (i:=1) rfl;have d2:=r2.cell (i:=2) rfl;rw [hw1] at hw2;have Ho:=Lib.hid (o1.trans0 o2);have Hw:=Lib.hid hw2;unfold idV at hc;unfold luV idV LUpl.id;clear o1 r1 hw1 o2 r2 hw2 s1
 go_enter Tryz.func70,Tryz.ntmps70
 go_upto_region 1 with (fail)
 rw [← Hw.out];go_wp2_with fail;refine hc.mono ?_;clear hc c0 c1 c2 d0 d1 d2;rintro e w' ⟨rfl,o'⟩;go_wp2_with fail
 go_ret
 exact ⟨rfl,Ho.out.trans0 o'⟩
end
section
open Go.RowKit
set_option maxHeartbeats 8000000 in
theorem bsfBk_any (p:Option Addr) (n c:Nat) (xs:List LBk) (k:Bs) (w0:World) (hn:xs.length=n) (hb:n≤1000000) (hp:p=none→n=0) (hx:Rd w0 p (xs.flatMap lbCells)) (hs:SortB LBk.name lt xs) :
  Calls Tryz.prog 96 #[.slice p n c,.string (str k),.func (.func 55) #[] #[]] w0 fun e w'=>e=.returned (.tuple #[.int .i64 ((posL LBk.name lt xs k:Nat):Int),.bool (thereL LBk.name lt xs k)])∧Only [] w0 w':=by
 have Hx:=Lib.hid hx;have Hs:=Lib.hid hs;have Hn:=Lib.hid hn;have Hp:=Lib.hid hp;clear hx hs hn hp
 go_enter Tryz.func96,Tryz.ntmps96
 go_wp2_with fail
 go_loopw [9,10] (fun s9 s10 wr=>∃ i j:Nat,s9=.int .i64 (i:Int)∧s10=.int .i64 (j:Int)∧i≤j∧j≤n∧Hid ((∀ x,0 < i→xs[i - 1]?=some x→lt (LBk.name x) k)∧(∀ x,xs[j]?=some x→¬ lt (LBk.name x) k))∧Hid (Only [] w0 wr)) (fun s9 s10 _=>(intOf s10).toNat - (intOf s9).toNat)
 case atStart=>exact ⟨0,n,rfl,rfl,Nat.zero_le _,Nat.le_refl _,Lib.hid ⟨fun x h=>absurd h (by omega),fun x h=>by have:=(List.getElem?_eq_some_iff.1 h).1;rw [Hn.out] at this;omega⟩,Lib.hid (Only.refl _ _)⟩
 case round =>
  obtain ⟨i,j,rfl,rfl,hij,hjn,HI,HO⟩:=hrel
  by_cases hlt:i < j
  ·obtain ⟨x,hxx⟩:∃ x,xs[(i+j) / 2]?=some x:=⟨_,List.getElem?_eq_getElem (by rw [Hn.out];omega)⟩;have hrd:=Hx.out.only0 HO.out;have hne:xs.flatMap lbCells≠[]:=fun e'=>(by have:=flat_get lbCells 5 lbCells_len xs _ x 0 hxx (by omega);rw [e'] at this;cases this);obtain ⟨b,off,rfl,-⟩:=hrd.lt hne;have x0:=rd_elem lbCells_len hrd hxx (r:=0) rfl;have x1:=rd_elem lbCells_len hrd hxx (r:=1) rfl;have x2:=rd_elem lbCells_len hrd hxx (r:=2) rfl;have x3:=rd_elem lbCells_len hrd hxx (r:=3) rfl;have x4:=rd_elem lbCells_len hrd hxx (r:=4) rfl;rw [Addr.add_lit,← Nat.add_assoc] at x0 x1 x2 x3 x4
   rw [Nat.add_zero] at x0;have hby:=byName_any x k wr;have Hxx:=Lib.hid hxx;unfold lbV at hby;have hmid:(i+j) / 2 < n:=(by omega);clear hrd hne hxx
   by_cases hl:lt (LBk.name x) k
   ·rw [decide_eq_true hl] at hby;unfold sgn at hby;rw [if_pos rfl] at hby;have Hl:=Lib.hid hl;clear hl;go_wp2_with fail;refine hby.mono ?_;clear hby x0 x1 x2 x3 x4;rintro e w' ⟨rfl,o'⟩
    have HI2:Hid ((∀ x,0 < (i+j) / 2+1→xs[(i+j) / 2+1 - 1]?=some x→lt (LBk.name x) k)∧(∀ x,xs[j]?=some x→¬ lt (LBk.name x) k)):=Lib.hid ⟨fun y _ hy=>by
     rw [Nat.add_sub_cancel,Hxx.out] at hy
     cases hy
     exact Hl.out,HI.out.2⟩
    have HO2:=Lib.hid (HO.out.trans0 o');clear o';go_wp2_with fail;refine ⟨⟨(i+j) / 2+1,j,by go_num,rfl,by omega,hjn,HI2,HO2⟩,?_⟩
    simp [intOf];omega
   ·rw [decide_eq_false hl] at hby;unfold sgn at hby;rw [if_neg (by simp)] at hby;have Hl:=Lib.hid hl
    have HI2:Hid ((∀ x,0 < i→xs[i - 1]?=some x→lt (LBk.name x) k)∧(∀ x,xs[(i+j) / 2]?=some x→¬ lt (LBk.name x) k)):=Lib.hid ⟨HI.out.1,fun y hy=>by
     rw [Hxx.out] at hy
     cases hy
     exact Hl.out⟩
    clear hl
    by_cases hk:LBk.name x=k
    ·rw [decide_eq_true hk,if_pos rfl] at hby;clear hk;go_wp2_with fail;refine hby.mono ?_;clear hby x0 x1 x2 x3 x4;rintro e w' ⟨rfl,o'⟩;have HO2:=Lib.hid (HO.out.trans0 o');clear o';go_wp2_with fail;refine ⟨⟨i,(i+j) / 2,rfl,by go_num,by omega,by omega,HI2,HO2⟩,?_⟩
     simp [intOf];omega
    ·rw [decide_eq_false hk,if_neg (by simp)] at hby;clear hk;go_wp2_with fail;refine hby.mono ?_;clear hby x0 x1 x2 x3 x4;rintro e w' ⟨rfl,o'⟩;have HO2:=Lib.hid (HO.out.trans0 o');clear o';go_wp2_with fail;refine ⟨⟨i,(i+j) / 2,rfl,by go_num,by omega,by omega,HI2,HO2⟩,?_⟩
     simp [intOf];omega
  ·obtain rfl:i=j:=(by omega);have Hpos:Hid (posL LBk.name lt xs k=i):=Lib.hid (posL_eq linB Hs.out (by rw [Hn.out];exact hjn) HI.out.1 HI.out.2)
   by_cases hin:i < n
   ·obtain ⟨x,hxx⟩:∃ x,xs[i]?=some x:=⟨_,List.getElem?_eq_getElem (by rw [Hn.out];omega)⟩;have Hth:Hid (thereL LBk.name lt xs k=decide (LBk.name x=k)):=Lib.hid (by unfold thereL;rw [Hpos.out,hxx]);have hl:=HI.out.2 x hxx;have hrd:=Hx.out.only0 HO.out;have hne:xs.flatMap lbCells≠[]:=fun e'=>(by have:=flat_get lbCells 5 lbCells_len xs _ x 0 hxx (by omega);rw [e'] at this;cases this);obtain ⟨b,off,rfl,-⟩:=hrd.lt hne;have x0:=rd_elem lbCells_len hrd hxx (r:=0) rfl;have x1:=rd_elem lbCells_len hrd hxx (r:=1) rfl;have x2:=rd_elem lbCells_len hrd hxx (r:=2) rfl
    have x3:=rd_elem lbCells_len hrd hxx (r:=3) rfl;have x4:=rd_elem lbCells_len hrd hxx (r:=4) rfl;rw [Addr.add_lit,← Nat.add_assoc] at x0 x1 x2 x3 x4;rw [Nat.add_zero] at x0;have hby:=byName_any x k wr;unfold lbV sgn at hby;rw [decide_eq_false hl,if_neg (by simp)] at hby;clear hrd hne hxx hl
    by_cases hk:LBk.name x=k
    ·rw [decide_eq_true hk,if_pos rfl] at hby;rw [decide_eq_true hk] at Hth;clear hk;go_wp2_with fail;refine hby.mono ?_;clear hby x0 x1 x2 x3 x4;rintro e w' ⟨rfl,o'⟩;have HO2:=Lib.hid (HO.out.trans0 o');clear o';go_wp2_with fail
     go_ret2
     exact ⟨by rw [Hpos.out,Hth.out];rfl,HO2.out⟩
    ·rw [decide_eq_false hk,if_neg (by simp)] at hby;rw [decide_eq_false hk] at Hth;clear hk;go_wp2_with fail;refine hby.mono ?_;clear hby x0 x1 x2 x3 x4;rintro e w' ⟨rfl,o'⟩;have HO2:=Lib.hid (HO.out.trans0 o');clear o';go_wp2_with fail
     go_ret2
     exact ⟨by rw [Hpos.out,Hth.out];rfl,HO2.out⟩
   ·obtain rfl:i=n:=by omega
    have Hth:Hid (thereL LBk.name lt xs k=false):=Lib.hid (by
     unfold thereL
     rw [Hpos.out,List.getElem?_eq_none_iff.2 (by rw [Hn.out];exact Nat.le_refl _)])
    go_wp2_with fail
    go_ret2
    exact ⟨by rw [Hpos.out,Hth.out];rfl,HO.out⟩
theorem findBk_any (p:Option Addr) (n c:Nat) (xs:List LBk) (k:Bs) (w0:World) (hn:xs.length=n) (hb:n≤1000000) (hp:p=none→n=0) (hx:Rd w0 p (xs.flatMap lbCells)) (hs:SortB LBk.name lt xs) :
  Calls Tryz.prog 54 #[.slice p n c,.string (str k),.func (.func 55) #[] #[]] w0 fun e w'=>e=.returned (.tuple #[.int .i64 ((posL LBk.name lt xs k:Nat):Int),.bool (thereL LBk.name lt xs k)])∧Only [] w0 w':=by
 have h:=bsfBk_any p n c xs k w0 hn hb hp hx hs;generalize posL LBk.name lt xs k=i at h;generalize thereL LBk.name lt xs k=b at h
 go_enter Tryz.func54,Tryz.ntmps54
 go_wp2_with fail;refine h.mono ?_;clear h;rintro e w' ⟨rfl,o'⟩;go_wp2_with fail
 go_ret2
 exact ⟨rfl,o'⟩
end
section
open Go.RowKit
set_option maxHeartbeats 8000000 in
theorem bsfId_any (p:Option Addr) (n c:Nat) (xs:List Cid) (k:Int) (w0:World) (hn:xs.length=n) (hb:n≤1000000) (hp:p=none→n=0) (hx:Rd w0 p (xs.flatMap idCells)) (hs:SortB Cid.node ltZ xs) :
  Calls Tryz.prog 92 #[.slice p n c,.int .i64 k,.func (.func 51) #[] #[]] w0 fun e w'=>e=.returned (.tuple #[.int .i64 ((posL Cid.node ltZ xs k:Nat):Int),.bool (thereL Cid.node ltZ xs k)])∧Only [] w0 w':=by
 have Hx:=Lib.hid hx;have Hs:=Lib.hid hs;have Hn:=Lib.hid hn;have Hp:=Lib.hid hp;clear hx hs hn hp
 go_enter Tryz.func92,Tryz.ntmps92
 go_wp2_with fail
 go_loopw [9,10] (fun s9 s10 wr=>∃ i j:Nat,s9=.int .i64 (i:Int)∧s10=.int .i64 (j:Int)∧i≤j∧j≤n∧Hid ((∀ x,0 < i→xs[i - 1]?=some x→ltZ (Cid.node x) k)∧(∀ x,xs[j]?=some x→¬ ltZ (Cid.node x) k))∧Hid (Only [] w0 wr)) (fun s9 s10 _=>(intOf s10).toNat - (intOf s9).toNat)
 case atStart=>exact ⟨0,n,rfl,rfl,Nat.zero_le _,Nat.le_refl _,Lib.hid ⟨fun x h=>absurd h (by omega),fun x h=>by have:=(List.getElem?_eq_some_iff.1 h).1;rw [Hn.out] at this;omega⟩,Lib.hid (Only.refl _ _)⟩
 case round =>
  obtain ⟨i,j,rfl,rfl,hij,hjn,HI,HO⟩:=hrel
  by_cases hlt:i < j
  ·obtain ⟨x,hxx⟩:∃ x,xs[(i+j) / 2]?=some x:=⟨_,List.getElem?_eq_getElem (by rw [Hn.out];omega)⟩;have hrd:=Hx.out.only0 HO.out;have hne:xs.flatMap idCells≠[]:=fun e'=>(by have:=flat_get idCells 3 idCells_len xs _ x 0 hxx (by omega);rw [e'] at this;cases this);obtain ⟨b,off,rfl,-⟩:=hrd.lt hne;have x0:=rd_elem idCells_len hrd hxx (r:=0) rfl;have x1:=rd_elem idCells_len hrd hxx (r:=1) rfl;have x2:=rd_elem idCells_len hrd hxx (r:=2) rfl;rw [Addr.add_lit,← Nat.add_assoc] at x0 x1 x2;rw [Nat.add_zero] at x0;have hby:=byNode_any x k wr;have Hxx:=Lib.hid hxx
   unfold idV at hby;have hmid:(i+j) / 2 < n:=(by omega);clear hrd hne hxx
   by_cases hl:ltZ (Cid.node x) k
   ·rw [decide_eq_true hl] at hby;unfold sgn at hby;rw [if_pos rfl] at hby;have Hl:=Lib.hid hl;clear hl;go_wp2_with fail;refine hby.mono ?_;clear hby x0 x1 x2;rintro e w' ⟨rfl,o'⟩
    have HI2:Hid ((∀ x,0 < (i+j) / 2+1→xs[(i+j) / 2+1 - 1]?=some x→ltZ (Cid.node x) k)∧(∀ x,xs[j]?=some x→¬ ltZ (Cid.node x) k)):=Lib.hid ⟨fun y _ hy=>by
     rw [Nat.add_sub_cancel,Hxx.out] at hy
     cases hy
     exact Hl.out,HI.out.2⟩
    have HO2:=Lib.hid (HO.out.trans0 o');clear o';go_wp2_with fail;refine ⟨⟨(i+j) / 2+1,j,by go_num,rfl,by omega,hjn,HI2,HO2⟩,?_⟩
    simp [intOf];omega
   ·rw [decide_eq_false hl] at hby;unfold sgn at hby;rw [if_neg (by simp)] at hby;have Hl:=Lib.hid hl
    have HI2:Hid ((∀ x,0 < i→xs[i - 1]?=some x→ltZ (Cid.node x) k)∧(∀ x,xs[(i+j) / 2]?=some x→¬ ltZ (Cid.node x) k)):=Lib.hid ⟨HI.out.1,fun y hy=>by
     rw [Hxx.out] at hy
     cases hy
     exact Hl.out⟩
    clear hl
    by_cases hk:Cid.node x=k
    ·rw [decide_eq_true hk,if_pos rfl] at hby;clear hk;go_wp2_with fail;refine hby.mono ?_;clear hby x0 x1 x2;rintro e w' ⟨rfl,o'⟩;have HO2:=Lib.hid (HO.out.trans0 o');clear o';go_wp2_with fail;refine ⟨⟨i,(i+j) / 2,rfl,by go_num,by omega,by omega,HI2,HO2⟩,?_⟩
     simp [intOf];omega
    ·rw [decide_eq_false hk,if_neg (by simp)] at hby;clear hk;go_wp2_with fail;refine hby.mono ?_;clear hby x0 x1 x2;rintro e w' ⟨rfl,o'⟩;have HO2:=Lib.hid (HO.out.trans0 o');clear o';go_wp2_with fail;refine ⟨⟨i,(i+j) / 2,rfl,by go_num,by omega,by omega,HI2,HO2⟩,?_⟩
     simp [intOf];omega
  ·obtain rfl:i=j:=(by omega);have Hpos:Hid (posL Cid.node ltZ xs k=i):=Lib.hid (posL_eq linZ' Hs.out (by rw [Hn.out];exact hjn) HI.out.1 HI.out.2)
   by_cases hin:i < n
   ·obtain ⟨x,hxx⟩:∃ x,xs[i]?=some x:=⟨_,List.getElem?_eq_getElem (by rw [Hn.out];omega)⟩;have Hth:Hid (thereL Cid.node ltZ xs k=decide (Cid.node x=k)):=Lib.hid (by unfold thereL;rw [Hpos.out,hxx]);have hl:=HI.out.2 x hxx;have hrd:=Hx.out.only0 HO.out;have hne:xs.flatMap idCells≠[]:=fun e'=>(by have:=flat_get idCells 3 idCells_len xs _ x 0 hxx (by omega);rw [e'] at this;cases this);obtain ⟨b,off,rfl,-⟩:=hrd.lt hne;have x0:=rd_elem idCells_len hrd hxx (r:=0) rfl;have x1:=rd_elem idCells_len hrd hxx (r:=1) rfl;have x2:=rd_elem idCells_len hrd hxx (r:=2) rfl
    rw [Addr.add_lit,← Nat.add_assoc] at x0 x1 x2;rw [Nat.add_zero] at x0;have hby:=byNode_any x k wr;unfold idV sgn at hby;rw [decide_eq_false hl,if_neg (by simp)] at hby;clear hrd hne hxx hl
    by_cases hk:Cid.node x=k
    ·rw [decide_eq_true hk,if_pos rfl] at hby;rw [decide_eq_true hk] at Hth;clear hk;go_wp2_with fail;refine hby.mono ?_;clear hby x0 x1 x2;rintro e w' ⟨rfl,o'⟩;have HO2:=Lib.hid (HO.out.trans0 o');clear o';go_wp2_with fail
     go_ret2
     exact ⟨by rw [Hpos.out,Hth.out];rfl,HO2.out⟩
    ·rw [decide_eq_false hk,if_neg (by simp)] at hby;rw [decide_eq_false hk] at Hth;clear hk;go_wp2_with fail;refine hby.mono ?_;clear hby x0 x1 x2;rintro e w' ⟨rfl,o'⟩;have HO2:=Lib.hid (HO.out.trans0 o');clear o';go_wp2_with fail
     go_ret2
     exact ⟨by rw [Hpos.out,Hth.out];rfl,HO2.out⟩
   ·obtain rfl:i=n:=by omega
    have Hth:Hid (thereL Cid.node ltZ xs k=false):=Lib.hid (by
     unfold thereL
     rw [Hpos.out,List.getElem?_eq_none_iff.2 (by rw [Hn.out];exact Nat.le_refl _)])
    go_wp2_with fail
    go_ret2
    exact ⟨by rw [Hpos.out,Hth.out];rfl,HO.out⟩
theorem findId_any (p:Option Addr) (n c:Nat) (xs:List Cid) (k:Int) (w0:World) (hn:xs.length=n) (hb:n≤1000000) (hp:p=none→n=0) (hx:Rd w0 p (xs.flatMap idCells)) (hs:SortB Cid.node ltZ xs) :
  Calls Tryz.prog 50 #[.slice p n c,.int .i64 k,.func (.func 51) #[] #[]] w0 fun e w'=>e=.returned (.tuple #[.int .i64 ((posL Cid.node ltZ xs k:Nat):Int),.bool (thereL Cid.node ltZ xs k)])∧Only [] w0 w':=by
 have h:=bsfId_any p n c xs k w0 hn hb hp hx hs;generalize posL Cid.node ltZ xs k=i at h;generalize thereL Cid.node ltZ xs k=b at h
 go_enter Tryz.func50,Tryz.ntmps50
 go_wp2_with fail;refine h.mono ?_;clear h;rintro e w' ⟨rfl,o'⟩;go_wp2_with fail
 go_ret2
 exact ⟨rfl,o'⟩
end
section
open Go.RowKit
set_option maxHeartbeats 8000000 in
theorem bsfOb_any (p:Option Addr) (n c:Nat) (xs:List LObj) (k:Bs) (w0:World) (hn:xs.length=n) (hb:n≤1000000) (hp:p=none→n=0) (hx:Rd w0 p (xs.flatMap loCells)) (hs:SortB LObj.key lt xs) :
  Calls Tryz.prog 109 #[.slice p n c,.string (str k),.func (.func 67) #[] #[]] w0 fun e w'=>e=.returned (.tuple #[.int .i64 ((posL LObj.key lt xs k:Nat):Int),.bool (thereL LObj.key lt xs k)])∧Only [] w0 w':=by
 have Hx:=Lib.hid hx;have Hs:=Lib.hid hs;have Hn:=Lib.hid hn;have Hp:=Lib.hid hp;clear hx hs hn hp
 go_enter Tryz.func109,Tryz.ntmps109
 go_wp2_with fail
 go_loopw [9,10] (fun s9 s10 wr=>∃ i j:Nat,s9=.int .i64 (i:Int)∧s10=.int .i64 (j:Int)∧i≤j∧j≤n∧Hid ((∀ x,0 < i→xs[i - 1]?=some x→lt (LObj.key x) k)∧(∀ x,xs[j]?=some x→¬ lt (LObj.key x) k))∧Hid (Only [] w0 wr)) (fun s9 s10 _=>(intOf s10).toNat - (intOf s9).toNat)
 case atStart=>exact ⟨0,n,rfl,rfl,Nat.zero_le _,Nat.le_refl _,Lib.hid ⟨fun x h=>absurd h (by omega),fun x h=>by have:=(List.getElem?_eq_some_iff.1 h).1;rw [Hn.out] at this;omega⟩,Lib.hid (Only.refl _ _)⟩
 case round =>
  obtain ⟨i,j,rfl,rfl,hij,hjn,HI,HO⟩:=hrel
  by_cases hlt:i < j
  ·obtain ⟨x,hxx⟩:∃ x,xs[(i+j) / 2]?=some x:=⟨_,List.getElem?_eq_getElem (by rw [Hn.out];omega)⟩;have hrd:=Hx.out.only0 HO.out;have hne:xs.flatMap loCells≠[]:=fun e'=>(by have:=flat_get loCells 5 loCells_len xs _ x 0 hxx (by omega);rw [e'] at this;cases this);obtain ⟨b,off,rfl,-⟩:=hrd.lt hne;have x0:=rd_elem loCells_len hrd hxx (r:=0) rfl;have x1:=rd_elem loCells_len hrd hxx (r:=1) rfl;have x2:=rd_elem loCells_len hrd hxx (r:=2) rfl;have x3:=rd_elem loCells_len hrd hxx (r:=3) rfl;have x4:=rd_elem loCells_len hrd hxx (r:=4) rfl;rw [Addr.add_lit,← Nat.add_assoc] at x0 x1 x2 x3 x4
   rw [Nat.add_zero] at x0;have hby:=byKey_any x k wr;have Hxx:=Lib.hid hxx;unfold loV at hby;have hmid:(i+j) / 2 < n:=(by omega);clear hrd hne hxx
   by_cases hl:lt (LObj.key x) k
   ·rw [decide_eq_true hl] at hby;unfold sgn at hby;rw [if_pos rfl] at hby;have Hl:=Lib.hid hl;clear hl;go_wp2_with fail;refine hby.mono ?_;clear hby x0 x1 x2 x3 x4;rintro e w' ⟨rfl,o'⟩
    have HI2:Hid ((∀ x,0 < (i+j) / 2+1→xs[(i+j) / 2+1 - 1]?=some x→lt (LObj.key x) k)∧(∀ x,xs[j]?=some x→¬ lt (LObj.key x) k)):=Lib.hid ⟨fun y _ hy=>by
     rw [Nat.add_sub_cancel,Hxx.out] at hy
     cases hy
     exact Hl.out,HI.out.2⟩
    have HO2:=Lib.hid (HO.out.trans0 o');clear o';go_wp2_with fail;refine ⟨⟨(i+j) / 2+1,j,by go_num,rfl,by omega,hjn,HI2,HO2⟩,?_⟩
    simp [intOf];omega
   ·rw [decide_eq_false hl] at hby;unfold sgn at hby;rw [if_neg (by simp)] at hby;have Hl:=Lib.hid hl
    have HI2:Hid ((∀ x,0 < i→xs[i - 1]?=some x→lt (LObj.key x) k)∧(∀ x,xs[(i+j) / 2]?=some x→¬ lt (LObj.key x) k)):=Lib.hid ⟨HI.out.1,fun y hy=>by
     rw [Hxx.out] at hy
     cases hy
     exact Hl.out⟩
    clear hl
    by_cases hk:LObj.key x=k
    ·rw [decide_eq_true hk,if_pos rfl] at hby;clear hk;go_wp2_with fail;refine hby.mono ?_;clear hby x0 x1 x2 x3 x4;rintro e w' ⟨rfl,o'⟩;have HO2:=Lib.hid (HO.out.trans0 o');clear o';go_wp2_with fail;refine ⟨⟨i,(i+j) / 2,rfl,by go_num,by omega,by omega,HI2,HO2⟩,?_⟩
     simp [intOf];omega
    ·rw [decide_eq_false hk,if_neg (by simp)] at hby;clear hk;go_wp2_with fail;refine hby.mono ?_;clear hby x0 x1 x2 x3 x4;rintro e w' ⟨rfl,o'⟩;have HO2:=Lib.hid (HO.out.trans0 o');clear o';go_wp2_with fail;refine ⟨⟨i,(i+j) / 2,rfl,by go_num,by omega,by omega,HI2,HO2⟩,?_⟩
     simp [intOf];omega
  ·obtain rfl:i=j:=(by omega);have Hpos:Hid (posL LObj.key lt xs k=i):=Lib.hid (posL_eq linB Hs.out (by rw [Hn.out];exact hjn) HI.out.1 HI.out.2)
   by_cases hin:i < n
   ·obtain ⟨x,hxx⟩:∃ x,xs[i]?=some x:=⟨_,List.getElem?_eq_getElem (by rw [Hn.out];omega)⟩;have Hth:Hid (thereL LObj.key lt xs k=decide (LObj.key x=k)):=Lib.hid (by unfold thereL;rw [Hpos.out,hxx]);have hl:=HI.out.2 x hxx;have hrd:=Hx.out.only0 HO.out;have hne:xs.flatMap loCells≠[]:=fun e'=>(by have:=flat_get loCells 5 loCells_len xs _ x 0 hxx (by omega);rw [e'] at this;cases this);obtain ⟨b,off,rfl,-⟩:=hrd.lt hne;have x0:=rd_elem loCells_len hrd hxx (r:=0) rfl;have x1:=rd_elem loCells_len hrd hxx (r:=1) rfl;have x2:=rd_elem loCells_len hrd hxx (r:=2) rfl
    have x3:=rd_elem loCells_len hrd hxx (r:=3) rfl;have x4:=rd_elem loCells_len hrd hxx (r:=4) rfl;rw [Addr.add_lit,← Nat.add_assoc] at x0 x1 x2 x3 x4;rw [Nat.add_zero] at x0;have hby:=byKey_any x k wr;unfold loV sgn at hby;rw [decide_eq_false hl,if_neg (by simp)] at hby;clear hrd hne hxx hl
    by_cases hk:LObj.key x=k
    ·rw [decide_eq_true hk,if_pos rfl] at hby;rw [decide_eq_true hk] at Hth;clear hk;go_wp2_with fail;refine hby.mono ?_;clear hby x0 x1 x2 x3 x4;rintro e w' ⟨rfl,o'⟩;have HO2:=Lib.hid (HO.out.trans0 o');clear o';go_wp2_with fail
     go_ret2
     exact ⟨by rw [Hpos.out,Hth.out];rfl,HO2.out⟩
    ·rw [decide_eq_false hk,if_neg (by simp)] at hby;rw [decide_eq_false hk] at Hth;clear hk;go_wp2_with fail;refine hby.mono ?_;clear hby x0 x1 x2 x3 x4;rintro e w' ⟨rfl,o'⟩;have HO2:=Lib.hid (HO.out.trans0 o');clear o';go_wp2_with fail
     go_ret2
     exact ⟨by rw [Hpos.out,Hth.out];rfl,HO2.out⟩
   ·obtain rfl:i=n:=by omega
    have Hth:Hid (thereL LObj.key lt xs k=false):=Lib.hid (by
     unfold thereL
     rw [Hpos.out,List.getElem?_eq_none_iff.2 (by rw [Hn.out];exact Nat.le_refl _)])
    go_wp2_with fail
    go_ret2
    exact ⟨by rw [Hpos.out,Hth.out];rfl,HO.out⟩
theorem findOb_any (p:Option Addr) (n c:Nat) (xs:List LObj) (k:Bs) (w0:World) (hn:xs.length=n) (hb:n≤1000000) (hp:p=none→n=0) (hx:Rd w0 p (xs.flatMap loCells)) (hs:SortB LObj.key lt xs) :
  Calls Tryz.prog 66 #[.slice p n c,.string (str k),.func (.func 67) #[] #[]] w0 fun e w'=>e=.returned (.tuple #[.int .i64 ((posL LObj.key lt xs k:Nat):Int),.bool (thereL LObj.key lt xs k)])∧Only [] w0 w':=by
 have h:=bsfOb_any p n c xs k w0 hn hb hp hx hs;generalize posL LObj.key lt xs k=i at h;generalize thereL LObj.key lt xs k=b at h
 go_enter Tryz.func66,Tryz.ntmps66
 go_wp2_with fail;refine h.mono ?_;clear h;rintro e w' ⟨rfl,o'⟩;go_wp2_with fail
 go_ret2
 exact ⟨rfl,o'⟩
end
section
open Go.RowKit
theorem eqIdN (d:Nat) (a b:Cid) (w:World):(Op.equalIn (d+2) 31 (idV a) (idV b)).run Tryz.prog w=.ok (decide (a=b)) w:=by
 have hu:Tryz.prog.underlying 31=some (.struct (Tryz.prog.fieldsOf 31)):=(by kernel_rfl);have hs:Tryz.prog.stoodInHeld 31=false:=(by kernel_rfl);have h:=Tryz.underlying31;unfold idV;rw [show d+2=(d+1)+1 from rfl,run_equalIn_agg w (d+1) 31 _ _ hu hs];simp only [Program.fieldsOf,h];have q3:=fun (x y:Int) (w:World)=>run_equalIn_int (P:=Tryz.prog) w d 3 .i64 .i64 x y Tryz.underlying3
 simp [Op.eqFields,part,Tryz.isAgg3,q3]
 obtain ⟨a1,a2,a3⟩:=a;obtain ⟨b1,b2,b3⟩:=b;simp only [Cid.mk.injEq]
 by_cases h1:a1=b1 <;> by_cases h2:a2=b2 <;> by_cases h3:a3=b3 <;> simp [h1,h2,h3]
theorem eqPcN (d:Nat) (a b:Pc) (w:World):(Op.equalIn (d+3) 33 (pcV a) (pcV b)).run Tryz.prog w=.ok (decide (a=b)) w:=by
 have hu:Tryz.prog.underlying 33=some (.struct (Tryz.prog.fieldsOf 33)):=(by kernel_rfl);have hs:Tryz.prog.stoodInHeld 33=false:=(by kernel_rfl);have h:=Tryz.underlying33;have hsz:(Tryz.prog.info? 31).map (·.size)=some 3:=(by kernel_rfl);obtain ⟨ii,hii,hi3⟩:=Option.map_eq_some_iff.1 hsz;unfold pcV;rw [show d+3=(d+2)+1 from rfl,run_equalIn_agg w (d+2) 33 _ _ hu hs];simp only [Program.fieldsOf,h];have q3:=fun (x y:Int) (w:World)=>run_equalIn_int (P:=Tryz.prog) w (d+1) 3 .i64 .i64 x y Tryz.underlying3;have q9:=fun (x y:ByteArray) (w:World)=>run_equalIn_string (P:=Tryz.prog) w (d+1) 9 x y Tryz.underlying9
 have qi:=fun (x y:Cid) (w:World)=>eqIdN d x y w;unfold idV at qi
 simp [Op.eqFields,part,Tryz.isAgg3,Tryz.isAgg9,Tryz.isAgg31,sizeOf,typeInfo,hii,hi3,q3,q9,qi a.blob b.blob,str_eqb]
 obtain ⟨a1,a2,a3⟩:=a;obtain ⟨b1,b2,b3⟩:=b;simp only [Pc.mk.injEq]
 by_cases h1:a1=b1 <;> by_cases h2:a2=b2 <;> by_cases h3:a3=b3 <;> simp [h1,h2,h3]
theorem eqPtN (d:Nat) (a b:CPart) (w:World):(Op.equalIn (d+4) 111 (ptV a) (ptV b)).run Tryz.prog w=.ok (decide (a=b)) w:=by
 have hu:Tryz.prog.underlying 111=some (.struct (Tryz.prog.fieldsOf 111)):=(by kernel_rfl);have hs:Tryz.prog.stoodInHeld 111=false:=(by kernel_rfl);have h:=Tryz.underlying111;have hsz:(Tryz.prog.info? 33).map (·.size)=some 5:=(by kernel_rfl);obtain ⟨ii,hii,hi3⟩:=Option.map_eq_some_iff.1 hsz;unfold ptV;rw [show d+4=(d+3)+1 from rfl,run_equalIn_agg w (d+3) 111 _ _ hu hs];simp only [Program.fieldsOf,h];have q3:=fun (x y:Int) (w:World)=>run_equalIn_int (P:=Tryz.prog) w (d+2) 3 .i64 .i64 x y Tryz.underlying3;have qi:=fun (x y:Pc) (w:World)=>eqPcN d x y w
 unfold pcV at qi
 simp [Op.eqFields,part,Tryz.isAgg3,Tryz.isAgg33,sizeOf,typeInfo,hii,hi3,q3,qi a.pc b.pc]
 obtain ⟨a1,a2⟩:=a;obtain ⟨b1,b2⟩:=b;simp only [CPart.mk.injEq]
 by_cases h1:a1=b1 <;> by_cases h2:a2=b2 <;> simp [h1,h2]
end
end Go.Proofs.YtfeglnpmpgipiaaGreatDoor
