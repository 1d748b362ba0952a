/- GrwPk, part 11: CatMem, CloneW, qA, CopyObW, CopyBkW, PiecesW, IdSet. -/
import Derived.Test.YtfeglnpmpgipiaaGreatDoorGrwPk01
import Derived.Test.YtfeglnpmpgipiaaGreatDoorGrwPk05
import Derived.Test.YtfeglnpmpgipiaaGreatDoorGrwPk07
import Derived.Test.YtfeglnpmpgipiaaGreatDoorGrwPk08
import Derived.Test.YtfeglnpmpgipiaaGreatDoorGrwPk09
import Derived.Test.YtfeglnpmpgipiaaGreatDoorGrwPk10
import Derived.Test.YtfeglnpmpgipiaaGreatDoorProg
import Derived.Deep.DeepCutAuto
import Derived.Deep.Cut
import Derived.Laws.IdiomStrings
import Derived.RangeFuncNested
import Derived.RangeFuncBound
import Derived.RangeFuncCalls
import Derived.RangeFuncLeaves
import Derived.TacticsInMore
import Derived.OwnWalkIn
import Derived.LoopNIn
import Derived.LoopIn
import Derived.Shelf.Abstract
import Derived.MapKept
import Derived.Laws.StructEq
set_option linter.unusedVariables false
set_option maxRecDepth 100000
set_option linter.unusedSimpArgs false
namespace Go.Proofs.YtfeglnpmpgipiaaGreatDoor
section
open Go.RowKit
def zI (a:Cid):List Value:=[.int .i64 a.node,.int .i64 a.boot,.int .i64 a.seq]
def idV (a:Cid):Value:=.agg #[.int .i64 a.node,.int .i64 a.boot,.int .i64 a.seq]
def jK (p:Pc):List Value:=[.int .i64 p.blob.node,.int .i64 p.blob.boot,.int .i64 p.blob.seq,.int .i64 p.size,.string (str p.etag)]
def pcV (p:Pc):Value:=.agg #[.int .i64 p.blob.node,.int .i64 p.blob.boot,.int .i64 p.blob.seq,.int .i64 p.size,.string (str p.etag)]
def zM (p:qU):List Value:=[.int .i64 p.num,.int .i64 p.pc.blob.node,.int .i64 p.pc.blob.boot,.int .i64 p.pc.blob.seq,.int .i64 p.pc.size,.string (str p.pc.etag)]
def ptV (p:qU):Value:=.agg #[.int .i64 p.num,.int .i64 p.pc.blob.node,.int .i64 p.pc.blob.boot,.int .i64 p.pc.blob.seq,.int .i64 p.pc.size,.string (str p.pc.etag)]
theorem qD (a:Cid):(zI a).length=3:=rfl
theorem vQ (a:Pc):(jK a).length=5:=rfl
theorem zW (a:qU):(zM a).length=6:=rfl
structure qG where
 o:zAd
 q:Option Addr
 c:Nat
structure qN where
 u:zAH
 q:Option Addr
 c:Nat
structure LBk where
 name:Bs
 time:Int
 days:Int
 os:List qG
 po:Option Addr
 co:Nat
 us:List qN
 pu:Option Addr
 cu:Nat
structure qK where
 bs:List LBk
 pb:Option Addr
 cb:Nat
 fs:List Cid
 pf:Option Addr
 cf:Nat
def zH (x:qG):List Value:=[.string (str x.o.key),.int .i64 x.o.size,.string (str x.o.etag),.int .i64 x.o.time,.slice x.q x.o.pcs.length x.c]
def loV (x:qG):Value:=.agg #[.string (str x.o.key),.int .i64 x.o.size,.string (str x.o.etag),.int .i64 x.o.time,.slice x.q x.o.pcs.length x.c]
def zG (x:qN):List Value:=[.int .i64 x.u.id.node,.int .i64 x.u.id.boot,.int .i64 x.u.id.seq,.string (str x.u.key),.slice x.q x.u.parts.length x.c]
def luV (x:qN):Value:=.agg #[.int .i64 x.u.id.node,.int .i64 x.u.id.boot,.int .i64 x.u.id.seq,.string (str x.u.key),.slice x.q x.u.parts.length x.c]
def zD (b:LBk):List Value:=[.string (str b.name),.int .i64 b.time,.int .i64 b.days,.slice b.po b.os.length b.co,.slice b.pu b.us.length b.cu]
def lbV (b:LBk):Value:=.agg #[.string (str b.name),.int .i64 b.time,.int .i64 b.days,.slice b.po b.os.length b.co,.slice b.pu b.us.length b.cu]
def xA (c:qK):List Value:=[.slice c.pb c.bs.length c.cb,.slice c.pf c.fs.length c.cf]
def lcV (c:qK):Value:=.agg #[.slice c.pb c.bs.length c.cb,.slice c.pf c.fs.length c.cf]
theorem zO (a:qG):(zH a).length=5:=rfl
theorem zT (a:qN):(zG a).length=5:=rfl
theorem zQ (a:LBk):(zD a).length=5:=rfl
theorem vP (a:Cid):∀ u∈zI a,u.oneCell'=true:=by intro u hu;simp only [zI,List.mem_cons,List.not_mem_nil,or_false] at hu;rcases hu with rfl | rfl | rfl <;> rfl
theorem zBE (a:Pc):∀ u∈jK a,u.oneCell'=true:=by intro u hu;simp only [jK,List.mem_cons,List.not_mem_nil,or_false] at hu;rcases hu with rfl | rfl | rfl | rfl | rfl <;> rfl
theorem yH (a:qU):∀ u∈zM a,u.oneCell'=true:=by intro u hu;simp only [zM,List.mem_cons,List.not_mem_nil,or_false] at hu;rcases hu with rfl | rfl | rfl | rfl | rfl | rfl <;> rfl
theorem xY (a:qG):∀ u∈zH a,u.oneCell'=true:=by intro u hu;simp only [zH,List.mem_cons,List.not_mem_nil,or_false] at hu;rcases hu with rfl | rfl | rfl | rfl | rfl <;> rfl
theorem xX (a:qN):∀ u∈zG a,u.oneCell'=true:=by intro u hu;simp only [zG,List.mem_cons,List.not_mem_nil,or_false] at hu;rcases hu with rfl | rfl | rfl | rfl | rfl <;> rfl
theorem xP (a:LBk):∀ u∈zD a,u.oneCell'=true:=by intro u hu;simp only [zD,List.mem_cons,List.not_mem_nil,or_false] at hu;rcases hu with rfl | rfl | rfl | rfl | rfl <;> rfl
def LBk.b (b:LBk):jE:=⟨b.name,b.time,b.days,b.os.map qG.o,b.us.map qN.u⟩
def qK.cat (c:qK):Cat:=⟨c.bs.map LBk.b,c.fs⟩
def zAA (w:World) (q:Option Addr) (n c:Nat) (vs:List Value):Prop:=Rd w q vs∧(q=none→n=0∧c=0)∧n≤c
theorem zAA.only {S:List Nat} {w w':World} {q:Option Addr} {n c:Nat} {vs:List Value} (h:zAA w q n c vs) (ho:Only S w w') (hq:∀ x∈blk q,x ∉ S):zAA w' q n c vs :=
 ⟨h.1.only ho (fun a ha=>hq _ (by rw [ha];simp [blk])),h.2⟩
theorem zAA.zB {w w':World} {q:Option Addr} {n c:Nat} {vs:List Value} (h:zAA w q n c vs) (ho:Only [] w w'):zAA w' q n c vs:=h.only ho (by simp)
theorem zAA.nil (w:World):zAA w none 0 0 []:=⟨Rd.nil _ _,fun _=>⟨rfl,rfl⟩,Nat.le_refl _⟩
theorem zAA.own {w:World} {base K n c:Nat} {e:TypeId} {p:Option Addr} {vs:List Value} (h:zN w base e K (.slice p n c) n vs):zAA w p n c vs:=⟨h.view.2.2.1,h.view.2.2.2.1,h.view.2.2.2.2.1⟩
def zJn (w:World) (x:qG):Prop:=zAA w x.q x.o.pcs.length x.c (x.o.pcs.flatMap jK)
def zJl (w:World) (x:qN):Prop:=zAA w x.q x.u.parts.length x.c (x.u.parts.flatMap zM)
structure zFB (w:World) (b:LBk):Prop where
 so:zAA w b.po b.os.length b.co (b.os.flatMap zH)
 su:zAA w b.pu b.us.length b.cu (b.us.flatMap zG)
 ob:∀ x∈b.os,zJn w x
 up:∀ x∈b.us,zJl w x
structure zBX (w:World) (c:qK):Prop where
 sb:zAA w c.pb c.bs.length c.cb (c.bs.flatMap zD)
 sf:zAA w c.pf c.fs.length c.cf (c.fs.flatMap zI)
 bk:∀ b∈c.bs,zFB w b
theorem zFB.zB {w w':World} {b:LBk} (h:zFB w b) (ho:Only [] w w'):zFB w' b:=⟨h.so.zB ho,h.su.zB ho,fun x hx=>(h.ob x hx).zB ho,fun x hx=>(h.up x hx).zB ho⟩
theorem zBX.zB {w w':World} {c:qK} (h:zBX w c) (ho:Only [] w w'):zBX w' c:=⟨h.sb.zB ho,h.sf.zB ho,fun x hx=>(h.bk x hx).zB ho⟩
end
section
open Go.RowKit
theorem Tryz.infoId:(Tryz.prog.info? 31).map (fun i=>(i.zero,i.size,i.bytes))=some (some (.agg #[.int .i64 0,.int .i64 0,.int .i64 0]),3,24):=by kernel_rfl
theorem Tryz.infoPc:(Tryz.prog.info? 33).map (fun i=>(i.zero,i.size,i.bytes))=some (some (.agg #[.int .i64 0,.int .i64 0,.int .i64 0,.int .i64 0,.string ⟨#[]⟩]),5,48):=by kernel_rfl
theorem Tryz.infoPt:(Tryz.prog.info? 111).map (fun i=>(i.zero,i.size,i.bytes))=some (some (.agg #[.int .i64 0,.int .i64 0,.int .i64 0,.int .i64 0,.int .i64 0,.string ⟨#[]⟩]),6,56):=by kernel_rfl
theorem Tryz.infoLO:(Tryz.prog.info? 48).map (fun i=>(i.zero,i.size,i.bytes))=some (some (.agg #[.string ⟨#[]⟩,.int .i64 0,.string ⟨#[]⟩,.int .i64 0,.slice none 0 0]),5,72):=by kernel_rfl
theorem Tryz.infoLU:(Tryz.prog.info? 54).map (fun i=>(i.zero,i.size,i.bytes))=some (some (.agg #[.int .i64 0,.int .i64 0,.int .i64 0,.string ⟨#[]⟩,.slice none 0 0]),5,64):=by kernel_rfl
theorem Tryz.infoLB:(Tryz.prog.info? 60).map (fun i=>(i.zero,i.size,i.bytes))=some (some (.agg #[.string ⟨#[]⟩,.int .i64 0,.int .i64 0,.slice none 0 0,.slice none 0 0]),5,80):=by kernel_rfl
theorem zFS (p:Option Addr) (xs:List Cid) (n c:Nat) (w:World) (hn:xs.length=n) (hb:n≤1000000) (hx:zAA w p n c (xs.flatMap zI)) :
  Calls Tryz.prog 88 #[.slice p n c] w fun e w'=>∃ p' c',e=.returned (.slice p' n c')∧zN w' w.heap.size 31 3 (.slice p' n c') n (xs.flatMap zI)∧Only [] w w':=by
 obtain ⟨hx,hp,-⟩:=hx;have Hn:=Lib.hid hn;have heq:=Lib.run_eql_slice_nil (P:=Tryz.prog) w 27 31 p n c 0 0 Tryz.underlying27
 cases p with
 | none =>
  obtain ⟨rfl,rfl⟩:=hp rfl;have hxs:xs=[]:=List.eq_nil_of_length_eq_zero hn;clear hn hp
  go_enter Tryz.func88,Tryz.ntmps88
  go_wp2_with fail
  go_ret
  subst hxs;exact ⟨none,0,rfl,zN.nil _ _ _ _,Only.refl _ _⟩
 | some a =>
  have on:=Only.alloc w (.cells #[] 31);have ow:zN (w.alloc (.cells #[] 31)) w.heap.size 31 3 (.slice (some ⟨w.heap.size,0,none⟩) 0 0) 0 []:=zN.new (K:=3) (n:=0) [] (Nat.le_refl _) rfl (by omega);obtain ⟨p',c',w2,hr,o2,h2⟩:=xN (P:=Tryz.prog) (bytes:=24) (c:=c) (q:=some a) (m:=n) (news:=xs.flatMap zI) (t:=27) (ty:=27) _ Tryz.underlying27 Tryz.infoId rfl (by omega) ow (hx.zB on) (by rw [qR zI 3 qD,hn]) (by simp) (fun u hu=>vD zI vP hu) (by omega) (by omega) on.size;rw [Nat.zero_add] at hr o2;have Hr:=Lib.hid hr
  clear hn hp hr
  go_enter Tryz.func88,Tryz.ntmps88
  go_wp2_with (first | (at_builtin;refine qP (s:=.tmp 5) (x:=.tmp 6) rfl rfl rfl rfl Hr.out ?_))
  go_ret
  exact ⟨p',c',rfl,o2,on.zY h2 (by simp [blk])|>.drop (by simp)⟩
theorem zEo (p:Option Addr) (xs:List Pc) (n c:Nat) (w:World) (hn:xs.length=n) (hb:n≤1000000) (hx:zAA w p n c (xs.flatMap jK)) :
  Calls Tryz.prog 110 #[.slice p n c] w fun e w'=>∃ p' c',e=.returned (.slice p' n c')∧zN w' w.heap.size 33 5 (.slice p' n c') n (xs.flatMap jK)∧Only [] w w':=by
 obtain ⟨hx,hp,-⟩:=hx;have Hn:=Lib.hid hn;have heq:=Lib.run_eql_slice_nil (P:=Tryz.prog) w 46 33 p n c 0 0 Tryz.underlying46
 cases p with
 | none =>
  obtain ⟨rfl,rfl⟩:=hp rfl;have hxs:xs=[]:=List.eq_nil_of_length_eq_zero hn;clear hn hp
  go_enter Tryz.func110,Tryz.ntmps110
  go_wp2_with fail
  go_ret
  subst hxs;exact ⟨none,0,rfl,zN.nil _ _ _ _,Only.refl _ _⟩
 | some a =>
  have on:=Only.alloc w (.cells #[] 33);have ow:zN (w.alloc (.cells #[] 33)) w.heap.size 33 5 (.slice (some ⟨w.heap.size,0,none⟩) 0 0) 0 []:=zN.new (K:=5) (n:=0) [] (Nat.le_refl _) rfl (by omega);obtain ⟨p',c',w2,hr,o2,h2⟩:=xN (P:=Tryz.prog) (bytes:=48) (c:=c) (q:=some a) (m:=n) (news:=xs.flatMap jK) (t:=46) (ty:=46) _ Tryz.underlying46 Tryz.infoPc rfl (by omega) ow (hx.zB on) (by rw [qR jK 5 vQ,hn]) (by simp) (fun u hu=>vD jK zBE hu) (by omega) (by omega) on.size;rw [Nat.zero_add] at hr o2;have Hr:=Lib.hid hr
  clear hn hp hr
  go_enter Tryz.func110,Tryz.ntmps110
  go_wp2_with (first | (at_builtin;refine qP (s:=.tmp 5) (x:=.tmp 6) rfl rfl rfl rfl Hr.out ?_))
  go_ret
  exact ⟨p',c',rfl,o2,on.zY h2 (by simp [blk])|>.drop (by simp)⟩
theorem zFR (p:Option Addr) (xs:List qU) (n c:Nat) (w:World) (hn:xs.length=n) (hb:n≤1000000) (hx:zAA w p n c (xs.flatMap zM)) :
  Calls Tryz.prog 112 #[.slice p n c] w fun e w'=>∃ p' c',e=.returned (.slice p' n c')∧zN w' w.heap.size 111 6 (.slice p' n c') n (xs.flatMap zM)∧Only [] w w':=by
 obtain ⟨hx,hp,-⟩:=hx;have Hn:=Lib.hid hn;have heq:=Lib.run_eql_slice_nil (P:=Tryz.prog) w 52 111 p n c 0 0 Tryz.underlying52
 cases p with
 | none =>
  obtain ⟨rfl,rfl⟩:=hp rfl;have hxs:xs=[]:=List.eq_nil_of_length_eq_zero hn;clear hn hp
  go_enter Tryz.func112,Tryz.ntmps112
  go_wp2_with fail
  go_ret
  subst hxs;exact ⟨none,0,rfl,zN.nil _ _ _ _,Only.refl _ _⟩
 | some a =>
  have on:=Only.alloc w (.cells #[] 111);have ow:zN (w.alloc (.cells #[] 111)) w.heap.size 111 6 (.slice (some ⟨w.heap.size,0,none⟩) 0 0) 0 []:=zN.new (K:=6) (n:=0) [] (Nat.le_refl _) rfl (by omega);obtain ⟨p',c',w2,hr,o2,h2⟩:=xN (P:=Tryz.prog) (bytes:=56) (c:=c) (q:=some a) (m:=n) (news:=xs.flatMap zM) (t:=52) (ty:=52) _ Tryz.underlying52 Tryz.infoPt rfl (by omega) ow (hx.zB on) (by rw [qR zM 6 zW,hn]) (by simp) (fun u hu=>vD zM yH hu) (by omega) (by omega) on.size;rw [Nat.zero_add] at hr o2;have Hr:=Lib.hid hr
  clear hn hp hr
  go_enter Tryz.func112,Tryz.ntmps112
  go_wp2_with (first | (at_builtin;refine qP (s:=.tmp 5) (x:=.tmp 6) rfl rfl rfl rfl Hr.out ?_))
  go_ret
  exact ⟨p',c',rfl,o2,on.zY h2 (by simp [blk])|>.drop (by simp)⟩
end
section
open Go.RowKit
def zCc (w:World) (B:Nat) (x:qG):Prop:=zN w B 33 5 (.slice x.q x.o.pcs.length x.c) x.o.pcs.length (x.o.pcs.flatMap jK)
def zBY (w:World) (B:Nat) (x:qN):Prop:=zN w B 111 6 (.slice x.q x.u.parts.length x.c) x.u.parts.length (x.u.parts.flatMap zM)
def LBk.fp (b:LBk):List Nat:=blk b.po ++ (blk b.pu ++ (b.os.flatMap (fun x=>blk x.q) ++ b.us.flatMap (fun x=>blk x.q)))
def qK.fp (c:qK):List Nat:=blk c.pb ++ (blk c.pf ++ c.bs.flatMap LBk.fp)
structure qZ (w:World) (B:Nat) (b:LBk):Prop where
 so:zN w B 48 5 (.slice b.po b.os.length b.co) b.os.length (b.os.flatMap zH)
 su:zN w B 54 5 (.slice b.pu b.us.length b.cu) b.us.length (b.us.flatMap zG)
 ob:∀ x∈b.os,zCc w B x
 up:∀ x∈b.us,zBY w B x
 nd:b.fp.Nodup
structure qA (w:World) (B:Nat) (c:qK):Prop where
 sb:zN w B 60 5 (.slice c.pb c.bs.length c.cb) c.bs.length (c.bs.flatMap zD)
 sf:zN w B 31 3 (.slice c.pf c.fs.length c.cf) c.fs.length (c.fs.flatMap zI)
 bk:∀ b∈c.bs,qZ w B b
 nd:c.fp.Nodup
theorem ownIn {w:World} {base K n c:Nat} {e:TypeId} {p:Option Addr} {vs:List Value} (h:zN w base e K (.slice p n c) n vs):∀ z∈blk p,base≤z∧z < w.heap.size:=h.view.2.2.2.2.2.2
theorem qZ.lo {w:World} {B:Nat} {b:LBk} (h:qZ w B b):∀ z∈b.fp,B≤z∧z < w.heap.size:=fun z hz=>by
 unfold LBk.fp at hz
 rcases List.mem_append.1 hz with hz | hz
 ·exact ownIn h.so z hz
 rcases List.mem_append.1 hz with hz | hz
 ·exact ownIn h.su z hz
 rcases List.mem_append.1 hz with hz | hz
 ·obtain ⟨x,hx,hz⟩:=List.mem_flatMap.1 hz;exact ownIn (h.ob x hx) z hz
 ·obtain ⟨x,hx,hz⟩:=List.mem_flatMap.1 hz;exact ownIn (h.up x hx) z hz
theorem qA.lo {w:World} {B:Nat} {c:qK} (h:qA w B c):∀ z∈c.fp,B≤z∧z < w.heap.size:=fun z hz=>by
 unfold qK.fp at hz
 rcases List.mem_append.1 hz with hz | hz
 ·exact ownIn h.sb z hz
 rcases List.mem_append.1 hz with hz | hz
 ·exact ownIn h.sf z hz
 ·obtain ⟨b,hb,hz⟩:=List.mem_flatMap.1 hz;exact (h.bk b hb).lo z hz
theorem zN.jL {S:List Nat} {w w':World} {base K n m c:Nat} {e:TypeId} {p:Option Addr} {vs:List Value} (h:zN w base e K (.slice p m c) n vs) (ho:Only S w w') (hn:∀ z∈blk p,z ∉ S):zN w' base e K (.slice p m c) n vs :=
 h.only ho (fun k hk=>hn k (zBt hk))
theorem qZ.only {S:List Nat} {w w':World} {B:Nat} {b:LBk} (h:qZ w B b) (ho:Only S w w') (hS:∀ z∈b.fp,z ∉ S):qZ w' B b:=by
 unfold LBk.fp at hS
 exact ⟨h.so.jL ho (fun z hz=>hS z (by simp [hz])),h.su.jL ho (fun z hz=>hS z (by simp [hz])),
  fun x hx=>zN.jL (h.ob x hx) ho (fun z hz=>hS z (by simp only [List.mem_append,List.mem_flatMap];exact .inr (.inr (.inl ⟨x,hx,hz⟩)))),
  fun x hx=>zN.jL (h.up x hx) ho (fun z hz=>hS z (by simp only [List.mem_append,List.mem_flatMap];exact .inr (.inr (.inr ⟨x,hx,hz⟩)))),h.nd⟩
theorem qA.only {S:List Nat} {w w':World} {B:Nat} {c:qK} (h:qA w B c) (ho:Only S w w') (hS:∀ z∈c.fp,z ∉ S):qA w' B c:=by
 unfold qK.fp at hS
 exact ⟨h.sb.jL ho (fun z hz=>hS z (by simp [hz])),h.sf.jL ho (fun z hz=>hS z (by simp [hz])),
  fun b hb=>(h.bk b hb).only ho (fun z hz=>hS z (by simp only [List.mem_append,List.mem_flatMap];exact .inr (.inr ⟨b,hb,hz⟩))),h.nd⟩
theorem qA.zB {w w':World} {B:Nat} {c:qK} (h:qA w B c) (ho:Only [] w w'):qA w' B c:=h.only ho (fun _ _=>by simp)
theorem qZ.zB {w w':World} {B:Nat} {b:LBk} (h:qZ w B b) (ho:Only [] w w'):qZ w' B b:=h.only ho (fun _ _=>by simp)
theorem qZ.weaken {w:World} {B B':Nat} {b:LBk} (h:qZ w B b) (hb:B'≤B):qZ w B' b :=
 ⟨h.so.weaken hb,h.su.weaken hb,fun x hx=>zN.weaken (h.ob x hx) hb,fun x hx=>zN.weaken (h.up x hx) hb,h.nd⟩
theorem qZ.at {w:World} {B:Nat} {b:LBk} (h:qZ w B b):zFB w b:=⟨.own h.so,.own h.su,fun x hx=>.own (h.ob x hx),fun x hx=>.own (h.up x hx)⟩
theorem qA.at {w:World} {B:Nat} {c:qK} (h:qA w B c):zBX w c:=⟨.own h.sb,.own h.sf,fun b hb=>(h.bk b hb).at⟩
theorem qA.weaken {w:World} {B B':Nat} {c:qK} (h:qA w B c) (hb:B'≤B):qA w B' c:=⟨h.sb.weaken hb,h.sf.weaken hb,fun b h'=>(h.bk b h').weaken hb,h.nd⟩
theorem yU (p:Option Addr):(blk p).Nodup:=by cases p <;> simp [blk]
section
variable {β:Type} (f:β→List Value) (V:β→Value) (e:TypeId) (K:Nat) (P:β→World→Prop) (fp:β→List Nat) (lo:Nat)
def CpV:Value→World→Prop:=fun v w=>∃ x,v=V x∧P x w
def CpS:Value→World→Prop:=fun v w=>∃ x g,v=.slice (some ⟨g,0,none⟩) 1 1∧lo≤g∧Row w g e (f x)∧P x w
def CpA (B:Nat) (D:List Nat) (m:Nat) (ys:List β):Value→World→Prop:=fun v w=>∃ x p k,v=.slice p (m+1) k∧P x w∧zN w B e K (.slice p (m+1) k) (m+1) ((ys ++ [x]).flatMap f)∧∀ z∈blk p,z∈D∨(lo≤z∧z ∉ fp x)
def CpZ (B:Nat) (D:List Nat) (m:Nat) (ys:List β) (X:Nat) (t:TypeId) (up:Value→List Value):Value→World→Prop:=fun _ w=>∃ x p k,P x w∧zN w B e K (.slice p (m+1) k) (m+1) ((ys ++ [x]).flatMap f)∧(∀ z∈blk p,z∈D∨(lo≤z∧z ∉ fp x))∧Row w X t (up (.slice p (m+1) k))
variable {f V e K P fp lo}
variable (hst:∀ x a b (S:List Nat),P x a→Only S a b→(∀ s∈S,s < lo)→P x b)
include hst
theorem CpV.stable {S:List Nat} (hS:∀ s∈S,s < lo):Stable (Only S) (CpV V P):=fun v a b ⟨x,h1,h2⟩ ho=>⟨x,h1,hst x a b S h2 ho hS⟩
theorem CpS.stable {S:List Nat} (hS:∀ s∈S,s < lo):Stable (Only S) (CpS f e P lo):=fun v a b ⟨x,g,h1,h2,h3,h4⟩ ho=>⟨x,g,h1,h2,h3.only ho (fun hm=>by have:=hS g hm;omega),hst x a b S h4 ho hS⟩
theorem CpA.stable {B m:Nat} {D S:List Nat} {ys:List β} (hS:∀ s∈S,s < lo) (hD:∀ s∈S,s ∉ D):Stable (Only S) (CpA f e K P fp lo B D m ys):=fun v a b ⟨x,p,k,h1,h2,h3,h4⟩ ho =>
 ⟨x,p,k,h1,hst x a b S h2 ho hS,h3.jL ho (fun z hz hm=>by
  rcases h4 z hz with h | h
  ·exact hD z hm h
  ·have:=hS z hm;omega),h4⟩
theorem CpZ.stable {B m X:Nat} {t:TypeId} {D:List Nat} {ys:List β} {up:Value→List Value}:Stable (Only []) (CpZ f e K P fp lo B D m ys X t up):=fun v a b ⟨x,p,k,h2,h3,h4,h5⟩ ho =>
 ⟨x,p,k,hst x a b [] h2 ho (by simp),h3.zB ho,h4,h5.zB ho⟩
end
end
section
open Go.RowKit
theorem zIX:(Tryz.prog.info? 48).map (·.size)=some 5:=by kernel_rfl
set_option maxHeartbeats 4000000 in
theorem zDO (x:qG) (w0:World) (hx:zAA w0 x.q x.o.pcs.length x.c (x.o.pcs.flatMap jK)) (hb:x.o.pcs.length≤1000000) :
  Calls Tryz.prog 68 #[loV x] w0 fun e w'=>∃ q' c',e=.returned (loV ⟨x.o,q',c'⟩)∧zN w' w0.heap.size 33 5 (.slice q' x.o.pcs.length c') x.o.pcs.length (x.o.pcs.flatMap jK)∧Only [] w0 w':=by
 obtain ⟨n,hn⟩:∃ n,x.o.pcs.length=n:=⟨_,rfl⟩;obtain ⟨w1,hw1⟩:∃ w1,w1=w0.alloc (.cells #[.string (str x.o.key),.int .i64 x.o.size,.string (str x.o.etag),.int .i64 x.o.time,.slice x.q n x.c] 48):=⟨_,rfl⟩;obtain ⟨w2,hw2⟩:∃ w2,w2=w1.alloc (.cells #[.string ⟨#[]⟩,.int .i64 0,.string ⟨#[]⟩,.int .i64 0,.slice none 0 0] 48):=⟨_,rfl⟩;have o1:Only [] w0 w1:=(by rw [hw1];exact Only.alloc _ _);have o2:Only [] w1 w2:=(by rw [hw2];exact Only.alloc _ _);have s1:w1.heap.size=w0.heap.size+1:=(by rw [hw1];simp);have r1:Row w2 w0.heap.size 48 [.string (str x.o.key),.int .i64 x.o.size,.string (str x.o.etag),.int .i64 x.o.time,.slice x.q n x.c]:=(show Row w1 w0.heap.size 48 [.string (str x.o.key),.int .i64 x.o.size,.string (str x.o.etag),.int .i64 x.o.time,.slice x.q n x.c] by rw [hw1];exact Row.zV _ _ _ _ rfl).zB o2
 have r2:Row w2 (w0.heap.size+1) 48 [.string ⟨#[]⟩,.int .i64 0,.string ⟨#[]⟩,.int .i64 0,.slice none 0 0]:=(by rw [← s1,hw2];exact Row.zV _ _ _ _ rfl);have o12:=o1.zC o2;rw [hn] at hx hb;have hcl:=zEo x.q x.o.pcs n x.c w2 hn hb (hx.zB o12);have c4:=r1.cell (i:=4) rfl;have HO:=Lib.hid o12;have HR1:=Lib.hid r1;have HR2:=Lib.hid r2;have Hw1:=Lib.hid hw1;have Hw2:=Lib.hid hw2;unfold loV;dsimp only;rw [hn];clear o1 o2 s1 r1 r2 o12 hw1 hw2 hx hb
 go_enter Tryz.func68,Tryz.ntmps68
 go_upto_region 1 with (fail)
 rw [← Hw1.out,← Hw2.out];clear Hw1 Hw2;go_wp2_with fail;refine hcl.mono ?_;clear hcl c4;rintro e w3 ⟨q',c',rfl,own,o3⟩;have hr1:=HR1.out.zB o3;have f4:=hr1.free 4;have c4:=hr1.cell (i:=4) rfl;obtain ⟨w4,hw4⟩:∃ w4,w4=w3.setCell ⟨w0.heap.size,4,none⟩ (.slice q' n c'):=⟨_,rfl⟩;have o4:Only [w0.heap.size] w3 w4:=(by rw [hw4];exact Only.setCell _ ⟨_,_,none⟩ _);have r4:Row w4 w0.heap.size 48 [.string (str x.o.key),.int .i64 x.o.size,.string (str x.o.etag),.int .i64 x.o.time,.slice q' n c']:=(by rw [hw4];exact hr1.setCell 4 _);have r24:=(HR2.out.zB o3).only o4 (by simp)
 have own4:=own.only o4 (fun y hy hm=>by have h1:=(own.view.2.2.2.2.2.2 y (zBt hy)).1;have h2:=List.mem_singleton.1 hm;have h3:=HR1.out.lt;omega);have x0:=r4.cell (i:=0) rfl;have x1:=r4.cell (i:=1) rfl;have x2:=r4.cell (i:=2) rfl;have x3:=r4.cell (i:=3) rfl;have x4:=r4.cell (i:=4) rfl;have Hst:=Lib.hid (r24.storeAt (P:=Tryz.prog) (ty:=48) (us:=[.string (str x.o.key),.int .i64 x.o.size,.string (str x.o.etag),.int .i64 x.o.time,.slice q' n c']) zIX rfl (by simp [Value.oneCell']));have Hrow:=Lib.hid (r24.setRow [.string (str x.o.key),.int .i64 x.o.size,.string (str x.o.etag),.int .i64 x.o.time,.slice q' n c'])
 have oS:=Only.setRow w4 (w0.heap.size+1) #[.string (str x.o.key),.int .i64 x.o.size,.string (str x.o.etag),.int .i64 x.o.time,.slice q' n c'];have HOf:=Lib.hid (((HO.out.zC o3).zY o4 (by simp)).zY oS (by simp));have Hown:=Lib.hid ((own4.only oS (fun y hy hm=>by have h1:=(own.view.2.2.2.2.2.2 y (zBt hy)).1;have h2:=List.mem_singleton.1 hm;have h3:=HR2.out.lt;omega)).weaken HO.out.size);have Hw4:=Lib.hid hw4;clear hr1 own o3 o4 r4 r24 own4 oS hw4
 go_upto_region 2 with (fail)
 rw [← Hw4.out];clear Hw4 c4 f4
 go_wp2_with (first | ((with_reducible show wpList _ _ _ _ _ _);refine jO (ty:=48) (x:=.tmp 2) (y:=.tmp 7) rfl rfl rfl rfl Hst.out ?_))
 exact bodyPost_ret (qO rfl _ _ _ rfl Hrow.out Tryz.underlying48 zIX) rfl ⟨q',c',rfl,Hown.out,HOf.out⟩
theorem zHr:(Tryz.prog.info? 54).map (·.size)=some 5:=by kernel_rfl
set_option maxHeartbeats 4000000 in
theorem zDA (x:qN) (w0:World) (hx:zAA w0 x.q x.u.parts.length x.c (x.u.parts.flatMap zM)) (hb:x.u.parts.length≤1000000) :
  Calls Tryz.prog 71 #[luV x] w0 fun e w'=>∃ q' c',e=.returned (luV ⟨x.u,q',c'⟩)∧zN w' w0.heap.size 111 6 (.slice q' x.u.parts.length c') x.u.parts.length (x.u.parts.flatMap zM)∧Only [] w0 w':=by
 obtain ⟨n,hn⟩:∃ n,x.u.parts.length=n:=⟨_,rfl⟩;obtain ⟨w1,hw1⟩:∃ w1,w1=w0.alloc (.cells #[.int .i64 x.u.id.node,.int .i64 x.u.id.boot,.int .i64 x.u.id.seq,.string (str x.u.key),.slice x.q n x.c] 54):=⟨_,rfl⟩;obtain ⟨w2,hw2⟩:∃ w2,w2=w1.alloc (.cells #[.int .i64 0,.int .i64 0,.int .i64 0,.string ⟨#[]⟩,.slice none 0 0] 54):=⟨_,rfl⟩;have o1:Only [] w0 w1:=(by rw [hw1];exact Only.alloc _ _);have o2:Only [] w1 w2:=(by rw [hw2];exact Only.alloc _ _);have s1:w1.heap.size=w0.heap.size+1:=(by rw [hw1];simp);have r1:Row w2 w0.heap.size 54 [.int .i64 x.u.id.node,.int .i64 x.u.id.boot,.int .i64 x.u.id.seq,.string (str x.u.key),.slice x.q n x.c]:=(show Row w1 w0.heap.size 54 [.int .i64 x.u.id.node,.int .i64 x.u.id.boot,.int .i64 x.u.id.seq,.string (str x.u.key),.slice x.q n x.c] by rw [hw1];exact Row.zV _ _ _ _ rfl).zB o2
 have r2:Row w2 (w0.heap.size+1) 54 [.int .i64 0,.int .i64 0,.int .i64 0,.string ⟨#[]⟩,.slice none 0 0]:=(by rw [← s1,hw2];exact Row.zV _ _ _ _ rfl);have o12:=o1.zC o2;rw [hn] at hx hb;have hcl:=zFR x.q x.u.parts n x.c w2 hn hb (hx.zB o12);have c4:=r1.cell (i:=4) rfl;have HO:=Lib.hid o12;have HR1:=Lib.hid r1;have HR2:=Lib.hid r2;have Hw1:=Lib.hid hw1;have Hw2:=Lib.hid hw2;unfold luV;dsimp only;rw [hn];clear o1 o2 s1 r1 r2 o12 hw1 hw2 hx hb
 go_enter Tryz.func71,Tryz.ntmps71
 go_upto_region 1 with (fail)
 rw [← Hw1.out,← Hw2.out];clear Hw1 Hw2;go_wp2_with fail;refine hcl.mono ?_;clear hcl c4;rintro e w3 ⟨q',c',rfl,own,o3⟩;have hr1:=HR1.out.zB o3;have f4:=hr1.free 4;have c4:=hr1.cell (i:=4) rfl;obtain ⟨w4,hw4⟩:∃ w4,w4=w3.setCell ⟨w0.heap.size,4,none⟩ (.slice q' n c'):=⟨_,rfl⟩;have o4:Only [w0.heap.size] w3 w4:=(by rw [hw4];exact Only.setCell _ ⟨_,_,none⟩ _);have r4:Row w4 w0.heap.size 54 [.int .i64 x.u.id.node,.int .i64 x.u.id.boot,.int .i64 x.u.id.seq,.string (str x.u.key),.slice q' n c']:=(by rw [hw4];exact hr1.setCell 4 _);have r24:=(HR2.out.zB o3).only o4 (by simp)
 have own4:=own.only o4 (fun y hy hm=>by have h1:=(own.view.2.2.2.2.2.2 y (zBt hy)).1;have h2:=List.mem_singleton.1 hm;have h3:=HR1.out.lt;omega);have x0:=r4.cell (i:=0) rfl;have x1:=r4.cell (i:=1) rfl;have x2:=r4.cell (i:=2) rfl;have x3:=r4.cell (i:=3) rfl;have x4:=r4.cell (i:=4) rfl;have Hst:=Lib.hid (r24.storeAt (P:=Tryz.prog) (ty:=54) (us:=[.int .i64 x.u.id.node,.int .i64 x.u.id.boot,.int .i64 x.u.id.seq,.string (str x.u.key),.slice q' n c']) zHr rfl (by simp [Value.oneCell']));have Hrow:=Lib.hid (r24.setRow [.int .i64 x.u.id.node,.int .i64 x.u.id.boot,.int .i64 x.u.id.seq,.string (str x.u.key),.slice q' n c'])
 have oS:=Only.setRow w4 (w0.heap.size+1) #[.int .i64 x.u.id.node,.int .i64 x.u.id.boot,.int .i64 x.u.id.seq,.string (str x.u.key),.slice q' n c'];have HOf:=Lib.hid (((HO.out.zC o3).zY o4 (by simp)).zY oS (by simp));have Hown:=Lib.hid ((own4.only oS (fun y hy hm=>by have h1:=(own.view.2.2.2.2.2.2 y (zBt hy)).1;have h2:=List.mem_singleton.1 hm;have h3:=HR2.out.lt;omega)).weaken HO.out.size);have Hw4:=Lib.hid hw4;clear hr1 own o3 o4 r4 r24 own4 oS hw4
 go_upto_region 2 with (fail)
 rw [← Hw4.out];clear Hw4 c4 f4
 go_wp2_with (first | ((with_reducible show wpList _ _ _ _ _ _);refine jO (ty:=54) (x:=.tmp 2) (y:=.tmp 7) rfl rfl rfl rfl Hst.out ?_))
 exact bodyPost_ret (qO rfl _ _ _ rfl Hrow.out Tryz.underlying54 zHr) rfl ⟨q',c',rfl,Hown.out,HOf.out⟩
end
section
open Go.RowKit
def PO (x:qG) (lo:Nat):qG→World→Prop:=fun y w=>y.o=x.o∧zCc w lo y
theorem PO.st {x:qG} {lo:Nat}:∀ y a b (S:List Nat),PO x lo y a→Only S a b→(∀ s∈S,s < lo)→PO x lo y b:=fun y a b S h ho hS =>
 ⟨h.1,zN.jL h.2 ho (fun z hz hm=>by have:=(ownIn h.2 z hz).1;have:=hS z hm;omega)⟩
theorem PO.weaken {x y:qG} {lo lo':Nat} {w:World} (h:PO x lo' y w) (hl:lo≤lo'):PO x lo y w:=⟨h.1,zN.weaken h.2 hl⟩
theorem PO.lt {x y:qG} {lo:Nat} {w:World} (h:PO x lo y w):∀ z∈blk y.q,z < w.heap.size:=fun z hz=>(ownIn h.2 z hz).2
def PU (x:qN) (lo:Nat):qN→World→Prop:=fun y w=>y.u=x.u∧zBY w lo y
theorem PU.st {x:qN} {lo:Nat}:∀ y a b (S:List Nat),PU x lo y a→Only S a b→(∀ s∈S,s < lo)→PU x lo y b:=fun y a b S h ho hS =>
 ⟨h.1,zN.jL h.2 ho (fun z hz hm=>by have:=(ownIn h.2 z hz).1;have:=hS z hm;omega)⟩
theorem PU.weaken {x y:qN} {lo lo':Nat} {w:World} (h:PU x lo' y w) (hl:lo≤lo'):PU x lo y w:=⟨h.1,zN.weaken h.2 hl⟩
theorem PU.lt {x y:qN} {lo:Nat} {w:World} (h:PU x lo y w):∀ z∈blk y.q,z < w.heap.size:=fun z hz=>(ownIn h.2 z hz).2
def PB (x:LBk) (lo:Nat):LBk→World→Prop:=fun y w=>y.b=x.b∧qZ w lo y
theorem PB.st {x:LBk} {lo:Nat}:∀ y a b (S:List Nat),PB x lo y a→Only S a b→(∀ s∈S,s < lo)→PB x lo y b:=fun y a b S h ho hS =>
 ⟨h.1,h.2.only ho (fun z hz hm=>by have:=(h.2.lo z hz).1;have:=hS z hm;omega)⟩
theorem PB.weaken {x y:LBk} {lo lo':Nat} {w:World} (h:PB x lo' y w) (hl:lo≤lo'):PB x lo y w:=⟨h.1,h.2.weaken hl⟩
theorem PB.lt {x y:LBk} {lo:Nat} {w:World} (h:PB x lo y w):∀ z∈y.fp,z < w.heap.size:=fun z hz=>(h.2.lo z hz).2
theorem zEV {p p' pu:Option Addr} {L q:List Nat} {lo:Nat} (h:(blk p ++ (blk pu ++ L)).Nodup) (hold:∀ z∈blk p ++ (blk pu ++ L),z < lo) (hp':∀ z∈blk p',z∈blk p∨(lo≤z∧z ∉ q)) (hq:∀ z∈q,lo≤z) (hqn:q.Nodup):(blk p' ++ (blk pu ++ (L ++ q))).Nodup:=by
 obtain ⟨h1,h2,h3⟩:=List.nodup_append.1 h;obtain ⟨h4,h5,h6⟩:=List.nodup_append.1 h2;refine List.nodup_append.2 ⟨yU _,List.nodup_append.2 ⟨h4,List.nodup_append.2 ⟨h5,hqn,fun a ha b hb e=>?_⟩,fun a ha b hb e=>?_⟩,fun a ha b hb e=>?_⟩
 ·subst e;have:=hold a (by simp [ha]);have:=hq a hb;omega
 ·subst e
  rcases List.mem_append.1 hb with hb | hb
  ·exact h6 a ha a hb rfl
  ·have:=hold a (by simp [ha]);have:=hq a hb;omega
 ·subst e
  rcases hp' a ha with h | ⟨h7,h8⟩
  ·rcases List.mem_append.1 hb with hb | hb
   ·exact h3 a h a (by simp [hb]) rfl
   ·rcases List.mem_append.1 hb with hb | hb
    ·exact h3 a h a (by simp [hb]) rfl
    ·have:=hold a (by simp [h]);have:=hq a hb;omega
  ·rcases List.mem_append.1 hb with hb | hb
   ·have:=hold a (by simp [hb]);omega
   ·rcases List.mem_append.1 hb with hb | hb
    ·have:=hold a (by simp [hb]);omega
    ·exact h8 hb
theorem zHy {p pu pu':Option Addr} {L q:List Nat} {lo:Nat} (h:(blk p ++ (blk pu ++ L)).Nodup) (hold:∀ z∈blk p ++ (blk pu ++ L),z < lo) (hp':∀ z∈blk pu',z∈blk pu∨(lo≤z∧z ∉ q)) (hq:∀ z∈q,lo≤z) (hqn:q.Nodup):(blk p ++ (blk pu' ++ (L ++ q))).Nodup:=by
 have hsw:∀ {a b:List Nat} {M:List Nat},(a ++ (b ++ M)).Nodup→(b ++ (a ++ M)).Nodup:=fun {a b M} h=>by
  rw [← List.append_assoc] at h ⊢;exact (List.Perm.append_right M List.perm_append_comm).nodup_iff.1 h
 exact hsw (zEV (hsw h) (fun z hz=>hold z (by simp only [List.mem_append] at hz ⊢;rcases hz with h | h | h <;> simp [h])) hp' hq hqn)
structure CbI (w0:World) (c:LBk) (w:World):Prop where
 rx:Row w w0.heap.size 60 (zD c)
 rr:Row w (w0.heap.size+1) 60 [.string (str []),.int .i64 0,.int .i64 0,.slice none 0 0,.slice none 0 0]
 own:qZ w (w0.heap.size+1+1) c
 only:Only [] w0 w
theorem CbI.step {w0 w w':World} {c:LBk} (h:CbI w0 c w) (ho:Only [] w w'):CbI w0 c w':=⟨h.rx.zB ho,h.rr.zB ho,h.own.zB ho,h.only.zC ho⟩
theorem CbI.zJc {w0 wt w':World} {c:LBk} (h:CbI w0 c wt) (hz:c.us=[]) {y:qG} {p:Option Addr} {k:Nat} (hR:Only (w0.heap.size :: blk c.po) wt w') (hy:zCc w' wt.heap.size y) (hown:zN w' (w0.heap.size+1+1) 48 5 (.slice p (c.os.length+1) k) (c.os.length+1) ((c.os ++ [y]).flatMap zH)) (hb:∀ z∈blk p,z∈blk c.po∨(wt.heap.size≤z∧z ∉ blk y.q))
  (hr:Row w' w0.heap.size 60 [.string (str c.name),.int .i64 c.time,.int .i64 c.days,.slice p (c.os.length+1) k,.slice c.pu c.us.length c.cu]):CbI w0 { c with os:=c.os ++ [y],po:=p,co:=k } w':=by
 have hlen:(c.os ++ [y]).length=c.os.length+1:=(by simp);have hlo:=h.own.lo
 have hfp:∀ z,z∈c.fp→z ∉ blk c.po→z ∉ w0.heap.size :: blk c.po:=fun z hz h1 hm=>by
  rcases List.mem_cons.1 hm with rfl | hm
  ·have:=(hlo _ hz).1;omega
  ·exact h1 hm
 have hnd:=h.own.nd;unfold LBk.fp at hnd hfp;obtain ⟨n1,n2,n3⟩:=List.nodup_append.1 hnd;refine ⟨by unfold zD;rw [hlen];exact hr,h.rr.only hR (fun hm=>?_),⟨by rw [hlen];exact hown,h.own.su.jL hR (fun z hz=>hfp z (by simp [hz]) (fun hm=>n3 z hm z (by simp [hz]) rfl)),fun x hx=>?_,fun x hx=>(by rw [hz] at hx;cases hx),?_⟩,h.only.zY hR (fun t ht=>?_)⟩
 ·rcases List.mem_cons.1 hm with e | hm
  ·omega
  ·have:=(ownIn h.own.so _ hm).1;omega
 ·rcases List.mem_append.1 hx with hx | hx
  ·exact zN.jL (h.own.ob x hx) hR (fun z hz=>hfp z (by simp only [List.mem_append,List.mem_flatMap];exact .inr (.inr (.inl ⟨x,hx,hz⟩))) (fun hm=>n3 z hm z (by simp only [List.mem_append,List.mem_flatMap];exact .inr (.inl ⟨x,hx,hz⟩)) rfl))
  ·rw [List.mem_singleton.1 hx];have:=h.only.size;have h2:=h.rr.lt;exact zN.weaken hy (by omega)
 ·unfold LBk.fp;have hu:c.us.flatMap (fun x=>blk x.q)=[]:=(by rw [hz];rfl);rw [hu,List.append_nil] at hnd;show (blk p ++ (blk c.pu ++ ((c.os ++ [y]).flatMap (fun x=>blk x.q) ++ c.us.flatMap (fun x=>blk x.q)))).Nodup;rw [hu,List.append_nil,List.flatMap_append];have:=zEV (lo:=wt.heap.size) (q:=blk y.q) hnd (fun z hz=>(hlo z (by unfold LBk.fp;rw [hu,List.append_nil];exact hz)).2) hb (fun z hz=>(ownIn hy z hz).1) (yU _)
  simpa using this
 ·rcases List.mem_cons.1 ht with rfl | ht
  ·omega
  ·have:=(ownIn h.own.so _ ht).1;omega
theorem CbI.zJh {w0 wt w':World} {c:LBk} (h:CbI w0 c wt) {y:qN} {p:Option Addr} {k:Nat} (hR:Only (w0.heap.size :: blk c.pu) wt w') (hy:zBY w' wt.heap.size y) (hown:zN w' (w0.heap.size+1+1) 54 5 (.slice p (c.us.length+1) k) (c.us.length+1) ((c.us ++ [y]).flatMap zG)) (hb:∀ z∈blk p,z∈blk c.pu∨(wt.heap.size≤z∧z ∉ blk y.q))
  (hr:Row w' w0.heap.size 60 [.string (str c.name),.int .i64 c.time,.int .i64 c.days,.slice c.po c.os.length c.co,.slice p (c.us.length+1) k]):CbI w0 { c with us:=c.us ++ [y],pu:=p,cu:=k } w':=by
 have hlen:(c.us ++ [y]).length=c.us.length+1:=(by simp);have hlo:=h.own.lo
 have hfp:∀ z,z∈c.fp→z ∉ blk c.pu→z ∉ w0.heap.size :: blk c.pu:=fun z hz h1 hm=>by
  rcases List.mem_cons.1 hm with rfl | hm
  ·have:=(hlo _ hz).1;omega
  ·exact h1 hm
 have hnd:=h.own.nd;unfold LBk.fp at hnd hfp;obtain ⟨n1,n2,n3⟩:=List.nodup_append.1 hnd;obtain ⟨n4,n5,n6⟩:=List.nodup_append.1 n2;refine ⟨by unfold zD;rw [hlen];exact hr,h.rr.only hR (fun hm=>?_),⟨h.own.so.jL hR (fun z hz=>hfp z (by simp [hz]) (fun hm=>n3 z hz z (by simp [hm]) rfl)),by rw [hlen];exact hown,fun x hx=>?_,fun x hx=>?_,?_⟩,h.only.zY hR (fun t ht=>?_)⟩
 ·rcases List.mem_cons.1 hm with e | hm
  ·omega
  ·have:=(ownIn h.own.su _ hm).1;omega
 ·exact zN.jL (h.own.ob x hx) hR (fun z hz=>hfp z (by simp only [List.mem_append,List.mem_flatMap];exact .inr (.inr (.inl ⟨x,hx,hz⟩))) (fun hm=>n6 z hm z (by simp only [List.mem_append,List.mem_flatMap];exact .inl ⟨x,hx,hz⟩) rfl))
 ·rcases List.mem_append.1 hx with hx | hx
  ·exact zN.jL (h.own.up x hx) hR (fun z hz=>hfp z (by simp only [List.mem_append,List.mem_flatMap];exact .inr (.inr (.inr ⟨x,hx,hz⟩))) (fun hm=>n6 z hm z (by simp only [List.mem_append,List.mem_flatMap];exact .inr ⟨x,hx,hz⟩) rfl))
  ·rw [List.mem_singleton.1 hx];have:=h.only.size;have h2:=h.rr.lt;exact zN.weaken hy (by omega)
 ·unfold LBk.fp;show (blk c.po ++ (blk p ++ (c.os.flatMap (fun x=>blk x.q) ++ (c.us ++ [y]).flatMap (fun x=>blk x.q)))).Nodup;rw [List.flatMap_append,← List.append_assoc (c.os.flatMap _)];have:=zHy (lo:=wt.heap.size) (q:=blk y.q) hnd (fun z hz=>(hlo z (by unfold LBk.fp;exact hz)).2) hb (fun z hz=>(ownIn hy z hz).1) (yU _)
  simpa using this
 ·rcases List.mem_cons.1 ht with rfl | ht
  ·omega
  ·have:=(ownIn h.own.su _ ht).1;omega
theorem zIF:(Tryz.prog.info? 60).map (·.size)=some 5:=by kernel_rfl
set_option maxHeartbeats 16000000 in
theorem zCq (b:LBk) (w0:World) (hA:zFB w0 b) (h1:b.os.length≤100000) (h2:b.us.length≤100000) (h3:∀ x∈b.os,x.o.pcs.length≤100000) (h4:∀ x∈b.us,x.u.parts.length≤100000) :
  Calls Tryz.prog 72 #[lbV b] w0 fun e w'=>∃ c:LBk,e=.returned (lbV c)∧c.b=b.b∧qZ w' w0.heap.size c∧Only [] w0 w':=by
 obtain ⟨n,hn⟩:∃ n,b.os.length=n:=⟨_,rfl⟩;obtain ⟨nu,hnu⟩:∃ nu,b.us.length=nu:=⟨_,rfl⟩;obtain ⟨w1,hw1⟩:∃ w1,w1=w0.alloc (.cells #[.string (str b.name),.int .i64 b.time,.int .i64 b.days,.slice b.po n b.co,.slice b.pu nu b.cu] 60):=⟨_,rfl⟩;obtain ⟨w2,hw2⟩:∃ w2,w2=w1.alloc (.cells #[.string ⟨#[]⟩,.int .i64 0,.int .i64 0,.slice none 0 0,.slice none 0 0] 60):=⟨_,rfl⟩;have o1:Only [] w0 w1:=(by rw [hw1];exact Only.alloc _ _);have o2:Only [] w1 w2:=(by rw [hw2];exact Only.alloc _ _);have s1:w1.heap.size=w0.heap.size+1:=by rw [hw1];simp
 have s2:w2.heap.size=w0.heap.size+1+1:=(by rw [hw2];simp [s1]);have r1:Row w2 w0.heap.size 60 [.string (str b.name),.int .i64 b.time,.int .i64 b.days,.slice b.po n b.co,.slice b.pu nu b.cu]:=(show Row w1 w0.heap.size 60 [.string (str b.name),.int .i64 b.time,.int .i64 b.days,.slice b.po n b.co,.slice b.pu nu b.cu] by rw [hw1];exact Row.zV _ _ _ _ rfl).zB o2;have r2:Row w2 (w0.heap.size+1) 60 [.string (str []),.int .i64 0,.int .i64 0,.slice none 0 0,.slice none 0 0]:=(by rw [← s1,hw2];exact Row.zV _ _ _ _ rfl);have c3:=r1.cell (i:=3) rfl;have c4:=r1.cell (i:=4) rfl
 have HA:=Lib.hid hA;have HO:=Lib.hid (o1.zC o2);have HR1:=Lib.hid r1;have HR2:=Lib.hid r2;have Hw1:=Lib.hid hw1;have Hw2:=Lib.hid hw2;have Hs2:=Lib.hid s2;have Hn:=Lib.hid hn;have Hnu:=Lib.hid hnu;have H3:=Lib.hid h3;have H4:=Lib.hid h4;have hn5:n≤100000:=(by omega);have hu5:nu≤100000:=(by omega);unfold lbV;rw [hn,hnu];clear o1 o2 s1 s2 r1 r2 hw1 hw2 hA hn hnu h1 h2 h3 h4
 go_enter Tryz.func72,Tryz.ntmps72
 go_upto_region 1 with (fail)
 rw [← Hw1.out,← Hw2.out];clear Hw1 Hw2
 go_quiet (fail)
 obtain ⟨wq,hwq⟩:∃ wq,wq=w2.drewN nq:=⟨_,rfl⟩;have oq:Only [] w2 wq:=(by rw [hwq];exact Only.drewN _ _);have rq:=HR1.out.zB oq;have f3:=rq.free 3;have f4:=rq.free 4;have q3:=rq.cell (i:=3) rfl;have q4:=rq.cell (i:=4) rfl;obtain ⟨w3,hw3⟩:∃ w3,w3=(wq.setCell ⟨w0.heap.size,3,none⟩ (.slice none 0 0)).setCell ⟨w0.heap.size,4,none⟩ (.slice none 0 0):=⟨_,rfl⟩;have r3:Row w3 w0.heap.size 60 [.string (str b.name),.int .i64 b.time,.int .i64 b.days,.slice none 0 0,.slice none 0 0]:=(by rw [hw3];exact (rq.setCell 3 _).setCell 4 _);have o3:Only [w0.heap.size] wq w3:=by rw [hw3];exact (Only.setCell wq ⟨_,3,none⟩ _).trans (Only.setCell _ ⟨_,4,none⟩ _) (fun i hi _=>hi)
 have hwz:(wq.setCell ⟨w0.heap.size,3,none⟩ (.slice none 0 0)).cell? ⟨w0.heap.size,4,none⟩=some (.slice b.pu nu b.cu):=(rq.setCell 3 _).cell (i:=4) rfl;have hwf:(wq.setCell ⟨w0.heap.size,3,none⟩ (.slice none 0 0)).frozen? ⟨w0.heap.size,4,none⟩=false:=(rq.setCell 3 _).free 4;have hI0:CbI w0 ⟨b.name,b.time,b.days,[],none,0,[],none,0⟩ w3:=⟨r3,(HR2.out.zB oq).only o3 (by simp),⟨zN.nil _ _ _ _,zN.nil _ _ _ _,by simp,by simp,by simp [LBk.fp,blk]⟩,(HO.out.zC oq).zY o3 (by simp)⟩;have HI0:=Lib.hid hI0;have Hw3:=Lib.hid hw3;rw [← hwq];clear hwq oq rq r3 o3 hI0 hw3 c3 c4
 go_upto_region 3 with (fail)
 rw [← Hw3.out];clear Hw3 f3 f4 q3 q4 hwz hwf;go_wp2_with fail
 go_loopw [17] (fun s17 wr=>∃ i:Nat,s17=.int .i64 (i:Int)∧i≤n∧Hid (∃ c:LBk,CbI w0 c wr∧c.name=b.name∧c.time=b.time∧c.days=b.days∧c.os.map qG.o=(b.os.take i).map qG.o∧c.us=[]∧c.pu=none∧c.cu=0)) (fun s17 _=>n - (intOf s17).toNat)
 case atStart=>exact ⟨0,rfl,Nat.zero_le _,Lib.hid ⟨_,HI0.out,rfl,rfl,rfl,rfl,rfl,rfl,rfl⟩⟩
 case round =>
  clear HI0;obtain ⟨i,rfl,hi,HC⟩:=hrel
  by_cases hlt:i < n
  ·obtain ⟨c,hI,e1,e2,e3,e4,e5,e6,e7⟩:=HC.out;obtain ⟨x,hxx⟩:∃ x,b.os[i]?=some x:=⟨_,List.getElem?_eq_getElem (by rw [Hn.out];exact hlt)⟩;have hrd:=HA.out.so.1.zB hI.only;have hne:b.os.flatMap zH≠[]:=fun e'=>(by have:=flat_get zH 5 zO b.os i x 0 hxx (by omega);rw [e'] at this;cases this);obtain ⟨bo,off,hpo,-⟩:=hrd.lt hne;rw [hpo] at hrd;have x0:=zP zO hrd hxx (r:=0) rfl;have x1:=zP zO hrd hxx (r:=1) rfl;have x2:=zP zO hrd hxx (r:=2) rfl;have x3:=zP zO hrd hxx (r:=3) rfl
   have x4:=zP zO hrd hxx (r:=4) rfl;rw [Addr.add_lit,← Nat.add_assoc] at x0 x1 x2 x3 x4;rw [Nat.add_zero] at x0;obtain ⟨wt,hwt⟩:∃ wt,wt=wr.alloc (.cells #[.string (str x.o.key),.int .i64 x.o.size,.string (str x.o.etag),.int .i64 x.o.time,.slice x.q x.o.pcs.length x.c] 48):=⟨_,rfl⟩;have ot:Only [] wr wt:=(by rw [hwt];exact Only.alloc _ _);have rt:Row wt wr.heap.size 48 (zH x):=(by rw [hwt];exact Row.zV _ _ _ _ rfl);have HI:=Lib.hid (hI.step ot);have Z0:=Lib.hid (rt.cell (i:=0) rfl);have Z1:=Lib.hid (rt.cell (i:=1) rfl);have Z2:=Lib.hid (rt.cell (i:=2) rfl)
   have Z3:=Lib.hid (rt.cell (i:=3) rfl);have Z4:=Lib.hid (rt.cell (i:=4) rfl);have Hxm:=Lib.hid (List.mem_of_getElem? hxx);have Htk:Hid ((b.os.take (i+1)).map qG.o=(b.os.take i).map qG.o ++ [x.o]):=Lib.hid (by rw [List.take_add_one,hxx,List.map_append];rfl);have HE:Hid (c.name=b.name∧c.time=b.time∧c.days=b.days∧c.os.map qG.o=(b.os.take i).map qG.o∧c.us=[]∧c.pu=none∧c.cu=0):=Lib.hid ⟨e1,e2,e3,e4,e5,e6,e7⟩
   have hnZ:wr.heap.size ∉ w0.heap.size :: blk c.po:=fun hm=>by
    rcases List.mem_cons.1 hm with e | hm
    ·have:=hI.rx.lt;omega
    ·have:=(ownIn hI.own.so _ hm).2;omega
   have Hwt:=Lib.hid hwt;clear hI hrd hne hxx ot rt hwt HC e1 e2 e3 e4 e5 e6 e7
   go_upto_region 6 with (fail)
   rw [← Hwt.out];clear Hwt x0 x1 x2 x3 x4;obtain ⟨B,hBe⟩:∃ B,B=w0.heap.size+1+1:=⟨_,rfl⟩;obtain ⟨lo,hlo⟩:∃ lo,lo=wt.heap.size:=⟨_,rfl⟩;have HX:Hid (Row wt w0.heap.size 60 (zD c)):=Lib.hid HI.out.rx;have Hown:Hid (zN wt B 48 5 (.slice c.po c.os.length c.co) c.os.length (c.os.flatMap zH)):=Lib.hid (by rw [hBe];exact HI.out.own.so)
   have Hnb:Hid (c.os.length≤100000):=Lib.hid (by
    have h:=congrArg List.length HE.out.2.2.2.1;rw [List.length_map,List.length_map,List.length_take] at h
    omega)
   have HB:Hid (B≤wt.heap.size):=Lib.hid (by rw [hBe];have:=HI.out.rr.lt;omega);have hlt5:∀ s∈blk c.po,s < lo:=fun s hs=>(by rw [hlo];exact (ownIn Hown.out s hs).2);have hlt7:∀ s∈[w0.heap.size],s < lo:=fun s hs=>(by rw [List.mem_singleton.1 hs,hlo];exact HX.out.lt);have hXp:w0.heap.size ∉ blk c.po:=fun hm=>by have:=(ownIn Hown.out _ hm).1;rw [hBe] at this;omega
   have HC:Hid (∀ w,Only (w0.heap.size :: blk c.po) wt w→Calls Tryz.prog 68 #[loV x] w fun e w'=>∃ y,e=.returned (loV y)∧PO x w.heap.size y w'∧Only [] w w'):=Lib.hid (fun w ho=>by
    have h0:Only [] w0 w:=HI.out.only.zY ho (fun t ht=>by
     rcases List.mem_cons.1 ht with rfl | ht
     ·exact Nat.le_refl _
     ·have:=(ownIn Hown.out _ ht).1;rw [hBe] at this;omega)
    refine (zDO x w ((HA.out.ob x Hxm.out).zB h0) (by have:=H3.out x Hxm.out;omega)).mono ?_;rintro e w' ⟨q',c',rfl,h5,h6⟩
    exact ⟨⟨x.o,q',c'⟩,rfl,⟨rfl,h5⟩,h6⟩)
   have Hlo:=Lib.hid hlo;have hRr:∀ a,Only (w0.heap.size :: blk c.po) a a:=fun a=>Only.refl _ _;have hRt:∀ a b e,Only (w0.heap.size :: blk c.po) a b→Only (w0.heap.size :: blk c.po) b e→Only (w0.heap.size :: blk c.po) a e:=fun a b e h h2=>h.trans h2 (fun i hi _=>hi);have hRd:Only (w0.heap.size :: blk c.po) wt wt.drew:=(Only.drew _).mono (by simp);have hC0:∀ i∈[5,7],(fun (i:Nat) (a:World)=>(i=5→Only [] wt a)∧(i=7→Row a w0.heap.size 60 (zD c))) i wt.drew:=fun _ _=>⟨fun _=>Only.drew _,fun _=>HX.out.zB (Only.drew _)⟩;refine xG (Only (w0.heap.size :: blk c.po)) (zDm [(5,blk c.po),(7,[w0.heap.size])]) (fun (i:Nat) (a:World)=>(i=5→Only [] wt a)∧(i=7→Row a w0.heap.size 60 (zD c))) [5,7] [[(1,none)],[(21,some 0)],[(6,none)],[(23,some 0)],[(24,some 0)],[(22,some 3),(25,some 0)],[(1,none)],[(27,some 0),(26,some 1)]] [] [none,none,none,none,none,none,none,none,none,none,none,none,none,none,none,none,none,none,none,none,none,some 21,some 22,some 23,some 24,some 25,some 26,some 27,none,none,none,none,none,none,none,none,none,none,none,none,none,none,none,none] (by kernel_rfl) rfl (by kernel_rfl) hRr hRt (fun _ _=>Only.refl _ _) hRd hC0 (by kernel_rfl) (by kernel_rfl) ?_
   apply zR
   ·rintro a w hR hC ⟨(e1:_=_),-⟩;refine zA rfl fun K hK=>?_;go_simp;exact hK _ _ rfl ⟨hRr _,Only.refl _ _,fun _ _ _ _ h=>h⟩
   apply zR
   ·rintro a w hR hC ⟨(e21:_=_),-⟩;refine zA rfl fun K hK=>?_;have hC7:=(hC 7 (by simp) (by kernel_rfl)).2 rfl;have g:=hC7.cell (i:=3) rfl;go_simp;exact hK _ _ rfl ⟨hRr _,Only.refl _ _,fun _ _ _ _ h=>h⟩
   apply zR
   ·rintro a w hR hC ⟨(e6:_=_),-⟩;refine zA rfl fun K hK=>?_;have g0:=hR.cell Z0.out hnZ;have g1:=hR.cell Z1.out hnZ;have g2:=hR.cell Z2.out hnZ;have g3:=hR.cell Z3.out hnZ;have g4:=hR.cell Z4.out hnZ;go_simp;exact hK _ _ rfl ⟨hRr _,Only.refl _ _,fun _ _ _ _ h=>h⟩
   refine ⟨CpV loV (PO x lo),jP (CpV.stable PO.st (by simp)) (vE (Z:=fun y=>Stable (Only y.2) (CpV loV (PO x lo))) (fun _=>CpV.stable PO.st hlt5) (fun _=>CpV.stable PO.st hlt7)),fun a w hR hC hf=>?_,?_⟩
   ·obtain ⟨e23,-⟩:=hf;replace e23:a.tmps.getD 23 undef=_:=e23;refine zA rfl fun K hK=>?_;have hcy:=HC.out w hR;unfold loV at hcy;go_simp;(with_reducible refine hcy.mono ?_);rintro e w' ⟨y,rfl,hy,ho⟩;exact hK _ _ ⟨y,rfl,PO.weaken hy (Nat.le_trans (Nat.le_of_eq hlo) hR.size)⟩ ⟨ho.mono (by simp),ho,fun i _ _ _ hc=>⟨fun e=>(hc.1 e).zC ho,fun e=>(hc.2 e).zB ho⟩⟩
   refine ⟨CpS zH 48 (PO x lo) lo,jP (CpS.stable PO.st (by simp)) (vE (Z:=fun y=>Stable (Only y.2) (CpS zH 48 (PO x lo) lo)) (fun _=>CpS.stable PO.st hlt5) (fun _=>CpS.stable PO.st hlt7)),fun a w hR hC hf=>?_,?_⟩
   ·obtain ⟨e24,-⟩:=hf;replace e24:CpV loV (PO x lo) (a.tmps.getD 24 undef) w:=e24;refine zA rfl fun K hK=>?_;obtain ⟨y,e24,hy⟩:=e24;unfold loV at e24;have e24':=e24;rw [Array.getD_eq_getD_getElem?] at e24';go_simp;refine hK _ _ ⟨y,w.heap.size,rfl,Nat.le_trans (Nat.le_of_eq hlo) hR.size,Row.zV w _ _ _ (by rfl),PO.st _ _ _ _ hy (Only.alloc w _) (by simp)⟩ ⟨(Only.alloc w _).mono (by simp),Only.alloc w _,fun i _ _ _ hc=>⟨fun e=>(hc.1 e).zC (Only.alloc w _),fun e=>(hc.2 e).zB (Only.alloc w _)⟩⟩
   refine ⟨CpA zH 48 5 (PO x lo) (fun y=>blk y.q) lo B (blk c.po) c.os.length c.os,jP (CpA.stable PO.st (by simp) (by simp)) (vE (Z:=fun y=>Stable (Only y.2) (CpA zH 48 5 (PO x lo) (fun y=>blk y.q) lo B (blk c.po) c.os.length c.os)) (fun h=>Bool.noConfusion (h.symm.trans (by kernel_rfl:_=true))) (fun _=>CpA.stable PO.st hlt7 (by simpa using hXp))),fun a w hR hC hf=>?_,?_⟩
   ·obtain ⟨e22,e25,-⟩:=hf;replace e22:a.tmps.getD 22 undef=_:=e22;replace e25:CpS zH 48 (PO x lo) lo (a.tmps.getD 25 undef) w:=e25;refine zA rfl fun K hK=>?_;obtain ⟨y,g,e25,hg,hrow,hy⟩:=e25;have hC5:=(hC 5 (by simp) (by kernel_rfl)).1 rfl;obtain ⟨p',k',w',hra,oA,hA⟩:=xN (P:=Tryz.prog) (bytes:=72) (c:=1) (q:=some ⟨g,0,none⟩) (n:=c.os.length) (m:=1) (news:=zH y) (t:=57) (ty:=57) w Tryz.underlying57 Tryz.infoLO rfl (by omega) (Hown.out.zB hC5) hrow.rd0 rfl (by simp) (xY y) (by have:=Hnb.out;omega) (by have:=Hnb.out;omega) (by have:=hR.size;have:=HB.out;omega)
    have hat:=xR (P:=Tryz.prog) (bytes:=72) (c:=1) (q:=some ⟨g,0,none⟩) (n:=c.os.length) (m:=1) (news:=zH y) (t:=57) (ty:=57) w Tryz.underlying57 Tryz.infoLO rfl (by omega) (Hown.out.zB hC5) hrow.rd0 rfl (by simp) (xY y) (by have:=Hnb.out;omega) (by have:=Hnb.out;omega) hra;refine vF (s:=.tmp 22) (x:=.tmp 25) rfl e22 e25 hra ?_;refine hK _ _ ⟨y,p',k',rfl,PO.st _ _ _ _ hy hA hlt5,by rw [List.flatMap_append];simpa using oA,fun z hz=>?_⟩ ⟨hA.mono (fun x hx=>List.mem_cons_of_mem _ hx),hA,fun i _ hne _ hc=>⟨fun e=>absurd e hne,fun e=>(hc.2 e).only hA hXp⟩⟩
    rcases hat with rfl | ⟨g',rfl,hg'⟩
    ·exact .inl hz
    ·simp [blk] at hz;subst hz;exact .inr ⟨Nat.le_trans (Nat.le_of_eq hlo) (Nat.le_trans hR.size hg'),fun hm=>by have:=PO.lt hy _ hm;omega⟩
   apply zR
   ·rintro a w hR hC ⟨(e1:_=_),-⟩;refine zA rfl fun K hK=>?_;go_simp;exact hK _ _ rfl ⟨hRr _,Only.refl _ _,fun _ _ _ _ h=>h⟩
   refine ⟨CpZ zH 48 5 (PO x lo) (fun y=>blk y.q) lo B (blk c.po) c.os.length c.os w0.heap.size 60 (fun v=>[.string (str c.name),.int .i64 c.time,.int .i64 c.days,v,.slice c.pu c.us.length c.cu]),jP (CpZ.stable PO.st) (vE (Z:=fun y=>Stable (Only y.2) (CpZ zH 48 5 (PO x lo) (fun y=>blk y.q) lo B (blk c.po) c.os.length c.os w0.heap.size 60 (fun v=>[.string (str c.name),.int .i64 c.time,.int .i64 c.days,v,.slice c.pu c.us.length c.cu]))) (fun h=>Bool.noConfusion (h.symm.trans (by kernel_rfl:_=true))) (fun h=>by simp at h)),fun a w hR hC hf=>?_,?_⟩
   ·obtain ⟨e27,e26,-⟩:=hf;replace e27:a.tmps.getD 27 undef=_:=e27;replace e26:CpA zH 48 5 (PO x lo) (fun y=>blk y.q) lo B (blk c.po) c.os.length c.os (a.tmps.getD 26 undef) w:=e26;refine zA rfl fun K hK=>?_;have hC7:=(hC 7 (by simp) (by kernel_rfl)).2 rfl;obtain ⟨y,p',k',e26,hy,oA,hb⟩:=e26;have h7c:=hC7.cell (i:=3) rfl;have h7f:=hC7.free 3;go_simp;have hst:Only [w0.heap.size] w (w.setCell ⟨w0.heap.size,3,none⟩ (.slice p' (c.os.length+1) k')):=Only.setCell w ⟨w0.heap.size,3,none⟩ _;refine hK undef _ ⟨y,p',k',PO.st _ _ _ _ hy hst hlt7,oA.jL hst (fun z hz hm=>?_),hb,hC7.setCell 3 _⟩ ⟨hst.mono (by simp),hst,?_⟩
    ·obtain rfl:=List.mem_singleton.1 hm
     rcases hb _ hz with h | h
     ·exact hXp h
     ·have:=hlt7 w0.heap.size (by simp);omega
    ·intro i hi hne ha _;simp only [List.mem_cons,List.not_mem_nil,or_false] at hi
     rcases hi with rfl | rfl
     ·exact Bool.noConfusion (ha.symm.trans (by kernel_rfl:_=true))
     ·exact absurd rfl hne
   intro fR6 wR6 hRR6 hf hzR6;dsimp only [qE];obtain ⟨v7,y,p',k',hy,oA,hb,hrw⟩:=hzR6 _ (List.mem_cons_self ..);rw [hBe] at oA;rw [hlo] at hy hb;have HIn:=Lib.hid (HI.out.zJc HE.out.2.2.2.2.1 hRR6 hy.2 oA hb hrw);have Hyx:=Lib.hid hy.1;clear hRr hRt hRd hC0 hzR6 hy oA hb hrw hRR6 hlt5 hlt7 hXp;go_wp2_with fail;refine ⟨⟨i+1,by go_num,by omega,Lib.hid ⟨_,HIn.out,HE.out.1,HE.out.2.1,HE.out.2.2.1,?_,HE.out.2.2.2.2⟩⟩,?_⟩
   ·rw [Htk.out,List.map_append,HE.out.2.2.2.1,List.map_singleton,Hyx.out]
   ·show n - ((i:Int)+1).toNat < n - ((i:Int)).toNat;omega
  ·obtain rfl:i=n:=(by omega);have HT:Hid (b.os.take i=b.os):=Lib.hid (List.take_of_length_le (by rw [Hn.out];exact Nat.le_refl _))
   have HC2:Hid (∃ c:LBk,CbI w0 c wr∧c.name=b.name∧c.time=b.time∧c.days=b.days∧c.os.map qG.o=b.os.map qG.o∧c.us.map qN.u=(b.us.take 0).map qN.u):=Lib.hid (by
    obtain ⟨c,hI,e1,e2,e3,e4,e5,e6,e7⟩:=HC.out
    exact ⟨c,hI,e1,e2,e3,by rw [e4,HT.out],by rw [e5];rfl⟩)
   clear HC HT;obtain ⟨wo,rfl⟩:∃ wo:World,wo=wr:=⟨_,rfl⟩;go_wp2_with fail
   go_loopw [31] (fun s31 wr=>∃ i:Nat,s31=.int .i64 (i:Int)∧i≤nu∧Hid (∃ c:LBk,CbI w0 c wr∧c.name=b.name∧c.time=b.time∧c.days=b.days∧c.os.map qG.o=b.os.map qG.o∧c.us.map qN.u=(b.us.take i).map qN.u)) (fun s31 _=>nu - (intOf s31).toNat)
   case atStart=>exact ⟨0,rfl,Nat.zero_le _,HC2⟩
   case round =>
    clear HC2;obtain ⟨i,rfl,hi,HC⟩:=hrel
    by_cases hlt:i < nu
    ·obtain ⟨c,hI,e1,e2,e3,e4,e5⟩:=HC.out;obtain ⟨x,hxx⟩:∃ x,b.us[i]?=some x:=⟨_,List.getElem?_eq_getElem (by rw [Hnu.out];exact hlt)⟩;have hrd:=HA.out.su.1.zB hI.only;have hne:b.us.flatMap zG≠[]:=fun e'=>(by have:=flat_get zG 5 zT b.us i x 0 hxx (by omega);rw [e'] at this;cases this);obtain ⟨bo,off,hpo,-⟩:=hrd.lt hne;rw [hpo] at hrd;have x0:=zP zT hrd hxx (r:=0) rfl;have x1:=zP zT hrd hxx (r:=1) rfl;have x2:=zP zT hrd hxx (r:=2) rfl;have x3:=zP zT hrd hxx (r:=3) rfl
     have x4:=zP zT hrd hxx (r:=4) rfl;rw [Addr.add_lit,← Nat.add_assoc] at x0 x1 x2 x3 x4;rw [Nat.add_zero] at x0;obtain ⟨wt,hwt⟩:∃ wt,wt=wr.alloc (.cells #[.int .i64 x.u.id.node,.int .i64 x.u.id.boot,.int .i64 x.u.id.seq,.string (str x.u.key),.slice x.q x.u.parts.length x.c] 54):=⟨_,rfl⟩;have ot:Only [] wr wt:=(by rw [hwt];exact Only.alloc _ _);have rt:Row wt wr.heap.size 54 (zG x):=(by rw [hwt];exact Row.zV _ _ _ _ rfl);have HI:=Lib.hid (hI.step ot);have Z0:=Lib.hid (rt.cell (i:=0) rfl);have Z1:=Lib.hid (rt.cell (i:=1) rfl);have Z2:=Lib.hid (rt.cell (i:=2) rfl)
     have Z3:=Lib.hid (rt.cell (i:=3) rfl);have Z4:=Lib.hid (rt.cell (i:=4) rfl);have Hxm:=Lib.hid (List.mem_of_getElem? hxx);have Htk:Hid ((b.us.take (i+1)).map qN.u=(b.us.take i).map qN.u ++ [x.u]):=Lib.hid (by rw [List.take_add_one,hxx,List.map_append];rfl);have HE:Hid (c.name=b.name∧c.time=b.time∧c.days=b.days∧c.os.map qG.o=b.os.map qG.o∧c.us.map qN.u=(b.us.take i).map qN.u):=Lib.hid ⟨e1,e2,e3,e4,e5⟩
     have hnZ:wr.heap.size ∉ w0.heap.size :: blk c.pu:=fun hm=>by
      rcases List.mem_cons.1 hm with e | hm
      ·have:=hI.rx.lt;omega
      ·have:=(ownIn hI.own.su _ hm).2;omega
     have Hwt:=Lib.hid hwt;clear hI hrd hne hxx ot rt hwt HC e1 e2 e3 e4 e5
     go_upto_region 11 with (fail)
     rw [← Hwt.out];clear Hwt x0 x1 x2 x3 x4;obtain ⟨B,hBe⟩:∃ B,B=w0.heap.size+1+1:=⟨_,rfl⟩;obtain ⟨lo,hlo⟩:∃ lo,lo=wt.heap.size:=⟨_,rfl⟩;have HX:Hid (Row wt w0.heap.size 60 (zD c)):=Lib.hid HI.out.rx;have Hown:Hid (zN wt B 54 5 (.slice c.pu c.us.length c.cu) c.us.length (c.us.flatMap zG)):=Lib.hid (by rw [hBe];exact HI.out.own.su)
     have Hnb:Hid (c.us.length≤100000):=Lib.hid (by
      have h:=congrArg List.length HE.out.2.2.2.2;rw [List.length_map,List.length_map,List.length_take] at h
      omega)
     have HB:Hid (B≤wt.heap.size):=Lib.hid (by rw [hBe];have:=HI.out.rr.lt;omega);have hlt5:∀ s∈blk c.pu,s < lo:=fun s hs=>(by rw [hlo];exact (ownIn Hown.out s hs).2);have hlt7:∀ s∈[w0.heap.size],s < lo:=fun s hs=>(by rw [List.mem_singleton.1 hs,hlo];exact HX.out.lt);have hXp:w0.heap.size ∉ blk c.pu:=fun hm=>by have:=(ownIn Hown.out _ hm).1;rw [hBe] at this;omega
     have HC:Hid (∀ w,Only (w0.heap.size :: blk c.pu) wt w→Calls Tryz.prog 71 #[luV x] w fun e w'=>∃ y,e=.returned (luV y)∧PU x w.heap.size y w'∧Only [] w w'):=Lib.hid (fun w ho=>by
      have h0:Only [] w0 w:=HI.out.only.zY ho (fun t ht=>by
       rcases List.mem_cons.1 ht with rfl | ht
       ·exact Nat.le_refl _
       ·have:=(ownIn Hown.out _ ht).1;rw [hBe] at this;omega)
      refine (zDA x w ((HA.out.up x Hxm.out).zB h0) (by have:=H4.out x Hxm.out;omega)).mono ?_;rintro e w' ⟨q',c',rfl,h5,h6⟩
      exact ⟨⟨x.u,q',c'⟩,rfl,⟨rfl,h5⟩,h6⟩)
     have Hlo:=Lib.hid hlo;have hRr:∀ a,Only (w0.heap.size :: blk c.pu) a a:=fun a=>Only.refl _ _;have hRt:∀ a b e,Only (w0.heap.size :: blk c.pu) a b→Only (w0.heap.size :: blk c.pu) b e→Only (w0.heap.size :: blk c.pu) a e:=fun a b e h h2=>h.trans h2 (fun i hi _=>hi);have hRd:Only (w0.heap.size :: blk c.pu) wt wt.drew:=(Only.drew _).mono (by simp);have hC0:∀ i∈[5,7],(fun (i:Nat) (a:World)=>(i=5→Only [] wt a)∧(i=7→Row a w0.heap.size 60 (zD c))) i wt.drew:=fun _ _=>⟨fun _=>Only.drew _,fun _=>HX.out.zB (Only.drew _)⟩;refine xG (Only (w0.heap.size :: blk c.pu)) (zDm [(5,blk c.pu),(7,[w0.heap.size])]) (fun (i:Nat) (a:World)=>(i=5→Only [] wt a)∧(i=7→Row a w0.heap.size 60 (zD c))) [5,7] [[(1,none)],[(35,some 0)],[(8,none)],[(37,some 0)],[(38,some 0)],[(36,some 3),(39,some 0)],[(1,none)],[(41,some 0),(40,some 1)]] [] [none,none,none,none,none,none,none,none,none,none,none,none,none,none,none,none,none,none,none,none,none,none,none,none,none,none,none,none,none,none,none,none,none,none,none,some 35,some 36,some 37,some 38,some 39,some 40,some 41,none,none] (by kernel_rfl) rfl (by kernel_rfl) hRr hRt (fun _ _=>Only.refl _ _) hRd hC0 (by kernel_rfl) (by kernel_rfl) ?_
     apply zR
     ·rintro a w hR hC ⟨(e1:_=_),-⟩;refine zA rfl fun K hK=>?_;go_simp;exact hK _ _ rfl ⟨hRr _,Only.refl _ _,fun _ _ _ _ h=>h⟩
     apply zR
     ·rintro a w hR hC ⟨(e35:_=_),-⟩;refine zA rfl fun K hK=>?_;have hC7:=(hC 7 (by simp) (by kernel_rfl)).2 rfl;have g:=hC7.cell (i:=4) rfl;go_simp;exact hK _ _ rfl ⟨hRr _,Only.refl _ _,fun _ _ _ _ h=>h⟩
     apply zR
     ·rintro a w hR hC ⟨(e8:_=_),-⟩;refine zA rfl fun K hK=>?_;have g0:=hR.cell Z0.out hnZ;have g1:=hR.cell Z1.out hnZ;have g2:=hR.cell Z2.out hnZ;have g3:=hR.cell Z3.out hnZ;have g4:=hR.cell Z4.out hnZ;go_simp;exact hK _ _ rfl ⟨hRr _,Only.refl _ _,fun _ _ _ _ h=>h⟩
     refine ⟨CpV luV (PU x lo),jP (CpV.stable PU.st (by simp)) (vE (Z:=fun y=>Stable (Only y.2) (CpV luV (PU x lo))) (fun _=>CpV.stable PU.st hlt5) (fun _=>CpV.stable PU.st hlt7)),fun a w hR hC hf=>?_,?_⟩
     ·obtain ⟨e37,-⟩:=hf;replace e37:a.tmps.getD 37 undef=_:=e37;refine zA rfl fun K hK=>?_;have hcy:=HC.out w hR;unfold luV at hcy;go_simp;(with_reducible refine hcy.mono ?_);rintro e w' ⟨y,rfl,hy,ho⟩;exact hK _ _ ⟨y,rfl,PU.weaken hy (Nat.le_trans (Nat.le_of_eq hlo) hR.size)⟩ ⟨ho.mono (by simp),ho,fun i _ _ _ hc=>⟨fun e=>(hc.1 e).zC ho,fun e=>(hc.2 e).zB ho⟩⟩
     refine ⟨CpS zG 54 (PU x lo) lo,jP (CpS.stable PU.st (by simp)) (vE (Z:=fun y=>Stable (Only y.2) (CpS zG 54 (PU x lo) lo)) (fun _=>CpS.stable PU.st hlt5) (fun _=>CpS.stable PU.st hlt7)),fun a w hR hC hf=>?_,?_⟩
     ·obtain ⟨e38,-⟩:=hf;replace e38:CpV luV (PU x lo) (a.tmps.getD 38 undef) w:=e38;refine zA rfl fun K hK=>?_;obtain ⟨y,e38,hy⟩:=e38;unfold luV at e38;have e38':=e38;rw [Array.getD_eq_getD_getElem?] at e38';go_simp;refine hK _ _ ⟨y,w.heap.size,rfl,Nat.le_trans (Nat.le_of_eq hlo) hR.size,Row.zV w _ _ _ (by rfl),PU.st _ _ _ _ hy (Only.alloc w _) (by simp)⟩ ⟨(Only.alloc w _).mono (by simp),Only.alloc w _,fun i _ _ _ hc=>⟨fun e=>(hc.1 e).zC (Only.alloc w _),fun e=>(hc.2 e).zB (Only.alloc w _)⟩⟩
     refine ⟨CpA zG 54 5 (PU x lo) (fun y=>blk y.q) lo B (blk c.pu) c.us.length c.us,jP (CpA.stable PU.st (by simp) (by simp)) (vE (Z:=fun y=>Stable (Only y.2) (CpA zG 54 5 (PU x lo) (fun y=>blk y.q) lo B (blk c.pu) c.us.length c.us)) (fun h=>Bool.noConfusion (h.symm.trans (by kernel_rfl:_=true))) (fun _=>CpA.stable PU.st hlt7 (by simpa using hXp))),fun a w hR hC hf=>?_,?_⟩
     ·obtain ⟨e36,e39,-⟩:=hf;replace e36:a.tmps.getD 36 undef=_:=e36;replace e39:CpS zG 54 (PU x lo) lo (a.tmps.getD 39 undef) w:=e39;refine zA rfl fun K hK=>?_;obtain ⟨y,g,e39,hg,hrow,hy⟩:=e39;have hC5:=(hC 5 (by simp) (by kernel_rfl)).1 rfl;obtain ⟨p',k',w',hra,oA,hA⟩:=xN (P:=Tryz.prog) (bytes:=64) (c:=1) (q:=some ⟨g,0,none⟩) (n:=c.us.length) (m:=1) (news:=zG y) (t:=58) (ty:=58) w Tryz.underlying58 Tryz.infoLU rfl (by omega) (Hown.out.zB hC5) hrow.rd0 rfl (by simp) (xX y) (by have:=Hnb.out;omega) (by have:=Hnb.out;omega) (by have:=hR.size;have:=HB.out;omega)
      have hat:=xR (P:=Tryz.prog) (bytes:=64) (c:=1) (q:=some ⟨g,0,none⟩) (n:=c.us.length) (m:=1) (news:=zG y) (t:=58) (ty:=58) w Tryz.underlying58 Tryz.infoLU rfl (by omega) (Hown.out.zB hC5) hrow.rd0 rfl (by simp) (xX y) (by have:=Hnb.out;omega) (by have:=Hnb.out;omega) hra;refine vF (s:=.tmp 36) (x:=.tmp 39) rfl e36 e39 hra ?_;refine hK _ _ ⟨y,p',k',rfl,PU.st _ _ _ _ hy hA hlt5,by rw [List.flatMap_append];simpa using oA,fun z hz=>?_⟩ ⟨hA.mono (fun x hx=>List.mem_cons_of_mem _ hx),hA,fun i _ hne _ hc=>⟨fun e=>absurd e hne,fun e=>(hc.2 e).only hA hXp⟩⟩
      rcases hat with rfl | ⟨g',rfl,hg'⟩
      ·exact .inl hz
      ·simp [blk] at hz;subst hz;exact .inr ⟨Nat.le_trans (Nat.le_of_eq hlo) (Nat.le_trans hR.size hg'),fun hm=>by have:=PU.lt hy _ hm;omega⟩
     apply zR
     ·rintro a w hR hC ⟨(e1:_=_),-⟩;refine zA rfl fun K hK=>?_;go_simp;exact hK _ _ rfl ⟨hRr _,Only.refl _ _,fun _ _ _ _ h=>h⟩
     refine ⟨CpZ zG 54 5 (PU x lo) (fun y=>blk y.q) lo B (blk c.pu) c.us.length c.us w0.heap.size 60 (fun v=>[.string (str c.name),.int .i64 c.time,.int .i64 c.days,.slice c.po c.os.length c.co,v]),jP (CpZ.stable PU.st) (vE (Z:=fun y=>Stable (Only y.2) (CpZ zG 54 5 (PU x lo) (fun y=>blk y.q) lo B (blk c.pu) c.us.length c.us w0.heap.size 60 (fun v=>[.string (str c.name),.int .i64 c.time,.int .i64 c.days,.slice c.po c.os.length c.co,v]))) (fun h=>Bool.noConfusion (h.symm.trans (by kernel_rfl:_=true))) (fun h=>by simp at h)),fun a w hR hC hf=>?_,?_⟩
     ·obtain ⟨e41,e40,-⟩:=hf;replace e41:a.tmps.getD 41 undef=_:=e41;replace e40:CpA zG 54 5 (PU x lo) (fun y=>blk y.q) lo B (blk c.pu) c.us.length c.us (a.tmps.getD 40 undef) w:=e40;refine zA rfl fun K hK=>?_;have hC7:=(hC 7 (by simp) (by kernel_rfl)).2 rfl;obtain ⟨y,p',k',e40,hy,oA,hb⟩:=e40;have h7c:=hC7.cell (i:=4) rfl;have h7f:=hC7.free 4;go_simp;have hst:Only [w0.heap.size] w (w.setCell ⟨w0.heap.size,4,none⟩ (.slice p' (c.us.length+1) k')):=Only.setCell w ⟨w0.heap.size,4,none⟩ _;refine hK undef _ ⟨y,p',k',PU.st _ _ _ _ hy hst hlt7,oA.jL hst (fun z hz hm=>?_),hb,hC7.setCell 4 _⟩ ⟨hst.mono (by simp),hst,?_⟩
      ·obtain rfl:=List.mem_singleton.1 hm
       rcases hb _ hz with h | h
       ·exact hXp h
       ·have:=hlt7 w0.heap.size (by simp);omega
      ·intro i hi hne ha _;simp only [List.mem_cons,List.not_mem_nil,or_false] at hi
       rcases hi with rfl | rfl
       ·exact Bool.noConfusion (ha.symm.trans (by kernel_rfl:_=true))
       ·exact absurd rfl hne
     intro fR11 wR11 hRR11 hf hzR11;dsimp only [qE];obtain ⟨v7,y,p',k',hy,oA,hb,hrw⟩:=hzR11 _ (List.mem_cons_self ..);rw [hBe] at oA;rw [hlo] at hy hb;have HIn:=Lib.hid (HI.out.zJh hRR11 hy.2 oA hb hrw);have Hyx:=Lib.hid hy.1;clear hRr hRt hRd hC0 hzR11 hy oA hb hrw hRR11 hlt5 hlt7 hXp;go_wp2_with fail;refine ⟨⟨i+1,by go_num,by omega,Lib.hid ⟨_,HIn.out,HE.out.1,HE.out.2.1,HE.out.2.2.1,HE.out.2.2.2.1,?_⟩⟩,?_⟩
     ·rw [Htk.out,List.map_append,HE.out.2.2.2.2,List.map_singleton,Hyx.out]
     ·show nu - ((i:Int)+1).toNat < nu - ((i:Int)).toNat;omega
    ·obtain rfl:i=nu:=(by omega);obtain ⟨c,hI,e1,e2,e3,e4,e5⟩:=HC.out;rw [List.take_of_length_le (by rw [Hnu.out];exact Nat.le_refl _)] at e5;have x0:=hI.rx.cell (i:=0) rfl;have x1:=hI.rx.cell (i:=1) rfl;have x2:=hI.rx.cell (i:=2) rfl;have x3:=hI.rx.cell (i:=3) rfl;have x4:=hI.rx.cell (i:=4) rfl;have hst:=hI.rr.storeAt (P:=Tryz.prog) (ty:=60) (us:=zD c) zIF rfl (by intro u hu;exact xP c u hu);have Hrow:=Lib.hid (hI.rr.setRow (zD c));have oS:=Only.setRow wr (w0.heap.size+1) (zD c).toArray;have HOf:=Lib.hid (hI.only.zY oS (by simp))
     have Hown:Hid (qZ (wr.setRow (w0.heap.size+1) (zD c).toArray) w0.heap.size c):=Lib.hid ((hI.own.only oS (fun z hz hm=>by have h1:=(hI.own.lo z hz).1;have h2:=List.mem_singleton.1 hm;omega)).weaken (by omega));have Hcb:Hid (c.b=b.b):=Lib.hid (by unfold LBk.b;rw [e1,e2,e3,e4,e5]);have Hst:=Lib.hid hst;clear hI hst oS HC e1 e2 e3 e4 e5
     go_wp2_with (first | ((with_reducible show wpList _ _ _ _ _ _);refine jO (ty:=60) (x:=.tmp 2) (y:=.tmp 43) rfl rfl rfl rfl Hst.out ?_))
     exact bodyPost_ret (qO rfl _ _ _ rfl Hrow.out Tryz.underlying60 zIF) rfl ⟨c,rfl,Hcb.out,Hown.out,HOf.out⟩
structure CcI (w0:World) (X:Nat) (c:qK) (w:World):Prop where
 rx:Row w X 29 (xA c)
 rr:Row w (w0.heap.size+1) 29 [.slice none 0 0,.slice none 0 0]
 own:qA w (w0.heap.size+1+1) c
 nx:X ∉ c.fp
 only:Only [] w0 w
theorem CcI.step {w0 w w':World} {X:Nat} {c:qK} (h:CcI w0 X c w) (ho:Only [] w w'):CcI w0 X c w':=⟨h.rx.zB ho,h.rr.zB ho,h.own.zB ho,h.nx,h.only.zC ho⟩
theorem CcI.push {w0 wt w':World} {X:Nat} {c:qK} (h:CcI w0 X c wt) (hX:w0.heap.size+1 < X) {y:LBk} {p:Option Addr} {k:Nat} (hR:Only (X :: blk c.pb) wt w') (hy:qZ w' wt.heap.size y) (hown:zN w' (w0.heap.size+1+1) 60 5 (.slice p (c.bs.length+1) k) (c.bs.length+1) ((c.bs ++ [y]).flatMap zD)) (hb:∀ z∈blk p,z∈blk c.pb∨(wt.heap.size≤z∧z ∉ y.fp))
  (hr:Row w' X 29 [.slice p (c.bs.length+1) k,.slice c.pf c.fs.length c.cf]):CcI w0 X { c with bs:=c.bs ++ [y],pb:=p,cb:=k } w':=by
 have hlen:(c.bs ++ [y]).length=c.bs.length+1:=(by simp);have hlo:=h.own.lo;have hnx:=h.nx;have hXl:=h.rx.lt
 have hfp:∀ z,z∈c.fp→z ∉ blk c.pb→z ∉ X :: blk c.pb:=fun z hz h1 hm=>by
  rcases List.mem_cons.1 hm with rfl | hm
  ·exact hnx hz
  ·exact h1 hm
 have hnd:=h.own.nd;unfold qK.fp at hnd hfp hnx;obtain ⟨n1,n2,n3⟩:=List.nodup_append.1 hnd;refine ⟨by unfold xA;rw [hlen];exact hr,h.rr.only hR (fun hm=>?_),⟨by rw [hlen];exact hown,h.own.sf.jL hR (fun z hz=>hfp z (by simp [hz]) (fun hm=>n3 z hm z (by simp [hz]) rfl)),fun b hb'=>?_,?_⟩,?_,h.only.zY hR (fun t ht=>?_)⟩
 ·rcases List.mem_cons.1 hm with e | hm
  ·omega
  ·have:=(ownIn h.own.sb _ hm).1;omega
 ·rcases List.mem_append.1 hb' with hb' | hb'
  ·exact (h.own.bk b hb').only hR (fun z hz=>hfp z (by simp only [List.mem_append,List.mem_flatMap];exact .inr (.inr ⟨b,hb',hz⟩)) (fun hm=>n3 z hm z (by simp only [List.mem_append,List.mem_flatMap];exact .inr ⟨b,hb',hz⟩) rfl))
  ·rw [List.mem_singleton.1 hb'];have:=h.only.size;have h2:=h.rr.lt;exact hy.weaken (by omega)
 ·unfold qK.fp;show (blk p ++ (blk c.pf ++ (c.bs ++ [y]).flatMap LBk.fp)).Nodup;rw [List.flatMap_append];have:=zEV (lo:=wt.heap.size) (q:=y.fp) hnd (fun z hz=>(hlo z (by unfold qK.fp;exact hz)).2) hb (fun z hz=>(hy.lo z hz).1) hy.nd
  simpa using this
 ·unfold qK.fp;show X ∉ blk p ++ (blk c.pf ++ (c.bs ++ [y]).flatMap LBk.fp);rw [List.flatMap_append];intro hm
  rcases List.mem_append.1 hm with hm | hm
  ·rcases hb _ hm with h | h
   ·exact hnx (by simp [h])
   ·omega
  rcases List.mem_append.1 hm with hm | hm
  ·exact hnx (by simp [hm])
  rcases List.mem_append.1 hm with hm | hm
  ·exact hnx (by simp only [List.mem_append];exact .inr (.inr hm))
  ·have hm':X∈y.fp:=(by simpa using hm);have:=(hy.lo _ hm').1;omega
 ·rcases List.mem_cons.1 ht with rfl | ht
  ·omega
  ·have:=(ownIn h.own.sb _ ht).1;omega
structure Small (L:qK):Prop where
 b:L.bs.length≤100000
 f:L.fs.length≤100000
 o:∀ b∈L.bs,b.os.length≤100000∧b.us.length≤100000∧(∀ x∈b.os,x.o.pcs.length≤100000)∧∀ x∈b.us,x.u.parts.length≤100000
theorem vL:(Tryz.prog.info? 29).map (·.size)=some 2:=by kernel_rfl
theorem zCS (c:qK):∀ u∈xA c,u.oneCell'=true:=by intro u hu;simp only [xA,List.mem_cons,List.not_mem_nil,or_false] at hu;rcases hu with rfl | rfl <;> rfl
set_option maxHeartbeats 16000000 in
theorem zAy (L:qK) (w0:World) (hA:zBX w0 L) (hs:Small L) :
  Calls Tryz.prog 46 #[lcV L] w0 fun e w'=>∃ c:qK,e=.returned (lcV c)∧c.cat=L.cat∧qA w' w0.heap.size c∧Only [] w0 w':=by
 obtain ⟨n,hn⟩:∃ n,L.bs.length=n:=⟨_,rfl⟩;obtain ⟨nf,hnf⟩:∃ nf,L.fs.length=nf:=⟨_,rfl⟩;obtain ⟨w1,hw1⟩:∃ w1,w1=w0.alloc (.cells #[.slice L.pb n L.cb,.slice L.pf nf L.cf] 29):=⟨_,rfl⟩;obtain ⟨w2,hw2⟩:∃ w2,w2=w1.alloc (.cells #[.slice none 0 0,.slice none 0 0] 29):=⟨_,rfl⟩;have o1:Only [] w0 w1:=(by rw [hw1];exact Only.alloc _ _);have o2:Only [] w1 w2:=(by rw [hw2];exact Only.alloc _ _);have s1:w1.heap.size=w0.heap.size+1:=(by rw [hw1];simp);have s2:w2.heap.size=w0.heap.size+1+1:=(by rw [hw2];simp [s1]);have r1:Row w2 w0.heap.size 29 [.slice L.pb n L.cb,.slice L.pf nf L.cf]:=(show Row w1 w0.heap.size 29 [.slice L.pb n L.cb,.slice L.pf nf L.cf] by rw [hw1];exact Row.zV _ _ _ _ rfl).zB o2
 have r2:Row w2 (w0.heap.size+1) 29 [.slice none 0 0,.slice none 0 0]:=(by rw [← s1,hw2];exact Row.zV _ _ _ _ rfl);have hn5:n≤100000:=(by have:=hs.b;omega);have hcl:=zFS L.pf L.fs nf L.cf w2 hnf (by have:=hs.f;omega) (by have:=hA.sf;rw [hnf] at this;exact this.zB (o1.zC o2));have c1:=r1.cell (i:=1) rfl;have HA:=Lib.hid hA;have HO:=Lib.hid (o1.zC o2);have HR1:=Lib.hid r1;have HR2:=Lib.hid r2;have Hw1:=Lib.hid hw1;have Hw2:=Lib.hid hw2;have Hs2:=Lib.hid s2;have Hn:=Lib.hid hn;have Hnf:=Lib.hid hnf;have HS:=Lib.hid hs
 unfold lcV;rw [hn,hnf];clear o1 o2 s1 s2 r1 r2 hw1 hw2 hA hn hnf hs
 go_enter Tryz.func46,Tryz.ntmps46
 go_upto_region 1 with (fail)
 rw [← Hw1.out,← Hw2.out];clear Hw1 Hw2;go_wp2_with fail;refine hcl.mono ?_;clear hcl c1;rintro e w3 ⟨qf,cf,rfl,ownf,o3⟩;obtain ⟨w4,hw4⟩:∃ w4,w4=w3.alloc (.cells #[.slice none 0 0,.slice qf nf cf] 29):=⟨_,rfl⟩;have o4:Only [] w3 w4:=(by rw [hw4];exact Only.alloc _ _);have r4:Row w4 w3.heap.size 29 [.slice none 0 0,.slice qf nf cf]:=by rw [hw4];exact Row.zV _ _ _ _ rfl
 have hI0:CcI w0 w3.heap.size ⟨[],none,0,L.fs,qf,cf⟩ w4:=by
  refine ⟨by unfold xA;rw [Hnf.out];exact r4,(HR2.out.zB o3).zB o4,⟨zN.nil _ _ _ _,?_,by simp,?_⟩,?_,(HO.out.zC o3).zC o4⟩
  ·show zN w4 (w0.heap.size+1+1) 31 3 (.slice qf L.fs.length cf) L.fs.length (L.fs.flatMap zI);rw [Hnf.out,← Hs2.out];exact ownf.zB o4
  ·unfold qK.fp;have:=yU qf
   simpa [blk] using this
  ·unfold qK.fp;intro hm;have hm':w3.heap.size∈blk qf:=(by simpa [blk] using hm);have:=(ownIn ownf _ hm').2;omega
 have hq:=HR1.out.zB (o3.zC o4);have c0:=hq.cell (i:=0) rfl;have HI0:=Lib.hid hI0;have HX3:Hid (w0.heap.size+1 < w3.heap.size):=Lib.hid (HR2.out.zB o3).lt;have Hw4:=Lib.hid hw4;clear ownf o3 o4 r4 hI0 hq hw4
 go_upto_region 2 with (fail)
 rw [← Hw4.out];clear Hw4;go_wp2_with fail;clear c0
 go_loopw [13] (fun s13 wr=>∃ i:Nat,s13=.int .i64 (i:Int)∧i≤n∧Hid (∃ c:qK,CcI w0 w3.heap.size c wr∧c.fs=L.fs∧c.bs.map LBk.b=(L.bs.take i).map LBk.b)) (fun s13 _=>n - (intOf s13).toNat)
 case atStart=>exact ⟨0,rfl,Nat.zero_le _,Lib.hid ⟨_,HI0.out,rfl,rfl⟩⟩
 case round =>
  clear HI0;obtain ⟨i,rfl,hi,HC⟩:=hrel
  by_cases hlt:i < n
  ·obtain ⟨c,hI,e1,e2⟩:=HC.out;obtain ⟨x,hxx⟩:∃ x,L.bs[i]?=some x:=⟨_,List.getElem?_eq_getElem (by rw [Hn.out];exact hlt)⟩;have hrd:=HA.out.sb.1.zB hI.only;have hne:L.bs.flatMap zD≠[]:=fun e'=>(by have:=flat_get zD 5 zQ L.bs i x 0 hxx (by omega);rw [e'] at this;cases this);obtain ⟨bo,off,hpo,-⟩:=hrd.lt hne;rw [hpo] at hrd;have x0:=zP zQ hrd hxx (r:=0) rfl;have x1:=zP zQ hrd hxx (r:=1) rfl;have x2:=zP zQ hrd hxx (r:=2) rfl;have x3:=zP zQ hrd hxx (r:=3) rfl;have x4:=zP zQ hrd hxx (r:=4) rfl
   rw [Addr.add_lit,← Nat.add_assoc] at x0 x1 x2 x3 x4;rw [Nat.add_zero] at x0;obtain ⟨wt,hwt⟩:∃ wt,wt=wr.alloc (.cells #[.string (str x.name),.int .i64 x.time,.int .i64 x.days,.slice x.po x.os.length x.co,.slice x.pu x.us.length x.cu] 60):=⟨_,rfl⟩;have ot:Only [] wr wt:=(by rw [hwt];exact Only.alloc _ _);have rt:Row wt wr.heap.size 60 (zD x):=(by rw [hwt];exact Row.zV _ _ _ _ rfl);have HI:=Lib.hid (hI.step ot);have Z0:=Lib.hid (rt.cell (i:=0) rfl);have Z1:=Lib.hid (rt.cell (i:=1) rfl);have Z2:=Lib.hid (rt.cell (i:=2) rfl);have Z3:=Lib.hid (rt.cell (i:=3) rfl)
   have Z4:=Lib.hid (rt.cell (i:=4) rfl);have Hxm:=Lib.hid (List.mem_of_getElem? hxx);have Htk:Hid ((L.bs.take (i+1)).map LBk.b=(L.bs.take i).map LBk.b ++ [x.b]):=Lib.hid (by rw [List.take_add_one,hxx,List.map_append];rfl);have HE:Hid (c.fs=L.fs∧c.bs.map LBk.b=(L.bs.take i).map LBk.b):=Lib.hid ⟨e1,e2⟩
   have hnZ:wr.heap.size ∉ w3.heap.size :: blk c.pb:=fun hm=>by
    rcases List.mem_cons.1 hm with e | hm
    ·have:=hI.rx.lt;omega
    ·have:=(ownIn hI.own.sb _ hm).2;omega
   have Hwt:=Lib.hid hwt;clear hI hrd hne hxx ot rt hwt HC e1 e2
   go_upto_region 5 with (fail)
   rw [← Hwt.out];clear Hwt x0 x1 x2 x3 x4;obtain ⟨B,hBe⟩:∃ B,B=w0.heap.size+1+1:=⟨_,rfl⟩;obtain ⟨lo,hlo⟩:∃ lo,lo=wt.heap.size:=⟨_,rfl⟩;have HX:Hid (Row wt w3.heap.size 29 (xA c)):=Lib.hid HI.out.rx;have Hown:Hid (zN wt B 60 5 (.slice c.pb c.bs.length c.cb) c.bs.length (c.bs.flatMap zD)):=Lib.hid (by rw [hBe];exact HI.out.own.sb)
   have Hnb:Hid (c.bs.length≤100000):=Lib.hid (by
    have h:=congrArg List.length HE.out.2;rw [List.length_map,List.length_map,List.length_take] at h
    omega)
   have HB:Hid (B≤wt.heap.size):=Lib.hid (by rw [hBe];have:=HI.out.rr.lt;omega);have hlt5:∀ s∈blk c.pb,s < lo:=fun s hs=>(by rw [hlo];exact (ownIn Hown.out s hs).2);have hlt7:∀ s∈[w3.heap.size],s < lo:=fun s hs=>(by rw [List.mem_singleton.1 hs,hlo];exact HX.out.lt);have hXp:w3.heap.size ∉ blk c.pb:=fun hm=>HI.out.nx (by unfold qK.fp;simp [hm])
   have HC:Hid (∀ w,Only (w3.heap.size :: blk c.pb) wt w→Calls Tryz.prog 72 #[lbV x] w fun e w'=>∃ y,e=.returned (lbV y)∧PB x w.heap.size y w'∧Only [] w w'):=Lib.hid (fun w ho=>by
    have h0:Only [] w0 w:=HI.out.only.zY ho (fun t ht=>by
     rcases List.mem_cons.1 ht with rfl | ht
     ·have:=HX3.out;omega
     ·have:=(ownIn Hown.out _ ht).1;rw [hBe] at this;omega)
    obtain ⟨h5,h6,h7,h8⟩:=HS.out.o x Hxm.out;refine (zCq x w ((HA.out.bk x Hxm.out).zB h0) h5 h6 h7 h8).mono ?_;rintro e w' ⟨y,rfl,h9,h10,h11⟩
    exact ⟨y,rfl,⟨h9,h10⟩,h11⟩)
   have Hlo:=Lib.hid hlo;have hRr:∀ a,Only (w3.heap.size :: blk c.pb) a a:=fun a=>Only.refl _ _;have hRt:∀ a b e,Only (w3.heap.size :: blk c.pb) a b→Only (w3.heap.size :: blk c.pb) b e→Only (w3.heap.size :: blk c.pb) a e:=fun a b e h h2=>h.trans h2 (fun i hi _=>hi);have hRd:Only (w3.heap.size :: blk c.pb) wt wt.drew:=(Only.drew _).mono (by simp);have hC0:∀ i∈[5,7],(fun (i:Nat) (a:World)=>(i=5→Only [] wt a)∧(i=7→Row a w3.heap.size 29 (xA c))) i wt.drew:=fun _ _=>⟨fun _=>Only.drew _,fun _=>HX.out.zB (Only.drew _)⟩;refine xG (Only (w3.heap.size :: blk c.pb)) (zDm [(5,blk c.pb),(7,[w3.heap.size])]) (fun (i:Nat) (a:World)=>(i=5→Only [] wt a)∧(i=7→Row a w3.heap.size 29 (xA c))) [5,7] [[(3,none)],[(17,some 0)],[(5,none)],[(19,some 0)],[(20,some 0)],[(18,some 3),(21,some 0)],[(3,none)],[(23,some 0),(22,some 1)]] [] [none,none,none,none,none,none,none,none,none,none,none,none,none,none,none,none,none,some 17,some 18,some 19,some 20,some 21,some 22,some 23,none,none] (by kernel_rfl) rfl (by kernel_rfl) hRr hRt (fun _ _=>Only.refl _ _) hRd hC0 (by kernel_rfl) (by kernel_rfl) ?_
   apply zR
   ·rintro a w hR hC ⟨(e3:_=_),-⟩;refine zA rfl fun K hK=>?_;go_simp;exact hK _ _ rfl ⟨hRr _,Only.refl _ _,fun _ _ _ _ h=>h⟩
   apply zR
   ·rintro a w hR hC ⟨(e17:_=_),-⟩;refine zA rfl fun K hK=>?_;have hC7:=(hC 7 (by simp) (by kernel_rfl)).2 rfl;have g:=hC7.cell (i:=0) rfl;go_simp;exact hK _ _ rfl ⟨hRr _,Only.refl _ _,fun _ _ _ _ h=>h⟩
   apply zR
   ·rintro a w hR hC ⟨(e5:_=_),-⟩;refine zA rfl fun K hK=>?_;have g0:=hR.cell Z0.out hnZ;have g1:=hR.cell Z1.out hnZ;have g2:=hR.cell Z2.out hnZ;have g3:=hR.cell Z3.out hnZ;have g4:=hR.cell Z4.out hnZ;go_simp;exact hK _ _ rfl ⟨hRr _,Only.refl _ _,fun _ _ _ _ h=>h⟩
   refine ⟨CpV lbV (PB x lo),jP (CpV.stable PB.st (by simp)) (vE (Z:=fun y=>Stable (Only y.2) (CpV lbV (PB x lo))) (fun _=>CpV.stable PB.st hlt5) (fun _=>CpV.stable PB.st hlt7)),fun a w hR hC hf=>?_,?_⟩
   ·obtain ⟨e19,-⟩:=hf;replace e19:a.tmps.getD 19 undef=_:=e19;refine zA rfl fun K hK=>?_;have hcy:=HC.out w hR;unfold lbV at hcy;go_simp;(with_reducible refine hcy.mono ?_);rintro e w' ⟨y,rfl,hy,ho⟩;exact hK _ _ ⟨y,rfl,PB.weaken hy (Nat.le_trans (Nat.le_of_eq hlo) hR.size)⟩ ⟨ho.mono (by simp),ho,fun i _ _ _ hc=>⟨fun e=>(hc.1 e).zC ho,fun e=>(hc.2 e).zB ho⟩⟩
   refine ⟨CpS zD 60 (PB x lo) lo,jP (CpS.stable PB.st (by simp)) (vE (Z:=fun y=>Stable (Only y.2) (CpS zD 60 (PB x lo) lo)) (fun _=>CpS.stable PB.st hlt5) (fun _=>CpS.stable PB.st hlt7)),fun a w hR hC hf=>?_,?_⟩
   ·obtain ⟨e20,-⟩:=hf;replace e20:CpV lbV (PB x lo) (a.tmps.getD 20 undef) w:=e20;refine zA rfl fun K hK=>?_;obtain ⟨y,e20,hy⟩:=e20;unfold lbV at e20;have e20':=e20;rw [Array.getD_eq_getD_getElem?] at e20';go_simp;refine hK _ _ ⟨y,w.heap.size,rfl,Nat.le_trans (Nat.le_of_eq hlo) hR.size,Row.zV w _ _ _ (by rfl),PB.st _ _ _ _ hy (Only.alloc w _) (by simp)⟩ ⟨(Only.alloc w _).mono (by simp),Only.alloc w _,fun i _ _ _ hc=>⟨fun e=>(hc.1 e).zC (Only.alloc w _),fun e=>(hc.2 e).zB (Only.alloc w _)⟩⟩
   refine ⟨CpA zD 60 5 (PB x lo) LBk.fp lo B (blk c.pb) c.bs.length c.bs,jP (CpA.stable PB.st (by simp) (by simp)) (vE (Z:=fun y=>Stable (Only y.2) (CpA zD 60 5 (PB x lo) LBk.fp lo B (blk c.pb) c.bs.length c.bs)) (fun h=>Bool.noConfusion (h.symm.trans (by kernel_rfl:_=true))) (fun _=>CpA.stable PB.st hlt7 (by simpa using hXp))),fun a w hR hC hf=>?_,?_⟩
   ·obtain ⟨e18,e21,-⟩:=hf;replace e18:a.tmps.getD 18 undef=_:=e18;replace e21:CpS zD 60 (PB x lo) lo (a.tmps.getD 21 undef) w:=e21;refine zA rfl fun K hK=>?_;obtain ⟨y,g,e21,hg,hrow,hy⟩:=e21;have hC5:=(hC 5 (by simp) (by kernel_rfl)).1 rfl;obtain ⟨p',k',w',hra,oA,hA⟩:=xN (P:=Tryz.prog) (bytes:=80) (c:=1) (q:=some ⟨g,0,none⟩) (n:=c.bs.length) (m:=1) (news:=zD y) (t:=26) (ty:=26) w Tryz.underlying26 Tryz.infoLB rfl (by omega) (Hown.out.zB hC5) hrow.rd0 rfl (by simp) (xP y) (by have:=Hnb.out;omega) (by have:=Hnb.out;omega) (by have:=hR.size;have:=HB.out;omega)
    have hat:=xR (P:=Tryz.prog) (bytes:=80) (c:=1) (q:=some ⟨g,0,none⟩) (n:=c.bs.length) (m:=1) (news:=zD y) (t:=26) (ty:=26) w Tryz.underlying26 Tryz.infoLB rfl (by omega) (Hown.out.zB hC5) hrow.rd0 rfl (by simp) (xP y) (by have:=Hnb.out;omega) (by have:=Hnb.out;omega) hra;refine vF (s:=.tmp 18) (x:=.tmp 21) rfl e18 e21 hra ?_;refine hK _ _ ⟨y,p',k',rfl,PB.st _ _ _ _ hy hA hlt5,by rw [List.flatMap_append];simpa using oA,fun z hz=>?_⟩ ⟨hA.mono (fun x hx=>List.mem_cons_of_mem _ hx),hA,fun i _ hne _ hc=>⟨fun e=>absurd e hne,fun e=>(hc.2 e).only hA hXp⟩⟩
    rcases hat with rfl | ⟨g',rfl,hg'⟩
    ·exact .inl hz
    ·simp [blk] at hz;subst hz;exact .inr ⟨Nat.le_trans (Nat.le_of_eq hlo) (Nat.le_trans hR.size hg'),fun hm=>by have:=PB.lt hy _ hm;omega⟩
   apply zR
   ·rintro a w hR hC ⟨(e3:_=_),-⟩;refine zA rfl fun K hK=>?_;go_simp;exact hK _ _ rfl ⟨hRr _,Only.refl _ _,fun _ _ _ _ h=>h⟩
   refine ⟨CpZ zD 60 5 (PB x lo) LBk.fp lo B (blk c.pb) c.bs.length c.bs w3.heap.size 29 (fun v=>[v,.slice c.pf c.fs.length c.cf]),jP (CpZ.stable PB.st) (vE (Z:=fun y=>Stable (Only y.2) (CpZ zD 60 5 (PB x lo) LBk.fp lo B (blk c.pb) c.bs.length c.bs w3.heap.size 29 (fun v=>[v,.slice c.pf c.fs.length c.cf]))) (fun h=>Bool.noConfusion (h.symm.trans (by kernel_rfl:_=true))) (fun h=>by simp at h)),fun a w hR hC hf=>?_,?_⟩
   ·obtain ⟨e23,e22,-⟩:=hf;replace e23:a.tmps.getD 23 undef=_:=e23;replace e22:CpA zD 60 5 (PB x lo) LBk.fp lo B (blk c.pb) c.bs.length c.bs (a.tmps.getD 22 undef) w:=e22;refine zA rfl fun K hK=>?_;have hC7:=(hC 7 (by simp) (by kernel_rfl)).2 rfl;obtain ⟨y,p',k',e22,hy,oA,hb⟩:=e22;have h7c:=hC7.cell (i:=0) rfl;have h7f:=hC7.free 0;go_simp;have hst:Only [w3.heap.size] w (w.setCell ⟨w3.heap.size,0,none⟩ (.slice p' (c.bs.length+1) k')):=Only.setCell w ⟨w3.heap.size,0,none⟩ _;refine hK undef _ ⟨y,p',k',PB.st _ _ _ _ hy hst hlt7,oA.jL hst (fun z hz hm=>?_),hb,hC7.setCell 0 _⟩ ⟨hst.mono (by simp),hst,?_⟩
    ·obtain rfl:=List.mem_singleton.1 hm
     rcases hb _ hz with h | h
     ·exact hXp h
     ·have:=hlt7 w3.heap.size (by simp);omega
    ·intro i hi hne ha _;simp only [List.mem_cons,List.not_mem_nil,or_false] at hi
     rcases hi with rfl | rfl
     ·exact Bool.noConfusion (ha.symm.trans (by kernel_rfl:_=true))
     ·exact absurd rfl hne
   intro fR5 wR5 hRR5 hf hzR5;dsimp only [qE];obtain ⟨v7,y,p',k',hy,oA,hb,hrw⟩:=hzR5 _ (List.mem_cons_self ..);rw [hBe] at oA;rw [hlo] at hy hb;have HIn:=Lib.hid (HI.out.push HX3.out hRR5 hy.2 oA hb hrw);have Hyx:=Lib.hid hy.1;clear hRr hRt hRd hC0 hzR5 hy oA hb hrw hRR5 hlt5 hlt7 hXp;go_wp2_with fail;refine ⟨⟨i+1,by go_num,by omega,Lib.hid ⟨_,HIn.out,HE.out.1,?_⟩⟩,?_⟩
   ·rw [Htk.out,List.map_append,HE.out.2,List.map_singleton,Hyx.out]
   ·show n - ((i:Int)+1).toNat < n - ((i:Int)).toNat;omega
  ·obtain rfl:i=n:=(by omega);obtain ⟨c,hI,e1,e2⟩:=HC.out;rw [List.take_of_length_le (by rw [Hn.out];exact Nat.le_refl _)] at e2;have x0:=hI.rx.cell (i:=0) rfl;have x1:=hI.rx.cell (i:=1) rfl;have hst:=hI.rr.storeAt (P:=Tryz.prog) (ty:=29) (us:=xA c) vL rfl (by intro u hu;exact zCS c u hu);have Hrow:=Lib.hid (hI.rr.setRow (xA c));have oS:=Only.setRow wr (w0.heap.size+1) (xA c).toArray;have HOf:=Lib.hid (hI.only.zY oS (by simp));have Hown:Hid (qA (wr.setRow (w0.heap.size+1) (xA c).toArray) w0.heap.size c):=Lib.hid ((hI.own.only oS (fun z hz hm=>by have h1:=(hI.own.lo z hz).1;have h2:=List.mem_singleton.1 hm;omega)).weaken (by omega))
   have Hcb:Hid (c.cat=L.cat):=Lib.hid (by unfold qK.cat;rw [e1,e2]);have Hst:=Lib.hid hst;clear hI hst oS HC e1 e2
   go_wp2_with (first | ((with_reducible show wpList _ _ _ _ _ _);refine jO (ty:=29) (x:=.tmp 2) (y:=.tmp 25) rfl rfl rfl rfl Hst.out ?_))
   exact bodyPost_ret (qO rfl _ _ _ rfl Hrow.out Tryz.underlying29 vL) rfl ⟨c,rfl,Hcb.out,Hown.out,HOf.out⟩
end
section
open Go.RowKit Go.Shelf
attribute [local go_sem] Oper.semAt_some
theorem take_snoc' {γ:Type} {l:List γ} {j:Nat} {p:γ} (hp:l[j]?=some p):l.take (j+1)=l.take j ++ [p]:=by
 rw [List.take_add_one,hp];rfl
end
section
open Go.RowKit
theorem zJR (a b:Cid) (w:World):(Op.equalIn 10000 31 (idV a) (idV b)).run Tryz.prog w=.ok (decide (a=b)) w:=by
 have hu:Tryz.prog.underlying 31=some (.struct (Tryz.prog.fieldsOf 31)):=(by kernel_rfl);have hs:Tryz.prog.stoodInHeld 31=false:=(by kernel_rfl);have h:=Tryz.underlying31;unfold idV;rw [show (10000:Nat)=9999+1 from rfl,run_equalIn_agg w 9999 31 _ _ hu hs];simp only [Program.fieldsOf,h];have q3:=fun (x y:Int) (w:World)=>run_equalIn_int (P:=Tryz.prog) w 9998 3 .i64 .i64 x y Tryz.underlying3
 simp [Op.eqFields,part,Tryz.isAgg3,q3]
 obtain ⟨a1,a2,a3⟩:=a;obtain ⟨b1,b2,b3⟩:=b;simp only [Cid.mk.injEq]
 by_cases h1:a1=b1 <;> by_cases h2:a2=b2 <;> by_cases h3:a3=b3 <;> simp [h1,h2,h3]
end
end Go.Proofs.YtfeglnpmpgipiaaGreatDoor
