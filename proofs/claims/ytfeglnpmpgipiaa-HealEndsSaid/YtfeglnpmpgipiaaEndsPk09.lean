/- EndsPk, part 9: CatMem, CloneW, CatOwn, Forms10, PieceW, CopyObW, CopyBkW, CmdMem, GoodBuckW, GoodKeyW, IdSet, InForm10T, InForm10P, InForm10M, InForm10K, InForm10L, InForm10C, IdSetW. -/
import Derived.Test.YtfeglnpmpgipiaaEndsPk01
import Derived.Test.YtfeglnpmpgipiaaEndsPk03
import Derived.Test.YtfeglnpmpgipiaaEndsPk04
import Derived.Test.YtfeglnpmpgipiaaEndsPk05
import Derived.Test.YtfeglnpmpgipiaaEndsPk06
import Derived.Test.YtfeglnpmpgipiaaEndsPk07
import Derived.Test.YtfeglnpmpgipiaaEndsPk08
import Derived.Test.YtfeglnpmpgipiaaProg
import Derived.Deep.DeepCutAuto
import Derived.Deep.Cut
import Derived.Laws.IdiomStrings
import Derived.MapKept
import Derived.Laws.StructEq
set_option linter.unusedVariables false
set_option maxRecDepth 100000
section
set_option linter.unusedVariables false
set_option maxRecDepth 100000
namespace Go.Proofs.Ytfeglnpmpgipiaa
open Go.RowKit
def idCells (a : Cid) : List Value := [.int .i64 a.node, .int .i64 a.boot, .int .i64 a.seq]
def idV (a : Cid) : Value := .agg #[.int .i64 a.node, .int .i64 a.boot, .int .i64 a.seq]
def pcCells (p : Pc) : List Value := [.int .i64 p.blob.node, .int .i64 p.blob.boot, .int .i64 p.blob.seq, .int .i64 p.size, .string (str p.etag)]
def pcV (p : Pc) : Value := .agg #[.int .i64 p.blob.node, .int .i64 p.blob.boot, .int .i64 p.blob.seq, .int .i64 p.size, .string (str p.etag)]
def ptCells (p : CPart) : List Value := [.int .i64 p.num, .int .i64 p.pc.blob.node, .int .i64 p.pc.blob.boot, .int .i64 p.pc.blob.seq, .int .i64 p.pc.size, .string (str p.pc.etag)]
def ptV (p : CPart) : Value := .agg #[.int .i64 p.num, .int .i64 p.pc.blob.node, .int .i64 p.pc.blob.boot, .int .i64 p.pc.blob.seq, .int .i64 p.pc.size, .string (str p.pc.etag)]
theorem idCells_len (a : Cid) : (idCells a).length = 3 := rfl
theorem pcCells_len (a : Pc) : (pcCells a).length = 5 := rfl
theorem ptCells_len (a : CPart) : (ptCells a).length = 6 := rfl
structure LObj where
 o : CObj
 q : Option Addr
 c : Nat
structure LUpl where
 u : CUpl
 q : Option Addr
 c : Nat
structure LBk where
 name : Bs
 time : Int
 days : Int
 os : List LObj
 po : Option Addr
 co : Nat
 us : List LUpl
 pu : Option Addr
 cu : Nat
structure LCat where
 bs : List LBk
 pb : Option Addr
 cb : Nat
 fs : List Cid
 pf : Option Addr
 cf : Nat
def loCells (x : LObj) : List Value := [.string (str x.o.key), .int .i64 x.o.size, .string (str x.o.etag), .int .i64 x.o.time, .slice x.q x.o.pcs.length x.c]
def loV (x : LObj) : Value := .agg #[.string (str x.o.key), .int .i64 x.o.size, .string (str x.o.etag), .int .i64 x.o.time, .slice x.q x.o.pcs.length x.c]
def luCells (x : LUpl) : List Value := [.int .i64 x.u.id.node, .int .i64 x.u.id.boot, .int .i64 x.u.id.seq, .string (str x.u.key), .slice x.q x.u.parts.length x.c]
def luV (x : LUpl) : Value := .agg #[.int .i64 x.u.id.node, .int .i64 x.u.id.boot, .int .i64 x.u.id.seq, .string (str x.u.key), .slice x.q x.u.parts.length x.c]
def lbCells (b : LBk) : List Value := [.string (str b.name), .int .i64 b.time, .int .i64 b.days, .slice b.po b.os.length b.co, .slice b.pu b.us.length b.cu]
def lbV (b : LBk) : Value := .agg #[.string (str b.name), .int .i64 b.time, .int .i64 b.days, .slice b.po b.os.length b.co, .slice b.pu b.us.length b.cu]
def lcCells (c : LCat) : List Value := [.slice c.pb c.bs.length c.cb, .slice c.pf c.fs.length c.cf]
def lcV (c : LCat) : Value := .agg #[.slice c.pb c.bs.length c.cb, .slice c.pf c.fs.length c.cf]
theorem loCells_len (a : LObj) : (loCells a).length = 5 := rfl
theorem luCells_len (a : LUpl) : (luCells a).length = 5 := rfl
theorem lbCells_len (a : LBk) : (lbCells a).length = 5 := rfl
theorem idCells_one (a : Cid) : ∀ u ∈ idCells a, u.oneCell' = true := by intro u hu; simp only [idCells, List.mem_cons, List.not_mem_nil, or_false] at hu; rcases hu with rfl | rfl | rfl <;> rfl
theorem pcCells_one (a : Pc) : ∀ u ∈ pcCells a, u.oneCell' = true := by intro u hu; simp only [pcCells, List.mem_cons, List.not_mem_nil, or_false] at hu; rcases hu with rfl | rfl | rfl | rfl | rfl <;> rfl
theorem ptCells_one (a : CPart) : ∀ u ∈ ptCells a, u.oneCell' = true := by intro u hu; simp only [ptCells, List.mem_cons, List.not_mem_nil, or_false] at hu; rcases hu with rfl | rfl | rfl | rfl | rfl | rfl <;> rfl
theorem loCells_one (a : LObj) : ∀ u ∈ loCells a, u.oneCell' = true := by intro u hu; simp only [loCells, List.mem_cons, List.not_mem_nil, or_false] at hu; rcases hu with rfl | rfl | rfl | rfl | rfl <;> rfl
theorem luCells_one (a : LUpl) : ∀ u ∈ luCells a, u.oneCell' = true := by intro u hu; simp only [luCells, List.mem_cons, List.not_mem_nil, or_false] at hu; rcases hu with rfl | rfl | rfl | rfl | rfl <;> rfl
theorem lbCells_one (a : LBk) : ∀ u ∈ lbCells a, u.oneCell' = true := by intro u hu; simp only [lbCells, List.mem_cons, List.not_mem_nil, or_false] at hu; rcases hu with rfl | rfl | rfl | rfl | rfl <;> rfl
def LBk.b (b : LBk) : CBuck := ⟨b.name, b.time, b.days, b.os.map LObj.o, b.us.map LUpl.u⟩
def LCat.cat (c : LCat) : Cat := ⟨c.bs.map LBk.b, c.fs⟩
def SlOk (w : World) (q : Option Addr) (n c : Nat) (vs : List Value) : Prop := Rd w q vs ∧ (q = none → n = 0 ∧ c = 0) ∧ n ≤ c
theorem SlOk.only {S : List Nat} {w w' : World} {q : Option Addr} {n c : Nat} {vs : List Value} (h : SlOk w q n c vs) (ho : Only S w w') (hq : ∀ x ∈ blk q, x ∉ S) : SlOk w' q n c vs :=
 ⟨h.1.only ho (fun a ha => hq _ (by rw [ha]; simp [blk])), h.2⟩
theorem SlOk.only0 {w w' : World} {q : Option Addr} {n c : Nat} {vs : List Value} (h : SlOk w q n c vs) (ho : Only [] w w') : SlOk w' q n c vs := h.only ho (by simp)
theorem SlOk.nil (w : World) : SlOk w none 0 0 [] := ⟨Rd.nil _ _, fun _ => ⟨rfl, rfl⟩, Nat.le_refl _⟩
theorem SlOk.own {w : World} {base K n c : Nat} {e : TypeId} {p : Option Addr} {vs : List Value} (h : OwnK w base e K (.slice p n c) n vs) : SlOk w p n c vs := ⟨h.view.2.2.1, h.view.2.2.2.1, h.view.2.2.2.2.1⟩
def ObAt (w : World) (x : LObj) : Prop := SlOk w x.q x.o.pcs.length x.c (x.o.pcs.flatMap pcCells)
def UpAt (w : World) (x : LUpl) : Prop := SlOk w x.q x.u.parts.length x.c (x.u.parts.flatMap ptCells)
structure BkAt (w : World) (b : LBk) : Prop where
 so : SlOk w b.po b.os.length b.co (b.os.flatMap loCells)
 su : SlOk w b.pu b.us.length b.cu (b.us.flatMap luCells)
 ob : ∀ x ∈ b.os, ObAt w x
 up : ∀ x ∈ b.us, UpAt w x
structure CatAt (w : World) (c : LCat) : Prop where
 sb : SlOk w c.pb c.bs.length c.cb (c.bs.flatMap lbCells)
 sf : SlOk w c.pf c.fs.length c.cf (c.fs.flatMap idCells)
 bk : ∀ b ∈ c.bs, BkAt w b
theorem BkAt.only0 {w w' : World} {b : LBk} (h : BkAt w b) (ho : Only [] w w') : BkAt w' b := ⟨h.so.only0 ho, h.su.only0 ho, fun x hx => (h.ob x hx).only0 ho, fun x hx => (h.up x hx).only0 ho⟩
theorem CatAt.only0 {w w' : World} {c : LCat} (h : CatAt w c) (ho : Only [] w w') : CatAt w' c := ⟨h.sb.only0 ho, h.sf.only0 ho, fun x hx => (h.bk x hx).only0 ho⟩
theorem CatAt.drop {S : List Nat} {w w' : World} {c : LCat} (h : CatAt w c) (ho : Only S w w') (hS : ∀ k ∈ S, w.heap.size ≤ k) : CatAt w' c := h.only0 (ho.drop hS)
end Go.Proofs.Ytfeglnpmpgipiaa
end
section
set_option linter.unusedVariables false
set_option maxRecDepth 100000
namespace Go.Proofs.Ytfeglnpmpgipiaa
open Go.RowKit
theorem Try.infoId : (Try.prog.info? 31).map (fun i => (i.zero, i.size, i.bytes)) = some (some (.agg #[.int .i64 0, .int .i64 0, .int .i64 0]), 3, 24) := by kernel_rfl
theorem Try.infoPc : (Try.prog.info? 36).map (fun i => (i.zero, i.size, i.bytes)) = some (some (.agg #[.int .i64 0, .int .i64 0, .int .i64 0, .int .i64 0, .string ⟨#[]⟩]), 5, 48) := by kernel_rfl
theorem Try.infoPt : (Try.prog.info? 70).map (fun i => (i.zero, i.size, i.bytes)) = some (some (.agg #[.int .i64 0, .int .i64 0, .int .i64 0, .int .i64 0, .int .i64 0, .string ⟨#[]⟩]), 6, 56) := by kernel_rfl
theorem Try.infoLO : (Try.prog.info? 65).map (fun i => (i.zero, i.size, i.bytes)) = some (some (.agg #[.string ⟨#[]⟩, .int .i64 0, .string ⟨#[]⟩, .int .i64 0, .slice none 0 0]), 5, 72) := by kernel_rfl
theorem Try.infoLU : (Try.prog.info? 68).map (fun i => (i.zero, i.size, i.bytes)) = some (some (.agg #[.int .i64 0, .int .i64 0, .int .i64 0, .string ⟨#[]⟩, .slice none 0 0]), 5, 64) := by kernel_rfl
theorem Try.infoLB : (Try.prog.info? 63).map (fun i => (i.zero, i.size, i.bytes)) = some (some (.agg #[.string ⟨#[]⟩, .int .i64 0, .int .i64 0, .slice none 0 0, .slice none 0 0]), 5, 80) := by kernel_rfl
theorem pushK {P : Program} {α : Type} {f : α → List Value} {wr : World} {t ty e : TypeId} {z : Value} {bytes base K m k : Nat} {p : Option Addr} (ht : P.underlying t = some (.slice e)) (hi : (P.info? e).map (fun i => (i.zero, i.size, i.bytes)) = some (some z, K, bytes)) (hz : z.cells.size = K) (hK : 0 < K)
  (hf : ∀ a, (f a).length = K) (h1 : ∀ a, ∀ u ∈ f a, u.oneCell' = true) (l : List α) (x : α) (o : OwnK wr base e K (.slice p m k) m (l.flatMap f)) (hb : base ≤ wr.heap.size) (hl : (m + 1) * bytes ≤ 140737488355328) (h63 : m + 1 ≤ 9223372036854775807) :
  ∃ p' k' w2, Hid ((Builtin.append_ #[t, t] ty #[.slice p m k, .slice (some ⟨wr.heap.size, 0, none⟩) 1 1]).run P (wr.alloc (.cells (f x).toArray e)) = .ok (.slice p' (m + 1) k') w2) ∧
   OwnK w2 base e K (.slice p' (m + 1) k') (m + 1) ((l ++ [x]).flatMap f) ∧ Only (blk p) wr w2 ∧ (p' = p ∨ ∃ g, p' = some ⟨g, 0, none⟩ ∧ wr.heap.size < g) := by
 have on := Only.alloc wr (.cells (f x).toArray e); have rn := Row.new wr e (f x); obtain ⟨p', c', w2, hr, o2, h2⟩ := appendK (P := P) (n := m) (m := 1) (q := some ⟨wr.heap.size, 0, none⟩) (c := 1) (news := f x) (t := t) (ty := ty) _ ht hi hz hK (o.only0 on) rn.rd0 (by rw [hf, Nat.one_mul]) (by simp) (h1 x) hl h63 (Nat.le_trans hb on.size); have hat := appendK_at (P := P) (n := m) (m := 1) (q := some ⟨wr.heap.size, 0, none⟩) (c := 1) (news := f x) (t := t) (ty := ty) _ ht hi hz hK (o.only0 on) rn.rd0 (by rw [hf, Nat.one_mul]) (by simp) (h1 x) hl h63 hr; refine ⟨p', c', w2, Lib.hid hr, ?_, (on.mono (by simp)).trans h2 (fun i hi _ => hi), hat.imp id (fun ⟨g, h3, h4⟩ => ⟨g, h3, by simp at h4; omega⟩)⟩
 rw [List.flatMap_append]
 simpa using o2
theorem cloneId_any (p : Option Addr) (xs : List Cid) (n c : Nat) (w : World) (hn : xs.length = n) (hb : n ≤ 1000000) (hx : SlOk w p n c (xs.flatMap idCells)) :
  Calls Try.prog 43 #[.slice p n c] w fun e w' => ∃ p' c', e = .returned (.slice p' n c') ∧ OwnK w' w.heap.size 31 3 (.slice p' n c') n (xs.flatMap idCells) ∧ Only [] w w' := by
 obtain ⟨hx, hp, -⟩ := hx; have Hn := Lib.hid hn; have heq := Lib.run_eql_slice_nil (P := Try.prog) w 23 31 p n c 0 0 Try.underlying23
 cases p with
 | none =>
  obtain ⟨rfl, rfl⟩ := hp rfl; have hxs : xs = [] := List.eq_nil_of_length_eq_zero hn; clear hn hp
  go_enter Try.func43, Try.ntmps43
  go_wp2_with fail
  go_ret
  subst hxs; exact ⟨none, 0, rfl, OwnK.nil _ _ _ _, Only.refl _ _⟩
 | some a =>
  have on := Only.alloc w (.cells #[] 31); have ow : OwnK (w.alloc (.cells #[] 31)) w.heap.size 31 3 (.slice (some ⟨w.heap.size, 0, none⟩) 0 0) 0 [] := OwnK.new (K := 3) (n := 0) [] (Nat.le_refl _) rfl (by omega); obtain ⟨p', c', w2, hr, o2, h2⟩ := appendK (P := Try.prog) (bytes := 24) (c := c) (q := some a) (m := n) (news := xs.flatMap idCells) (t := 23) (ty := 23) _ Try.underlying23 Try.infoId rfl (by omega) ow (hx.only0 on) (by rw [flat_length idCells 3 idCells_len, hn]) (by simp) (fun u hu => flat_one idCells idCells_one hu) (by omega) (by omega) on.size; rw [Nat.zero_add] at hr o2; have Hr := Lib.hid hr
  clear hn hp hr
  go_enter Try.func43, Try.ntmps43
  go_wp2_with (first | (at_builtin; refine wpl_append (s := .tmp 5) (x := .tmp 6) rfl rfl rfl rfl Hr.out ?_))
  go_ret
  exact ⟨p', c', rfl, o2, on.transN h2 (by simp [blk])|>.drop (by simp)⟩
theorem clonePc_any (p : Option Addr) (xs : List Pc) (n c : Nat) (w : World) (hn : xs.length = n) (hb : n ≤ 1000000) (hx : SlOk w p n c (xs.flatMap pcCells)) :
  Calls Try.prog 54 #[.slice p n c] w fun e w' => ∃ p' c', e = .returned (.slice p' n c') ∧ OwnK w' w.heap.size 36 5 (.slice p' n c') n (xs.flatMap pcCells) ∧ Only [] w w' := by
 obtain ⟨hx, hp, -⟩ := hx; have Hn := Lib.hid hn; have heq := Lib.run_eql_slice_nil (P := Try.prog) w 32 36 p n c 0 0 Try.underlying32
 cases p with
 | none =>
  obtain ⟨rfl, rfl⟩ := hp rfl; have hxs : xs = [] := List.eq_nil_of_length_eq_zero hn; clear hn hp
  go_enter Try.func54, Try.ntmps54
  go_wp2_with fail
  go_ret
  subst hxs; exact ⟨none, 0, rfl, OwnK.nil _ _ _ _, Only.refl _ _⟩
 | some a =>
  have on := Only.alloc w (.cells #[] 36); have ow : OwnK (w.alloc (.cells #[] 36)) w.heap.size 36 5 (.slice (some ⟨w.heap.size, 0, none⟩) 0 0) 0 [] := OwnK.new (K := 5) (n := 0) [] (Nat.le_refl _) rfl (by omega); obtain ⟨p', c', w2, hr, o2, h2⟩ := appendK (P := Try.prog) (bytes := 48) (c := c) (q := some a) (m := n) (news := xs.flatMap pcCells) (t := 32) (ty := 32) _ Try.underlying32 Try.infoPc rfl (by omega) ow (hx.only0 on) (by rw [flat_length pcCells 5 pcCells_len, hn]) (by simp) (fun u hu => flat_one pcCells pcCells_one hu) (by omega) (by omega) on.size; rw [Nat.zero_add] at hr o2; have Hr := Lib.hid hr
  clear hn hp hr
  go_enter Try.func54, Try.ntmps54
  go_wp2_with (first | (at_builtin; refine wpl_append (s := .tmp 5) (x := .tmp 6) rfl rfl rfl rfl Hr.out ?_))
  go_ret
  exact ⟨p', c', rfl, o2, on.transN h2 (by simp [blk])|>.drop (by simp)⟩
theorem clonePt_any (p : Option Addr) (xs : List CPart) (n c : Nat) (w : World) (hn : xs.length = n) (hb : n ≤ 1000000) (hx : SlOk w p n c (xs.flatMap ptCells)) :
  Calls Try.prog 55 #[.slice p n c] w fun e w' => ∃ p' c', e = .returned (.slice p' n c') ∧ OwnK w' w.heap.size 70 6 (.slice p' n c') n (xs.flatMap ptCells) ∧ Only [] w w' := by
 obtain ⟨hx, hp, -⟩ := hx; have Hn := Lib.hid hn; have heq := Lib.run_eql_slice_nil (P := Try.prog) w 66 70 p n c 0 0 Try.underlying66
 cases p with
 | none =>
  obtain ⟨rfl, rfl⟩ := hp rfl; have hxs : xs = [] := List.eq_nil_of_length_eq_zero hn; clear hn hp
  go_enter Try.func55, Try.ntmps55
  go_wp2_with fail
  go_ret
  subst hxs; exact ⟨none, 0, rfl, OwnK.nil _ _ _ _, Only.refl _ _⟩
 | some a =>
  have on := Only.alloc w (.cells #[] 70); have ow : OwnK (w.alloc (.cells #[] 70)) w.heap.size 70 6 (.slice (some ⟨w.heap.size, 0, none⟩) 0 0) 0 [] := OwnK.new (K := 6) (n := 0) [] (Nat.le_refl _) rfl (by omega); obtain ⟨p', c', w2, hr, o2, h2⟩ := appendK (P := Try.prog) (bytes := 56) (c := c) (q := some a) (m := n) (news := xs.flatMap ptCells) (t := 66) (ty := 66) _ Try.underlying66 Try.infoPt rfl (by omega) ow (hx.only0 on) (by rw [flat_length ptCells 6 ptCells_len, hn]) (by simp) (fun u hu => flat_one ptCells ptCells_one hu) (by omega) (by omega) on.size; rw [Nat.zero_add] at hr o2; have Hr := Lib.hid hr
  clear hn hp hr
  go_enter Try.func55, Try.ntmps55
  go_wp2_with (first | (at_builtin; refine wpl_append (s := .tmp 5) (x := .tmp 6) rfl rfl rfl rfl Hr.out ?_))
  go_ret
  exact ⟨p', c', rfl, o2, on.transN h2 (by simp [blk])|>.drop (by simp)⟩
end Go.Proofs.Ytfeglnpmpgipiaa
end
section
set_option linter.unusedVariables false
set_option maxRecDepth 100000
namespace Go.Proofs.Ytfeglnpmpgipiaa
open Go.RowKit
def ObOwn (w : World) (B : Nat) (x : LObj) : Prop := OwnK w B 36 5 (.slice x.q x.o.pcs.length x.c) x.o.pcs.length (x.o.pcs.flatMap pcCells)
def UpOwn (w : World) (B : Nat) (x : LUpl) : Prop := OwnK w B 70 6 (.slice x.q x.u.parts.length x.c) x.u.parts.length (x.u.parts.flatMap ptCells)
def LBk.fp (b : LBk) : List Nat := blk b.po ++ (blk b.pu ++ (b.os.flatMap (fun x => blk x.q) ++ b.us.flatMap (fun x => blk x.q)))
def LCat.fp (c : LCat) : List Nat := blk c.pb ++ (blk c.pf ++ c.bs.flatMap LBk.fp)
structure BkOwn (w : World) (B : Nat) (b : LBk) : Prop where
 so : OwnK w B 65 5 (.slice b.po b.os.length b.co) b.os.length (b.os.flatMap loCells)
 su : OwnK w B 68 5 (.slice b.pu b.us.length b.cu) b.us.length (b.us.flatMap luCells)
 ob : ∀ x ∈ b.os, ObOwn w B x
 up : ∀ x ∈ b.us, UpOwn w B x
 nd : b.fp.Nodup
structure CatOwn (w : World) (B : Nat) (c : LCat) : Prop where
 sb : OwnK w B 63 5 (.slice c.pb c.bs.length c.cb) c.bs.length (c.bs.flatMap lbCells)
 sf : OwnK w B 31 3 (.slice c.pf c.fs.length c.cf) c.fs.length (c.fs.flatMap idCells)
 bk : ∀ b ∈ c.bs, BkOwn w B b
 nd : c.fp.Nodup
theorem ownIn {w : World} {base K n c : Nat} {e : TypeId} {p : Option Addr} {vs : List Value} (h : OwnK w base e K (.slice p n c) n vs) : ∀ z ∈ blk p, base ≤ z ∧ z < w.heap.size := h.view.2.2.2.2.2.2
theorem BkOwn.lo {w : World} {B : Nat} {b : LBk} (h : BkOwn w B b) : ∀ z ∈ b.fp, B ≤ z ∧ z < w.heap.size := fun z hz => by
 unfold LBk.fp at hz
 rcases List.mem_append.1 hz with hz | hz
 ·exact ownIn h.so z hz
 rcases List.mem_append.1 hz with hz | hz
 ·exact ownIn h.su z hz
 rcases List.mem_append.1 hz with hz | hz
 ·obtain ⟨x, hx, hz⟩ := List.mem_flatMap.1 hz; exact ownIn (h.ob x hx) z hz
 ·obtain ⟨x, hx, hz⟩ := List.mem_flatMap.1 hz; exact ownIn (h.up x hx) z hz
theorem CatOwn.lo {w : World} {B : Nat} {c : LCat} (h : CatOwn w B c) : ∀ z ∈ c.fp, B ≤ z ∧ z < w.heap.size := fun z hz => by
 unfold LCat.fp at hz
 rcases List.mem_append.1 hz with hz | hz
 ·exact ownIn h.sb z hz
 rcases List.mem_append.1 hz with hz | hz
 ·exact ownIn h.sf z hz
 ·obtain ⟨b, hb, hz⟩ := List.mem_flatMap.1 hz; exact (h.bk b hb).lo z hz
theorem OwnK.onlyB {S : List Nat} {w w' : World} {base K n m c : Nat} {e : TypeId} {p : Option Addr} {vs : List Value} (h : OwnK w base e K (.slice p m c) n vs) (ho : Only S w w') (hn : ∀ z ∈ blk p, z ∉ S) : OwnK w' base e K (.slice p m c) n vs :=
 h.only ho (fun k hk => hn k (ownBlkF hk))
theorem BkOwn.only {S : List Nat} {w w' : World} {B : Nat} {b : LBk} (h : BkOwn w B b) (ho : Only S w w') (hS : ∀ z ∈ b.fp, z ∉ S) : BkOwn w' B b := by
 unfold LBk.fp at hS
 exact ⟨h.so.onlyB ho (fun z hz => hS z (by simp [hz])), h.su.onlyB ho (fun z hz => hS z (by simp [hz])),
  fun x hx => OwnK.onlyB (h.ob x hx) ho (fun z hz => hS z (by simp only [List.mem_append, List.mem_flatMap]; exact .inr (.inr (.inl ⟨x, hx, hz⟩)))),
  fun x hx => OwnK.onlyB (h.up x hx) ho (fun z hz => hS z (by simp only [List.mem_append, List.mem_flatMap]; exact .inr (.inr (.inr ⟨x, hx, hz⟩)))), h.nd⟩
theorem CatOwn.only {S : List Nat} {w w' : World} {B : Nat} {c : LCat} (h : CatOwn w B c) (ho : Only S w w') (hS : ∀ z ∈ c.fp, z ∉ S) : CatOwn w' B c := by
 unfold LCat.fp at hS
 exact ⟨h.sb.onlyB ho (fun z hz => hS z (by simp [hz])), h.sf.onlyB ho (fun z hz => hS z (by simp [hz])),
  fun b hb => (h.bk b hb).only ho (fun z hz => hS z (by simp only [List.mem_append, List.mem_flatMap]; exact .inr (.inr ⟨b, hb, hz⟩))), h.nd⟩
theorem CatOwn.only0 {w w' : World} {B : Nat} {c : LCat} (h : CatOwn w B c) (ho : Only [] w w') : CatOwn w' B c := h.only ho (fun _ _ => by simp)
theorem BkOwn.only0 {w w' : World} {B : Nat} {b : LBk} (h : BkOwn w B b) (ho : Only [] w w') : BkOwn w' B b := h.only ho (fun _ _ => by simp)
theorem BkOwn.weaken {w : World} {B B' : Nat} {b : LBk} (h : BkOwn w B b) (hb : B' ≤ B) : BkOwn w B' b :=
 ⟨h.so.weaken hb, h.su.weaken hb, fun x hx => OwnK.weaken (h.ob x hx) hb, fun x hx => OwnK.weaken (h.up x hx) hb, h.nd⟩
theorem BkOwn.at {w : World} {B : Nat} {b : LBk} (h : BkOwn w B b) : BkAt w b := ⟨.own h.so, .own h.su, fun x hx => .own (h.ob x hx), fun x hx => .own (h.up x hx)⟩
theorem CatOwn.at {w : World} {B : Nat} {c : LCat} (h : CatOwn w B c) : CatAt w c := ⟨.own h.sb, .own h.sf, fun b hb => (h.bk b hb).at⟩
theorem CatOwn.weaken {w : World} {B B' : Nat} {c : LCat} (h : CatOwn w B c) (hb : B' ≤ B) : CatOwn w B' c := ⟨h.sb.weaken hb, h.sf.weaken hb, fun b h' => (h.bk b h').weaken hb, h.nd⟩
theorem blk_nodup (p : Option Addr) : (blk p).Nodup := by cases p <;> simp [blk]
section
variable {β : Type} (f : β → List Value) (V : β → Value) (e : TypeId) (K : Nat) (P : β → World → Prop) (fp : β → List Nat) (lo : Nat)
def CpV : Value → World → Prop := fun v w => ∃ x, v = V x ∧ P x w
def CpS : Value → World → Prop := fun v w => ∃ x g, v = .slice (some ⟨g, 0, none⟩) 1 1 ∧ lo ≤ g ∧ Row w g e (f x) ∧ P x w
def CpA (B : Nat) (D : List Nat) (m : Nat) (ys : List β) : Value → World → Prop := fun v w => ∃ x p k, v = .slice p (m + 1) k ∧ P x w ∧ OwnK w B e K (.slice p (m + 1) k) (m + 1) ((ys ++ [x]).flatMap f) ∧ ∀ z ∈ blk p, z ∈ D ∨ (lo ≤ z ∧ z ∉ fp x)
def CpZ (B : Nat) (D : List Nat) (m : Nat) (ys : List β) (X : Nat) (t : TypeId) (up : Value → List Value) : Value → World → Prop := fun _ w => ∃ x p k, P x w ∧ OwnK w B e K (.slice p (m + 1) k) (m + 1) ((ys ++ [x]).flatMap f) ∧ (∀ z ∈ blk p, z ∈ D ∨ (lo ≤ z ∧ z ∉ fp x)) ∧ Row w X t (up (.slice p (m + 1) k))
variable {f V e K P fp lo}
variable (hst : ∀ x a b (S : List Nat), P x a → Only S a b → (∀ s ∈ S, s < lo) → P x b)
include hst
theorem CpV.stable {S : List Nat} (hS : ∀ s ∈ S, s < lo) : Stable (Only S) (CpV V P) := fun v a b ⟨x, h1, h2⟩ ho => ⟨x, h1, hst x a b S h2 ho hS⟩
theorem CpS.stable {S : List Nat} (hS : ∀ s ∈ S, s < lo) : Stable (Only S) (CpS f e P lo) := fun v a b ⟨x, g, h1, h2, h3, h4⟩ ho => ⟨x, g, h1, h2, h3.only ho (fun hm => by have := hS g hm; omega), hst x a b S h4 ho hS⟩
theorem CpA.stable {B m : Nat} {D S : List Nat} {ys : List β} (hS : ∀ s ∈ S, s < lo) (hD : ∀ s ∈ S, s ∉ D) : Stable (Only S) (CpA f e K P fp lo B D m ys) := fun v a b ⟨x, p, k, h1, h2, h3, h4⟩ ho =>
 ⟨x, p, k, h1, hst x a b S h2 ho hS, h3.onlyB ho (fun z hz hm => by
  rcases h4 z hz with h | h
  ·exact hD z hm h
  ·have := hS z hm; omega), h4⟩
theorem CpZ.stable {B m X : Nat} {t : TypeId} {D : List Nat} {ys : List β} {up : Value → List Value} : Stable (Only []) (CpZ f e K P fp lo B D m ys X t up) := fun v a b ⟨x, p, k, h2, h3, h4, h5⟩ ho =>
 ⟨x, p, k, hst x a b [] h2 ho (by simp), h3.only0 ho, h4, h5.only0 ho⟩
end
end Go.Proofs.Ytfeglnpmpgipiaa
end
section
set_option linter.unusedVariables false
set_option maxRecDepth 100000
namespace Go.Proofs.Ytfeglnpmpgipiaa
open Go.RowKit
set_option maxHeartbeats 4000000 in
theorem ticks10_any (n : Int) (w : World) : Calls Try.prog 26 #[.int .i64 n] w fun e w' => e = .returned (.bool (decide (0 ≤ n ∧ n ≤ 1099511627776))) ∧ Only [] w w' := by
 go_enter Try.func26, Try.ntmps26
 by_cases h1 : 0 ≤ n
 ·by_cases h2 : n ≤ 1099511627776
  ·skip
   go_wp2_with fail
   go_ret
   exact ⟨by rw [decide_eq_true ⟨h1, h2⟩]; rfl, Only.refl _ _⟩
  ·skip
   go_wp2_with fail
   go_ret
   exact ⟨by rw [decide_eq_false (by omega)]; rfl, Only.refl _ _⟩
 ·skip
  go_wp2_with fail
  go_ret
  exact ⟨by rw [decide_eq_false (by omega)]; rfl, Only.refl _ _⟩
def plainP (x : UInt8) : Prop := (97 ≤ x.toNat ∧ x.toNat ≤ 122) ∨ (48 ≤ x.toNat ∧ x.toNat ≤ 57)
instance (x : UInt8) : Decidable (plainP x) := by unfold plainP; exact inferInstance
set_option maxHeartbeats 4000000 in
theorem plain10_any (x : UInt8) (w : World) : Calls Try.prog 36 #[.int .u8 (x.toNat : Int)] w fun e w' => e = .returned (.bool (decide (plainP x))) ∧ Only [] w w' := by
 have F1 : Hid (plainP x → Ending.returned (Value.bool true) = .returned (.bool (decide (plainP x)))) := Lib.hid (fun h => by rw [decide_eq_true h]); have F0 : Hid (¬ plainP x → Ending.returned (Value.bool false) = .returned (.bool (decide (plainP x)))) := Lib.hid (fun h => by rw [decide_eq_false h])
 go_enter Try.func36, Try.ntmps36
 by_cases h1 : (97 : Int) ≤ (x.toNat : Int)
 ·by_cases h2 : (x.toNat : Int) ≤ 122
  ·skip
   go_wp2_with fail
   go_ret
   exact ⟨F1.out (by unfold plainP; omega), Only.refl _ _⟩
  ·by_cases h3 : (48 : Int) ≤ (x.toNat : Int)
   ·by_cases h4 : (x.toNat : Int) ≤ 57
    ·skip
     go_wp2_with fail
     go_ret
     exact ⟨F1.out (by unfold plainP; omega), Only.refl _ _⟩
    ·skip
     go_wp2_with fail
     go_ret
     exact ⟨F0.out (by unfold plainP; omega), Only.refl _ _⟩
   ·skip
    go_wp2_with fail
    go_ret
    exact ⟨F0.out (by unfold plainP; omega), Only.refl _ _⟩
 ·by_cases h3 : (48 : Int) ≤ (x.toNat : Int)
  ·by_cases h4 : (x.toNat : Int) ≤ 57
   ·skip
    go_wp2_with fail
    go_ret
    exact ⟨F1.out (by unfold plainP; omega), Only.refl _ _⟩
   ·skip
    go_wp2_with fail
    go_ret
    exact ⟨F0.out (by unfold plainP; omega), Only.refl _ _⟩
  ·skip
   go_wp2_with fail
   go_ret
   exact ⟨F0.out (by unfold plainP; omega), Only.refl _ _⟩
end Go.Proofs.Ytfeglnpmpgipiaa
end
section
set_option linter.unusedVariables false
set_option maxRecDepth 100000
namespace Go.Proofs.Ytfeglnpmpgipiaa
open Go.RowKit
set_option maxHeartbeats 16000000 in
theorem piece10_any (p : Pc) (w0 : World) (hb : p.etag.length ≤ 140737488355328) : Calls Try.prog 25 #[pcV p] w0 fun e w' => ∃ v, e = .returned (.bool v) ∧ (v = true → PcOk p) ∧ Only [] w0 w' := by
 obtain ⟨w1, hw1⟩ : ∃ w1, w1 = w0.alloc (.cells #[.int .i64 p.blob.node, .int .i64 p.blob.boot, .int .i64 p.blob.seq, .int .i64 p.size, .string (str p.etag)] 36) := ⟨_, rfl⟩; have o1 : Only [] w0 w1 := (by rw [hw1]; exact Only.alloc _ _); have r1 : Row w1 w0.heap.size 36 [.int .i64 p.blob.node, .int .i64 p.blob.boot, .int .i64 p.blob.seq, .int .i64 p.size, .string (str p.etag)] := (by rw [hw1]; exact Row.newOf _ _ _ _ rfl); have c0 := r1.cell (i := 0) rfl; have c1 := r1.cell (i := 1) rfl; have c2 := r1.cell (i := 2) rfl; have hid := goodId_any p.blob.node p.blob.boot p.blob.seq w1; rw [hw1] at c0 c1 c2
 obtain ⟨n, hn⟩ : ∃ n, p.etag.length = n := ⟨_, rfl⟩; have hsz : (str p.etag).size = n := (by rw [str_size, hn]); have Hn := Lib.hid hn; have Hat : Hid (∀ (j : Nat) x, p.etag[j]? = some x → ∀ hh : j < (str p.etag).size, (str p.etag)[j]'hh = x) := Lib.hid fun j x h => str_at h; have HOK : Hid ((0 ≤ p.size ∧ p.size ≤ 1024 ∧ n = 64) → PcOk p) := Lib.hid (fun h => ⟨h.1, h.2.1, hn.trans h.2.2⟩); rw [hn] at hb; have Hw := Lib.hid hw1; have HO := Lib.hid o1; have Hr1 := Lib.hid r1; unfold pcV; obtain ⟨z, hz⟩ : ∃ z, p.size = z := ⟨_, rfl⟩; obtain ⟨S, hS⟩ : ∃ S, str p.etag = S := ⟨_, rfl⟩; rw [hz] at HOK
 rw [hS] at hsz Hat; rw [hz, hS] at Hw Hr1 c0 c1 c2 ⊢; clear hn hS hz o1 r1 hw1
 go_enter Try.func25, Try.ntmps25
 go_wp2_with fail; rw [← Hw.out]; (with_reducible refine hid.mono ?_); clear hid c0 c1 c2 Hw; rintro e wi ⟨rfl, oi⟩; have HOi := Lib.hid oi; have ri := Hr1.out.only0 oi; have c3 := ri.cell (i := 3) rfl; have c4 := ri.cell (i := 4) rfl; clear oi ri; obtain ⟨gv, hgv⟩ : ∃ gv, decide (idOk p.blob.node p.blob.boot p.blob.seq) = gv := ⟨_, rfl⟩; rw [hgv]; clear hgv
 have hcase : gv = false ∨ (gv = true ∧ ¬ 0 ≤ z) ∨ (gv = true ∧ 0 ≤ z ∧ ¬ z ≤ 1024) ∨ (gv = true ∧ 0 ≤ z ∧ z ≤ 1024 ∧ ((n : Int) == 64) = false) ∨ (gv = true ∧ 0 ≤ z ∧ z ≤ 1024 ∧ ((n : Int) == 64) = true ∧ n = 64) := by
  cases gv with
  | false => exact .inl rfl
  | true =>
   by_cases h1 : 0 ≤ z
   ·by_cases h2 : z ≤ 1024
    ·by_cases h3 : (n : Int) = 64
     ·exact .inr (.inr (.inr (.inr ⟨rfl, h1, h2, beq_iff_eq.2 h3, by omega⟩)))
     ·exact .inr (.inr (.inr (.inl ⟨rfl, h1, h2, beq_eq_false_iff_ne.2 h3⟩)))
    ·exact .inr (.inr (.inl ⟨rfl, h1, h2⟩))
   ·exact .inr (.inl ⟨rfl, h1⟩)
 have Hfin : Hid (∀ v : Bool, (v = true → 0 ≤ z ∧ z ≤ 1024 ∧ n = 64) → v = true → PcOk p) := Lib.hid (fun v h hv => HOK.out (h hv)); clear HOK
 rcases hcase with rfl | ⟨rfl, h1⟩ | ⟨rfl, h1, h2⟩ | ⟨rfl, h1, h2, h3⟩ | ⟨rfl, h1, h2, h3, h4⟩
 all_goals
  go_wp2_with fail
  go_loopw [3, 4] (fun f a wl => ∃ (j : Nat) (b : Bool), f = .bool b ∧ a = .int .i64 (j : Int) ∧ j ≤ n ∧ Hid (b = true → 0 ≤ z ∧ z ≤ 1024 ∧ n = 64) ∧ Hid (Only [] w1 wl)) (fun _ a _ => n - (intOf a).toNat)
  case atStart => exact ⟨0, _, rfl, rfl, Nat.zero_le _, Lib.hid (by first | (intro h; cases h; done) | (intro _; exact ⟨h1, h2, h4⟩)), HOi⟩
  case round =>
   (try clear h4)
   (try clear h3)
   (try clear h2)
   (try clear h1)
   clear c3 c4; obtain ⟨j, b, rfl, rfl, hj, HC, HOl⟩ := hrel; have c4 := (Hr1.out.only0 HOl.out).cell (i := 4) rfl
   by_cases hlt : j < n
   ·obtain ⟨x, hx⟩ : ∃ x, p.etag[j]? = some x := ⟨_, List.getElem?_eq_getElem (by rw [Hn.out]; exact hlt)⟩; have hix := Hat.out j x hx (by omega); have hxl := x.toNat_lt; clear hx
    cases b with
    | false =>
     go_wp2_with fail; exact ⟨⟨j + 1, false, rfl, by go_num, by omega, Lib.hid (by simp), HOl⟩, by simp [intOf]; omega⟩
    | true =>
     have HT : ∀ v : Bool, Hid (v = true → 0 ≤ z ∧ z ≤ 1024 ∧ n = 64) := fun v => Lib.hid (fun _ => HC.out rfl)
     by_cases g1 : (48 : Int) ≤ (x.toNat : Int)
     ·by_cases g2 : (x.toNat : Int) ≤ 57
      ·skip
       go_wp2_with fail; exact ⟨⟨j + 1, true, rfl, by go_num, by omega, HT true, HOl⟩, by simp [intOf]; omega⟩
      ·by_cases g3 : (97 : Int) ≤ (x.toNat : Int)
       ·by_cases g4 : (x.toNat : Int) ≤ 102
        ·skip
         go_wp2_with fail; exact ⟨⟨j + 1, true, rfl, by go_num, by omega, HT true, HOl⟩, by simp [intOf]; omega⟩
        ·skip
         go_wp2_with fail; exact ⟨⟨j + 1, false, rfl, by go_num, by omega, HT false, HOl⟩, by simp [intOf]; omega⟩
       ·skip
        go_wp2_with fail; exact ⟨⟨j + 1, false, rfl, by go_num, by omega, HT false, HOl⟩, by simp [intOf]; omega⟩
     ·have g3 : ¬ (97 : Int) ≤ (x.toNat : Int) := (by omega); go_wp2_with fail; exact ⟨⟨j + 1, false, rfl, by go_num, by omega, HT false, HOl⟩, by simp [intOf]; omega⟩
   ·obtain rfl : j = n := (by omega); go_wp2_with fail
    go_ret
    first | exact ⟨b, rfl, Hfin.out b HC.out, HO.out.trans0 HOl.out⟩ | exact ⟨Hfin.out b HC.out, HO.out.trans0 HOl.out⟩
end Go.Proofs.Ytfeglnpmpgipiaa
end
section
set_option linter.unusedVariables false
set_option maxRecDepth 100000
namespace Go.Proofs.Ytfeglnpmpgipiaa
open Go.RowKit
theorem loInfo : (Try.prog.info? 65).map (·.size) = some 5 := by kernel_rfl
set_option maxHeartbeats 4000000 in
theorem copyObject_any (x : LObj) (w0 : World) (hx : SlOk w0 x.q x.o.pcs.length x.c (x.o.pcs.flatMap pcCells)) (hb : x.o.pcs.length ≤ 1000000) :
  Calls Try.prog 49 #[loV x] w0 fun e w' => ∃ q' c', e = .returned (loV ⟨x.o, q', c'⟩) ∧ OwnK w' w0.heap.size 36 5 (.slice q' x.o.pcs.length c') x.o.pcs.length (x.o.pcs.flatMap pcCells) ∧ Only [] w0 w' := by
 obtain ⟨n, hn⟩ : ∃ n, x.o.pcs.length = n := ⟨_, rfl⟩; obtain ⟨w1, hw1⟩ : ∃ w1, w1 = w0.alloc (.cells #[.string (str x.o.key), .int .i64 x.o.size, .string (str x.o.etag), .int .i64 x.o.time, .slice x.q n x.c] 65) := ⟨_, rfl⟩; obtain ⟨w2, hw2⟩ : ∃ w2, w2 = w1.alloc (.cells #[.string ⟨#[]⟩, .int .i64 0, .string ⟨#[]⟩, .int .i64 0, .slice none 0 0] 65) := ⟨_, rfl⟩; have o1 : Only [] w0 w1 := (by rw [hw1]; exact Only.alloc _ _); have o2 : Only [] w1 w2 := (by rw [hw2]; exact Only.alloc _ _); have s1 : w1.heap.size = w0.heap.size + 1 := (by rw [hw1]; simp); have r1 : Row w2 w0.heap.size 65 [.string (str x.o.key), .int .i64 x.o.size, .string (str x.o.etag), .int .i64 x.o.time, .slice x.q n x.c] := (show Row w1 w0.heap.size 65 [.string (str x.o.key), .int .i64 x.o.size, .string (str x.o.etag), .int .i64 x.o.time, .slice x.q n x.c] by rw [hw1]; exact Row.newOf _ _ _ _ rfl).only0 o2
 have r2 : Row w2 (w0.heap.size + 1) 65 [.string ⟨#[]⟩, .int .i64 0, .string ⟨#[]⟩, .int .i64 0, .slice none 0 0] := (by rw [← s1, hw2]; exact Row.newOf _ _ _ _ rfl); have o12 := o1.trans0 o2; rw [hn] at hx hb; have hcl := clonePc_any x.q x.o.pcs n x.c w2 hn hb (hx.only0 o12); have c4 := r1.cell (i := 4) rfl; have HO := Lib.hid o12; have HR1 := Lib.hid r1; have HR2 := Lib.hid r2; have Hw1 := Lib.hid hw1; have Hw2 := Lib.hid hw2; unfold loV; dsimp only; rw [hn]; clear o1 o2 s1 r1 r2 o12 hw1 hw2 hx hb
 go_enter Try.func49, Try.ntmps49
 go_upto_region 1 with (fail)
 rw [← Hw1.out, ← Hw2.out]; clear Hw1 Hw2; go_wp2_with fail; refine hcl.mono ?_; clear hcl c4; rintro e w3 ⟨q', c', rfl, own, o3⟩; have hr1 := HR1.out.only0 o3; have f4 := hr1.free 4; have c4 := hr1.cell (i := 4) rfl; obtain ⟨w4, hw4⟩ : ∃ w4, w4 = w3.setCell ⟨w0.heap.size, 4, none⟩ (.slice q' n c') := ⟨_, rfl⟩; have o4 : Only [w0.heap.size] w3 w4 := (by rw [hw4]; exact Only.setCell _ ⟨_, _, none⟩ _); have r4 : Row w4 w0.heap.size 65 [.string (str x.o.key), .int .i64 x.o.size, .string (str x.o.etag), .int .i64 x.o.time, .slice q' n c'] := (by rw [hw4]; exact hr1.setCell 4 _); have r24 := (HR2.out.only0 o3).only o4 (by simp)
 have own4 := own.only o4 (fun y hy hm => by have h1 := (own.view.2.2.2.2.2.2 y (ownBlkF hy)).1; have h2 := List.mem_singleton.1 hm; have h3 := HR1.out.lt; omega); have x0 := r4.cell (i := 0) rfl; have x1 := r4.cell (i := 1) rfl; have x2 := r4.cell (i := 2) rfl; have x3 := r4.cell (i := 3) rfl; have x4 := r4.cell (i := 4) rfl; have Hst := Lib.hid (r24.storeAt (P := Try.prog) (ty := 65) (us := [.string (str x.o.key), .int .i64 x.o.size, .string (str x.o.etag), .int .i64 x.o.time, .slice q' n c']) loInfo rfl (by simp [Value.oneCell'])); have Hrow := Lib.hid (r24.setRow [.string (str x.o.key), .int .i64 x.o.size, .string (str x.o.etag), .int .i64 x.o.time, .slice q' n c'])
 have oS := Only.setRow w4 (w0.heap.size + 1) #[.string (str x.o.key), .int .i64 x.o.size, .string (str x.o.etag), .int .i64 x.o.time, .slice q' n c']; have HOf := Lib.hid (((HO.out.trans0 o3).transN o4 (by simp)).transN oS (by simp)); have Hown := Lib.hid ((own4.only oS (fun y hy hm => by have h1 := (own.view.2.2.2.2.2.2 y (ownBlkF hy)).1; have h2 := List.mem_singleton.1 hm; have h3 := HR2.out.lt; omega)).weaken HO.out.size); have Hw4 := Lib.hid hw4; clear hr1 own o3 o4 r4 r24 own4 oS hw4
 go_upto_region 2 with (fail)
 rw [← Hw4.out]; clear Hw4 c4 f4
 go_wp2_with (first | ((with_reducible show wpList _ _ _ _ _ _); refine wpl_store (ty := 65) (x := .tmp 2) (y := .tmp 7) rfl rfl rfl rfl Hst.out ?_))
 exact bodyPost_ret (results_c1 rfl _ _ _ rfl Hrow.out Try.underlying65 loInfo) rfl ⟨q', c', rfl, Hown.out, HOf.out⟩
theorem luInfo : (Try.prog.info? 68).map (·.size) = some 5 := by kernel_rfl
set_option maxHeartbeats 4000000 in
theorem copyUpload_any (x : LUpl) (w0 : World) (hx : SlOk w0 x.q x.u.parts.length x.c (x.u.parts.flatMap ptCells)) (hb : x.u.parts.length ≤ 1000000) :
  Calls Try.prog 50 #[luV x] w0 fun e w' => ∃ q' c', e = .returned (luV ⟨x.u, q', c'⟩) ∧ OwnK w' w0.heap.size 70 6 (.slice q' x.u.parts.length c') x.u.parts.length (x.u.parts.flatMap ptCells) ∧ Only [] w0 w' := by
 obtain ⟨n, hn⟩ : ∃ n, x.u.parts.length = n := ⟨_, rfl⟩; obtain ⟨w1, hw1⟩ : ∃ w1, w1 = w0.alloc (.cells #[.int .i64 x.u.id.node, .int .i64 x.u.id.boot, .int .i64 x.u.id.seq, .string (str x.u.key), .slice x.q n x.c] 68) := ⟨_, rfl⟩; obtain ⟨w2, hw2⟩ : ∃ w2, w2 = w1.alloc (.cells #[.int .i64 0, .int .i64 0, .int .i64 0, .string ⟨#[]⟩, .slice none 0 0] 68) := ⟨_, rfl⟩; have o1 : Only [] w0 w1 := (by rw [hw1]; exact Only.alloc _ _); have o2 : Only [] w1 w2 := (by rw [hw2]; exact Only.alloc _ _); have s1 : w1.heap.size = w0.heap.size + 1 := (by rw [hw1]; simp); have r1 : Row w2 w0.heap.size 68 [.int .i64 x.u.id.node, .int .i64 x.u.id.boot, .int .i64 x.u.id.seq, .string (str x.u.key), .slice x.q n x.c] := (show Row w1 w0.heap.size 68 [.int .i64 x.u.id.node, .int .i64 x.u.id.boot, .int .i64 x.u.id.seq, .string (str x.u.key), .slice x.q n x.c] by rw [hw1]; exact Row.newOf _ _ _ _ rfl).only0 o2
 have r2 : Row w2 (w0.heap.size + 1) 68 [.int .i64 0, .int .i64 0, .int .i64 0, .string ⟨#[]⟩, .slice none 0 0] := (by rw [← s1, hw2]; exact Row.newOf _ _ _ _ rfl); have o12 := o1.trans0 o2; rw [hn] at hx hb; have hcl := clonePt_any x.q x.u.parts n x.c w2 hn hb (hx.only0 o12); have c4 := r1.cell (i := 4) rfl; have HO := Lib.hid o12; have HR1 := Lib.hid r1; have HR2 := Lib.hid r2; have Hw1 := Lib.hid hw1; have Hw2 := Lib.hid hw2; unfold luV; dsimp only; rw [hn]; clear o1 o2 s1 r1 r2 o12 hw1 hw2 hx hb
 go_enter Try.func50, Try.ntmps50
 go_upto_region 1 with (fail)
 rw [← Hw1.out, ← Hw2.out]; clear Hw1 Hw2; go_wp2_with fail; refine hcl.mono ?_; clear hcl c4; rintro e w3 ⟨q', c', rfl, own, o3⟩; have hr1 := HR1.out.only0 o3; have f4 := hr1.free 4; have c4 := hr1.cell (i := 4) rfl; obtain ⟨w4, hw4⟩ : ∃ w4, w4 = w3.setCell ⟨w0.heap.size, 4, none⟩ (.slice q' n c') := ⟨_, rfl⟩; have o4 : Only [w0.heap.size] w3 w4 := (by rw [hw4]; exact Only.setCell _ ⟨_, _, none⟩ _); have r4 : Row w4 w0.heap.size 68 [.int .i64 x.u.id.node, .int .i64 x.u.id.boot, .int .i64 x.u.id.seq, .string (str x.u.key), .slice q' n c'] := (by rw [hw4]; exact hr1.setCell 4 _); have r24 := (HR2.out.only0 o3).only o4 (by simp)
 have own4 := own.only o4 (fun y hy hm => by have h1 := (own.view.2.2.2.2.2.2 y (ownBlkF hy)).1; have h2 := List.mem_singleton.1 hm; have h3 := HR1.out.lt; omega); have x0 := r4.cell (i := 0) rfl; have x1 := r4.cell (i := 1) rfl; have x2 := r4.cell (i := 2) rfl; have x3 := r4.cell (i := 3) rfl; have x4 := r4.cell (i := 4) rfl; have Hst := Lib.hid (r24.storeAt (P := Try.prog) (ty := 68) (us := [.int .i64 x.u.id.node, .int .i64 x.u.id.boot, .int .i64 x.u.id.seq, .string (str x.u.key), .slice q' n c']) luInfo rfl (by simp [Value.oneCell'])); have Hrow := Lib.hid (r24.setRow [.int .i64 x.u.id.node, .int .i64 x.u.id.boot, .int .i64 x.u.id.seq, .string (str x.u.key), .slice q' n c'])
 have oS := Only.setRow w4 (w0.heap.size + 1) #[.int .i64 x.u.id.node, .int .i64 x.u.id.boot, .int .i64 x.u.id.seq, .string (str x.u.key), .slice q' n c']; have HOf := Lib.hid (((HO.out.trans0 o3).transN o4 (by simp)).transN oS (by simp)); have Hown := Lib.hid ((own4.only oS (fun y hy hm => by have h1 := (own.view.2.2.2.2.2.2 y (ownBlkF hy)).1; have h2 := List.mem_singleton.1 hm; have h3 := HR2.out.lt; omega)).weaken HO.out.size); have Hw4 := Lib.hid hw4; clear hr1 own o3 o4 r4 r24 own4 oS hw4
 go_upto_region 2 with (fail)
 rw [← Hw4.out]; clear Hw4 c4 f4
 go_wp2_with (first | ((with_reducible show wpList _ _ _ _ _ _); refine wpl_store (ty := 68) (x := .tmp 2) (y := .tmp 7) rfl rfl rfl rfl Hst.out ?_))
 exact bodyPost_ret (results_c1 rfl _ _ _ rfl Hrow.out Try.underlying68 luInfo) rfl ⟨q', c', rfl, Hown.out, HOf.out⟩
end Go.Proofs.Ytfeglnpmpgipiaa
end
section
set_option linter.unusedVariables false
set_option maxRecDepth 100000
namespace Go.Proofs.Ytfeglnpmpgipiaa
open Go.RowKit
def PO (x : LObj) (lo : Nat) : LObj → World → Prop := fun y w => y.o = x.o ∧ ObOwn w lo y
theorem PO.st {x : LObj} {lo : Nat} : ∀ y a b (S : List Nat), PO x lo y a → Only S a b → (∀ s ∈ S, s < lo) → PO x lo y b := fun y a b S h ho hS =>
 ⟨h.1, OwnK.onlyB h.2 ho (fun z hz hm => by have := (ownIn h.2 z hz).1; have := hS z hm; omega)⟩
theorem PO.weaken {x y : LObj} {lo lo' : Nat} {w : World} (h : PO x lo' y w) (hl : lo ≤ lo') : PO x lo y w := ⟨h.1, OwnK.weaken h.2 hl⟩
theorem PO.lt {x y : LObj} {lo : Nat} {w : World} (h : PO x lo y w) : ∀ z ∈ blk y.q, z < w.heap.size := fun z hz => (ownIn h.2 z hz).2
def PU (x : LUpl) (lo : Nat) : LUpl → World → Prop := fun y w => y.u = x.u ∧ UpOwn w lo y
theorem PU.st {x : LUpl} {lo : Nat} : ∀ y a b (S : List Nat), PU x lo y a → Only S a b → (∀ s ∈ S, s < lo) → PU x lo y b := fun y a b S h ho hS =>
 ⟨h.1, OwnK.onlyB h.2 ho (fun z hz hm => by have := (ownIn h.2 z hz).1; have := hS z hm; omega)⟩
theorem PU.weaken {x y : LUpl} {lo lo' : Nat} {w : World} (h : PU x lo' y w) (hl : lo ≤ lo') : PU x lo y w := ⟨h.1, OwnK.weaken h.2 hl⟩
theorem PU.lt {x y : LUpl} {lo : Nat} {w : World} (h : PU x lo y w) : ∀ z ∈ blk y.q, z < w.heap.size := fun z hz => (ownIn h.2 z hz).2
def PB (x : LBk) (lo : Nat) : LBk → World → Prop := fun y w => y.b = x.b ∧ BkOwn w lo y
theorem PB.st {x : LBk} {lo : Nat} : ∀ y a b (S : List Nat), PB x lo y a → Only S a b → (∀ s ∈ S, s < lo) → PB x lo y b := fun y a b S h ho hS =>
 ⟨h.1, h.2.only ho (fun z hz hm => by have := (h.2.lo z hz).1; have := hS z hm; omega)⟩
theorem PB.weaken {x y : LBk} {lo lo' : Nat} {w : World} (h : PB x lo' y w) (hl : lo ≤ lo') : PB x lo y w := ⟨h.1, h.2.weaken hl⟩
theorem PB.lt {x y : LBk} {lo : Nat} {w : World} (h : PB x lo y w) : ∀ z ∈ y.fp, z < w.heap.size := fun z hz => (h.2.lo z hz).2
theorem nd_push {p p' pu : Option Addr} {L q : List Nat} {lo : Nat} (h : (blk p ++ (blk pu ++ L)).Nodup) (hold : ∀ z ∈ blk p ++ (blk pu ++ L), z < lo) (hp' : ∀ z ∈ blk p', z ∈ blk p ∨ (lo ≤ z ∧ z ∉ q)) (hq : ∀ z ∈ q, lo ≤ z) (hqn : q.Nodup) : (blk p' ++ (blk pu ++ (L ++ q))).Nodup := by
 obtain ⟨h1, h2, h3⟩ := List.nodup_append.1 h; obtain ⟨h4, h5, h6⟩ := List.nodup_append.1 h2; refine List.nodup_append.2 ⟨blk_nodup _, List.nodup_append.2 ⟨h4, List.nodup_append.2 ⟨h5, hqn, fun a ha b hb e => ?_⟩, fun a ha b hb e => ?_⟩, fun a ha b hb e => ?_⟩
 ·subst e; have := hold a (by simp [ha]); have := hq a hb; omega
 ·subst e
  rcases List.mem_append.1 hb with hb | hb
  ·exact h6 a ha a hb rfl
  ·have := hold a (by simp [ha]); have := hq a hb; omega
 ·subst e
  rcases hp' a ha with h | ⟨h7, h8⟩
  ·rcases List.mem_append.1 hb with hb | hb
   ·exact h3 a h a (by simp [hb]) rfl
   ·rcases List.mem_append.1 hb with hb | hb
    ·exact h3 a h a (by simp [hb]) rfl
    ·have := hold a (by simp [h]); have := hq a hb; omega
  ·rcases List.mem_append.1 hb with hb | hb
   ·have := hold a (by simp [hb]); omega
   ·rcases List.mem_append.1 hb with hb | hb
    ·have := hold a (by simp [hb]); omega
    ·exact h8 hb
theorem nd_push2 {p pu pu' : Option Addr} {L q : List Nat} {lo : Nat} (h : (blk p ++ (blk pu ++ L)).Nodup) (hold : ∀ z ∈ blk p ++ (blk pu ++ L), z < lo) (hp' : ∀ z ∈ blk pu', z ∈ blk pu ∨ (lo ≤ z ∧ z ∉ q)) (hq : ∀ z ∈ q, lo ≤ z) (hqn : q.Nodup) : (blk p ++ (blk pu' ++ (L ++ q))).Nodup := by
 have hsw : ∀ {a b : List Nat} {M : List Nat}, (a ++ (b ++ M)).Nodup → (b ++ (a ++ M)).Nodup := fun {a b M} h => by
  rw [← List.append_assoc] at h ⊢; exact (List.Perm.append_right M List.perm_append_comm).nodup_iff.1 h
 exact hsw (nd_push (hsw h) (fun z hz => hold z (by simp only [List.mem_append] at hz ⊢; rcases hz with h | h | h <;> simp [h])) hp' hq hqn)
structure CbI (w0 : World) (c : LBk) (w : World) : Prop where
 rx : Row w w0.heap.size 63 (lbCells c)
 rr : Row w (w0.heap.size + 1) 63 [.string (str []), .int .i64 0, .int .i64 0, .slice none 0 0, .slice none 0 0]
 own : BkOwn w (w0.heap.size + 1 + 1) c
 only : Only [] w0 w
theorem CbI.step {w0 w w' : World} {c : LBk} (h : CbI w0 c w) (ho : Only [] w w') : CbI w0 c w' := ⟨h.rx.only0 ho, h.rr.only0 ho, h.own.only0 ho, h.only.trans0 ho⟩
theorem CbI.pushO {w0 wt w' : World} {c : LBk} (h : CbI w0 c wt) (hz : c.us = []) {y : LObj} {p : Option Addr} {k : Nat} (hR : Only (w0.heap.size :: blk c.po) wt w') (hy : ObOwn w' wt.heap.size y) (hown : OwnK w' (w0.heap.size + 1 + 1) 65 5 (.slice p (c.os.length + 1) k) (c.os.length + 1) ((c.os ++ [y]).flatMap loCells)) (hb : ∀ z ∈ blk p, z ∈ blk c.po ∨ (wt.heap.size ≤ z ∧ z ∉ blk y.q))
  (hr : Row w' w0.heap.size 63 [.string (str c.name), .int .i64 c.time, .int .i64 c.days, .slice p (c.os.length + 1) k, .slice c.pu c.us.length c.cu]) : CbI w0 { c with os := c.os ++ [y], po := p, co := k } w' := by
 have hlen : (c.os ++ [y]).length = c.os.length + 1 := (by simp); have hlo := h.own.lo
 have hfp : ∀ z, z ∈ c.fp → z ∉ blk c.po → z ∉ w0.heap.size :: blk c.po := fun z hz h1 hm => by
  rcases List.mem_cons.1 hm with rfl | hm
  ·have := (hlo _ hz).1; omega
  ·exact h1 hm
 have hnd := h.own.nd; unfold LBk.fp at hnd hfp; obtain ⟨n1, n2, n3⟩ := List.nodup_append.1 hnd; refine ⟨by unfold lbCells; rw [hlen]; exact hr, h.rr.only hR (fun hm => ?_), ⟨by rw [hlen]; exact hown, h.own.su.onlyB hR (fun z hz => hfp z (by simp [hz]) (fun hm => n3 z hm z (by simp [hz]) rfl)), fun x hx => ?_, fun x hx => (by rw [hz] at hx; cases hx), ?_⟩, h.only.transN hR (fun t ht => ?_)⟩
 ·rcases List.mem_cons.1 hm with e | hm
  ·omega
  ·have := (ownIn h.own.so _ hm).1; omega
 ·rcases List.mem_append.1 hx with hx | hx
  ·exact OwnK.onlyB (h.own.ob x hx) hR (fun z hz => hfp z (by simp only [List.mem_append, List.mem_flatMap]; exact .inr (.inr (.inl ⟨x, hx, hz⟩))) (fun hm => n3 z hm z (by simp only [List.mem_append, List.mem_flatMap]; exact .inr (.inl ⟨x, hx, hz⟩)) rfl))
  ·rw [List.mem_singleton.1 hx]; have := h.only.size; have h2 := h.rr.lt; exact OwnK.weaken hy (by omega)
 ·unfold LBk.fp; have hu : c.us.flatMap (fun x => blk x.q) = [] := (by rw [hz]; rfl); rw [hu, List.append_nil] at hnd; show (blk p ++ (blk c.pu ++ ((c.os ++ [y]).flatMap (fun x => blk x.q) ++ c.us.flatMap (fun x => blk x.q)))).Nodup; rw [hu, List.append_nil, List.flatMap_append]; have := nd_push (lo := wt.heap.size) (q := blk y.q) hnd (fun z hz => (hlo z (by unfold LBk.fp; rw [hu, List.append_nil]; exact hz)).2) hb (fun z hz => (ownIn hy z hz).1) (blk_nodup _)
  simpa using this
 ·rcases List.mem_cons.1 ht with rfl | ht
  ·omega
  ·have := (ownIn h.own.so _ ht).1; omega
theorem CbI.pushU {w0 wt w' : World} {c : LBk} (h : CbI w0 c wt) {y : LUpl} {p : Option Addr} {k : Nat} (hR : Only (w0.heap.size :: blk c.pu) wt w') (hy : UpOwn w' wt.heap.size y) (hown : OwnK w' (w0.heap.size + 1 + 1) 68 5 (.slice p (c.us.length + 1) k) (c.us.length + 1) ((c.us ++ [y]).flatMap luCells)) (hb : ∀ z ∈ blk p, z ∈ blk c.pu ∨ (wt.heap.size ≤ z ∧ z ∉ blk y.q))
  (hr : Row w' w0.heap.size 63 [.string (str c.name), .int .i64 c.time, .int .i64 c.days, .slice c.po c.os.length c.co, .slice p (c.us.length + 1) k]) : CbI w0 { c with us := c.us ++ [y], pu := p, cu := k } w' := by
 have hlen : (c.us ++ [y]).length = c.us.length + 1 := (by simp); have hlo := h.own.lo
 have hfp : ∀ z, z ∈ c.fp → z ∉ blk c.pu → z ∉ w0.heap.size :: blk c.pu := fun z hz h1 hm => by
  rcases List.mem_cons.1 hm with rfl | hm
  ·have := (hlo _ hz).1; omega
  ·exact h1 hm
 have hnd := h.own.nd; unfold LBk.fp at hnd hfp; obtain ⟨n1, n2, n3⟩ := List.nodup_append.1 hnd; obtain ⟨n4, n5, n6⟩ := List.nodup_append.1 n2; refine ⟨by unfold lbCells; rw [hlen]; exact hr, h.rr.only hR (fun hm => ?_), ⟨h.own.so.onlyB hR (fun z hz => hfp z (by simp [hz]) (fun hm => n3 z hz z (by simp [hm]) rfl)), by rw [hlen]; exact hown, fun x hx => ?_, fun x hx => ?_, ?_⟩, h.only.transN hR (fun t ht => ?_)⟩
 ·rcases List.mem_cons.1 hm with e | hm
  ·omega
  ·have := (ownIn h.own.su _ hm).1; omega
 ·exact OwnK.onlyB (h.own.ob x hx) hR (fun z hz => hfp z (by simp only [List.mem_append, List.mem_flatMap]; exact .inr (.inr (.inl ⟨x, hx, hz⟩))) (fun hm => n6 z hm z (by simp only [List.mem_append, List.mem_flatMap]; exact .inl ⟨x, hx, hz⟩) rfl))
 ·rcases List.mem_append.1 hx with hx | hx
  ·exact OwnK.onlyB (h.own.up x hx) hR (fun z hz => hfp z (by simp only [List.mem_append, List.mem_flatMap]; exact .inr (.inr (.inr ⟨x, hx, hz⟩))) (fun hm => n6 z hm z (by simp only [List.mem_append, List.mem_flatMap]; exact .inr ⟨x, hx, hz⟩) rfl))
  ·rw [List.mem_singleton.1 hx]; have := h.only.size; have h2 := h.rr.lt; exact OwnK.weaken hy (by omega)
 ·unfold LBk.fp; show (blk c.po ++ (blk p ++ (c.os.flatMap (fun x => blk x.q) ++ (c.us ++ [y]).flatMap (fun x => blk x.q)))).Nodup; rw [List.flatMap_append, ← List.append_assoc (c.os.flatMap _)]; have := nd_push2 (lo := wt.heap.size) (q := blk y.q) hnd (fun z hz => (hlo z (by unfold LBk.fp; exact hz)).2) hb (fun z hz => (ownIn hy z hz).1) (blk_nodup _)
  simpa using this
 ·rcases List.mem_cons.1 ht with rfl | ht
  ·omega
  ·have := (ownIn h.own.su _ ht).1; omega
theorem lbInfo : (Try.prog.info? 63).map (·.size) = some 5 := by kernel_rfl
set_option maxHeartbeats 16000000 in
theorem copyBucket_any (b : LBk) (w0 : World) (hA : BkAt w0 b) (h1 : b.os.length ≤ 100000) (h2 : b.us.length ≤ 100000) (h3 : ∀ x ∈ b.os, x.o.pcs.length ≤ 100000) (h4 : ∀ x ∈ b.us, x.u.parts.length ≤ 100000) :
  Calls Try.prog 44 #[lbV b] w0 fun e w' => ∃ c : LBk, e = .returned (lbV c) ∧ c.b = b.b ∧ BkOwn w' w0.heap.size c ∧ Only [] w0 w' := by
 obtain ⟨n, hn⟩ : ∃ n, b.os.length = n := ⟨_, rfl⟩; obtain ⟨nu, hnu⟩ : ∃ nu, b.us.length = nu := ⟨_, rfl⟩; obtain ⟨w1, hw1⟩ : ∃ w1, w1 = w0.alloc (.cells #[.string (str b.name), .int .i64 b.time, .int .i64 b.days, .slice b.po n b.co, .slice b.pu nu b.cu] 63) := ⟨_, rfl⟩; obtain ⟨w2, hw2⟩ : ∃ w2, w2 = w1.alloc (.cells #[.string ⟨#[]⟩, .int .i64 0, .int .i64 0, .slice none 0 0, .slice none 0 0] 63) := ⟨_, rfl⟩; have o1 : Only [] w0 w1 := (by rw [hw1]; exact Only.alloc _ _); have o2 : Only [] w1 w2 := (by rw [hw2]; exact Only.alloc _ _); have s1 : w1.heap.size = w0.heap.size + 1 := by rw [hw1]; simp
 have s2 : w2.heap.size = w0.heap.size + 1 + 1 := (by rw [hw2]; simp [s1]); have r1 : Row w2 w0.heap.size 63 [.string (str b.name), .int .i64 b.time, .int .i64 b.days, .slice b.po n b.co, .slice b.pu nu b.cu] := (show Row w1 w0.heap.size 63 [.string (str b.name), .int .i64 b.time, .int .i64 b.days, .slice b.po n b.co, .slice b.pu nu b.cu] by rw [hw1]; exact Row.newOf _ _ _ _ rfl).only0 o2; have r2 : Row w2 (w0.heap.size + 1) 63 [.string (str []), .int .i64 0, .int .i64 0, .slice none 0 0, .slice none 0 0] := (by rw [← s1, hw2]; exact Row.newOf _ _ _ _ rfl); have c3 := r1.cell (i := 3) rfl; have c4 := r1.cell (i := 4) rfl
 have HA := Lib.hid hA; have HO := Lib.hid (o1.trans0 o2); have HR1 := Lib.hid r1; have HR2 := Lib.hid r2; have Hw1 := Lib.hid hw1; have Hw2 := Lib.hid hw2; have Hs2 := Lib.hid s2; have Hn := Lib.hid hn; have Hnu := Lib.hid hnu; have H3 := Lib.hid h3; have H4 := Lib.hid h4; have hn5 : n ≤ 100000 := (by omega); have hu5 : nu ≤ 100000 := (by omega); unfold lbV; rw [hn, hnu]; clear o1 o2 s1 s2 r1 r2 hw1 hw2 hA hn hnu h1 h2 h3 h4
 go_enter Try.func44, Try.ntmps44
 go_upto_region 1 with (fail)
 rw [← Hw1.out, ← Hw2.out]; clear Hw1 Hw2
 go_quiet (fail)
 obtain ⟨wq, hwq⟩ : ∃ wq, wq = w2.drewN nq := ⟨_, rfl⟩; have oq : Only [] w2 wq := (by rw [hwq]; exact Only.drewN _ _); have rq := HR1.out.only0 oq; have f3 := rq.free 3; have f4 := rq.free 4; have q3 := rq.cell (i := 3) rfl; have q4 := rq.cell (i := 4) rfl; obtain ⟨w3, hw3⟩ : ∃ w3, w3 = (wq.setCell ⟨w0.heap.size, 3, none⟩ (.slice none 0 0)).setCell ⟨w0.heap.size, 4, none⟩ (.slice none 0 0) := ⟨_, rfl⟩; have r3 : Row w3 w0.heap.size 63 [.string (str b.name), .int .i64 b.time, .int .i64 b.days, .slice none 0 0, .slice none 0 0] := (by rw [hw3]; exact (rq.setCell 3 _).setCell 4 _); have o3 : Only [w0.heap.size] wq w3 := by rw [hw3]; exact (Only.setCell wq ⟨_, 3, none⟩ _).trans (Only.setCell _ ⟨_, 4, none⟩ _) (fun i hi _ => hi)
 have hwz : (wq.setCell ⟨w0.heap.size, 3, none⟩ (.slice none 0 0)).cell? ⟨w0.heap.size, 4, none⟩ = some (.slice b.pu nu b.cu) := (rq.setCell 3 _).cell (i := 4) rfl; have hwf : (wq.setCell ⟨w0.heap.size, 3, none⟩ (.slice none 0 0)).frozen? ⟨w0.heap.size, 4, none⟩ = false := (rq.setCell 3 _).free 4; have hI0 : CbI w0 ⟨b.name, b.time, b.days, [], none, 0, [], none, 0⟩ w3 := ⟨r3, (HR2.out.only0 oq).only o3 (by simp), ⟨OwnK.nil _ _ _ _, OwnK.nil _ _ _ _, by simp, by simp, by simp [LBk.fp, blk]⟩, (HO.out.trans0 oq).transN o3 (by simp)⟩; have HI0 := Lib.hid hI0; have Hw3 := Lib.hid hw3; rw [← hwq]; clear hwq oq rq r3 o3 hI0 hw3 c3 c4
 go_upto_region 3 with (fail)
 rw [← Hw3.out]; clear Hw3 f3 f4 q3 q4 hwz hwf; go_wp2_with fail
 go_loopw [17] (fun s17 wr => ∃ i : Nat, s17 = .int .i64 (i : Int) ∧ i ≤ n ∧ Hid (∃ c : LBk, CbI w0 c wr ∧ c.name = b.name ∧ c.time = b.time ∧ c.days = b.days ∧ c.os.map LObj.o = (b.os.take i).map LObj.o ∧ c.us = [] ∧ c.pu = none ∧ c.cu = 0)) (fun s17 _ => n - (intOf s17).toNat)
 case atStart => exact ⟨0, rfl, Nat.zero_le _, Lib.hid ⟨_, HI0.out, rfl, rfl, rfl, rfl, rfl, rfl, rfl⟩⟩
 case round =>
  clear HI0; obtain ⟨i, rfl, hi, HC⟩ := hrel
  by_cases hlt : i < n
  ·obtain ⟨c, hI, e1, e2, e3, e4, e5, e6, e7⟩ := HC.out; obtain ⟨x, hxx⟩ : ∃ x, b.os[i]? = some x := ⟨_, List.getElem?_eq_getElem (by rw [Hn.out]; exact hlt)⟩; have hrd := HA.out.so.1.only0 hI.only; have hne : b.os.flatMap loCells ≠ [] := fun e' => (by have := flat_get loCells 5 loCells_len b.os i x 0 hxx (by omega); rw [e'] at this; cases this); obtain ⟨bo, off, hpo, -⟩ := hrd.lt hne; rw [hpo] at hrd; have x0 := rd_elem loCells_len hrd hxx (r := 0) rfl; have x1 := rd_elem loCells_len hrd hxx (r := 1) rfl; have x2 := rd_elem loCells_len hrd hxx (r := 2) rfl; have x3 := rd_elem loCells_len hrd hxx (r := 3) rfl
   have x4 := rd_elem loCells_len hrd hxx (r := 4) rfl; rw [Addr.add_lit, ← Nat.add_assoc] at x0 x1 x2 x3 x4; rw [Nat.add_zero] at x0; obtain ⟨wt, hwt⟩ : ∃ wt, wt = wr.alloc (.cells #[.string (str x.o.key), .int .i64 x.o.size, .string (str x.o.etag), .int .i64 x.o.time, .slice x.q x.o.pcs.length x.c] 65) := ⟨_, rfl⟩; have ot : Only [] wr wt := (by rw [hwt]; exact Only.alloc _ _); have rt : Row wt wr.heap.size 65 (loCells x) := (by rw [hwt]; exact Row.newOf _ _ _ _ rfl); have HI := Lib.hid (hI.step ot); have Z0 := Lib.hid (rt.cell (i := 0) rfl); have Z1 := Lib.hid (rt.cell (i := 1) rfl); have Z2 := Lib.hid (rt.cell (i := 2) rfl)
   have Z3 := Lib.hid (rt.cell (i := 3) rfl); have Z4 := Lib.hid (rt.cell (i := 4) rfl); have Hxm := Lib.hid (List.mem_of_getElem? hxx); have Htk : Hid ((b.os.take (i + 1)).map LObj.o = (b.os.take i).map LObj.o ++ [x.o]) := Lib.hid (by rw [List.take_add_one, hxx, List.map_append]; rfl); have HE : Hid (c.name = b.name ∧ c.time = b.time ∧ c.days = b.days ∧ c.os.map LObj.o = (b.os.take i).map LObj.o ∧ c.us = [] ∧ c.pu = none ∧ c.cu = 0) := Lib.hid ⟨e1, e2, e3, e4, e5, e6, e7⟩
   have hnZ : wr.heap.size ∉ w0.heap.size :: blk c.po := fun hm => by
    rcases List.mem_cons.1 hm with e | hm
    ·have := hI.rx.lt; omega
    ·have := (ownIn hI.own.so _ hm).2; omega
   have Hwt := Lib.hid hwt; clear hI hrd hne hxx ot rt hwt HC e1 e2 e3 e4 e5 e6 e7
   go_upto_region 6 with (fail)
   rw [← Hwt.out]; clear Hwt x0 x1 x2 x3 x4; obtain ⟨B, hBe⟩ : ∃ B, B = w0.heap.size + 1 + 1 := ⟨_, rfl⟩; obtain ⟨lo, hlo⟩ : ∃ lo, lo = wt.heap.size := ⟨_, rfl⟩; have HX : Hid (Row wt w0.heap.size 63 (lbCells c)) := Lib.hid HI.out.rx; have Hown : Hid (OwnK wt B 65 5 (.slice c.po c.os.length c.co) c.os.length (c.os.flatMap loCells)) := Lib.hid (by rw [hBe]; exact HI.out.own.so)
   have Hnb : Hid (c.os.length ≤ 100000) := Lib.hid (by
    have h := congrArg List.length HE.out.2.2.2.1; rw [List.length_map, List.length_map, List.length_take] at h
    omega)
   have HB : Hid (B ≤ wt.heap.size) := Lib.hid (by rw [hBe]; have := HI.out.rr.lt; omega); have hlt5 : ∀ s ∈ blk c.po, s < lo := fun s hs => (by rw [hlo]; exact (ownIn Hown.out s hs).2); have hlt7 : ∀ s ∈ [w0.heap.size], s < lo := fun s hs => (by rw [List.mem_singleton.1 hs, hlo]; exact HX.out.lt); have hXp : w0.heap.size ∉ blk c.po := fun hm => by have := (ownIn Hown.out _ hm).1; rw [hBe] at this; omega
   have HC : Hid (∀ w, Only (w0.heap.size :: blk c.po) wt w → Calls Try.prog 49 #[loV x] w fun e w' => ∃ y, e = .returned (loV y) ∧ PO x w.heap.size y w' ∧ Only [] w w') := Lib.hid (fun w ho => by
    have h0 : Only [] w0 w := HI.out.only.transN ho (fun t ht => by
     rcases List.mem_cons.1 ht with rfl | ht
     ·exact Nat.le_refl _
     ·have := (ownIn Hown.out _ ht).1; rw [hBe] at this; omega)
    refine (copyObject_any x w ((HA.out.ob x Hxm.out).only0 h0) (by have := H3.out x Hxm.out; omega)).mono ?_; rintro e w' ⟨q', c', rfl, h5, h6⟩
    exact ⟨⟨x.o, q', c'⟩, rfl, ⟨rfl, h5⟩, h6⟩)
   have Hlo := Lib.hid hlo; have hRr : ∀ a, Only (w0.heap.size :: blk c.po) a a := fun a => Only.refl _ _; have hRt : ∀ a b e, Only (w0.heap.size :: blk c.po) a b → Only (w0.heap.size :: blk c.po) b e → Only (w0.heap.size :: blk c.po) a e := fun a b e h h2 => h.trans h2 (fun i hi _ => hi); have hRd : Only (w0.heap.size :: blk c.po) wt wt.drew := (Only.drew _).mono (by simp); have hC0 : ∀ i ∈ [5, 7], (fun (i : Nat) (a : World) => (i = 5 → Only [] wt a) ∧ (i = 7 → Row a w0.heap.size 63 (lbCells c))) i wt.drew := fun _ _ => ⟨fun _ => Only.drew _, fun _ => HX.out.only0 (Only.drew _)⟩; refine wp_region_rg4 (Only (w0.heap.size :: blk c.po)) (Dirt [(5, blk c.po), (7, [w0.heap.size])]) (fun (i : Nat) (a : World) => (i = 5 → Only [] wt a) ∧ (i = 7 → Row a w0.heap.size 63 (lbCells c))) [5, 7] [[(1, none)], [(21, some 0)], [(6, none)], [(23, some 0)], [(24, some 0)], [(22, some 3), (25, some 0)], [(1, none)], [(27, some 0), (26, some 1)]] [] [none, none, none, none, none, none, none, none, none, none, none, none, none, none, none, none, none, none, none, none, none, some 21, some 22, some 23, some 24, some 25, some 26, some 27, none, none, none, none, none, none, none, none, none, none, none, none, none, none, none, none] (by kernel_rfl) rfl (by kernel_rfl) hRr hRt (fun _ _ => Only.refl _ _) hRd hC0 (by kernel_rfl) (by kernel_rfl) ?_
   apply rgd_ev
   ·intro a w hR hC hf; obtain ⟨e1, -⟩ := hf; replace e1 : a.tmps.getD 1 undef = _ := e1; refine rg_plain rfl fun K hK => ?_; go_simp; exact hK _ _ rfl ⟨hRr _, Only.refl _ _, fun _ _ _ _ h => h⟩
   apply rgd_ev
   ·intro a w hR hC hf; obtain ⟨e21, -⟩ := hf; replace e21 : a.tmps.getD 21 undef = _ := e21; refine rg_plain rfl fun K hK => ?_; have hC7 := (hC 7 (by simp) (by kernel_rfl)).2 rfl; have g := hC7.cell (i := 3) rfl; go_simp; exact hK _ _ rfl ⟨hRr _, Only.refl _ _, fun _ _ _ _ h => h⟩
   apply rgd_ev
   ·intro a w hR hC hf; obtain ⟨e6, -⟩ := hf; replace e6 : a.tmps.getD 6 undef = _ := e6; refine rg_plain rfl fun K hK => ?_; have g0 := hR.cell Z0.out hnZ; have g1 := hR.cell Z1.out hnZ; have g2 := hR.cell Z2.out hnZ; have g3 := hR.cell Z3.out hnZ; have g4 := hR.cell Z4.out hnZ; go_simp; exact hK _ _ rfl ⟨hRr _, Only.refl _ _, fun _ _ _ _ h => h⟩
   refine ⟨CpV loV (PO x lo), stands_of (CpV.stable PO.st (by simp)) (two_dirt (Z := fun y => Stable (Only y.2) (CpV loV (PO x lo))) (fun _ => CpV.stable PO.st hlt5) (fun _ => CpV.stable PO.st hlt7)), fun a w hR hC hf => ?_, ?_⟩
   ·obtain ⟨e23, -⟩ := hf; replace e23 : a.tmps.getD 23 undef = _ := e23; refine rg_plain rfl fun K hK => ?_; have hcy := HC.out w hR; unfold loV at hcy; go_simp; (with_reducible refine hcy.mono ?_); rintro e w' ⟨y, rfl, hy, ho⟩; exact hK _ _ ⟨y, rfl, PO.weaken hy (Nat.le_trans (Nat.le_of_eq hlo) hR.size)⟩ ⟨ho.mono (by simp), ho, fun i _ _ _ hc => ⟨fun e => (hc.1 e).trans0 ho, fun e => (hc.2 e).only0 ho⟩⟩
   refine ⟨CpS loCells 65 (PO x lo) lo, stands_of (CpS.stable PO.st (by simp)) (two_dirt (Z := fun y => Stable (Only y.2) (CpS loCells 65 (PO x lo) lo)) (fun _ => CpS.stable PO.st hlt5) (fun _ => CpS.stable PO.st hlt7)), fun a w hR hC hf => ?_, ?_⟩
   ·obtain ⟨e24, -⟩ := hf; replace e24 : CpV loV (PO x lo) (a.tmps.getD 24 undef) w := e24; refine rg_plain rfl fun K hK => ?_; obtain ⟨y, e24, hy⟩ := e24; unfold loV at e24; have e24' := e24; rw [Array.getD_eq_getD_getElem?] at e24'; go_simp; refine hK _ _ ⟨y, w.heap.size, rfl, Nat.le_trans (Nat.le_of_eq hlo) hR.size, Row.newOf w _ _ _ (by rfl), PO.st _ _ _ _ hy (Only.alloc w _) (by simp)⟩ ⟨(Only.alloc w _).mono (by simp), Only.alloc w _, fun i _ _ _ hc => ⟨fun e => (hc.1 e).trans0 (Only.alloc w _), fun e => (hc.2 e).only0 (Only.alloc w _)⟩⟩
   refine ⟨CpA loCells 65 5 (PO x lo) (fun y => blk y.q) lo B (blk c.po) c.os.length c.os, stands_of (CpA.stable PO.st (by simp) (by simp)) (two_dirt (Z := fun y => Stable (Only y.2) (CpA loCells 65 5 (PO x lo) (fun y => blk y.q) lo B (blk c.po) c.os.length c.os)) (fun h => Bool.noConfusion (h.symm.trans (by kernel_rfl : _ = true))) (fun _ => CpA.stable PO.st hlt7 (by simpa using hXp))), fun a w hR hC hf => ?_, ?_⟩
   ·obtain ⟨e22, e25, -⟩ := hf; replace e22 : a.tmps.getD 22 undef = _ := e22; replace e25 : CpS loCells 65 (PO x lo) lo (a.tmps.getD 25 undef) w := e25; refine rg_plain rfl fun K hK => ?_; obtain ⟨y, g, e25, hg, hrow, hy⟩ := e25; have hC5 := (hC 5 (by simp) (by kernel_rfl)).1 rfl; obtain ⟨p', k', w', hra, oA, hA⟩ := appendK (P := Try.prog) (bytes := 72) (c := 1) (q := some ⟨g, 0, none⟩) (n := c.os.length) (m := 1) (news := loCells y) (t := 60) (ty := 60) w Try.underlying60 Try.infoLO rfl (by omega) (Hown.out.only0 hC5) hrow.rd0 rfl (by simp) (loCells_one y) (by have := Hnb.out; omega) (by have := Hnb.out; omega) (by have := hR.size; have := HB.out; omega)
    have hat := appendK_at (P := Try.prog) (bytes := 72) (c := 1) (q := some ⟨g, 0, none⟩) (n := c.os.length) (m := 1) (news := loCells y) (t := 60) (ty := 60) w Try.underlying60 Try.infoLO rfl (by omega) (Hown.out.only0 hC5) hrow.rd0 rfl (by simp) (loCells_one y) (by have := Hnb.out; omega) (by have := Hnb.out; omega) hra; refine rg_append (s := .tmp 22) (x := .tmp 25) rfl e22 e25 hra ?_; refine hK _ _ ⟨y, p', k', rfl, PO.st _ _ _ _ hy hA hlt5, by rw [List.flatMap_append]; simpa using oA, fun z hz => ?_⟩ ⟨hA.mono (fun x hx => List.mem_cons_of_mem _ hx), hA, fun i _ hne _ hc => ⟨fun e => absurd e hne, fun e => (hc.2 e).only hA hXp⟩⟩
    rcases hat with rfl | ⟨g', rfl, hg'⟩
    ·exact .inl hz
    ·simp [blk] at hz; subst hz; exact .inr ⟨Nat.le_trans (Nat.le_of_eq hlo) (Nat.le_trans hR.size hg'), fun hm => by have := PO.lt hy _ hm; omega⟩
   apply rgd_ev
   ·intro a w hR hC hf; obtain ⟨e1, -⟩ := hf; replace e1 : a.tmps.getD 1 undef = _ := e1; refine rg_plain rfl fun K hK => ?_; go_simp; exact hK _ _ rfl ⟨hRr _, Only.refl _ _, fun _ _ _ _ h => h⟩
   refine ⟨CpZ loCells 65 5 (PO x lo) (fun y => blk y.q) lo B (blk c.po) c.os.length c.os w0.heap.size 63 (fun v => [.string (str c.name), .int .i64 c.time, .int .i64 c.days, v, .slice c.pu c.us.length c.cu]), stands_of (CpZ.stable PO.st) (two_dirt (Z := fun y => Stable (Only y.2) (CpZ loCells 65 5 (PO x lo) (fun y => blk y.q) lo B (blk c.po) c.os.length c.os w0.heap.size 63 (fun v => [.string (str c.name), .int .i64 c.time, .int .i64 c.days, v, .slice c.pu c.us.length c.cu]))) (fun h => Bool.noConfusion (h.symm.trans (by kernel_rfl : _ = true))) (fun h => by simp at h)), fun a w hR hC hf => ?_, ?_⟩
   ·obtain ⟨e27, e26, -⟩ := hf; replace e27 : a.tmps.getD 27 undef = _ := e27; replace e26 : CpA loCells 65 5 (PO x lo) (fun y => blk y.q) lo B (blk c.po) c.os.length c.os (a.tmps.getD 26 undef) w := e26; refine rg_plain rfl fun K hK => ?_; have hC7 := (hC 7 (by simp) (by kernel_rfl)).2 rfl; obtain ⟨y, p', k', e26, hy, oA, hb⟩ := e26; have h7c := hC7.cell (i := 3) rfl; have h7f := hC7.free 3; go_simp; have hst : Only [w0.heap.size] w (w.setCell ⟨w0.heap.size, 3, none⟩ (.slice p' (c.os.length + 1) k')) := Only.setCell w ⟨w0.heap.size, 3, none⟩ _; refine hK undef _ ⟨y, p', k', PO.st _ _ _ _ hy hst hlt7, oA.onlyB hst (fun z hz hm => ?_), hb, hC7.setCell 3 _⟩ ⟨hst.mono (by simp), hst, ?_⟩
    ·obtain rfl := List.mem_singleton.1 hm
     rcases hb _ hz with h | h
     ·exact hXp h
     ·have := hlt7 w0.heap.size (by simp); omega
    ·intro i hi hne ha _; simp only [List.mem_cons, List.not_mem_nil, or_false] at hi
     rcases hi with rfl | rfl
     ·exact Bool.noConfusion (ha.symm.trans (by kernel_rfl : _ = true))
     ·exact absurd rfl hne
   intro fR6 wR6 hRR6 hf hzR6; dsimp only [mergeT]; obtain ⟨v7, y, p', k', hy, oA, hb, hrw⟩ := hzR6 _ (List.mem_cons_self ..); rw [hBe] at oA; rw [hlo] at hy hb; have HIn := Lib.hid (HI.out.pushO HE.out.2.2.2.2.1 hRR6 hy.2 oA hb hrw); have Hyx := Lib.hid hy.1; clear hRr hRt hRd hC0 hzR6 hy oA hb hrw hRR6 hlt5 hlt7 hXp; go_wp2_with fail; refine ⟨⟨i + 1, by go_num, by omega, Lib.hid ⟨_, HIn.out, HE.out.1, HE.out.2.1, HE.out.2.2.1, ?_, HE.out.2.2.2.2⟩⟩, ?_⟩
   ·rw [Htk.out, List.map_append, HE.out.2.2.2.1, List.map_singleton, Hyx.out]
   ·show n - ((i : Int) + 1).toNat < n - ((i : Int)).toNat; omega
  ·obtain rfl : i = n := (by omega); have HT : Hid (b.os.take i = b.os) := Lib.hid (List.take_of_length_le (by rw [Hn.out]; exact Nat.le_refl _))
   have HC2 : Hid (∃ c : LBk, CbI w0 c wr ∧ c.name = b.name ∧ c.time = b.time ∧ c.days = b.days ∧ c.os.map LObj.o = b.os.map LObj.o ∧ c.us.map LUpl.u = (b.us.take 0).map LUpl.u) := Lib.hid (by
    obtain ⟨c, hI, e1, e2, e3, e4, e5, e6, e7⟩ := HC.out
    exact ⟨c, hI, e1, e2, e3, by rw [e4, HT.out], by rw [e5]; rfl⟩)
   clear HC HT; obtain ⟨wo, rfl⟩ : ∃ wo : World, wo = wr := ⟨_, rfl⟩; go_wp2_with fail
   go_loopw [31] (fun s31 wr => ∃ i : Nat, s31 = .int .i64 (i : Int) ∧ i ≤ nu ∧ Hid (∃ c : LBk, CbI w0 c wr ∧ c.name = b.name ∧ c.time = b.time ∧ c.days = b.days ∧ c.os.map LObj.o = b.os.map LObj.o ∧ c.us.map LUpl.u = (b.us.take i).map LUpl.u)) (fun s31 _ => nu - (intOf s31).toNat)
   case atStart => exact ⟨0, rfl, Nat.zero_le _, HC2⟩
   case round =>
    clear HC2; obtain ⟨i, rfl, hi, HC⟩ := hrel
    by_cases hlt : i < nu
    ·obtain ⟨c, hI, e1, e2, e3, e4, e5⟩ := HC.out; obtain ⟨x, hxx⟩ : ∃ x, b.us[i]? = some x := ⟨_, List.getElem?_eq_getElem (by rw [Hnu.out]; exact hlt)⟩; have hrd := HA.out.su.1.only0 hI.only; have hne : b.us.flatMap luCells ≠ [] := fun e' => (by have := flat_get luCells 5 luCells_len b.us i x 0 hxx (by omega); rw [e'] at this; cases this); obtain ⟨bo, off, hpo, -⟩ := hrd.lt hne; rw [hpo] at hrd; have x0 := rd_elem luCells_len hrd hxx (r := 0) rfl; have x1 := rd_elem luCells_len hrd hxx (r := 1) rfl; have x2 := rd_elem luCells_len hrd hxx (r := 2) rfl; have x3 := rd_elem luCells_len hrd hxx (r := 3) rfl
     have x4 := rd_elem luCells_len hrd hxx (r := 4) rfl; rw [Addr.add_lit, ← Nat.add_assoc] at x0 x1 x2 x3 x4; rw [Nat.add_zero] at x0; obtain ⟨wt, hwt⟩ : ∃ wt, wt = wr.alloc (.cells #[.int .i64 x.u.id.node, .int .i64 x.u.id.boot, .int .i64 x.u.id.seq, .string (str x.u.key), .slice x.q x.u.parts.length x.c] 68) := ⟨_, rfl⟩; have ot : Only [] wr wt := (by rw [hwt]; exact Only.alloc _ _); have rt : Row wt wr.heap.size 68 (luCells x) := (by rw [hwt]; exact Row.newOf _ _ _ _ rfl); have HI := Lib.hid (hI.step ot); have Z0 := Lib.hid (rt.cell (i := 0) rfl); have Z1 := Lib.hid (rt.cell (i := 1) rfl); have Z2 := Lib.hid (rt.cell (i := 2) rfl)
     have Z3 := Lib.hid (rt.cell (i := 3) rfl); have Z4 := Lib.hid (rt.cell (i := 4) rfl); have Hxm := Lib.hid (List.mem_of_getElem? hxx); have Htk : Hid ((b.us.take (i + 1)).map LUpl.u = (b.us.take i).map LUpl.u ++ [x.u]) := Lib.hid (by rw [List.take_add_one, hxx, List.map_append]; rfl); have HE : Hid (c.name = b.name ∧ c.time = b.time ∧ c.days = b.days ∧ c.os.map LObj.o = b.os.map LObj.o ∧ c.us.map LUpl.u = (b.us.take i).map LUpl.u) := Lib.hid ⟨e1, e2, e3, e4, e5⟩
     have hnZ : wr.heap.size ∉ w0.heap.size :: blk c.pu := fun hm => by
      rcases List.mem_cons.1 hm with e | hm
      ·have := hI.rx.lt; omega
      ·have := (ownIn hI.own.su _ hm).2; omega
     have Hwt := Lib.hid hwt; clear hI hrd hne hxx ot rt hwt HC e1 e2 e3 e4 e5
     go_upto_region 11 with (fail)
     rw [← Hwt.out]; clear Hwt x0 x1 x2 x3 x4; obtain ⟨B, hBe⟩ : ∃ B, B = w0.heap.size + 1 + 1 := ⟨_, rfl⟩; obtain ⟨lo, hlo⟩ : ∃ lo, lo = wt.heap.size := ⟨_, rfl⟩; have HX : Hid (Row wt w0.heap.size 63 (lbCells c)) := Lib.hid HI.out.rx; have Hown : Hid (OwnK wt B 68 5 (.slice c.pu c.us.length c.cu) c.us.length (c.us.flatMap luCells)) := Lib.hid (by rw [hBe]; exact HI.out.own.su)
     have Hnb : Hid (c.us.length ≤ 100000) := Lib.hid (by
      have h := congrArg List.length HE.out.2.2.2.2; rw [List.length_map, List.length_map, List.length_take] at h
      omega)
     have HB : Hid (B ≤ wt.heap.size) := Lib.hid (by rw [hBe]; have := HI.out.rr.lt; omega); have hlt5 : ∀ s ∈ blk c.pu, s < lo := fun s hs => (by rw [hlo]; exact (ownIn Hown.out s hs).2); have hlt7 : ∀ s ∈ [w0.heap.size], s < lo := fun s hs => (by rw [List.mem_singleton.1 hs, hlo]; exact HX.out.lt); have hXp : w0.heap.size ∉ blk c.pu := fun hm => by have := (ownIn Hown.out _ hm).1; rw [hBe] at this; omega
     have HC : Hid (∀ w, Only (w0.heap.size :: blk c.pu) wt w → Calls Try.prog 50 #[luV x] w fun e w' => ∃ y, e = .returned (luV y) ∧ PU x w.heap.size y w' ∧ Only [] w w') := Lib.hid (fun w ho => by
      have h0 : Only [] w0 w := HI.out.only.transN ho (fun t ht => by
       rcases List.mem_cons.1 ht with rfl | ht
       ·exact Nat.le_refl _
       ·have := (ownIn Hown.out _ ht).1; rw [hBe] at this; omega)
      refine (copyUpload_any x w ((HA.out.up x Hxm.out).only0 h0) (by have := H4.out x Hxm.out; omega)).mono ?_; rintro e w' ⟨q', c', rfl, h5, h6⟩
      exact ⟨⟨x.u, q', c'⟩, rfl, ⟨rfl, h5⟩, h6⟩)
     have Hlo := Lib.hid hlo; have hRr : ∀ a, Only (w0.heap.size :: blk c.pu) a a := fun a => Only.refl _ _; have hRt : ∀ a b e, Only (w0.heap.size :: blk c.pu) a b → Only (w0.heap.size :: blk c.pu) b e → Only (w0.heap.size :: blk c.pu) a e := fun a b e h h2 => h.trans h2 (fun i hi _ => hi); have hRd : Only (w0.heap.size :: blk c.pu) wt wt.drew := (Only.drew _).mono (by simp); have hC0 : ∀ i ∈ [5, 7], (fun (i : Nat) (a : World) => (i = 5 → Only [] wt a) ∧ (i = 7 → Row a w0.heap.size 63 (lbCells c))) i wt.drew := fun _ _ => ⟨fun _ => Only.drew _, fun _ => HX.out.only0 (Only.drew _)⟩; refine wp_region_rg4 (Only (w0.heap.size :: blk c.pu)) (Dirt [(5, blk c.pu), (7, [w0.heap.size])]) (fun (i : Nat) (a : World) => (i = 5 → Only [] wt a) ∧ (i = 7 → Row a w0.heap.size 63 (lbCells c))) [5, 7] [[(1, none)], [(35, some 0)], [(8, none)], [(37, some 0)], [(38, some 0)], [(36, some 3), (39, some 0)], [(1, none)], [(41, some 0), (40, some 1)]] [] [none, none, none, none, none, none, none, none, none, none, none, none, none, none, none, none, none, none, none, none, none, none, none, none, none, none, none, none, none, none, none, none, none, none, none, some 35, some 36, some 37, some 38, some 39, some 40, some 41, none, none] (by kernel_rfl) rfl (by kernel_rfl) hRr hRt (fun _ _ => Only.refl _ _) hRd hC0 (by kernel_rfl) (by kernel_rfl) ?_
     apply rgd_ev
     ·intro a w hR hC hf; obtain ⟨e1, -⟩ := hf; replace e1 : a.tmps.getD 1 undef = _ := e1; refine rg_plain rfl fun K hK => ?_; go_simp; exact hK _ _ rfl ⟨hRr _, Only.refl _ _, fun _ _ _ _ h => h⟩
     apply rgd_ev
     ·intro a w hR hC hf; obtain ⟨e35, -⟩ := hf; replace e35 : a.tmps.getD 35 undef = _ := e35; refine rg_plain rfl fun K hK => ?_; have hC7 := (hC 7 (by simp) (by kernel_rfl)).2 rfl; have g := hC7.cell (i := 4) rfl; go_simp; exact hK _ _ rfl ⟨hRr _, Only.refl _ _, fun _ _ _ _ h => h⟩
     apply rgd_ev
     ·intro a w hR hC hf; obtain ⟨e8, -⟩ := hf; replace e8 : a.tmps.getD 8 undef = _ := e8; refine rg_plain rfl fun K hK => ?_; have g0 := hR.cell Z0.out hnZ; have g1 := hR.cell Z1.out hnZ; have g2 := hR.cell Z2.out hnZ; have g3 := hR.cell Z3.out hnZ; have g4 := hR.cell Z4.out hnZ; go_simp; exact hK _ _ rfl ⟨hRr _, Only.refl _ _, fun _ _ _ _ h => h⟩
     refine ⟨CpV luV (PU x lo), stands_of (CpV.stable PU.st (by simp)) (two_dirt (Z := fun y => Stable (Only y.2) (CpV luV (PU x lo))) (fun _ => CpV.stable PU.st hlt5) (fun _ => CpV.stable PU.st hlt7)), fun a w hR hC hf => ?_, ?_⟩
     ·obtain ⟨e37, -⟩ := hf; replace e37 : a.tmps.getD 37 undef = _ := e37; refine rg_plain rfl fun K hK => ?_; have hcy := HC.out w hR; unfold luV at hcy; go_simp; (with_reducible refine hcy.mono ?_); rintro e w' ⟨y, rfl, hy, ho⟩; exact hK _ _ ⟨y, rfl, PU.weaken hy (Nat.le_trans (Nat.le_of_eq hlo) hR.size)⟩ ⟨ho.mono (by simp), ho, fun i _ _ _ hc => ⟨fun e => (hc.1 e).trans0 ho, fun e => (hc.2 e).only0 ho⟩⟩
     refine ⟨CpS luCells 68 (PU x lo) lo, stands_of (CpS.stable PU.st (by simp)) (two_dirt (Z := fun y => Stable (Only y.2) (CpS luCells 68 (PU x lo) lo)) (fun _ => CpS.stable PU.st hlt5) (fun _ => CpS.stable PU.st hlt7)), fun a w hR hC hf => ?_, ?_⟩
     ·obtain ⟨e38, -⟩ := hf; replace e38 : CpV luV (PU x lo) (a.tmps.getD 38 undef) w := e38; refine rg_plain rfl fun K hK => ?_; obtain ⟨y, e38, hy⟩ := e38; unfold luV at e38; have e38' := e38; rw [Array.getD_eq_getD_getElem?] at e38'; go_simp; refine hK _ _ ⟨y, w.heap.size, rfl, Nat.le_trans (Nat.le_of_eq hlo) hR.size, Row.newOf w _ _ _ (by rfl), PU.st _ _ _ _ hy (Only.alloc w _) (by simp)⟩ ⟨(Only.alloc w _).mono (by simp), Only.alloc w _, fun i _ _ _ hc => ⟨fun e => (hc.1 e).trans0 (Only.alloc w _), fun e => (hc.2 e).only0 (Only.alloc w _)⟩⟩
     refine ⟨CpA luCells 68 5 (PU x lo) (fun y => blk y.q) lo B (blk c.pu) c.us.length c.us, stands_of (CpA.stable PU.st (by simp) (by simp)) (two_dirt (Z := fun y => Stable (Only y.2) (CpA luCells 68 5 (PU x lo) (fun y => blk y.q) lo B (blk c.pu) c.us.length c.us)) (fun h => Bool.noConfusion (h.symm.trans (by kernel_rfl : _ = true))) (fun _ => CpA.stable PU.st hlt7 (by simpa using hXp))), fun a w hR hC hf => ?_, ?_⟩
     ·obtain ⟨e36, e39, -⟩ := hf; replace e36 : a.tmps.getD 36 undef = _ := e36; replace e39 : CpS luCells 68 (PU x lo) lo (a.tmps.getD 39 undef) w := e39; refine rg_plain rfl fun K hK => ?_; obtain ⟨y, g, e39, hg, hrow, hy⟩ := e39; have hC5 := (hC 5 (by simp) (by kernel_rfl)).1 rfl; obtain ⟨p', k', w', hra, oA, hA⟩ := appendK (P := Try.prog) (bytes := 64) (c := 1) (q := some ⟨g, 0, none⟩) (n := c.us.length) (m := 1) (news := luCells y) (t := 61) (ty := 61) w Try.underlying61 Try.infoLU rfl (by omega) (Hown.out.only0 hC5) hrow.rd0 rfl (by simp) (luCells_one y) (by have := Hnb.out; omega) (by have := Hnb.out; omega) (by have := hR.size; have := HB.out; omega)
      have hat := appendK_at (P := Try.prog) (bytes := 64) (c := 1) (q := some ⟨g, 0, none⟩) (n := c.us.length) (m := 1) (news := luCells y) (t := 61) (ty := 61) w Try.underlying61 Try.infoLU rfl (by omega) (Hown.out.only0 hC5) hrow.rd0 rfl (by simp) (luCells_one y) (by have := Hnb.out; omega) (by have := Hnb.out; omega) hra; refine rg_append (s := .tmp 36) (x := .tmp 39) rfl e36 e39 hra ?_; refine hK _ _ ⟨y, p', k', rfl, PU.st _ _ _ _ hy hA hlt5, by rw [List.flatMap_append]; simpa using oA, fun z hz => ?_⟩ ⟨hA.mono (fun x hx => List.mem_cons_of_mem _ hx), hA, fun i _ hne _ hc => ⟨fun e => absurd e hne, fun e => (hc.2 e).only hA hXp⟩⟩
      rcases hat with rfl | ⟨g', rfl, hg'⟩
      ·exact .inl hz
      ·simp [blk] at hz; subst hz; exact .inr ⟨Nat.le_trans (Nat.le_of_eq hlo) (Nat.le_trans hR.size hg'), fun hm => by have := PU.lt hy _ hm; omega⟩
     apply rgd_ev
     ·intro a w hR hC hf; obtain ⟨e1, -⟩ := hf; replace e1 : a.tmps.getD 1 undef = _ := e1; refine rg_plain rfl fun K hK => ?_; go_simp; exact hK _ _ rfl ⟨hRr _, Only.refl _ _, fun _ _ _ _ h => h⟩
     refine ⟨CpZ luCells 68 5 (PU x lo) (fun y => blk y.q) lo B (blk c.pu) c.us.length c.us w0.heap.size 63 (fun v => [.string (str c.name), .int .i64 c.time, .int .i64 c.days, .slice c.po c.os.length c.co, v]), stands_of (CpZ.stable PU.st) (two_dirt (Z := fun y => Stable (Only y.2) (CpZ luCells 68 5 (PU x lo) (fun y => blk y.q) lo B (blk c.pu) c.us.length c.us w0.heap.size 63 (fun v => [.string (str c.name), .int .i64 c.time, .int .i64 c.days, .slice c.po c.os.length c.co, v]))) (fun h => Bool.noConfusion (h.symm.trans (by kernel_rfl : _ = true))) (fun h => by simp at h)), fun a w hR hC hf => ?_, ?_⟩
     ·obtain ⟨e41, e40, -⟩ := hf; replace e41 : a.tmps.getD 41 undef = _ := e41; replace e40 : CpA luCells 68 5 (PU x lo) (fun y => blk y.q) lo B (blk c.pu) c.us.length c.us (a.tmps.getD 40 undef) w := e40; refine rg_plain rfl fun K hK => ?_; have hC7 := (hC 7 (by simp) (by kernel_rfl)).2 rfl; obtain ⟨y, p', k', e40, hy, oA, hb⟩ := e40; have h7c := hC7.cell (i := 4) rfl; have h7f := hC7.free 4; go_simp; have hst : Only [w0.heap.size] w (w.setCell ⟨w0.heap.size, 4, none⟩ (.slice p' (c.us.length + 1) k')) := Only.setCell w ⟨w0.heap.size, 4, none⟩ _; refine hK undef _ ⟨y, p', k', PU.st _ _ _ _ hy hst hlt7, oA.onlyB hst (fun z hz hm => ?_), hb, hC7.setCell 4 _⟩ ⟨hst.mono (by simp), hst, ?_⟩
      ·obtain rfl := List.mem_singleton.1 hm
       rcases hb _ hz with h | h
       ·exact hXp h
       ·have := hlt7 w0.heap.size (by simp); omega
      ·intro i hi hne ha _; simp only [List.mem_cons, List.not_mem_nil, or_false] at hi
       rcases hi with rfl | rfl
       ·exact Bool.noConfusion (ha.symm.trans (by kernel_rfl : _ = true))
       ·exact absurd rfl hne
     intro fR11 wR11 hRR11 hf hzR11; dsimp only [mergeT]; obtain ⟨v7, y, p', k', hy, oA, hb, hrw⟩ := hzR11 _ (List.mem_cons_self ..); rw [hBe] at oA; rw [hlo] at hy hb; have HIn := Lib.hid (HI.out.pushU hRR11 hy.2 oA hb hrw); have Hyx := Lib.hid hy.1; clear hRr hRt hRd hC0 hzR11 hy oA hb hrw hRR11 hlt5 hlt7 hXp; go_wp2_with fail; refine ⟨⟨i + 1, by go_num, by omega, Lib.hid ⟨_, HIn.out, HE.out.1, HE.out.2.1, HE.out.2.2.1, HE.out.2.2.2.1, ?_⟩⟩, ?_⟩
     ·rw [Htk.out, List.map_append, HE.out.2.2.2.2, List.map_singleton, Hyx.out]
     ·show nu - ((i : Int) + 1).toNat < nu - ((i : Int)).toNat; omega
    ·obtain rfl : i = nu := (by omega); obtain ⟨c, hI, e1, e2, e3, e4, e5⟩ := HC.out; rw [List.take_of_length_le (by rw [Hnu.out]; exact Nat.le_refl _)] at e5; have x0 := hI.rx.cell (i := 0) rfl; have x1 := hI.rx.cell (i := 1) rfl; have x2 := hI.rx.cell (i := 2) rfl; have x3 := hI.rx.cell (i := 3) rfl; have x4 := hI.rx.cell (i := 4) rfl; have hst := hI.rr.storeAt (P := Try.prog) (ty := 63) (us := lbCells c) lbInfo rfl (by intro u hu; exact lbCells_one c u hu); have Hrow := Lib.hid (hI.rr.setRow (lbCells c)); have oS := Only.setRow wr (w0.heap.size + 1) (lbCells c).toArray; have HOf := Lib.hid (hI.only.transN oS (by simp))
     have Hown : Hid (BkOwn (wr.setRow (w0.heap.size + 1) (lbCells c).toArray) w0.heap.size c) := Lib.hid ((hI.own.only oS (fun z hz hm => by have h1 := (hI.own.lo z hz).1; have h2 := List.mem_singleton.1 hm; omega)).weaken (by omega)); have Hcb : Hid (c.b = b.b) := Lib.hid (by unfold LBk.b; rw [e1, e2, e3, e4, e5]); have Hst := Lib.hid hst; clear hI hst oS HC e1 e2 e3 e4 e5
     go_wp2_with (first | ((with_reducible show wpList _ _ _ _ _ _); refine wpl_store (ty := 63) (x := .tmp 2) (y := .tmp 43) rfl rfl rfl rfl Hst.out ?_))
     exact bodyPost_ret (results_c1 rfl _ _ _ rfl Hrow.out Try.underlying63 lbInfo) rfl ⟨c, rfl, Hcb.out, Hown.out, HOf.out⟩
structure CcI (w0 : World) (X : Nat) (c : LCat) (w : World) : Prop where
 rx : Row w X 27 (lcCells c)
 rr : Row w (w0.heap.size + 1) 27 [.slice none 0 0, .slice none 0 0]
 own : CatOwn w (w0.heap.size + 1 + 1) c
 nx : X ∉ c.fp
 only : Only [] w0 w
theorem CcI.step {w0 w w' : World} {X : Nat} {c : LCat} (h : CcI w0 X c w) (ho : Only [] w w') : CcI w0 X c w' := ⟨h.rx.only0 ho, h.rr.only0 ho, h.own.only0 ho, h.nx, h.only.trans0 ho⟩
theorem CcI.push {w0 wt w' : World} {X : Nat} {c : LCat} (h : CcI w0 X c wt) (hX : w0.heap.size + 1 < X) {y : LBk} {p : Option Addr} {k : Nat} (hR : Only (X :: blk c.pb) wt w') (hy : BkOwn w' wt.heap.size y) (hown : OwnK w' (w0.heap.size + 1 + 1) 63 5 (.slice p (c.bs.length + 1) k) (c.bs.length + 1) ((c.bs ++ [y]).flatMap lbCells)) (hb : ∀ z ∈ blk p, z ∈ blk c.pb ∨ (wt.heap.size ≤ z ∧ z ∉ y.fp))
  (hr : Row w' X 27 [.slice p (c.bs.length + 1) k, .slice c.pf c.fs.length c.cf]) : CcI w0 X { c with bs := c.bs ++ [y], pb := p, cb := k } w' := by
 have hlen : (c.bs ++ [y]).length = c.bs.length + 1 := (by simp); have hlo := h.own.lo; have hnx := h.nx; have hXl := h.rx.lt
 have hfp : ∀ z, z ∈ c.fp → z ∉ blk c.pb → z ∉ X :: blk c.pb := fun z hz h1 hm => by
  rcases List.mem_cons.1 hm with rfl | hm
  ·exact hnx hz
  ·exact h1 hm
 have hnd := h.own.nd; unfold LCat.fp at hnd hfp hnx; obtain ⟨n1, n2, n3⟩ := List.nodup_append.1 hnd; refine ⟨by unfold lcCells; rw [hlen]; exact hr, h.rr.only hR (fun hm => ?_), ⟨by rw [hlen]; exact hown, h.own.sf.onlyB hR (fun z hz => hfp z (by simp [hz]) (fun hm => n3 z hm z (by simp [hz]) rfl)), fun b hb' => ?_, ?_⟩, ?_, h.only.transN hR (fun t ht => ?_)⟩
 ·rcases List.mem_cons.1 hm with e | hm
  ·omega
  ·have := (ownIn h.own.sb _ hm).1; omega
 ·rcases List.mem_append.1 hb' with hb' | hb'
  ·exact (h.own.bk b hb').only hR (fun z hz => hfp z (by simp only [List.mem_append, List.mem_flatMap]; exact .inr (.inr ⟨b, hb', hz⟩)) (fun hm => n3 z hm z (by simp only [List.mem_append, List.mem_flatMap]; exact .inr ⟨b, hb', hz⟩) rfl))
  ·rw [List.mem_singleton.1 hb']; have := h.only.size; have h2 := h.rr.lt; exact hy.weaken (by omega)
 ·unfold LCat.fp; show (blk p ++ (blk c.pf ++ (c.bs ++ [y]).flatMap LBk.fp)).Nodup; rw [List.flatMap_append]; have := nd_push (lo := wt.heap.size) (q := y.fp) hnd (fun z hz => (hlo z (by unfold LCat.fp; exact hz)).2) hb (fun z hz => (hy.lo z hz).1) hy.nd
  simpa using this
 ·unfold LCat.fp; show X ∉ blk p ++ (blk c.pf ++ (c.bs ++ [y]).flatMap LBk.fp); rw [List.flatMap_append]; intro hm
  rcases List.mem_append.1 hm with hm | hm
  ·rcases hb _ hm with h | h
   ·exact hnx (by simp [h])
   ·omega
  rcases List.mem_append.1 hm with hm | hm
  ·exact hnx (by simp [hm])
  rcases List.mem_append.1 hm with hm | hm
  ·exact hnx (by simp only [List.mem_append]; exact .inr (.inr hm))
  ·have hm' : X ∈ y.fp := (by simpa using hm); have := (hy.lo _ hm').1; omega
 ·rcases List.mem_cons.1 ht with rfl | ht
  ·omega
  ·have := (ownIn h.own.sb _ ht).1; omega
structure Small (L : LCat) : Prop where
 b : L.bs.length ≤ 100000
 f : L.fs.length ≤ 100000
 o : ∀ b ∈ L.bs, b.os.length ≤ 100000 ∧ b.us.length ≤ 100000 ∧ (∀ x ∈ b.os, x.o.pcs.length ≤ 100000) ∧ ∀ x ∈ b.us, x.u.parts.length ≤ 100000
theorem lcInfo : (Try.prog.info? 27).map (·.size) = some 2 := by kernel_rfl
theorem lcCells_one (c : LCat) : ∀ u ∈ lcCells c, u.oneCell' = true := by intro u hu; simp only [lcCells, List.mem_cons, List.not_mem_nil, or_false] at hu; rcases hu with rfl | rfl <;> rfl
set_option maxHeartbeats 16000000 in
theorem copied_any (L : LCat) (w0 : World) (hA : CatAt w0 L) (hs : Small L) :
  Calls Try.prog 29 #[lcV L] w0 fun e w' => ∃ c : LCat, e = .returned (lcV c) ∧ c.cat = L.cat ∧ CatOwn w' w0.heap.size c ∧ Only [] w0 w' := by
 obtain ⟨n, hn⟩ : ∃ n, L.bs.length = n := ⟨_, rfl⟩; obtain ⟨nf, hnf⟩ : ∃ nf, L.fs.length = nf := ⟨_, rfl⟩; obtain ⟨w1, hw1⟩ : ∃ w1, w1 = w0.alloc (.cells #[.slice L.pb n L.cb, .slice L.pf nf L.cf] 27) := ⟨_, rfl⟩; obtain ⟨w2, hw2⟩ : ∃ w2, w2 = w1.alloc (.cells #[.slice none 0 0, .slice none 0 0] 27) := ⟨_, rfl⟩; have o1 : Only [] w0 w1 := (by rw [hw1]; exact Only.alloc _ _); have o2 : Only [] w1 w2 := (by rw [hw2]; exact Only.alloc _ _); have s1 : w1.heap.size = w0.heap.size + 1 := (by rw [hw1]; simp); have s2 : w2.heap.size = w0.heap.size + 1 + 1 := (by rw [hw2]; simp [s1]); have r1 : Row w2 w0.heap.size 27 [.slice L.pb n L.cb, .slice L.pf nf L.cf] := (show Row w1 w0.heap.size 27 [.slice L.pb n L.cb, .slice L.pf nf L.cf] by rw [hw1]; exact Row.newOf _ _ _ _ rfl).only0 o2
 have r2 : Row w2 (w0.heap.size + 1) 27 [.slice none 0 0, .slice none 0 0] := (by rw [← s1, hw2]; exact Row.newOf _ _ _ _ rfl); have hn5 : n ≤ 100000 := (by have := hs.b; omega); have hcl := cloneId_any L.pf L.fs nf L.cf w2 hnf (by have := hs.f; omega) (by have := hA.sf; rw [hnf] at this; exact this.only0 (o1.trans0 o2)); have c1 := r1.cell (i := 1) rfl; have HA := Lib.hid hA; have HO := Lib.hid (o1.trans0 o2); have HR1 := Lib.hid r1; have HR2 := Lib.hid r2; have Hw1 := Lib.hid hw1; have Hw2 := Lib.hid hw2; have Hs2 := Lib.hid s2; have Hn := Lib.hid hn; have Hnf := Lib.hid hnf; have HS := Lib.hid hs
 unfold lcV; rw [hn, hnf]; clear o1 o2 s1 s2 r1 r2 hw1 hw2 hA hn hnf hs
 go_enter Try.func29, Try.ntmps29
 go_upto_region 1 with (fail)
 rw [← Hw1.out, ← Hw2.out]; clear Hw1 Hw2; go_wp2_with fail; refine hcl.mono ?_; clear hcl c1; rintro e w3 ⟨qf, cf, rfl, ownf, o3⟩; obtain ⟨w4, hw4⟩ : ∃ w4, w4 = w3.alloc (.cells #[.slice none 0 0, .slice qf nf cf] 27) := ⟨_, rfl⟩; have o4 : Only [] w3 w4 := (by rw [hw4]; exact Only.alloc _ _); have r4 : Row w4 w3.heap.size 27 [.slice none 0 0, .slice qf nf cf] := by rw [hw4]; exact Row.newOf _ _ _ _ rfl
 have hI0 : CcI w0 w3.heap.size ⟨[], none, 0, L.fs, qf, cf⟩ w4 := by
  refine ⟨by unfold lcCells; rw [Hnf.out]; exact r4, (HR2.out.only0 o3).only0 o4, ⟨OwnK.nil _ _ _ _, ?_, by simp, ?_⟩, ?_, (HO.out.trans0 o3).trans0 o4⟩
  ·show OwnK w4 (w0.heap.size + 1 + 1) 31 3 (.slice qf L.fs.length cf) L.fs.length (L.fs.flatMap idCells); rw [Hnf.out, ← Hs2.out]; exact ownf.only0 o4
  ·unfold LCat.fp; have := blk_nodup qf
   simpa [blk] using this
  ·unfold LCat.fp; intro hm; have hm' : w3.heap.size ∈ blk qf := (by simpa [blk] using hm); have := (ownIn ownf _ hm').2; omega
 have hq := HR1.out.only0 (o3.trans0 o4); have c0 := hq.cell (i := 0) rfl; have HI0 := Lib.hid hI0; have HX3 : Hid (w0.heap.size + 1 < w3.heap.size) := Lib.hid (HR2.out.only0 o3).lt; have Hw4 := Lib.hid hw4; clear ownf o3 o4 r4 hI0 hq hw4
 go_upto_region 2 with (fail)
 rw [← Hw4.out]; clear Hw4; go_wp2_with fail; clear c0
 go_loopw [13] (fun s13 wr => ∃ i : Nat, s13 = .int .i64 (i : Int) ∧ i ≤ n ∧ Hid (∃ c : LCat, CcI w0 w3.heap.size c wr ∧ c.fs = L.fs ∧ c.bs.map LBk.b = (L.bs.take i).map LBk.b)) (fun s13 _ => n - (intOf s13).toNat)
 case atStart => exact ⟨0, rfl, Nat.zero_le _, Lib.hid ⟨_, HI0.out, rfl, rfl⟩⟩
 case round =>
  clear HI0; obtain ⟨i, rfl, hi, HC⟩ := hrel
  by_cases hlt : i < n
  ·obtain ⟨c, hI, e1, e2⟩ := HC.out; obtain ⟨x, hxx⟩ : ∃ x, L.bs[i]? = some x := ⟨_, List.getElem?_eq_getElem (by rw [Hn.out]; exact hlt)⟩; have hrd := HA.out.sb.1.only0 hI.only; have hne : L.bs.flatMap lbCells ≠ [] := fun e' => (by have := flat_get lbCells 5 lbCells_len L.bs i x 0 hxx (by omega); rw [e'] at this; cases this); obtain ⟨bo, off, hpo, -⟩ := hrd.lt hne; rw [hpo] at hrd; have x0 := rd_elem lbCells_len hrd hxx (r := 0) rfl; have x1 := rd_elem lbCells_len hrd hxx (r := 1) rfl; have x2 := rd_elem lbCells_len hrd hxx (r := 2) rfl; have x3 := rd_elem lbCells_len hrd hxx (r := 3) rfl; have x4 := rd_elem lbCells_len hrd hxx (r := 4) rfl
   rw [Addr.add_lit, ← Nat.add_assoc] at x0 x1 x2 x3 x4; rw [Nat.add_zero] at x0; obtain ⟨wt, hwt⟩ : ∃ wt, wt = wr.alloc (.cells #[.string (str x.name), .int .i64 x.time, .int .i64 x.days, .slice x.po x.os.length x.co, .slice x.pu x.us.length x.cu] 63) := ⟨_, rfl⟩; have ot : Only [] wr wt := (by rw [hwt]; exact Only.alloc _ _); have rt : Row wt wr.heap.size 63 (lbCells x) := (by rw [hwt]; exact Row.newOf _ _ _ _ rfl); have HI := Lib.hid (hI.step ot); have Z0 := Lib.hid (rt.cell (i := 0) rfl); have Z1 := Lib.hid (rt.cell (i := 1) rfl); have Z2 := Lib.hid (rt.cell (i := 2) rfl); have Z3 := Lib.hid (rt.cell (i := 3) rfl)
   have Z4 := Lib.hid (rt.cell (i := 4) rfl); have Hxm := Lib.hid (List.mem_of_getElem? hxx); have Htk : Hid ((L.bs.take (i + 1)).map LBk.b = (L.bs.take i).map LBk.b ++ [x.b]) := Lib.hid (by rw [List.take_add_one, hxx, List.map_append]; rfl); have HE : Hid (c.fs = L.fs ∧ c.bs.map LBk.b = (L.bs.take i).map LBk.b) := Lib.hid ⟨e1, e2⟩
   have hnZ : wr.heap.size ∉ w3.heap.size :: blk c.pb := fun hm => by
    rcases List.mem_cons.1 hm with e | hm
    ·have := hI.rx.lt; omega
    ·have := (ownIn hI.own.sb _ hm).2; omega
   have Hwt := Lib.hid hwt; clear hI hrd hne hxx ot rt hwt HC e1 e2
   go_upto_region 5 with (fail)
   rw [← Hwt.out]; clear Hwt x0 x1 x2 x3 x4; obtain ⟨B, hBe⟩ : ∃ B, B = w0.heap.size + 1 + 1 := ⟨_, rfl⟩; obtain ⟨lo, hlo⟩ : ∃ lo, lo = wt.heap.size := ⟨_, rfl⟩; have HX : Hid (Row wt w3.heap.size 27 (lcCells c)) := Lib.hid HI.out.rx; have Hown : Hid (OwnK wt B 63 5 (.slice c.pb c.bs.length c.cb) c.bs.length (c.bs.flatMap lbCells)) := Lib.hid (by rw [hBe]; exact HI.out.own.sb)
   have Hnb : Hid (c.bs.length ≤ 100000) := Lib.hid (by
    have h := congrArg List.length HE.out.2; rw [List.length_map, List.length_map, List.length_take] at h
    omega)
   have HB : Hid (B ≤ wt.heap.size) := Lib.hid (by rw [hBe]; have := HI.out.rr.lt; omega); have hlt5 : ∀ s ∈ blk c.pb, s < lo := fun s hs => (by rw [hlo]; exact (ownIn Hown.out s hs).2); have hlt7 : ∀ s ∈ [w3.heap.size], s < lo := fun s hs => (by rw [List.mem_singleton.1 hs, hlo]; exact HX.out.lt); have hXp : w3.heap.size ∉ blk c.pb := fun hm => HI.out.nx (by unfold LCat.fp; simp [hm])
   have HC : Hid (∀ w, Only (w3.heap.size :: blk c.pb) wt w → Calls Try.prog 44 #[lbV x] w fun e w' => ∃ y, e = .returned (lbV y) ∧ PB x w.heap.size y w' ∧ Only [] w w') := Lib.hid (fun w ho => by
    have h0 : Only [] w0 w := HI.out.only.transN ho (fun t ht => by
     rcases List.mem_cons.1 ht with rfl | ht
     ·have := HX3.out; omega
     ·have := (ownIn Hown.out _ ht).1; rw [hBe] at this; omega)
    obtain ⟨h5, h6, h7, h8⟩ := HS.out.o x Hxm.out; refine (copyBucket_any x w ((HA.out.bk x Hxm.out).only0 h0) h5 h6 h7 h8).mono ?_; rintro e w' ⟨y, rfl, h9, h10, h11⟩
    exact ⟨y, rfl, ⟨h9, h10⟩, h11⟩)
   have Hlo := Lib.hid hlo; have hRr : ∀ a, Only (w3.heap.size :: blk c.pb) a a := fun a => Only.refl _ _; have hRt : ∀ a b e, Only (w3.heap.size :: blk c.pb) a b → Only (w3.heap.size :: blk c.pb) b e → Only (w3.heap.size :: blk c.pb) a e := fun a b e h h2 => h.trans h2 (fun i hi _ => hi); have hRd : Only (w3.heap.size :: blk c.pb) wt wt.drew := (Only.drew _).mono (by simp); have hC0 : ∀ i ∈ [5, 7], (fun (i : Nat) (a : World) => (i = 5 → Only [] wt a) ∧ (i = 7 → Row a w3.heap.size 27 (lcCells c))) i wt.drew := fun _ _ => ⟨fun _ => Only.drew _, fun _ => HX.out.only0 (Only.drew _)⟩; refine wp_region_rg4 (Only (w3.heap.size :: blk c.pb)) (Dirt [(5, blk c.pb), (7, [w3.heap.size])]) (fun (i : Nat) (a : World) => (i = 5 → Only [] wt a) ∧ (i = 7 → Row a w3.heap.size 27 (lcCells c))) [5, 7] [[(3, none)], [(17, some 0)], [(5, none)], [(19, some 0)], [(20, some 0)], [(18, some 3), (21, some 0)], [(3, none)], [(23, some 0), (22, some 1)]] [] [none, none, none, none, none, none, none, none, none, none, none, none, none, none, none, none, none, some 17, some 18, some 19, some 20, some 21, some 22, some 23, none, none] (by kernel_rfl) rfl (by kernel_rfl) hRr hRt (fun _ _ => Only.refl _ _) hRd hC0 (by kernel_rfl) (by kernel_rfl) ?_
   apply rgd_ev
   ·intro a w hR hC hf; obtain ⟨e3, -⟩ := hf; replace e3 : a.tmps.getD 3 undef = _ := e3; refine rg_plain rfl fun K hK => ?_; go_simp; exact hK _ _ rfl ⟨hRr _, Only.refl _ _, fun _ _ _ _ h => h⟩
   apply rgd_ev
   ·intro a w hR hC hf; obtain ⟨e17, -⟩ := hf; replace e17 : a.tmps.getD 17 undef = _ := e17; refine rg_plain rfl fun K hK => ?_; have hC7 := (hC 7 (by simp) (by kernel_rfl)).2 rfl; have g := hC7.cell (i := 0) rfl; go_simp; exact hK _ _ rfl ⟨hRr _, Only.refl _ _, fun _ _ _ _ h => h⟩
   apply rgd_ev
   ·intro a w hR hC hf; obtain ⟨e5, -⟩ := hf; replace e5 : a.tmps.getD 5 undef = _ := e5; refine rg_plain rfl fun K hK => ?_; have g0 := hR.cell Z0.out hnZ; have g1 := hR.cell Z1.out hnZ; have g2 := hR.cell Z2.out hnZ; have g3 := hR.cell Z3.out hnZ; have g4 := hR.cell Z4.out hnZ; go_simp; exact hK _ _ rfl ⟨hRr _, Only.refl _ _, fun _ _ _ _ h => h⟩
   refine ⟨CpV lbV (PB x lo), stands_of (CpV.stable PB.st (by simp)) (two_dirt (Z := fun y => Stable (Only y.2) (CpV lbV (PB x lo))) (fun _ => CpV.stable PB.st hlt5) (fun _ => CpV.stable PB.st hlt7)), fun a w hR hC hf => ?_, ?_⟩
   ·obtain ⟨e19, -⟩ := hf; replace e19 : a.tmps.getD 19 undef = _ := e19; refine rg_plain rfl fun K hK => ?_; have hcy := HC.out w hR; unfold lbV at hcy; go_simp; (with_reducible refine hcy.mono ?_); rintro e w' ⟨y, rfl, hy, ho⟩; exact hK _ _ ⟨y, rfl, PB.weaken hy (Nat.le_trans (Nat.le_of_eq hlo) hR.size)⟩ ⟨ho.mono (by simp), ho, fun i _ _ _ hc => ⟨fun e => (hc.1 e).trans0 ho, fun e => (hc.2 e).only0 ho⟩⟩
   refine ⟨CpS lbCells 63 (PB x lo) lo, stands_of (CpS.stable PB.st (by simp)) (two_dirt (Z := fun y => Stable (Only y.2) (CpS lbCells 63 (PB x lo) lo)) (fun _ => CpS.stable PB.st hlt5) (fun _ => CpS.stable PB.st hlt7)), fun a w hR hC hf => ?_, ?_⟩
   ·obtain ⟨e20, -⟩ := hf; replace e20 : CpV lbV (PB x lo) (a.tmps.getD 20 undef) w := e20; refine rg_plain rfl fun K hK => ?_; obtain ⟨y, e20, hy⟩ := e20; unfold lbV at e20; have e20' := e20; rw [Array.getD_eq_getD_getElem?] at e20'; go_simp; refine hK _ _ ⟨y, w.heap.size, rfl, Nat.le_trans (Nat.le_of_eq hlo) hR.size, Row.newOf w _ _ _ (by rfl), PB.st _ _ _ _ hy (Only.alloc w _) (by simp)⟩ ⟨(Only.alloc w _).mono (by simp), Only.alloc w _, fun i _ _ _ hc => ⟨fun e => (hc.1 e).trans0 (Only.alloc w _), fun e => (hc.2 e).only0 (Only.alloc w _)⟩⟩
   refine ⟨CpA lbCells 63 5 (PB x lo) LBk.fp lo B (blk c.pb) c.bs.length c.bs, stands_of (CpA.stable PB.st (by simp) (by simp)) (two_dirt (Z := fun y => Stable (Only y.2) (CpA lbCells 63 5 (PB x lo) LBk.fp lo B (blk c.pb) c.bs.length c.bs)) (fun h => Bool.noConfusion (h.symm.trans (by kernel_rfl : _ = true))) (fun _ => CpA.stable PB.st hlt7 (by simpa using hXp))), fun a w hR hC hf => ?_, ?_⟩
   ·obtain ⟨e18, e21, -⟩ := hf; replace e18 : a.tmps.getD 18 undef = _ := e18; replace e21 : CpS lbCells 63 (PB x lo) lo (a.tmps.getD 21 undef) w := e21; refine rg_plain rfl fun K hK => ?_; obtain ⟨y, g, e21, hg, hrow, hy⟩ := e21; have hC5 := (hC 5 (by simp) (by kernel_rfl)).1 rfl; obtain ⟨p', k', w', hra, oA, hA⟩ := appendK (P := Try.prog) (bytes := 80) (c := 1) (q := some ⟨g, 0, none⟩) (n := c.bs.length) (m := 1) (news := lbCells y) (t := 25) (ty := 25) w Try.underlying25 Try.infoLB rfl (by omega) (Hown.out.only0 hC5) hrow.rd0 rfl (by simp) (lbCells_one y) (by have := Hnb.out; omega) (by have := Hnb.out; omega) (by have := hR.size; have := HB.out; omega)
    have hat := appendK_at (P := Try.prog) (bytes := 80) (c := 1) (q := some ⟨g, 0, none⟩) (n := c.bs.length) (m := 1) (news := lbCells y) (t := 25) (ty := 25) w Try.underlying25 Try.infoLB rfl (by omega) (Hown.out.only0 hC5) hrow.rd0 rfl (by simp) (lbCells_one y) (by have := Hnb.out; omega) (by have := Hnb.out; omega) hra; refine rg_append (s := .tmp 18) (x := .tmp 21) rfl e18 e21 hra ?_; refine hK _ _ ⟨y, p', k', rfl, PB.st _ _ _ _ hy hA hlt5, by rw [List.flatMap_append]; simpa using oA, fun z hz => ?_⟩ ⟨hA.mono (fun x hx => List.mem_cons_of_mem _ hx), hA, fun i _ hne _ hc => ⟨fun e => absurd e hne, fun e => (hc.2 e).only hA hXp⟩⟩
    rcases hat with rfl | ⟨g', rfl, hg'⟩
    ·exact .inl hz
    ·simp [blk] at hz; subst hz; exact .inr ⟨Nat.le_trans (Nat.le_of_eq hlo) (Nat.le_trans hR.size hg'), fun hm => by have := PB.lt hy _ hm; omega⟩
   apply rgd_ev
   ·intro a w hR hC hf; obtain ⟨e3, -⟩ := hf; replace e3 : a.tmps.getD 3 undef = _ := e3; refine rg_plain rfl fun K hK => ?_; go_simp; exact hK _ _ rfl ⟨hRr _, Only.refl _ _, fun _ _ _ _ h => h⟩
   refine ⟨CpZ lbCells 63 5 (PB x lo) LBk.fp lo B (blk c.pb) c.bs.length c.bs w3.heap.size 27 (fun v => [v, .slice c.pf c.fs.length c.cf]), stands_of (CpZ.stable PB.st) (two_dirt (Z := fun y => Stable (Only y.2) (CpZ lbCells 63 5 (PB x lo) LBk.fp lo B (blk c.pb) c.bs.length c.bs w3.heap.size 27 (fun v => [v, .slice c.pf c.fs.length c.cf]))) (fun h => Bool.noConfusion (h.symm.trans (by kernel_rfl : _ = true))) (fun h => by simp at h)), fun a w hR hC hf => ?_, ?_⟩
   ·obtain ⟨e23, e22, -⟩ := hf; replace e23 : a.tmps.getD 23 undef = _ := e23; replace e22 : CpA lbCells 63 5 (PB x lo) LBk.fp lo B (blk c.pb) c.bs.length c.bs (a.tmps.getD 22 undef) w := e22; refine rg_plain rfl fun K hK => ?_; have hC7 := (hC 7 (by simp) (by kernel_rfl)).2 rfl; obtain ⟨y, p', k', e22, hy, oA, hb⟩ := e22; have h7c := hC7.cell (i := 0) rfl; have h7f := hC7.free 0; go_simp; have hst : Only [w3.heap.size] w (w.setCell ⟨w3.heap.size, 0, none⟩ (.slice p' (c.bs.length + 1) k')) := Only.setCell w ⟨w3.heap.size, 0, none⟩ _; refine hK undef _ ⟨y, p', k', PB.st _ _ _ _ hy hst hlt7, oA.onlyB hst (fun z hz hm => ?_), hb, hC7.setCell 0 _⟩ ⟨hst.mono (by simp), hst, ?_⟩
    ·obtain rfl := List.mem_singleton.1 hm
     rcases hb _ hz with h | h
     ·exact hXp h
     ·have := hlt7 w3.heap.size (by simp); omega
    ·intro i hi hne ha _; simp only [List.mem_cons, List.not_mem_nil, or_false] at hi
     rcases hi with rfl | rfl
     ·exact Bool.noConfusion (ha.symm.trans (by kernel_rfl : _ = true))
     ·exact absurd rfl hne
   intro fR5 wR5 hRR5 hf hzR5; dsimp only [mergeT]; obtain ⟨v7, y, p', k', hy, oA, hb, hrw⟩ := hzR5 _ (List.mem_cons_self ..); rw [hBe] at oA; rw [hlo] at hy hb; have HIn := Lib.hid (HI.out.push HX3.out hRR5 hy.2 oA hb hrw); have Hyx := Lib.hid hy.1; clear hRr hRt hRd hC0 hzR5 hy oA hb hrw hRR5 hlt5 hlt7 hXp; go_wp2_with fail; refine ⟨⟨i + 1, by go_num, by omega, Lib.hid ⟨_, HIn.out, HE.out.1, ?_⟩⟩, ?_⟩
   ·rw [Htk.out, List.map_append, HE.out.2, List.map_singleton, Hyx.out]
   ·show n - ((i : Int) + 1).toNat < n - ((i : Int)).toNat; omega
  ·obtain rfl : i = n := (by omega); obtain ⟨c, hI, e1, e2⟩ := HC.out; rw [List.take_of_length_le (by rw [Hn.out]; exact Nat.le_refl _)] at e2; have x0 := hI.rx.cell (i := 0) rfl; have x1 := hI.rx.cell (i := 1) rfl; have hst := hI.rr.storeAt (P := Try.prog) (ty := 27) (us := lcCells c) lcInfo rfl (by intro u hu; exact lcCells_one c u hu); have Hrow := Lib.hid (hI.rr.setRow (lcCells c)); have oS := Only.setRow wr (w0.heap.size + 1) (lcCells c).toArray; have HOf := Lib.hid (hI.only.transN oS (by simp)); have Hown : Hid (CatOwn (wr.setRow (w0.heap.size + 1) (lcCells c).toArray) w0.heap.size c) := Lib.hid ((hI.own.only oS (fun z hz hm => by have h1 := (hI.own.lo z hz).1; have h2 := List.mem_singleton.1 hm; omega)).weaken (by omega))
   have Hcb : Hid (c.cat = L.cat) := Lib.hid (by unfold LCat.cat; rw [e1, e2]); have Hst := Lib.hid hst; clear hI hst oS HC e1 e2
   go_wp2_with (first | ((with_reducible show wpList _ _ _ _ _ _); refine wpl_store (ty := 27) (x := .tmp 2) (y := .tmp 25) rfl rfl rfl rfl Hst.out ?_))
   exact bodyPost_ret (results_c1 rfl _ _ _ rfl Hrow.out Try.underlying27 lcInfo) rfl ⟨c, rfl, Hcb.out, Hown.out, HOf.out⟩
end Go.Proofs.Ytfeglnpmpgipiaa
end
section
set_option linter.unusedVariables false
set_option maxRecDepth 100000
namespace Go.Proofs.Ytfeglnpmpgipiaa
open Go.RowKit
def ziCells (xs : List Int) : List Value := xs.map fun x => .int .i64 x
structure LCmd where
 x : Cmd
 p : Option Addr
 c : Nat
def lmCells (m : LCmd) : List Value := [.int .i64 m.x.kind, .int .i64 m.x.id.node, .int .i64 m.x.id.boot, .int .i64 m.x.id.seq, .string (str m.x.bucket), .string (str m.x.key), .int .i64 m.x.upload.node, .int .i64 m.x.upload.boot, .int .i64 m.x.upload.seq, .int .i64 m.x.piece.blob.node, .int .i64 m.x.piece.blob.boot, .int .i64 m.x.piece.blob.seq, .int .i64 m.x.piece.size, .string (str m.x.piece.etag), .int .i64 m.x.part, .slice m.p m.x.parts.length m.c, .int .i64 m.x.time, .int .i64 m.x.days]
def lmV (m : LCmd) : Value := .agg #[.int .i64 m.x.kind, .int .i64 m.x.id.node, .int .i64 m.x.id.boot, .int .i64 m.x.id.seq, .string (str m.x.bucket), .string (str m.x.key), .int .i64 m.x.upload.node, .int .i64 m.x.upload.boot, .int .i64 m.x.upload.seq, .int .i64 m.x.piece.blob.node, .int .i64 m.x.piece.blob.boot, .int .i64 m.x.piece.blob.seq, .int .i64 m.x.piece.size, .string (str m.x.piece.etag), .int .i64 m.x.part, .slice m.p m.x.parts.length m.c, .int .i64 m.x.time, .int .i64 m.x.days]
theorem lmCells_len (m : LCmd) : (lmCells m).length = 18 := rfl
def CmAt (w : World) (m : LCmd) : Prop := SlOk w m.p m.x.parts.length m.c (ziCells m.x.parts)
theorem CmAt.only0 {w w' : World} {m : LCmd} (h : CmAt w m) (ho : Only [] w w') : CmAt w' m := SlOk.only0 h ho
def oucV (o : Outc) : Value := .agg #[.int .i64 o.code, .string (str o.etag)]
def oucCells (o : Outc) : List Value := [.int .i64 o.code, .string (str o.etag)]
theorem cmInfo : (Try.prog.info? 43).map (·.size) = some 18 := by kernel_rfl
theorem Row.loadSA {P : Program} {w : World} {g : Nat} {t ty : TypeId} {fs : Array Field} {vs : List Value} (r : Row w g t vs) (hu : P.underlying ty = some (.struct fs)) (hi : (P.info? ty).map (·.size) = some vs.length) : (Instr.loadAt ty (.pointer (some ⟨g, 0, none⟩))).run P w = .ok (.agg vs.toArray) w := by
 simp only [Instr.loadAt, Instr.sureAddr, Sem.run_bind, Sem.run_pure, Result.andThen]; exact run_loadVar_row w g t ty vs.toArray (0, 0) _ r hu rfl (by simpa using hi)
theorem oucInfo : (Try.prog.info? 46).map (·.size) = some 2 := by kernel_rfl
theorem ziCells_get {xs : List Int} {i : Nat} {x : Int} (h : xs[i]? = some x) : (ziCells xs)[i]? = some (.int .i64 x) := by simp [ziCells, h]
def Ty (w : World) (z : Nat) (t : TypeId) : Prop := ∃ cs, w.heap[z]? = some (.cells cs t (0, 0))
theorem Ty.lt {w : World} {z : Nat} {t : TypeId} (h : Ty w z t) : z < w.heap.size := by obtain ⟨cs, h⟩ := h; exact (Array.getElem?_eq_some_iff.1 h).1
theorem Ty.only {S : List Nat} {w w' : World} {z : Nat} {t : TypeId} (h : Ty w z t) (ho : Only S w w') (hz : z ∉ S) : Ty w' z t := by
 obtain ⟨cs, hc⟩ := h; exact ⟨cs, (ho.block z (Array.getElem?_eq_some_iff.1 hc).1 hz).trans hc⟩
theorem Ty.back {S : List Nat} {w w' : World} {z : Nat} {t : TypeId} (h : Ty w' z t) (ho : Only S w w') (hz : z ∉ S) (hl : z < w.heap.size) : Ty w z t := by
 obtain ⟨cs, hc⟩ := h; exact ⟨cs, (ho.block z hl hz).symm.trans hc⟩
theorem Ty.uniq {w : World} {z : Nat} {t u : TypeId} (h : Ty w z t) (k : Ty w z u) : t = u := by
 obtain ⟨cs, hc⟩ := h; obtain ⟨ds, hd⟩ := k; rw [hc] at hd
 cases hd; rfl
theorem Ty.row {w : World} {z : Nat} {t : TypeId} {vs : List Value} (h : Row w z t vs) : Ty w z t := ⟨_, h⟩
theorem OwnK.ty {w : World} {base K n m c : Nat} {e : TypeId} {q : Option Addr} {vs : List Value} (h : OwnK w base e K (.slice q m c) n vs) : ∀ z ∈ blk q, Ty w z e := by
 intro z hz
 rcases h.2 with ⟨e1, -⟩ | ⟨g, cap, cur, e1, hg, hh, -⟩
 ·cases e1; simp [blk] at hz
 ·cases e1
  simp [blk] at hz; subst hz
  exact ⟨cur, hh⟩
def BoxTy (t : TypeId) : Prop := t = 63 ∨ t = 46
def BkFrom (w0 : World) (b b' : LBk) (w : World) : Prop := ∀ (S : List Nat) (w2 : World), Only S w w2 → (∀ z ∈ S, z < w0.heap.size ∨ ∃ t, BoxTy t ∧ Ty w z t) → BkAt w2 b → BkAt w2 b'
theorem BkFrom.refl (w0 : World) (b : LBk) (w : World) : BkFrom w0 b b w := fun _ _ _ _ h => h
theorem BkFrom.at {w0 w : World} {b b' : LBk} (h : BkFrom w0 b b' w) (hb : BkAt w b) : BkAt w b' := h [] w (Only.refl _ _) (by simp) hb
theorem BkFrom.step {w0 w w1 : World} {b b' : LBk} {S : List Nat} (h : BkFrom w0 b b' w) (ho : Only S w w1) (hS : ∀ z ∈ S, z < w0.heap.size ∨ ∃ t, BoxTy t ∧ Ty w z t) : BkFrom w0 b b' w1 := fun T w2 hT hz hb =>
 h (S ++ T.filter fun z => decide (z < w.heap.size ∧ z ∉ S)) w2 ((ho.mono (fun k hk => List.mem_append_left _ hk)).trans hT (fun z hz1 hl => by
  by_cases hs : z ∈ S
  ·exact List.mem_append_left _ hs
  ·exact List.mem_append_right _ (List.mem_filter.2 ⟨hz1, by simp [hl, hs]⟩))) (fun z hz1 => by
  rcases List.mem_append.1 hz1 with h1 | h1
  ·exact hS z h1
  ·obtain ⟨h2, h3⟩ := List.mem_filter.1 h1; have h4 : z < w.heap.size ∧ z ∉ S := by simpa using h3
   rcases hz z h2 with h5 | ⟨t, h5, h6⟩
   ·exact .inl h5
   ·exact .inr ⟨t, h5, h6.back ho h4.2 h4.1⟩) hb
theorem BkFrom.weaken {w0 w1 w : World} {b b' : LBk} (h : BkFrom w1 b b' w) (hl : w0.heap.size ≤ w1.heap.size) : BkFrom w0 b b' w := fun S w2 hS hz hb => h S w2 hS (fun z h1 => (hz z h1).imp (fun h2 => Nat.lt_of_lt_of_le h2 hl) id) hb
def TSl (w : World) (e : TypeId) (q : Option Addr) (n c : Nat) (vs : List Value) : Prop := SlOk w q n c vs ∧ ∀ z ∈ blk q, Ty w z e
theorem TSl.own {w : World} {base K n c : Nat} {e : TypeId} {p : Option Addr} {vs : List Value} (h : OwnK w base e K (.slice p n c) n vs) : TSl w e p n c vs := ⟨.own h, h.ty⟩
theorem TSl.only {S : List Nat} {w w' : World} {e : TypeId} {q : Option Addr} {n c : Nat} {vs : List Value} (h : TSl w e q n c vs) (ho : Only S w w') (hq : ∀ x ∈ blk q, x ∉ S) : TSl w' e q n c vs := ⟨h.1.only ho hq, fun z hz => (h.2 z hz).only ho (hq z hz)⟩
theorem TSl.only0 {w w' : World} {e : TypeId} {q : Option Addr} {n c : Nat} {vs : List Value} (h : TSl w e q n c vs) (ho : Only [] w w') : TSl w' e q n c vs := h.only ho (by simp)
theorem TSl.from {w0 w w2 : World} {S : List Nat} {e : TypeId} {q : Option Addr} {n c : Nat} {vs : List Value} (h : TSl w e q n c vs) (hS : Only S w w2) (hz : ∀ z ∈ S, z < w0.heap.size ∨ ∃ t, BoxTy t ∧ Ty w z t) (he : ¬ BoxTy e) (hq : ∀ z ∈ blk q, w0.heap.size ≤ z) : SlOk w2 q n c vs :=
 h.1.only hS (fun z h1 h2 => (hz z h2).elim (fun h3 => Nat.lt_irrefl _ (Nat.lt_of_lt_of_le h3 (hq z h1))) (fun ⟨t, h3, h4⟩ => he (by rw [← h4.uniq (h.2 z h1)]; exact h3)))
theorem results_cc {P : Program} {fn : Func} {a b : Tmp} {ty t ty2 t2 : TypeId} {fs gs : Array Field} {vs us : List Value} (h : fn.results = #[.cell a ty, .cell b ty2]) (tmps : Array Value) (w : World) (g k : Nat) (ht : tmps.getD a undef = .pointer (some ⟨g, 0, none⟩)) (hk : tmps.getD b undef = .pointer (some ⟨k, 0, none⟩)) (r : Row w g t vs) (r2 : Row w k t2 us) (hu : P.underlying ty = some (.struct fs)) (hi : (P.info? ty).map (·.size) = some vs.length) (hu2 : P.underlying ty2 = some (.struct gs)) (hi2 : (P.info? ty2).map (·.size) = some us.length) :
  (results fn tmps).run P w = .ok (.tuple #[.agg vs.toArray, .agg us.toArray]) w := by
 rw [Array.getD_eq_getD_getElem?] at ht hk; have hl := r.loadS hu hi; have hl2 := r2.loadS hu2 hi2
 simp [results, h, ht, hk, hl, hl2, asAddr]
theorem Row.set5 {w : World} {g : Nat} {t : TypeId} {v0 v1 v2 v3 v4 : Value} (h : Row w g t [v0, v1, v2, v3, v4]) (u0 u1 u2 u3 u4 : Value) : Row (((((w.setCell ⟨g, 0, none⟩ u0).setCell ⟨g, 1, none⟩ u1).setCell ⟨g, 2, none⟩ u2).setCell ⟨g, 3, none⟩ u3).setCell ⟨g, 4, none⟩ u4) g t [u0, u1, u2, u3, u4] :=
 ((((h.setCell 0 u0).setCell 1 u1).setCell 2 u2).setCell 3 u3).setCell 4 u4
theorem only_set5 (w : World) (g : Nat) (u0 u1 u2 u3 u4 : Value) : Only [g] w (((((w.setCell ⟨g, 0, none⟩ u0).setCell ⟨g, 1, none⟩ u1).setCell ⟨g, 2, none⟩ u2).setCell ⟨g, 3, none⟩ u3).setCell ⟨g, 4, none⟩ u4) :=
 ((((Only.setCell w ⟨g, 0, none⟩ u0).trans (Only.setCell _ ⟨g, 1, none⟩ u1) (fun _ h _ => h)).trans (Only.setCell _ ⟨g, 2, none⟩ u2) (fun _ h _ => h)).trans (Only.setCell _ ⟨g, 3, none⟩ u3) (fun _ h _ => h)).trans (Only.setCell _ ⟨g, 4, none⟩ u4) (fun _ h _ => h)
theorem Row.set2 {w : World} {g : Nat} {t : TypeId} {v0 v1 : Value} (h : Row w g t [v0, v1]) (u0 u1 : Value) : Row ((w.setCell ⟨g, 0, none⟩ u0).setCell ⟨g, 1, none⟩ u1) g t [u0, u1] := (h.setCell 0 u0).setCell 1 u1
theorem only_set2 (w : World) (g : Nat) (u0 u1 : Value) : Only [g] w ((w.setCell ⟨g, 0, none⟩ u0).setCell ⟨g, 1, none⟩ u1) := (Only.setCell w ⟨g, 0, none⟩ u0).trans (Only.setCell _ ⟨g, 1, none⟩ u1) (fun _ h _ => h)
end Go.Proofs.Ytfeglnpmpgipiaa
end
section
set_option linter.unusedVariables false
set_option maxRecDepth 100000
namespace Go.Proofs.Ytfeglnpmpgipiaa
open Go.RowKit
set_option maxHeartbeats 8000000 in
theorem goodBucket10_any (s : Bs) (w0 : World) (hb : s.length ≤ 140737488355328) : Calls Try.prog 23 #[.string (str s)] w0 fun e w' => ∃ v, e = .returned (.bool v) ∧ (v = true → 3 ≤ s.length ∧ s.length ≤ 63) ∧ Only [] w0 w' := by
 obtain ⟨n, hn⟩ : ∃ n, s.length = n := ⟨_, rfl⟩; have hsz : (str s).size = n := (by rw [str_size, hn]); have Hn := Lib.hid hn; have Hat : Hid (∀ (j : Nat) x, s[j]? = some x → ∀ hh : j < (str s).size, (str s)[j]'hh = x) := Lib.hid fun j x h => str_at h; rw [hn] at hb ⊢; obtain ⟨S, hS⟩ : ∃ S, str s = S := ⟨_, rfl⟩; rw [hS] at hsz Hat ⊢; clear hn hS
 go_enter Try.func23, Try.ntmps23
 have hcase : ((3 : Int) ≤ (n : Int) ∧ (n : Int) ≤ 63) ∨ ¬ (3 : Int) ≤ (n : Int) ∨ ((3 : Int) ≤ (n : Int) ∧ ¬ (n : Int) ≤ 63) := by omega
 rcases hcase with ⟨h1, h2⟩ | h1 | ⟨h1, h2⟩
 all_goals
  go_wp2_with fail
  go_loopw [3, 4] (fun f a wl => ∃ (j : Nat) (b : Bool), f = .bool b ∧ a = .int .i64 (j : Int) ∧ j ≤ n ∧ Hid (b = true → 3 ≤ n ∧ n ≤ 63) ∧ Hid (Only [] w0 wl)) (fun _ a _ => n - (intOf a).toNat)
  case atStart => exact ⟨0, _, rfl, rfl, Nat.zero_le _, Lib.hid (by first | (intro h; cases h; done) | (intro _; omega)), Lib.hid (Only.refl _ _)⟩
  case round =>
   (try clear h2)
   clear h1; obtain ⟨j, b, rfl, rfl, hj, HC, HOl⟩ := hrel
   by_cases hlt : j < n
   ·obtain ⟨x, hx⟩ : ∃ x, s[j]? = some x := ⟨_, List.getElem?_eq_getElem (by rw [Hn.out]; exact hlt)⟩; have hix := Hat.out j x hx (by omega); have hxl := x.toNat_lt; clear hx
    cases b with
    | false =>
     go_wp2_with fail; exact ⟨⟨j + 1, false, rfl, by go_num, by omega, Lib.hid (by simp), HOl⟩, by simp [intOf]; omega⟩
    | true =>
     have HT : ∀ v : Bool, Hid (v = true → 3 ≤ n ∧ n ≤ 63) := fun v => Lib.hid (fun _ => HC.out rfl); have hpl := plain10_any x wr; go_wp2_with fail; (with_reducible refine hpl.mono ?_); clear hpl; rintro e wp ⟨rfl, op⟩; have HOw := Lib.hid (HOl.out.trans0 op); clear op; obtain ⟨pv, hpv⟩ : ∃ pv, decide (plainP x) = pv := ⟨_, rfl⟩; rw [hpv]; clear hpv
     cases pv with
     | true =>
      go_wp2_with fail; exact ⟨⟨j + 1, true, rfl, by go_num, by omega, HT true, HOw⟩, by simp [intOf]; omega⟩
     | false =>
      have hw1 : wrap64 ((n : Int) - 1) = (n : Int) - 1 := IntWalk.wrap64_in _ (by omega)
      by_cases g1 : (0 : Int) < (j : Int)
      ·by_cases g2 : (j : Int) < (n : Int) - 1
       ·by_cases g3 : (x.toNat : Int) = 45
        ·have e3 : ((x.toNat : Int) == 45) = true := beq_iff_eq.2 g3; go_wp2_with fail; exact ⟨⟨j + 1, true, rfl, by go_num, by omega, HT true, HOw⟩, by simp [intOf]; omega⟩
        ·have e3 : ((x.toNat : Int) == 45) = false := beq_eq_false_iff_ne.2 g3
         by_cases g4 : (x.toNat : Int) = 46
         ·have e4 : ((x.toNat : Int) == 46) = true := beq_iff_eq.2 g4; go_wp2_with fail; exact ⟨⟨j + 1, true, rfl, by go_num, by omega, HT true, HOw⟩, by simp [intOf]; omega⟩
         ·have e4 : ((x.toNat : Int) == 46) = false := beq_eq_false_iff_ne.2 g4; go_wp2_with fail; exact ⟨⟨j + 1, false, rfl, by go_num, by omega, HT false, HOw⟩, by simp [intOf]; omega⟩
       ·skip
        go_wp2_with fail; exact ⟨⟨j + 1, false, rfl, by go_num, by omega, HT false, HOw⟩, by simp [intOf]; omega⟩
      ·skip
       go_wp2_with fail; exact ⟨⟨j + 1, false, rfl, by go_num, by omega, HT false, HOw⟩, by simp [intOf]; omega⟩
   ·obtain rfl : j = n := (by omega); go_wp2_with fail
    go_ret
    first | exact ⟨b, rfl, HC.out, HOl.out⟩ | exact ⟨HC.out, HOl.out⟩
end Go.Proofs.Ytfeglnpmpgipiaa
end
section
set_option linter.unusedVariables false
set_option maxRecDepth 100000
namespace Go.Proofs.Ytfeglnpmpgipiaa
open Go.RowKit
set_option maxHeartbeats 8000000 in
theorem goodKey10_any (s : Bs) (w0 : World) (hb : s.length ≤ 140737488355328) : Calls Try.prog 24 #[.string (str s)] w0 fun e w' => ∃ v, e = .returned (.bool v) ∧ (v = true → 1 ≤ s.length ∧ s.length ≤ 200) ∧ Only [] w0 w' := by
 obtain ⟨n, hn⟩ : ∃ n, s.length = n := ⟨_, rfl⟩; have hsz : (str s).size = n := (by rw [str_size, hn]); have Hn := Lib.hid hn; have Hat : Hid (∀ (j : Nat) x, s[j]? = some x → ∀ hh : j < (str s).size, (str s)[j]'hh = x) := Lib.hid fun j x h => str_at h; rw [hn] at hb ⊢; obtain ⟨S, hS⟩ : ∃ S, str s = S := ⟨_, rfl⟩; rw [hS] at hsz Hat ⊢; clear hn hS
 go_enter Try.func24, Try.ntmps24
 have hcase : ((1 : Int) ≤ (n : Int) ∧ (n : Int) ≤ 200) ∨ ¬ (1 : Int) ≤ (n : Int) ∨ ((1 : Int) ≤ (n : Int) ∧ ¬ (n : Int) ≤ 200) := by omega
 rcases hcase with ⟨h1, h2⟩ | h1 | ⟨h1, h2⟩
 all_goals
  go_wp2_with fail
  go_loopw [3, 4] (fun f a wl => ∃ (j : Nat) (b : Bool), f = .bool b ∧ a = .int .i64 (j : Int) ∧ j ≤ n ∧ Hid (b = true → 1 ≤ n ∧ n ≤ 200) ∧ Hid (Only [] w0 wl)) (fun _ a _ => n - (intOf a).toNat)
  case atStart => exact ⟨0, _, rfl, rfl, Nat.zero_le _, Lib.hid (by first | (intro h; cases h; done) | (intro _; omega)), Lib.hid (Only.refl _ _)⟩
  case round =>
   (try clear h2)
   clear h1; obtain ⟨j, b, rfl, rfl, hj, HC, HOl⟩ := hrel
   by_cases hlt : j < n
   ·obtain ⟨x, hx⟩ : ∃ x, s[j]? = some x := ⟨_, List.getElem?_eq_getElem (by rw [Hn.out]; exact hlt)⟩; have hix := Hat.out j x hx (by omega); have hxl := x.toNat_lt; clear hx
    cases b with
    | false =>
     go_wp2_with fail; exact ⟨⟨j + 1, false, rfl, by go_num, by omega, Lib.hid (by simp), HOl⟩, by simp [intOf]; omega⟩
    | true =>
     by_cases g1 : (32 : Int) ≤ (x.toNat : Int)
     ·by_cases g2 : (x.toNat : Int) ≤ 126
      ·skip
       go_wp2_with fail; exact ⟨⟨j + 1, true, rfl, by go_num, by omega, HC, HOl⟩, by simp [intOf]; omega⟩
      ·skip
       go_wp2_with fail; exact ⟨⟨j + 1, false, rfl, by go_num, by omega, Lib.hid (by simp), HOl⟩, by simp [intOf]; omega⟩
     ·skip
      go_wp2_with fail; exact ⟨⟨j + 1, false, rfl, by go_num, by omega, Lib.hid (by simp), HOl⟩, by simp [intOf]; omega⟩
   ·obtain rfl : j = n := (by omega); go_wp2_with fail
    go_ret
    first | exact ⟨b, rfl, HC.out, HOl.out⟩ | exact ⟨HC.out, HOl.out⟩
end Go.Proofs.Ytfeglnpmpgipiaa
end
section
set_option linter.unusedVariables false
set_option maxRecDepth 100000
namespace Go.Proofs.Ytfeglnpmpgipiaa
open Go.RowKit
theorem eqId (a b : Cid) (w : World) : (Op.equalIn 10000 31 (idV a) (idV b)).run Try.prog w = .ok (decide (a = b)) w := by
 have hu : Try.prog.underlying 31 = some (.struct (Try.prog.fieldsOf 31)) := (by kernel_rfl); have hs : Try.prog.stoodInHeld 31 = false := (by kernel_rfl); have h := Try.underlying31; unfold idV; rw [show (10000 : Nat) = 9999 + 1 from rfl, run_equalIn_agg w 9999 31 _ _ hu hs]; simp only [Program.fieldsOf, h]; have q3 := fun (x y : Int) (w : World) => run_equalIn_int (P := Try.prog) w 9998 3 .i64 .i64 x y Try.underlying3
 simp [Op.eqFields, part, Try.isAgg3, q3]
 obtain ⟨a1, a2, a3⟩ := a; obtain ⟨b1, b2, b3⟩ := b; simp only [Cid.mk.injEq]
 by_cases h1 : a1 = b1 <;> by_cases h2 : a2 = b2 <;> by_cases h3 : a3 = b3 <;> simp [h1, h2, h3]
def unitV : Value := .agg #[]
def IdSet (w : World) (r : Nat) (ids : List Cid) : Prop := ∃ es clock, w.heap[r]? = some (.map es clock) ∧ es.toList.map (·.key) = ids.map idV ∧ ∀ e ∈ es.toList, e.val = unitV
theorem IdSet.only {S : List Nat} {w w' : World} {r : Nat} {ids : List Cid} (h : IdSet w r ids) (ho : Only S w w') (hr : r ∉ S) : IdSet w' r ids := by
 obtain ⟨es, cl, h1, h2⟩ := h; exact ⟨es, cl, (ho.block r (Array.getElem?_eq_some_iff.1 h1).1 hr).trans h1, h2⟩
theorem IdSet.lt {w : World} {r : Nat} {ids : List Cid} (h : IdSet w r ids) : r < w.heap.size := by
 obtain ⟨es, cl, h1, h2⟩ := h; exact (Array.getElem?_eq_some_iff.1 h1).1
theorem run_asking (x : Cid) (w : World) : ∀ (es : List MapEntry) (ids : List Cid) (i : Nat), es.map (·.key) = ids.map idV →
  (x ∉ ids → (Instr.findAsking 31 (idV x) es i).run Try.prog w = .ok none w) ∧
  (x ∈ ids → ∃ j e, es[j]? = some e ∧ e.key = idV x ∧ (Instr.findAsking 31 (idV x) es i).run Try.prog w = .ok (some (i + j, e.val)) w)
 | [], [], i, _ => ⟨fun _ => by simp [Instr.findAsking], fun h => by cases h⟩
 | [], _ :: _, _, h => by simp at h
 | _ :: _, [], _, h => by simp at h
 | e :: es, y :: ids, i, h => by
  simp only [List.map_cons, List.cons.injEq] at h; obtain ⟨hk, ht⟩ := h; have ih := run_asking x w es ids (i + 1) ht; have hq := eqId x y w
  by_cases hxy : x = y
  ·subst hxy; rw [decide_eq_true rfl] at hq; refine ⟨fun hn => absurd (List.mem_cons_self ..) hn, fun _ => ⟨0, e, rfl, hk, ?_⟩⟩
   simp [Instr.findAsking, Op.equal, Op.maxDepth, hk, hq, Result.andThen]
  ·rw [decide_eq_false hxy] at hq
   have hstep : (Instr.findAsking 31 (idV x) (e :: es) i).run Try.prog w = (Instr.findAsking 31 (idV x) es (i + 1)).run Try.prog w := by
    simp [Instr.findAsking, Op.equal, Op.maxDepth, hk, hq, Result.andThen]
   rw [hstep]; refine ⟨fun hn => ih.1 (fun hm => hn (List.mem_cons_of_mem _ hm)), fun hm => ?_⟩; obtain ⟨j, e', h1, h2, h3⟩ := ih.2 ((List.mem_cons.1 hm).resolve_left hxy); exact ⟨j + 1, e', by simpa using h1, h2, by rw [h3]; congr 2; simp; omega⟩
theorem run_find (x : Cid) (w : World) (es : List MapEntry) (ids : List Cid) (h : es.map (·.key) = ids.map idV) :
  (x ∉ ids → (Instr.findKey 31 (idV x) es).run Try.prog w = .ok none w) ∧
  (x ∈ ids → ∃ j e, es[j]? = some e ∧ e.key = idV x ∧ (Instr.findKey 31 (idV x) es).run Try.prog w = .ok (some (j, e.val)) w) := by
 have hu := run_underlying (P := Try.prog) (w := w) Try.underlying31
 cases es with
 | nil =>
  have : ids = [] := (by cases ids with | nil => rfl | cons a l => simp at h); subst this; exact ⟨fun _ => by simp [Instr.findKey, hu, Instr.findNow, Result.andThen], fun h => by cases h⟩
 | cons e es =>
  have hn : (Instr.findKey 31 (idV x) (e :: es)).run Try.prog w = (Instr.findAsking 31 (idV x) (e :: es) 0).run Try.prog w := by
   simp [Instr.findKey, hu, Instr.findNow, Instr.sameNow, Result.andThen]
  rw [hn]; obtain ⟨h1, h2⟩ := run_asking x w (e :: es) ids 0 h; refine ⟨h1, fun hm => ?_⟩; obtain ⟨j, e', h3, h4, h5⟩ := h2 hm; exact ⟨j, e', h3, h4, by rw [h5, Nat.zero_add]⟩
theorem run_check (x : Cid) (b : Bool) (w : World) : (Instr.checkKey b 10000 31 (idV x)).run Try.prog w = .ok () w := by
 have hu := run_underlying (P := Try.prog) (w := w) Try.underlying31; have hck : ∀ (n : Int) (w : World), (Instr.checkKey b 9999 3 (.int .i64 n)).run Try.prog w = .ok () w := fun n w => MapKept.run_checkKey (P := Try.prog) (d := .int .i64) (k := .int .i64 n) Try.underlying3 rfl b 9998; rw [show (10000 : Nat) = 9999 + 1 from rfl, Instr.checkKey]; simp only [Sem.run_bind, hu, Result.andThen, idV]
 simp [part, Try.isAgg3, hck, Result.andThen]
theorem IdSet.has {w : World} {r : Nat} {ids : List Cid} (h : IdSet w r ids) (x : Cid) : (Instr.lookup 51 (.map (some r)) (idV x) true).run Try.prog w = .ok (.tuple #[unitV, .bool (decide (x ∈ ids))]) w := by
 obtain ⟨es, cl, hb, hk, hv⟩ := h; obtain ⟨h1, h2⟩ := run_find x w es.toList ids hk; have hm := run_underlying (P := Try.prog) (w := w) Try.underlying51; have hz : (zeroValue 77).run Try.prog w = .ok unitV w := by kernel_rfl
 by_cases hx : x ∈ ids
 ·obtain ⟨j, e, h3, h4, h5⟩ := h2 hx; have := hv e (List.mem_of_getElem? h3)
  simp [Instr.lookup, hm, MapKept.run_getObj_map hb, run_check, h5, hx, this, Result.andThen]
 ·simp [Instr.lookup, hm, MapKept.run_getObj_map hb, run_check, h1 hx, hx, hz, Result.andThen]
theorem IdSet.add {w : World} {r : Nat} {ids : List Cid} (h : IdSet w r ids) (x : Cid) : ∃ w', (Instr.mapUpdate 51 (.map (some r)) (idV x) unitV).run Try.prog w = .ok () w' ∧ IdSet w' r (if x ∈ ids then ids else ids ++ [x]) ∧ Only [r] w w' := by
 obtain ⟨es, cl, hb, hk, hv⟩ := h; obtain ⟨h1, h2⟩ := run_find x w es.toList ids hk; have hm := run_underlying (P := Try.prog) (w := w) Try.underlying51
 by_cases hx : x ∈ ids
 ·obtain ⟨j, e, h3, h4, h5⟩ := h2 hx; have hje : es[j]? = some e := (by simpa using h3); have hs : (Instr.keyThatStays (idV x) (idV x)).run Try.prog w = .ok (idV x) w := (by simp [Instr.keyThatStays, Instr.sameBits, idV]); refine ⟨w.putObj r (.map (es.modify j fun e => { e with key := idV x, val := unitV }) cl), ?_, ?_, Only.putObj w r _⟩
  ·simp [Instr.mapUpdate, hm, MapKept.run_getObj_map hb, run_check, h5, hje, h4, hs, MapKept.run_setObj_map _ hb, Result.andThen, World.putObj]
  ·rw [if_pos hx]; refine ⟨_, cl, World.putObj_heap_same (Array.getElem?_eq_some_iff.1 hb).1, ?_, ?_⟩
   ·rw [← hk]; apply List.ext_getElem?; intro i; simp only [List.getElem?_map, Array.getElem?_toList, Array.getElem?_modify]
    by_cases hij : j = i
    ·subst hij; rw [hje]; simp [h4]
    ·simp [hij]
   ·intro e' he'; obtain ⟨i, hi⟩ := List.mem_iff_getElem?.1 he'; simp only [Array.getElem?_toList, Array.getElem?_modify] at hi
    by_cases hij : j = i
    ·subst hij; rw [hje] at hi; simp at hi; rw [← hi]
    ·simp only [hij, if_false] at hi; exact hv e' (List.mem_of_getElem? (by simpa using hi))
 ·refine ⟨w.putObj r (.map (es.push { key := idV x, val := unitV, born := cl }) (cl + 1)), ?_, ?_, Only.putObj w r _⟩
  ·simp [Instr.mapUpdate, hm, MapKept.run_getObj_map hb, run_check, h1 hx, MapKept.run_setObj_map _ hb, Result.andThen, World.putObj]
  ·rw [if_neg hx]; refine ⟨_, _, World.putObj_heap_same (Array.getElem?_eq_some_iff.1 hb).1, ?_, ?_⟩
   ·simp [hk]
   ·intro e' he'
    simp at he'
    rcases he' with he' | rfl
    ·exact hv e' (by simpa using he')
    ·rfl
end Go.Proofs.Ytfeglnpmpgipiaa
end
section
set_option linter.unusedVariables false
set_option maxRecDepth 100000
namespace Go.Proofs.Ytfeglnpmpgipiaa
open Go.RowKit
theorem eqPc (a b : Pc) (w : World) : (Op.equalIn 10000 36 (pcV a) (pcV b)).run Try.prog w = .ok (decide (a = b)) w := by
 have hu : Try.prog.underlying 36 = some (.struct (Try.prog.fieldsOf 36)) := (by kernel_rfl); have hs : Try.prog.stoodInHeld 36 = false := (by kernel_rfl); have hu2 : Try.prog.underlying 31 = some (.struct (Try.prog.fieldsOf 31)) := (by kernel_rfl); have hs2 : Try.prog.stoodInHeld 31 = false := (by kernel_rfl); have h := Try.underlying36; have h2 := Try.underlying31
 have qi : ∀ (x y : Cid) (w : World), (Op.equalIn 9999 31 (.agg #[.int .i64 x.node, .int .i64 x.boot, .int .i64 x.seq]) (.agg #[.int .i64 y.node, .int .i64 y.boot, .int .i64 y.seq])).run Try.prog w = .ok (decide (x = y)) w := by
  intro x y w; rw [show (9999 : Nat) = 9998 + 1 from rfl, run_equalIn_agg w 9998 31 _ _ hu2 hs2]; simp only [Program.fieldsOf, h2]; have q3 := fun (x y : Int) (w : World) => run_equalIn_int (P := Try.prog) w 9997 3 .i64 .i64 x y Try.underlying3
  simp [Op.eqFields, part, Try.isAgg3, q3]
  obtain ⟨a1, a2, a3⟩ := x; obtain ⟨b1, b2, b3⟩ := y; simp only [Cid.mk.injEq]
  by_cases e1 : a1 = b1 <;> by_cases e2 : a2 = b2 <;> by_cases e3 : a3 = b3 <;> simp [e1, e2, e3]
 unfold pcV; rw [show (10000 : Nat) = 9999 + 1 from rfl, run_equalIn_agg w 9999 36 _ _ hu hs]; simp only [Program.fieldsOf, h]; have q1 := fun (x y : ByteArray) (w : World) => run_equalIn_string (P := Try.prog) w 9998 9 x y Try.underlying9; have q3 := fun (x y : Int) (w : World) => run_equalIn_int (P := Try.prog) w 9998 3 .i64 .i64 x y Try.underlying3; have hi := qi a.blob b.blob
 simp [Op.eqFields, part, Try.isAgg9, Try.isAgg31, Try.isAgg3, Try.sizeOf31, q1, q3, hi, str_toList]
 obtain ⟨a1, a2, a3⟩ := a; obtain ⟨b1, b2, b3⟩ := b; simp only [Pc.mk.injEq]
 by_cases e1 : a1 = b1 <;> by_cases e2 : a2 = b2 <;> by_cases e3 : a3 = b3 <;> simp [e1, e2, e3]
theorem rg_pick {P : Program} {o : Oper} {a : Act} {w : World} {K : Act → World → Prop} {c x : Nat} {g t : Bool} (ho : o.op = .pick (.tmp c) (.tmp x) (.const (.bool false))) (hc : a.tmps.getD c undef = .bool g) (hx : g = true → a.tmps.getD x undef = .bool t)
  (h : K (a.put o.dst (.bool (g && t))) w) : o.wp P a w K (fun _ _ _ => False) := by
 unfold Oper.wp execOp; have e1 : a.eval (.tmp c) = .bool g := hc; have e2 : g = true → a.eval (.tmp x) = .bool t := hx; simp only [ho]
 cases g with
 | false => go_simp; exact h
 | true => replace e2 := e2 rfl; go_simp; exact h
def sndC : Code → Code
 | .seq _ b => b
 | c => c
noncomputable def inFormTail : Code := sndC (sndC (sndC (sndC (sndC (sndC (sndC (sndC (sndC ((Try.f14.body).getD .skip)))))))))
structure TailOk (m z : LCmd) : Prop where
 tt : 0 ≤ m.x.time ∧ m.x.time ≤ 1099511627776
 dd : 0 ≤ m.x.days ∧ m.x.days ≤ 1099511627776
 up : idOk m.x.upload.node m.x.upload.boot m.x.upload.seq
 bucket : z.x.bucket = m.x.bucket
 key : z.x.key = m.x.key
 upload : z.x.upload = m.x.upload
 piece : z.x.piece = m.x.piece
 part : z.x.part = m.x.part
 time : z.x.time = m.x.time
 days : z.x.days = m.x.days
 parts : z.x.parts.length = m.x.parts.length
set_option maxHeartbeats 16000000 in
theorem inForm_tail {Q : Exit → Act → World → Prop} {c0 c2 c5 c6 c7 c8 c9 c10 c11 c12 c13 c14 c15 c16 c17 c18 c19 c20 c21 c22 c23 c24 c25 c26 c27 c28 c29 c30 c31 c32 c33 c34 c35 c36 c37 c38 c39 c40 c41 c42 c43 c44 c45 c46 c47 c48 c49 c50 c51 c52 c53 c54 c55 c56 c57 c58 c59 c60 c61 c62 c63 c64 c65 c66 c67 c68 c69 c70 c71 c72 c73 c74 c75 c76 c77 c78 c79 c80 c81 c82 c83 c84 c85 c86 c87 c88 c89 c90 c91 c92 c93 c94 c95 c96 c97 c98 c99 c100 c101 c102 c103 c104 c105 c106 c107 c108 c109 c110 c111 c112 c113 c114 c115 c116 c117 c118 c119 c120 c121 c122 c123 c124 c125 c126 c127 c128 c129 c130 c131 c132 c133 c134 c135 c136 c137 c138 c139 c140 c141 c142 c143 c144 c145 c146 c147 c148 c149 c150 c151 c152 c153 c154 c155 c156 c157 c158 c159 c160 c161 c162 c163 c164 c165 c166 c167 c168 c169 c170 c171 c172 c173 c174 c175 c176 c177 c178 c179 c180 c181 c182 c183 c184 c185 c186 c187 c188 c189 c190 c191 c192 c193 c194 c195 c196 c197 c198 c199 c200 c201 c202 c203 c204 c205 c206 c207 c208 c209 c210 c211 c212 c213 c214 c215 c216 c217 c218 c219 c220 c221 c222 c223 c224 c225 c226 c227 c228 c229 c230 c231 c232 c233 c234 c235 c236 c237 c238 c239 c240 c241 c242 c243 c244 c245 c246 c247 c248 c249 c250 c251 c252 c253 c254 : Value} (X Z : Nat) (m z : LCmd) (b : Bool) (w0 : World) (rX : Row w0 X 43 (lmCells m)) (rZ : Row w0 Z 43 (lmCells z))
  (hexit : ∀ (a : Act) (v : Bool) (w' : World), a.tmps.getD 2 undef = .bool v → a.defers = [] → (v = true → b = true ∧ TailOk m z) → Only [] w0 w' → Q .ret a w') :
  Code.wp Try.prog inFormTail Q ⟨(c0 :: .pointer (some ⟨X, 0, none⟩) :: c2 :: .pointer (some ⟨Z, 0, none⟩) :: .bool b :: c5 :: c6 :: c7 :: c8 :: c9 :: c10 :: c11 :: c12 :: c13 :: c14 :: c15 :: c16 :: c17 :: c18 :: c19 :: c20 :: c21 :: c22 :: c23 :: c24 :: c25 :: c26 :: c27 :: c28 :: c29 :: c30 :: c31 :: c32 :: c33 :: c34 :: c35 :: c36 :: c37 :: c38 :: c39 :: c40 :: c41 :: c42 :: c43 :: c44 :: c45 :: c46 :: c47 :: c48 :: c49 :: c50 :: c51 :: c52 :: c53 :: c54 :: c55 :: c56 :: c57 :: c58 :: c59 :: c60 :: c61 :: c62 :: c63 :: c64 :: c65 :: c66 :: c67 :: c68 :: c69 :: c70 :: c71 :: c72 :: c73 :: c74 :: c75 :: c76 :: c77 :: c78 :: c79 :: c80 :: c81 :: c82 :: c83 :: c84 :: c85 :: c86 :: c87 :: c88 :: c89 :: c90 :: c91 :: c92 :: c93 :: c94 :: c95 :: c96 :: c97 :: c98 :: c99 :: c100 :: c101 :: c102 :: c103 :: c104 :: c105 :: c106 :: c107 :: c108 :: c109 :: c110 :: c111 :: c112 :: c113 :: c114 :: c115 :: c116 :: c117 :: c118 :: c119 :: c120 :: c121 :: c122 :: c123 :: c124 :: c125 :: c126 :: c127 :: c128 :: c129 :: c130 :: c131 :: c132 :: c133 :: c134 :: c135 :: c136 :: c137 :: c138 :: c139 :: c140 :: c141 :: c142 :: c143 :: c144 :: c145 :: c146 :: c147 :: c148 :: c149 :: c150 :: c151 :: c152 :: c153 :: c154 :: c155 :: c156 :: c157 :: c158 :: c159 :: c160 :: c161 :: c162 :: c163 :: c164 :: c165 :: c166 :: c167 :: c168 :: c169 :: c170 :: c171 :: c172 :: c173 :: c174 :: c175 :: c176 :: c177 :: c178 :: c179 :: c180 :: c181 :: c182 :: c183 :: c184 :: c185 :: c186 :: c187 :: c188 :: c189 :: c190 :: c191 :: c192 :: c193 :: c194 :: c195 :: c196 :: c197 :: c198 :: c199 :: c200 :: c201 :: c202 :: c203 :: c204 :: c205 :: c206 :: c207 :: c208 :: c209 :: c210 :: c211 :: c212 :: c213 :: c214 :: c215 :: c216 :: c217 :: c218 :: c219 :: c220 :: c221 :: c222 :: c223 :: c224 :: c225 :: c226 :: c227 :: c228 :: c229 :: c230 :: c231 :: c232 :: c233 :: c234 :: c235 :: c236 :: c237 :: c238 :: c239 :: c240 :: c241 :: c242 :: c243 :: c244 :: c245 :: c246 :: c247 :: c248 :: c249 :: c250 :: c251 :: c252 :: c253 :: c254 :: []).toArray, []⟩ w0 := by
 conv => arg 2; whnf
 have HX := Lib.hid rX; have HZ := Lib.hid rZ; have HE := Lib.hid hexit; clear hexit rX rZ; obtain ⟨T1, hT1⟩ : ∃ T1 : Bool, decide (0 ≤ m.x.time ∧ m.x.time ≤ 1099511627776) = T1 := ⟨_, rfl⟩; have HT1 := Lib.hid hT1; obtain ⟨T2, hT2⟩ : ∃ T2 : Bool, decide (0 ≤ m.x.days ∧ m.x.days ≤ 1099511627776) = T2 := ⟨_, rfl⟩; have HT2 := Lib.hid hT2; obtain ⟨T3, hT3⟩ : ∃ T3 : Bool, decide (idOk m.x.upload.node m.x.upload.boot m.x.upload.seq) = T3 := ⟨_, rfl⟩; have HT3 := Lib.hid hT3; obtain ⟨T4, hT4⟩ : ∃ T4 : Bool, decide (z.x.bucket = m.x.bucket) = T4 := ⟨_, rfl⟩; have HT4 := Lib.hid hT4; obtain ⟨T5, hT5⟩ : ∃ T5 : Bool, decide (z.x.key = m.x.key) = T5 := ⟨_, rfl⟩
 have HT5 := Lib.hid hT5; obtain ⟨T6, hT6⟩ : ∃ T6 : Bool, decide (z.x.upload = m.x.upload) = T6 := ⟨_, rfl⟩; have HT6 := Lib.hid hT6; obtain ⟨T7, hT7⟩ : ∃ T7 : Bool, decide (z.x.piece = m.x.piece) = T7 := ⟨_, rfl⟩; have HT7 := Lib.hid hT7; obtain ⟨T8, hT8⟩ : ∃ T8 : Bool, (z.x.part == m.x.part) = T8 := ⟨_, rfl⟩; have HT8 := Lib.hid hT8; obtain ⟨T9, hT9⟩ : ∃ T9 : Bool, (z.x.time == m.x.time) = T9 := ⟨_, rfl⟩; have HT9 := Lib.hid hT9; obtain ⟨T10, hT10⟩ : ∃ T10 : Bool, (z.x.days == m.x.days) = T10 := ⟨_, rfl⟩; have HT10 := Lib.hid hT10; obtain ⟨T11, hT11⟩ : ∃ T11 : Bool, ((z.x.parts.length : Int) == (m.x.parts.length : Int)) = T11 := ⟨_, rfl⟩
 have HT11 := Lib.hid hT11; clear hT1 hT2 hT3 hT4 hT5 hT6 hT7 hT8 hT9 hT10 hT11; refine wp_seq_k fun K hK0 => ?_; refine wp_region_ro2 (Only []) [[(4, none)], [(181, some 0)], [(182, some 0), (1, none)], [(182, some 1), (183, some 0)], [(182, some 2), (184, some 0)], [(182, some 3), (185, some 0)], [(186, some 0)], [(187, some 0), (1, none)], [(187, some 1), (188, some 0)], [(187, some 2), (189, some 0)], [(187, some 3), (190, some 0)], [(191, some 0)], [(192, some 0), (1, none)], [(192, some 1), (193, some 0)], [(192, some 2), (194, some 0)], [(192, some 3), (195, some 0)], [(196, some 0)], [(197, some 0), (3, none)], [(197, some 1), (198, some 0)], [(197, some 2), (1, none)], [(197, some 3), (200, some 0)], [(197, some 4), (199, some 2), (201, some 0)], [(197, some 5), (202, some 0)], [(203, some 0)], [(204, some 0), (3, none)], [(204, some 1), (205, some 0)], [(204, some 2), (1, none)], [(204, some 3), (207, some 0)], [(204, some 4), (206, some 2), (208, some 0)], [(204, some 5), (209, some 0)], [(210, some 0)], [(211, some 0), (3, none)], [(211, some 1), (212, some 0)], [(211, some 2), (1, none)], [(211, some 3), (214, some 0)], [(211, some 4), (213, some 2), (215, some 0)], [(211, some 5), (216, some 0)], [(217, some 0)], [(218, some 0), (3, none)], [(218, some 1), (219, some 0)], [(218, some 2), (1, none)], [(218, some 3), (221, some 0)], [(218, some 4), (220, some 2), (222, some 0)], [(218, some 5), (223, some 0)], [(224, some 0)], [(225, some 0), (3, none)], [(225, some 1), (226, some 0)], [(225, some 2), (1, none)], [(225, some 3), (228, some 0)], [(225, some 4), (227, some 2), (229, some 0)], [(225, some 5), (230, some 0)], [(231, some 0)], [(232, some 0), (3, none)], [(232, some 1), (233, some 0)], [(232, some 2), (1, none)], [(232, some 3), (235, some 0)], [(232, some 4), (234, some 2), (236, some 0)], [(232, some 5), (237, some 0)], [(238, some 0)], [(239, some 0), (3, none)], [(239, some 1), (240, some 0)], [(239, some 2), (1, none)], [(239, some 3), (242, some 0)], [(239, some 4), (241, some 2), (243, some 0)], [(239, some 5), (244, some 0)], [(245, some 0)], [(246, some 0), (3, none)], [(246, some 1), (247, some 0)], [(246, some 2), (248, some 0)], [(246, some 3), (1, none)], [(246, some 4), (250, some 0)], [(246, some 5), (251, some 0)], [(246, some 6), (249, some 3), (252, some 0)], [(246, some 7), (253, some 0)], [(254, some 0)]] [(2, 0)] [none, none, some 2, none, none, none, none, none, none, none, none, none, none, none, none, none, none, none, none, none, none, none, none, none, none, none, none, none, none, none, none, none, none, none, none, none, none, none, none, none, none, none, none, none, none, none, none, none, none, none, none, none, none, none, none, none, none, none, none, none, none, none, none, none, none, none, none, none, none, none, none, none, none, none, none, none, none, none, none, none, none, none, none, none, none, none, none, none, none, none, none, none, none, none, none, none, none, none, none, none, none, none, none, none, none, none, none, none, none, none, none, none, none, none, none, none, none, none, none, none, none, none, none, none, none, none, none, none, none, none, none, none, none, none, none, none, none, none, none, none, none, none, none, none, none, none, none, none, none, none, none, none, none, none, none, none, none, none, none, none, none, none, none, none, none, none, none, none, none, none, none, none, none, none, none, none, none, none, none, none, none, some 181, some 182, some 183, some 184, some 185, some 186, some 187, some 188, some 189, some 190, some 191, some 192, some 193, some 194, some 195, some 196, some 197, some 198, some 199, some 200, some 201, some 202, some 203, some 204, some 205, some 206, some 207, some 208, some 209, some 210, some 211, some 212, some 213, some 214, some 215, some 216, some 217, some 218, some 219, some 220, some 221, some 222, some 223, some 224, some 225, some 226, some 227, some 228, some 229, some 230, some 231, some 232, some 233, some 234, some 235, some 236, some 237, some 238, some 239, some 240, some 241, some 242, some 243, some 244, some 245, some 246, some 247, some 248, some 249, some 250, some 251, some 252, some 253, some 254] (by kernel_rfl) rfl (fun _ => Only.refl _ _) (fun _ _ _ h k => h.trans0 k) (by kernel_rfl) ?_
 refine ⟨EV (.bool b), EV.stable _, fun a w hR hf => ?_, ?_⟩
 ·obtain ⟨e4, -⟩ := hf; replace e4 : a.tmps.getD 4 undef = _ := e4; refine rg_plain rfl fun K hK => ?_; rw [Array.getD_eq_getD_getElem?] at e4; go_simp; exact hK _ _ rfl (Only.refl _ _)
 refine ⟨EV (.bool b), EV.stable _, fun a w hR hf => ?_, ?_⟩
 ·obtain ⟨e181, -⟩ := hf; replace e181 : EV (.bool b) (a.tmps.getD 181 undef) w := e181; refine rg_plain rfl fun K hK => ?_; generalize hv181 : a.tmps.getD 181 undef = v181 at e181; go_simp; exact hK _ _ e181 (Only.refl _ _)
 apply rg_wv (b)
 ·intro a w hR hf; obtain ⟨e182, e1, -⟩ := hf; replace e182 : EV (.bool b) (a.tmps.getD 182 undef) w := e182; replace e1 : a.tmps.getD 1 undef = _ := e1; refine rg_when rfl rfl e182 (fun hgd K hK => ?_) (fun hn h => absurd h hn); clear e182; go_simp; exact hK _ _ (fun _ => rfl) (Only.refl _ _)
 apply rg_wv (b)
 ·intro a w hR hf; obtain ⟨e182, e183, -⟩ := hf; replace e182 : EV (.bool b) (a.tmps.getD 182 undef) w := e182; replace e183 : b = true → a.tmps.getD 183 undef = _ := e183; refine rg_when rfl rfl e182 (fun hgd K hK => ?_) (fun hn h => absurd h hn); replace e183 := e183 hgd; clear e182; have c16 := (HX.out.only0 hR).cell (i := 16) rfl; go_simp; exact hK _ _ (fun _ => rfl) (Only.refl _ _)
 apply rg_wv (b)
 ·intro a w hR hf; obtain ⟨e182, e184, -⟩ := hf; replace e182 : EV (.bool b) (a.tmps.getD 182 undef) w := e182; replace e184 : b = true → a.tmps.getD 184 undef = _ := e184; refine rg_when rfl rfl e182 (fun hgd K hK => ?_) (fun hn h => absurd h hn); replace e184 := e184 hgd; clear e182; go_simp; have hc := ticks10_any m.x.time w; rw [HT1.out] at hc; (with_reducible refine hc.mono ?_); rintro e w' ⟨rfl, o⟩; exact hK _ _ (fun _ => rfl) o
 refine ⟨EV (.bool (b && T1)), EV.stable _, fun a w hR hf => ?_, ?_⟩
 ·obtain ⟨e182, e185, -⟩ := hf; replace e182 : EV (.bool b) (a.tmps.getD 182 undef) w := e182; replace e185 : b = true → a.tmps.getD 185 undef = _ := e185; refine rg_plain rfl fun K hK => ?_; exact rg_pick rfl e182 e185 (hK _ _ rfl (Only.refl _ _))
 refine ⟨EV (.bool (b && T1)), EV.stable _, fun a w hR hf => ?_, ?_⟩
 ·obtain ⟨e186, -⟩ := hf; replace e186 : EV (.bool (b && T1)) (a.tmps.getD 186 undef) w := e186; refine rg_plain rfl fun K hK => ?_; generalize hv186 : a.tmps.getD 186 undef = v186 at e186; go_simp; exact hK _ _ e186 (Only.refl _ _)
 apply rg_wv ((b && T1))
 ·intro a w hR hf; obtain ⟨e187, e1, -⟩ := hf; replace e187 : EV (.bool (b && T1)) (a.tmps.getD 187 undef) w := e187; replace e1 : a.tmps.getD 1 undef = _ := e1; refine rg_when rfl rfl e187 (fun hgd K hK => ?_) (fun hn h => absurd h hn); clear e187; go_simp; exact hK _ _ (fun _ => rfl) (Only.refl _ _)
 apply rg_wv ((b && T1))
 ·intro a w hR hf; obtain ⟨e187, e188, -⟩ := hf; replace e187 : EV (.bool (b && T1)) (a.tmps.getD 187 undef) w := e187; replace e188 : (b && T1) = true → a.tmps.getD 188 undef = _ := e188; refine rg_when rfl rfl e187 (fun hgd K hK => ?_) (fun hn h => absurd h hn); replace e188 := e188 hgd; clear e187; have c17 := (HX.out.only0 hR).cell (i := 17) rfl; go_simp; exact hK _ _ (fun _ => rfl) (Only.refl _ _)
 apply rg_wv ((b && T1))
 ·intro a w hR hf; obtain ⟨e187, e189, -⟩ := hf; replace e187 : EV (.bool (b && T1)) (a.tmps.getD 187 undef) w := e187; replace e189 : (b && T1) = true → a.tmps.getD 189 undef = _ := e189; refine rg_when rfl rfl e187 (fun hgd K hK => ?_) (fun hn h => absurd h hn); replace e189 := e189 hgd; clear e187; go_simp; have hc := ticks10_any m.x.days w; rw [HT2.out] at hc; (with_reducible refine hc.mono ?_); rintro e w' ⟨rfl, o⟩; exact hK _ _ (fun _ => rfl) o
 refine ⟨EV (.bool ((b && T1) && T2)), EV.stable _, fun a w hR hf => ?_, ?_⟩
 ·obtain ⟨e187, e190, -⟩ := hf; replace e187 : EV (.bool (b && T1)) (a.tmps.getD 187 undef) w := e187; replace e190 : (b && T1) = true → a.tmps.getD 190 undef = _ := e190; refine rg_plain rfl fun K hK => ?_; exact rg_pick rfl e187 e190 (hK _ _ rfl (Only.refl _ _))
 refine ⟨EV (.bool ((b && T1) && T2)), EV.stable _, fun a w hR hf => ?_, ?_⟩
 ·obtain ⟨e191, -⟩ := hf; replace e191 : EV (.bool ((b && T1) && T2)) (a.tmps.getD 191 undef) w := e191; refine rg_plain rfl fun K hK => ?_; generalize hv191 : a.tmps.getD 191 undef = v191 at e191; go_simp; exact hK _ _ e191 (Only.refl _ _)
 apply rg_wv (((b && T1) && T2))
 ·intro a w hR hf; obtain ⟨e192, e1, -⟩ := hf; replace e192 : EV (.bool ((b && T1) && T2)) (a.tmps.getD 192 undef) w := e192; replace e1 : a.tmps.getD 1 undef = _ := e1; refine rg_when rfl rfl e192 (fun hgd K hK => ?_) (fun hn h => absurd h hn); clear e192; go_simp; exact hK _ _ (fun _ => rfl) (Only.refl _ _)
 apply rg_wv (((b && T1) && T2))
 ·intro a w hR hf; obtain ⟨e192, e193, -⟩ := hf; replace e192 : EV (.bool ((b && T1) && T2)) (a.tmps.getD 192 undef) w := e192; replace e193 : ((b && T1) && T2) = true → a.tmps.getD 193 undef = _ := e193; refine rg_when rfl rfl e192 (fun hgd K hK => ?_) (fun hn h => absurd h hn); replace e193 := e193 hgd; clear e192; have c6 := (HX.out.only0 hR).cell (i := 6) rfl; have c7 := (HX.out.only0 hR).cell (i := 7) rfl; have c8 := (HX.out.only0 hR).cell (i := 8) rfl; go_simp; exact hK _ _ (fun _ => rfl) (Only.refl _ _)
 apply rg_wv (((b && T1) && T2))
 ·intro a w hR hf; obtain ⟨e192, e194, -⟩ := hf; replace e192 : EV (.bool ((b && T1) && T2)) (a.tmps.getD 192 undef) w := e192; replace e194 : ((b && T1) && T2) = true → a.tmps.getD 194 undef = _ := e194; refine rg_when rfl rfl e192 (fun hgd K hK => ?_) (fun hn h => absurd h hn); replace e194 := e194 hgd; clear e192; go_simp; have hc := goodId_any m.x.upload.node m.x.upload.boot m.x.upload.seq w; rw [HT3.out] at hc; (with_reducible refine hc.mono ?_); rintro e w' ⟨rfl, o⟩; exact hK _ _ (fun _ => rfl) o
 refine ⟨EV (.bool (((b && T1) && T2) && T3)), EV.stable _, fun a w hR hf => ?_, ?_⟩
 ·obtain ⟨e192, e195, -⟩ := hf; replace e192 : EV (.bool ((b && T1) && T2)) (a.tmps.getD 192 undef) w := e192; replace e195 : ((b && T1) && T2) = true → a.tmps.getD 195 undef = _ := e195; refine rg_plain rfl fun K hK => ?_; exact rg_pick rfl e192 e195 (hK _ _ rfl (Only.refl _ _))
 refine ⟨EV (.bool (((b && T1) && T2) && T3)), EV.stable _, fun a w hR hf => ?_, ?_⟩
 ·obtain ⟨e196, -⟩ := hf; replace e196 : EV (.bool (((b && T1) && T2) && T3)) (a.tmps.getD 196 undef) w := e196; refine rg_plain rfl fun K hK => ?_; generalize hv196 : a.tmps.getD 196 undef = v196 at e196; go_simp; exact hK _ _ e196 (Only.refl _ _)
 apply rg_wv ((((b && T1) && T2) && T3))
 ·intro a w hR hf; obtain ⟨e197, e3, -⟩ := hf; replace e197 : EV (.bool (((b && T1) && T2) && T3)) (a.tmps.getD 197 undef) w := e197; replace e3 : a.tmps.getD 3 undef = _ := e3; refine rg_when rfl rfl e197 (fun hgd K hK => ?_) (fun hn h => absurd h hn); clear e197; go_simp; exact hK _ _ (fun _ => rfl) (Only.refl _ _)
 apply rg_wv ((((b && T1) && T2) && T3))
 ·intro a w hR hf; obtain ⟨e197, e198, -⟩ := hf; replace e197 : EV (.bool (((b && T1) && T2) && T3)) (a.tmps.getD 197 undef) w := e197; replace e198 : (((b && T1) && T2) && T3) = true → a.tmps.getD 198 undef = _ := e198; refine rg_when rfl rfl e197 (fun hgd K hK => ?_) (fun hn h => absurd h hn); replace e198 := e198 hgd; clear e197; have c4 := (HZ.out.only0 hR).cell (i := 4) rfl; go_simp; exact hK _ _ (fun _ => rfl) (Only.refl _ _)
 apply rg_wv ((((b && T1) && T2) && T3))
 ·intro a w hR hf; obtain ⟨e197, e1, -⟩ := hf; replace e197 : EV (.bool (((b && T1) && T2) && T3)) (a.tmps.getD 197 undef) w := e197; replace e1 : a.tmps.getD 1 undef = _ := e1; refine rg_when rfl rfl e197 (fun hgd K hK => ?_) (fun hn h => absurd h hn); clear e197; go_simp; exact hK _ _ (fun _ => rfl) (Only.refl _ _)
 apply rg_wv ((((b && T1) && T2) && T3))
 ·intro a w hR hf; obtain ⟨e197, e200, -⟩ := hf; replace e197 : EV (.bool (((b && T1) && T2) && T3)) (a.tmps.getD 197 undef) w := e197; replace e200 : (((b && T1) && T2) && T3) = true → a.tmps.getD 200 undef = _ := e200; refine rg_when rfl rfl e197 (fun hgd K hK => ?_) (fun hn h => absurd h hn); replace e200 := e200 hgd; clear e197; have c4 := (HX.out.only0 hR).cell (i := 4) rfl; go_simp; exact hK _ _ (fun _ => rfl) (Only.refl _ _)
 apply rg_wv ((((b && T1) && T2) && T3))
 ·intro a w hR hf; obtain ⟨e197, e199, e201, -⟩ := hf; replace e197 : EV (.bool (((b && T1) && T2) && T3)) (a.tmps.getD 197 undef) w := e197; replace e199 : (((b && T1) && T2) && T3) = true → a.tmps.getD 199 undef = _ := e199; replace e201 : (((b && T1) && T2) && T3) = true → a.tmps.getD 201 undef = _ := e201; refine rg_when rfl rfl e197 (fun hgd K hK => ?_) (fun hn h => absurd h hn); replace e199 := e199 hgd; replace e201 := e201 hgd; clear e197; have q := str_eqb z.x.bucket m.x.bucket; rw [HT4.out] at q; go_simp; exact hK _ _ (fun _ => rfl) (Only.refl _ _)
 refine ⟨EV (.bool ((((b && T1) && T2) && T3) && T4)), EV.stable _, fun a w hR hf => ?_, ?_⟩
 ·obtain ⟨e197, e202, -⟩ := hf; replace e197 : EV (.bool (((b && T1) && T2) && T3)) (a.tmps.getD 197 undef) w := e197; replace e202 : (((b && T1) && T2) && T3) = true → a.tmps.getD 202 undef = _ := e202; refine rg_plain rfl fun K hK => ?_; exact rg_pick rfl e197 e202 (hK _ _ rfl (Only.refl _ _))
 refine ⟨EV (.bool ((((b && T1) && T2) && T3) && T4)), EV.stable _, fun a w hR hf => ?_, ?_⟩
 ·obtain ⟨e203, -⟩ := hf; replace e203 : EV (.bool ((((b && T1) && T2) && T3) && T4)) (a.tmps.getD 203 undef) w := e203; refine rg_plain rfl fun K hK => ?_; generalize hv203 : a.tmps.getD 203 undef = v203 at e203; go_simp; exact hK _ _ e203 (Only.refl _ _)
 apply rg_wv (((((b && T1) && T2) && T3) && T4))
 ·intro a w hR hf; obtain ⟨e204, e3, -⟩ := hf; replace e204 : EV (.bool ((((b && T1) && T2) && T3) && T4)) (a.tmps.getD 204 undef) w := e204; replace e3 : a.tmps.getD 3 undef = _ := e3; refine rg_when rfl rfl e204 (fun hgd K hK => ?_) (fun hn h => absurd h hn); clear e204; go_simp; exact hK _ _ (fun _ => rfl) (Only.refl _ _)
 apply rg_wv (((((b && T1) && T2) && T3) && T4))
 ·intro a w hR hf; obtain ⟨e204, e205, -⟩ := hf; replace e204 : EV (.bool ((((b && T1) && T2) && T3) && T4)) (a.tmps.getD 204 undef) w := e204; replace e205 : ((((b && T1) && T2) && T3) && T4) = true → a.tmps.getD 205 undef = _ := e205; refine rg_when rfl rfl e204 (fun hgd K hK => ?_) (fun hn h => absurd h hn); replace e205 := e205 hgd; clear e204; have c5 := (HZ.out.only0 hR).cell (i := 5) rfl; go_simp; exact hK _ _ (fun _ => rfl) (Only.refl _ _)
 apply rg_wv (((((b && T1) && T2) && T3) && T4))
 ·intro a w hR hf; obtain ⟨e204, e1, -⟩ := hf; replace e204 : EV (.bool ((((b && T1) && T2) && T3) && T4)) (a.tmps.getD 204 undef) w := e204; replace e1 : a.tmps.getD 1 undef = _ := e1; refine rg_when rfl rfl e204 (fun hgd K hK => ?_) (fun hn h => absurd h hn); clear e204; go_simp; exact hK _ _ (fun _ => rfl) (Only.refl _ _)
 apply rg_wv (((((b && T1) && T2) && T3) && T4))
 ·intro a w hR hf; obtain ⟨e204, e207, -⟩ := hf; replace e204 : EV (.bool ((((b && T1) && T2) && T3) && T4)) (a.tmps.getD 204 undef) w := e204; replace e207 : ((((b && T1) && T2) && T3) && T4) = true → a.tmps.getD 207 undef = _ := e207; refine rg_when rfl rfl e204 (fun hgd K hK => ?_) (fun hn h => absurd h hn); replace e207 := e207 hgd; clear e204; have c5 := (HX.out.only0 hR).cell (i := 5) rfl; go_simp; exact hK _ _ (fun _ => rfl) (Only.refl _ _)
 apply rg_wv (((((b && T1) && T2) && T3) && T4))
 ·intro a w hR hf; obtain ⟨e204, e206, e208, -⟩ := hf; replace e204 : EV (.bool ((((b && T1) && T2) && T3) && T4)) (a.tmps.getD 204 undef) w := e204; replace e206 : ((((b && T1) && T2) && T3) && T4) = true → a.tmps.getD 206 undef = _ := e206; replace e208 : ((((b && T1) && T2) && T3) && T4) = true → a.tmps.getD 208 undef = _ := e208; refine rg_when rfl rfl e204 (fun hgd K hK => ?_) (fun hn h => absurd h hn); replace e206 := e206 hgd; replace e208 := e208 hgd; clear e204; have q := str_eqb z.x.key m.x.key; rw [HT5.out] at q; go_simp; exact hK _ _ (fun _ => rfl) (Only.refl _ _)
 refine ⟨EV (.bool (((((b && T1) && T2) && T3) && T4) && T5)), EV.stable _, fun a w hR hf => ?_, ?_⟩
 ·obtain ⟨e204, e209, -⟩ := hf; replace e204 : EV (.bool ((((b && T1) && T2) && T3) && T4)) (a.tmps.getD 204 undef) w := e204; replace e209 : ((((b && T1) && T2) && T3) && T4) = true → a.tmps.getD 209 undef = _ := e209; refine rg_plain rfl fun K hK => ?_; exact rg_pick rfl e204 e209 (hK _ _ rfl (Only.refl _ _))
 refine ⟨EV (.bool (((((b && T1) && T2) && T3) && T4) && T5)), EV.stable _, fun a w hR hf => ?_, ?_⟩
 ·obtain ⟨e210, -⟩ := hf; replace e210 : EV (.bool (((((b && T1) && T2) && T3) && T4) && T5)) (a.tmps.getD 210 undef) w := e210; refine rg_plain rfl fun K hK => ?_; generalize hv210 : a.tmps.getD 210 undef = v210 at e210; go_simp; exact hK _ _ e210 (Only.refl _ _)
 apply rg_wv ((((((b && T1) && T2) && T3) && T4) && T5))
 ·intro a w hR hf; obtain ⟨e211, e3, -⟩ := hf; replace e211 : EV (.bool (((((b && T1) && T2) && T3) && T4) && T5)) (a.tmps.getD 211 undef) w := e211; replace e3 : a.tmps.getD 3 undef = _ := e3; refine rg_when rfl rfl e211 (fun hgd K hK => ?_) (fun hn h => absurd h hn); clear e211; go_simp; exact hK _ _ (fun _ => rfl) (Only.refl _ _)
 apply rg_wv ((((((b && T1) && T2) && T3) && T4) && T5))
 ·intro a w hR hf; obtain ⟨e211, e212, -⟩ := hf; replace e211 : EV (.bool (((((b && T1) && T2) && T3) && T4) && T5)) (a.tmps.getD 211 undef) w := e211; replace e212 : (((((b && T1) && T2) && T3) && T4) && T5) = true → a.tmps.getD 212 undef = _ := e212; refine rg_when rfl rfl e211 (fun hgd K hK => ?_) (fun hn h => absurd h hn); replace e212 := e212 hgd; clear e211; have c6 := (HZ.out.only0 hR).cell (i := 6) rfl; have c7 := (HZ.out.only0 hR).cell (i := 7) rfl; have c8 := (HZ.out.only0 hR).cell (i := 8) rfl; go_simp; exact hK _ _ (fun _ => rfl) (Only.refl _ _)
 apply rg_wv ((((((b && T1) && T2) && T3) && T4) && T5))
 ·intro a w hR hf; obtain ⟨e211, e1, -⟩ := hf; replace e211 : EV (.bool (((((b && T1) && T2) && T3) && T4) && T5)) (a.tmps.getD 211 undef) w := e211; replace e1 : a.tmps.getD 1 undef = _ := e1; refine rg_when rfl rfl e211 (fun hgd K hK => ?_) (fun hn h => absurd h hn); clear e211; go_simp; exact hK _ _ (fun _ => rfl) (Only.refl _ _)
 apply rg_wv ((((((b && T1) && T2) && T3) && T4) && T5))
 ·intro a w hR hf; obtain ⟨e211, e214, -⟩ := hf; replace e211 : EV (.bool (((((b && T1) && T2) && T3) && T4) && T5)) (a.tmps.getD 211 undef) w := e211; replace e214 : (((((b && T1) && T2) && T3) && T4) && T5) = true → a.tmps.getD 214 undef = _ := e214; refine rg_when rfl rfl e211 (fun hgd K hK => ?_) (fun hn h => absurd h hn); replace e214 := e214 hgd; clear e211; have c6 := (HX.out.only0 hR).cell (i := 6) rfl; have c7 := (HX.out.only0 hR).cell (i := 7) rfl; have c8 := (HX.out.only0 hR).cell (i := 8) rfl; go_simp; exact hK _ _ (fun _ => rfl) (Only.refl _ _)
 apply rg_wv ((((((b && T1) && T2) && T3) && T4) && T5))
 ·intro a w hR hf; obtain ⟨e211, e213, e215, -⟩ := hf; replace e211 : EV (.bool (((((b && T1) && T2) && T3) && T4) && T5)) (a.tmps.getD 211 undef) w := e211; replace e213 : (((((b && T1) && T2) && T3) && T4) && T5) = true → a.tmps.getD 213 undef = _ := e213; replace e215 : (((((b && T1) && T2) && T3) && T4) && T5) = true → a.tmps.getD 215 undef = _ := e215; refine rg_when rfl rfl e211 (fun hgd K hK => ?_) (fun hn h => absurd h hn); replace e213 := e213 hgd; replace e215 := e215 hgd; clear e211; have q := eqId z.x.upload m.x.upload; unfold idV at q; simp only [HT6.out] at q; go_simp; exact hK _ _ (fun _ => rfl) (Only.refl _ _)
 refine ⟨EV (.bool ((((((b && T1) && T2) && T3) && T4) && T5) && T6)), EV.stable _, fun a w hR hf => ?_, ?_⟩
 ·obtain ⟨e211, e216, -⟩ := hf; replace e211 : EV (.bool (((((b && T1) && T2) && T3) && T4) && T5)) (a.tmps.getD 211 undef) w := e211; replace e216 : (((((b && T1) && T2) && T3) && T4) && T5) = true → a.tmps.getD 216 undef = _ := e216; refine rg_plain rfl fun K hK => ?_; exact rg_pick rfl e211 e216 (hK _ _ rfl (Only.refl _ _))
 refine ⟨EV (.bool ((((((b && T1) && T2) && T3) && T4) && T5) && T6)), EV.stable _, fun a w hR hf => ?_, ?_⟩
 ·obtain ⟨e217, -⟩ := hf; replace e217 : EV (.bool ((((((b && T1) && T2) && T3) && T4) && T5) && T6)) (a.tmps.getD 217 undef) w := e217; refine rg_plain rfl fun K hK => ?_; generalize hv217 : a.tmps.getD 217 undef = v217 at e217; go_simp; exact hK _ _ e217 (Only.refl _ _)
 apply rg_wv (((((((b && T1) && T2) && T3) && T4) && T5) && T6))
 ·intro a w hR hf; obtain ⟨e218, e3, -⟩ := hf; replace e218 : EV (.bool ((((((b && T1) && T2) && T3) && T4) && T5) && T6)) (a.tmps.getD 218 undef) w := e218; replace e3 : a.tmps.getD 3 undef = _ := e3; refine rg_when rfl rfl e218 (fun hgd K hK => ?_) (fun hn h => absurd h hn); clear e218; go_simp; exact hK _ _ (fun _ => rfl) (Only.refl _ _)
 apply rg_wv (((((((b && T1) && T2) && T3) && T4) && T5) && T6))
 ·intro a w hR hf; obtain ⟨e218, e219, -⟩ := hf; replace e218 : EV (.bool ((((((b && T1) && T2) && T3) && T4) && T5) && T6)) (a.tmps.getD 218 undef) w := e218; replace e219 : ((((((b && T1) && T2) && T3) && T4) && T5) && T6) = true → a.tmps.getD 219 undef = _ := e219; refine rg_when rfl rfl e218 (fun hgd K hK => ?_) (fun hn h => absurd h hn); replace e219 := e219 hgd; clear e218; have c9 := (HZ.out.only0 hR).cell (i := 9) rfl; have c10 := (HZ.out.only0 hR).cell (i := 10) rfl; have c11 := (HZ.out.only0 hR).cell (i := 11) rfl; have c12 := (HZ.out.only0 hR).cell (i := 12) rfl; have c13 := (HZ.out.only0 hR).cell (i := 13) rfl
  go_simp; exact hK _ _ (fun _ => rfl) (Only.refl _ _)
 apply rg_wv (((((((b && T1) && T2) && T3) && T4) && T5) && T6))
 ·intro a w hR hf; obtain ⟨e218, e1, -⟩ := hf; replace e218 : EV (.bool ((((((b && T1) && T2) && T3) && T4) && T5) && T6)) (a.tmps.getD 218 undef) w := e218; replace e1 : a.tmps.getD 1 undef = _ := e1; refine rg_when rfl rfl e218 (fun hgd K hK => ?_) (fun hn h => absurd h hn); clear e218; go_simp; exact hK _ _ (fun _ => rfl) (Only.refl _ _)
 apply rg_wv (((((((b && T1) && T2) && T3) && T4) && T5) && T6))
 ·intro a w hR hf; obtain ⟨e218, e221, -⟩ := hf; replace e218 : EV (.bool ((((((b && T1) && T2) && T3) && T4) && T5) && T6)) (a.tmps.getD 218 undef) w := e218; replace e221 : ((((((b && T1) && T2) && T3) && T4) && T5) && T6) = true → a.tmps.getD 221 undef = _ := e221; refine rg_when rfl rfl e218 (fun hgd K hK => ?_) (fun hn h => absurd h hn); replace e221 := e221 hgd; clear e218; have c9 := (HX.out.only0 hR).cell (i := 9) rfl; have c10 := (HX.out.only0 hR).cell (i := 10) rfl; have c11 := (HX.out.only0 hR).cell (i := 11) rfl; have c12 := (HX.out.only0 hR).cell (i := 12) rfl; have c13 := (HX.out.only0 hR).cell (i := 13) rfl
  go_simp; exact hK _ _ (fun _ => rfl) (Only.refl _ _)
 apply rg_wv (((((((b && T1) && T2) && T3) && T4) && T5) && T6))
 ·intro a w hR hf; obtain ⟨e218, e220, e222, -⟩ := hf; replace e218 : EV (.bool ((((((b && T1) && T2) && T3) && T4) && T5) && T6)) (a.tmps.getD 218 undef) w := e218; replace e220 : ((((((b && T1) && T2) && T3) && T4) && T5) && T6) = true → a.tmps.getD 220 undef = _ := e220; replace e222 : ((((((b && T1) && T2) && T3) && T4) && T5) && T6) = true → a.tmps.getD 222 undef = _ := e222; refine rg_when rfl rfl e218 (fun hgd K hK => ?_) (fun hn h => absurd h hn); replace e220 := e220 hgd; replace e222 := e222 hgd; clear e218; have q := eqPc z.x.piece m.x.piece; unfold pcV at q; simp only [HT7.out] at q
  go_simp; exact hK _ _ (fun _ => rfl) (Only.refl _ _)
 refine ⟨EV (.bool (((((((b && T1) && T2) && T3) && T4) && T5) && T6) && T7)), EV.stable _, fun a w hR hf => ?_, ?_⟩
 ·obtain ⟨e218, e223, -⟩ := hf; replace e218 : EV (.bool ((((((b && T1) && T2) && T3) && T4) && T5) && T6)) (a.tmps.getD 218 undef) w := e218; replace e223 : ((((((b && T1) && T2) && T3) && T4) && T5) && T6) = true → a.tmps.getD 223 undef = _ := e223; refine rg_plain rfl fun K hK => ?_; exact rg_pick rfl e218 e223 (hK _ _ rfl (Only.refl _ _))
 refine ⟨EV (.bool (((((((b && T1) && T2) && T3) && T4) && T5) && T6) && T7)), EV.stable _, fun a w hR hf => ?_, ?_⟩
 ·obtain ⟨e224, -⟩ := hf; replace e224 : EV (.bool (((((((b && T1) && T2) && T3) && T4) && T5) && T6) && T7)) (a.tmps.getD 224 undef) w := e224; refine rg_plain rfl fun K hK => ?_; generalize hv224 : a.tmps.getD 224 undef = v224 at e224; go_simp; exact hK _ _ e224 (Only.refl _ _)
 apply rg_wv ((((((((b && T1) && T2) && T3) && T4) && T5) && T6) && T7))
 ·intro a w hR hf; obtain ⟨e225, e3, -⟩ := hf; replace e225 : EV (.bool (((((((b && T1) && T2) && T3) && T4) && T5) && T6) && T7)) (a.tmps.getD 225 undef) w := e225; replace e3 : a.tmps.getD 3 undef = _ := e3; refine rg_when rfl rfl e225 (fun hgd K hK => ?_) (fun hn h => absurd h hn); clear e225; go_simp; exact hK _ _ (fun _ => rfl) (Only.refl _ _)
 apply rg_wv ((((((((b && T1) && T2) && T3) && T4) && T5) && T6) && T7))
 ·intro a w hR hf; obtain ⟨e225, e226, -⟩ := hf; replace e225 : EV (.bool (((((((b && T1) && T2) && T3) && T4) && T5) && T6) && T7)) (a.tmps.getD 225 undef) w := e225; replace e226 : (((((((b && T1) && T2) && T3) && T4) && T5) && T6) && T7) = true → a.tmps.getD 226 undef = _ := e226; refine rg_when rfl rfl e225 (fun hgd K hK => ?_) (fun hn h => absurd h hn); replace e226 := e226 hgd; clear e225; have c14 := (HZ.out.only0 hR).cell (i := 14) rfl; go_simp; exact hK _ _ (fun _ => rfl) (Only.refl _ _)
 apply rg_wv ((((((((b && T1) && T2) && T3) && T4) && T5) && T6) && T7))
 ·intro a w hR hf; obtain ⟨e225, e1, -⟩ := hf; replace e225 : EV (.bool (((((((b && T1) && T2) && T3) && T4) && T5) && T6) && T7)) (a.tmps.getD 225 undef) w := e225; replace e1 : a.tmps.getD 1 undef = _ := e1; refine rg_when rfl rfl e225 (fun hgd K hK => ?_) (fun hn h => absurd h hn); clear e225; go_simp; exact hK _ _ (fun _ => rfl) (Only.refl _ _)
 apply rg_wv ((((((((b && T1) && T2) && T3) && T4) && T5) && T6) && T7))
 ·intro a w hR hf; obtain ⟨e225, e228, -⟩ := hf; replace e225 : EV (.bool (((((((b && T1) && T2) && T3) && T4) && T5) && T6) && T7)) (a.tmps.getD 225 undef) w := e225; replace e228 : (((((((b && T1) && T2) && T3) && T4) && T5) && T6) && T7) = true → a.tmps.getD 228 undef = _ := e228; refine rg_when rfl rfl e225 (fun hgd K hK => ?_) (fun hn h => absurd h hn); replace e228 := e228 hgd; clear e225; have c14 := (HX.out.only0 hR).cell (i := 14) rfl; go_simp; exact hK _ _ (fun _ => rfl) (Only.refl _ _)
 apply rg_wv ((((((((b && T1) && T2) && T3) && T4) && T5) && T6) && T7))
 ·intro a w hR hf; obtain ⟨e225, e227, e229, -⟩ := hf; replace e225 : EV (.bool (((((((b && T1) && T2) && T3) && T4) && T5) && T6) && T7)) (a.tmps.getD 225 undef) w := e225; replace e227 : (((((((b && T1) && T2) && T3) && T4) && T5) && T6) && T7) = true → a.tmps.getD 227 undef = _ := e227; replace e229 : (((((((b && T1) && T2) && T3) && T4) && T5) && T6) && T7) = true → a.tmps.getD 229 undef = _ := e229; refine rg_when rfl rfl e225 (fun hgd K hK => ?_) (fun hn h => absurd h hn); replace e227 := e227 hgd; replace e229 := e229 hgd; clear e225; have q := HT8.out; go_simp; exact hK _ _ (fun _ => rfl) (Only.refl _ _)
 refine ⟨EV (.bool ((((((((b && T1) && T2) && T3) && T4) && T5) && T6) && T7) && T8)), EV.stable _, fun a w hR hf => ?_, ?_⟩
 ·obtain ⟨e225, e230, -⟩ := hf; replace e225 : EV (.bool (((((((b && T1) && T2) && T3) && T4) && T5) && T6) && T7)) (a.tmps.getD 225 undef) w := e225; replace e230 : (((((((b && T1) && T2) && T3) && T4) && T5) && T6) && T7) = true → a.tmps.getD 230 undef = _ := e230; refine rg_plain rfl fun K hK => ?_; exact rg_pick rfl e225 e230 (hK _ _ rfl (Only.refl _ _))
 refine ⟨EV (.bool ((((((((b && T1) && T2) && T3) && T4) && T5) && T6) && T7) && T8)), EV.stable _, fun a w hR hf => ?_, ?_⟩
 ·obtain ⟨e231, -⟩ := hf; replace e231 : EV (.bool ((((((((b && T1) && T2) && T3) && T4) && T5) && T6) && T7) && T8)) (a.tmps.getD 231 undef) w := e231; refine rg_plain rfl fun K hK => ?_; generalize hv231 : a.tmps.getD 231 undef = v231 at e231; go_simp; exact hK _ _ e231 (Only.refl _ _)
 apply rg_wv (((((((((b && T1) && T2) && T3) && T4) && T5) && T6) && T7) && T8))
 ·intro a w hR hf; obtain ⟨e232, e3, -⟩ := hf; replace e232 : EV (.bool ((((((((b && T1) && T2) && T3) && T4) && T5) && T6) && T7) && T8)) (a.tmps.getD 232 undef) w := e232; replace e3 : a.tmps.getD 3 undef = _ := e3; refine rg_when rfl rfl e232 (fun hgd K hK => ?_) (fun hn h => absurd h hn); clear e232; go_simp; exact hK _ _ (fun _ => rfl) (Only.refl _ _)
 apply rg_wv (((((((((b && T1) && T2) && T3) && T4) && T5) && T6) && T7) && T8))
 ·intro a w hR hf; obtain ⟨e232, e233, -⟩ := hf; replace e232 : EV (.bool ((((((((b && T1) && T2) && T3) && T4) && T5) && T6) && T7) && T8)) (a.tmps.getD 232 undef) w := e232; replace e233 : ((((((((b && T1) && T2) && T3) && T4) && T5) && T6) && T7) && T8) = true → a.tmps.getD 233 undef = _ := e233; refine rg_when rfl rfl e232 (fun hgd K hK => ?_) (fun hn h => absurd h hn); replace e233 := e233 hgd; clear e232; have c16 := (HZ.out.only0 hR).cell (i := 16) rfl; go_simp; exact hK _ _ (fun _ => rfl) (Only.refl _ _)
 apply rg_wv (((((((((b && T1) && T2) && T3) && T4) && T5) && T6) && T7) && T8))
 ·intro a w hR hf; obtain ⟨e232, e1, -⟩ := hf; replace e232 : EV (.bool ((((((((b && T1) && T2) && T3) && T4) && T5) && T6) && T7) && T8)) (a.tmps.getD 232 undef) w := e232; replace e1 : a.tmps.getD 1 undef = _ := e1; refine rg_when rfl rfl e232 (fun hgd K hK => ?_) (fun hn h => absurd h hn); clear e232; go_simp; exact hK _ _ (fun _ => rfl) (Only.refl _ _)
 apply rg_wv (((((((((b && T1) && T2) && T3) && T4) && T5) && T6) && T7) && T8))
 ·intro a w hR hf; obtain ⟨e232, e235, -⟩ := hf; replace e232 : EV (.bool ((((((((b && T1) && T2) && T3) && T4) && T5) && T6) && T7) && T8)) (a.tmps.getD 232 undef) w := e232; replace e235 : ((((((((b && T1) && T2) && T3) && T4) && T5) && T6) && T7) && T8) = true → a.tmps.getD 235 undef = _ := e235; refine rg_when rfl rfl e232 (fun hgd K hK => ?_) (fun hn h => absurd h hn); replace e235 := e235 hgd; clear e232; have c16 := (HX.out.only0 hR).cell (i := 16) rfl; go_simp; exact hK _ _ (fun _ => rfl) (Only.refl _ _)
 apply rg_wv (((((((((b && T1) && T2) && T3) && T4) && T5) && T6) && T7) && T8))
 ·intro a w hR hf; obtain ⟨e232, e234, e236, -⟩ := hf; replace e232 : EV (.bool ((((((((b && T1) && T2) && T3) && T4) && T5) && T6) && T7) && T8)) (a.tmps.getD 232 undef) w := e232; replace e234 : ((((((((b && T1) && T2) && T3) && T4) && T5) && T6) && T7) && T8) = true → a.tmps.getD 234 undef = _ := e234; replace e236 : ((((((((b && T1) && T2) && T3) && T4) && T5) && T6) && T7) && T8) = true → a.tmps.getD 236 undef = _ := e236; refine rg_when rfl rfl e232 (fun hgd K hK => ?_) (fun hn h => absurd h hn); replace e234 := e234 hgd; replace e236 := e236 hgd; clear e232; have q := HT9.out; go_simp
  exact hK _ _ (fun _ => rfl) (Only.refl _ _)
 refine ⟨EV (.bool (((((((((b && T1) && T2) && T3) && T4) && T5) && T6) && T7) && T8) && T9)), EV.stable _, fun a w hR hf => ?_, ?_⟩
 ·obtain ⟨e232, e237, -⟩ := hf; replace e232 : EV (.bool ((((((((b && T1) && T2) && T3) && T4) && T5) && T6) && T7) && T8)) (a.tmps.getD 232 undef) w := e232; replace e237 : ((((((((b && T1) && T2) && T3) && T4) && T5) && T6) && T7) && T8) = true → a.tmps.getD 237 undef = _ := e237; refine rg_plain rfl fun K hK => ?_; exact rg_pick rfl e232 e237 (hK _ _ rfl (Only.refl _ _))
 refine ⟨EV (.bool (((((((((b && T1) && T2) && T3) && T4) && T5) && T6) && T7) && T8) && T9)), EV.stable _, fun a w hR hf => ?_, ?_⟩
 ·obtain ⟨e238, -⟩ := hf; replace e238 : EV (.bool (((((((((b && T1) && T2) && T3) && T4) && T5) && T6) && T7) && T8) && T9)) (a.tmps.getD 238 undef) w := e238; refine rg_plain rfl fun K hK => ?_; generalize hv238 : a.tmps.getD 238 undef = v238 at e238; go_simp; exact hK _ _ e238 (Only.refl _ _)
 apply rg_wv ((((((((((b && T1) && T2) && T3) && T4) && T5) && T6) && T7) && T8) && T9))
 ·intro a w hR hf; obtain ⟨e239, e3, -⟩ := hf; replace e239 : EV (.bool (((((((((b && T1) && T2) && T3) && T4) && T5) && T6) && T7) && T8) && T9)) (a.tmps.getD 239 undef) w := e239; replace e3 : a.tmps.getD 3 undef = _ := e3; refine rg_when rfl rfl e239 (fun hgd K hK => ?_) (fun hn h => absurd h hn); clear e239; go_simp; exact hK _ _ (fun _ => rfl) (Only.refl _ _)
 apply rg_wv ((((((((((b && T1) && T2) && T3) && T4) && T5) && T6) && T7) && T8) && T9))
 ·intro a w hR hf; obtain ⟨e239, e240, -⟩ := hf; replace e239 : EV (.bool (((((((((b && T1) && T2) && T3) && T4) && T5) && T6) && T7) && T8) && T9)) (a.tmps.getD 239 undef) w := e239; replace e240 : (((((((((b && T1) && T2) && T3) && T4) && T5) && T6) && T7) && T8) && T9) = true → a.tmps.getD 240 undef = _ := e240; refine rg_when rfl rfl e239 (fun hgd K hK => ?_) (fun hn h => absurd h hn); replace e240 := e240 hgd; clear e239; have c17 := (HZ.out.only0 hR).cell (i := 17) rfl; go_simp; exact hK _ _ (fun _ => rfl) (Only.refl _ _)
 apply rg_wv ((((((((((b && T1) && T2) && T3) && T4) && T5) && T6) && T7) && T8) && T9))
 ·intro a w hR hf; obtain ⟨e239, e1, -⟩ := hf; replace e239 : EV (.bool (((((((((b && T1) && T2) && T3) && T4) && T5) && T6) && T7) && T8) && T9)) (a.tmps.getD 239 undef) w := e239; replace e1 : a.tmps.getD 1 undef = _ := e1; refine rg_when rfl rfl e239 (fun hgd K hK => ?_) (fun hn h => absurd h hn); clear e239; go_simp; exact hK _ _ (fun _ => rfl) (Only.refl _ _)
 apply rg_wv ((((((((((b && T1) && T2) && T3) && T4) && T5) && T6) && T7) && T8) && T9))
 ·intro a w hR hf; obtain ⟨e239, e242, -⟩ := hf; replace e239 : EV (.bool (((((((((b && T1) && T2) && T3) && T4) && T5) && T6) && T7) && T8) && T9)) (a.tmps.getD 239 undef) w := e239; replace e242 : (((((((((b && T1) && T2) && T3) && T4) && T5) && T6) && T7) && T8) && T9) = true → a.tmps.getD 242 undef = _ := e242; refine rg_when rfl rfl e239 (fun hgd K hK => ?_) (fun hn h => absurd h hn); replace e242 := e242 hgd; clear e239; have c17 := (HX.out.only0 hR).cell (i := 17) rfl; go_simp; exact hK _ _ (fun _ => rfl) (Only.refl _ _)
 apply rg_wv ((((((((((b && T1) && T2) && T3) && T4) && T5) && T6) && T7) && T8) && T9))
 ·intro a w hR hf; obtain ⟨e239, e241, e243, -⟩ := hf; replace e239 : EV (.bool (((((((((b && T1) && T2) && T3) && T4) && T5) && T6) && T7) && T8) && T9)) (a.tmps.getD 239 undef) w := e239; replace e241 : (((((((((b && T1) && T2) && T3) && T4) && T5) && T6) && T7) && T8) && T9) = true → a.tmps.getD 241 undef = _ := e241; replace e243 : (((((((((b && T1) && T2) && T3) && T4) && T5) && T6) && T7) && T8) && T9) = true → a.tmps.getD 243 undef = _ := e243; refine rg_when rfl rfl e239 (fun hgd K hK => ?_) (fun hn h => absurd h hn); replace e241 := e241 hgd; replace e243 := e243 hgd; clear e239; have q := HT10.out
  go_simp; exact hK _ _ (fun _ => rfl) (Only.refl _ _)
 refine ⟨EV (.bool ((((((((((b && T1) && T2) && T3) && T4) && T5) && T6) && T7) && T8) && T9) && T10)), EV.stable _, fun a w hR hf => ?_, ?_⟩
 ·obtain ⟨e239, e244, -⟩ := hf; replace e239 : EV (.bool (((((((((b && T1) && T2) && T3) && T4) && T5) && T6) && T7) && T8) && T9)) (a.tmps.getD 239 undef) w := e239; replace e244 : (((((((((b && T1) && T2) && T3) && T4) && T5) && T6) && T7) && T8) && T9) = true → a.tmps.getD 244 undef = _ := e244; refine rg_plain rfl fun K hK => ?_; exact rg_pick rfl e239 e244 (hK _ _ rfl (Only.refl _ _))
 refine ⟨EV (.bool ((((((((((b && T1) && T2) && T3) && T4) && T5) && T6) && T7) && T8) && T9) && T10)), EV.stable _, fun a w hR hf => ?_, ?_⟩
 ·obtain ⟨e245, -⟩ := hf; replace e245 : EV (.bool ((((((((((b && T1) && T2) && T3) && T4) && T5) && T6) && T7) && T8) && T9) && T10)) (a.tmps.getD 245 undef) w := e245; refine rg_plain rfl fun K hK => ?_; generalize hv245 : a.tmps.getD 245 undef = v245 at e245; go_simp; exact hK _ _ e245 (Only.refl _ _)
 apply rg_wv (((((((((((b && T1) && T2) && T3) && T4) && T5) && T6) && T7) && T8) && T9) && T10))
 ·intro a w hR hf; obtain ⟨e246, e3, -⟩ := hf; replace e246 : EV (.bool ((((((((((b && T1) && T2) && T3) && T4) && T5) && T6) && T7) && T8) && T9) && T10)) (a.tmps.getD 246 undef) w := e246; replace e3 : a.tmps.getD 3 undef = _ := e3; refine rg_when rfl rfl e246 (fun hgd K hK => ?_) (fun hn h => absurd h hn); clear e246; go_simp; exact hK _ _ (fun _ => rfl) (Only.refl _ _)
 apply rg_wv (((((((((((b && T1) && T2) && T3) && T4) && T5) && T6) && T7) && T8) && T9) && T10))
 ·intro a w hR hf; obtain ⟨e246, e247, -⟩ := hf; replace e246 : EV (.bool ((((((((((b && T1) && T2) && T3) && T4) && T5) && T6) && T7) && T8) && T9) && T10)) (a.tmps.getD 246 undef) w := e246; replace e247 : ((((((((((b && T1) && T2) && T3) && T4) && T5) && T6) && T7) && T8) && T9) && T10) = true → a.tmps.getD 247 undef = _ := e247; refine rg_when rfl rfl e246 (fun hgd K hK => ?_) (fun hn h => absurd h hn); replace e247 := e247 hgd; clear e246; have c15 := (HZ.out.only0 hR).cell (i := 15) rfl; go_simp; exact hK _ _ (fun _ => rfl) (Only.refl _ _)
 apply rg_wv (((((((((((b && T1) && T2) && T3) && T4) && T5) && T6) && T7) && T8) && T9) && T10))
 ·intro a w hR hf; obtain ⟨e246, e248, -⟩ := hf; replace e246 : EV (.bool ((((((((((b && T1) && T2) && T3) && T4) && T5) && T6) && T7) && T8) && T9) && T10)) (a.tmps.getD 246 undef) w := e246; replace e248 : ((((((((((b && T1) && T2) && T3) && T4) && T5) && T6) && T7) && T8) && T9) && T10) = true → a.tmps.getD 248 undef = _ := e248; refine rg_when rfl rfl e246 (fun hgd K hK => ?_) (fun hn h => absurd h hn); replace e248 := e248 hgd; clear e246; go_simp; exact hK _ _ (fun _ => rfl) (Only.refl _ _)
 apply rg_wv (((((((((((b && T1) && T2) && T3) && T4) && T5) && T6) && T7) && T8) && T9) && T10))
 ·intro a w hR hf; obtain ⟨e246, e1, -⟩ := hf; replace e246 : EV (.bool ((((((((((b && T1) && T2) && T3) && T4) && T5) && T6) && T7) && T8) && T9) && T10)) (a.tmps.getD 246 undef) w := e246; replace e1 : a.tmps.getD 1 undef = _ := e1; refine rg_when rfl rfl e246 (fun hgd K hK => ?_) (fun hn h => absurd h hn); clear e246; go_simp; exact hK _ _ (fun _ => rfl) (Only.refl _ _)
 apply rg_wv (((((((((((b && T1) && T2) && T3) && T4) && T5) && T6) && T7) && T8) && T9) && T10))
 ·intro a w hR hf; obtain ⟨e246, e250, -⟩ := hf; replace e246 : EV (.bool ((((((((((b && T1) && T2) && T3) && T4) && T5) && T6) && T7) && T8) && T9) && T10)) (a.tmps.getD 246 undef) w := e246; replace e250 : ((((((((((b && T1) && T2) && T3) && T4) && T5) && T6) && T7) && T8) && T9) && T10) = true → a.tmps.getD 250 undef = _ := e250; refine rg_when rfl rfl e246 (fun hgd K hK => ?_) (fun hn h => absurd h hn); replace e250 := e250 hgd; clear e246; have c15 := (HX.out.only0 hR).cell (i := 15) rfl; go_simp; exact hK _ _ (fun _ => rfl) (Only.refl _ _)
 apply rg_wv (((((((((((b && T1) && T2) && T3) && T4) && T5) && T6) && T7) && T8) && T9) && T10))
 ·intro a w hR hf; obtain ⟨e246, e251, -⟩ := hf; replace e246 : EV (.bool ((((((((((b && T1) && T2) && T3) && T4) && T5) && T6) && T7) && T8) && T9) && T10)) (a.tmps.getD 246 undef) w := e246; replace e251 : ((((((((((b && T1) && T2) && T3) && T4) && T5) && T6) && T7) && T8) && T9) && T10) = true → a.tmps.getD 251 undef = _ := e251; refine rg_when rfl rfl e246 (fun hgd K hK => ?_) (fun hn h => absurd h hn); replace e251 := e251 hgd; clear e246; go_simp; exact hK _ _ (fun _ => rfl) (Only.refl _ _)
 apply rg_wv (((((((((((b && T1) && T2) && T3) && T4) && T5) && T6) && T7) && T8) && T9) && T10))
 ·intro a w hR hf; obtain ⟨e246, e249, e252, -⟩ := hf; replace e246 : EV (.bool ((((((((((b && T1) && T2) && T3) && T4) && T5) && T6) && T7) && T8) && T9) && T10)) (a.tmps.getD 246 undef) w := e246; replace e249 : ((((((((((b && T1) && T2) && T3) && T4) && T5) && T6) && T7) && T8) && T9) && T10) = true → a.tmps.getD 249 undef = _ := e249; replace e252 : ((((((((((b && T1) && T2) && T3) && T4) && T5) && T6) && T7) && T8) && T9) && T10) = true → a.tmps.getD 252 undef = _ := e252; refine rg_when rfl rfl e246 (fun hgd K hK => ?_) (fun hn h => absurd h hn); replace e249 := e249 hgd; replace e252 := e252 hgd
  clear e246; have q := HT11.out; go_simp; exact hK _ _ (fun _ => rfl) (Only.refl _ _)
 refine ⟨EV (.bool (((((((((((b && T1) && T2) && T3) && T4) && T5) && T6) && T7) && T8) && T9) && T10) && T11)), EV.stable _, fun a w hR hf => ?_, ?_⟩
 ·obtain ⟨e246, e253, -⟩ := hf; replace e246 : EV (.bool ((((((((((b && T1) && T2) && T3) && T4) && T5) && T6) && T7) && T8) && T9) && T10)) (a.tmps.getD 246 undef) w := e246; replace e253 : ((((((((((b && T1) && T2) && T3) && T4) && T5) && T6) && T7) && T8) && T9) && T10) = true → a.tmps.getD 253 undef = _ := e253; refine rg_plain rfl fun K hK => ?_; exact rg_pick rfl e246 e253 (hK _ _ rfl (Only.refl _ _))
 refine ⟨EV (.bool (((((((((((b && T1) && T2) && T3) && T4) && T5) && T6) && T7) && T8) && T9) && T10) && T11)), EV.stable _, fun a w hR hf => ?_, ?_⟩
 ·obtain ⟨e254, -⟩ := hf; replace e254 : EV (.bool (((((((((((b && T1) && T2) && T3) && T4) && T5) && T6) && T7) && T8) && T9) && T10) && T11)) (a.tmps.getD 254 undef) w := e254; refine rg_plain rfl fun K hK => ?_; generalize hv254 : a.tmps.getD 254 undef = v254 at e254; go_simp; exact hK _ _ e254 (Only.refl _ _)
 intro f w hR hf; dsimp only [mergeT]; obtain ⟨e2, -⟩ := hf; replace e2 : EV (.bool (((((((((((b && T1) && T2) && T3) && T4) && T5) && T6) && T7) && T8) && T9) && T10) && T11)) (f 2) w := e2; refine hK0 _ _ ?_; refine wp_ret (HE.out _ ((((((((((((b && T1) && T2) && T3) && T4) && T5) && T6) && T7) && T8) && T9) && T10) && T11)) _ e2 rfl (fun hv => ?_) hR); simp only [Bool.and_eq_true] at hv; obtain ⟨⟨⟨⟨⟨⟨⟨⟨⟨⟨⟨v0, v1⟩, v2⟩, v3⟩, v4⟩, v5⟩, v6⟩, v7⟩, v8⟩, v9⟩, v10⟩, v11⟩ := hv; have d1 := HT1.out.trans v1; replace d1 := of_decide_eq_true d1; have d2 := HT2.out.trans v2; replace d2 := of_decide_eq_true d2
 have d3 := HT3.out.trans v3; replace d3 := of_decide_eq_true d3; have d4 := HT4.out.trans v4; replace d4 := of_decide_eq_true d4; have d5 := HT5.out.trans v5; replace d5 := of_decide_eq_true d5; have d6 := HT6.out.trans v6; replace d6 := of_decide_eq_true d6; have d7 := HT7.out.trans v7; replace d7 := of_decide_eq_true d7; have d8 := HT8.out.trans v8; replace d8 := beq_iff_eq.1 d8; have d9 := HT9.out.trans v9; replace d9 := beq_iff_eq.1 d9; have d10 := HT10.out.trans v10; replace d10 := beq_iff_eq.1 d10; have d11 := HT11.out.trans v11; replace d11 := beq_iff_eq.1 d11; exact ⟨v0, d1, d2, d3, d4, d5, d6, d7, d8, d9, d10, by omega⟩
end Go.Proofs.Ytfeglnpmpgipiaa
end
section
set_option linter.unusedVariables false
set_option maxRecDepth 100000
namespace Go.Proofs.Ytfeglnpmpgipiaa
open Go.RowKit
def fstC : Code → Code
 | .seq a _ => a
 | c => c
def sndN : Nat → Code → Code
 | 0, c => c
 | n + 1, c => sndN n (sndC c)
noncomputable def inFormP (k : Nat) : Code := fstC (sndN k ((Try.f14.body).getD .skip))
def zeroCm (k : Int) (i : Cid) : LCmd := ⟨⟨k, i, [], [], ⟨0, 0, 0⟩, ⟨⟨0, 0, 0⟩, 0, []⟩, 0, [], 0, 0⟩, none, 0⟩
set_option maxHeartbeats 16000000 in
theorem inForm_pre {Q : Exit → Act → World → Prop} {c1 c2 c3 c4 c5 c6 c7 c8 c9 c10 c11 c12 c13 c14 c15 c16 c17 c18 c19 c20 c21 c22 c23 c24 c25 c26 c27 c28 c29 c30 c31 c32 c33 c34 c35 c36 c37 c38 c39 c40 c41 c42 c43 c44 c45 c46 c47 c48 c49 c50 c51 c52 c53 c54 c55 c56 c57 c58 c59 c60 c61 c62 c63 c64 c65 c66 c67 c68 c69 c70 c71 c72 c73 c74 c75 c76 c77 c78 c79 c80 c81 c82 c83 c84 c85 c86 c87 c88 c89 c90 c91 c92 c93 c94 c95 c96 c97 c98 c99 c100 c101 c102 c103 c104 c105 c106 c107 c108 c109 c110 c111 c112 c113 c114 c115 c116 c117 c118 c119 c120 c121 c122 c123 c124 c125 c126 c127 c128 c129 c130 c131 c132 c133 c134 c135 c136 c137 c138 c139 c140 c141 c142 c143 c144 c145 c146 c147 c148 c149 c150 c151 c152 c153 c154 c155 c156 c157 c158 c159 c160 c161 c162 c163 c164 c165 c166 c167 c168 c169 c170 c171 c172 c173 c174 c175 c176 c177 c178 c179 c180 c181 c182 c183 c184 c185 c186 c187 c188 c189 c190 c191 c192 c193 c194 c195 c196 c197 c198 c199 c200 c201 c202 c203 c204 c205 c206 c207 c208 c209 c210 c211 c212 c213 c214 c215 c216 c217 c218 c219 c220 c221 c222 c223 c224 c225 c226 c227 c228 c229 c230 c231 c232 c233 c234 c235 c236 c237 c238 c239 c240 c241 c242 c243 c244 c245 c246 c247 c248 c249 c250 c251 c252 c253 c254 : Value} (Y : Code) (m : LCmd) (w0 : World)
  (hret : ∀ (a : Act) (w' : World), a.tmps.getD 2 undef = .bool false → a.defers = [] → Only [] w0 w' → Q .ret a w')
  (hexit : ∀ (u9 u10 u11 u12 u13 u14 u15 u16 u17 : Value) (X Z : Nat) (w' : World), X ≠ Z → Row w' X 43 (lmCells m) → Row w' Z 43 (lmCells (zeroCm m.x.kind m.x.id)) → Only [] w0 w' → w0.heap.size ≤ Z → idOk m.x.id.node m.x.id.boot m.x.id.seq → Y.wp Try.prog Q ⟨(lmV m :: .pointer (some ⟨X, 0, none⟩) :: .bool false :: .pointer (some ⟨Z, 0, none⟩) :: c4 :: c5 :: c6 :: c7 :: c8 :: u9 :: u10 :: u11 :: u12 :: u13 :: u14 :: u15 :: u16 :: u17 :: c18 :: c19 :: c20 :: c21 :: c22 :: c23 :: c24 :: c25 :: c26 :: c27 :: c28 :: c29 :: c30 :: c31 :: c32 :: c33 :: c34 :: c35 :: c36 :: c37 :: c38 :: c39 :: c40 :: c41 :: c42 :: c43 :: c44 :: c45 :: c46 :: c47 :: c48 :: c49 :: c50 :: c51 :: c52 :: c53 :: c54 :: c55 :: c56 :: c57 :: c58 :: c59 :: c60 :: c61 :: c62 :: c63 :: c64 :: c65 :: c66 :: c67 :: c68 :: c69 :: c70 :: c71 :: c72 :: c73 :: c74 :: c75 :: c76 :: c77 :: c78 :: c79 :: c80 :: c81 :: c82 :: c83 :: c84 :: c85 :: c86 :: c87 :: c88 :: c89 :: c90 :: c91 :: c92 :: c93 :: c94 :: c95 :: c96 :: c97 :: c98 :: c99 :: c100 :: c101 :: c102 :: c103 :: c104 :: c105 :: c106 :: c107 :: c108 :: c109 :: c110 :: c111 :: c112 :: c113 :: c114 :: c115 :: c116 :: c117 :: c118 :: c119 :: c120 :: c121 :: c122 :: c123 :: c124 :: c125 :: c126 :: c127 :: c128 :: c129 :: c130 :: c131 :: c132 :: c133 :: c134 :: c135 :: c136 :: c137 :: c138 :: c139 :: c140 :: c141 :: c142 :: c143 :: c144 :: c145 :: c146 :: c147 :: c148 :: c149 :: c150 :: c151 :: c152 :: c153 :: c154 :: c155 :: c156 :: c157 :: c158 :: c159 :: c160 :: c161 :: c162 :: c163 :: c164 :: c165 :: c166 :: c167 :: c168 :: c169 :: c170 :: c171 :: c172 :: c173 :: c174 :: c175 :: c176 :: c177 :: c178 :: c179 :: c180 :: c181 :: c182 :: c183 :: c184 :: c185 :: c186 :: c187 :: c188 :: c189 :: c190 :: c191 :: c192 :: c193 :: c194 :: c195 :: c196 :: c197 :: c198 :: c199 :: c200 :: c201 :: c202 :: c203 :: c204 :: c205 :: c206 :: c207 :: c208 :: c209 :: c210 :: c211 :: c212 :: c213 :: c214 :: c215 :: c216 :: c217 :: c218 :: c219 :: c220 :: c221 :: c222 :: c223 :: c224 :: c225 :: c226 :: c227 :: c228 :: c229 :: c230 :: c231 :: c232 :: c233 :: c234 :: c235 :: c236 :: c237 :: c238 :: c239 :: c240 :: c241 :: c242 :: c243 :: c244 :: c245 :: c246 :: c247 :: c248 :: c249 :: c250 :: c251 :: c252 :: c253 :: c254 :: []).toArray, []⟩ w') :
  Code.wp Try.prog (Code.seq (inFormP 0) (Code.seq (inFormP 1) (Code.seq (inFormP 2) Y))) Q ⟨(lmV m :: c1 :: c2 :: c3 :: c4 :: c5 :: c6 :: c7 :: c8 :: c9 :: c10 :: c11 :: c12 :: c13 :: c14 :: c15 :: c16 :: c17 :: c18 :: c19 :: c20 :: c21 :: c22 :: c23 :: c24 :: c25 :: c26 :: c27 :: c28 :: c29 :: c30 :: c31 :: c32 :: c33 :: c34 :: c35 :: c36 :: c37 :: c38 :: c39 :: c40 :: c41 :: c42 :: c43 :: c44 :: c45 :: c46 :: c47 :: c48 :: c49 :: c50 :: c51 :: c52 :: c53 :: c54 :: c55 :: c56 :: c57 :: c58 :: c59 :: c60 :: c61 :: c62 :: c63 :: c64 :: c65 :: c66 :: c67 :: c68 :: c69 :: c70 :: c71 :: c72 :: c73 :: c74 :: c75 :: c76 :: c77 :: c78 :: c79 :: c80 :: c81 :: c82 :: c83 :: c84 :: c85 :: c86 :: c87 :: c88 :: c89 :: c90 :: c91 :: c92 :: c93 :: c94 :: c95 :: c96 :: c97 :: c98 :: c99 :: c100 :: c101 :: c102 :: c103 :: c104 :: c105 :: c106 :: c107 :: c108 :: c109 :: c110 :: c111 :: c112 :: c113 :: c114 :: c115 :: c116 :: c117 :: c118 :: c119 :: c120 :: c121 :: c122 :: c123 :: c124 :: c125 :: c126 :: c127 :: c128 :: c129 :: c130 :: c131 :: c132 :: c133 :: c134 :: c135 :: c136 :: c137 :: c138 :: c139 :: c140 :: c141 :: c142 :: c143 :: c144 :: c145 :: c146 :: c147 :: c148 :: c149 :: c150 :: c151 :: c152 :: c153 :: c154 :: c155 :: c156 :: c157 :: c158 :: c159 :: c160 :: c161 :: c162 :: c163 :: c164 :: c165 :: c166 :: c167 :: c168 :: c169 :: c170 :: c171 :: c172 :: c173 :: c174 :: c175 :: c176 :: c177 :: c178 :: c179 :: c180 :: c181 :: c182 :: c183 :: c184 :: c185 :: c186 :: c187 :: c188 :: c189 :: c190 :: c191 :: c192 :: c193 :: c194 :: c195 :: c196 :: c197 :: c198 :: c199 :: c200 :: c201 :: c202 :: c203 :: c204 :: c205 :: c206 :: c207 :: c208 :: c209 :: c210 :: c211 :: c212 :: c213 :: c214 :: c215 :: c216 :: c217 :: c218 :: c219 :: c220 :: c221 :: c222 :: c223 :: c224 :: c225 :: c226 :: c227 :: c228 :: c229 :: c230 :: c231 :: c232 :: c233 :: c234 :: c235 :: c236 :: c237 :: c238 :: c239 :: c240 :: c241 :: c242 :: c243 :: c244 :: c245 :: c246 :: c247 :: c248 :: c249 :: c250 :: c251 :: c252 :: c253 :: c254 :: []).toArray, []⟩ w0 := by
 obtain ⟨w1, hw1⟩ : ∃ w1, w1 = w0.alloc (.cells #[.int .i64 m.x.kind, .int .i64 m.x.id.node, .int .i64 m.x.id.boot, .int .i64 m.x.id.seq, .string (str m.x.bucket), .string (str m.x.key), .int .i64 m.x.upload.node, .int .i64 m.x.upload.boot, .int .i64 m.x.upload.seq, .int .i64 m.x.piece.blob.node, .int .i64 m.x.piece.blob.boot, .int .i64 m.x.piece.blob.seq, .int .i64 m.x.piece.size, .string (str m.x.piece.etag), .int .i64 m.x.part, .slice m.p m.x.parts.length m.c, .int .i64 m.x.time, .int .i64 m.x.days] 43) := ⟨_, rfl⟩; have o1 : Only [] w0 w1 := (by rw [hw1]; exact Only.alloc _ _); have r1 : Row w1 w0.heap.size 43 (lmCells m) := by rw [hw1]; exact Row.newOf _ _ _ _ rfl
 have c1' := r1.cell (i := 1) rfl; have c2' := r1.cell (i := 2) rfl; have c3' := r1.cell (i := 3) rfl; have hid := goodId_any m.x.id.node m.x.id.boot m.x.id.seq w1; rw [hw1] at c1' c2' c3' hid; have HO1 := Lib.hid o1; have HR1 := Lib.hid r1; have Hw := Lib.hid hw1; have HRet := Lib.hid hret; have HE := Lib.hid hexit; unfold lmV; clear o1 r1 hw1 hret hexit; refine wp_seq_k fun K0 h0 => ?_
 conv => arg 2; whnf
 go_wp2_with fail
 conv => arg 2; whnf
 go_wp2_with fail; (with_reducible refine hid.mono ?_); clear hid c1' c2' c3'; rw [← Hw.out]; rintro e w2 ⟨rfl, o2⟩; obtain ⟨gv, hgv⟩ : ∃ gv, decide (idOk m.x.id.node m.x.id.boot m.x.id.seq) = gv := ⟨_, rfl⟩; rw [hgv]; have Hgv := Lib.hid hgv; clear hgv; have HO2 := Lib.hid (HO1.out.trans0 o2); have HR2 := Lib.hid (HR1.out.only0 o2); clear o2
 cases gv with
 | false =>
  go_wp2_with fail; exact HRet.out _ _ rfl rfl HO2.out
 | true =>
  go_wp2_with fail
  conv => arg 2; whnf
  have c0' := HR2.out.cell (i := 0) rfl; have c1' := HR2.out.cell (i := 1) rfl; have c2' := HR2.out.cell (i := 2) rfl; have c3' := HR2.out.cell (i := 3) rfl; go_wp2_with fail; obtain ⟨w3, hw3⟩ : ∃ w3, w3 = w2.alloc (.cells (lmCells (zeroCm m.x.kind m.x.id)).toArray 43) := ⟨_, rfl⟩; have o3 : Only [] w2 w3 := (by rw [hw3]; exact Only.alloc _ _); have r3 : Row w3 w2.heap.size 43 (lmCells (zeroCm m.x.kind m.x.id)) := (by rw [hw3]; exact Row.newOf _ _ _ _ rfl); have hlt := HR2.out.lt; have hne : w0.heap.size ≠ w2.heap.size := (by omega); have hz := HO2.out.size; exact hw3 ▸ HE.out _ _ _ _ _ _ _ _ _ _ _ _ hne (HR2.out.only0 o3) r3 (HO2.out.trans0 o3) hz (of_decide_eq_true Hgv.out)
end Go.Proofs.Ytfeglnpmpgipiaa
end
section
set_option linter.unusedVariables false
set_option maxRecDepth 100000
namespace Go.Proofs.Ytfeglnpmpgipiaa
open Go.RowKit
structure MidOk (m z : LCmd) (b : Bool) : Prop where
 zz : z = ⟨⟨m.x.kind, m.x.id, z.x.bucket, z.x.key, ⟨0, 0, 0⟩, ⟨⟨0, 0, 0⟩, 0, []⟩, 0, [], 0, 0⟩, none, 0⟩
 bk : (b = true → z.x.bucket = m.x.bucket → m.x.bucket.length ≤ 63)
 ky : (b = true → z.x.key = m.x.key → m.x.key.length ≤ 200)
structure Short (m : LCmd) : Prop where
 bk : m.x.bucket.length ≤ 140737488355328
 ky : m.x.key.length ≤ 140737488355328
 et : m.x.piece.etag.length ≤ 140737488355328
 ps : m.x.parts.length ≤ 140737488355328
set_option maxHeartbeats 16000000 in
theorem inForm_mid {Q : Exit → Act → World → Prop} {c0 c2 c4 c5 c6 c7 c8 c9 c10 c11 c12 c13 c14 c15 c16 c17 c18 c19 c20 c21 c22 c23 c24 c25 c26 c27 c28 c29 c30 c31 c32 c33 c34 c35 c36 c37 c38 c39 c40 c41 c42 c43 c44 c45 c46 c47 c48 c49 c50 c51 c52 c53 c54 c55 c56 c57 c58 c59 c60 c61 c62 c63 c64 c65 c66 c67 c68 c69 c70 c71 c72 c73 c74 c75 c76 c77 c78 c79 c80 c81 c82 c83 c84 c85 c86 c87 c88 c89 c90 c91 c92 c93 c94 c95 c96 c97 c98 c99 c100 c101 c102 c103 c104 c105 c106 c107 c108 c109 c110 c111 c112 c113 c114 c115 c116 c117 c118 c119 c120 c121 c122 c123 c124 c125 c126 c127 c128 c129 c130 c131 c132 c133 c134 c135 c136 c137 c138 c139 c140 c141 c142 c143 c144 c145 c146 c147 c148 c149 c150 c151 c152 c153 c154 c155 c156 c157 c158 c159 c160 c161 c162 c163 c164 c165 c166 c167 c168 c169 c170 c171 c172 c173 c174 c175 c176 c177 c178 c179 c180 c181 c182 c183 c184 c185 c186 c187 c188 c189 c190 c191 c192 c193 c194 c195 c196 c197 c198 c199 c200 c201 c202 c203 c204 c205 c206 c207 c208 c209 c210 c211 c212 c213 c214 c215 c216 c217 c218 c219 c220 c221 c222 c223 c224 c225 c226 c227 c228 c229 c230 c231 c232 c233 c234 c235 c236 c237 c238 c239 c240 c241 c242 c243 c244 c245 c246 c247 c248 c249 c250 c251 c252 c253 c254 : Value} (Y : Code) (m : LCmd) (X Z : Nat) (w0 : World) (hne : X ≠ Z) (rX : Row w0 X 43 (lmCells m)) (rZ : Row w0 Z 43 (lmCells (zeroCm m.x.kind m.x.id))) (hs : Short m)
  (hexit : ∀ (u5 u6 u18 u19 u20 u21 u22 u23 u24 u25 u26 u27 u28 u29 u30 u31 u32 u33 u34 u35 u36 u37 u38 u39 u40 u41 u42 u43 u44 u45 u46 u47 u48 u49 u50 : Value) (b : Bool) (z : LCmd) (w' : World), Row w' X 43 (lmCells m) → Row w' Z 43 (lmCells z) → Only [Z] w0 w' → MidOk m z b → Y.wp Try.prog Q ⟨(c0 :: .pointer (some ⟨X, 0, none⟩) :: c2 :: .pointer (some ⟨Z, 0, none⟩) :: .bool b :: u5 :: u6 :: c7 :: c8 :: c9 :: c10 :: c11 :: c12 :: c13 :: c14 :: c15 :: c16 :: c17 :: u18 :: u19 :: u20 :: u21 :: u22 :: u23 :: u24 :: u25 :: u26 :: u27 :: u28 :: u29 :: u30 :: u31 :: u32 :: u33 :: u34 :: u35 :: u36 :: u37 :: u38 :: u39 :: u40 :: u41 :: u42 :: u43 :: u44 :: u45 :: u46 :: u47 :: u48 :: u49 :: u50 :: c51 :: c52 :: c53 :: c54 :: c55 :: c56 :: c57 :: c58 :: c59 :: c60 :: c61 :: c62 :: c63 :: c64 :: c65 :: c66 :: c67 :: c68 :: c69 :: c70 :: c71 :: c72 :: c73 :: c74 :: c75 :: c76 :: c77 :: c78 :: c79 :: c80 :: c81 :: c82 :: c83 :: c84 :: c85 :: c86 :: c87 :: c88 :: c89 :: c90 :: c91 :: c92 :: c93 :: c94 :: c95 :: c96 :: c97 :: c98 :: c99 :: c100 :: c101 :: c102 :: c103 :: c104 :: c105 :: c106 :: c107 :: c108 :: c109 :: c110 :: c111 :: c112 :: c113 :: c114 :: c115 :: c116 :: c117 :: c118 :: c119 :: c120 :: c121 :: c122 :: c123 :: c124 :: c125 :: c126 :: c127 :: c128 :: c129 :: c130 :: c131 :: c132 :: c133 :: c134 :: c135 :: c136 :: c137 :: c138 :: c139 :: c140 :: c141 :: c142 :: c143 :: c144 :: c145 :: c146 :: c147 :: c148 :: c149 :: c150 :: c151 :: c152 :: c153 :: c154 :: c155 :: c156 :: c157 :: c158 :: c159 :: c160 :: c161 :: c162 :: c163 :: c164 :: c165 :: c166 :: c167 :: c168 :: c169 :: c170 :: c171 :: c172 :: c173 :: c174 :: c175 :: c176 :: c177 :: c178 :: c179 :: c180 :: c181 :: c182 :: c183 :: c184 :: c185 :: c186 :: c187 :: c188 :: c189 :: c190 :: c191 :: c192 :: c193 :: c194 :: c195 :: c196 :: c197 :: c198 :: c199 :: c200 :: c201 :: c202 :: c203 :: c204 :: c205 :: c206 :: c207 :: c208 :: c209 :: c210 :: c211 :: c212 :: c213 :: c214 :: c215 :: c216 :: c217 :: c218 :: c219 :: c220 :: c221 :: c222 :: c223 :: c224 :: c225 :: c226 :: c227 :: c228 :: c229 :: c230 :: c231 :: c232 :: c233 :: c234 :: c235 :: c236 :: c237 :: c238 :: c239 :: c240 :: c241 :: c242 :: c243 :: c244 :: c245 :: c246 :: c247 :: c248 :: c249 :: c250 :: c251 :: c252 :: c253 :: c254 :: []).toArray, []⟩ w') :
  Code.wp Try.prog (Code.seq (inFormP 3) (Code.seq (inFormP 4) (Code.seq (inFormP 5) (Code.seq (inFormP 6) (Code.seq (inFormP 7) Y))))) Q ⟨(c0 :: .pointer (some ⟨X, 0, none⟩) :: c2 :: .pointer (some ⟨Z, 0, none⟩) :: c4 :: c5 :: c6 :: c7 :: c8 :: c9 :: c10 :: c11 :: c12 :: c13 :: c14 :: c15 :: c16 :: c17 :: c18 :: c19 :: c20 :: c21 :: c22 :: c23 :: c24 :: c25 :: c26 :: c27 :: c28 :: c29 :: c30 :: c31 :: c32 :: c33 :: c34 :: c35 :: c36 :: c37 :: c38 :: c39 :: c40 :: c41 :: c42 :: c43 :: c44 :: c45 :: c46 :: c47 :: c48 :: c49 :: c50 :: c51 :: c52 :: c53 :: c54 :: c55 :: c56 :: c57 :: c58 :: c59 :: c60 :: c61 :: c62 :: c63 :: c64 :: c65 :: c66 :: c67 :: c68 :: c69 :: c70 :: c71 :: c72 :: c73 :: c74 :: c75 :: c76 :: c77 :: c78 :: c79 :: c80 :: c81 :: c82 :: c83 :: c84 :: c85 :: c86 :: c87 :: c88 :: c89 :: c90 :: c91 :: c92 :: c93 :: c94 :: c95 :: c96 :: c97 :: c98 :: c99 :: c100 :: c101 :: c102 :: c103 :: c104 :: c105 :: c106 :: c107 :: c108 :: c109 :: c110 :: c111 :: c112 :: c113 :: c114 :: c115 :: c116 :: c117 :: c118 :: c119 :: c120 :: c121 :: c122 :: c123 :: c124 :: c125 :: c126 :: c127 :: c128 :: c129 :: c130 :: c131 :: c132 :: c133 :: c134 :: c135 :: c136 :: c137 :: c138 :: c139 :: c140 :: c141 :: c142 :: c143 :: c144 :: c145 :: c146 :: c147 :: c148 :: c149 :: c150 :: c151 :: c152 :: c153 :: c154 :: c155 :: c156 :: c157 :: c158 :: c159 :: c160 :: c161 :: c162 :: c163 :: c164 :: c165 :: c166 :: c167 :: c168 :: c169 :: c170 :: c171 :: c172 :: c173 :: c174 :: c175 :: c176 :: c177 :: c178 :: c179 :: c180 :: c181 :: c182 :: c183 :: c184 :: c185 :: c186 :: c187 :: c188 :: c189 :: c190 :: c191 :: c192 :: c193 :: c194 :: c195 :: c196 :: c197 :: c198 :: c199 :: c200 :: c201 :: c202 :: c203 :: c204 :: c205 :: c206 :: c207 :: c208 :: c209 :: c210 :: c211 :: c212 :: c213 :: c214 :: c215 :: c216 :: c217 :: c218 :: c219 :: c220 :: c221 :: c222 :: c223 :: c224 :: c225 :: c226 :: c227 :: c228 :: c229 :: c230 :: c231 :: c232 :: c233 :: c234 :: c235 :: c236 :: c237 :: c238 :: c239 :: c240 :: c241 :: c242 :: c243 :: c244 :: c245 :: c246 :: c247 :: c248 :: c249 :: c250 :: c251 :: c252 :: c253 :: c254 :: []).toArray, []⟩ w0 := by
 have HE := Lib.hid hexit; have HX := Lib.hid rX; have HZ := Lib.hid rZ; have hgb := fun w => goodBucket10_any m.x.bucket w hs.bk; have hgk := fun w => goodKey10_any m.x.key w hs.ky; have HB := Lib.hid hgb; have HK := Lib.hid hgk; have k0 := rX.cell (i := 0) rfl; obtain ⟨k, hk⟩ : ∃ k, m.x.kind = k := ⟨_, rfl⟩; rw [hk] at k0; have Hk := Lib.hid hk; clear hexit rX rZ hgb hgk hk; refine wp_seq_k fun K0 h0 => ?_
 conv => arg 2; whnf
 have hcase : k = 10 ∨ k = 11 ∨ (k ≠ 10 ∧ k ≠ 11) := by omega
 rcases hcase with rfl | rfl | ⟨n10, n11⟩
 ·skip
  go_wp2_with fail
  conv => arg 2; whnf
  go_wp2_with fail
  conv => arg 2; whnf
  go_wp2_with fail
  conv => arg 2; whnf
  go_wp2_with fail
  conv => arg 2; whnf
  go_wp2_with fail; exact HE.out _ _ _ _ _ _ _ _ _ _ _ _ _ _ _ _ _ _ _ _ _ _ _ _ _ _ _ _ _ _ _ _ _ _ _ _ (zeroCm m.x.kind m.x.id) _ HX.out HZ.out (Only.refl _ _) ⟨rfl, fun _ h => by rw [show m.x.bucket = [] from h.symm]; simp, fun _ h => by rw [show m.x.key = [] from h.symm]; simp⟩
 ·skip
  go_wp2_with fail
  conv => arg 2; whnf
  go_wp2_with fail
  conv => arg 2; whnf
  go_wp2_with fail
  conv => arg 2; whnf
  go_wp2_with fail
  conv => arg 2; whnf
  go_wp2_with fail; exact HE.out _ _ _ _ _ _ _ _ _ _ _ _ _ _ _ _ _ _ _ _ _ _ _ _ _ _ _ _ _ _ _ _ _ _ _ _ (zeroCm m.x.kind m.x.id) _ HX.out HZ.out (Only.refl _ _) ⟨rfl, fun _ h => by rw [show m.x.bucket = [] from h.symm]; simp, fun _ h => by rw [show m.x.key = [] from h.symm]; simp⟩
 ·have q10 : (k == 10) = false := beq_eq_false_iff_ne.2 n10; have q11 : (k == 11) = false := beq_eq_false_iff_ne.2 n11; have q10' : (k != 10) = true := (by simp [bne, q10]); have q11' : (k != 11) = true := (by simp [bne, q11]); clear n10 n11; have x4 := HX.out.cell (i := 4) rfl; have z4 := HZ.out.cell (i := 4) rfl; have f4 := HZ.out.free 4; obtain ⟨wb, hwb⟩ : ∃ wb, wb = w0.setCell ⟨Z, 4, none⟩ (.string (str m.x.bucket)) := ⟨_, rfl⟩; have ob : Only [Z] w0 wb := (by rw [hwb]; exact Only.setCell w0 ⟨Z, 4, none⟩ _); have rZb : Row wb Z 43 (lmCells ⟨{ (zeroCm m.x.kind m.x.id).x with bucket := m.x.bucket }, none, 0⟩) := by rw [hwb]; exact HZ.out.setCell 4 _
  have rXb := HX.out.only ob (by simp; exact hne); have xb4 := rXb.cell (i := 4) rfl; rw [hwb] at xb4; have hgb := HB.out wb; rw [hwb] at hgb; have HOb := Lib.hid ob; have HZb := Lib.hid rZb; have HXb := Lib.hid rXb; have Hwb := Lib.hid hwb; clear ob rZb rXb hwb; go_wp2_with fail
  conv => arg 2; whnf
  go_wp2_with fail
  conv => arg 2; whnf
  go_wp2_with fail; (with_reducible refine hgb.mono ?_); clear hgb xb4 x4 z4 f4 k0; rw [← Hwb.out]; rintro e w2 ⟨b1, rfl, hb1, o2⟩; have HX2 := Lib.hid (HXb.out.only0 o2); have HZ2 := Lib.hid (HZb.out.only0 o2); have HO2 := Lib.hid (HOb.out.trans0 o2); have HB1 : Hid (b1 = true → m.x.bucket.length ≤ 63) := Lib.hid (fun h => (hb1 h).2); clear hb1 o2 HXb HZb HOb Hwb; have k0 := HX2.out.cell (i := 0) rfl; rw [Hk.out] at k0; go_wp2_with fail
  conv => arg 2; whnf
  have hcase : (3 ≤ k ∧ k ≤ 8) ∨ (¬ 3 ≤ k) ∨ (3 ≤ k ∧ ¬ k ≤ 8) := by omega
  rcases hcase with ⟨h1, h2⟩ | h1 | ⟨h1, h2⟩
  ·have x5 := HX2.out.cell (i := 5) rfl; have z5 := HZ2.out.cell (i := 5) rfl; have f5 := HZ2.out.free 5; obtain ⟨wb, hwb⟩ : ∃ wb, wb = w2.setCell ⟨Z, 5, none⟩ (.string (str m.x.key)) := ⟨_, rfl⟩; have ob : Only [Z] w2 wb := (by rw [hwb]; exact Only.setCell w2 ⟨Z, 5, none⟩ _); have rZb : Row wb Z 43 (lmCells ⟨{ (zeroCm m.x.kind m.x.id).x with bucket := m.x.bucket, key := m.x.key }, none, 0⟩) := (by rw [hwb]; exact HZ2.out.setCell 5 _); have rXb := HX2.out.only ob (by simp; exact hne); have xb5 := rXb.cell (i := 5) rfl; rw [hwb] at xb5; have hgk := HK.out wb; rw [hwb] at hgk; have HO3 := Lib.hid (HO2.out.trans ob (by simp))
   have HZ3 := Lib.hid rZb; have HX3 := Lib.hid rXb; have Hwb := Lib.hid hwb; clear ob rZb rXb hwb; go_wp2_with fail
   conv => arg 2; whnf
   cases b1 with
   | true =>
    go_wp2_with fail; (with_reducible refine hgk.mono ?_); clear hgk xb5 x5 z5 f5 k0; rw [← Hwb.out]; rintro e w4 ⟨b2, rfl, hb2, o4⟩; have HX4 := Lib.hid (HX3.out.only0 o4); have HZ4 := Lib.hid (HZ3.out.only0 o4); have HO4 := Lib.hid (HO3.out.trans0 o4); have HB2 : Hid (b2 = true → m.x.key.length ≤ 200) := Lib.hid (fun h => (hb2 h).2); clear hb2 o4; go_wp2_with fail; exact HE.out _ _ _ _ _ _ _ _ _ _ _ _ _ _ _ _ _ _ _ _ _ _ _ _ _ _ _ _ _ _ _ _ _ _ _ _ _ _ HX4.out HZ4.out HO4.out ⟨rfl, fun _ _ => HB1.out trivial, fun h _ => HB2.out h⟩
   | false =>
    go_wp2_with fail; rw [← Hwb.out]; exact HE.out _ _ _ _ _ _ _ _ _ _ _ _ _ _ _ _ _ _ _ _ _ _ _ _ _ _ _ _ _ _ _ _ _ _ _ _ _ _ HX3.out HZ3.out HO3.out ⟨rfl, fun h _ => absurd h (by decide), fun h _ => absurd h (by decide)⟩
  ·skip
   go_wp2_with fail
   conv => arg 2; whnf
   go_wp2_with fail; exact HE.out _ _ _ _ _ _ _ _ _ _ _ _ _ _ _ _ _ _ _ _ _ _ _ _ _ _ _ _ _ _ _ _ _ _ _ _ _ _ HX2.out HZ2.out HO2.out ⟨rfl, fun h _ => HB1.out h, fun _ h => by rw [show m.x.key = [] from h.symm]; simp⟩
  ·skip
   go_wp2_with fail
   conv => arg 2; whnf
   go_wp2_with fail; exact HE.out _ _ _ _ _ _ _ _ _ _ _ _ _ _ _ _ _ _ _ _ _ _ _ _ _ _ _ _ _ _ _ _ _ _ _ _ _ _ HX2.out HZ2.out HO2.out ⟨rfl, fun h _ => HB1.out h, fun _ h => by rw [show m.x.key = [] from h.symm]; simp⟩
end Go.Proofs.Ytfeglnpmpgipiaa
end
section
set_option linter.unusedVariables false
set_option maxRecDepth 100000
namespace Go.Proofs.Ytfeglnpmpgipiaa
open Go.RowKit
structure Sw (m z z' : LCmd) (b b' : Bool) : Prop where
 klo : 1 ≤ m.x.kind
 khi : m.x.kind ≤ 11
 bk : z'.x.bucket = z.x.bucket
 ky : z'.x.key = z.x.key
 ok : b' = true → b = true
 pc : b' = true → m.x.kind = 3 ∨ m.x.kind = 6 → PcOk m.x.piece
 part : b' = true → m.x.kind = 6 → 1 ≤ m.x.part ∧ m.x.part ≤ 16
 prt : b' = true → m.x.kind = 7 → m.x.parts ≠ [] ∧ m.x.parts.Pairwise (· < ·) ∧ ∀ n ∈ m.x.parts, 1 ≤ n ∧ n ≤ 16
 pl : m.x.kind ≠ 7 → z'.x.parts.length = z.x.parts.length
theorem Sw.plain {m z z' : LCmd} {b : Bool} (h1 : 1 ≤ m.x.kind) (h2 : m.x.kind ≤ 11) (h3 : m.x.kind ≠ 3) (h6 : m.x.kind ≠ 6) (h7 : m.x.kind ≠ 7) (hb : z'.x.bucket = z.x.bucket) (hk : z'.x.key = z.x.key) (hp : z'.x.parts = z.x.parts) : Sw m z z' b b :=
 ⟨h1, h2, hb, hk, id, fun _ h => by omega, fun _ h => absurd h h6, fun _ h => absurd h h7, fun _ => by rw [hp]⟩
set_option maxHeartbeats 16000000 in
theorem inForm_ks {Q : Exit → Act → World → Prop} {c0 c2 c5 c6 c7 c8 c9 c10 c11 c12 c13 c14 c15 c16 c17 c18 c19 c20 c21 c22 c23 c24 c25 c26 c27 c28 c29 c30 c31 c32 c33 c34 c35 c36 c37 c38 c39 c40 c41 c42 c43 c44 c45 c46 c47 c48 c49 c50 c51 c52 c53 c54 c55 c56 c57 c58 c59 c60 c61 c62 c63 c64 c65 c66 c67 c68 c69 c70 c71 c72 c73 c74 c75 c76 c77 c78 c79 c80 c81 c82 c83 c84 c85 c86 c87 c88 c89 c90 c91 c92 c93 c94 c95 c96 c97 c98 c99 c100 c101 c102 c103 c104 c105 c106 c107 c108 c109 c110 c111 c112 c113 c114 c115 c116 c117 c118 c119 c120 c121 c122 c123 c124 c125 c126 c127 c128 c129 c130 c131 c132 c133 c134 c135 c136 c137 c138 c139 c140 c141 c142 c143 c144 c145 c146 c147 c148 c149 c150 c151 c152 c153 c154 c155 c156 c157 c158 c159 c160 c161 c162 c163 c164 c165 c166 c167 c168 c169 c170 c171 c172 c173 c174 c175 c176 c177 c178 c179 c180 c181 c182 c183 c184 c185 c186 c187 c188 c189 c190 c191 c192 c193 c194 c195 c196 c197 c198 c199 c200 c201 c202 c203 c204 c205 c206 c207 c208 c209 c210 c211 c212 c213 c214 c215 c216 c217 c218 c219 c220 c221 c222 c223 c224 c225 c226 c227 c228 c229 c230 c231 c232 c233 c234 c235 c236 c237 c238 c239 c240 c241 c242 c243 c244 c245 c246 c247 c248 c249 c250 c251 c252 c253 c254 : Value} (Y : Code) (m z : LCmd) (X Z : Nat) (b : Bool) (w0 : World) (hne : X ≠ Z) (rX : Row w0 X 43 (lmCells m)) (rZ : Row w0 Z 43 (lmCells z)) (hk : m.x.kind ≠ 3 ∧ m.x.kind ≠ 6 ∧ m.x.kind ≠ 7) (hret : ∀ (a : Act) (w' : World), a.tmps.getD 2 undef = .bool false → a.defers = [] → Only [] w0 w' → Q .ret a w')
  (hexit : ∀ (u7 u8 u51 u52 u53 u54 u55 u56 u57 u58 u59 u60 u61 u62 u63 u64 u65 u66 u67 u68 u69 u70 u71 u72 u73 u74 u75 u76 u77 u78 u79 u80 u81 u82 u83 u84 u85 u86 u87 u88 u89 u90 u91 u92 u93 u94 u95 u96 u97 u98 u99 u100 u101 u102 u103 u104 u105 u106 u107 u108 u109 u110 u111 u112 u113 u114 u115 u116 u117 u118 u119 u120 u121 u122 u123 u124 u125 u126 u127 u128 u129 u130 u131 u132 u133 u134 u135 u136 u137 u138 u139 u140 u141 u142 u143 u144 u145 u146 u147 u148 u149 u150 u151 u152 u153 u154 u155 u156 u157 u158 u159 u160 u161 u162 u163 u164 u165 u166 u167 u168 u169 u170 u171 u172 u173 u174 u175 u176 u177 u178 u179 u180 : Value) (b' : Bool) (z' : LCmd) (w' : World), Row w' X 43 (lmCells m) → Row w' Z 43 (lmCells z') → Only [Z] w0 w' → Sw m z z' b b' → Y.wp Try.prog Q ⟨(c0 :: .pointer (some ⟨X, 0, none⟩) :: c2 :: .pointer (some ⟨Z, 0, none⟩) :: .bool b' :: c5 :: c6 :: u7 :: u8 :: c9 :: c10 :: c11 :: c12 :: c13 :: c14 :: c15 :: c16 :: c17 :: c18 :: c19 :: c20 :: c21 :: c22 :: c23 :: c24 :: c25 :: c26 :: c27 :: c28 :: c29 :: c30 :: c31 :: c32 :: c33 :: c34 :: c35 :: c36 :: c37 :: c38 :: c39 :: c40 :: c41 :: c42 :: c43 :: c44 :: c45 :: c46 :: c47 :: c48 :: c49 :: c50 :: u51 :: u52 :: u53 :: u54 :: u55 :: u56 :: u57 :: u58 :: u59 :: u60 :: u61 :: u62 :: u63 :: u64 :: u65 :: u66 :: u67 :: u68 :: u69 :: u70 :: u71 :: u72 :: u73 :: u74 :: u75 :: u76 :: u77 :: u78 :: u79 :: u80 :: u81 :: u82 :: u83 :: u84 :: u85 :: u86 :: u87 :: u88 :: u89 :: u90 :: u91 :: u92 :: u93 :: u94 :: u95 :: u96 :: u97 :: u98 :: u99 :: u100 :: u101 :: u102 :: u103 :: u104 :: u105 :: u106 :: u107 :: u108 :: u109 :: u110 :: u111 :: u112 :: u113 :: u114 :: u115 :: u116 :: u117 :: u118 :: u119 :: u120 :: u121 :: u122 :: u123 :: u124 :: u125 :: u126 :: u127 :: u128 :: u129 :: u130 :: u131 :: u132 :: u133 :: u134 :: u135 :: u136 :: u137 :: u138 :: u139 :: u140 :: u141 :: u142 :: u143 :: u144 :: u145 :: u146 :: u147 :: u148 :: u149 :: u150 :: u151 :: u152 :: u153 :: u154 :: u155 :: u156 :: u157 :: u158 :: u159 :: u160 :: u161 :: u162 :: u163 :: u164 :: u165 :: u166 :: u167 :: u168 :: u169 :: u170 :: u171 :: u172 :: u173 :: u174 :: u175 :: u176 :: u177 :: u178 :: u179 :: u180 :: c181 :: c182 :: c183 :: c184 :: c185 :: c186 :: c187 :: c188 :: c189 :: c190 :: c191 :: c192 :: c193 :: c194 :: c195 :: c196 :: c197 :: c198 :: c199 :: c200 :: c201 :: c202 :: c203 :: c204 :: c205 :: c206 :: c207 :: c208 :: c209 :: c210 :: c211 :: c212 :: c213 :: c214 :: c215 :: c216 :: c217 :: c218 :: c219 :: c220 :: c221 :: c222 :: c223 :: c224 :: c225 :: c226 :: c227 :: c228 :: c229 :: c230 :: c231 :: c232 :: c233 :: c234 :: c235 :: c236 :: c237 :: c238 :: c239 :: c240 :: c241 :: c242 :: c243 :: c244 :: c245 :: c246 :: c247 :: c248 :: c249 :: c250 :: c251 :: c252 :: c253 :: c254 :: []).toArray, []⟩ w') :
  Code.wp Try.prog (Code.seq (inFormP 8) Y) Q ⟨(c0 :: .pointer (some ⟨X, 0, none⟩) :: c2 :: .pointer (some ⟨Z, 0, none⟩) :: .bool b :: c5 :: c6 :: c7 :: c8 :: c9 :: c10 :: c11 :: c12 :: c13 :: c14 :: c15 :: c16 :: c17 :: c18 :: c19 :: c20 :: c21 :: c22 :: c23 :: c24 :: c25 :: c26 :: c27 :: c28 :: c29 :: c30 :: c31 :: c32 :: c33 :: c34 :: c35 :: c36 :: c37 :: c38 :: c39 :: c40 :: c41 :: c42 :: c43 :: c44 :: c45 :: c46 :: c47 :: c48 :: c49 :: c50 :: c51 :: c52 :: c53 :: c54 :: c55 :: c56 :: c57 :: c58 :: c59 :: c60 :: c61 :: c62 :: c63 :: c64 :: c65 :: c66 :: c67 :: c68 :: c69 :: c70 :: c71 :: c72 :: c73 :: c74 :: c75 :: c76 :: c77 :: c78 :: c79 :: c80 :: c81 :: c82 :: c83 :: c84 :: c85 :: c86 :: c87 :: c88 :: c89 :: c90 :: c91 :: c92 :: c93 :: c94 :: c95 :: c96 :: c97 :: c98 :: c99 :: c100 :: c101 :: c102 :: c103 :: c104 :: c105 :: c106 :: c107 :: c108 :: c109 :: c110 :: c111 :: c112 :: c113 :: c114 :: c115 :: c116 :: c117 :: c118 :: c119 :: c120 :: c121 :: c122 :: c123 :: c124 :: c125 :: c126 :: c127 :: c128 :: c129 :: c130 :: c131 :: c132 :: c133 :: c134 :: c135 :: c136 :: c137 :: c138 :: c139 :: c140 :: c141 :: c142 :: c143 :: c144 :: c145 :: c146 :: c147 :: c148 :: c149 :: c150 :: c151 :: c152 :: c153 :: c154 :: c155 :: c156 :: c157 :: c158 :: c159 :: c160 :: c161 :: c162 :: c163 :: c164 :: c165 :: c166 :: c167 :: c168 :: c169 :: c170 :: c171 :: c172 :: c173 :: c174 :: c175 :: c176 :: c177 :: c178 :: c179 :: c180 :: c181 :: c182 :: c183 :: c184 :: c185 :: c186 :: c187 :: c188 :: c189 :: c190 :: c191 :: c192 :: c193 :: c194 :: c195 :: c196 :: c197 :: c198 :: c199 :: c200 :: c201 :: c202 :: c203 :: c204 :: c205 :: c206 :: c207 :: c208 :: c209 :: c210 :: c211 :: c212 :: c213 :: c214 :: c215 :: c216 :: c217 :: c218 :: c219 :: c220 :: c221 :: c222 :: c223 :: c224 :: c225 :: c226 :: c227 :: c228 :: c229 :: c230 :: c231 :: c232 :: c233 :: c234 :: c235 :: c236 :: c237 :: c238 :: c239 :: c240 :: c241 :: c242 :: c243 :: c244 :: c245 :: c246 :: c247 :: c248 :: c249 :: c250 :: c251 :: c252 :: c253 :: c254 :: []).toArray, []⟩ w0 := by
 have HE := Lib.hid hexit; have HX := Lib.hid rX; have HZ := Lib.hid rZ; have HRet := Lib.hid hret; clear hexit rX rZ hret; have hc : m.x.kind = 1 ∨ m.x.kind = 10 ∨ m.x.kind = 2 ∨ m.x.kind = 4 ∨ m.x.kind = 5 ∨ m.x.kind = 11 ∨ m.x.kind = 8 ∨ m.x.kind = 9 ∨ (m.x.kind < 1 ∨ 11 < m.x.kind) := (by omega); clear hk; refine wp_seq_k fun K0 h0 => ?_
 conv => arg 2; whnf
 rcases hc with hk | hk | hk | hk | hk | hk | hk | hk | hk
 ·have k0 := HX.out.cell (i := 0) rfl; rw [hk] at k0; have x16 := HX.out.cell (i := 16) rfl; have z16 := HZ.out.cell (i := 16) rfl; have f16 := HZ.out.free 16; have Hk := Lib.hid hk; clear hk; go_wp2_with fail; refine HE.out _ _ _ _ _ _ _ _ _ _ _ _ _ _ _ _ _ _ _ _ _ _ _ _ _ _ _ _ _ _ _ _ _ _ _ _ _ _ _ _ _ _ _ _ _ _ _ _ _ _ _ _ _ _ _ _ _ _ _ _ _ _ _ _ _ _ _ _ _ _ _ _ _ _ _ _ _ _ _ _ _ _ _ _ _ _ _ _ _ _ _ _ _ _ _ _ _ _ _ _ _ _ _ _ _ _ _ _ _ _ _ _ _ _ _ _ _ _ _ _ _ _ _ _ _ _ _ _ _ _ _ _ b ⟨{ z.x with time := m.x.time }, z.p, z.c⟩ _ ?_ ?_ ?_ (Sw.plain (by have := Hk.out; omega) (by have := Hk.out; omega) (by have := Hk.out; omega) (by have := Hk.out; omega) (by have := Hk.out; omega) rfl rfl rfl)
  ·exact HX.out.only (((Only.refl _ _).trans (Only.setCell _ ⟨Z, 16, none⟩ _) (fun _ h _ => h))) (by simp; exact hne)
  ·exact (HZ.out.setCell 16 _)
  ·exact ((Only.refl _ _).trans (Only.setCell _ ⟨Z, 16, none⟩ _) (fun _ h _ => h))
 ·have k0 := HX.out.cell (i := 0) rfl; rw [hk] at k0; have x16 := HX.out.cell (i := 16) rfl; have z16 := HZ.out.cell (i := 16) rfl; have f16 := HZ.out.free 16; have Hk := Lib.hid hk; clear hk; go_wp2_with fail; refine HE.out _ _ _ _ _ _ _ _ _ _ _ _ _ _ _ _ _ _ _ _ _ _ _ _ _ _ _ _ _ _ _ _ _ _ _ _ _ _ _ _ _ _ _ _ _ _ _ _ _ _ _ _ _ _ _ _ _ _ _ _ _ _ _ _ _ _ _ _ _ _ _ _ _ _ _ _ _ _ _ _ _ _ _ _ _ _ _ _ _ _ _ _ _ _ _ _ _ _ _ _ _ _ _ _ _ _ _ _ _ _ _ _ _ _ _ _ _ _ _ _ _ _ _ _ _ _ _ _ _ _ _ _ b ⟨{ z.x with time := m.x.time }, z.p, z.c⟩ _ ?_ ?_ ?_ (Sw.plain (by have := Hk.out; omega) (by have := Hk.out; omega) (by have := Hk.out; omega) (by have := Hk.out; omega) (by have := Hk.out; omega) rfl rfl rfl)
  ·exact HX.out.only (((Only.refl _ _).trans (Only.setCell _ ⟨Z, 16, none⟩ _) (fun _ h _ => h))) (by simp; exact hne)
  ·exact (HZ.out.setCell 16 _)
  ·exact ((Only.refl _ _).trans (Only.setCell _ ⟨Z, 16, none⟩ _) (fun _ h _ => h))
 ·have k0 := HX.out.cell (i := 0) rfl; rw [hk] at k0; have Hk := Lib.hid hk; clear hk; go_wp2_with fail; exact HE.out _ _ _ _ _ _ _ _ _ _ _ _ _ _ _ _ _ _ _ _ _ _ _ _ _ _ _ _ _ _ _ _ _ _ _ _ _ _ _ _ _ _ _ _ _ _ _ _ _ _ _ _ _ _ _ _ _ _ _ _ _ _ _ _ _ _ _ _ _ _ _ _ _ _ _ _ _ _ _ _ _ _ _ _ _ _ _ _ _ _ _ _ _ _ _ _ _ _ _ _ _ _ _ _ _ _ _ _ _ _ _ _ _ _ _ _ _ _ _ _ _ _ _ _ _ _ _ _ _ _ _ _ b z w0 HX.out HZ.out (Only.refl _ _) (Sw.plain (by have := Hk.out; omega) (by have := Hk.out; omega) (by have := Hk.out; omega) (by have := Hk.out; omega) (by have := Hk.out; omega) rfl rfl rfl)
 ·have k0 := HX.out.cell (i := 0) rfl; rw [hk] at k0; have Hk := Lib.hid hk; clear hk; go_wp2_with fail; exact HE.out _ _ _ _ _ _ _ _ _ _ _ _ _ _ _ _ _ _ _ _ _ _ _ _ _ _ _ _ _ _ _ _ _ _ _ _ _ _ _ _ _ _ _ _ _ _ _ _ _ _ _ _ _ _ _ _ _ _ _ _ _ _ _ _ _ _ _ _ _ _ _ _ _ _ _ _ _ _ _ _ _ _ _ _ _ _ _ _ _ _ _ _ _ _ _ _ _ _ _ _ _ _ _ _ _ _ _ _ _ _ _ _ _ _ _ _ _ _ _ _ _ _ _ _ _ _ _ _ _ _ _ _ b z w0 HX.out HZ.out (Only.refl _ _) (Sw.plain (by have := Hk.out; omega) (by have := Hk.out; omega) (by have := Hk.out; omega) (by have := Hk.out; omega) (by have := Hk.out; omega) rfl rfl rfl)
 ·have k0 := HX.out.cell (i := 0) rfl; rw [hk] at k0; have Hk := Lib.hid hk; clear hk; go_wp2_with fail; exact HE.out _ _ _ _ _ _ _ _ _ _ _ _ _ _ _ _ _ _ _ _ _ _ _ _ _ _ _ _ _ _ _ _ _ _ _ _ _ _ _ _ _ _ _ _ _ _ _ _ _ _ _ _ _ _ _ _ _ _ _ _ _ _ _ _ _ _ _ _ _ _ _ _ _ _ _ _ _ _ _ _ _ _ _ _ _ _ _ _ _ _ _ _ _ _ _ _ _ _ _ _ _ _ _ _ _ _ _ _ _ _ _ _ _ _ _ _ _ _ _ _ _ _ _ _ _ _ _ _ _ _ _ _ b z w0 HX.out HZ.out (Only.refl _ _) (Sw.plain (by have := Hk.out; omega) (by have := Hk.out; omega) (by have := Hk.out; omega) (by have := Hk.out; omega) (by have := Hk.out; omega) rfl rfl rfl)
 ·have k0 := HX.out.cell (i := 0) rfl; rw [hk] at k0; have Hk := Lib.hid hk; clear hk; go_wp2_with fail; exact HE.out _ _ _ _ _ _ _ _ _ _ _ _ _ _ _ _ _ _ _ _ _ _ _ _ _ _ _ _ _ _ _ _ _ _ _ _ _ _ _ _ _ _ _ _ _ _ _ _ _ _ _ _ _ _ _ _ _ _ _ _ _ _ _ _ _ _ _ _ _ _ _ _ _ _ _ _ _ _ _ _ _ _ _ _ _ _ _ _ _ _ _ _ _ _ _ _ _ _ _ _ _ _ _ _ _ _ _ _ _ _ _ _ _ _ _ _ _ _ _ _ _ _ _ _ _ _ _ _ _ _ _ _ b z w0 HX.out HZ.out (Only.refl _ _) (Sw.plain (by have := Hk.out; omega) (by have := Hk.out; omega) (by have := Hk.out; omega) (by have := Hk.out; omega) (by have := Hk.out; omega) rfl rfl rfl)
 ·have k0 := HX.out.cell (i := 0) rfl; rw [hk] at k0; have x6 := HX.out.cell (i := 6) rfl; have x7 := HX.out.cell (i := 7) rfl; have x8 := HX.out.cell (i := 8) rfl; have z6 := HZ.out.cell (i := 6) rfl; have z7 := HZ.out.cell (i := 7) rfl; have z8 := HZ.out.cell (i := 8) rfl; have f6 := HZ.out.free 6; have f7 := HZ.out.free 7; have f8 := HZ.out.free 8; have Hk := Lib.hid hk; clear hk; go_wp2_with fail; refine HE.out _ _ _ _ _ _ _ _ _ _ _ _ _ _ _ _ _ _ _ _ _ _ _ _ _ _ _ _ _ _ _ _ _ _ _ _ _ _ _ _ _ _ _ _ _ _ _ _ _ _ _ _ _ _ _ _ _ _ _ _ _ _ _ _ _ _ _ _ _ _ _ _ _ _ _ _ _ _ _ _ _ _ _ _ _ _ _ _ _ _ _ _ _ _ _ _ _ _ _ _ _ _ _ _ _ _ _ _ _ _ _ _ _ _ _ _ _ _ _ _ _ _ _ _ _ _ _ _ _ _ _ _ b ⟨{ z.x with upload := m.x.upload }, z.p, z.c⟩ _ ?_ ?_ ?_ (Sw.plain (by have := Hk.out; omega) (by have := Hk.out; omega) (by have := Hk.out; omega) (by have := Hk.out; omega) (by have := Hk.out; omega) rfl rfl rfl)
  ·exact HX.out.only (((((((Only.refl _ _).trans (Only.setCell _ ⟨Z, 6, none⟩ _) (fun _ h _ => h))).trans (Only.setCell _ ⟨Z, 7, none⟩ _) (fun _ h _ => h))).trans (Only.setCell _ ⟨Z, 8, none⟩ _) (fun _ h _ => h))) (by simp; exact hne)
  ·exact (((HZ.out.setCell 6 _).setCell 7 _).setCell 8 _)
  ·exact ((((((Only.refl _ _).trans (Only.setCell _ ⟨Z, 6, none⟩ _) (fun _ h _ => h))).trans (Only.setCell _ ⟨Z, 7, none⟩ _) (fun _ h _ => h))).trans (Only.setCell _ ⟨Z, 8, none⟩ _) (fun _ h _ => h))
 ·have k0 := HX.out.cell (i := 0) rfl; rw [hk] at k0; have x17 := HX.out.cell (i := 17) rfl; have z17 := HZ.out.cell (i := 17) rfl; have f17 := HZ.out.free 17; have Hk := Lib.hid hk; clear hk; go_wp2_with fail; refine HE.out _ _ _ _ _ _ _ _ _ _ _ _ _ _ _ _ _ _ _ _ _ _ _ _ _ _ _ _ _ _ _ _ _ _ _ _ _ _ _ _ _ _ _ _ _ _ _ _ _ _ _ _ _ _ _ _ _ _ _ _ _ _ _ _ _ _ _ _ _ _ _ _ _ _ _ _ _ _ _ _ _ _ _ _ _ _ _ _ _ _ _ _ _ _ _ _ _ _ _ _ _ _ _ _ _ _ _ _ _ _ _ _ _ _ _ _ _ _ _ _ _ _ _ _ _ _ _ _ _ _ _ _ b ⟨{ z.x with days := m.x.days }, z.p, z.c⟩ _ ?_ ?_ ?_ (Sw.plain (by have := Hk.out; omega) (by have := Hk.out; omega) (by have := Hk.out; omega) (by have := Hk.out; omega) (by have := Hk.out; omega) rfl rfl rfl)
  ·exact HX.out.only (((Only.refl _ _).trans (Only.setCell _ ⟨Z, 17, none⟩ _) (fun _ h _ => h))) (by simp; exact hne)
  ·exact (HZ.out.setCell 17 _)
  ·exact ((Only.refl _ _).trans (Only.setCell _ ⟨Z, 17, none⟩ _) (fun _ h _ => h))
 ·have k0 := HX.out.cell (i := 0) rfl; obtain ⟨k, hkk⟩ : ∃ k, m.x.kind = k := ⟨_, rfl⟩; rw [hkk] at k0 hk; have q1 : (k == 1) = false := beq_eq_false_iff_ne.2 (by omega); have q2 : (k == 2) = false := beq_eq_false_iff_ne.2 (by omega); have q3 : (k == 3) = false := beq_eq_false_iff_ne.2 (by omega); have q4 : (k == 4) = false := beq_eq_false_iff_ne.2 (by omega); have q5 : (k == 5) = false := beq_eq_false_iff_ne.2 (by omega); have q6 : (k == 6) = false := beq_eq_false_iff_ne.2 (by omega); have q7 : (k == 7) = false := beq_eq_false_iff_ne.2 (by omega); have q8 : (k == 8) = false := beq_eq_false_iff_ne.2 (by omega)
  have q9 : (k == 9) = false := beq_eq_false_iff_ne.2 (by omega); have q10 : (k == 10) = false := beq_eq_false_iff_ne.2 (by omega); have q11 : (k == 11) = false := beq_eq_false_iff_ne.2 (by omega); clear hk hkk; go_wp2_with fail; exact HRet.out _ _ rfl rfl (Only.refl _ _)
end Go.Proofs.Ytfeglnpmpgipiaa
end
section
set_option linter.unusedVariables false
set_option maxRecDepth 100000
namespace Go.Proofs.Ytfeglnpmpgipiaa
open Go.RowKit
set_option maxHeartbeats 16000000 in
theorem inForm_k3 {Q : Exit → Act → World → Prop} {c0 c2 c5 c6 c7 c8 c9 c10 c11 c12 c13 c14 c15 c16 c17 c18 c19 c20 c21 c22 c23 c24 c25 c26 c27 c28 c29 c30 c31 c32 c33 c34 c35 c36 c37 c38 c39 c40 c41 c42 c43 c44 c45 c46 c47 c48 c49 c50 c51 c52 c53 c54 c55 c56 c57 c58 c59 c60 c61 c62 c63 c64 c65 c66 c67 c68 c69 c70 c71 c72 c73 c74 c75 c76 c77 c78 c79 c80 c81 c82 c83 c84 c85 c86 c87 c88 c89 c90 c91 c92 c93 c94 c95 c96 c97 c98 c99 c100 c101 c102 c103 c104 c105 c106 c107 c108 c109 c110 c111 c112 c113 c114 c115 c116 c117 c118 c119 c120 c121 c122 c123 c124 c125 c126 c127 c128 c129 c130 c131 c132 c133 c134 c135 c136 c137 c138 c139 c140 c141 c142 c143 c144 c145 c146 c147 c148 c149 c150 c151 c152 c153 c154 c155 c156 c157 c158 c159 c160 c161 c162 c163 c164 c165 c166 c167 c168 c169 c170 c171 c172 c173 c174 c175 c176 c177 c178 c179 c180 c181 c182 c183 c184 c185 c186 c187 c188 c189 c190 c191 c192 c193 c194 c195 c196 c197 c198 c199 c200 c201 c202 c203 c204 c205 c206 c207 c208 c209 c210 c211 c212 c213 c214 c215 c216 c217 c218 c219 c220 c221 c222 c223 c224 c225 c226 c227 c228 c229 c230 c231 c232 c233 c234 c235 c236 c237 c238 c239 c240 c241 c242 c243 c244 c245 c246 c247 c248 c249 c250 c251 c252 c253 c254 : Value} (Y : Code) (m z : LCmd) (X Z : Nat) (b : Bool) (w0 : World) (hne : X ≠ Z) (rX : Row w0 X 43 (lmCells m)) (rZ : Row w0 Z 43 (lmCells z)) (hs : Short m) (hk : m.x.kind = 3)
  (hexit : ∀ (u7 u8 u51 u52 u53 u54 u55 u56 u57 u58 u59 u60 u61 u62 u63 u64 u65 u66 u67 u68 u69 u70 u71 u72 u73 u74 u75 u76 u77 u78 u79 u80 u81 u82 u83 u84 u85 u86 u87 u88 u89 u90 u91 u92 u93 u94 u95 u96 u97 u98 u99 u100 u101 u102 u103 u104 u105 u106 u107 u108 u109 u110 u111 u112 u113 u114 u115 u116 u117 u118 u119 u120 u121 u122 u123 u124 u125 u126 u127 u128 u129 u130 u131 u132 u133 u134 u135 u136 u137 u138 u139 u140 u141 u142 u143 u144 u145 u146 u147 u148 u149 u150 u151 u152 u153 u154 u155 u156 u157 u158 u159 u160 u161 u162 u163 u164 u165 u166 u167 u168 u169 u170 u171 u172 u173 u174 u175 u176 u177 u178 u179 u180 : Value) (b' : Bool) (z' : LCmd) (w' : World), Row w' X 43 (lmCells m) → Row w' Z 43 (lmCells z') → Only [Z] w0 w' → Sw m z z' b b' → Y.wp Try.prog Q ⟨(c0 :: .pointer (some ⟨X, 0, none⟩) :: c2 :: .pointer (some ⟨Z, 0, none⟩) :: .bool b' :: c5 :: c6 :: u7 :: u8 :: c9 :: c10 :: c11 :: c12 :: c13 :: c14 :: c15 :: c16 :: c17 :: c18 :: c19 :: c20 :: c21 :: c22 :: c23 :: c24 :: c25 :: c26 :: c27 :: c28 :: c29 :: c30 :: c31 :: c32 :: c33 :: c34 :: c35 :: c36 :: c37 :: c38 :: c39 :: c40 :: c41 :: c42 :: c43 :: c44 :: c45 :: c46 :: c47 :: c48 :: c49 :: c50 :: u51 :: u52 :: u53 :: u54 :: u55 :: u56 :: u57 :: u58 :: u59 :: u60 :: u61 :: u62 :: u63 :: u64 :: u65 :: u66 :: u67 :: u68 :: u69 :: u70 :: u71 :: u72 :: u73 :: u74 :: u75 :: u76 :: u77 :: u78 :: u79 :: u80 :: u81 :: u82 :: u83 :: u84 :: u85 :: u86 :: u87 :: u88 :: u89 :: u90 :: u91 :: u92 :: u93 :: u94 :: u95 :: u96 :: u97 :: u98 :: u99 :: u100 :: u101 :: u102 :: u103 :: u104 :: u105 :: u106 :: u107 :: u108 :: u109 :: u110 :: u111 :: u112 :: u113 :: u114 :: u115 :: u116 :: u117 :: u118 :: u119 :: u120 :: u121 :: u122 :: u123 :: u124 :: u125 :: u126 :: u127 :: u128 :: u129 :: u130 :: u131 :: u132 :: u133 :: u134 :: u135 :: u136 :: u137 :: u138 :: u139 :: u140 :: u141 :: u142 :: u143 :: u144 :: u145 :: u146 :: u147 :: u148 :: u149 :: u150 :: u151 :: u152 :: u153 :: u154 :: u155 :: u156 :: u157 :: u158 :: u159 :: u160 :: u161 :: u162 :: u163 :: u164 :: u165 :: u166 :: u167 :: u168 :: u169 :: u170 :: u171 :: u172 :: u173 :: u174 :: u175 :: u176 :: u177 :: u178 :: u179 :: u180 :: c181 :: c182 :: c183 :: c184 :: c185 :: c186 :: c187 :: c188 :: c189 :: c190 :: c191 :: c192 :: c193 :: c194 :: c195 :: c196 :: c197 :: c198 :: c199 :: c200 :: c201 :: c202 :: c203 :: c204 :: c205 :: c206 :: c207 :: c208 :: c209 :: c210 :: c211 :: c212 :: c213 :: c214 :: c215 :: c216 :: c217 :: c218 :: c219 :: c220 :: c221 :: c222 :: c223 :: c224 :: c225 :: c226 :: c227 :: c228 :: c229 :: c230 :: c231 :: c232 :: c233 :: c234 :: c235 :: c236 :: c237 :: c238 :: c239 :: c240 :: c241 :: c242 :: c243 :: c244 :: c245 :: c246 :: c247 :: c248 :: c249 :: c250 :: c251 :: c252 :: c253 :: c254 :: []).toArray, []⟩ w') :
  Code.wp Try.prog (Code.seq (inFormP 8) Y) Q ⟨(c0 :: .pointer (some ⟨X, 0, none⟩) :: c2 :: .pointer (some ⟨Z, 0, none⟩) :: .bool b :: c5 :: c6 :: c7 :: c8 :: c9 :: c10 :: c11 :: c12 :: c13 :: c14 :: c15 :: c16 :: c17 :: c18 :: c19 :: c20 :: c21 :: c22 :: c23 :: c24 :: c25 :: c26 :: c27 :: c28 :: c29 :: c30 :: c31 :: c32 :: c33 :: c34 :: c35 :: c36 :: c37 :: c38 :: c39 :: c40 :: c41 :: c42 :: c43 :: c44 :: c45 :: c46 :: c47 :: c48 :: c49 :: c50 :: c51 :: c52 :: c53 :: c54 :: c55 :: c56 :: c57 :: c58 :: c59 :: c60 :: c61 :: c62 :: c63 :: c64 :: c65 :: c66 :: c67 :: c68 :: c69 :: c70 :: c71 :: c72 :: c73 :: c74 :: c75 :: c76 :: c77 :: c78 :: c79 :: c80 :: c81 :: c82 :: c83 :: c84 :: c85 :: c86 :: c87 :: c88 :: c89 :: c90 :: c91 :: c92 :: c93 :: c94 :: c95 :: c96 :: c97 :: c98 :: c99 :: c100 :: c101 :: c102 :: c103 :: c104 :: c105 :: c106 :: c107 :: c108 :: c109 :: c110 :: c111 :: c112 :: c113 :: c114 :: c115 :: c116 :: c117 :: c118 :: c119 :: c120 :: c121 :: c122 :: c123 :: c124 :: c125 :: c126 :: c127 :: c128 :: c129 :: c130 :: c131 :: c132 :: c133 :: c134 :: c135 :: c136 :: c137 :: c138 :: c139 :: c140 :: c141 :: c142 :: c143 :: c144 :: c145 :: c146 :: c147 :: c148 :: c149 :: c150 :: c151 :: c152 :: c153 :: c154 :: c155 :: c156 :: c157 :: c158 :: c159 :: c160 :: c161 :: c162 :: c163 :: c164 :: c165 :: c166 :: c167 :: c168 :: c169 :: c170 :: c171 :: c172 :: c173 :: c174 :: c175 :: c176 :: c177 :: c178 :: c179 :: c180 :: c181 :: c182 :: c183 :: c184 :: c185 :: c186 :: c187 :: c188 :: c189 :: c190 :: c191 :: c192 :: c193 :: c194 :: c195 :: c196 :: c197 :: c198 :: c199 :: c200 :: c201 :: c202 :: c203 :: c204 :: c205 :: c206 :: c207 :: c208 :: c209 :: c210 :: c211 :: c212 :: c213 :: c214 :: c215 :: c216 :: c217 :: c218 :: c219 :: c220 :: c221 :: c222 :: c223 :: c224 :: c225 :: c226 :: c227 :: c228 :: c229 :: c230 :: c231 :: c232 :: c233 :: c234 :: c235 :: c236 :: c237 :: c238 :: c239 :: c240 :: c241 :: c242 :: c243 :: c244 :: c245 :: c246 :: c247 :: c248 :: c249 :: c250 :: c251 :: c252 :: c253 :: c254 :: []).toArray, []⟩ w0 := by
 have HE := Lib.hid hexit; have HX := Lib.hid rX; have HZ := Lib.hid rZ; have k0 := rX.cell (i := 0) rfl; rw [hk] at k0; have Hk := Lib.hid hk; clear hexit rX rZ hk; refine wp_seq_k fun K0 h0 => ?_
 conv => arg 2; whnf
 go_upto_region 23 with (fail)
 clear k0; have hRr : ∀ x, (RZ Z 43 [9, 10, 11, 12, 13, 16]) x x := fun x => RZ.refl _ _ _ x; have hRt : ∀ x b e, (RZ Z 43 [9, 10, 11, 12, 13, 16]) x b → (RZ Z 43 [9, 10, 11, 12, 13, 16]) b e → (RZ Z 43 [9, 10, 11, 12, 13, 16]) x e := fun _ _ _ h k => h.trans k; have hRd : (RZ Z 43 [9, 10, 11, 12, 13, 16]) w0 w0.drew := RZ.of0 (Only.drew _)
 have hRs : ∀ j w, DirtR [(5, RZ Z 43 [9, 10, 11, 12, 13]), (7, RZ Z 43 [16])] j w w := DirtR.refl (by
  intro x hx w; simp only [List.mem_cons, List.not_mem_nil, or_false] at hx
  rcases hx with rfl | rfl <;> exact RZ.refl _ _ _ _)
 have hC0 : ∀ d ∈ [5, 7], (fun (_ : Nat) (_ : World) => True) d w0.drew := fun _ _ => trivial; refine wp_region_rg7 (RZ Z 43 [9, 10, 11, 12, 13, 16]) (DirtR [(5, RZ Z 43 [9, 10, 11, 12, 13]), (7, RZ Z 43 [16])]) (fun (_ : Nat) (_ : World) => True) [5, 7] [[(1, none)], [(66, some 0)], [(1, none)], [(68, some 0)], [(3, none)], [(70, some 0), (67, some 3)], [(3, none)], [(71, some 0), (69, some 3)]] [] [2, 0] [none, none, none, none, none, none, none, none, none, none, none, none, none, none, none, none, none, none, none, none, none, none, none, none, none, none, none, none, none, none, none, none, none, none, none, none, none, none, none, none, none, none, none, none, none, none, none, none, none, none, none, none, none, none, none, none, none, none, none, none, none, none, none, none, none, none, some 66, some 67, some 68, some 69, some 70, some 71, none, none, none, none, none, none, none, none, none, none, none, none, none, none, none, none, none, none, none, none, none, none, none, none, none, none, none, none, none, none, none, none, none, none, none, none, none, none, none, none, none, none, none, none, none, none, none, none, none, none, none, none, none, none, none, none, none, none, none, none, none, none, none, none, none, none, none, none, none, none, none, none, none, none, none, none, none, none, none, none, none, none, none, none, none, none, none, none, none, none, none, none, none, none, none, none, none, none, none, none, none, none, none, none, none, none, none, none, none, none, none, none, none, none, none, none, none, none, none, none, none, none, none, none, none, none, none, none, none, none, none, none, none, none, none, none, none, none, none, none, none, none, none, none, none, none, none, none, none, none, none, none, none, none, none, none, none, none, none, none, none, none, none, none, none, none, none, none, none, none, none, none, none, none, none, none, none, none, none, none, none, none, none] (by kernel_rfl) rfl (by kernel_rfl) hRr hRt hRs hRd hC0 (by kernel_rfl) (by kernel_rfl) ?_
 apply rg7_ev
 ·intro a w hR hC hf; obtain ⟨e1, -⟩ := hf; replace e1 : a.tmps.getD 1 undef = _ := e1; refine rg_plain rfl fun K hK => ?_; go_simp; exact hK _ _ rfl ⟨hRr _, hRs _ _, fun _ _ _ _ h => h⟩
 apply rg7_ev
 ·intro a w hR hC hf; obtain ⟨e66, -⟩ := hf; replace e66 : a.tmps.getD 66 undef = _ := e66; refine rg_plain rfl fun K hK => ?_; have hx := HX.out.only hR.1 (by simp; exact hne); have y9 := hx.cell (i := 9) rfl; have y10 := hx.cell (i := 10) rfl; have y11 := hx.cell (i := 11) rfl; have y12 := hx.cell (i := 12) rfl; have y13 := hx.cell (i := 13) rfl; go_simp; exact hK _ _ rfl ⟨hRr _, hRs _ _, fun _ _ _ _ h => h⟩
 apply rg7_ev
 ·intro a w hR hC hf; obtain ⟨e1, -⟩ := hf; replace e1 : a.tmps.getD 1 undef = _ := e1; refine rg_plain rfl fun K hK => ?_; go_simp; exact hK _ _ rfl ⟨hRr _, hRs _ _, fun _ _ _ _ h => h⟩
 apply rg7_ev
 ·intro a w hR hC hf; obtain ⟨e68, -⟩ := hf; replace e68 : a.tmps.getD 68 undef = _ := e68; refine rg_plain rfl fun K hK => ?_; have hx := HX.out.only hR.1 (by simp; exact hne); have y16 := hx.cell (i := 16) rfl; go_simp; exact hK _ _ rfl ⟨hRr _, hRs _ _, fun _ _ _ _ h => h⟩
 apply rg7_ev
 ·intro a w hR hC hf; obtain ⟨e3, -⟩ := hf; replace e3 : a.tmps.getD 3 undef = _ := e3; refine rg_plain rfl fun K hK => ?_; go_simp; exact hK _ _ rfl ⟨hRr _, hRs _ _, fun _ _ _ _ h => h⟩
 refine ⟨StC Z 43 [(9, .int .i64 m.x.piece.blob.node), (10, .int .i64 m.x.piece.blob.boot), (11, .int .i64 m.x.piece.blob.seq), (12, .int .i64 m.x.piece.size), (13, .string (str m.x.piece.etag))], stands5_of StC.stable (by intro x hx hk; simp only [List.mem_cons, List.not_mem_nil, or_false] at hx; rcases hx with rfl | rfl <;> first | (refine StC.stableZ ?_; simp; done) | exact Bool.noConfusion (hk.symm.trans (by kernel_rfl : _ = true))), fun a w hR hC hf => ?_, ?_⟩
 ·obtain ⟨e70, e67, -⟩ := hf; replace e70 : a.tmps.getD 70 undef = _ := e70; replace e67 : a.tmps.getD 67 undef = _ := e67; refine rg_plain rfl fun K hK => ?_; obtain ⟨vs, rz, hl, -⟩ := hR.2 _ HZ.out; have hl2 : vs.length = 18 := hl; obtain ⟨v9, h9⟩ : ∃ v, vs[9]? = some v := ⟨_, List.getElem?_eq_getElem (by omega)⟩; have z9 := rz.cell h9; have zf9 := rz.free 9; obtain ⟨v10, h10⟩ : ∃ v, vs[10]? = some v := ⟨_, List.getElem?_eq_getElem (by omega)⟩; have z10 := rz.cell h10; have zf10 := rz.free 10; obtain ⟨v11, h11⟩ : ∃ v, vs[11]? = some v := ⟨_, List.getElem?_eq_getElem (by omega)⟩; have z11 := rz.cell h11
  have zf11 := rz.free 11; obtain ⟨v12, h12⟩ : ∃ v, vs[12]? = some v := ⟨_, List.getElem?_eq_getElem (by omega)⟩; have z12 := rz.cell h12; have zf12 := rz.free 12; obtain ⟨v13, h13⟩ : ∃ v, vs[13]? = some v := ⟨_, List.getElem?_eq_getElem (by omega)⟩; have z13 := rz.cell h13; have zf13 := rz.free 13; have hst := StC.sets rz [(9, .int .i64 m.x.piece.blob.node), (10, .int .i64 m.x.piece.blob.boot), (11, .int .i64 m.x.piece.blob.seq), (12, .int .i64 m.x.piece.size), (13, .string (str m.x.piece.etag))] (by simp) (by simp; omega); clear hl hl2 h9 h10 h11 h12 h13; have Hst := Lib.hid hst; clear hst; go_simp
  exact hK undef _ Hst.out.1 ⟨Hst.out.2.mono (by simp), Hst.out.2, fun _ _ _ _ _ => trivial⟩
 apply rg7_ev
 ·intro a w hR hC hf; obtain ⟨e3, -⟩ := hf; replace e3 : a.tmps.getD 3 undef = _ := e3; refine rg_plain rfl fun K hK => ?_; go_simp; exact hK _ _ rfl ⟨hRr _, hRs _ _, fun _ _ _ _ h => h⟩
 refine ⟨StC Z 43 [(16, .int .i64 m.x.time)], stands5_of StC.stable (by intro x hx hk; simp only [List.mem_cons, List.not_mem_nil, or_false] at hx; rcases hx with rfl | rfl <;> first | (refine StC.stableZ ?_; simp; done) | exact Bool.noConfusion (hk.symm.trans (by kernel_rfl : _ = true))), fun a w hR hC hf => ?_, ?_⟩
 ·obtain ⟨e71, e69, -⟩ := hf; replace e71 : a.tmps.getD 71 undef = _ := e71; replace e69 : a.tmps.getD 69 undef = _ := e69; refine rg_plain rfl fun K hK => ?_; obtain ⟨vs, rz, hl, -⟩ := hR.2 _ HZ.out; have hl2 : vs.length = 18 := hl; obtain ⟨v16, h16⟩ : ∃ v, vs[16]? = some v := ⟨_, List.getElem?_eq_getElem (by omega)⟩; have z16 := rz.cell h16; have zf16 := rz.free 16; have hst := StC.sets rz [(16, .int .i64 m.x.time)] (by simp) (by simp; omega); clear hl hl2 h16; have Hst := Lib.hid hst; clear hst; go_simp; exact hK undef _ Hst.out.1 ⟨Hst.out.2.mono (by simp), Hst.out.2, fun _ _ _ _ _ => trivial⟩
 intro f3 w3 hR3 hf hl3; dsimp only [mergeT]; obtain ⟨l5, l7, -⟩ := hl3; replace l5 : ∃ v, (StC Z 43 [(9, .int .i64 m.x.piece.blob.node), (10, .int .i64 m.x.piece.blob.boot), (11, .int .i64 m.x.piece.blob.seq), (12, .int .i64 m.x.piece.size), (13, .string (str m.x.piece.etag))]) v w3 := l5; replace l7 : ∃ v, (StC Z 43 [(16, .int .i64 m.x.time)]) v w3 := l7; obtain ⟨u5, s5⟩ := l5; obtain ⟨u7, s7⟩ := l7; have rz3 : Row w3 Z 43 (lmCells ⟨{ z.x with piece := m.x.piece, time := m.x.time }, z.p, z.c⟩) := zone_end ((s5.app s7)) HZ.out hR3 (by simp); have HX3 := Lib.hid (HX.out.only hR3.1 (by simp; exact hne))
 have HZ3 := Lib.hid rz3; have HO3 := Lib.hid hR3.1; clear hR3 rz3 hRr hRt hRd hRs hC0 s5 s7
 cases b with
 | false =>
  go_wp2_with fail; exact HE.out _ _ _ _ _ _ _ _ _ _ _ _ _ _ _ _ _ _ _ _ _ _ _ _ _ _ _ _ _ _ _ _ _ _ _ _ _ _ _ _ _ _ _ _ _ _ _ _ _ _ _ _ _ _ _ _ _ _ _ _ _ _ _ _ _ _ _ _ _ _ _ _ _ _ _ _ _ _ _ _ _ _ _ _ _ _ _ _ _ _ _ _ _ _ _ _ _ _ _ _ _ _ _ _ _ _ _ _ _ _ _ _ _ _ _ _ _ _ _ _ _ _ _ _ _ _ _ _ _ _ _ _ false ⟨{ z.x with piece := m.x.piece, time := m.x.time }, z.p, z.c⟩ _ HX3.out HZ3.out HO3.out ⟨by have := Hk.out; omega, by have := Hk.out; omega, rfl, rfl, fun h => absurd h (by decide), fun h => absurd h (by decide), fun h => absurd h (by decide), fun h => absurd h (by decide), fun _ => rfl⟩
 | true =>
  have x9 := HX3.out.cell (i := 9) rfl; have x10 := HX3.out.cell (i := 10) rfl; have x11 := HX3.out.cell (i := 11) rfl; have x12 := HX3.out.cell (i := 12) rfl; have x13 := HX3.out.cell (i := 13) rfl; have hpc := piece10_any m.x.piece w3 hs.et; unfold pcV at hpc; go_wp2_with fail; (with_reducible refine hpc.mono ?_); clear hpc x9 x10 x11 x12 x13; rintro e w4 ⟨v, rfl, hv, o4⟩; have HX4 := Lib.hid (HX3.out.only0 o4); have HZ4 := Lib.hid (HZ3.out.only0 o4); have HO4 := Lib.hid (HO3.out.trans0 o4); have Hv := Lib.hid hv; clear o4 hv HX3 HZ3 HO3
  cases v with
  | false =>
   go_wp2_with fail; exact HE.out _ _ _ _ _ _ _ _ _ _ _ _ _ _ _ _ _ _ _ _ _ _ _ _ _ _ _ _ _ _ _ _ _ _ _ _ _ _ _ _ _ _ _ _ _ _ _ _ _ _ _ _ _ _ _ _ _ _ _ _ _ _ _ _ _ _ _ _ _ _ _ _ _ _ _ _ _ _ _ _ _ _ _ _ _ _ _ _ _ _ _ _ _ _ _ _ _ _ _ _ _ _ _ _ _ _ _ _ _ _ _ _ _ _ _ _ _ _ _ _ _ _ _ _ _ _ _ _ _ _ _ _ false ⟨{ z.x with piece := m.x.piece, time := m.x.time }, z.p, z.c⟩ _ HX4.out HZ4.out HO4.out ⟨by have := Hk.out; omega, by have := Hk.out; omega, rfl, rfl, fun h => absurd h (by decide), fun h => absurd h (by decide), fun h => absurd h (by decide), fun h => absurd h (by decide), fun _ => rfl⟩
  | true =>
   have x1 := HX4.out.cell (i := 1) rfl; have x2 := HX4.out.cell (i := 2) rfl; have x3 := HX4.out.cell (i := 3) rfl; have x9 := HX4.out.cell (i := 9) rfl; have x10 := HX4.out.cell (i := 10) rfl; have x11 := HX4.out.cell (i := 11) rfl; have x14 := HX4.out.cell (i := 14) rfl; have q := eqId m.x.piece.blob m.x.id; unfold idV at q
   by_cases hbi : m.x.piece.blob = m.x.id
   ·simp only [decide_eq_true hbi] at q; clear hbi; go_wp2_with fail; exact HE.out _ _ _ _ _ _ _ _ _ _ _ _ _ _ _ _ _ _ _ _ _ _ _ _ _ _ _ _ _ _ _ _ _ _ _ _ _ _ _ _ _ _ _ _ _ _ _ _ _ _ _ _ _ _ _ _ _ _ _ _ _ _ _ _ _ _ _ _ _ _ _ _ _ _ _ _ _ _ _ _ _ _ _ _ _ _ _ _ _ _ _ _ _ _ _ _ _ _ _ _ _ _ _ _ _ _ _ _ _ _ _ _ _ _ _ _ _ _ _ _ _ _ _ _ _ _ _ _ _ _ _ _ true ⟨{ z.x with piece := m.x.piece, time := m.x.time }, z.p, z.c⟩ _ HX4.out HZ4.out HO4.out ⟨by have := Hk.out; omega, by have := Hk.out; omega, rfl, rfl, fun _ => rfl, fun _ _ => Hv.out trivial, fun _ h => by have := Hk.out; omega, fun _ h => by have := Hk.out; omega, fun _ => rfl⟩
   ·simp only [decide_eq_false hbi] at q; clear hbi; go_wp2_with fail; exact HE.out _ _ _ _ _ _ _ _ _ _ _ _ _ _ _ _ _ _ _ _ _ _ _ _ _ _ _ _ _ _ _ _ _ _ _ _ _ _ _ _ _ _ _ _ _ _ _ _ _ _ _ _ _ _ _ _ _ _ _ _ _ _ _ _ _ _ _ _ _ _ _ _ _ _ _ _ _ _ _ _ _ _ _ _ _ _ _ _ _ _ _ _ _ _ _ _ _ _ _ _ _ _ _ _ _ _ _ _ _ _ _ _ _ _ _ _ _ _ _ _ _ _ _ _ _ _ _ _ _ _ _ _ false ⟨{ z.x with piece := m.x.piece, time := m.x.time }, z.p, z.c⟩ _ HX4.out HZ4.out HO4.out ⟨by have := Hk.out; omega, by have := Hk.out; omega, rfl, rfl, fun h => absurd h (by decide), fun h => absurd h (by decide), fun h => absurd h (by decide), fun h => absurd h (by decide), fun _ => rfl⟩
set_option maxHeartbeats 16000000 in
theorem inForm_k6 {Q : Exit → Act → World → Prop} {c0 c2 c5 c6 c7 c8 c9 c10 c11 c12 c13 c14 c15 c16 c17 c18 c19 c20 c21 c22 c23 c24 c25 c26 c27 c28 c29 c30 c31 c32 c33 c34 c35 c36 c37 c38 c39 c40 c41 c42 c43 c44 c45 c46 c47 c48 c49 c50 c51 c52 c53 c54 c55 c56 c57 c58 c59 c60 c61 c62 c63 c64 c65 c66 c67 c68 c69 c70 c71 c72 c73 c74 c75 c76 c77 c78 c79 c80 c81 c82 c83 c84 c85 c86 c87 c88 c89 c90 c91 c92 c93 c94 c95 c96 c97 c98 c99 c100 c101 c102 c103 c104 c105 c106 c107 c108 c109 c110 c111 c112 c113 c114 c115 c116 c117 c118 c119 c120 c121 c122 c123 c124 c125 c126 c127 c128 c129 c130 c131 c132 c133 c134 c135 c136 c137 c138 c139 c140 c141 c142 c143 c144 c145 c146 c147 c148 c149 c150 c151 c152 c153 c154 c155 c156 c157 c158 c159 c160 c161 c162 c163 c164 c165 c166 c167 c168 c169 c170 c171 c172 c173 c174 c175 c176 c177 c178 c179 c180 c181 c182 c183 c184 c185 c186 c187 c188 c189 c190 c191 c192 c193 c194 c195 c196 c197 c198 c199 c200 c201 c202 c203 c204 c205 c206 c207 c208 c209 c210 c211 c212 c213 c214 c215 c216 c217 c218 c219 c220 c221 c222 c223 c224 c225 c226 c227 c228 c229 c230 c231 c232 c233 c234 c235 c236 c237 c238 c239 c240 c241 c242 c243 c244 c245 c246 c247 c248 c249 c250 c251 c252 c253 c254 : Value} (Y : Code) (m z : LCmd) (X Z : Nat) (b : Bool) (w0 : World) (hne : X ≠ Z) (rX : Row w0 X 43 (lmCells m)) (rZ : Row w0 Z 43 (lmCells z)) (hs : Short m) (hk : m.x.kind = 6)
  (hexit : ∀ (u7 u8 u51 u52 u53 u54 u55 u56 u57 u58 u59 u60 u61 u62 u63 u64 u65 u66 u67 u68 u69 u70 u71 u72 u73 u74 u75 u76 u77 u78 u79 u80 u81 u82 u83 u84 u85 u86 u87 u88 u89 u90 u91 u92 u93 u94 u95 u96 u97 u98 u99 u100 u101 u102 u103 u104 u105 u106 u107 u108 u109 u110 u111 u112 u113 u114 u115 u116 u117 u118 u119 u120 u121 u122 u123 u124 u125 u126 u127 u128 u129 u130 u131 u132 u133 u134 u135 u136 u137 u138 u139 u140 u141 u142 u143 u144 u145 u146 u147 u148 u149 u150 u151 u152 u153 u154 u155 u156 u157 u158 u159 u160 u161 u162 u163 u164 u165 u166 u167 u168 u169 u170 u171 u172 u173 u174 u175 u176 u177 u178 u179 u180 : Value) (b' : Bool) (z' : LCmd) (w' : World), Row w' X 43 (lmCells m) → Row w' Z 43 (lmCells z') → Only [Z] w0 w' → Sw m z z' b b' → Y.wp Try.prog Q ⟨(c0 :: .pointer (some ⟨X, 0, none⟩) :: c2 :: .pointer (some ⟨Z, 0, none⟩) :: .bool b' :: c5 :: c6 :: u7 :: u8 :: c9 :: c10 :: c11 :: c12 :: c13 :: c14 :: c15 :: c16 :: c17 :: c18 :: c19 :: c20 :: c21 :: c22 :: c23 :: c24 :: c25 :: c26 :: c27 :: c28 :: c29 :: c30 :: c31 :: c32 :: c33 :: c34 :: c35 :: c36 :: c37 :: c38 :: c39 :: c40 :: c41 :: c42 :: c43 :: c44 :: c45 :: c46 :: c47 :: c48 :: c49 :: c50 :: u51 :: u52 :: u53 :: u54 :: u55 :: u56 :: u57 :: u58 :: u59 :: u60 :: u61 :: u62 :: u63 :: u64 :: u65 :: u66 :: u67 :: u68 :: u69 :: u70 :: u71 :: u72 :: u73 :: u74 :: u75 :: u76 :: u77 :: u78 :: u79 :: u80 :: u81 :: u82 :: u83 :: u84 :: u85 :: u86 :: u87 :: u88 :: u89 :: u90 :: u91 :: u92 :: u93 :: u94 :: u95 :: u96 :: u97 :: u98 :: u99 :: u100 :: u101 :: u102 :: u103 :: u104 :: u105 :: u106 :: u107 :: u108 :: u109 :: u110 :: u111 :: u112 :: u113 :: u114 :: u115 :: u116 :: u117 :: u118 :: u119 :: u120 :: u121 :: u122 :: u123 :: u124 :: u125 :: u126 :: u127 :: u128 :: u129 :: u130 :: u131 :: u132 :: u133 :: u134 :: u135 :: u136 :: u137 :: u138 :: u139 :: u140 :: u141 :: u142 :: u143 :: u144 :: u145 :: u146 :: u147 :: u148 :: u149 :: u150 :: u151 :: u152 :: u153 :: u154 :: u155 :: u156 :: u157 :: u158 :: u159 :: u160 :: u161 :: u162 :: u163 :: u164 :: u165 :: u166 :: u167 :: u168 :: u169 :: u170 :: u171 :: u172 :: u173 :: u174 :: u175 :: u176 :: u177 :: u178 :: u179 :: u180 :: c181 :: c182 :: c183 :: c184 :: c185 :: c186 :: c187 :: c188 :: c189 :: c190 :: c191 :: c192 :: c193 :: c194 :: c195 :: c196 :: c197 :: c198 :: c199 :: c200 :: c201 :: c202 :: c203 :: c204 :: c205 :: c206 :: c207 :: c208 :: c209 :: c210 :: c211 :: c212 :: c213 :: c214 :: c215 :: c216 :: c217 :: c218 :: c219 :: c220 :: c221 :: c222 :: c223 :: c224 :: c225 :: c226 :: c227 :: c228 :: c229 :: c230 :: c231 :: c232 :: c233 :: c234 :: c235 :: c236 :: c237 :: c238 :: c239 :: c240 :: c241 :: c242 :: c243 :: c244 :: c245 :: c246 :: c247 :: c248 :: c249 :: c250 :: c251 :: c252 :: c253 :: c254 :: []).toArray, []⟩ w') :
  Code.wp Try.prog (Code.seq (inFormP 8) Y) Q ⟨(c0 :: .pointer (some ⟨X, 0, none⟩) :: c2 :: .pointer (some ⟨Z, 0, none⟩) :: .bool b :: c5 :: c6 :: c7 :: c8 :: c9 :: c10 :: c11 :: c12 :: c13 :: c14 :: c15 :: c16 :: c17 :: c18 :: c19 :: c20 :: c21 :: c22 :: c23 :: c24 :: c25 :: c26 :: c27 :: c28 :: c29 :: c30 :: c31 :: c32 :: c33 :: c34 :: c35 :: c36 :: c37 :: c38 :: c39 :: c40 :: c41 :: c42 :: c43 :: c44 :: c45 :: c46 :: c47 :: c48 :: c49 :: c50 :: c51 :: c52 :: c53 :: c54 :: c55 :: c56 :: c57 :: c58 :: c59 :: c60 :: c61 :: c62 :: c63 :: c64 :: c65 :: c66 :: c67 :: c68 :: c69 :: c70 :: c71 :: c72 :: c73 :: c74 :: c75 :: c76 :: c77 :: c78 :: c79 :: c80 :: c81 :: c82 :: c83 :: c84 :: c85 :: c86 :: c87 :: c88 :: c89 :: c90 :: c91 :: c92 :: c93 :: c94 :: c95 :: c96 :: c97 :: c98 :: c99 :: c100 :: c101 :: c102 :: c103 :: c104 :: c105 :: c106 :: c107 :: c108 :: c109 :: c110 :: c111 :: c112 :: c113 :: c114 :: c115 :: c116 :: c117 :: c118 :: c119 :: c120 :: c121 :: c122 :: c123 :: c124 :: c125 :: c126 :: c127 :: c128 :: c129 :: c130 :: c131 :: c132 :: c133 :: c134 :: c135 :: c136 :: c137 :: c138 :: c139 :: c140 :: c141 :: c142 :: c143 :: c144 :: c145 :: c146 :: c147 :: c148 :: c149 :: c150 :: c151 :: c152 :: c153 :: c154 :: c155 :: c156 :: c157 :: c158 :: c159 :: c160 :: c161 :: c162 :: c163 :: c164 :: c165 :: c166 :: c167 :: c168 :: c169 :: c170 :: c171 :: c172 :: c173 :: c174 :: c175 :: c176 :: c177 :: c178 :: c179 :: c180 :: c181 :: c182 :: c183 :: c184 :: c185 :: c186 :: c187 :: c188 :: c189 :: c190 :: c191 :: c192 :: c193 :: c194 :: c195 :: c196 :: c197 :: c198 :: c199 :: c200 :: c201 :: c202 :: c203 :: c204 :: c205 :: c206 :: c207 :: c208 :: c209 :: c210 :: c211 :: c212 :: c213 :: c214 :: c215 :: c216 :: c217 :: c218 :: c219 :: c220 :: c221 :: c222 :: c223 :: c224 :: c225 :: c226 :: c227 :: c228 :: c229 :: c230 :: c231 :: c232 :: c233 :: c234 :: c235 :: c236 :: c237 :: c238 :: c239 :: c240 :: c241 :: c242 :: c243 :: c244 :: c245 :: c246 :: c247 :: c248 :: c249 :: c250 :: c251 :: c252 :: c253 :: c254 :: []).toArray, []⟩ w0 := by
 have HE := Lib.hid hexit; have HX := Lib.hid rX; have HZ := Lib.hid rZ; have k0 := rX.cell (i := 0) rfl; rw [hk] at k0; have Hk := Lib.hid hk; clear hexit rX rZ hk; refine wp_seq_k fun K0 h0 => ?_
 conv => arg 2; whnf
 go_upto_region 26 with (fail)
 clear k0; have hRr : ∀ x, (RZ Z 43 [9, 10, 11, 12, 13, 14, 6, 7, 8]) x x := fun x => RZ.refl _ _ _ x; have hRt : ∀ x b e, (RZ Z 43 [9, 10, 11, 12, 13, 14, 6, 7, 8]) x b → (RZ Z 43 [9, 10, 11, 12, 13, 14, 6, 7, 8]) b e → (RZ Z 43 [9, 10, 11, 12, 13, 14, 6, 7, 8]) x e := fun _ _ _ h k => h.trans k; have hRd : (RZ Z 43 [9, 10, 11, 12, 13, 14, 6, 7, 8]) w0 w0.drew := RZ.of0 (Only.drew _)
 have hRs : ∀ j w, DirtR [(7, RZ Z 43 [9, 10, 11, 12, 13]), (9, RZ Z 43 [14]), (11, RZ Z 43 [6, 7, 8])] j w w := DirtR.refl (by
  intro x hx w; simp only [List.mem_cons, List.not_mem_nil, or_false] at hx
  rcases hx with rfl | rfl | rfl <;> exact RZ.refl _ _ _ _)
 have hC0 : ∀ d ∈ [7, 9, 11], (fun (_ : Nat) (_ : World) => True) d w0.drew := fun _ _ => trivial; refine wp_region_rg7 (RZ Z 43 [9, 10, 11, 12, 13, 14, 6, 7, 8]) (DirtR [(7, RZ Z 43 [9, 10, 11, 12, 13]), (9, RZ Z 43 [14]), (11, RZ Z 43 [6, 7, 8])]) (fun (_ : Nat) (_ : World) => True) [7, 9, 11] [[(1, none)], [(88, some 0)], [(1, none)], [(90, some 0)], [(1, none)], [(92, some 0)], [(3, none)], [(94, some 0), (89, some 5)], [(3, none)], [(95, some 0), (91, some 5)], [(3, none)], [(96, some 0), (93, some 5)]] [] [4, 2, 0] [none, none, none, none, none, none, none, none, none, none, none, none, none, none, none, none, none, none, none, none, none, none, none, none, none, none, none, none, none, none, none, none, none, none, none, none, none, none, none, none, none, none, none, none, none, none, none, none, none, none, none, none, none, none, none, none, none, none, none, none, none, none, none, none, none, none, none, none, none, none, none, none, none, none, none, none, none, none, none, none, none, none, none, none, none, none, none, none, some 88, some 89, some 90, some 91, some 92, some 93, some 94, some 95, some 96, none, none, none, none, none, none, none, none, none, none, none, none, none, none, none, none, none, none, none, none, none, none, none, none, none, none, none, none, none, none, none, none, none, none, none, none, none, none, none, none, none, none, none, none, none, none, none, none, none, none, none, none, none, none, none, none, none, none, none, none, none, none, none, none, none, none, none, none, none, none, none, none, none, none, none, none, none, none, none, none, none, none, none, none, none, none, none, none, none, none, none, none, none, none, none, none, none, none, none, none, none, none, none, none, none, none, none, none, none, none, none, none, none, none, none, none, none, none, none, none, none, none, none, none, none, none, none, none, none, none, none, none, none, none, none, none, none, none, none, none, none, none, none, none, none, none, none, none, none, none, none, none, none, none, none, none, none, none] (by kernel_rfl) rfl (by kernel_rfl) hRr hRt hRs hRd hC0 (by kernel_rfl) (by kernel_rfl) ?_
 apply rg7_ev
 ·intro a w hR hC hf; obtain ⟨e1, -⟩ := hf; replace e1 : a.tmps.getD 1 undef = _ := e1; refine rg_plain rfl fun K hK => ?_; go_simp; exact hK _ _ rfl ⟨hRr _, hRs _ _, fun _ _ _ _ h => h⟩
 apply rg7_ev
 ·intro a w hR hC hf; obtain ⟨e88, -⟩ := hf; replace e88 : a.tmps.getD 88 undef = _ := e88; refine rg_plain rfl fun K hK => ?_; have hx := HX.out.only hR.1 (by simp; exact hne); have y9 := hx.cell (i := 9) rfl; have y10 := hx.cell (i := 10) rfl; have y11 := hx.cell (i := 11) rfl; have y12 := hx.cell (i := 12) rfl; have y13 := hx.cell (i := 13) rfl; go_simp; exact hK _ _ rfl ⟨hRr _, hRs _ _, fun _ _ _ _ h => h⟩
 apply rg7_ev
 ·intro a w hR hC hf; obtain ⟨e1, -⟩ := hf; replace e1 : a.tmps.getD 1 undef = _ := e1; refine rg_plain rfl fun K hK => ?_; go_simp; exact hK _ _ rfl ⟨hRr _, hRs _ _, fun _ _ _ _ h => h⟩
 apply rg7_ev
 ·intro a w hR hC hf; obtain ⟨e90, -⟩ := hf; replace e90 : a.tmps.getD 90 undef = _ := e90; refine rg_plain rfl fun K hK => ?_; have hx := HX.out.only hR.1 (by simp; exact hne); have y14 := hx.cell (i := 14) rfl; go_simp; exact hK _ _ rfl ⟨hRr _, hRs _ _, fun _ _ _ _ h => h⟩
 apply rg7_ev
 ·intro a w hR hC hf; obtain ⟨e1, -⟩ := hf; replace e1 : a.tmps.getD 1 undef = _ := e1; refine rg_plain rfl fun K hK => ?_; go_simp; exact hK _ _ rfl ⟨hRr _, hRs _ _, fun _ _ _ _ h => h⟩
 apply rg7_ev
 ·intro a w hR hC hf; obtain ⟨e92, -⟩ := hf; replace e92 : a.tmps.getD 92 undef = _ := e92; refine rg_plain rfl fun K hK => ?_; have hx := HX.out.only hR.1 (by simp; exact hne); have y6 := hx.cell (i := 6) rfl; have y7 := hx.cell (i := 7) rfl; have y8 := hx.cell (i := 8) rfl; go_simp; exact hK _ _ rfl ⟨hRr _, hRs _ _, fun _ _ _ _ h => h⟩
 apply rg7_ev
 ·intro a w hR hC hf; obtain ⟨e3, -⟩ := hf; replace e3 : a.tmps.getD 3 undef = _ := e3; refine rg_plain rfl fun K hK => ?_; go_simp; exact hK _ _ rfl ⟨hRr _, hRs _ _, fun _ _ _ _ h => h⟩
 refine ⟨StC Z 43 [(9, .int .i64 m.x.piece.blob.node), (10, .int .i64 m.x.piece.blob.boot), (11, .int .i64 m.x.piece.blob.seq), (12, .int .i64 m.x.piece.size), (13, .string (str m.x.piece.etag))], stands5_of StC.stable (by intro x hx hk; simp only [List.mem_cons, List.not_mem_nil, or_false] at hx; rcases hx with rfl | rfl | rfl <;> first | (refine StC.stableZ ?_; simp; done) | exact Bool.noConfusion (hk.symm.trans (by kernel_rfl : _ = true))), fun a w hR hC hf => ?_, ?_⟩
 ·obtain ⟨e94, e89, -⟩ := hf; replace e94 : a.tmps.getD 94 undef = _ := e94; replace e89 : a.tmps.getD 89 undef = _ := e89; refine rg_plain rfl fun K hK => ?_; obtain ⟨vs, rz, hl, -⟩ := hR.2 _ HZ.out; have hl2 : vs.length = 18 := hl; obtain ⟨v9, h9⟩ : ∃ v, vs[9]? = some v := ⟨_, List.getElem?_eq_getElem (by omega)⟩; have z9 := rz.cell h9; have zf9 := rz.free 9; obtain ⟨v10, h10⟩ : ∃ v, vs[10]? = some v := ⟨_, List.getElem?_eq_getElem (by omega)⟩; have z10 := rz.cell h10; have zf10 := rz.free 10; obtain ⟨v11, h11⟩ : ∃ v, vs[11]? = some v := ⟨_, List.getElem?_eq_getElem (by omega)⟩; have z11 := rz.cell h11
  have zf11 := rz.free 11; obtain ⟨v12, h12⟩ : ∃ v, vs[12]? = some v := ⟨_, List.getElem?_eq_getElem (by omega)⟩; have z12 := rz.cell h12; have zf12 := rz.free 12; obtain ⟨v13, h13⟩ : ∃ v, vs[13]? = some v := ⟨_, List.getElem?_eq_getElem (by omega)⟩; have z13 := rz.cell h13; have zf13 := rz.free 13; have hst := StC.sets rz [(9, .int .i64 m.x.piece.blob.node), (10, .int .i64 m.x.piece.blob.boot), (11, .int .i64 m.x.piece.blob.seq), (12, .int .i64 m.x.piece.size), (13, .string (str m.x.piece.etag))] (by simp) (by simp; omega); clear hl hl2 h9 h10 h11 h12 h13; have Hst := Lib.hid hst; clear hst; go_simp
  exact hK undef _ Hst.out.1 ⟨Hst.out.2.mono (by simp), Hst.out.2, fun _ _ _ _ _ => trivial⟩
 apply rg7_ev
 ·intro a w hR hC hf; obtain ⟨e3, -⟩ := hf; replace e3 : a.tmps.getD 3 undef = _ := e3; refine rg_plain rfl fun K hK => ?_; go_simp; exact hK _ _ rfl ⟨hRr _, hRs _ _, fun _ _ _ _ h => h⟩
 refine ⟨StC Z 43 [(14, .int .i64 m.x.part)], stands5_of StC.stable (by intro x hx hk; simp only [List.mem_cons, List.not_mem_nil, or_false] at hx; rcases hx with rfl | rfl | rfl <;> first | (refine StC.stableZ ?_; simp; done) | exact Bool.noConfusion (hk.symm.trans (by kernel_rfl : _ = true))), fun a w hR hC hf => ?_, ?_⟩
 ·obtain ⟨e95, e91, -⟩ := hf; replace e95 : a.tmps.getD 95 undef = _ := e95; replace e91 : a.tmps.getD 91 undef = _ := e91; refine rg_plain rfl fun K hK => ?_; obtain ⟨vs, rz, hl, -⟩ := hR.2 _ HZ.out; have hl2 : vs.length = 18 := hl; obtain ⟨v14, h14⟩ : ∃ v, vs[14]? = some v := ⟨_, List.getElem?_eq_getElem (by omega)⟩; have z14 := rz.cell h14; have zf14 := rz.free 14; have hst := StC.sets rz [(14, .int .i64 m.x.part)] (by simp) (by simp; omega); clear hl hl2 h14; have Hst := Lib.hid hst; clear hst; go_simp; exact hK undef _ Hst.out.1 ⟨Hst.out.2.mono (by simp), Hst.out.2, fun _ _ _ _ _ => trivial⟩
 apply rg7_ev
 ·intro a w hR hC hf; obtain ⟨e3, -⟩ := hf; replace e3 : a.tmps.getD 3 undef = _ := e3; refine rg_plain rfl fun K hK => ?_; go_simp; exact hK _ _ rfl ⟨hRr _, hRs _ _, fun _ _ _ _ h => h⟩
 refine ⟨StC Z 43 [(6, .int .i64 m.x.upload.node), (7, .int .i64 m.x.upload.boot), (8, .int .i64 m.x.upload.seq)], stands5_of StC.stable (by intro x hx hk; simp only [List.mem_cons, List.not_mem_nil, or_false] at hx; rcases hx with rfl | rfl | rfl <;> first | (refine StC.stableZ ?_; simp; done) | exact Bool.noConfusion (hk.symm.trans (by kernel_rfl : _ = true))), fun a w hR hC hf => ?_, ?_⟩
 ·obtain ⟨e96, e93, -⟩ := hf; replace e96 : a.tmps.getD 96 undef = _ := e96; replace e93 : a.tmps.getD 93 undef = _ := e93; refine rg_plain rfl fun K hK => ?_; obtain ⟨vs, rz, hl, -⟩ := hR.2 _ HZ.out; have hl2 : vs.length = 18 := hl; obtain ⟨v6, h6⟩ : ∃ v, vs[6]? = some v := ⟨_, List.getElem?_eq_getElem (by omega)⟩; have z6 := rz.cell h6; have zf6 := rz.free 6; obtain ⟨v7, h7⟩ : ∃ v, vs[7]? = some v := ⟨_, List.getElem?_eq_getElem (by omega)⟩; have z7 := rz.cell h7; have zf7 := rz.free 7; obtain ⟨v8, h8⟩ : ∃ v, vs[8]? = some v := ⟨_, List.getElem?_eq_getElem (by omega)⟩; have z8 := rz.cell h8
  have zf8 := rz.free 8; have hst := StC.sets rz [(6, .int .i64 m.x.upload.node), (7, .int .i64 m.x.upload.boot), (8, .int .i64 m.x.upload.seq)] (by simp) (by simp; omega); clear hl hl2 h6 h7 h8; have Hst := Lib.hid hst; clear hst; go_simp; exact hK undef _ Hst.out.1 ⟨Hst.out.2.mono (by simp), Hst.out.2, fun _ _ _ _ _ => trivial⟩
 intro f3 w3 hR3 hf hl3; dsimp only [mergeT]; obtain ⟨l7, l9, l11, -⟩ := hl3; replace l7 : ∃ v, (StC Z 43 [(9, .int .i64 m.x.piece.blob.node), (10, .int .i64 m.x.piece.blob.boot), (11, .int .i64 m.x.piece.blob.seq), (12, .int .i64 m.x.piece.size), (13, .string (str m.x.piece.etag))]) v w3 := l7; replace l9 : ∃ v, (StC Z 43 [(14, .int .i64 m.x.part)]) v w3 := l9; replace l11 : ∃ v, (StC Z 43 [(6, .int .i64 m.x.upload.node), (7, .int .i64 m.x.upload.boot), (8, .int .i64 m.x.upload.seq)]) v w3 := l11; obtain ⟨u7, s7⟩ := l7; obtain ⟨u9, s9⟩ := l9; obtain ⟨u11, s11⟩ := l11; have rz3 : Row w3 Z 43 (lmCells ⟨{ z.x with piece := m.x.piece, part := m.x.part, upload := m.x.upload }, z.p, z.c⟩) := zone_end (((s7.app s9).app s11)) HZ.out hR3 (by simp)
 have HX3 := Lib.hid (HX.out.only hR3.1 (by simp; exact hne)); have HZ3 := Lib.hid rz3; have HO3 := Lib.hid hR3.1; clear hR3 rz3 hRr hRt hRd hRs hC0 s7 s9 s11
 cases b with
 | false =>
  go_wp2_with fail; exact HE.out _ _ _ _ _ _ _ _ _ _ _ _ _ _ _ _ _ _ _ _ _ _ _ _ _ _ _ _ _ _ _ _ _ _ _ _ _ _ _ _ _ _ _ _ _ _ _ _ _ _ _ _ _ _ _ _ _ _ _ _ _ _ _ _ _ _ _ _ _ _ _ _ _ _ _ _ _ _ _ _ _ _ _ _ _ _ _ _ _ _ _ _ _ _ _ _ _ _ _ _ _ _ _ _ _ _ _ _ _ _ _ _ _ _ _ _ _ _ _ _ _ _ _ _ _ _ _ _ _ _ _ _ false ⟨{ z.x with piece := m.x.piece, part := m.x.part, upload := m.x.upload }, z.p, z.c⟩ _ HX3.out HZ3.out HO3.out ⟨by have := Hk.out; omega, by have := Hk.out; omega, rfl, rfl, fun h => absurd h (by decide), fun h => absurd h (by decide), fun h => absurd h (by decide), fun h => absurd h (by decide), fun _ => rfl⟩
 | true =>
  have x9 := HX3.out.cell (i := 9) rfl; have x10 := HX3.out.cell (i := 10) rfl; have x11 := HX3.out.cell (i := 11) rfl; have x12 := HX3.out.cell (i := 12) rfl; have x13 := HX3.out.cell (i := 13) rfl; have hpc := piece10_any m.x.piece w3 hs.et; unfold pcV at hpc; go_wp2_with fail; (with_reducible refine hpc.mono ?_); clear hpc x9 x10 x11 x12 x13; rintro e w4 ⟨v, rfl, hv, o4⟩; have HX4 := Lib.hid (HX3.out.only0 o4); have HZ4 := Lib.hid (HZ3.out.only0 o4); have HO4 := Lib.hid (HO3.out.trans0 o4); have Hv := Lib.hid hv; clear o4 hv HX3 HZ3 HO3
  cases v with
  | false =>
   go_wp2_with fail; exact HE.out _ _ _ _ _ _ _ _ _ _ _ _ _ _ _ _ _ _ _ _ _ _ _ _ _ _ _ _ _ _ _ _ _ _ _ _ _ _ _ _ _ _ _ _ _ _ _ _ _ _ _ _ _ _ _ _ _ _ _ _ _ _ _ _ _ _ _ _ _ _ _ _ _ _ _ _ _ _ _ _ _ _ _ _ _ _ _ _ _ _ _ _ _ _ _ _ _ _ _ _ _ _ _ _ _ _ _ _ _ _ _ _ _ _ _ _ _ _ _ _ _ _ _ _ _ _ _ _ _ _ _ _ false ⟨{ z.x with piece := m.x.piece, part := m.x.part, upload := m.x.upload }, z.p, z.c⟩ _ HX4.out HZ4.out HO4.out ⟨by have := Hk.out; omega, by have := Hk.out; omega, rfl, rfl, fun h => absurd h (by decide), fun h => absurd h (by decide), fun h => absurd h (by decide), fun h => absurd h (by decide), fun _ => rfl⟩
  | true =>
   have x1 := HX4.out.cell (i := 1) rfl; have x2 := HX4.out.cell (i := 2) rfl; have x3 := HX4.out.cell (i := 3) rfl; have x9 := HX4.out.cell (i := 9) rfl; have x10 := HX4.out.cell (i := 10) rfl; have x11 := HX4.out.cell (i := 11) rfl; have x14 := HX4.out.cell (i := 14) rfl; have q := eqId m.x.piece.blob m.x.id; unfold idV at q
   by_cases hbi : m.x.piece.blob = m.x.id
   ·simp only [decide_eq_true hbi] at q; clear hbi; have hcase : ¬ 1 ≤ m.x.part ∨ (1 ≤ m.x.part ∧ ¬ m.x.part ≤ 16) ∨ (1 ≤ m.x.part ∧ m.x.part ≤ 16) := by omega
    rcases hcase with t1 | ⟨t1, t2⟩ | ⟨t1, t2⟩
    ·skip
     go_wp2_with fail; exact HE.out _ _ _ _ _ _ _ _ _ _ _ _ _ _ _ _ _ _ _ _ _ _ _ _ _ _ _ _ _ _ _ _ _ _ _ _ _ _ _ _ _ _ _ _ _ _ _ _ _ _ _ _ _ _ _ _ _ _ _ _ _ _ _ _ _ _ _ _ _ _ _ _ _ _ _ _ _ _ _ _ _ _ _ _ _ _ _ _ _ _ _ _ _ _ _ _ _ _ _ _ _ _ _ _ _ _ _ _ _ _ _ _ _ _ _ _ _ _ _ _ _ _ _ _ _ _ _ _ _ _ _ _ false ⟨{ z.x with piece := m.x.piece, part := m.x.part, upload := m.x.upload }, z.p, z.c⟩ _ HX4.out HZ4.out HO4.out ⟨by have := Hk.out; omega, by have := Hk.out; omega, rfl, rfl, fun h => absurd h (by decide), fun h => absurd h (by decide), fun h => absurd h (by decide), fun h => absurd h (by decide), fun _ => rfl⟩
    ·have t3 := decide_eq_false t2; clear t2; go_wp2_with fail; exact HE.out _ _ _ _ _ _ _ _ _ _ _ _ _ _ _ _ _ _ _ _ _ _ _ _ _ _ _ _ _ _ _ _ _ _ _ _ _ _ _ _ _ _ _ _ _ _ _ _ _ _ _ _ _ _ _ _ _ _ _ _ _ _ _ _ _ _ _ _ _ _ _ _ _ _ _ _ _ _ _ _ _ _ _ _ _ _ _ _ _ _ _ _ _ _ _ _ _ _ _ _ _ _ _ _ _ _ _ _ _ _ _ _ _ _ _ _ _ _ _ _ _ _ _ _ _ _ _ _ _ _ _ _ false ⟨{ z.x with piece := m.x.piece, part := m.x.part, upload := m.x.upload }, z.p, z.c⟩ _ HX4.out HZ4.out HO4.out ⟨by have := Hk.out; omega, by have := Hk.out; omega, rfl, rfl, fun h => absurd h (by decide), fun h => absurd h (by decide), fun h => absurd h (by decide), fun h => absurd h (by decide), fun _ => rfl⟩
    ·have Ht := Lib.hid (And.intro t1 t2); go_wp2_with fail; exact HE.out _ _ _ _ _ _ _ _ _ _ _ _ _ _ _ _ _ _ _ _ _ _ _ _ _ _ _ _ _ _ _ _ _ _ _ _ _ _ _ _ _ _ _ _ _ _ _ _ _ _ _ _ _ _ _ _ _ _ _ _ _ _ _ _ _ _ _ _ _ _ _ _ _ _ _ _ _ _ _ _ _ _ _ _ _ _ _ _ _ _ _ _ _ _ _ _ _ _ _ _ _ _ _ _ _ _ _ _ _ _ _ _ _ _ _ _ _ _ _ _ _ _ _ _ _ _ _ _ _ _ _ _ true ⟨{ z.x with piece := m.x.piece, part := m.x.part, upload := m.x.upload }, z.p, z.c⟩ _ HX4.out HZ4.out HO4.out ⟨by have := Hk.out; omega, by have := Hk.out; omega, rfl, rfl, fun _ => rfl, fun _ _ => Hv.out trivial, fun _ _ => Ht.out, fun _ h => by have := Hk.out; omega, fun _ => rfl⟩
   ·simp only [decide_eq_false hbi] at q; clear hbi; go_wp2_with fail; exact HE.out _ _ _ _ _ _ _ _ _ _ _ _ _ _ _ _ _ _ _ _ _ _ _ _ _ _ _ _ _ _ _ _ _ _ _ _ _ _ _ _ _ _ _ _ _ _ _ _ _ _ _ _ _ _ _ _ _ _ _ _ _ _ _ _ _ _ _ _ _ _ _ _ _ _ _ _ _ _ _ _ _ _ _ _ _ _ _ _ _ _ _ _ _ _ _ _ _ _ _ _ _ _ _ _ _ _ _ _ _ _ _ _ _ _ _ _ _ _ _ _ _ _ _ _ _ _ _ _ _ _ _ _ false ⟨{ z.x with piece := m.x.piece, part := m.x.part, upload := m.x.upload }, z.p, z.c⟩ _ HX4.out HZ4.out HO4.out ⟨by have := Hk.out; omega, by have := Hk.out; omega, rfl, rfl, fun h => absurd h (by decide), fun h => absurd h (by decide), fun h => absurd h (by decide), fun h => absurd h (by decide), fun _ => rfl⟩
end Go.Proofs.Ytfeglnpmpgipiaa
end
section
set_option linter.unusedVariables false
set_option maxRecDepth 100000
namespace Go.Proofs.Ytfeglnpmpgipiaa
open Go.RowKit
def partsOk (xs : List Int) (j : Nat) : Prop := (xs.take j).Pairwise (· < ·) ∧ ∀ n ∈ xs.take j, 1 ≤ n ∧ n ≤ 16
theorem partsOk_zero (xs : List Int) : partsOk xs 0 := by unfold partsOk; simp
theorem partsOk_snoc {xs : List Int} {j : Nat} {x : Int} (h : partsOk xs j) (hx : xs[j]? = some x) (h1 : 1 ≤ x) (h2 : x ≤ 16) (h3 : ∀ y, 0 < j → xs[j - 1]? = some y → y < x) : partsOk xs (j + 1) := by
 have e : xs.take (j + 1) = xs.take j ++ [x] := (by rw [List.take_add_one, hx]; rfl); unfold partsOk at h ⊢; rw [e]; refine ⟨List.pairwise_append.2 ⟨h.1, List.pairwise_singleton _ _, fun a ha b hb => ?_⟩, fun n hn => ?_⟩
 ·rw [List.mem_singleton.1 hb]; obtain ⟨i, hi, rfl⟩ := List.mem_iff_getElem.1 ha; have hij : i < j := (by simp at hi; omega); have hjl : j < xs.length := (List.getElem?_eq_some_iff.1 hx).1; have hl := h3 xs[j - 1] (by omega) (List.getElem?_eq_getElem (by omega))
  by_cases hii : i = j - 1
  ·subst hii; rw [List.getElem_take]; exact hl
  ·have hp := List.pairwise_iff_getElem.1 h.1 i (j - 1) hi (by simp; omega) (by omega); rw [List.getElem_take, List.getElem_take] at hp; rw [List.getElem_take]; omega
 ·rcases List.mem_append.1 hn with hn | hn
  ·exact h.2 n hn
  ·rw [List.mem_singleton.1 hn]; exact ⟨h1, h2⟩
set_option maxHeartbeats 16000000 in
theorem inForm_k7 {Q : Exit → Act → World → Prop} {c0 c2 c5 c6 c7 c8 c9 c10 c11 c12 c13 c14 c15 c16 c17 c18 c19 c20 c21 c22 c23 c24 c25 c26 c27 c28 c29 c30 c31 c32 c33 c34 c35 c36 c37 c38 c39 c40 c41 c42 c43 c44 c45 c46 c47 c48 c49 c50 c51 c52 c53 c54 c55 c56 c57 c58 c59 c60 c61 c62 c63 c64 c65 c66 c67 c68 c69 c70 c71 c72 c73 c74 c75 c76 c77 c78 c79 c80 c81 c82 c83 c84 c85 c86 c87 c88 c89 c90 c91 c92 c93 c94 c95 c96 c97 c98 c99 c100 c101 c102 c103 c104 c105 c106 c107 c108 c109 c110 c111 c112 c113 c114 c115 c116 c117 c118 c119 c120 c121 c122 c123 c124 c125 c126 c127 c128 c129 c130 c131 c132 c133 c134 c135 c136 c137 c138 c139 c140 c141 c142 c143 c144 c145 c146 c147 c148 c149 c150 c151 c152 c153 c154 c155 c156 c157 c158 c159 c160 c161 c162 c163 c164 c165 c166 c167 c168 c169 c170 c171 c172 c173 c174 c175 c176 c177 c178 c179 c180 c181 c182 c183 c184 c185 c186 c187 c188 c189 c190 c191 c192 c193 c194 c195 c196 c197 c198 c199 c200 c201 c202 c203 c204 c205 c206 c207 c208 c209 c210 c211 c212 c213 c214 c215 c216 c217 c218 c219 c220 c221 c222 c223 c224 c225 c226 c227 c228 c229 c230 c231 c232 c233 c234 c235 c236 c237 c238 c239 c240 c241 c242 c243 c244 c245 c246 c247 c248 c249 c250 c251 c252 c253 c254 : Value} (Y : Code) (m z : LCmd) (X Z : Nat) (b : Bool) (w0 : World) (hne : X ≠ Z) (rX : Row w0 X 43 (lmCells m)) (rZ : Row w0 Z 43 (lmCells z)) (hs : Short m) (hm : CmAt w0 m) (hpz : m.x.parts ≠ [] → ∀ z ∈ blk m.p, z ≠ Z) (hk : m.x.kind = 7)
  (hexit : ∀ (u7 u8 u51 u52 u53 u54 u55 u56 u57 u58 u59 u60 u61 u62 u63 u64 u65 u66 u67 u68 u69 u70 u71 u72 u73 u74 u75 u76 u77 u78 u79 u80 u81 u82 u83 u84 u85 u86 u87 u88 u89 u90 u91 u92 u93 u94 u95 u96 u97 u98 u99 u100 u101 u102 u103 u104 u105 u106 u107 u108 u109 u110 u111 u112 u113 u114 u115 u116 u117 u118 u119 u120 u121 u122 u123 u124 u125 u126 u127 u128 u129 u130 u131 u132 u133 u134 u135 u136 u137 u138 u139 u140 u141 u142 u143 u144 u145 u146 u147 u148 u149 u150 u151 u152 u153 u154 u155 u156 u157 u158 u159 u160 u161 u162 u163 u164 u165 u166 u167 u168 u169 u170 u171 u172 u173 u174 u175 u176 u177 u178 u179 u180 : Value) (b' : Bool) (z' : LCmd) (w' : World), Row w' X 43 (lmCells m) → Row w' Z 43 (lmCells z') → Only [Z] w0 w' → Sw m z z' b b' → Y.wp Try.prog Q ⟨(c0 :: .pointer (some ⟨X, 0, none⟩) :: c2 :: .pointer (some ⟨Z, 0, none⟩) :: .bool b' :: c5 :: c6 :: u7 :: u8 :: c9 :: c10 :: c11 :: c12 :: c13 :: c14 :: c15 :: c16 :: c17 :: c18 :: c19 :: c20 :: c21 :: c22 :: c23 :: c24 :: c25 :: c26 :: c27 :: c28 :: c29 :: c30 :: c31 :: c32 :: c33 :: c34 :: c35 :: c36 :: c37 :: c38 :: c39 :: c40 :: c41 :: c42 :: c43 :: c44 :: c45 :: c46 :: c47 :: c48 :: c49 :: c50 :: u51 :: u52 :: u53 :: u54 :: u55 :: u56 :: u57 :: u58 :: u59 :: u60 :: u61 :: u62 :: u63 :: u64 :: u65 :: u66 :: u67 :: u68 :: u69 :: u70 :: u71 :: u72 :: u73 :: u74 :: u75 :: u76 :: u77 :: u78 :: u79 :: u80 :: u81 :: u82 :: u83 :: u84 :: u85 :: u86 :: u87 :: u88 :: u89 :: u90 :: u91 :: u92 :: u93 :: u94 :: u95 :: u96 :: u97 :: u98 :: u99 :: u100 :: u101 :: u102 :: u103 :: u104 :: u105 :: u106 :: u107 :: u108 :: u109 :: u110 :: u111 :: u112 :: u113 :: u114 :: u115 :: u116 :: u117 :: u118 :: u119 :: u120 :: u121 :: u122 :: u123 :: u124 :: u125 :: u126 :: u127 :: u128 :: u129 :: u130 :: u131 :: u132 :: u133 :: u134 :: u135 :: u136 :: u137 :: u138 :: u139 :: u140 :: u141 :: u142 :: u143 :: u144 :: u145 :: u146 :: u147 :: u148 :: u149 :: u150 :: u151 :: u152 :: u153 :: u154 :: u155 :: u156 :: u157 :: u158 :: u159 :: u160 :: u161 :: u162 :: u163 :: u164 :: u165 :: u166 :: u167 :: u168 :: u169 :: u170 :: u171 :: u172 :: u173 :: u174 :: u175 :: u176 :: u177 :: u178 :: u179 :: u180 :: c181 :: c182 :: c183 :: c184 :: c185 :: c186 :: c187 :: c188 :: c189 :: c190 :: c191 :: c192 :: c193 :: c194 :: c195 :: c196 :: c197 :: c198 :: c199 :: c200 :: c201 :: c202 :: c203 :: c204 :: c205 :: c206 :: c207 :: c208 :: c209 :: c210 :: c211 :: c212 :: c213 :: c214 :: c215 :: c216 :: c217 :: c218 :: c219 :: c220 :: c221 :: c222 :: c223 :: c224 :: c225 :: c226 :: c227 :: c228 :: c229 :: c230 :: c231 :: c232 :: c233 :: c234 :: c235 :: c236 :: c237 :: c238 :: c239 :: c240 :: c241 :: c242 :: c243 :: c244 :: c245 :: c246 :: c247 :: c248 :: c249 :: c250 :: c251 :: c252 :: c253 :: c254 :: []).toArray, []⟩ w') :
  Code.wp Try.prog (Code.seq (inFormP 8) Y) Q ⟨(c0 :: .pointer (some ⟨X, 0, none⟩) :: c2 :: .pointer (some ⟨Z, 0, none⟩) :: .bool b :: c5 :: c6 :: c7 :: c8 :: c9 :: c10 :: c11 :: c12 :: c13 :: c14 :: c15 :: c16 :: c17 :: c18 :: c19 :: c20 :: c21 :: c22 :: c23 :: c24 :: c25 :: c26 :: c27 :: c28 :: c29 :: c30 :: c31 :: c32 :: c33 :: c34 :: c35 :: c36 :: c37 :: c38 :: c39 :: c40 :: c41 :: c42 :: c43 :: c44 :: c45 :: c46 :: c47 :: c48 :: c49 :: c50 :: c51 :: c52 :: c53 :: c54 :: c55 :: c56 :: c57 :: c58 :: c59 :: c60 :: c61 :: c62 :: c63 :: c64 :: c65 :: c66 :: c67 :: c68 :: c69 :: c70 :: c71 :: c72 :: c73 :: c74 :: c75 :: c76 :: c77 :: c78 :: c79 :: c80 :: c81 :: c82 :: c83 :: c84 :: c85 :: c86 :: c87 :: c88 :: c89 :: c90 :: c91 :: c92 :: c93 :: c94 :: c95 :: c96 :: c97 :: c98 :: c99 :: c100 :: c101 :: c102 :: c103 :: c104 :: c105 :: c106 :: c107 :: c108 :: c109 :: c110 :: c111 :: c112 :: c113 :: c114 :: c115 :: c116 :: c117 :: c118 :: c119 :: c120 :: c121 :: c122 :: c123 :: c124 :: c125 :: c126 :: c127 :: c128 :: c129 :: c130 :: c131 :: c132 :: c133 :: c134 :: c135 :: c136 :: c137 :: c138 :: c139 :: c140 :: c141 :: c142 :: c143 :: c144 :: c145 :: c146 :: c147 :: c148 :: c149 :: c150 :: c151 :: c152 :: c153 :: c154 :: c155 :: c156 :: c157 :: c158 :: c159 :: c160 :: c161 :: c162 :: c163 :: c164 :: c165 :: c166 :: c167 :: c168 :: c169 :: c170 :: c171 :: c172 :: c173 :: c174 :: c175 :: c176 :: c177 :: c178 :: c179 :: c180 :: c181 :: c182 :: c183 :: c184 :: c185 :: c186 :: c187 :: c188 :: c189 :: c190 :: c191 :: c192 :: c193 :: c194 :: c195 :: c196 :: c197 :: c198 :: c199 :: c200 :: c201 :: c202 :: c203 :: c204 :: c205 :: c206 :: c207 :: c208 :: c209 :: c210 :: c211 :: c212 :: c213 :: c214 :: c215 :: c216 :: c217 :: c218 :: c219 :: c220 :: c221 :: c222 :: c223 :: c224 :: c225 :: c226 :: c227 :: c228 :: c229 :: c230 :: c231 :: c232 :: c233 :: c234 :: c235 :: c236 :: c237 :: c238 :: c239 :: c240 :: c241 :: c242 :: c243 :: c244 :: c245 :: c246 :: c247 :: c248 :: c249 :: c250 :: c251 :: c252 :: c253 :: c254 :: []).toArray, []⟩ w0 := by
 have HE := Lib.hid hexit; have HX := Lib.hid rX; have HZ := Lib.hid rZ; have k0 := rX.cell (i := 0) rfl; rw [hk] at k0; have Hk := Lib.hid hk; clear hexit rX rZ hk; refine wp_seq_k fun K0 h0 => ?_
 conv => arg 2; whnf
 have HM := Lib.hid hm; have HPZ := Lib.hid hpz; clear hm hpz; obtain ⟨n, hn⟩ : ∃ n, m.x.parts.length = n := ⟨_, rfl⟩; have hnb : n ≤ 140737488355328 := (by rw [← hn]; exact hs.ps); have Hn := Lib.hid hn; clear hn
 go_upto_region 29 with (fail)
 clear k0; have hRr : ∀ x, (RZ Z 43 [6, 7, 8, 16, 15]) x x := fun x => RZ.refl _ _ _ x; have hRt : ∀ x b e, (RZ Z 43 [6, 7, 8, 16, 15]) x b → (RZ Z 43 [6, 7, 8, 16, 15]) b e → (RZ Z 43 [6, 7, 8, 16, 15]) x e := fun _ _ _ h k => h.trans k; have hRd : (RZ Z 43 [6, 7, 8, 16, 15]) w0 w0.drew := RZ.of0 (Only.drew _)
 have hRs : ∀ j w, DirtR [(7, RZ Z 43 [6, 7, 8]), (9, RZ Z 43 [16]), (11, RZ Z 43 [15])] j w w := DirtR.refl (by
  intro x hx w; simp only [List.mem_cons, List.not_mem_nil, or_false] at hx
  rcases hx with rfl | rfl | rfl <;> exact RZ.refl _ _ _ _)
 have hC0 : ∀ d ∈ [7, 9, 11], (fun (_ : Nat) (_ : World) => True) d w0.drew := fun _ _ => trivial; refine wp_region_rg7 (RZ Z 43 [6, 7, 8, 16, 15]) (DirtR [(7, RZ Z 43 [6, 7, 8]), (9, RZ Z 43 [16]), (11, RZ Z 43 [15])]) (fun (_ : Nat) (_ : World) => True) [7, 9, 11] [[(1, none)], [(123, some 0)], [(1, none)], [(125, some 0)], [(1, none)], [(127, some 0)], [(3, none)], [(129, some 0), (124, some 5)], [(3, none)], [(130, some 0), (126, some 5)], [(3, none)], [(131, some 0), (128, some 5)]] [] [4, 2, 0] [none, none, none, none, none, none, none, none, none, none, none, none, none, none, none, none, none, none, none, none, none, none, none, none, none, none, none, none, none, none, none, none, none, none, none, none, none, none, none, none, none, none, none, none, none, none, none, none, none, none, none, none, none, none, none, none, none, none, none, none, none, none, none, none, none, none, none, none, none, none, none, none, none, none, none, none, none, none, none, none, none, none, none, none, none, none, none, none, none, none, none, none, none, none, none, none, none, none, none, none, none, none, none, none, none, none, none, none, none, none, none, none, none, none, none, none, none, none, none, none, none, none, none, some 123, some 124, some 125, some 126, some 127, some 128, some 129, some 130, some 131, none, none, none, none, none, none, none, none, none, none, none, none, none, none, none, none, none, none, none, none, none, none, none, none, none, none, none, none, none, none, none, none, none, none, none, none, none, none, none, none, none, none, none, none, none, none, none, none, none, none, none, none, none, none, none, none, none, none, none, none, none, none, none, none, none, none, none, none, none, none, none, none, none, none, none, none, none, none, none, none, none, none, none, none, none, none, none, none, none, none, none, none, none, none, none, none, none, none, none, none, none, none, none, none, none, none, none, none, none, none, none, none, none, none, none, none, none, none, none, none, none, none, none] (by kernel_rfl) rfl (by kernel_rfl) hRr hRt hRs hRd hC0 (by kernel_rfl) (by kernel_rfl) ?_
 apply rg7_ev
 ·intro a w hR hC hf; obtain ⟨e1, -⟩ := hf; replace e1 : a.tmps.getD 1 undef = _ := e1; refine rg_plain rfl fun K hK => ?_; go_simp; exact hK _ _ rfl ⟨hRr _, hRs _ _, fun _ _ _ _ h => h⟩
 apply rg7_ev
 ·intro a w hR hC hf; obtain ⟨e123, -⟩ := hf; replace e123 : a.tmps.getD 123 undef = _ := e123; refine rg_plain rfl fun K hK => ?_; have hx := HX.out.only hR.1 (by simp; exact hne); have y6 := hx.cell (i := 6) rfl; have y7 := hx.cell (i := 7) rfl; have y8 := hx.cell (i := 8) rfl; go_simp; exact hK _ _ rfl ⟨hRr _, hRs _ _, fun _ _ _ _ h => h⟩
 apply rg7_ev
 ·intro a w hR hC hf; obtain ⟨e1, -⟩ := hf; replace e1 : a.tmps.getD 1 undef = _ := e1; refine rg_plain rfl fun K hK => ?_; go_simp; exact hK _ _ rfl ⟨hRr _, hRs _ _, fun _ _ _ _ h => h⟩
 apply rg7_ev
 ·intro a w hR hC hf; obtain ⟨e125, -⟩ := hf; replace e125 : a.tmps.getD 125 undef = _ := e125; refine rg_plain rfl fun K hK => ?_; have hx := HX.out.only hR.1 (by simp; exact hne); have y16 := hx.cell (i := 16) rfl; go_simp; exact hK _ _ rfl ⟨hRr _, hRs _ _, fun _ _ _ _ h => h⟩
 apply rg7_ev
 ·intro a w hR hC hf; obtain ⟨e1, -⟩ := hf; replace e1 : a.tmps.getD 1 undef = _ := e1; refine rg_plain rfl fun K hK => ?_; go_simp; exact hK _ _ rfl ⟨hRr _, hRs _ _, fun _ _ _ _ h => h⟩
 apply rg7_ev
 ·intro a w hR hC hf; obtain ⟨e127, -⟩ := hf; replace e127 : a.tmps.getD 127 undef = _ := e127; refine rg_plain rfl fun K hK => ?_; have hx := HX.out.only hR.1 (by simp; exact hne); have y15 := hx.cell (i := 15) rfl; go_simp; exact hK _ _ rfl ⟨hRr _, hRs _ _, fun _ _ _ _ h => h⟩
 apply rg7_ev
 ·intro a w hR hC hf; obtain ⟨e3, -⟩ := hf; replace e3 : a.tmps.getD 3 undef = _ := e3; refine rg_plain rfl fun K hK => ?_; go_simp; exact hK _ _ rfl ⟨hRr _, hRs _ _, fun _ _ _ _ h => h⟩
 refine ⟨StC Z 43 [(6, .int .i64 m.x.upload.node), (7, .int .i64 m.x.upload.boot), (8, .int .i64 m.x.upload.seq)], stands5_of StC.stable (by intro x hx hk; simp only [List.mem_cons, List.not_mem_nil, or_false] at hx; rcases hx with rfl | rfl | rfl <;> first | (refine StC.stableZ ?_; simp; done) | exact Bool.noConfusion (hk.symm.trans (by kernel_rfl : _ = true))), fun a w hR hC hf => ?_, ?_⟩
 ·obtain ⟨e129, e124, -⟩ := hf; replace e129 : a.tmps.getD 129 undef = _ := e129; replace e124 : a.tmps.getD 124 undef = _ := e124; refine rg_plain rfl fun K hK => ?_; obtain ⟨vs, rz, hl, -⟩ := hR.2 _ HZ.out; have hl2 : vs.length = 18 := hl; obtain ⟨v6, h6⟩ : ∃ v, vs[6]? = some v := ⟨_, List.getElem?_eq_getElem (by omega)⟩; have z6 := rz.cell h6; have zf6 := rz.free 6; obtain ⟨v7, h7⟩ : ∃ v, vs[7]? = some v := ⟨_, List.getElem?_eq_getElem (by omega)⟩; have z7 := rz.cell h7; have zf7 := rz.free 7; obtain ⟨v8, h8⟩ : ∃ v, vs[8]? = some v := ⟨_, List.getElem?_eq_getElem (by omega)⟩; have z8 := rz.cell h8
  have zf8 := rz.free 8; have hst := StC.sets rz [(6, .int .i64 m.x.upload.node), (7, .int .i64 m.x.upload.boot), (8, .int .i64 m.x.upload.seq)] (by simp) (by simp; omega); clear hl hl2 h6 h7 h8; have Hst := Lib.hid hst; clear hst; go_simp; exact hK undef _ Hst.out.1 ⟨Hst.out.2.mono (by simp), Hst.out.2, fun _ _ _ _ _ => trivial⟩
 apply rg7_ev
 ·intro a w hR hC hf; obtain ⟨e3, -⟩ := hf; replace e3 : a.tmps.getD 3 undef = _ := e3; refine rg_plain rfl fun K hK => ?_; go_simp; exact hK _ _ rfl ⟨hRr _, hRs _ _, fun _ _ _ _ h => h⟩
 refine ⟨StC Z 43 [(16, .int .i64 m.x.time)], stands5_of StC.stable (by intro x hx hk; simp only [List.mem_cons, List.not_mem_nil, or_false] at hx; rcases hx with rfl | rfl | rfl <;> first | (refine StC.stableZ ?_; simp; done) | exact Bool.noConfusion (hk.symm.trans (by kernel_rfl : _ = true))), fun a w hR hC hf => ?_, ?_⟩
 ·obtain ⟨e130, e126, -⟩ := hf; replace e130 : a.tmps.getD 130 undef = _ := e130; replace e126 : a.tmps.getD 126 undef = _ := e126; refine rg_plain rfl fun K hK => ?_; obtain ⟨vs, rz, hl, -⟩ := hR.2 _ HZ.out; have hl2 : vs.length = 18 := hl; obtain ⟨v16, h16⟩ : ∃ v, vs[16]? = some v := ⟨_, List.getElem?_eq_getElem (by omega)⟩; have z16 := rz.cell h16; have zf16 := rz.free 16; have hst := StC.sets rz [(16, .int .i64 m.x.time)] (by simp) (by simp; omega); clear hl hl2 h16; have Hst := Lib.hid hst; clear hst; go_simp; exact hK undef _ Hst.out.1 ⟨Hst.out.2.mono (by simp), Hst.out.2, fun _ _ _ _ _ => trivial⟩
 apply rg7_ev
 ·intro a w hR hC hf; obtain ⟨e3, -⟩ := hf; replace e3 : a.tmps.getD 3 undef = _ := e3; refine rg_plain rfl fun K hK => ?_; go_simp; exact hK _ _ rfl ⟨hRr _, hRs _ _, fun _ _ _ _ h => h⟩
 refine ⟨StC Z 43 [(15, .slice m.p m.x.parts.length m.c)], stands5_of StC.stable (by intro x hx hk; simp only [List.mem_cons, List.not_mem_nil, or_false] at hx; rcases hx with rfl | rfl | rfl <;> first | (refine StC.stableZ ?_; simp; done) | exact Bool.noConfusion (hk.symm.trans (by kernel_rfl : _ = true))), fun a w hR hC hf => ?_, ?_⟩
 ·obtain ⟨e131, e128, -⟩ := hf; replace e131 : a.tmps.getD 131 undef = _ := e131; replace e128 : a.tmps.getD 128 undef = _ := e128; refine rg_plain rfl fun K hK => ?_; obtain ⟨vs, rz, hl, -⟩ := hR.2 _ HZ.out; have hl2 : vs.length = 18 := hl; obtain ⟨v15, h15⟩ : ∃ v, vs[15]? = some v := ⟨_, List.getElem?_eq_getElem (by omega)⟩; have z15 := rz.cell h15; have zf15 := rz.free 15; have hst := StC.sets rz [(15, .slice m.p m.x.parts.length m.c)] (by simp) (by simp; omega); clear hl hl2 h15; have Hst := Lib.hid hst; clear hst; go_simp; exact hK undef _ Hst.out.1 ⟨Hst.out.2.mono (by simp), Hst.out.2, fun _ _ _ _ _ => trivial⟩
 intro f3 w3 hR3 hf hl3; dsimp only [mergeT]; obtain ⟨l7, l9, l11, -⟩ := hl3; replace l7 : ∃ v, (StC Z 43 [(6, .int .i64 m.x.upload.node), (7, .int .i64 m.x.upload.boot), (8, .int .i64 m.x.upload.seq)]) v w3 := l7; replace l9 : ∃ v, (StC Z 43 [(16, .int .i64 m.x.time)]) v w3 := l9; replace l11 : ∃ v, (StC Z 43 [(15, .slice m.p m.x.parts.length m.c)]) v w3 := l11; obtain ⟨u7, s7⟩ := l7; obtain ⟨u9, s9⟩ := l9; obtain ⟨u11, s11⟩ := l11; have rz3 : Row w3 Z 43 (lmCells ⟨{ z.x with upload := m.x.upload, time := m.x.time, parts := m.x.parts }, m.p, m.c⟩) := zone_end (((s7.app s9).app s11)) HZ.out hR3 (by simp)
 have HX3 := Lib.hid (HX.out.only hR3.1 (by simp; exact hne)); have HZ3 := Lib.hid rz3; have HO3 := Lib.hid hR3.1; clear hR3 rz3 hRr hRt hRd hRs hC0 s7 s9 s11; have hx15 := HX3.out.cell (i := 15) rfl; rw [Hn.out] at hx15; have Hx15 := Lib.hid hx15
 have HEND : Hid (∀ (b' : Bool), (b' = true → b = true ∧ 0 < n ∧ partsOk m.x.parts n) → Sw m z ⟨{ z.x with upload := m.x.upload, time := m.x.time, parts := m.x.parts }, m.p, m.c⟩ b b') := Lib.hid (fun b' h => ⟨by have := Hk.out; omega, by have := Hk.out; omega, rfl, rfl, fun hb => (h hb).1, fun _ h3 => by have := Hk.out; omega, fun _ h6 => by have := Hk.out; omega, fun hb _ => by
  obtain ⟨-, h2, h3, h4⟩ := h hb; rw [List.take_of_length_le (by rw [Hn.out]; exact Nat.le_refl _)] at h3 h4; refine ⟨fun e => ?_, h3, h4⟩; have := Hn.out; rw [e] at this
  simp at this; omega, fun h7 => absurd Hk.out h7⟩)
 have hcase : b = false ∨ (b = true ∧ n = 0) ∨ (b = true ∧ 0 < n) := by cases b with
  | false => exact .inl rfl
  | true => rcases Nat.eq_zero_or_pos n with h | h; exact .inr (.inl ⟨rfl, h⟩); exact .inr (.inr ⟨rfl, h⟩)
 rcases hcase with rfl | ⟨rfl, rfl⟩ | ⟨rfl, h0n⟩
 ·skip
  go_wp2_with fail
  go_loopw [4, 142] (fun f a wl => ∃ (j : Nat) (bb : Bool), f = .bool bb ∧ a = .int .i64 (j : Int) ∧ j ≤ n ∧ Hid (bb = true → False ∧ partsOk m.x.parts j) ∧ Hid (Only [] w3 wl)) (fun _ a _ => n - (intOf a).toNat)
  case atStart => exact ⟨0, false, rfl, rfl, Nat.zero_le _, Lib.hid (fun h => absurd h (by decide)), Lib.hid (Only.refl _ _)⟩
  case round =>
   (try clear h0n0)
   clear hx15; obtain ⟨j, bb, rfl, rfl, hj, HC, HOl⟩ := hrel; have hx15 := (HX3.out.only0 HOl.out).cell (i := 15) rfl; rw [Hn.out] at hx15
   by_cases hlt : j < n
   ·obtain ⟨x, hx⟩ : ∃ x, m.x.parts[j]? = some x := ⟨_, List.getElem?_eq_getElem (by rw [Hn.out]; exact hlt)⟩; have hpne : m.x.parts ≠ [] := fun e => (by rw [e] at hx; cases hx); have hrd : Rd wr m.p (ziCells m.x.parts) := (HM.out.1.only HO3.out (fun a ha => by have := HPZ.out hpne a.block (by rw [ha]; simp [blk]); simpa using this)).only0 HOl.out; have hne2 : ziCells m.x.parts ≠ [] := fun e => (by have := ziCells_get hx; rw [e] at this; cases this); obtain ⟨bq, off, hpq, -⟩ := hrd.lt hne2; rw [hpq] at hrd hx15 ⊢; have hcx := hrd.cells _ _ (ziCells_get hx); rw [Addr.add_lit] at hcx; have Hx := Lib.hid hx
    have Hpq := Lib.hid hpq; have Hrd := Lib.hid hrd; clear hpq hx hrd hne2 hpne
    cases bb with
    | false =>
     have HN : Hid (false = true → False ∧ partsOk m.x.parts (j + 1)) := Lib.hid (fun h => absurd h (by decide)); go_wp2_with fail; refine ⟨⟨j + 1, false, rfl, by go_num, by omega, HN, HOl⟩, ?_⟩; show n - ((j : Int) + 1).toNat < n - ((j : Int)).toNat; omega
    | true =>
     have hcase : ¬ 1 ≤ x ∨ (1 ≤ x ∧ ¬ x ≤ 16) ∨ (1 ≤ x ∧ x ≤ 16) := by omega
     rcases hcase with t1 | ⟨t1, t2⟩ | ⟨t1, t2⟩
     ·skip
      have HN : Hid (false = true → False ∧ partsOk m.x.parts (j + 1)) := Lib.hid (fun h => absurd h (by decide)); go_wp2_with fail; refine ⟨⟨j + 1, false, rfl, by go_num, by omega, HN, HOl⟩, ?_⟩; show n - ((j : Int) + 1).toNat < n - ((j : Int)).toNat; omega
     ·skip
      have t3 := decide_eq_false t2; clear t2; have HN : Hid (false = true → False ∧ partsOk m.x.parts (j + 1)) := Lib.hid (fun h => absurd h (by decide)); go_wp2_with fail; refine ⟨⟨j + 1, false, rfl, by go_num, by omega, HN, HOl⟩, ?_⟩; show n - ((j : Int) + 1).toNat < n - ((j : Int)).toNat; omega
     ·have Ht := Lib.hid (And.intro t1 t2)
      by_cases hj0 : j = 0
      ·have q0 : ((j : Int) == 0) = true := beq_iff_eq.2 (by omega); have Hj0 := Lib.hid hj0; clear hj0; have HN : Hid (true = true → False ∧ partsOk m.x.parts (j + 1)) := Lib.hid (fun _ => ⟨(HC.out (by trivial)).1, partsOk_snoc (HC.out (by trivial)).2 Hx.out Ht.out.1 Ht.out.2 (fun y h => absurd h (by have := Hj0.out; omega))⟩); go_wp2_with fail; refine ⟨⟨j + 1, true, rfl, by go_num, by omega, HN, HOl⟩, ?_⟩; show n - ((j : Int) + 1).toNat < n - ((j : Int)).toNat; omega
      ·obtain ⟨y, hy⟩ : ∃ y, m.x.parts[j - 1]? = some y := ⟨_, List.getElem?_eq_getElem (by rw [Hn.out]; omega)⟩; have hcy := Hrd.out.cells _ _ (ziCells_get hy); rw [Addr.add_lit] at hcy; have Hy := Lib.hid hy; have q0 : ((j : Int) == 0) = false := beq_eq_false_iff_ne.2 (by omega); have q1 : wrap64 ((j : Int) - 1) = ((j - 1 : Nat) : Int) := (by rw [IntWalk.wrap64_in _ (by omega)]; omega); have q2 : IntKind.i64.wrap ((j : Int) - 1) = ((j - 1 : Nat) : Int) := (by rw [IntWalk.i64_in _ (by omega)]; omega); have q3 : j - 1 < n := (by omega); have Hj0 := Lib.hid hj0; clear hy hj0
       by_cases hyx : y < x
       ·have Hyx := Lib.hid hyx; have HN : Hid (true = true → False ∧ partsOk m.x.parts (j + 1)) := Lib.hid (fun _ => ⟨(HC.out (by trivial)).1, partsOk_snoc (HC.out (by trivial)).2 Hx.out Ht.out.1 Ht.out.2 (fun z h hz => by rw [Hy.out] at hz; cases hz; exact Hyx.out)⟩); go_wp2_with fail; refine ⟨⟨j + 1, true, rfl, by go_num, by omega, HN, HOl⟩, ?_⟩; show n - ((j : Int) + 1).toNat < n - ((j : Int)).toNat; omega
       ·have q4 := decide_eq_false hyx; clear hyx; have HN : Hid (false = true → False ∧ partsOk m.x.parts (j + 1)) := Lib.hid (fun h => absurd h (by decide)); go_wp2_with fail; refine ⟨⟨j + 1, false, rfl, by go_num, by omega, HN, HOl⟩, ?_⟩; show n - ((j : Int) + 1).toNat < n - ((j : Int)).toNat; omega
   ·obtain rfl : j = n := (by omega); go_wp2_with fail; exact HE.out _ _ _ _ _ _ _ _ _ _ _ _ _ _ _ _ _ _ _ _ _ _ _ _ _ _ _ _ _ _ _ _ _ _ _ _ _ _ _ _ _ _ _ _ _ _ _ _ _ _ _ _ _ _ _ _ _ _ _ _ _ _ _ _ _ _ _ _ _ _ _ _ _ _ _ _ _ _ _ _ _ _ _ _ _ _ _ _ _ _ _ _ _ _ _ _ _ _ _ _ _ _ _ _ _ _ _ _ _ _ _ _ _ _ _ _ _ _ _ _ _ _ _ _ _ _ _ _ _ _ _ _ bb ⟨{ z.x with upload := m.x.upload, time := m.x.time, parts := m.x.parts }, m.p, m.c⟩ _ (HX3.out.only0 HOl.out) (HZ3.out.only0 HOl.out) (HO3.out.trans0 HOl.out) (HEND.out bb (fun h => absurd (HC.out h).1 (by simp)))
 ·skip
  have h0n0 : ¬ ((0 : Int) < ((0 : Nat) : Int)) := (by omega); go_wp2_with fail
  go_loopw [4, 142] (fun f a wl => ∃ (j : Nat) (bb : Bool), f = .bool bb ∧ a = .int .i64 (j : Int) ∧ j ≤ 0 ∧ Hid (bb = true → False ∧ partsOk m.x.parts j) ∧ Hid (Only [] w3 wl)) (fun _ a _ => 0 - (intOf a).toNat)
  case atStart => exact ⟨0, false, rfl, rfl, Nat.zero_le _, Lib.hid (fun h => absurd h (by decide)), Lib.hid (Only.refl _ _)⟩
  case round =>
   (try clear h0n0)
   clear hx15; obtain ⟨j, bb, rfl, rfl, hj, HC, HOl⟩ := hrel; have hx15 := (HX3.out.only0 HOl.out).cell (i := 15) rfl; rw [Hn.out] at hx15
   by_cases hlt : j < 0
   ·exact absurd hlt (Nat.not_lt_zero _)
   ·obtain rfl : j = 0 := (by omega); go_wp2_with fail; exact HE.out _ _ _ _ _ _ _ _ _ _ _ _ _ _ _ _ _ _ _ _ _ _ _ _ _ _ _ _ _ _ _ _ _ _ _ _ _ _ _ _ _ _ _ _ _ _ _ _ _ _ _ _ _ _ _ _ _ _ _ _ _ _ _ _ _ _ _ _ _ _ _ _ _ _ _ _ _ _ _ _ _ _ _ _ _ _ _ _ _ _ _ _ _ _ _ _ _ _ _ _ _ _ _ _ _ _ _ _ _ _ _ _ _ _ _ _ _ _ _ _ _ _ _ _ _ _ _ _ _ _ _ _ bb ⟨{ z.x with upload := m.x.upload, time := m.x.time, parts := m.x.parts }, m.p, m.c⟩ _ (HX3.out.only0 HOl.out) (HZ3.out.only0 HOl.out) (HO3.out.trans0 HOl.out) (HEND.out bb (fun h => absurd (HC.out h).1 (by simp)))
 ·have H0n := Lib.hid h0n; have h0n0 : ((0 : Int) < (n : Int)) := (by omega); go_wp2_with fail
  go_loopw [4, 142] (fun f a wl => ∃ (j : Nat) (bb : Bool), f = .bool bb ∧ a = .int .i64 (j : Int) ∧ j ≤ n ∧ Hid (bb = true → True ∧ partsOk m.x.parts j) ∧ Hid (Only [] w3 wl)) (fun _ a _ => n - (intOf a).toNat)
  case atStart => exact ⟨0, true, rfl, rfl, Nat.zero_le _, Lib.hid (fun h => ⟨by first | trivial | omega, partsOk_zero _⟩), Lib.hid (Only.refl _ _)⟩
  case round =>
   (try clear h0n0)
   clear hx15; obtain ⟨j, bb, rfl, rfl, hj, HC, HOl⟩ := hrel; have hx15 := (HX3.out.only0 HOl.out).cell (i := 15) rfl; rw [Hn.out] at hx15
   by_cases hlt : j < n
   ·obtain ⟨x, hx⟩ : ∃ x, m.x.parts[j]? = some x := ⟨_, List.getElem?_eq_getElem (by rw [Hn.out]; exact hlt)⟩; have hpne : m.x.parts ≠ [] := fun e => (by rw [e] at hx; cases hx); have hrd : Rd wr m.p (ziCells m.x.parts) := (HM.out.1.only HO3.out (fun a ha => by have := HPZ.out hpne a.block (by rw [ha]; simp [blk]); simpa using this)).only0 HOl.out; have hne2 : ziCells m.x.parts ≠ [] := fun e => (by have := ziCells_get hx; rw [e] at this; cases this); obtain ⟨bq, off, hpq, -⟩ := hrd.lt hne2; rw [hpq] at hrd hx15 ⊢; have hcx := hrd.cells _ _ (ziCells_get hx); rw [Addr.add_lit] at hcx; have Hx := Lib.hid hx
    have Hpq := Lib.hid hpq; have Hrd := Lib.hid hrd; clear hpq hx hrd hne2 hpne
    cases bb with
    | false =>
     have HN : Hid (false = true → True ∧ partsOk m.x.parts (j + 1)) := Lib.hid (fun h => absurd h (by decide)); go_wp2_with fail; refine ⟨⟨j + 1, false, rfl, by go_num, by omega, HN, HOl⟩, ?_⟩; show n - ((j : Int) + 1).toNat < n - ((j : Int)).toNat; omega
    | true =>
     have hcase : ¬ 1 ≤ x ∨ (1 ≤ x ∧ ¬ x ≤ 16) ∨ (1 ≤ x ∧ x ≤ 16) := by omega
     rcases hcase with t1 | ⟨t1, t2⟩ | ⟨t1, t2⟩
     ·skip
      have HN : Hid (false = true → True ∧ partsOk m.x.parts (j + 1)) := Lib.hid (fun h => absurd h (by decide)); go_wp2_with fail; refine ⟨⟨j + 1, false, rfl, by go_num, by omega, HN, HOl⟩, ?_⟩; show n - ((j : Int) + 1).toNat < n - ((j : Int)).toNat; omega
     ·skip
      have t3 := decide_eq_false t2; clear t2; have HN : Hid (false = true → True ∧ partsOk m.x.parts (j + 1)) := Lib.hid (fun h => absurd h (by decide)); go_wp2_with fail; refine ⟨⟨j + 1, false, rfl, by go_num, by omega, HN, HOl⟩, ?_⟩; show n - ((j : Int) + 1).toNat < n - ((j : Int)).toNat; omega
     ·have Ht := Lib.hid (And.intro t1 t2)
      by_cases hj0 : j = 0
      ·have q0 : ((j : Int) == 0) = true := beq_iff_eq.2 (by omega); have Hj0 := Lib.hid hj0; clear hj0; have HN : Hid (true = true → True ∧ partsOk m.x.parts (j + 1)) := Lib.hid (fun _ => ⟨(HC.out (by trivial)).1, partsOk_snoc (HC.out (by trivial)).2 Hx.out Ht.out.1 Ht.out.2 (fun y h => absurd h (by have := Hj0.out; omega))⟩); go_wp2_with fail; refine ⟨⟨j + 1, true, rfl, by go_num, by omega, HN, HOl⟩, ?_⟩; show n - ((j : Int) + 1).toNat < n - ((j : Int)).toNat; omega
      ·obtain ⟨y, hy⟩ : ∃ y, m.x.parts[j - 1]? = some y := ⟨_, List.getElem?_eq_getElem (by rw [Hn.out]; omega)⟩; have hcy := Hrd.out.cells _ _ (ziCells_get hy); rw [Addr.add_lit] at hcy; have Hy := Lib.hid hy; have q0 : ((j : Int) == 0) = false := beq_eq_false_iff_ne.2 (by omega); have q1 : wrap64 ((j : Int) - 1) = ((j - 1 : Nat) : Int) := (by rw [IntWalk.wrap64_in _ (by omega)]; omega); have q2 : IntKind.i64.wrap ((j : Int) - 1) = ((j - 1 : Nat) : Int) := (by rw [IntWalk.i64_in _ (by omega)]; omega); have q3 : j - 1 < n := (by omega); have Hj0 := Lib.hid hj0; clear hy hj0
       by_cases hyx : y < x
       ·have Hyx := Lib.hid hyx; have HN : Hid (true = true → True ∧ partsOk m.x.parts (j + 1)) := Lib.hid (fun _ => ⟨(HC.out (by trivial)).1, partsOk_snoc (HC.out (by trivial)).2 Hx.out Ht.out.1 Ht.out.2 (fun z h hz => by rw [Hy.out] at hz; cases hz; exact Hyx.out)⟩); go_wp2_with fail; refine ⟨⟨j + 1, true, rfl, by go_num, by omega, HN, HOl⟩, ?_⟩; show n - ((j : Int) + 1).toNat < n - ((j : Int)).toNat; omega
       ·have q4 := decide_eq_false hyx; clear hyx; have HN : Hid (false = true → True ∧ partsOk m.x.parts (j + 1)) := Lib.hid (fun h => absurd h (by decide)); go_wp2_with fail; refine ⟨⟨j + 1, false, rfl, by go_num, by omega, HN, HOl⟩, ?_⟩; show n - ((j : Int) + 1).toNat < n - ((j : Int)).toNat; omega
   ·obtain rfl : j = n := (by omega); go_wp2_with fail; exact HE.out _ _ _ _ _ _ _ _ _ _ _ _ _ _ _ _ _ _ _ _ _ _ _ _ _ _ _ _ _ _ _ _ _ _ _ _ _ _ _ _ _ _ _ _ _ _ _ _ _ _ _ _ _ _ _ _ _ _ _ _ _ _ _ _ _ _ _ _ _ _ _ _ _ _ _ _ _ _ _ _ _ _ _ _ _ _ _ _ _ _ _ _ _ _ _ _ _ _ _ _ _ _ _ _ _ _ _ _ _ _ _ _ _ _ _ _ _ _ _ _ _ _ _ _ _ _ _ _ _ _ _ _ bb ⟨{ z.x with upload := m.x.upload, time := m.x.time, parts := m.x.parts }, m.p, m.c⟩ _ (HX3.out.only0 HOl.out) (HZ3.out.only0 HOl.out) (HO3.out.trans0 HOl.out) (HEND.out bb (fun h => ⟨by trivial, H0n.out, (HC.out h).2⟩))
end Go.Proofs.Ytfeglnpmpgipiaa
end
section
set_option linter.unusedVariables false
set_option maxRecDepth 100000
namespace Go.Proofs.Ytfeglnpmpgipiaa
open Go.RowKit
def addS (ids : List Cid) (x : Cid) : List Cid := if x ∈ ids then ids else ids ++ [x]
set_option maxHeartbeats 4000000 in
theorem setHas_any (r : Nat) (ids : List Cid) (x : Cid) (w : World) (h : IdSet w r ids) :
  Calls Try.prog 19 #[.map (some r), idV x] w fun e w' => e = .returned (.bool (decide (x ∈ ids))) ∧ Only [] w w' := by
 obtain ⟨w1, hw1⟩ : ∃ w1, w1 = w.alloc (.cells #[.int .i64 x.node, .int .i64 x.boot, .int .i64 x.seq] 31) := ⟨_, rfl⟩; have o1 : Only [] w w1 := (by rw [hw1]; exact Only.alloc _ _); have r1 : Row w1 w.heap.size 31 [.int .i64 x.node, .int .i64 x.boot, .int .i64 x.seq] := (by rw [hw1]; exact Row.newOf _ _ _ _ rfl); have c0 := r1.cell (i := 0) rfl; have c1 := r1.cell (i := 1) rfl; have c2 := r1.cell (i := 2) rfl; have hh := (h.only o1 (by simp)).has x; have Hw1 := Lib.hid hw1; have Ho := Lib.hid o1; rw [hw1] at c0 c1 c2 hh; unfold idV unitV at hh; unfold idV; obtain ⟨d, hd⟩ : ∃ d, decide (x ∈ ids) = d := ⟨_, rfl⟩
 rw [hd] at hh ⊢; clear o1 r1 h hd hw1
 go_enter Try.func19, Try.ntmps19
 go_wp2_with fail
 go_ret
 exact ⟨rfl, by rw [← Hw1.out]; exact Ho.out.trans0 (Only.alloc _ _)⟩
set_option maxHeartbeats 4000000 in
theorem setAdd_any (r : Nat) (ids : List Cid) (x : Cid) (w : World) (h : IdSet w r ids) :
  Calls Try.prog 17 #[.map (some r), idV x] w fun e w' => (∃ v, e = .returned v) ∧ IdSet w' r (addS ids x) ∧ Only [r] w w' := by
 obtain ⟨w1, hw1⟩ : ∃ w1, w1 = w.alloc (.cells #[.int .i64 x.node, .int .i64 x.boot, .int .i64 x.seq] 31) := ⟨_, rfl⟩; have o1 : Only [] w w1 := (by rw [hw1]; exact Only.alloc _ _); have r1 : Row w1 w.heap.size 31 [.int .i64 x.node, .int .i64 x.boot, .int .i64 x.seq] := (by rw [hw1]; exact Row.newOf _ _ _ _ rfl); have c0 := r1.cell (i := 0) rfl; have c1 := r1.cell (i := 1) rfl; have c2 := r1.cell (i := 2) rfl; obtain ⟨w2, hu, hs2, o2⟩ := (h.only o1 (by simp)).add x; rw [show (if x ∈ ids then ids else ids ++ [x]) = addS ids x from rfl] at hs2; have HE := Lib.hid (And.intro hs2 ((o1.mono (by simp)).trans o2 (fun i hi _ => hi)))
 rw [hw1] at c0 c1 c2 hu; unfold idV unitV at hu; unfold idV; clear o1 r1 h hw1 hs2 o2
 go_enter Try.func17, Try.ntmps17
 go_wp2_with fail
 (first | go_end0 | ((try simp only [Exit.inBlock, Exit.then]); refine bodyPost_ret (results_none rfl _ _ _) rfl ?_))
 exact ⟨⟨_, rfl⟩, HE.out.1, HE.out.2⟩
end Go.Proofs.Ytfeglnpmpgipiaa
end
