/- Package-level errors (made by errors.New): where they point, that they are different, how they compare; a world that holds them. -/
import Derived.Test.YtfoplbolbjcggaaDoorProg
import Derived.Test.YtfoplbolbjcggaaDoorMem
import Derived.LaidLaws
import Derived.LaidEql
import Derived.MakeChecks
import Derived.Stop.Joined
set_option linter.unusedVariables false
set_option maxRecDepth 100000
namespace Go.Proofs.YtfoplbolbjcggaaDoor
open Go.ChangeShapes Go.WideShapes Go.RowKit

/-- the variable g holds an error that lies at a -/
def ErrAt (w : World) (g : Nat) (a : Addr) : Prop :=
  w.cell? ⟨g, 0, none⟩ = some (.iface 246 (.pointer (some a))) ∧ ∃ c t, w.heap[a.block]? = some (.cells c t (0, 0))
theorem ErrAt.cell {w : World} {g : Nat} {a : Addr} (h : ErrAt w g a) : w.cell? ⟨g, 0, none⟩ = some (.iface 246 (.pointer (some a))) := h.1
theorem ErrAt.lt {w : World} {g : Nat} {a : Addr} (h : ErrAt w g a) : g < w.heap.size ∧ a.block < w.heap.size := by
  obtain ⟨h1, c, t, h2⟩ := h
  exact ⟨World.block_lt_of_cell? w _ h1, (Array.getElem?_eq_some_iff.1 h2).1⟩
theorem ErrAt.only {S : List Nat} {w w' : World} {g : Nat} {a : Addr} (h : ErrAt w g a) (ho : Only S w w') (h1 : g ∉ S) (h2 : a.block ∉ S) : ErrAt w' g a := by
  obtain ⟨k1, k2⟩ := h.lt
  obtain ⟨e1, c, t, e2⟩ := h
  exact ⟨ho.cell e1 h1, c, t, by rw [ho.block _ k2 h2]; exact e2⟩
theorem ErrAt.only0 {w w' : World} {g : Nat} {a : Addr} (h : ErrAt w g a) (ho : Only [] w w') : ErrAt w' g a := h.only ho (by simp) (by simp)
/-- blocks that are new to w -/
theorem ErrAt.new {S : List Nat} {w w' : World} {g : Nat} {a : Addr} (h : ErrAt w g a) (ho : Only S w w') (hS : ∀ k ∈ S, w.heap.size ≤ k) : ErrAt w' g a := h.only0 (ho.drop hS)

theorem Tryd.infoErr : ∃ i, Tryd.prog.info? 246 = some i ∧ i.comparable = true := by
  have h : (Tryd.prog.info? 246).map (·.comparable) = some true := by kernel_rfl
  obtain ⟨i, h1, h2⟩ := Option.map_eq_some_iff.1 h
  exact ⟨i, h1, h2⟩
theorem Tryd.infoErrS : ∃ i, Tryd.prog.info? 260 = some i ∧ i.size ≠ 0 := by
  have h : (Tryd.prog.info? 260).map (·.size) = some 1 := by kernel_rfl
  obtain ⟨i, h1, h2⟩ := Option.map_eq_some_iff.1 h
  exact ⟨i, h1, by omega⟩

theorem err_eql_same (w : World) (a : Addr) : (binOp .eql 45 (.iface 246 (.pointer (some a))) (.iface 246 (.pointer (some a)))).run Tryd.prog w = .ok (.bool true) w := by
  obtain ⟨i, h1, h2⟩ := Tryd.infoErr
  obtain ⟨j, h3, h4⟩ := Tryd.infoErrS
  exact run_eql_iface_ptr_same w a Tryd.underlying45 Tryd.underlying246 h1 h2 h3
theorem err_neq_same (w : World) (a : Addr) : (binOp .neq 45 (.iface 246 (.pointer (some a))) (.iface 246 (.pointer (some a)))).run Tryd.prog w = .ok (.bool false) w := by
  obtain ⟨i, h1, h2⟩ := Tryd.infoErr
  obtain ⟨j, h3, h4⟩ := Tryd.infoErrS
  simp only [binOp]
  simp [Op.equal, Op.maxDepth, run_equalIn_iface_ptr_same w 9998 a Tryd.underlying45 Tryd.underlying246 h1 h2 h3]
theorem err_eql_other {w : World} {g g' : Nat} {a b : Addr} (ha : ErrAt w g a) (hb : ErrAt w g' b) (hne : a ≠ b) : (binOp .eql 45 (.iface 246 (.pointer (some a))) (.iface 246 (.pointer (some b)))).run Tryd.prog w = .ok (.bool false) w := by
  obtain ⟨i, h1, h2⟩ := Tryd.infoErr
  obtain ⟨j, h3, h4⟩ := Tryd.infoErrS
  obtain ⟨_, c, t, k⟩ := ha
  obtain ⟨_, c', t', k'⟩ := hb
  exact run_eql_iface_ptr_other w Tryd.underlying45 Tryd.underlying246 h1 h2 h3 h4 hne k k'

/-! What a row's list gives. -/

theorem Tryd.starErr : "*" ++ "errors.errorString" = "*errors.errorString" := by decide
theorem Tryd.rowErr (u : TypeId) (h : Tryd.prog.typeName? 3 u = some "*errors.errorString") : u = 246 :=
  typeName_ptr_named (nm := "errors.errorString") (by rw [Tryd.starErr]; kernel_rfl) (by kernel_rfl) (by decide) u (by rw [Tryd.starErr]; exact h)
theorem Tryd.cellsErrS : Tryd.prog.cellsOf 260 = 1 := by kernel_rfl
theorem Tryd.cellsStr : Tryd.prog.cellsOf 9 = 1 := by kernel_rfl

/-- an error az a row's list says it -/
def errD (b : List UInt8) : DataW Unit := .iface "*errors.errorString" (.ptr (.agg [.lit (.string b)]))

theorem errs_of_vars {W : World} : ∀ (l : List (String × List UInt8)) (ps : List MemPlace), DataW.LaidVars Tryd.prog W (l.map fun x => (x.1, errD x.2)) ps → ps.Nodup →
    (∀ b off, MemPlace.cell b off ∈ ps → (∃ c t, W.heap[b]? = some (.cells c t (0, 0))) ∧ ∀ u v, W.cell? ⟨b, off, none⟩ = some (.iface u v) → Value.okWide Tryd.prog W .any 0 u v) →
    (∀ x ∈ l, (Tryd.prog.globalNamed x.1).bind (fun g => (Tryd.prog.globals[g]?).map (·.type)) = some 45) →
    ∃ az : List Addr, az.length = l.length ∧ az.Nodup ∧ (∀ a ∈ az, MemPlace.cell a.block a.off ∈ ps) ∧
      ∀ (i : Nat) x a, l[i]? = some x → az[i]? = some a → ∃ g, Tryd.prog.globalNamed x.1 = some g ∧ ErrAt W g a
  | [], ps, h, _, _, _ => ⟨[], rfl, List.nodup_nil, by simp, by simp⟩
  | (n, b) :: r, ps, h, hnd, hrows, hty => by
    obtain ⟨g, t, cs, fu, p, q, hg, ht, hv, hd, hr, rfl⟩ := h
    have hty0 := hty (n, b) (by simp)
    rw [hg, Option.bind_some, ht] at hty0
    obtain rfl := Option.some.inj hty0
    obtain ⟨l0⟩ := cs
    have ok0 : ∀ u v, l0 = [.iface u v] → Value.okWide Tryd.prog W .any 0 u v := fun u v e => by
      subst e
      exact (hrows g 0 (by simp [MemPlace.row])).2 u v (by simpa using World.var?_cell hg hv 0)
    obtain ⟨a, s, rfl, hc, hs, hz, rfl⟩ := errorString_of_trod Tryd.underlying45 Tryd.rowErr Tryd.underlying246 Tryd.underlying260 rfl rfl Tryd.underlying9 Tryd.cellsErrS Tryd.cellsStr hd ok0
    have hndq : q.Nodup := (List.nodup_append.1 hnd).2.1
    obtain ⟨az, h1, h2, h3, h4⟩ := errs_of_vars r q hr hndq (fun b off hm => hrows b off (List.mem_append_right _ hm)) (fun x hx => hty x (List.mem_cons_of_mem _ hx))
    have hrow : MemPlace.row a 1 = [.cell a.block a.off] := by simp [MemPlace.row]
    refine ⟨a :: az, by simp [h1], List.nodup_cons.2 ⟨fun hm => ?_, h2⟩, ?_, ?_⟩
    · have := h3 a hm
      exact (List.nodup_append.1 hnd).2.2 _ (by rw [hrow]; simp) _ this rfl
    · intro c hc
      rcases List.mem_cons.1 hc with rfl | hc
      · rw [hrow]; simp
      · exact List.mem_append_right _ (h3 c hc)
    · intro i x c hx hcc
      cases i with
      | zero =>
        simp only [List.getElem?_cons_zero, Option.some.injEq] at hx hcc
        subst hx; subst hcc
        refine ⟨g, hg, ?_, (hrows a.block a.off (by rw [hrow]; simp)).1⟩
        simpa using World.var?_cell hg hv 0
      | succ i => exact h4 i x c (by simpa using hx) (by simpa using hcc)

/-- the errors of a row's list, given az names and texts -/
theorem errs_of_laid {W : World} {laid : List (String × DataW Unit)} (l : List (String × List UInt8)) (hl : laid = l.map fun x => (x.1, errD x.2)) (hh : (laid.all fun x => x.2.handleName?.isNone) = true)
    (hty : (l.all fun x => (Tryd.prog.globalNamed x.1).bind (fun g => (Tryd.prog.globals[g]?).map (·.type)) == some 45) = true) (h : laidMetH Tryd.prog laid W) :
    ∃ az : List Addr, az.length = l.length ∧ az.Nodup ∧ ∀ (i : Nat) x a, l[i]? = some x → az[i]? = some a → ∃ g, Tryd.prog.globalNamed x.1 = some g ∧ ErrAt W g a := by
  rw [Go.MakeChecks.laidMetH_plain _ _ _ hh] at h
  subst hl
  obtain ⟨ps, h1, h2, h3⟩ := h
  obtain ⟨az, k1, k2, _, k4⟩ := errs_of_vars l ps h1 h2 h3 (fun x hx => by simpa using List.all_eq_true.1 hty x hx)
  exact ⟨az, k1, k2, k4⟩

/-! A world for the witness. -/
noncomputable def errLow : Nat := (World.holding Tryd.prog default ⟨#[], #[], []⟩).heap.size
def setErr (h : Array Obj) (g at_ : Nat) : Array Obj := h.modify g fun
  | .cells _ t frozen => .cells #[.iface 246 (.pointer (some ⟨at_, 0, none⟩))] t frozen
  | o => o
def setErrs : Array Obj → Nat → List Nat → Array Obj
  | h, _, [] => h
  | h, n, g :: r => setErrs (setErr h g n) (n + 1) r
/-- the settled world, the errors (variable, text) laid -/
noncomputable def errWorld (os : Os) (l : List (Nat × List UInt8)) : World :=
  let w0 := World.holding Tryd.prog os ⟨(l.map fun x => Obj.cells #[.string ⟨x.2.toArray⟩] 260).toArray, #[], []⟩
  { w0 with heap := setErrs w0.heap errLow (l.map (·.1)) }
end Go.Proofs.YtfoplbolbjcggaaDoor
