/- EndsPk, part 13: ShaSums0. -/
import Derived.Test.YtfeglnpmpgipiaaEndsPk03
import Derived.Test.YtfeglnpmpgipiaaEndsPk12
import Derived.Laws.IdiomCopy
import Derived.Deep.AppendSrc
import Derived.Deep.MidRow
set_option linter.unusedVariables false
set_option maxRecDepth 100000
section
set_option linter.unusedVariables false
set_option maxRecDepth 100000
section
set_option linter.unusedVariables false
namespace Go.Proofs.Ytfeglnpmpgipiaa
open Go.RowKit
end Go.Proofs.Ytfeglnpmpgipiaa
end
section
set_option linter.unusedVariables false
namespace Go.Proofs.Ytfeglnpmpgipiaa
open Go.RowKit
theorem infoU8s : (Try.prog.info? 5).map (fun i => (i.zero, i.size, i.bytes)) = some (some (.int .u8 0), 1, 1) := by kernel_rfl
theorem rg_load {P : Program} {o : Oper} {a : Act} {K : Act → World → Prop} {w : World} {x : Operand} {ty : TypeId} {pv v : Value} (ho : o.op = .load ty x) (hx : a.eval x = pv)
  (hr : (Instr.loadAt ty pv).run P w = .ok v w) (h : K (a.put o.dst v) w) : o.wp P a w K (fun _ _ _ => False) := by
 unfold Oper.wp execOp; simp only [ho, hx, hr, Sem.run_bind, Sem.run_pure, Result.andThen_ok]; exact h
theorem rg_store {P : Program} {o : Oper} {a : Act} {K : Act → World → Prop} {w w' : World} {x y : Operand} {ty : TypeId} {pv v : Value} (ho : o.op = .store ty x y) (hx : a.eval x = pv) (hy : a.eval y = v)
  (hr : (Instr.storeAt ty pv v).run P w = .ok () w') (h : K (a.put o.dst undef) w') : o.wp P a w K (fun _ _ _ => False) := by
 unfold Oper.wp execOp; simp only [ho, hx, hy, hr, Sem.run_bind, Sem.run_pure, Result.andThen_ok]; exact h
def hrow (s : St) (v : Value) (N : Nat) : List Value := u32s s.l ++ [v, .int .i64 (N : Int)]
end Go.Proofs.Ytfeglnpmpgipiaa
end
section
set_option linter.unusedVariables false
namespace Go.Proofs.Ytfeglnpmpgipiaa
open Go.RowKit
theorem push1 (wr : World) (base : Nat) (p : Option Addr) (n c : Nat) (xs : List UInt8) (x : UInt8) (own : Own wr base 5 (.slice p n c) (u8s xs)) (hb : n + 1 ≤ 140737488355328) (hbase : base ≤ wr.heap.size) :
  ∃ p' c' w2, Hid ((Builtin.append_ #[100, 100] 100 #[.slice p n c, .slice (some ⟨wr.heap.size, 0, none⟩) 1 1]).run Try.prog (wr.alloc (.cells #[.int .u8 (x.toNat : Int)] 5)) = .ok (.slice p' (n + 1) c') w2) ∧
   Own w2 base 5 (.slice p' (n + 1) c') (u8s (xs ++ [x])) ∧ Only (blk p) wr w2 := by
 have on := Only.alloc wr (.cells #[.int .u8 (x.toNat : Int)] 5); have rn := Row.new wr 5 (u8s [x]); obtain ⟨p', c', w2, hr, o2, h2, hp⟩ := append_owned (P := Try.prog) (n := n) (m := 1) (bytes := 1) (q := some ⟨wr.heap.size, 0, none⟩) (c := 1) (news := u8s [x]) (t := 100) (ty := 100) _ Try.underlying100 infoU8s rfl (own.only0 on) rn.rd0 (by rfl) (by simp) (fun v hv => u8s_one hv) (by omega) (by omega) (by have := on.size; omega); exact ⟨p', c', w2, Lib.hid hr, by rw [u8s_append]; exact o2, (on.mono (by simp)).trans h2 (fun i hi _ => hi)⟩
theorem Own.blk {w : World} {base n c : Nat} {e : TypeId} {p : Option Addr} {vs : List Value} (o : Own w base e (.slice p n c) vs) : ∀ k ∈ blk p, base ≤ k := by
 intro k hk
 cases p with
 | none => simp [Go.Proofs.Ytfeglnpmpgipiaa.blk] at hk
 | some a => simp [Go.Proofs.Ytfeglnpmpgipiaa.blk] at hk; subst hk; exact (o.lt _ rfl).1
theorem be64_at (m q : Nat) (x : UInt8) (hq : q < 8) (hx : (be64 m)[q]? = some x) : (m : Int) / 2 ^ (56 - 8 * q) % 256 = (x.toNat : Int) := by
 have h : ∀ a : Nat, (UInt8.ofNat a).toNat = a % 256 := fun a => UInt8.toNat_ofNat'
 rcases (by omega : q = 0 ∨ q = 1 ∨ q = 2 ∨ q = 3 ∨ q = 4 ∨ q = 5 ∨ q = 6 ∨ q = 7) with rfl | rfl | rfl | rfl | rfl | rfl | rfl | rfl <;>
  (simp only [be64, List.getElem?_cons_succ, List.getElem?_cons_zero, Option.some.injEq] at hx; subst hx; rw [h]; simp)
theorem outB_at (s : St) (j : Nat) (x : UInt32) (h : s.l[j]? = some x) : (outB s)[4 * j]? = some (UInt8.ofNat (x.toNat / 16777216)) ∧ (outB s)[4 * j + 1]? = some (UInt8.ofNat (x.toNat / 65536)) ∧ (outB s)[4 * j + 2]? = some (UInt8.ofNat (x.toNat / 256)) ∧ (outB s)[4 * j + 3]? = some (UInt8.ofNat x.toNat) := by
 have hj : j < 8 := (List.getElem?_eq_some_iff.1 h).1
 rcases (by omega : j = 0 ∨ j = 1 ∨ j = 2 ∨ j = 3 ∨ j = 4 ∨ j = 5 ∨ j = 6 ∨ j = 7) with rfl | rfl | rfl | rfl | rfl | rfl | rfl | rfl <;>
  (obtain rfl := Option.some.inj h; exact ⟨rfl, rfl, rfl, rfl⟩)
def fill32 (l : List UInt8) (j : Nat) : List UInt8 := l.take j ++ List.replicate (32 - j) 0
theorem fill32_set (l : List UInt8) (h : l.length = 32) {j : Nat} {x : UInt8} (hj : l[j]? = some x) : (fill32 l j).set j x = fill32 l (j + 1) := by
 have hjl := (List.getElem?_eq_some_iff.1 hj).1; unfold fill32; have hlt : (l.take j).length = j := (by rw [List.length_take]; omega); rw [List.set_append_right _ _ (by omega), hlt, Nat.sub_self, List.take_add_one, hj]; obtain ⟨m, hm⟩ : ∃ m, 32 - j = m + 1 := ⟨31 - j, by omega⟩; rw [hm, show 32 - (j + 1) = m by omega, List.replicate_succ]
 simp
theorem fill32_len (l : List UInt8) (h : l.length = 32) (j : Nat) (hj : j ≤ 32) : (fill32 l j).length = 32 := by
 unfold fill32; rw [List.length_append, List.length_take, List.length_replicate]; omega
end Go.Proofs.Ytfeglnpmpgipiaa
end
section
set_option linter.unusedVariables false
namespace Go.Proofs.Ytfeglnpmpgipiaa
open Go.RowKit
end Go.Proofs.Ytfeglnpmpgipiaa
end
section
set_option linter.unusedVariables false
namespace Go.Proofs.Ytfeglnpmpgipiaa
open Go.RowKit
end Go.Proofs.Ytfeglnpmpgipiaa
end
end
