/- What the walk of the hash's sum needs: one byte put behind, the digest's bytes, an element of an array that is a value. -/
import Derived.Test.YtfoplbolbjcggaaDoorShaHashW
set_option linter.unusedVariables false
set_option maxRecDepth 100000
namespace Go.Proofs.YtfoplbolbjcggaaDoor
open Go.RowKit

/-- one byte put behind an owned slice -/
theorem push1 (wr : World) (base : Nat) (p : Option Addr) (n c : Nat) (xs : List UInt8) (x : UInt8) (own : Own wr base 5 (.slice p n c) (u8s xs)) (hb : n + 1 ≤ 140737488355328) (hbase : base ≤ wr.heap.size) :
    ∃ p' c' w2, Hid ((Builtin.append_ #[22, 22] 22 #[.slice p n c, .slice (some ⟨wr.heap.size, 0, none⟩) 1 1]).run Tryd.prog (wr.alloc (.cells #[.int .u8 (x.toNat : Int)] 5)) = .ok (.slice p' (n + 1) c') w2) ∧
      Own w2 base 5 (.slice p' (n + 1) c') (u8s (xs ++ [x])) ∧ Only (blk p) wr w2 := by
  have on := Only.alloc wr (.cells #[.int .u8 (x.toNat : Int)] 5)
  have rn := Row.new wr 5 (u8s [x])
  obtain ⟨p', c', w2, hr, o2, h2, hp⟩ := append_owned (P := Tryd.prog) (n := n) (m := 1) (bytes := 1) (q := some ⟨wr.heap.size, 0, none⟩) (c := 1) (news := u8s [x]) (t := 22) (ty := 22) _ Tryd.underlying22 infoU8s rfl (own.only0 on) rn.rd0 (by rfl) (by simp) (fun v hv => u8s_one hv) (by omega) (by omega) (by have := on.size; omega)
  exact ⟨p', c', w2, Lib.hid hr, by rw [u8s_append]; exact o2, (on.mono (by simp)).trans h2 (fun i hi _ => hi)⟩
theorem Own.blk {w : World} {base n c : Nat} {e : TypeId} {p : Option Addr} {vs : List Value} (o : Own w base e (.slice p n c) vs) : ∀ k ∈ blk p, base ≤ k := by
  intro k hk
  cases p with
  | none => simp [Go.Proofs.YtfoplbolbjcggaaDoor.blk] at hk
  | some a => simp [Go.Proofs.YtfoplbolbjcggaaDoor.blk] at hk; subst hk; exact (o.lt _ rfl).1

theorem be64_at (m q : Nat) (x : UInt8) (hq : q < 8) (hx : (be64 m)[q]? = some x) : (m : Int) / 2 ^ (56 - 8 * q) % 256 = (x.toNat : Int) := by
  have h : ∀ a : Nat, (UInt8.ofNat a).toNat = a % 256 := fun a => UInt8.toNat_ofNat'
  rcases (by omega : q = 0 ∨ q = 1 ∨ q = 2 ∨ q = 3 ∨ q = 4 ∨ q = 5 ∨ q = 6 ∨ q = 7) with rfl | rfl | rfl | rfl | rfl | rfl | rfl | rfl <;>
    (simp only [be64, List.getElem?_cons_succ, List.getElem?_cons_zero, Option.some.injEq] at hx; subst hx; rw [h]; simp)
/-- an element of an array that is a value -/
theorem run_index_agg {P : Program} (w : World) {t e : TypeId} {n : Nat} {d : TypeDesc} (cs : Array Value) (k : IntKind) (i : Int) (v : Value) (h : P.underlying t = some (.array n e)) (he : P.underlying e = some d) (hd : (match d with | .struct _ | .array _ _ => true | _ => false) = false) (hi : (P.info? e).map (·.size) = some 1) (h1 : 0 ≤ i) (h2 : i < n) (hv : cs[i.toNat]? = some v) :
    (Instr.index t (.agg cs) (.int k i)).run P w = .ok v w := by
  cases hq : P.info? e with
  | none => simp [hq] at hi
  | some inf =>
    simp [hq] at hi
    simp only [Instr.index, asIntOf, Sem.run_bind, Sem.run_pure, Result.andThen_ok, run_underlying h, run_underlying he, part, isAgg, sizeOf, h1, h2, and_self, if_true]
    cases d <;> first | (simp at hd; done) | simp [hq, hi, hv, typeInfo]
theorem wpl_index {P : Program} {ops : Array Oper} {rest : List Oper} {o : Oper} {a : Act} {Q : Exit → Act → World → Prop} {w : World} {x y : Operand} {ty : TypeId} {xv yv v : Value} (hg : o.guard = none) (ho : o.op = .index ty x y) (hx : a.eval x = xv) (hy : a.eval y = yv)
    (hr : (Instr.index ty xv yv).run P w = .ok v w) (h : wpList P ops Q rest (a.put o.dst v) w) : wpList P ops Q (o :: rest) a w :=
  wpList_plain hg fun K hK => by
    unfold Oper.wp execOp
    simp only [ho, hx, hy, hr, Sem.run_bind, Sem.run_pure, Result.andThen_ok]
    exact hK _ _ h
theorem outB_at (s : St) (j : Nat) (x : UInt32) (h : s.l[j]? = some x) : (outB s)[4 * j]? = some (UInt8.ofNat (x.toNat / 16777216)) ∧ (outB s)[4 * j + 1]? = some (UInt8.ofNat (x.toNat / 65536)) ∧ (outB s)[4 * j + 2]? = some (UInt8.ofNat (x.toNat / 256)) ∧ (outB s)[4 * j + 3]? = some (UInt8.ofNat x.toNat) := by
  have hj : j < 8 := (List.getElem?_eq_some_iff.1 h).1
  rcases (by omega : j = 0 ∨ j = 1 ∨ j = 2 ∨ j = 3 ∨ j = 4 ∨ j = 5 ∨ j = 6 ∨ j = 7) with rfl | rfl | rfl | rfl | rfl | rfl | rfl | rfl <;>
    (obtain rfl := Option.some.inj h; exact ⟨rfl, rfl, rfl, rfl⟩)
theorem byte_cells (x : UInt32) : Value.int .u8 ((x.toNat : Int) / 16777216 % 256) = u8 (UInt8.ofNat (x.toNat / 16777216)) ∧ Value.int .u8 ((x.toNat : Int) / 65536 % 256) = u8 (UInt8.ofNat (x.toNat / 65536)) ∧ Value.int .u8 ((x.toNat : Int) / 256 % 256) = u8 (UInt8.ofNat (x.toNat / 256)) ∧ Value.int .u8 ((x.toNat : Int) % 256) = u8 (UInt8.ofNat x.toNat) := by
  have ee : ∀ n : Nat, Value.int .u8 (((n % 256 : Nat)) : Int) = u8 (UInt8.ofNat n) := fun n => by unfold u8; rw [UInt8.toNat_ofNat']
  exact ⟨by rw [← ee]; congr 1, by rw [← ee]; congr 1, by rw [← ee]; congr 1, by rw [← ee]; congr 1⟩
/-- the row of 32 bytes while it is filled -/
def fill32 (l : List UInt8) (j : Nat) : List UInt8 := l.take j ++ List.replicate (32 - j) 0
theorem fill32_set (l : List UInt8) (h : l.length = 32) {j : Nat} {x : UInt8} (hj : l[j]? = some x) : (fill32 l j).set j x = fill32 l (j + 1) := by
  have hjl := (List.getElem?_eq_some_iff.1 hj).1
  unfold fill32
  have hlt : (l.take j).length = j := by rw [List.length_take]; omega
  rw [List.set_append_right _ _ (by omega), hlt, Nat.sub_self, List.take_add_one, hj]
  obtain ⟨m, hm⟩ : ∃ m, 32 - j = m + 1 := ⟨31 - j, by omega⟩
  rw [hm, show 32 - (j + 1) = m by omega, List.replicate_succ]
  simp
theorem fill32_len (l : List UInt8) (h : l.length = 32) (j : Nat) (hj : j ≤ 32) : (fill32 l j).length = 32 := by
  unfold fill32; rw [List.length_append, List.length_take, List.length_replicate]; omega
end Go.Proofs.YtfoplbolbjcggaaDoor
