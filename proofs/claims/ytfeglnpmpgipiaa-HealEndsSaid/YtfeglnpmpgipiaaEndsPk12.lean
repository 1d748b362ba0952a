/- EndsPk, part 12: Wires, ShaRound. -/
import Derived.Test.YtfeglnpmpgipiaaEndsPk01
import Derived.Test.YtfeglnpmpgipiaaEndsPk03
import Derived.Test.YtfeglnpmpgipiaaEndsPk11
import Derived.WalkKit
import Derived.Lib.Hide
import Derived.Test.YtfeglnpmpgipiaaProg
import Derived.Lib.SliceRun
import Derived.Lib.AppendZeros
import Derived.LaidLaws
import Derived.LaidEql
import Derived.MakeChecks
import Derived.Stop.Joined
set_option linter.unusedVariables false
set_option maxRecDepth 100000
section
set_option linter.unusedVariables false
set_option maxRecDepth 100000
section
set_option linter.unusedVariables false
namespace Go.Proofs.Ytfeglnpmpgipiaa
open Go.RowKit
def nb (n : Nat) : List UInt8 := if h : n < 128 then [UInt8.ofNat n] else UInt8.ofNat (n % 128 + 128) :: nb (n / 128)
termination_by n
decreasing_by omega
end Go.Proofs.Ytfeglnpmpgipiaa
end
section
namespace Go.Proofs.Ytfeglnpmpgipiaa
open Go.RowKit
theorem ofInt32_nat (a : Nat) (ha : a < 4294967296) : (BitVec.ofInt 32 (a : Int)).toNat = a := by
 rw [BitVec.toNat_ofInt]; simp; omega
theorem u32_wrap_nat (n : Nat) (h : n < 4294967296) : IntKind.u32.wrap (n : Int) = n := by
 simp [IntKind.wrap, IntKind.bits, IntKind.signed]; omega
theorem u32_xor_nat (a b : Nat) (ha : a < 4294967296) (hb : b < 4294967296) : bits .xor .u32 (a : Int) (b : Int) = ((a ^^^ b : Nat) : Int) := by
 simp only [bits]; show IntKind.u32.wrap (((BitVec.ofInt 32 (a : Int)) ^^^ (BitVec.ofInt 32 (b : Int))).toNat : Int) = _; rw [BitVec.toNat_xor, ofInt32_nat a ha, ofInt32_nat b hb]; exact u32_wrap_nat _ (Nat.xor_lt_two_pow (n := 32) ha hb)
theorem u32_and_nat (a b : Nat) (ha : a < 4294967296) (hb : b < 4294967296) : bits .and .u32 (a : Int) (b : Int) = ((a &&& b : Nat) : Int) := by
 simp only [bits]; show IntKind.u32.wrap (((BitVec.ofInt 32 (a : Int)) &&& (BitVec.ofInt 32 (b : Int))).toNat : Int) = _; rw [BitVec.toNat_and, ofInt32_nat a ha, ofInt32_nat b hb]; exact u32_wrap_nat _ (Nat.and_lt_two_pow (n := 32) _ hb)
theorem u32_or_nat (a b : Nat) (ha : a < 4294967296) (hb : b < 4294967296) : bits .or .u32 (a : Int) (b : Int) = ((a ||| b : Nat) : Int) := by
 simp only [bits]; show IntKind.u32.wrap (((BitVec.ofInt 32 (a : Int)) ||| (BitVec.ofInt 32 (b : Int))).toNat : Int) = _; rw [BitVec.toNat_or, ofInt32_nat a ha, ofInt32_nat b hb]; exact u32_wrap_nat _ (Nat.or_lt_two_pow (n := 32) ha hb)
theorem u32_xor_u32 (a b : UInt32) : bits .xor .u32 (a.toNat : Int) (b.toNat : Int) = ((a ^^^ b).toNat : Int) := by
 rw [u32_xor_nat _ _ a.toNat_lt b.toNat_lt, UInt32.toNat_xor]
theorem u32_and_u32 (a b : UInt32) : bits .and .u32 (a.toNat : Int) (b.toNat : Int) = ((a &&& b).toNat : Int) := by
 rw [u32_and_nat _ _ a.toNat_lt b.toNat_lt, UInt32.toNat_and]
theorem u32_or_u32 (a b : UInt32) : bits .or .u32 (a.toNat : Int) (b.toNat : Int) = ((a ||| b).toNat : Int) := by
 rw [u32_or_nat _ _ a.toNat_lt b.toNat_lt, UInt32.toNat_or]
theorem u32_mul_u32 (a b : UInt32) : ((a.toNat : Int) * (b.toNat : Int)) % 4294967296 = ((a * b).toNat : Int) := by
 rw [UInt32.toNat_mul]; simp
theorem u32_add_u32 (a b : UInt32) : ((a.toNat : Int) + (b.toNat : Int)) % 4294967296 = ((a + b).toNat : Int) := by
 rw [UInt32.toNat_add]; simp
end Go.Proofs.Ytfeglnpmpgipiaa
end
section
set_option linter.unusedVariables false
namespace Go.Proofs.Ytfeglnpmpgipiaa
open Go.RowKit
end Go.Proofs.Ytfeglnpmpgipiaa
end
section
set_option linter.unusedVariables false
namespace Go.Proofs.Ytfeglnpmpgipiaa
open Go.RowKit
def sb (s : UInt32) : List UInt8 := [UInt8.ofNat (s.toNat / 16777216), UInt8.ofNat (s.toNat / 65536), UInt8.ofNat (s.toNat / 256), UInt8.ofNat s.toNat]
end Go.Proofs.Ytfeglnpmpgipiaa
end
section
set_option linter.unusedVariables false
namespace Go.Proofs.Ytfeglnpmpgipiaa
open Go.RowKit
end Go.Proofs.Ytfeglnpmpgipiaa
end
section
set_option linter.unusedVariables false
namespace Go.Proofs.Ytfeglnpmpgipiaa
open Go.RowKit
end Go.Proofs.Ytfeglnpmpgipiaa
end
end
section
set_option linter.unusedVariables false
set_option maxRecDepth 100000
section
set_option linter.unusedVariables false
namespace Go.Proofs.Ytfeglnpmpgipiaa
open Go.RowKit
theorem shl_nat (x : UInt32) (s : Nat) (h : s < 32) : ((x.toNat : Int) * 2 ^ s % 4294967296) = ((x <<< UInt32.ofNat s).toNat : Int) := by
 have e : (UInt32.ofNat s).toNat = s := (by rw [UInt32.toNat_ofNat']; omega); rw [UInt32.toNat_shiftLeft, e, Nat.mod_eq_of_lt h, Nat.shiftLeft_eq]; rw [show ((2 : Int) ^ s) = ((2 ^ s : Nat) : Int) by simp, ← Int.natCast_mul]; omega
theorem shr_nat (x : UInt32) (n : Nat) (h : n < 32) : ((x.toNat : Int) / 2 ^ n) = ((x >>> UInt32.ofNat n).toNat : Int) := by
 have e : (UInt32.ofNat n).toNat = n := (by rw [UInt32.toNat_ofNat']; omega); rw [UInt32.toNat_shiftRight, e, Nat.mod_eq_of_lt h, Nat.shiftRight_eq_div_pow]; rw [show ((2 : Int) ^ n) = ((2 ^ n : Nat) : Int) by simp, ← Int.natCast_ediv]
end Go.Proofs.Ytfeglnpmpgipiaa
end
section
set_option linter.unusedVariables false
namespace Go.Proofs.Ytfeglnpmpgipiaa
open Go.RowKit
theorem grow_len : ∀ (n : Nat) (w : List UInt32), (grow n w).length = w.length + n
 | 0, w => rfl
 | n + 1, w => by simp only [grow, grow_len n, List.length_append]; simp; omega
theorem grow_take : ∀ (n : Nat) (w : List UInt32), (grow n w).take w.length = w
 | 0, w => by simp [grow]
 | n + 1, w => by
  have h := grow_take n (w ++ [nextW w]); have h2 := congrArg (List.take w.length) h; rw [List.take_take, List.length_append, Nat.min_eq_left (by omega), List.take_left] at h2; exact h2
theorem grow_get : ∀ (n : Nat) (w : List UInt32) (t : Nat), w.length ≤ t → t < w.length + n → (grow n w)[t]? = some (nextW ((grow n w).take t))
 | 0, w, t, h1, h2 => by omega
 | n + 1, w, t, h1, h2 => by
  have hl : (w ++ [nextW w]).length = w.length + 1 := by simp
  by_cases e : t = w.length
  ·subst e; have h := grow_take n (w ++ [nextW w]); have h3 := grow_take (n + 1) w; rw [h3]; have h4 : (grow n (w ++ [nextW w])).take (w.length + 1) = w ++ [nextW w] := (by rw [← hl]; exact h); have h5 := congrArg (fun l : List UInt32 => l[w.length]?) h4; simp only [List.getElem?_take] at h5; rw [if_pos (by omega)] at h5
   simpa [grow] using h5
  ·exact grow_get n (w ++ [nextW w]) t (by omega) (by omega)
theorem words_get : ∀ (bs : List UInt8) (j : Nat) (a b c d : UInt8), bs[4 * j]? = some a → bs[4 * j + 1]? = some b → bs[4 * j + 2]? = some c → bs[4 * j + 3]? = some d → (words bs)[j]? = some (word a b c d)
 | w :: x :: y :: z :: r, 0, a, b, c, d, h1, h2, h3, h4 => by
  simp at h1 h2 h3 h4
  subst h1 h2 h3 h4
  rfl
 | w :: x :: y :: z :: r, j + 1, a, b, c, d, h1, h2, h3, h4 => by
  simp only [words, List.getElem?_cons_succ]; refine words_get r j a b c d ?_ ?_ ?_ ?_
  ·rw [show 4 * (j + 1) = 4 * j + 4 by omega] at h1; simpa using h1
  ·rw [show 4 * (j + 1) + 1 = 4 * j + 1 + 4 by omega] at h2; simpa using h2
  ·rw [show 4 * (j + 1) + 2 = 4 * j + 2 + 4 by omega] at h3; simpa using h3
  ·rw [show 4 * (j + 1) + 3 = 4 * j + 3 + 4 by omega] at h4; simpa using h4
 | [], j, a, b, c, d, h1, _, _, _ => by simp at h1
 | [_], j, a, b, c, d, _, h2, _, _ => by simp at h2
 | [_, _], j, a, b, c, d, _, _, h3, _ => by simp at h3
 | [_, _, _], j, a, b, c, d, _, _, _, h4 => by simp at h4
theorem words_len : ∀ (n : Nat) (bs : List UInt8), bs.length = 4 * n → (words bs).length = n
 | 0, bs, h => by
  have : bs = [] := List.eq_nil_of_length_eq_zero (by omega); subst this; rfl
 | n + 1, bs, h => by
  match bs, h with
  | w :: x :: y :: z :: r, h => simp only [words, List.length_cons]; rw [words_len n r (by simp at h; omega)]
  | [], h => simp at h
  | [_], h => simp at h; omega
  | [_, _], h => simp at h; omega
  | [_, _, _], h => simp at h; omega
theorem sched_len (bs : List UInt8) (h : bs.length = 64) : (sched bs).length = 64 := by
 unfold sched; rw [grow_len, words_len 16 bs (by omega)]
theorem sched_lo (bs : List UInt8) (h : bs.length = 64) {j : Nat} (hj : j < 16) {a b c d : UInt8} (h1 : bs[4 * j]? = some a) (h2 : bs[4 * j + 1]? = some b) (h3 : bs[4 * j + 2]? = some c) (h4 : bs[4 * j + 3]? = some d) : (sched bs)[j]? = some (word a b c d) := by
 have hw := words_len 16 bs (by omega); have ht := grow_take 48 (words bs); have := words_get bs j a b c d h1 h2 h3 h4; rw [← ht, List.getElem?_take, if_pos (by omega)] at this; exact this
theorem sched_hi (bs : List UInt8) (h : bs.length = 64) {t : Nat} (ht : 16 ≤ t) (ht2 : t < 64) {a b c d : UInt32} (h1 : (sched bs)[t - 16]? = some a) (h2 : (sched bs)[t - 15]? = some b) (h3 : (sched bs)[t - 7]? = some c) (h4 : (sched bs)[t - 2]? = some d) : (sched bs)[t]? = some (a + sig0 b + c + sig1 d) := by
 have hw := words_len 16 bs (by omega); have hl := sched_len bs h; have hg := grow_get 48 (words bs) t (by omega) (by omega)
 have hgd : ∀ (k : Nat) (x : UInt32), k < t → (sched bs)[k]? = some x → ((sched bs).take t).getD k 0 = x := fun k x hk hx => by
  rw [List.getD_eq_getElem?_getD, List.getElem?_take, if_pos hk, hx]; rfl
 have hlt : ((sched bs).take t).length = t := (by rw [List.length_take]; omega); rw [show (sched bs)[t]? = some (nextW ((sched bs).take t)) from hg]; unfold nextW; rw [hlt, hgd _ _ (by omega) h1, hgd _ _ (by omega) h2, hgd _ _ (by omega) h3, hgd _ _ (by omega) h4]
def fillR (l : List UInt32) (j : Nat) : List UInt32 := l.take j ++ List.replicate (64 - j) 0
theorem fillR_len (l : List UInt32) (h : l.length = 64) (j : Nat) (hj : j ≤ 64) : (fillR l j).length = 64 := by
 unfold fillR; rw [List.length_append, List.length_take, List.length_replicate]; omega
theorem fillR_set (l : List UInt32) (h : l.length = 64) {j : Nat} {x : UInt32} (hj : l[j]? = some x) : (fillR l j).set j x = fillR l (j + 1) := by
 have hjl := (List.getElem?_eq_some_iff.1 hj).1; unfold fillR; have hlt : (l.take j).length = j := (by rw [List.length_take]; omega); rw [List.set_append_right _ _ (by omega), hlt, Nat.sub_self, List.take_add_one, hj]; obtain ⟨m, hm⟩ : ∃ m, 64 - j = m + 1 := ⟨63 - j, by omega⟩; rw [hm, show 64 - (j + 1) = m by omega, List.replicate_succ]
 simp
theorem fillR_get (l : List UInt32) (h : l.length = 64) {j k : Nat} (hk : k < j) : (fillR l j)[k]? = l[k]? := by
 unfold fillR
 by_cases hkl : k < l.length
 ·rw [List.getElem?_append_left (by rw [List.length_take]; omega), List.getElem?_take, if_pos hk]
 ·rw [List.getElem?_eq_none (by omega : l.length ≤ k)]; rw [List.getElem?_append_right (by rw [List.length_take]; omega), List.getElem?_eq_none]; rw [List.length_replicate, List.length_take]; omega
end Go.Proofs.Ytfeglnpmpgipiaa
end
section
set_option linter.unusedVariables false
namespace Go.Proofs.Ytfeglnpmpgipiaa
open Go.RowKit
def u32v (x : UInt32) : Value := .int .u32 (x.toNat : Int)
def u32s (xs : List UInt32) : List Value := xs.map u32v
theorem u32s_length (xs : List UInt32) : (u32s xs).length = xs.length := by simp [u32s]
theorem u32s_get {xs : List UInt32} {i : Nat} {x : UInt32} (h : xs[i]? = some x) : (u32s xs)[i]? = some (.int .u32 (x.toNat : Int)) := by simp [u32s, h, u32v]
theorem u32s_set (xs : List UInt32) (n : Nat) (x : UInt32) : (u32s xs).set n (u32v x) = u32s (xs.set n x) := by simp [u32s, List.map_set]
theorem u32_add_cell (a b : UInt32) : IntKind.u32.wrap ((a.toNat : Int) + (b.toNat : Int)) = ((a + b).toNat : Int) := by
 have h := u32_add_u32 a b; rw [← h]; simp [IntKind.wrap, IntKind.bits, IntKind.signed]
theorem next_cells (a b c d : UInt32) : IntKind.u32.wrap (IntKind.u32.wrap (IntKind.u32.wrap ((a.toNat : Int) + bits .xor .u32 (bits .xor .u32 ((rotr b 7).toNat : Int) ((rotr b 18).toNat : Int)) ((b.toNat : Int) / 8)) + (c.toNat : Int)) + bits .xor .u32 (bits .xor .u32 ((rotr d 17).toNat : Int) ((rotr d 19).toNat : Int)) ((d.toNat : Int) / 1024)) = ((a + sig0 b + c + sig1 d).toNat : Int) := by
 have h1 := shr_nat b 3 (by omega); have h2 := shr_nat d 10 (by omega); rw [show ((2 : Int) ^ 3) = 8 by decide] at h1; rw [show ((2 : Int) ^ 10) = 1024 by decide] at h2; rw [h1, h2, u32_xor_u32, u32_xor_u32, u32_xor_u32, u32_xor_u32, u32_add_cell, u32_add_cell, u32_add_cell]
 rfl
theorem u32s_one {xs : List UInt32} {v : Value} (h : v ∈ u32s xs) : v.oneCell' = true := by
 obtain ⟨x, _, rfl⟩ := List.mem_map.1 h; rfl
end Go.Proofs.Ytfeglnpmpgipiaa
end
section
set_option linter.unusedVariables false
namespace Go.Proofs.Ytfeglnpmpgipiaa
open Go.RowKit
theorem wpl_build {P : Program} {ops : Array Oper} {rest : List Oper} {o : Oper} {a : Act} {Q : Exit → Act → World → Prop} {w : World} {t : TypeId} {parts : Array (Nat × Operand)} {cells : Array Value} (hg : o.guard = none) (ho : o.op = .build t parts)
  (hb : P.built t (parts.map fun (i, x) => (i, a.eval x)).toList = some cells) (h : wpList P ops Q rest (a.put o.dst (.agg cells)) w) : wpList P ops Q (o :: rest) a w :=
 wpList_plain hg fun K hK => by
  refine wp_build t parts ho (by rw [hb]; rfl) ?_; rw [hb]; exact hK _ _ h
end Go.Proofs.Ytfeglnpmpgipiaa
end
section
set_option linter.unusedVariables false
namespace Go.Proofs.Ytfeglnpmpgipiaa
open Go.RowKit
def addR (A B : List UInt32) (i : Nat) : List UInt32 := (List.zipWith (· + ·) A B).take i ++ A.drop i
theorem addR_step {A B : List UInt32} (hA : A.length = 8) (hB : B.length = 8) {i : Nat} {x y : UInt32} (hx : A[i]? = some x) (hy : B[i]? = some y) : (addR A B i)[i]? = some x ∧ (addR A B i).set i (x + y) = addR A B (i + 1) := by
 have hi := (List.getElem?_eq_some_iff.1 hx).1; have hl : ((List.zipWith (· + ·) A B).take i).length = i := (by rw [List.length_take, List.length_zipWith]; omega); have hz : (List.zipWith (· + ·) A B)[i]? = some (x + y) := by rw [List.getElem?_zipWith, hx, hy]
 have hd : A.drop i = x :: A.drop (i + 1) := by
  rw [List.drop_eq_getElem_cons hi]; have := List.getElem?_eq_getElem hi; rw [hx] at this; rw [Option.some.inj this]
 unfold addR
 constructor
 ·rw [List.getElem?_append_right (by omega), hl, Nat.sub_self, hd]; rfl
 ·rw [List.set_append_right _ _ (by omega), hl, Nat.sub_self, hd, List.set_cons_zero, List.take_add_one, hz]; simp
theorem rnds_step : ∀ (s : St) (K S : List UInt32) (j : Nat) (k w : UInt32), K[j]? = some k → S[j]? = some w → rnds s (K.take (j + 1)) (S.take (j + 1)) = rnd (rnds s (K.take j) (S.take j)) k w
 | s, k' :: K, w' :: S, 0, k, w, h1, h2 => by
  simp at h1 h2; subst h1 h2; rfl
 | s, k' :: K, w' :: S, j + 1, k, w, h1, h2 => by
  simp only [List.getElem?_cons_succ] at h1 h2; have := rnds_step (rnd s k' w') K S j k w h1 h2; simp only [List.take_succ_cons, rnds]; exact this
 | s, [], S, j, k, w, h1, h2 => by simp at h1
 | s, k' :: K, [], j, k, w, h1, h2 => by simp at h2
end Go.Proofs.Ytfeglnpmpgipiaa
end
end
