/- Plain laws of the digest of one block. -/
import Derived.Test.YtfoplbolbjcggaaDoorShaConstW
set_option linter.unusedVariables false
set_option maxRecDepth 100000
namespace Go.Proofs.YtfoplbolbjcggaaDoor
open Go.RowKit

/-- the state while it is added to -/
def addR (A B : List UInt32) (i : Nat) : List UInt32 := (List.zipWith (· + ·) A B).take i ++ A.drop i
theorem addR_step {A B : List UInt32} (hA : A.length = 8) (hB : B.length = 8) {i : Nat} {x y : UInt32} (hx : A[i]? = some x) (hy : B[i]? = some y) : (addR A B i)[i]? = some x ∧ (addR A B i).set i (x + y) = addR A B (i + 1) := by
  have hi := (List.getElem?_eq_some_iff.1 hx).1
  have hl : ((List.zipWith (· + ·) A B).take i).length = i := by rw [List.length_take, List.length_zipWith]; omega
  have hz : (List.zipWith (· + ·) A B)[i]? = some (x + y) := by rw [List.getElem?_zipWith, hx, hy]
  have hd : A.drop i = x :: A.drop (i + 1) := by
    rw [List.drop_eq_getElem_cons hi]
    have := List.getElem?_eq_getElem hi
    rw [hx] at this
    rw [Option.some.inj this]
  unfold addR
  constructor
  · rw [List.getElem?_append_right (by omega), hl, Nat.sub_self, hd]; rfl
  · rw [List.set_append_right _ _ (by omega), hl, Nat.sub_self, hd, List.set_cons_zero, List.take_add_one, hz]; simp
theorem rnds_step : ∀ (s : St) (K S : List UInt32) (j : Nat) (k w : UInt32), K[j]? = some k → S[j]? = some w → rnds s (K.take (j + 1)) (S.take (j + 1)) = rnd (rnds s (K.take j) (S.take j)) k w
  | s, k' :: K, w' :: S, 0, k, w, h1, h2 => by
    simp at h1 h2; subst h1 h2; rfl
  | s, k' :: K, w' :: S, j + 1, k, w, h1, h2 => by
    simp only [List.getElem?_cons_succ] at h1 h2
    have := rnds_step (rnd s k' w') K S j k w h1 h2
    simp only [List.take_succ_cons, rnds]
    exact this
  | s, [], S, j, k, w, h1, h2 => by simp at h1
  | s, k' :: K, [], j, k, w, h1, h2 => by simp at h2
theorem u32_not (x : UInt32) : bits .xor .u32 (if IntKind.u32.signed = true then -1 else IntKind.u32.max) (x.toNat : Int) = ((~~~x).toNat : Int) := by
  have h : (if IntKind.u32.signed = true then -1 else IntKind.u32.max) = (((4294967295 : UInt32).toNat : Nat) : Int) := by decide
  rw [h, u32_xor_u32]
  congr 2
theorem t1_cells (h e f g k w : UInt32) : (((h.toNat : Int) + bits .xor .u32 (bits .xor .u32 ((rotr e 6).toNat : Int) ((rotr e 11).toNat : Int)) ((rotr e 25).toNat : Int) + bits .xor .u32 (bits .and .u32 (e.toNat : Int) (f.toNat : Int)) (bits .and .u32 (bits .xor .u32 (if IntKind.u32.signed = true then -1 else IntKind.u32.max) (e.toNat : Int)) (g.toNat : Int)) + (k.toNat : Int)) % 4294967296 + (w.toNat : Int)) % 4294967296 = ((h + big1 e + choose e f g + k + w).toNat : Int) := by
  rw [u32_not, u32_xor_u32, u32_xor_u32, u32_and_u32, u32_and_u32, u32_xor_u32]
  have h1 := u32_add_u32 h (big1 e)
  have h2 := u32_add_u32 (h + big1 e) (choose e f g)
  have h3 := u32_add_u32 (h + big1 e + choose e f g) k
  have h4 := u32_add_u32 (h + big1 e + choose e f g + k) w
  rw [← h4, ← h3, ← h2, ← h1]
  show (((h.toNat : Int) + ((big1 e).toNat : Int) + ((choose e f g).toNat : Int) + k.toNat) % 4294967296 + w.toNat) % 4294967296 = _
  omega
theorem u32_ones : (if IntKind.u32.signed = true then -1 else IntKind.u32.max) = (4294967295 : Int) := by decide
theorem t1_cells' (h e f g k w : UInt32) : (((h.toNat : Int) + bits .xor .u32 (bits .xor .u32 ((rotr e 6).toNat : Int) ((rotr e 11).toNat : Int)) ((rotr e 25).toNat : Int) + bits .xor .u32 (bits .and .u32 (e.toNat : Int) (f.toNat : Int)) (bits .and .u32 (bits .xor .u32 4294967295 (e.toNat : Int)) (g.toNat : Int)) + (k.toNat : Int)) % 4294967296 + (w.toNat : Int)) % 4294967296 = ((h + big1 e + choose e f g + k + w).toNat : Int) := by
  have := t1_cells h e f g k w
  rwa [u32_ones] at this
theorem t2_cells (a b c : UInt32) : (bits .xor .u32 (bits .xor .u32 ((rotr a 2).toNat : Int) ((rotr a 13).toNat : Int)) ((rotr a 22).toNat : Int) + bits .xor .u32 (bits .xor .u32 (bits .and .u32 (a.toNat : Int) (b.toNat : Int)) (bits .and .u32 (a.toNat : Int) (c.toNat : Int))) (bits .and .u32 (b.toNat : Int) (c.toNat : Int))) % 4294967296 = ((big0 a + most a b c).toNat : Int) := by
  rw [u32_xor_u32, u32_xor_u32, u32_and_u32, u32_and_u32, u32_and_u32, u32_xor_u32, u32_xor_u32, u32_add_u32]
  rfl
end Go.Proofs.YtfoplbolbjcggaaDoor
