/- rs.Encode refused; bytes of a list. -/
import Derived.Test.YtlgcclhepegggaaDoorRsAliveW
import Derived.Test.YtlgcclhepegggaaDoorRsEncMath
set_option linter.unusedVariables false
set_option maxRecDepth 100000
namespace Go.Proofs.YtlgcclhepegggaaDoor
open Go.RowKit

theorem encode_params (k m : Int) (h : legal k m = false) (hk : -9223372036854775808 ≤ k ∧ k ≤ 9223372036854775807) (hm : -9223372036854775808 ≤ m ∧ m ≤ 9223372036854775807) (p : Option Addr) (n c : Nat) (w : World) (a : Addr) (hE : ErrAt w 0 a) :
    Calls Tryd.prog 30 #[.int .i64 k, .int .i64 m, .slice p n c] w fun e w' => e = .returned (.tuple #[.slice none 0 0, ev a]) ∧ Only [] w w' := by
  have hs := size_params k m (n : Int) h hk hm w a hE
  clear h
  unfold ev at hs ⊢
  go_enter Tryd.func30, Tryd.ntmps30
  go_wp2_with fail
  (with_reducible refine (hs).mono ?_)
  rintro e w' ⟨rfl, rfl⟩
  go_wp2_with fail
  go_ret2
  exact ⟨rfl, Only.refl _ _⟩
theorem encode_large (k m : Int) (h : legal k m = true) (p : Option Addr) (n c : Nat) (hn : 1024 < n) (w : World) (a : Addr) (hE : ErrAt w 4 a) :
    Calls Tryd.prog 30 #[.int .i64 k, .int .i64 m, .slice p n c] w fun e w' => e = .returned (.tuple #[.slice none 0 0, ev a]) ∧ Only [] w w' := by
  have hs := size_large k m (n : Int) h (by omega) w a hE
  clear h
  unfold ev at hs ⊢
  go_enter Tryd.func30, Tryd.ntmps30
  go_wp2_with fail
  (with_reducible refine (hs).mono ?_)
  rintro e w1 ⟨rfl, o1⟩
  have HO1 := Lib.hid o1
  clear o1 hs
  go_wp2_with fail
  go_ret2
  exact ⟨rfl, HO1.out⟩

theorem padD_at {k size n i : Nat} {data : List UInt8} (hn : data.length = n) (h : n ≤ k * size) (hi : i < k * size) : ∃ y, (padD k size data)[i]? = some y ∧ (i < n → data[i]? = some y) ∧ (¬ i < n → y = 0) := by
  have hl : i < (padD k size data).length := by rw [padD_len (by rw [hn]; exact h)]; exact hi
  refine ⟨_, List.getElem?_eq_getElem hl, fun h1 => ?_, fun h1 => ?_⟩
  · rw [List.getElem?_eq_getElem (by omega)]
    have := padD_getD (k := k) (size := size) data i
    rw [getD_at hl, getD_at (by omega)] at this
    rw [this]
  · have := padD_getD (k := k) (size := size) data i
    rw [getD_at hl, getD_out (l := data) 0 (by omega)] at this
    exact this
theorem u8_at {w : World} {q : Option Addr} {xs : List UInt8} {i : Nat} {y : UInt8} (h : Rd w q (u8s xs)) (hy : xs[i]? = some y) : ∃ b off, q = some ⟨b, off, none⟩ ∧ w.cell? ⟨b, off + i, none⟩ = some (.int .u8 (y.toNat : Int)) := by
  have hi := (List.getElem?_eq_some_iff.1 hy).1
  obtain ⟨b, off, e, hc⟩ := h.bytes (by omega)
  refine ⟨b, off, e, ?_⟩
  rw [hc i hi, (List.getElem?_eq_some_iff.1 hy).2]

end Go.Proofs.YtlgcclhepegggaaDoor
