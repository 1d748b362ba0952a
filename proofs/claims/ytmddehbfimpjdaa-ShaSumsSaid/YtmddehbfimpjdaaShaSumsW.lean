/- The walk of bollardlaw03.ShaSums. -/
import Derived.Test.YtmddehbfimpjdaaAlive03W
import Derived.Test.YtmddehbfimpjdaaRefSumW
import Derived.Test.YtmddehbfimpjdaaBytesW
import Derived.Test.YtmddehbfimpjdaaHashAtW
set_option linter.unusedVariables false
namespace Go.Proofs.Ytmddehbfimpjdaa
open Go.RowKit

set_option maxHeartbeats 4000000 in
theorem shaSums_walk (p : Option Addr) (xs : List UInt8) (n c : Nat) (W0 : World) (hn : xs.length = n) (hb : n ≤ 140737488351232) (hp : p = none → n = 0 ∧ c = 0) (hx : Rd W0 p (u8s xs)) :
    Calls Try.prog 5 #[.slice p n c] W0 fun e w' => e = .returned (.bool true) ∧ Only [] W0 w' := by
  have Hn := Lib.hid hn
  have Hp := Lib.hid hp
  have Hx := Lib.hid hx
  clear hn hp hx
  go_enter Try.func5, Try.ntmps5
  go_wp2_with fail
  (with_reducible refine (alive03_any W0).mono ?_)
  rintro e w1 ⟨rfl, h1⟩
  go_wp2_with fail
  (with_reducible refine (bytes_any p xs n c w1 Hn.out (by omega) Hp.out (Hx.out.only0 h1)).mono ?_)
  rintro e w2 ⟨g, rfl, hg, hrow, h2⟩
  have ho2 := h1.trans0 h2
  have Hrd := Lib.hid (show Rd w2 (some ⟨g, 0, none⟩) (u8s xs) by have := hrow.rd0.take n; rwa [u8s_take, List.take_left' Hn.out] at this)
  have hrow' := Lib.hid hrow
  clear hrow
  go_wp2_with fail
  (with_reducible refine (shaSum_any (some ⟨g, 0, none⟩) xs n (n + 6) w2 Hn.out (by omega) (by simp) Hrd.out).mono ?_)
  rintro e w3 ⟨rfl, h3⟩
  have ho3 := ho2.trans0 h3
  go_wp2_with fail
  (with_reducible refine (refSum_any p xs n c w3 Hn.out (by omega) Hp.out (Hx.out.only0 ho3)).mono ?_)
  rintro e w4 ⟨rfl, h4⟩
  have ho4 := ho3.trans0 h4
  have hl := shaB_len xs
  have hq := eqIn32 (shaB xs) (shaB xs) hl hl w4
  have hgd := guard32
  rw [beq_self_eq_true] at hq
  go_wp2_with fail
  (with_reducible refine (kept_any g p xs n c n w4 Hn.out (by omega) Hp.out (by omega) ((hrow'.out.only0 h3).only0 h4) (Hx.out.only0 ho4)).mono ?_)
  rintro e w5 ⟨rfl, h5⟩
  have ho5 := ho4.trans0 h5.only
  go_wp2_with fail
  go_ret
  exact ⟨rfl, ho5⟩

end Go.Proofs.Ytmddehbfimpjdaa
