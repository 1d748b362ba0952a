/- The walk of bollardlaw04.MacSums. -/
import Derived.Test.YtmddehbfimpjdaaAlive04W
import Derived.Test.YtmddehbfimpjdaaRefMacW
import Derived.Test.YtmddehbfimpjdaaMacSumW
import Derived.Test.YtmddehbfimpjdaaBytesW
set_option linter.unusedVariables false
namespace Go.Proofs.Ytmddehbfimpjdaa
open Go.RowKit

set_option maxHeartbeats 4000000 in
theorem macSums_walk (p q : Option Addr) (ks ms : List UInt8) (n c m d : Nat) (W0 : World) (hn : ks.length = n) (hb : n ≤ 140737488351232) (hp : p = none → n = 0 ∧ c = 0) (hx : Rd W0 p (u8s ks))
    (hm : ms.length = m) (hbm : m ≤ 140737488351232) (hq : q = none → m = 0 ∧ d = 0) (hy : Rd W0 q (u8s ms)) :
    Calls Try.prog 3 #[.slice p n c, .slice q m d] W0 fun e w' => e = .returned (.bool true) ∧ Only [] W0 w' := by
  have Hn := Lib.hid hn
  have Hp := Lib.hid hp
  have Hx := Lib.hid hx
  have Hm := Lib.hid hm
  have Hq := Lib.hid hq
  have Hy := Lib.hid hy
  clear hn hp hx hm hq hy
  go_enter Try.func3, Try.ntmps3
  go_wp2_with fail
  (with_reducible refine (alive04_any W0).mono ?_)
  rintro e w1 ⟨rfl, h1⟩
  go_wp2_with fail
  (with_reducible refine (bytes_any p ks n c w1 Hn.out (by omega) Hp.out (Hx.out.only0 h1)).mono ?_)
  rintro e w2 ⟨g, rfl, hg, hrow, h2⟩
  have ho2 := h1.trans0 h2
  go_wp2_with fail
  (with_reducible refine (bytes_any q ms m d w2 Hm.out (by omega) Hq.out (Hy.out.only0 ho2)).mono ?_)
  rintro e w3 ⟨g3, rfl, hg3, hrow3, h3⟩
  have ho3 := ho2.trans0 h3
  have Hk := Lib.hid (hrow.only0 h3)
  have Hl := Lib.hid hrow3
  have Hrd := Lib.hid (show Rd w3 (some ⟨g, 0, none⟩) (u8s ks) by have := Hk.out.rd0.take n; rwa [u8s_take, List.take_left' Hn.out] at this)
  have Hrd3 := Lib.hid (show Rd w3 (some ⟨g3, 0, none⟩) (u8s ms) by have := Hl.out.rd0.take m; rwa [u8s_take, List.take_left' Hm.out] at this)
  clear hrow hrow3
  go_wp2_with fail
  (with_reducible refine (macSum_any (some ⟨g, 0, none⟩) (some ⟨g3, 0, none⟩) ks ms n (n + 6) m (m + 6) w3 Hn.out (by omega) (by simp) Hrd.out Hm.out (by omega) (by simp) Hrd3.out).mono ?_)
  rintro e w4 ⟨rfl, h4⟩
  have ho4 := ho3.trans0 h4
  go_wp2_with fail
  (with_reducible refine (refMac_any p q ks ms n c m d w4 Hn.out (by omega) Hp.out (Hx.out.only0 ho4) Hm.out (by omega) Hq.out (Hy.out.only0 ho4)).mono ?_)
  rintro e w5 ⟨rfl, h5⟩
  have ho5 := ho4.trans0 h5
  have hl := macB_len ks ms
  have hq := eqIn32 (macB ks ms) (macB ks ms) hl hl w5
  have hgd := guard32
  rw [beq_self_eq_true] at hq
  go_wp2_with fail
  (with_reducible refine (kept_any g p ks n c n w5 Hn.out (by omega) Hp.out (by omega) ((Hk.out.only0 h4).only0 h5) (Hx.out.only0 ho5)).mono ?_)
  rintro e w6 ⟨rfl, h6⟩
  have ho6 := ho5.trans0 h6.only
  go_wp2_with fail
  (with_reducible refine (kept_any g3 q ms m d m w6 Hm.out (by omega) Hq.out (by omega) (((Hl.out.only0 h4).only0 h5).only0 h6.only) (Hy.out.only0 ho6)).mono ?_)
  rintro e w7 ⟨rfl, h7⟩
  have ho7 := ho6.trans0 h7.only
  go_wp2_with fail
  go_ret
  exact ⟨rfl, ho7⟩

end Go.Proofs.Ytmddehbfimpjdaa
