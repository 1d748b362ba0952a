/- The walk of bollardlaw03.ShaHexes. -/
import Derived.Test.YtmddehbfimpjdaaAlive03W
import Derived.Test.YtmddehbfimpjdaaRefUnhexW
import Derived.Test.YtmddehbfimpjdaaBytesW
set_option linter.unusedVariables false
namespace Go.Proofs.Ytmddehbfimpjdaa
open Go.RowKit

theorem conv_own {w : World} {base n c : Nat} {p : Option Addr} {ys : List UInt8} (h : Own w base 5 (.slice p n c) (u8s ys)) : (Go.convert 22 9 (.slice p n c)).run Try.prog w = .ok (.string ⟨ys.toArray⟩) w := by
  have hv := h.view
  exact conv_bytes w Try.underlying22 Try.underlying5 Try.underlying9 hv.1 (by have := hv.2.1; rwa [u8s_length] at this) hv.2.2.1
set_option maxHeartbeats 4000000 in
theorem shaHexes_walk (p : Option Addr) (xs ss : List UInt8) (n c : Nat) (W0 : World) (hn : xs.length = n) (hb : n ≤ 1048576) (hs : ss.length ≤ 1048576) (hnc : n ≤ c) (hp : p = none → n = 0 ∧ c = 0) (hx : Rd W0 p (u8s xs)) :
    Calls Try.prog 12 #[.slice p n c, .string ⟨ss.toArray⟩] W0 fun e w' => e = .returned (.bool true) ∧ Only [] W0 w' := by
  obtain ⟨S, hS⟩ : ∃ S : ByteArray, S = ⟨ss.toArray⟩ := ⟨_, rfl⟩
  rw [← hS]
  have HS := Lib.hid hS
  clear hS
  go_enter Try.func12, Try.ntmps12
  go_wp2_with fail
  (with_reducible refine (alive03_any W0).mono ?_)
  rintro e w1 ⟨rfl, h1⟩
  go_wp2_with fail
  (with_reducible refine (bytes_any p xs n c w1 hn (by omega) hp (hx.only0 h1)).mono ?_)
  rintro e w2 ⟨g, rfl, hg, hrow, h2⟩
  have ho2 := h1.trans0 h2
  have hrd : Rd w2 (some ⟨g, 0, none⟩) (u8s xs) := by have := hrow.rd0.take n; rwa [u8s_take, List.take_left' hn] at this
  go_wp2_with fail
  (with_reducible refine (hex_any (some ⟨g, 0, none⟩) xs n (n + 6) w2 hn (by omega) hrd).mono ?_)
  rintro e w3 ⟨rfl, h3⟩
  have ho3 := ho2.trans0 h3
  have hHl := hexB_len xs
  have hHu := unhex_hex xs
  have hhex := fun w4 h => refHex_any p xs n c w4 hn (by omega) h
  generalize hexB xs = H at hHl hHu hhex ⊢
  go_wp2_with fail
  refine (unhex_any H ⟨H.toArray⟩ rfl w3 (by omega)).mono ?_
  rintro e w4 ⟨pb, cb, ys, ok, rfl, oy, h4, hcase⟩
  obtain ⟨rfl, rfl⟩ : ok = true ∧ ys = xs := by
    rcases hcase with ⟨h, h'⟩ | ⟨_, _, h'⟩
    · rw [hHu] at h'; exact ⟨h, (Option.some.inj h').symm⟩
    · rw [hHu] at h'; cases h'
  have ho4 := ho3.trans0 h4
  clear hcase hHu
  go_wp2_with fail
  (with_reducible refine (hhex w4 (hx.only0 ho4)).mono ?_)
  rintro e w5 ⟨rfl, h5⟩
  have ho5 := ho4.trans0 h5
  rw [hn] at oy
  have hc1 := conv_own (oy.only0 h5)
  have hc2 := conv_bytes w5 Try.underlying22 Try.underlying5 Try.underlying9 (hx.only0 ho5) hn hp
  have hrow5 := ((hrow.only0 h3).only0 h4).only0 h5
  have hx5 := hx.only0 ho5
  have Hn := Lib.hid hn
  clear hhex oy hrow h1 h2 h3 h4 h5 hHl hrd ho2 ho3 ho4
  go_wp2_with fail
  (with_reducible refine (kept_any g p ys n c n w5 Hn.out (by omega) hp (by omega) hrow5 hx5).mono ?_)
  rintro e w6 ⟨rfl, h6⟩
  have ho6 := ho5.trans0 h6.only
  clear hc1 hc2 hrow5 hx5 h6 ho5
  go_wp2_with fail
  refine (unhex_any ss S HS.out w6 (by omega)).mono ?_
  rintro e w7 ⟨p7, c7, y7, k7, rfl, o7, h7, hk7⟩
  have ho7 := ho6.trans0 h7
  go_wp2_with fail
  refine (refUnhex_any ss S HS.out w7 (by omega)).mono ?_
  rintro e w8 ⟨p8, c8, y8, k8, rfl, o8, h8, hk8⟩
  have ho8 := ho7.trans0 h8
  have hd7 := conv_own (o7.only0 h8)
  have hd8 := conv_own o8
  cases hu : unhexB ss with
  | some zs =>
    obtain ⟨rfl, rfl⟩ : k7 = true ∧ y7 = zs := by
      rcases hk7 with ⟨h, h'⟩ | ⟨_, _, h'⟩
      · rw [hu] at h'; exact ⟨h, (Option.some.inj h').symm⟩
      · rw [hu] at h'; cases h'
    obtain ⟨rfl, rfl⟩ : k8 = true ∧ y8 = y7 := by
      rcases hk8 with ⟨h, h'⟩ | ⟨_, _, h'⟩
      · rw [hu] at h'; exact ⟨h, (Option.some.inj h').symm⟩
      · rw [hu] at h'; cases h'
    have hlen := unhex_len ss _ hu
    have hxx := hex_any p7 y8 y8.length c7 w8 rfl (by omega) (o7.only0 h8).view.1
    rw [hex_unhex ss _ hu, ← HS.out] at hxx
    have Hxx := Lib.hid hxx
    clear hk7 hk8 o7 o8 h7 h8 ho6 ho7 hu hlen hxx
    go_wp2_with fail
    refine Hxx.out.mono ?_
    rintro e w9 ⟨rfl, h9⟩
    go_wp2_with fail
    go_ret
    exact ⟨rfl, ho8.trans0 h9⟩
  | none =>
    obtain ⟨rfl, rfl⟩ : k7 = false ∧ y7 = [] := by
      rcases hk7 with ⟨h, h'⟩ | ⟨h, h2, h'⟩
      · rw [hu] at h'; cases h'
      · exact ⟨h, h2⟩
    obtain ⟨rfl, rfl⟩ : k8 = false ∧ y8 = [] := by
      rcases hk8 with ⟨h, h'⟩ | ⟨h, h2, h'⟩
      · rw [hu] at h'; cases h'
      · exact ⟨h, h2⟩
    rw [List.length_nil] at hd7 hd8
    clear hk7 hk8 o7 o8 h7 h8 ho6 ho7 hu
    go_wp2_with fail
    go_ret
    exact ⟨rfl, ho8⟩
end Go.Proofs.Ytmddehbfimpjdaa
