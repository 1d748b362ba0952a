/- The walk of mac.padded. -/
import Derived.Test.YtmddehbfimpjdaaShaTopW
import Derived.Test.YtmddehbfimpjdaaMacMath
set_option linter.unusedVariables false
namespace Go.Proofs.Ytmddehbfimpjdaa
open Go.RowKit

/-- copy(out[:], key) at a row of 64 noughts -/
theorem pad_copy (w : World) (g n c : Nat) (q : Option Addr) (K : List UInt8) (hK : K.length = n) (hn : n ≤ 64) (r : Row w g 84 (u8s (List.replicate 64 0))) (hrd : Rd w q (u8s K)) :
    ∃ w3, Hid ((Builtin.copy_ #[22, 22] 3 #[.slice (some ⟨g, 0, none⟩) 64 64, .slice q n c]).run Try.prog w = .ok (.int .i64 (n : Int)) w3) ∧ Row w3 g 84 (u8s (K ++ List.replicate (64 - K.length) 0)) ∧ Only [g] w w3 := by
  obtain ⟨w3, hcp, r3, o3⟩ := copy_row (P := Try.prog) (dT := 22) (sT := 22) (ty := 3) (elem := 5) (g := g) (L := 64) (dCap := 64) (n := n) (c := c) (p := q) (o := 0) w Try.underlying22 (by kernel_rfl) r hrd (by rw [u8s_length, hK]; exact (Nat.min_eq_left hn).symm) (by rw [u8s_length, u8s_length, List.length_replicate, hK]; omega) (fun v hv => u8s_one hv)
  have e3 : (u8s (List.replicate 64 0)).take 0 ++ u8s K ++ (u8s (List.replicate 64 0)).drop (0 + (u8s K).length) = u8s (K ++ List.replicate (64 - K.length) 0) := by
    rw [u8s_append, u8s_drop, List.drop_replicate, u8s_length, Nat.zero_add]; rfl
  rw [e3] at r3
  rw [u8s_length, hK] at hcp
  exact ⟨w3, Lib.hid hcp, r3, o3⟩
set_option maxRecDepth 100000 in
set_option maxHeartbeats 4000000 in
theorem padded_any (p : Option Addr) (xs : List UInt8) (n c : Nat) (x : UInt8) (ww : World) (hn : xs.length = n) (hb : n + 64 ≤ 140737488355328) (hp : p = none → n = 0 ∧ c = 0) (hx : Rd ww p (u8s xs)) :
    Calls Try.prog 42 #[.slice p n c, .int .u8 (x.toNat : Int)] ww fun e w' => ∃ g, e = .returned (.slice (some ⟨g, 0, none⟩) 64 64) ∧ ww.heap.size ≤ g ∧ Row w' g 84 (u8s (padW xs x)) ∧ Only [] ww w' := by
  obtain ⟨w0, hw0⟩ : ∃ w0, w0 = ww.alloc (.cells #[.int .u8 0, .int .u8 0, .int .u8 0, .int .u8 0, .int .u8 0, .int .u8 0, .int .u8 0, .int .u8 0, .int .u8 0, .int .u8 0, .int .u8 0, .int .u8 0, .int .u8 0, .int .u8 0, .int .u8 0, .int .u8 0, .int .u8 0, .int .u8 0, .int .u8 0, .int .u8 0, .int .u8 0, .int .u8 0, .int .u8 0, .int .u8 0, .int .u8 0, .int .u8 0, .int .u8 0, .int .u8 0, .int .u8 0, .int .u8 0, .int .u8 0, .int .u8 0, .int .u8 0, .int .u8 0, .int .u8 0, .int .u8 0, .int .u8 0, .int .u8 0, .int .u8 0, .int .u8 0, .int .u8 0, .int .u8 0, .int .u8 0, .int .u8 0, .int .u8 0, .int .u8 0, .int .u8 0, .int .u8 0, .int .u8 0, .int .u8 0, .int .u8 0, .int .u8 0, .int .u8 0, .int .u8 0, .int .u8 0, .int .u8 0, .int .u8 0, .int .u8 0, .int .u8 0, .int .u8 0, .int .u8 0, .int .u8 0, .int .u8 0, .int .u8 0] 84) := ⟨_, rfl⟩
  have ho0 : Only [] ww w0 := by rw [hw0]; exact Only.alloc _ _
  have rz : Row w0 ww.heap.size 84 (u8s (List.replicate 64 0)) := by rw [hw0]; exact Row.newOf _ _ _ _ (by rfl)
  obtain ⟨P, hP⟩ : ∃ P, P = padB xs := ⟨_, rfl⟩
  have hPl : P.length = 64 := by rw [hP]; exact padB_len xs
  have hxl := x.toNat_lt
  by_cases hlong : 64 < n
  · have hlong' : (64 : Int) < (n : Int) := by omega
    have hs := shaSum_any p xs n c w0 hn hb hp (hx.only0 ho0)
    have hPK : shaB xs ++ List.replicate (64 - (shaB xs).length) 0 = P := by rw [hP]; unfold padB keyB; rw [if_pos (by omega)]
    have hlA : (shaB xs).length = 32 := rfl
    have hfin : padW xs x = P.map (· ^^^ x) := by rw [hP]; rfl
    rw [hfin]
    generalize shaB xs = A at hs hlA hPK
    rw [hw0] at hs
    go_enter Try.func42, Try.ntmps42
    go_wp2_with fail
    refine hs.mono ?_
    rintro e w1 ⟨rfl, h1⟩
    rw [← hw0] at h1
    obtain ⟨W1, hW1⟩ : ∃ W1, W1 = w1.alloc (.cells #[.int .u8 0, .int .u8 0, .int .u8 0, .int .u8 0, .int .u8 0, .int .u8 0, .int .u8 0, .int .u8 0, .int .u8 0, .int .u8 0, .int .u8 0, .int .u8 0, .int .u8 0, .int .u8 0, .int .u8 0, .int .u8 0, .int .u8 0, .int .u8 0, .int .u8 0, .int .u8 0, .int .u8 0, .int .u8 0, .int .u8 0, .int .u8 0, .int .u8 0, .int .u8 0, .int .u8 0, .int .u8 0, .int .u8 0, .int .u8 0, .int .u8 0, .int .u8 0] 25) := ⟨_, rfl⟩
    have oW1 : Only [] w1 W1 := by rw [hW1]; exact Only.alloc _ _
    have r6 : Row W1 w1.heap.size 25 (u8s (List.replicate 32 0)) := by rw [hW1]; exact Row.newOf _ _ _ _ (by rfl)
    have hsz : (Try.prog.info? 25).map (·.size) = some (u8s A).length := by rw [u8s_length, hlA]; kernel_rfl
    have hst := r6.storeAt (P := Try.prog) hsz (by rw [u8s_length, u8s_length, hlA]; rfl) (fun u hu => u8s_one hu)
    have hrow := r6.setRow (u8s A)
    have hos : Only [w1.heap.size] W1 (W1.setRow w1.heap.size (u8s A).toArray) := Only.setRow _ _ _
    have hzl := rz.lt
    have h1s := h1.size
    have rz2 := ((rz.only0 h1).only0 oW1).only hos (by simp; omega)
    have ho2 : Only [] ww (W1.setRow w1.heap.size (u8s A).toArray) := ((ho0.trans0 h1).trans0 oW1).transN hos (by simp; omega)
    obtain ⟨w3, Hcp, r3, o3⟩ := pad_copy _ ww.heap.size 32 32 (some ⟨w1.heap.size, 0, none⟩) A hlA (by omega) rz2 hrow.rd0
    rw [hPK] at r3
    have R3 := Lib.hid r3
    have Ho3 := Lib.hid (ho2.transN o3 (by simp))
    have Hst := Lib.hid hst
    have HPl := Lib.hid hPl
    clear hst hrow hos rz2 ho2 r3 o3 rz h1 r6 oW1 hsz hs hPK hP hfin hlA ho0
    subst hW1
    go_wp2_with (first | ((with_reducible show wpList _ _ _ _ _ _); refine wpl_store (ty := 25) (x := .tmp 6) (y := .tmp 12) rfl rfl rfl rfl Hst.out ?_))
    rw [Hcp.out]
    go_wp2_with fail
    clear Hcp
    go_loopw [17] (fun i wr => ∃ j : Nat, i = .int .i64 (j : Int) ∧ j ≤ 64 ∧ Hid (Row wr ww.heap.size 84 (u8s (xorR P x j))) ∧ Hid (Only [] ww wr)) (fun i _ => 64 - (intOf i).toNat)
    case atStart => exact ⟨0, rfl, by omega, R3, Ho3⟩
    case round =>
      clear R3 Ho3
      obtain ⟨j, rfl, hj, R, Ho⟩ := hrel
      by_cases hlt : j < 64
      · obtain ⟨y, hy⟩ : ∃ y, P[j]? = some y := ⟨_, List.getElem?_eq_getElem (by rw [HPl.out]; exact hlt)⟩
        obtain ⟨hg, hset⟩ := xorR_step (x := x) hy
        have hc := R.out.cell (by unfold u8s; rw [List.getElem?_map, hg]; rfl : (u8s (xorR P x j))[j]? = some (.int .u8 (y.toNat : Int)))
        have hf := R.out.free j
        have hxo := u8_xor_u8 y x
        have r2 := R.out.setCell j (Go.Proofs.Ytmddehbfimpjdaa.u8 (y ^^^ x))
        rw [u8s_set, hset] at r2
        have o2 : Only [ww.heap.size] wr (wr.setCell ⟨ww.heap.size, j, none⟩ (Go.Proofs.Ytmddehbfimpjdaa.u8 (y ^^^ x))) := Only.setCell _ ⟨ww.heap.size, j, none⟩ _
        have R2 := Lib.hid r2
        have Ho2 := Lib.hid (Ho.out.transN o2 (by simp))
        have hji : (j : Int) < 64 := by omega
        clear hg hset hy r2 o2 R Ho
        go_wp2_with fail
        refine ⟨⟨j + 1, by go_num, by omega, R2, Ho2⟩, by simp [intOf]; omega⟩
      · obtain rfl : j = 64 := by omega
        have r := R.out
        rw [xorR_full P x 64 (by rw [HPl.out]; exact Nat.le_refl _)] at r
        have HR := Lib.hid r
        clear r R
        go_wp2_with fail
        go_ret
        exact ⟨ww.heap.size, rfl, Nat.le_refl _, HR.out, Ho.out⟩
  · have hlong' : ¬ (64 : Int) < (n : Int) := by omega
    have hPK : xs ++ List.replicate (64 - xs.length) 0 = P := by rw [hP]; unfold padB keyB; rw [if_neg (by omega)]
    have hfin : padW xs x = P.map (· ^^^ x) := by rw [hP]; rfl
    rw [hfin]
    obtain ⟨w3, Hcp, r3, o3⟩ := pad_copy w0 ww.heap.size n c p xs hn (by omega) rz (hx.only0 ho0)
    rw [hPK] at r3
    have R3 := Lib.hid r3
    have Ho3 := Lib.hid (ho0.transN o3 (by simp))
    have HPl := Lib.hid hPl
    have Hn := Lib.hid hn
    clear rz hPK hP hfin r3 o3 ho0 hPl hx hn
    rw [hw0] at Hcp
    clear hw0
    go_enter Try.func42, Try.ntmps42
    go_wp2_with fail
    rw [Hcp.out]
    go_wp2_with fail
    clear Hcp
    go_loopw [17] (fun i wr => ∃ j : Nat, i = .int .i64 (j : Int) ∧ j ≤ 64 ∧ Hid (Row wr ww.heap.size 84 (u8s (xorR P x j))) ∧ Hid (Only [] ww wr)) (fun i _ => 64 - (intOf i).toNat)
    case atStart => exact ⟨0, rfl, by omega, R3, Ho3⟩
    case round =>
      clear R3 Ho3
      obtain ⟨j, rfl, hj, R, Ho⟩ := hrel
      by_cases hlt : j < 64
      · obtain ⟨y, hy⟩ : ∃ y, P[j]? = some y := ⟨_, List.getElem?_eq_getElem (by rw [HPl.out]; exact hlt)⟩
        obtain ⟨hg, hset⟩ := xorR_step (x := x) hy
        have hc := R.out.cell (by unfold u8s; rw [List.getElem?_map, hg]; rfl : (u8s (xorR P x j))[j]? = some (.int .u8 (y.toNat : Int)))
        have hf := R.out.free j
        have hxo := u8_xor_u8 y x
        have r2 := R.out.setCell j (Go.Proofs.Ytmddehbfimpjdaa.u8 (y ^^^ x))
        rw [u8s_set, hset] at r2
        have o2 : Only [ww.heap.size] wr (wr.setCell ⟨ww.heap.size, j, none⟩ (Go.Proofs.Ytmddehbfimpjdaa.u8 (y ^^^ x))) := Only.setCell _ ⟨ww.heap.size, j, none⟩ _
        have R2 := Lib.hid r2
        have Ho2 := Lib.hid (Ho.out.transN o2 (by simp))
        have hji : (j : Int) < 64 := by omega
        clear hg hset hy r2 o2 R Ho
        go_wp2_with fail
        refine ⟨⟨j + 1, by go_num, by omega, R2, Ho2⟩, by simp [intOf]; omega⟩
      · obtain rfl : j = 64 := by omega
        have r := R.out
        rw [xorR_full P x 64 (by rw [HPl.out]; exact Nat.le_refl _)] at r
        have HR := Lib.hid r
        clear r R
        go_wp2_with fail
        go_ret
        exact ⟨ww.heap.size, rfl, Nat.le_refl _, HR.out, Ho.out⟩
end Go.Proofs.Ytmddehbfimpjdaa
