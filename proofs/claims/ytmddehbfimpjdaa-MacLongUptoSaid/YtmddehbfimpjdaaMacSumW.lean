/- The walks of mac.keyed and mac.Sum. -/
import Derived.Test.YtmddehbfimpjdaaHashAtW
import Derived.Test.YtmddehbfimpjdaaPaddedW
set_option linter.unusedVariables false
namespace Go.Proofs.Ytmddehbfimpjdaa
open Go.RowKit

theorem keyed_any (p : Option Addr) (xs : List UInt8) (n c : Nat) (x : UInt8) (v : Int) (hv : v = (x.toNat : Int)) (W0 w : World) (h0 : Only [] W0 w) (hn : xs.length = n) (hb : n + 64 ≤ 140737488355328) (hp : p = none → n = 0 ∧ c = 0) (hx : Rd W0 p (u8s xs)) :
    Calls Try.prog 32 #[.slice p n c, .int .u8 v] w fun e w' => ∃ B F, e = .returned (.pointer (some ⟨B, 0, none⟩)) ∧ HashAt W0 w' F B (padW xs x) ∧ Only [] w w' ∧ (∀ k ∈ F, w.heap.size ≤ k) := by
  subst hv
  go_enter Try.func32, Try.ntmps32
  go_wp2_with fail
  (with_reducible refine (new_at W0 w h0).mono ?_)
  rintro e w1 ⟨B, F, rfl, hA, hA2, hF⟩
  go_wp2_with fail
  (with_reducible refine (padded_any p xs n c x w1 hn hb hp (hx.only0 hA.low)).mono ?_)
  rintro e w2 ⟨g, rfl, hg, r, h2⟩
  have hB := hA.only0 h2
  have hgF : ∀ k ∈ F, k ≠ g := fun k hk => by have := (hA.2.2 k hk).2; omega
  go_wp2_with fail
  refine (write_any w2 F B [] (padW xs x) (some ⟨g, 0, none⟩) 64 64 hB.1 (fun w3 ho => r.rd0.only ho (fun a ha hb => by
    obtain rfl := Option.some.inj ha
    exact hgF B hB.1.head (List.mem_singleton.1 hb).symm)) (padW_len xs x) (by simp) (by omega) (by simp)).mono ?_
  rintro e w3 ⟨rfl, F', k1, k2, k3⟩
  rw [List.nil_append] at k1
  have hC : HashAt W0 w3 F' B (padW xs x) := ⟨k1, hB.low.transN k2 (fun i hi => (hB.2.2 i hi).1), fun k hk => ⟨(k3 k hk).elim (fun h => (hB.2.2 k h).1) (fun h => Nat.le_trans hB.low.size h), k1.lt k hk⟩⟩
  have hlow : Only [] w w3 := (hA2.trans0 h2).transN k2 hF
  have hF' : ∀ k ∈ F', w.heap.size ≤ k := fun k hk => (k3 k hk).elim (hF k) (fun h => Nat.le_trans (hA2.trans0 h2).size h)
  clear hA hA2 hF r h2 hB hgF k1 k2 k3 hx
  go_wp2_with fail
  go_ret
  exact ⟨B, F', rfl, hC, hlow, hF'⟩
set_option maxHeartbeats 2000000 in
theorem macSum_any (p q : Option Addr) (ks ms : List UInt8) (n c m d : Nat) (ww : World) (hn : ks.length = n) (hb : n + 64 ≤ 140737488355328) (hp : p = none → n = 0 ∧ c = 0) (hx : Rd ww p (u8s ks)) (hm : ms.length = m) (hbm : m + 64 ≤ 140737488355328) (hq : q = none → m = 0 ∧ d = 0) (hy : Rd ww q (u8s ms)) :
    Calls Try.prog 15 #[.slice p n c, .slice q m d] ww fun e w' => e = .returned (.agg (u8s (macB ks ms)).toArray) ∧ Only [] ww w' := by
  obtain ⟨w0, hw0⟩ : ∃ w0, w0 = ww.alloc (.cells #[.int .u8 0, .int .u8 0, .int .u8 0, .int .u8 0, .int .u8 0, .int .u8 0, .int .u8 0, .int .u8 0, .int .u8 0, .int .u8 0, .int .u8 0, .int .u8 0, .int .u8 0, .int .u8 0, .int .u8 0, .int .u8 0, .int .u8 0, .int .u8 0, .int .u8 0, .int .u8 0, .int .u8 0, .int .u8 0, .int .u8 0, .int .u8 0, .int .u8 0, .int .u8 0, .int .u8 0, .int .u8 0, .int .u8 0, .int .u8 0, .int .u8 0, .int .u8 0] 25) := ⟨_, rfl⟩
  have ho0 : Only [] ww w0 := by rw [hw0]; exact Only.alloc _ _
  have rz : Row w0 ww.heap.size 25 (u8s (List.replicate 32 0)) := by rw [hw0]; exact Row.newOf _ _ _ _ (by rfl)
  have hk1 := keyed_any p ks n c 54 54 rfl w0 w0 (Only.refl _ _) hn hb hp (hx.only0 ho0)
  have hk2 := fun w h => keyed_any p ks n c 92 92 rfl w0 w h hn hb hp (hx.only0 ho0)
  have hans : macB ks ms = shaB (padW ks 92 ++ shaB (padW ks 54 ++ ms)) := rfl
  have hl1 := padW_len ks 54
  have hl2 := padW_len ks 92
  generalize macB ks ms = A at hans ⊢
  generalize padW ks 54 = K1 at hk1 hans hl1
  generalize padW ks 92 = K2 at hk2 hans hl2
  have hy0 := hy.only0 ho0
  have hzl := rz.lt
  rw [hw0] at hk1
  have Hans := Lib.hid hans
  clear hans hx hy
  go_enter Try.func15, Try.ntmps15
  go_wp2_with fail
  refine hk1.mono ?_
  rintro e w1 ⟨B1, F1, rfl, hA, hA2, hF1⟩
  rw [← hw0] at hA hA2 hF1
  have hB := hk2 w1 hA.low
  clear hk1 hk2
  go_wp2_with fail
  refine hB.mono ?_
  rintro e w2 ⟨B2, F2, rfl, hC, hC2, hF2⟩
  clear hB
  have hA3 := hA.only0 hC2
  have hd : ∀ k ∈ F1, k ∉ F2 := fun k hk h => by have := hF2 k h; have := (hA.2.2 k hk).2; omega
  go_wp2_with fail
  (with_reducible refine (write_at w0 w2 F1 B1 K1 ms q m d hA3 hy0 hm hq hbm (by rw [hl1]; omega)).mono ?_)
  rintro e w3 ⟨rfl, F3, hD, hD2, hF3⟩
  have hE := hC.other hD2 hD.low (fun k hk h => hd k h hk)
  go_wp2_with fail
  (with_reducible refine (sum_at w0 w3 F3 B1 (K1 ++ ms) hD (by rw [List.length_append, hl1, hm]; omega)).mono ?_)
  rintro e w4 ⟨rfl, h4⟩
  have hG := hE.only0 h4
  have hlA : (shaB (K1 ++ ms)).length = 32 := rfl
  obtain ⟨S1, hS1⟩ : ∃ S1, S1 = shaB (K1 ++ ms) := ⟨_, rfl⟩
  rw [← hS1] at hlA ⊢
  have HS1 := Lib.hid hS1
  clear hS1
  obtain ⟨W1, hW1⟩ : ∃ W1, W1 = w4.alloc (.cells #[.int .u8 0, .int .u8 0, .int .u8 0, .int .u8 0, .int .u8 0, .int .u8 0, .int .u8 0, .int .u8 0, .int .u8 0, .int .u8 0, .int .u8 0, .int .u8 0, .int .u8 0, .int .u8 0, .int .u8 0, .int .u8 0, .int .u8 0, .int .u8 0, .int .u8 0, .int .u8 0, .int .u8 0, .int .u8 0, .int .u8 0, .int .u8 0, .int .u8 0, .int .u8 0, .int .u8 0, .int .u8 0, .int .u8 0, .int .u8 0, .int .u8 0, .int .u8 0] 25) := ⟨_, rfl⟩
  have oW1 : Only [] w4 W1 := by rw [hW1]; exact Only.alloc _ _
  have r6 : Row W1 w4.heap.size 25 (u8s (List.replicate 32 0)) := by rw [hW1]; exact Row.newOf _ _ _ _ (by rfl)
  have hsz : (Try.prog.info? 25).map (·.size) = some (u8s S1).length := by rw [u8s_length, hlA]; kernel_rfl
  have hst := r6.storeAt (P := Try.prog) hsz (by rw [u8s_length, u8s_length, hlA]; rfl) (fun u hu => u8s_one hu)
  have hrow := r6.setRow (u8s S1)
  have hos : Only [w4.heap.size] W1 (W1.setRow w4.heap.size (u8s S1).toArray) := Only.setRow _ _ _
  have hsz4 := hG.low.size
  have o5 : Only [] w4 (W1.setRow w4.heap.size (u8s S1).toArray) := oW1.transN hos (by simp)
  have hG5 := hG.only0 o5
  have rzW := (rz.only0 hG5.low)
  have hg7 : ∀ k ∈ F2, k ≠ w4.heap.size := fun k hk => by have := (hG.2.2 k hk).2; omega
  have Hst := Lib.hid hst
  have HG5 := Lib.hid hG5
  have Hrow := Lib.hid hrow
  have Rz := Lib.hid rzW
  clear hst hrow hos o5 hG5 rzW r6 oW1 hG h4 hE hD hD2 hF3 hA3 hC hC2 hF2 hd hA hA2 hF1 hy0 hsz
  subst hW1
  go_wp2_with (first | ((with_reducible show wpList _ _ _ _ _ _); refine wpl_store (ty := 25) (x := .tmp 7) (y := .tmp 16) rfl rfl rfl rfl Hst.out ?_))
  clear Hst
  refine (write_any _ F2 B2 K2 S1 (some ⟨w4.heap.size, 0, none⟩) 32 32 HG5.out.1 (fun w5 ho => Hrow.out.rd0.only ho (fun a ha hb => by
    obtain rfl := Option.some.inj ha
    exact hg7 B2 HG5.out.1.head (List.mem_singleton.1 hb).symm)) hlA (by simp) (by omega) (by rw [hl2]; omega)).mono ?_
  rintro e w6 ⟨rfl, F6, k1, k2, k3⟩
  have hlow6 : Only [] w0 w6 := HG5.out.low.transN k2 (fun i hi => (HG5.out.2.2 i hi).1)
  have rz6 := Rz.out.only k2 (fun h => by have := (HG5.out.2.2 _ h).1; omega)
  have hs := hashSum_any w6 F6 B2 (K2 ++ S1) k1 (by rw [List.length_append, hl2, hlA]; omega)
  rw [HS1.out, ← Hans.out] at hs
  have hlB : A.length = 32 := by rw [Hans.out]; rfl
  clear k1 k2 k3 HG5 Hrow Rz hg7
  go_wp2_with fail
  refine hs.mono ?_
  rintro e w7 ⟨rfl, h7⟩
  have rz7 := rz6.only0 h7
  have hsz7 : (Try.prog.info? 25).map (·.size) = some (u8s A).length := by rw [u8s_length, hlB]; kernel_rfl
  have hst7 := rz7.storeAt (P := Try.prog) hsz7 (by rw [u8s_length, u8s_length, hlB]; rfl) (fun u hu => u8s_one hu)
  have hrow7 := rz7.setRow (u8s A)
  have hos7 : Only [ww.heap.size] w7 (w7.setRow ww.heap.size (u8s A).toArray) := Only.setRow _ _ _
  have hfin : Only [] ww (w7.setRow ww.heap.size (u8s A).toArray) := ((ho0.trans0 hlow6).trans0 h7).transN hos7 (by simp)
  have Hst7 := Lib.hid hst7
  have Hrow7 := Lib.hid hrow7
  have Hsz7 := Lib.hid hsz7
  have Hfin := Lib.hid hfin
  clear hst7 hrow7 hsz7 hos7 hfin rz7 rz6 hs rz hlow6 h7 ho0
  go_wp2_with (first | ((with_reducible show wpList _ _ _ _ _ _); refine wpl_store (ty := 25) (x := .tmp 4) (y := .tmp 21) rfl rfl rfl rfl Hst7.out ?_))
  refine bodyPost_ret (results_cell_row (p := 4) rfl _ _ ww.heap.size 25 (u8s A).toArray (0, 0) _ (by rfl) Hrow7.out Try.underlying25 rfl (by rw [List.size_toArray]; exact Hsz7.out)) (by rfl) ?_
  exact ⟨rfl, Hfin.out⟩
end Go.Proofs.Ytmddehbfimpjdaa
