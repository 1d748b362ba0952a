/- The walk of (*rs.system).solve. -/
import Derived.Test.YtlgcclhepegggaaDoorRsClearW
import Derived.WalkMore
import Derived.Deep.LoopGhost
set_option linter.unusedVariables false
set_option maxRecDepth 100000
namespace Go.Proofs.YtlgcclhepegggaaDoor
open Go.RowKit

/-- a system that comes to U, at the same place -/
def SysIs (w0 : World) (B gr gv cr cv k : Nat) (rr rv : List Value) (U : St) (w' : World) : Prop := ∃ rs' vs', Sys w' B gr gv cr cv k rs' vs' rr rv U.1 U.2 ∧ Only [gr, gv] w0 w'
set_option maxHeartbeats 4000000 in
theorem solve_any (w0 : World) (B gr gv cr cv k size : Nat) (rs vs rr rv : List Value) (Rs Vs : List (List UInt8)) (h : Sys w0 B gr gv cr cv k rs vs rr rv Rs Vs) (hsh : Shape k size (Rs, Vs)) (hk : k ≤ 1000) (hz : size ≤ 100000) :
    Calls Tryd.prog 66 #[.pointer (some ⟨B, 0, none⟩)] w0 fun e w' => e = .returned (.tuple #[]) ∧ SysIs w0 B gr gv cr cv k rr rv (solveS (Rs, Vs)) w' := by
  have c0 := h.st.cell (i := 0) rfl
  have H0 : Hid (Sys w0 B gr gv cr cv k rs vs rr rv (Rs, Vs).1 (Rs, Vs).2) := Lib.hid h
  have Hsh := Lib.hid hsh
  clear h hsh
  have hS : solveF k 0 (Rs, Vs) = solveS (Rs, Vs) := by unfold solveS; rw [Hsh.out.r]
  have HS0 := Lib.hid hS
  clear hS
  generalize (Rs, Vs) = U0 at *
  generalize solveS U0 = Z at *
  go_enter Tryd.func66, Tryd.ntmps66
  go_wp2_with fail
  go_step3
  go_wp2_with fail
  go_step3
  go_wp2_with fail
  go_loopg [9] k (fun g i wr => ∃ (col : Nat) (U : St) (rs2 vs2 : List Value), col + g = k ∧ i = .int .i64 (col : Int) ∧ Hid (solveF g col U = Z) ∧ Hid (Shape k size U) ∧ Hid (Sys wr B gr gv cr cv k rs2 vs2 rr rv U.1 U.2) ∧ Hid (Only [gr, gv] w0 wr))
  case atStart => exact ⟨0, U0, rs, vs, by omega, rfl, HS0, Hsh, H0, Lib.hid (Only.refl _ _)⟩
  case round =>
    clear HS0 Hsh H0 c0
    obtain ⟨col, U, rs2, vs2, hcg, rfl, HZ, Hsh, HS, HO⟩ := hrel
    have c0 := HS.out.st.cell (i := 0) rfl
    cases gk with
    | zero =>
      have hcz : ¬ ((col : Int) < (k : Int)) := by omega
      go_wp2_with fail
      (try rw [Exit.noGoto_ret])
      (first | go_end0 | ((try simp only [Exit.inBlock, Exit.then]); refine bodyPost_ret (results_none rfl _ _ _) rfl ?_))
      exact ⟨rfl, rs2, vs2, by rw [← HZ.out]; exact HS.out, HO.out⟩
    | succ g =>
      have hcz : (col : Int) < (k : Int) := by omega
      have hck : col < k := by omega
      obtain ⟨wo, hwo⟩ : ∃ wo : World, wo = wr := ⟨_, rfl⟩
      subst hwo
      go_wp2_with fail
      go_loopg [3] (k - col) (fun g2 i wy => ∃ t : Nat, t + g2 = k ∧ col ≤ t ∧ i = .int .i64 (t : Int) ∧ Hid (∀ u, col ≤ u → u < t → ent U.1 u col = 0) ∧ wy = wo)
      case atStart => exact ⟨col, by omega, Nat.le_refl _, rfl, Lib.hid (fun u h1 h2 => by omega), rfl⟩
      case round =>
        obtain ⟨t, htg, hct, rfl, H0, rfl⟩ := hrel
        cases gk with
        | zero =>
          have htz : ¬ ((t : Int) < (k : Int)) := by omega
          have hn : pivot U.1 col = none := pivot_none fun u h1 h2 => H0.out u h1 (by rw [Hsh.out.r] at h2; omega)
          have hz2 : Hid (U = Z) := Lib.hid (by have := HZ.out; unfold solveF at this; rw [hn] at this; exact this)
          clear hn
          go_wp2_with fail
          (try rw [Exit.noGoto_ret])
          (first | go_end0 | ((try simp only [Exit.inBlock, Exit.then]); refine bodyPost_ret (results_none rfl _ _ _) rfl ?_))
          exact ⟨rfl, rs2, vs2, by rw [← hz2.out]; exact HS.out, HO.out⟩
        | succ g2 =>
          have htz : (t : Int) < (k : Int) := by omega
          have htk : t < k := by omega
          have n1 := getD_len (j := t) Hsh.out.er (by rw [Hsh.out.r]; exact htk)
          obtain ⟨q1, k1, hx1, rd1, nb1⟩ := HS.out.rowAt htk n1
          have cx := HS.out.r.cell hx1
          obtain ⟨b1, off1, rfl, ce⟩ := rd_ent rd1 n1 hck
          have Hsh2 := Hsh
          clear n1 hx1 rd1 nb1
          obtain ⟨y, hy⟩ : ∃ y, y = ent U.1 t col := ⟨_, rfl⟩
          rw [← hy] at ce
          by_cases hy0 : y = 0
          · have hy' : ((y.toNat : Int) != 0) = false := by rw [hy0]; rfl
            have Hy : Hid (ent U.1 t col = 0) := Lib.hid (by rw [← hy, hy0])
            clear hy hy0
            go_wp2_with fail
            go_roundg g2
            case measure => omega
            case rel => exact ⟨t + 1, by omega, by omega, by go_num, Lib.hid (fun u h1 h2 => by by_cases e : u = t; subst e; exact Hy.out; exact H0.out u h1 (by omega)), rfl⟩
          · have hy' : ((y.toNat : Int) != 0) = true := by
              simp
              intro e
              exact hy0 (UInt8.toNat_inj.1 (by simpa using e))
            have hp : pivot U.1 col = some t := pivot_some hct (by rw [Hsh.out.r]; exact htk) H0.out (by rw [← hy]; exact hy0)
            have hZ2 : Hid (solveF g (col + 1) (clearS col (swapS col t U)) = Z) := Lib.hid (by have := HZ.out; unfold solveF at this; rw [hp] at this; exact this)
            clear hy hy0 hp
            go_wp2_with fail
            (with_reducible refine (exchange_any _ B gr gv cr cv k col t rs2 vs2 rr rv U.1 U.2 HS.out hck htk hk).mono ?_)
            rintro e w1 ⟨rfl, S1, O1⟩
            have HS1 : Hid (Sys w1 B gr gv cr cv k (swapL rs2 col t) (swapL vs2 col t) rr rv (swapS col t U).1 (swapS col t U).2) := Lib.hid S1
            have HO1 := Lib.hid (HO.out.trans O1 (by simp))
            have Hs1 := Lib.hid (Hsh.out.swap col t)
            clear S1 O1 c0 cx ce
            generalize swapS col t U = U1 at *
            go_wp2_with fail
            (with_reducible refine (clear_any w1 B gr gv cr cv k size col _ _ rr rv U1.1 U1.2 HS1.out Hs1.out hck hk hz).mono ?_)
            rintro e w2 ⟨rs3, vs3, rfl, S2, O2⟩
            have HS2 := Lib.hid S2
            have HO2 := Lib.hid (HO1.out.trans O2 (by simp))
            have Hs2 : Hid (Shape k size (clearS col U1)) := Lib.hid (Hs1.out.clearS hck)
            clear S2 O2
            go_wp2_with fail
            go_roundg g
            case measure => omega
            case rel => exact ⟨col + 1, clearS col U1, rs3, vs3, by omega, by go_num, hZ2, Hs2, HS2, HO2⟩
end Go.Proofs.YtlgcclhepegggaaDoor
