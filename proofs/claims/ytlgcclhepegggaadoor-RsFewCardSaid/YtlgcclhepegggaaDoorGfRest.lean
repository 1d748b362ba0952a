/- The walks of gf.Sum, Scale, AddScaled, Dot, Pow, Inv, Div, Log. -/
import Derived.Test.YtlgcclhepegggaaDoorGfEach
set_option linter.unusedVariables false
namespace Go.Proofs.YtlgcclhepegggaaDoor
open Go.RowKit

/-- what is handed back: a slice of bytes at the head of a block of its own -/
def NewBytes (xs : List UInt8) (w : World) (e : Ending) (w' : World) : Prop :=
  ∃ g, e = .returned (.slice (some ⟨g, 0, none⟩) xs.length xs.length) ∧ w.heap.size ≤ g ∧ Row w' g 5 (u8s xs) ∧ Only [] w w'

theorem eachS_length (f : UInt8 → UInt8 → UInt8) (xs ys : List UInt8) : (eachS f xs ys).length = max xs.length ys.length := eachUp_length _ _ _ _ _

theorem scaled1_any (a b c : UInt8) (ad : Addr) (w : World) (hc : w.cell? ad = some (.int .u8 (c.toNat : Int))) :
    Calls Tryd.prog 74 #[.int .u8 (a.toNat : Int), .int .u8 (b.toNat : Int), .pointer (some ad)] w fun e w' => e = .returned (.int .u8 ((gadd a (gmul c b)).toNat : Int)) ∧ w = w' := by
  go_enter Tryd.func74, Tryd.ntmps74
  go_wp2_with fail
  refine (mul_any _ _ _).mono ?_
  rintro e w' ⟨rfl, rfl⟩
  go_wp2_with fail
  go_ret
  exact ⟨ret_of (u8_xor_u8 a _), rfl⟩

theorem scaled_any (c : UInt8) (w : World) :
    Calls Tryd.prog 70 #[.int .u8 (c.toNat : Int)] w fun e w' => ∃ ad, e = .returned (.func (.func 74) #[] #[.pointer (some ad)]) ∧ w'.cell? ad = some (.int .u8 (c.toNat : Int)) ∧ ad.block < w'.heap.size ∧ Only [] w w' := by
  go_enter Tryd.func70, Tryd.ntmps70
  go_wp2_with fail
  go_ret
  exact ⟨⟨w.heap.size, 0, none⟩, rfl, by simp [go_sem], by simp, Only.alloc _ _⟩

theorem scale_any (x : UInt8) (q : Option Addr) (ys : List UInt8) (d : Nat) (w : World)
    (hm : ys.length ≤ 140737488351232) (hy : Rd w q (u8s ys)) :
    Calls Tryd.prog 76 #[.int .u8 (x.toNat : Int), .slice q ys.length d] w (NewBytes (eachS (fun a b => gadd a (gmul x b)) [] ys) w) := by
  go_enter Tryd.func76, Tryd.ntmps76
  go_wp2_with fail
  refine (scaled_any _ _).mono ?_
  rintro e w1 ⟨ad, rfl, hc, hl, o⟩
  go_wp2_with fail
  refine (each_any 74 #[.pointer (some ad)] (fun a b => gadd a (gmul x b)) none q [] ys 0 d w1 (by simp) hm (Rd.nil _ _) (hy.only0 o) (fun _ _ => by kernel_rfl) (fun a b W hb => scaled1_any a b x ad W ((hb.cell hl).trans hc))).mono ?_
  rintro e w' ⟨g, rfl, hg, r, o2⟩
  go_wp2_with fail
  go_ret
  exact ⟨g, by rw [eachS_length]; rfl, Nat.le_trans o.size hg, r, o.trans0 o2⟩

theorem addScaled_any (x : UInt8) (p q : Option Addr) (xs ys : List UInt8) (c d : Nat) (w : World)
    (hn : xs.length ≤ 140737488351232) (hm : ys.length ≤ 140737488351232) (hx : Rd w p (u8s xs)) (hy : Rd w q (u8s ys)) :
    Calls Tryd.prog 63 #[.slice p xs.length c, .int .u8 (x.toNat : Int), .slice q ys.length d] w (NewBytes (eachS (fun a b => gadd a (gmul x b)) xs ys) w) := by
  go_enter Tryd.func63, Tryd.ntmps63
  go_wp2_with fail
  refine (scaled_any _ _).mono ?_
  rintro e w1 ⟨ad, rfl, hc, hl, o⟩
  go_wp2_with fail
  refine (each_any 74 #[.pointer (some ad)] (fun a b => gadd a (gmul x b)) p q xs ys c d w1 hn hm (hx.only0 o) (hy.only0 o) (fun _ _ => by kernel_rfl) (fun a b W hb => scaled1_any a b x ad W ((hb.cell hl).trans hc))).mono ?_
  rintro e w' ⟨g, rfl, hg, r, o2⟩
  go_wp2_with fail
  go_ret
  exact ⟨g, by rw [eachS_length]; rfl, Nat.le_trans o.size hg, r, o.trans0 o2⟩

/-- Dot behind k rounds -/
def gdotUp (xs ys : List UInt8) : Nat → UInt8
  | 0 => 0
  | k + 1 => gadd (gdotUp xs ys k) (gmul (xs.getD k 0) (ys.getD k 0))
def gdot (xs ys : List UInt8) : UInt8 := gdotUp xs ys (min xs.length ys.length)
theorem getD_at {xs : List UInt8} {i : Nat} (h : i < xs.length) : xs.getD i 0 = xs[i] := by rw [List.getD_eq_getElem?_getD, List.getElem?_eq_getElem h]; rfl

theorem tmod_neg {n : Int} (h : n.tmod 255 < 0) : n.tmod 255 + 255 = ((n % 255).toNat : Int) := by
  rw [Int.tmod_eq_emod] at *
  split at h <;> split <;> omega
theorem tmod_pos {n : Int} (h : ¬ n.tmod 255 < 0) : n.tmod 255 = ((n % 255).toNat : Int) := by
  rw [Int.tmod_eq_emod] at *
  split at h <;> split <;> omega
theorem u8_ne_zero {a : UInt8} (h : ((a.toNat : Int) == 0) = false) : a ≠ 0 := by
  rintro rfl; simp at h
theorem u8_eq_zero {a : UInt8} (h : ((a.toNat : Int) == 0) = true) : a = 0 := by
  have := eq_of_beq h; exact UInt8.toNat_inj.1 (by simp; omega)

theorem pow_any (a : UInt8) (n : Int) (w : World) (h0 : -9223372036854775808 ≤ n) (h1 : n ≤ 9223372036854775807) :
    Calls Tryd.prog 71 #[.int .u8 (a.toNat : Int), .int .i64 n] w fun e w' => e = .returned (.int .u8 ((gpowI a n).toNat : Int)) ∧ w = w' := by
  by_cases hn : n = 0
  · subst hn
    go_enter Tryd.func71, Tryd.ntmps71
    go_wp2_with fail
    go_ret
    exact ⟨by rw [gpowI_zero]; rfl, rfl⟩
  have hn' : (n == 0) = false := by simp [hn]
  by_cases ha : a = 0
  · subst ha
    go_enter Tryd.func71, Tryd.ntmps71
    go_wp2_with fail
    go_ret
    exact ⟨by rw [gpowI, if_neg hn, if_pos rfl]; rfl, rfl⟩
  have ha' : ((a.toNat : Int) == 0) = false := by
    simp only [beq_eq_false_iff_ne]; intro h; exact ha (UInt8.toNat_inj.1 (by simp; omega))
  have Hp : Hid (gpowI a n = gpow a (n % 255).toNat) := by rw [gpowI, if_neg hn, if_neg ha]; exact Lib.hid rfl
  have hb : -255 < n.tmod 255 ∧ n.tmod 255 < 255 := by rw [Int.tmod_eq_emod]; split <;> omega
  obtain ⟨hb1, hb2⟩ := hb
  clear hn ha
  have key : ∀ d : Bool, decide (n.tmod 255 < 0) = d → Calls Tryd.prog 71 #[.int .u8 (a.toNat : Int), .int .i64 n] w fun e w' => e = .returned (.int .u8 ((gpowI a n).toNat : Int)) ∧ w = w' := by
    intro d hd
    have ht : d = true → n.tmod 255 < 0 := by rintro rfl; simpa using hd
    have ht2 : d = false → ¬ n.tmod 255 < 0 := by rintro rfl; simpa using hd
    cases d
    case' true => have Ht := Lib.hid (tmod_neg (ht rfl))
    case' false => have Ht := Lib.hid (tmod_pos (ht2 rfl))
    all_goals
      clear ht ht2
      go_enter Tryd.func71, Tryd.ntmps71
      go_wp2_with fail
      go_loop [0, 1, 5] (fun a' n' o => ∃ (aa oo : UInt8) (nn : Nat), nn < 255 ∧ Hid (gmul oo (gpow aa nn) = gpowI a n) ∧ a' = .int .u8 (aa.toNat : Int) ∧ n' = .int .i64 (nn : Int) ∧ o = .int .u8 (oo.toNat : Int)) (fun _ n' _ => (intOf n').toNat)
      case atStart => exact ⟨a, 1, (n % 255).toNat, by omega, Lib.hid (by rw [Hp.out, gmul_one_left]), rfl, by rw [Ht.out], rfl⟩
      case round =>
        obtain ⟨aa, oo, nn, hl, H, rfl, rfl, rfl⟩ := hrel
        by_cases hz : 0 < nn
        · have e1 := i64_and1 nn (by omega)
          by_cases h2 : nn % 2 = 1
          · have h3 : ((nn % 2 : Nat) : Int) = 1 := by omega
            rw [h3] at e1
            have H2 := Lib.hid h2
            clear h2 h3
            go_wp2_with fail
            refine (mul_any _ _ _).mono ?_
            rintro e w' ⟨rfl, rfl⟩
            go_wp2_with fail
            refine (mul_any _ _ _).mono ?_
            rintro e w' ⟨rfl, rfl⟩
            go_wp2_with fail
            go_round
            case rel => exact ⟨gmul aa aa, gmul oo aa, nn / 2, by omega, Lib.hid (by rw [gpow_step _ _ H2.out, H.out]), rfl, by go_num, rfl⟩
            case measure => simp [intOf]; omega
          · have h3 : ((nn % 2 : Nat) : Int) = 0 := by omega
            rw [h3] at e1
            have H2 := Lib.hid h2
            clear h2 h3
            go_wp2_with fail
            refine (mul_any _ _ _).mono ?_
            rintro e w' ⟨rfl, rfl⟩
            go_wp2_with fail
            go_round
            case rel => exact ⟨gmul aa aa, oo, nn / 2, by omega, Lib.hid (by rw [gpow_step0 _ _ H2.out, H.out]), rfl, by go_num, rfl⟩
            case measure => simp [intOf]; omega
        · obtain rfl : nn = 0 := by omega
          go_wp2_with fail
          go_ret
          exact ⟨by rw [← H.out, gpow, gmul_one]; rfl, rfl⟩
  exact key _ rfl

theorem inv_any (a : UInt8) (w : World) :
    Calls Tryd.prog 64 #[.int .u8 (a.toNat : Int)] w fun e w' => e = .returned (.tuple #[.int .u8 ((ginvZ a).toNat : Int), .bool (nz a)]) ∧ w = w' := by
  by_cases ha : a = 0
  · subst ha
    go_enter Tryd.func64, Tryd.ntmps64
    go_wp2_with fail
    go_ret2
    exact ⟨rfl, rfl⟩
  · have ha' : ((a.toNat : Int) == 0) = false := by
      simp only [beq_eq_false_iff_ne]; intro h; exact ha (UInt8.toNat_inj.1 (by simp; omega))
    have Ha := Lib.hid ha
    clear ha
    go_enter Tryd.func64, Tryd.ntmps64
    go_wp2_with fail
    refine (pow_any _ _ _ (by omega) (by omega)).mono ?_
    rintro e w' ⟨rfl, rfl⟩
    go_wp2_with fail
    go_ret2
    exact ⟨by rw [ginvZ_ne Ha.out, nz_true Ha.out]; rfl, rfl⟩

end Go.Proofs.YtlgcclhepegggaaDoor
