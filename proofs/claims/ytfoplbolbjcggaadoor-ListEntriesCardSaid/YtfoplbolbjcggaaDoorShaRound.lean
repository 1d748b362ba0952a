/- The walks of sha.rot and math/bits.RotateLeft32; Plain laws of the schedule. No program in sight; The walk of sha.schedule; The walks of sha.start and sha.constants; Plain laws of the digest of one block. -/
import Derived.Test.YtfoplbolbjcggaaDoorProg
import Derived.Test.YtfoplbolbjcggaaDoorOwn
import Derived.Test.YtfoplbolbjcggaaDoorShaMath
import Derived.Test.YtfoplbolbjcggaaDoorWires
import Derived.Test.YtfoplbolbjcggaaDoorRegions
import Derived.Test.YtfoplbolbjcggaaDoorRowLoad
set_option linter.unusedVariables false
set_option maxRecDepth 100000
section
set_option linter.unusedVariables false
namespace Go.Proofs.YtfoplbolbjcggaaDoor
open Go.RowKit

theorem shl_nat (x : UInt32) (s : Nat) (h : s < 32) : ((x.toNat : Int) * 2 ^ s % 4294967296) = ((x <<< UInt32.ofNat s).toNat : Int) := by
  have e : (UInt32.ofNat s).toNat = s := by rw [UInt32.toNat_ofNat']; omega
  rw [UInt32.toNat_shiftLeft, e, Nat.mod_eq_of_lt h, Nat.shiftLeft_eq]
  rw [show ((2 : Int) ^ s) = ((2 ^ s : Nat) : Int) by simp, ← Int.natCast_mul]
  omega
theorem shr_nat (x : UInt32) (n : Nat) (h : n < 32) : ((x.toNat : Int) / 2 ^ n) = ((x >>> UInt32.ofNat n).toNat : Int) := by
  have e : (UInt32.ofNat n).toNat = n := by rw [UInt32.toNat_ofNat']; omega
  rw [UInt32.toNat_shiftRight, e, Nat.mod_eq_of_lt h, Nat.shiftRight_eq_div_pow]
  rw [show ((2 : Int) ^ n) = ((2 ^ n : Nat) : Int) by simp, ← Int.natCast_ediv]
theorem rotl_any (x : UInt32) (k : Int) (n s : Nat) (hns : n + s = 32) (hn : 0 < n) (hs0 : 0 < s) (hs : bits .and .u64 (IntKind.u64.wrap k) 31 = (s : Int)) (w : World) : Calls Tryd.prog 147 #[.int .u32 (x.toNat : Int), .int .i64 k] w fun e w' => e = .returned (.int .u32 ((rotr x (UInt32.ofNat n)).toNat : Int)) ∧ w = w' := by
  have h1 : (32 : Int) - (s : Int) = (n : Int) := by omega
  go_enter Tryd.func147, Tryd.ntmps147
  go_wp2_with fail
  go_ret
  refine ⟨congrArg (fun z => Ending.returned (.int .u32 z)) ?_, rfl⟩
  show bits .or .u32 _ _ = _
  rw [shl_nat x s (by omega), shr_nat x n (by omega), u32_or_u32]
  have e : (32 : UInt32) - UInt32.ofNat n = UInt32.ofNat s := by
    apply UInt32.toNat_inj.1
    rw [UInt32.toNat_sub, UInt32.toNat_ofNat', UInt32.toNat_ofNat', show (32 : UInt32).toNat = 32 from rfl]; omega
  unfold rotr
  rw [e, UInt32.or_comm]

/-- the turns that the digest makes -/
theorem rot_any (x : UInt32) (n : Nat) (hn : n = 2 ∨ n = 6 ∨ n = 7 ∨ n = 11 ∨ n = 13 ∨ n = 17 ∨ n = 18 ∨ n = 19 ∨ n = 22 ∨ n = 25) (v : Int) (hv : v = (n : Int)) (r : UInt32) (hr : rotr x (UInt32.ofNat n) = r) (w : World) : Calls Tryd.prog 137 #[.int .u32 (x.toNat : Int), .int .i64 v] w fun e w' => e = .returned (.int .u32 (r.toNat : Int)) ∧ w = w' := by
  have hs : bits .and .u64 (IntKind.u64.wrap (-v)) 31 = ((32 - n : Nat) : Int) := by
    subst hv
    rcases hn with rfl | rfl | rfl | rfl | rfl | rfl | rfl | rfl | rfl | rfl <;> decide +kernel
  have hrl := rotl_any x (-v) n (32 - n) (by omega) (by omega) (by omega) hs w
  rw [hr] at hrl
  have hb : -9223372036854775808 ≤ -v ∧ -v ≤ 9223372036854775807 := by omega
  clear hs hr hv hn
  go_enter Tryd.func137, Tryd.ntmps137
  go_wp2_with fail
  refine hrl.mono ?_
  rintro e w' ⟨rfl, rfl⟩
  go_wp2_with fail
  go_ret
  exact ⟨rfl, rfl⟩
end Go.Proofs.YtfoplbolbjcggaaDoor
end
section
set_option linter.unusedVariables false
namespace Go.Proofs.YtfoplbolbjcggaaDoor
open Go.RowKit

theorem grow_len : ∀ (n : Nat) (w : List UInt32), (grow n w).length = w.length + n
  | 0, w => rfl
  | n + 1, w => by simp only [grow, grow_len n, List.length_append]; simp; omega
theorem grow_take : ∀ (n : Nat) (w : List UInt32), (grow n w).take w.length = w
  | 0, w => by simp [grow]
  | n + 1, w => by
    have h := grow_take n (w ++ [nextW w])
    have h2 := congrArg (List.take w.length) h
    rw [List.take_take, List.length_append, Nat.min_eq_left (by omega), List.take_left] at h2
    exact h2
theorem grow_get : ∀ (n : Nat) (w : List UInt32) (t : Nat), w.length ≤ t → t < w.length + n → (grow n w)[t]? = some (nextW ((grow n w).take t))
  | 0, w, t, h1, h2 => by omega
  | n + 1, w, t, h1, h2 => by
    have hl : (w ++ [nextW w]).length = w.length + 1 := by simp
    by_cases e : t = w.length
    · subst e
      have h := grow_take n (w ++ [nextW w])
      have h3 := grow_take (n + 1) w
      rw [h3]
      have h4 : (grow n (w ++ [nextW w])).take (w.length + 1) = w ++ [nextW w] := by rw [← hl]; exact h
      have h5 := congrArg (fun l : List UInt32 => l[w.length]?) h4
      simp only [List.getElem?_take] at h5
      rw [if_pos (by omega)] at h5
      simpa [grow] using h5
    · exact grow_get n (w ++ [nextW w]) t (by omega) (by omega)
theorem words_get : ∀ (bs : List UInt8) (j : Nat) (a b c d : UInt8), bs[4 * j]? = some a → bs[4 * j + 1]? = some b → bs[4 * j + 2]? = some c → bs[4 * j + 3]? = some d → (words bs)[j]? = some (word a b c d)
  | w :: x :: y :: z :: r, 0, a, b, c, d, h1, h2, h3, h4 => by
    simp at h1 h2 h3 h4
    subst h1 h2 h3 h4
    rfl
  | w :: x :: y :: z :: r, j + 1, a, b, c, d, h1, h2, h3, h4 => by
    simp only [words, List.getElem?_cons_succ]
    refine words_get r j a b c d ?_ ?_ ?_ ?_
    · rw [show 4 * (j + 1) = 4 * j + 4 by omega] at h1; simpa using h1
    · rw [show 4 * (j + 1) + 1 = 4 * j + 1 + 4 by omega] at h2; simpa using h2
    · rw [show 4 * (j + 1) + 2 = 4 * j + 2 + 4 by omega] at h3; simpa using h3
    · rw [show 4 * (j + 1) + 3 = 4 * j + 3 + 4 by omega] at h4; simpa using h4
  | [], j, a, b, c, d, h1, _, _, _ => by simp at h1
  | [_], j, a, b, c, d, _, h2, _, _ => by simp at h2
  | [_, _], j, a, b, c, d, _, _, h3, _ => by simp at h3
  | [_, _, _], j, a, b, c, d, _, _, _, h4 => by simp at h4
theorem words_len : ∀ (n : Nat) (bs : List UInt8), bs.length = 4 * n → (words bs).length = n
  | 0, bs, h => by
    have : bs = [] := List.eq_nil_of_length_eq_zero (by omega)
    subst this; rfl
  | n + 1, bs, h => by
    match bs, h with
    | w :: x :: y :: z :: r, h => simp only [words, List.length_cons]; rw [words_len n r (by simp at h; omega)]
    | [], h => simp at h
    | [_], h => simp at h; omega
    | [_, _], h => simp at h; omega
    | [_, _, _], h => simp at h; omega
theorem sched_len (bs : List UInt8) (h : bs.length = 64) : (sched bs).length = 64 := by
  unfold sched; rw [grow_len, words_len 16 bs (by omega)]
theorem sched_lo (bs : List UInt8) (h : bs.length = 64) {j : Nat} (hj : j < 16) {a b c d : UInt8} (h1 : bs[4 * j]? = some a) (h2 : bs[4 * j + 1]? = some b) (h3 : bs[4 * j + 2]? = some c) (h4 : bs[4 * j + 3]? = some d) : (sched bs)[j]? = some (word a b c d) := by
  have hw := words_len 16 bs (by omega)
  have ht := grow_take 48 (words bs)
  have := words_get bs j a b c d h1 h2 h3 h4
  rw [← ht, List.getElem?_take, if_pos (by omega)] at this
  exact this
theorem sched_hi (bs : List UInt8) (h : bs.length = 64) {t : Nat} (ht : 16 ≤ t) (ht2 : t < 64) {a b c d : UInt32} (h1 : (sched bs)[t - 16]? = some a) (h2 : (sched bs)[t - 15]? = some b) (h3 : (sched bs)[t - 7]? = some c) (h4 : (sched bs)[t - 2]? = some d) : (sched bs)[t]? = some (a + sig0 b + c + sig1 d) := by
  have hw := words_len 16 bs (by omega)
  have hl := sched_len bs h
  have hg := grow_get 48 (words bs) t (by omega) (by omega)
  have hgd : ∀ (k : Nat) (x : UInt32), k < t → (sched bs)[k]? = some x → ((sched bs).take t).getD k 0 = x := fun k x hk hx => by
    rw [List.getD_eq_getElem?_getD, List.getElem?_take, if_pos hk, hx]; rfl
  have hlt : ((sched bs).take t).length = t := by rw [List.length_take]; omega
  rw [show (sched bs)[t]? = some (nextW ((sched bs).take t)) from hg]
  unfold nextW
  rw [hlt, hgd _ _ (by omega) h1, hgd _ _ (by omega) h2, hgd _ _ (by omega) h3, hgd _ _ (by omega) h4]
/-- the row while it is filled -/
def fillR (l : List UInt32) (j : Nat) : List UInt32 := l.take j ++ List.replicate (64 - j) 0
theorem fillR_len (l : List UInt32) (h : l.length = 64) (j : Nat) (hj : j ≤ 64) : (fillR l j).length = 64 := by
  unfold fillR; rw [List.length_append, List.length_take, List.length_replicate]; omega
theorem fillR_set (l : List UInt32) (h : l.length = 64) {j : Nat} {x : UInt32} (hj : l[j]? = some x) : (fillR l j).set j x = fillR l (j + 1) := by
  have hjl := (List.getElem?_eq_some_iff.1 hj).1
  unfold fillR
  have hlt : (l.take j).length = j := by rw [List.length_take]; omega
  rw [List.set_append_right _ _ (by omega), hlt, Nat.sub_self, List.take_add_one, hj]
  obtain ⟨m, hm⟩ : ∃ m, 64 - j = m + 1 := ⟨63 - j, by omega⟩
  rw [hm, show 64 - (j + 1) = m by omega, List.replicate_succ]
  simp
theorem fillR_get (l : List UInt32) (h : l.length = 64) {j k : Nat} (hk : k < j) : (fillR l j)[k]? = l[k]? := by
  unfold fillR
  by_cases hkl : k < l.length
  · rw [List.getElem?_append_left (by rw [List.length_take]; omega), List.getElem?_take, if_pos hk]
  · rw [List.getElem?_eq_none (by omega : l.length ≤ k)]
    rw [List.getElem?_append_right (by rw [List.length_take]; omega), List.getElem?_eq_none]
    rw [List.length_replicate, List.length_take]; omega
end Go.Proofs.YtfoplbolbjcggaaDoor
end
section
set_option linter.unusedVariables false
namespace Go.Proofs.YtfoplbolbjcggaaDoor
open Go.RowKit

def u32v (x : UInt32) : Value := .int .u32 (x.toNat : Int)
def u32s (xs : List UInt32) : List Value := xs.map u32v
theorem u32s_length (xs : List UInt32) : (u32s xs).length = xs.length := by simp [u32s]
theorem u32s_get {xs : List UInt32} {i : Nat} {x : UInt32} (h : xs[i]? = some x) : (u32s xs)[i]? = some (.int .u32 (x.toNat : Int)) := by simp [u32s, h, u32v]
theorem u32s_set (xs : List UInt32) (n : Nat) (x : UInt32) : (u32s xs).set n (u32v x) = u32s (xs.set n x) := by simp [u32s, List.map_set]

theorem shl_cell (x : UInt8) (k : Nat) (hk : k ≤ 24) : IntKind.u32.wrap (IntKind.u32.wrap (x.toNat : Int) * ((2 ^ k : Nat) : Int)) = ((x.toUInt32 <<< UInt32.ofNat k).toNat : Int) := by
  have hx := x.toNat_lt
  have e : (UInt32.ofNat k).toNat = k := by rw [UInt32.toNat_ofNat']; omega
  have hp : 2 ^ k ≤ 2 ^ 24 := Nat.pow_le_pow_right (by omega) hk
  have hm : x.toNat * 2 ^ k < 4294967296 := by
    have : x.toNat * 2 ^ k ≤ 255 * 2 ^ 24 := Nat.mul_le_mul (by omega) hp
    omega
  rw [u32_wrap_nat _ (by omega), ← Int.natCast_mul, u32_wrap_nat _ hm, UInt32.toNat_shiftLeft, e, Nat.mod_eq_of_lt (by omega : k < 32), UInt8.toNat_toUInt32, Nat.shiftLeft_eq, Nat.mod_eq_of_lt (by omega)]
theorem word_cells (a b c d : UInt8) : bits .or .u32 (bits .or .u32 (bits .or .u32 (IntKind.u32.wrap (IntKind.u32.wrap (a.toNat : Int) * 16777216)) (IntKind.u32.wrap (IntKind.u32.wrap (b.toNat : Int) * 65536))) (IntKind.u32.wrap (IntKind.u32.wrap (c.toNat : Int) * 256))) (IntKind.u32.wrap (d.toNat : Int)) = ((word a b c d).toNat : Int) := by
  have h1 := shl_cell a 24 (by omega)
  have h2 := shl_cell b 16 (by omega)
  have h3 := shl_cell c 8 (by omega)
  have h4 : IntKind.u32.wrap (d.toNat : Int) = ((d.toUInt32).toNat : Int) := by have := d.toNat_lt; rw [u32_wrap_nat _ (by omega), UInt8.toNat_toUInt32]
  rw [show ((2 ^ 24 : Nat) : Int) = 16777216 by decide] at h1
  rw [show ((2 ^ 16 : Nat) : Int) = 65536 by decide] at h2
  rw [show ((2 ^ 8 : Nat) : Int) = 256 by decide] at h3
  rw [h1, h2, h3, h4, u32_or_u32, u32_or_u32, u32_or_u32]
  rfl
theorem u32_add_cell (a b : UInt32) : IntKind.u32.wrap ((a.toNat : Int) + (b.toNat : Int)) = ((a + b).toNat : Int) := by
  have h := u32_add_u32 a b
  rw [← h]; simp [IntKind.wrap, IntKind.bits, IntKind.signed]
theorem next_cells (a b c d : UInt32) : IntKind.u32.wrap (IntKind.u32.wrap (IntKind.u32.wrap ((a.toNat : Int) + bits .xor .u32 (bits .xor .u32 ((rotr b 7).toNat : Int) ((rotr b 18).toNat : Int)) ((b.toNat : Int) / 8)) + (c.toNat : Int)) + bits .xor .u32 (bits .xor .u32 ((rotr d 17).toNat : Int) ((rotr d 19).toNat : Int)) ((d.toNat : Int) / 1024)) = ((a + sig0 b + c + sig1 d).toNat : Int) := by
  have h1 := shr_nat b 3 (by omega)
  have h2 := shr_nat d 10 (by omega)
  rw [show ((2 : Int) ^ 3) = 8 by decide] at h1
  rw [show ((2 : Int) ^ 10) = 1024 by decide] at h2
  rw [h1, h2, u32_xor_u32, u32_xor_u32, u32_xor_u32, u32_xor_u32, u32_add_cell, u32_add_cell, u32_add_cell]
  rfl
theorem u32s_one {xs : List UInt32} {v : Value} (h : v ∈ u32s xs) : v.oneCell' = true := by
  obtain ⟨x, _, rfl⟩ := List.mem_map.1 h; rfl
set_option maxRecDepth 100000 in
set_option maxHeartbeats 2000000 in
theorem sched_any (p : Option Addr) (bs : List UInt8) (c : Nat) (ww : World) (hn : bs.length = 64) (hx : Rd ww p (u8s bs)) :
    Calls Tryd.prog 135 #[.slice p 64 c] ww fun e w' => e = .returned (.agg (u32s (sched bs)).toArray) ∧ Only [] ww w' := by
  obtain ⟨b0, off, rfl, hyc⟩ := hx.bytes (by omega)
  have hlS := sched_len bs hn
  have hbl := hx.lt (by intro e; have h0 := congrArg List.length e; rw [u8s_length, hn] at h0; simp at h0)
  obtain ⟨b', off', e', hbl⟩ := hbl
  obtain ⟨rfl, rfl, -⟩ : b0 = b' ∧ off = off' ∧ True := by simpa using e'
  have hlo : ∀ (j : Nat) (a b c d : UInt8), j < 16 → bs[4 * j]? = some a → bs[4 * j + 1]? = some b → bs[4 * j + 2]? = some c → bs[4 * j + 3]? = some d → (sched bs)[j]? = some (word a b c d) := fun j a b c d hj h1 h2 h3 h4 => sched_lo bs hn hj h1 h2 h3 h4
  have hhi : ∀ (t : Nat) (a b c d : UInt32), 16 ≤ t → t < 64 → (sched bs)[t - 16]? = some a → (sched bs)[t - 15]? = some b → (sched bs)[t - 7]? = some c → (sched bs)[t - 2]? = some d → (sched bs)[t]? = some (a + sig0 b + c + sig1 d) := fun t a b c d ht ht2 h1 h2 h3 h4 => sched_hi bs hn ht ht2 h1 h2 h3 h4
  generalize sched bs = S at hlS hlo hhi ⊢
  have Hlo := Lib.hid hlo
  have Hhi := Lib.hid hhi
  have HlS := Lib.hid hlS
  clear hlo hhi hlS
  obtain ⟨Z, hZ⟩ : ∃ Z, Z = List.replicate 64 (0 : UInt32) := ⟨_, rfl⟩
  have hZ0 : fillR S 0 = Z := by rw [hZ]; rfl
  have HZ := Lib.hid hZ
  have HZ0 := Lib.hid hZ0
  clear hZ hZ0
  go_enter Tryd.func135, Tryd.ntmps135
  go_wp2_with fail
  go_loopw [8] (fun i wr => ∃ j : Nat, i = .int .i64 (j : Int) ∧ j ≤ 16 ∧ Hid (Row wr ww.heap.size 227 (u32s Z)) ∧ Hid (Row wr (ww.heap.size + 1) 227 (u32s (fillR S j))) ∧ Only [] ww wr) (fun i _ => 16 - (intOf i).toNat)
  case atStart =>
    have hz := HZ.out
    subst hz
    refine ⟨0, rfl, by omega, Lib.hid (Row.only0 (Row.new ww 227 (u32s (List.replicate 64 0))) (Only.alloc _ _)), Lib.hid ?_, (Only.alloc _ _).trans0 (Only.alloc _ _)⟩
    rw [HZ0.out]
    exact Row.newAt _ 227 (u32s (List.replicate 64 0)) (by simp)
  case round =>
    obtain ⟨j, rfl, hj, R2, R3, ho⟩ := hrel
    by_cases hlt : j < 16
    · have hb := fun i (hi : i < 64) => ho.cell (hyc i (by omega)) (by simp)
      have hc0 := hb (4 * j) (by omega)
      have hc1 := hb (4 * j + 1) (by omega)
      have hc2 := hb (4 * j + 2) (by omega)
      have hc3 := hb (4 * j + 3) (by omega)
      have hS := Hlo.out j _ _ _ _ hlt (List.getElem?_eq_getElem (by omega)) (List.getElem?_eq_getElem (by omega)) (List.getElem?_eq_getElem (by omega)) (List.getElem?_eq_getElem (by omega))
      generalize bs[4 * j] = x0 at hc0 hS
      generalize bs[4 * j + 1] = x1 at hc1 hS
      generalize bs[4 * j + 2] = x2 at hc2 hS
      generalize bs[4 * j + 3] = x3 at hc3 hS
      clear hb hyc
      have hbg : b0 ≠ ww.heap.size + 1 := by omega
      have Hn := Lib.hid hn
      have HS := Lib.hid hS
      clear hn hS hx
      go_wp2_with fail
      have hRr : ∀ a, Only [ww.heap.size + 1] a a := fun a => Only.refl _ _
      have hRt : ∀ a b e, Only [ww.heap.size + 1] a b → Only [ww.heap.size + 1] b e → Only [ww.heap.size + 1] a e := fun a b e h h2 => h.trans h2 (fun i hi _ => hi)
      have hRd : Only [ww.heap.size + 1] wr wr.drew := (Only.drew _).mono (by simp)
      have hC0 : ∀ i ∈ [35], (fun (_ : Nat) (a : World) => Row a (ww.heap.size + 1) 227 (u32s (fillR S j))) i wr.drew := fun _ _ => R3.out.only0 (Only.drew _)
      -- <<r5
      refine wp_region_rg4 (Only [ww.heap.size + 1]) (Dirt [(35, [ww.heap.size + 1])]) (fun (_ : Nat) (a : World) => Row a (ww.heap.size + 1) 227 (u32s (fillR S j))) [35] [[(4, none)], [(0, none)], [(4, none)], [(13, some 0)], [(12, some 2), (14, some 0)], [(15, some 0)], [(16, some 0)], [(17, some 0)], [(0, none)], [(4, none)], [(20, some 0)], [(21, some 0)], [(19, some 3), (22, some 0)], [(23, some 0)], [(24, some 0)], [(25, some 0)], [(18, some 8), (26, some 0)], [(0, none)], [(4, none)], [(29, some 0)], [(30, some 0)], [(28, some 3), (31, some 0)], [(32, some 0)], [(33, some 0)], [(34, some 0)], [(27, some 8), (35, some 0)], [(0, none)], [(4, none)], [(38, some 0)], [(39, some 0)], [(37, some 3), (40, some 0)], [(41, some 0)], [(42, some 0)], [(36, some 7), (43, some 0)], [(3, none), (11, some 33)], [(45, some 0), (44, some 1)]] [] [none, none, none, none, none, none, none, none, none, none, none, some 11, some 12, some 13, some 14, some 15, some 16, some 17, some 18, some 19, some 20, some 21, some 22, some 23, some 24, some 25, some 26, some 27, some 28, some 29, some 30, some 31, some 32, some 33, some 34, some 35, some 36, some 37, some 38, some 39, some 40, some 41, some 42, some 43, some 44, some 45, none, none, none, none, none, none, none, none, none, none, none, none, none, none, none, none, none, none, none, none, none, none, none, none, none, none, none, none, none, none, none, none, none, none, none, none, none, none, none, none, none, none, none] (by kernel_rfl) rfl (by kernel_rfl) hRr hRt (fun _ _ => Only.refl _ _) hRd hC0 (by kernel_rfl) (by kernel_rfl) ?_
      -- 0: s11 := move t4
      apply rgd_ev
      · intro a w hR hC hf
        obtain ⟨e4, -⟩ := hf
        replace e4 : a.tmps.getD 4 undef = _ := e4
        refine rg_plain rfl fun K hK => ?_
        go_simp
        exact hK _ _ rfl ⟨hRr _, Only.refl _ _, fun _ _ _ _ h => h⟩
      -- 1: s12 := move t0
      apply rgd_ev
      · intro a w hR hC hf
        obtain ⟨e0, -⟩ := hf
        replace e0 : a.tmps.getD 0 undef = _ := e0
        refine rg_plain rfl fun K hK => ?_
        go_simp
        exact hK _ _ rfl ⟨hRr _, Only.refl _ _, fun _ _ _ _ h => h⟩
      -- 2: s13 := move t4
      apply rgd_ev
      · intro a w hR hC hf
        obtain ⟨e4, -⟩ := hf
        replace e4 : a.tmps.getD 4 undef = _ := e4
        refine rg_plain rfl fun K hK => ?_
        go_simp
        exact hK _ _ rfl ⟨hRr _, Only.refl _ _, fun _ _ _ _ h => h⟩
      -- 3: s14 := binOp Binmul 3 (const (4:i64)) t13 3
      apply rgd_ev
      · intro a w hR hC hf
        obtain ⟨e13, -⟩ := hf
        replace e13 : a.tmps.getD 13 undef = _ := e13
        refine rg_plain rfl fun K hK => ?_
        have hw := IntWalk.i64_in (4 * (j : Int)) (by omega)
        go_simp
        exact hK _ _ rfl ⟨hRr _, Only.refl _ _, fun _ _ _ _ h => h⟩
      -- 4: s15 := indexAddr 22 t12 t14
      apply rgd_ev
      · intro a w hR hC hf
        obtain ⟨e12, e14, -⟩ := hf
        replace e12 : a.tmps.getD 12 undef = _ := e12
        replace e14 : a.tmps.getD 14 undef = _ := e14
        refine rg_plain rfl fun K hK => ?_
        have hi1 : (0 : Int) ≤ 4 * (j : Int) := by omega
        have hi2 : 4 * (j : Int) < 64 := by omega
        have hi3 : (4 * (j : Int)).toNat = 4 * j := by omega
        go_simp
        exact hK _ _ rfl ⟨hRr _, Only.refl _ _, fun _ _ _ _ h => h⟩
      -- 5: s16 := load 5 t15
      apply rgd_ev
      · intro a w hR hC hf
        obtain ⟨e15, -⟩ := hf
        replace e15 : a.tmps.getD 15 undef = _ := e15
        refine rg_plain rfl fun K hK => ?_
        have hl := hR.cell hc0 (by simp; omega)
        go_simp
        exact hK _ _ rfl ⟨hRr _, Only.refl _ _, fun _ _ _ _ h => h⟩
      -- 6: s17 := convert 5 57 t16
      apply rgd_ev
      · intro a w hR hC hf
        obtain ⟨e16, -⟩ := hf
        replace e16 : a.tmps.getD 16 undef = _ := e16
        refine rg_plain rfl fun K hK => ?_
        go_simp
        exact hK _ _ rfl ⟨hRr _, Only.refl _ _, fun _ _ _ _ h => h⟩
      -- 7: s18 := binOp Binshl 57 t17 (const (24:u64)) 61
      apply rgd_ev
      · intro a w hR hC hf
        obtain ⟨e17, -⟩ := hf
        replace e17 : a.tmps.getD 17 undef = _ := e17
        refine rg_plain rfl fun K hK => ?_
        go_simp
        exact hK _ _ rfl ⟨hRr _, Only.refl _ _, fun _ _ _ _ h => h⟩
      -- 8: s19 := move t0
      apply rgd_ev
      · intro a w hR hC hf
        obtain ⟨e0, -⟩ := hf
        replace e0 : a.tmps.getD 0 undef = _ := e0
        refine rg_plain rfl fun K hK => ?_
        go_simp
        exact hK _ _ rfl ⟨hRr _, Only.refl _ _, fun _ _ _ _ h => h⟩
      -- 9: s20 := move t4
      apply rgd_ev
      · intro a w hR hC hf
        obtain ⟨e4, -⟩ := hf
        replace e4 : a.tmps.getD 4 undef = _ := e4
        refine rg_plain rfl fun K hK => ?_
        go_simp
        exact hK _ _ rfl ⟨hRr _, Only.refl _ _, fun _ _ _ _ h => h⟩
      -- 10: s21 := binOp Binmul 3 (const (4:i64)) t20 3
      apply rgd_ev
      · intro a w hR hC hf
        obtain ⟨e20, -⟩ := hf
        replace e20 : a.tmps.getD 20 undef = _ := e20
        refine rg_plain rfl fun K hK => ?_
        have hw := IntWalk.i64_in (4 * (j : Int)) (by omega)
        go_simp
        exact hK _ _ rfl ⟨hRr _, Only.refl _ _, fun _ _ _ _ h => h⟩
      -- 11: s22 := binOp Binadd 3 t21 (const (1:i64)) 3
      apply rgd_ev
      · intro a w hR hC hf
        obtain ⟨e21, -⟩ := hf
        replace e21 : a.tmps.getD 21 undef = _ := e21
        refine rg_plain rfl fun K hK => ?_
        have hw := IntWalk.i64_in (4 * (j : Int) + 1) (by omega)
        go_simp
        exact hK _ _ rfl ⟨hRr _, Only.refl _ _, fun _ _ _ _ h => h⟩
      -- 12: s23 := indexAddr 22 t19 t22
      apply rgd_ev
      · intro a w hR hC hf
        obtain ⟨e19, e22, -⟩ := hf
        replace e19 : a.tmps.getD 19 undef = _ := e19
        replace e22 : a.tmps.getD 22 undef = _ := e22
        refine rg_plain rfl fun K hK => ?_
        have hi1 : (0 : Int) ≤ 4 * (j : Int) + 1 := by omega
        have hi2 : 4 * (j : Int) + 1 < 64 := by omega
        have hi3 : (4 * (j : Int) + 1).toNat = 4 * j + 1 := by omega
        go_simp
        exact hK _ _ rfl ⟨hRr _, Only.refl _ _, fun _ _ _ _ h => h⟩
      -- 13: s24 := load 5 t23
      apply rgd_ev
      · intro a w hR hC hf
        obtain ⟨e23, -⟩ := hf
        replace e23 : a.tmps.getD 23 undef = _ := e23
        refine rg_plain rfl fun K hK => ?_
        have hl := hR.cell hc1 (by simp; omega)
        go_simp
        exact hK _ _ rfl ⟨hRr _, Only.refl _ _, fun _ _ _ _ h => h⟩
      -- 14: s25 := convert 5 57 t24
      apply rgd_ev
      · intro a w hR hC hf
        obtain ⟨e24, -⟩ := hf
        replace e24 : a.tmps.getD 24 undef = _ := e24
        refine rg_plain rfl fun K hK => ?_
        go_simp
        exact hK _ _ rfl ⟨hRr _, Only.refl _ _, fun _ _ _ _ h => h⟩
      -- 15: s26 := binOp Binshl 57 t25 (const (16:u64)) 61
      apply rgd_ev
      · intro a w hR hC hf
        obtain ⟨e25, -⟩ := hf
        replace e25 : a.tmps.getD 25 undef = _ := e25
        refine rg_plain rfl fun K hK => ?_
        go_simp
        exact hK _ _ rfl ⟨hRr _, Only.refl _ _, fun _ _ _ _ h => h⟩
      -- 16: s27 := binOp Binor 57 t18 t26 57
      apply rgd_ev
      · intro a w hR hC hf
        obtain ⟨e18, e26, -⟩ := hf
        replace e18 : a.tmps.getD 18 undef = _ := e18
        replace e26 : a.tmps.getD 26 undef = _ := e26
        refine rg_plain rfl fun K hK => ?_
        go_simp
        exact hK _ _ rfl ⟨hRr _, Only.refl _ _, fun _ _ _ _ h => h⟩
      -- 17: s28 := move t0
      apply rgd_ev
      · intro a w hR hC hf
        obtain ⟨e0, -⟩ := hf
        replace e0 : a.tmps.getD 0 undef = _ := e0
        refine rg_plain rfl fun K hK => ?_
        go_simp
        exact hK _ _ rfl ⟨hRr _, Only.refl _ _, fun _ _ _ _ h => h⟩
      -- 18: s29 := move t4
      apply rgd_ev
      · intro a w hR hC hf
        obtain ⟨e4, -⟩ := hf
        replace e4 : a.tmps.getD 4 undef = _ := e4
        refine rg_plain rfl fun K hK => ?_
        go_simp
        exact hK _ _ rfl ⟨hRr _, Only.refl _ _, fun _ _ _ _ h => h⟩
      -- 19: s30 := binOp Binmul 3 (const (4:i64)) t29 3
      apply rgd_ev
      · intro a w hR hC hf
        obtain ⟨e29, -⟩ := hf
        replace e29 : a.tmps.getD 29 undef = _ := e29
        refine rg_plain rfl fun K hK => ?_
        have hw := IntWalk.i64_in (4 * (j : Int)) (by omega)
        go_simp
        exact hK _ _ rfl ⟨hRr _, Only.refl _ _, fun _ _ _ _ h => h⟩
      -- 20: s31 := binOp Binadd 3 t30 (const (2:i64)) 3
      apply rgd_ev
      · intro a w hR hC hf
        obtain ⟨e30, -⟩ := hf
        replace e30 : a.tmps.getD 30 undef = _ := e30
        refine rg_plain rfl fun K hK => ?_
        have hw := IntWalk.i64_in (4 * (j : Int) + 2) (by omega)
        go_simp
        exact hK _ _ rfl ⟨hRr _, Only.refl _ _, fun _ _ _ _ h => h⟩
      -- 21: s32 := indexAddr 22 t28 t31
      apply rgd_ev
      · intro a w hR hC hf
        obtain ⟨e28, e31, -⟩ := hf
        replace e28 : a.tmps.getD 28 undef = _ := e28
        replace e31 : a.tmps.getD 31 undef = _ := e31
        refine rg_plain rfl fun K hK => ?_
        have hi1 : (0 : Int) ≤ 4 * (j : Int) + 2 := by omega
        have hi2 : 4 * (j : Int) + 2 < 64 := by omega
        have hi3 : (4 * (j : Int) + 2).toNat = 4 * j + 2 := by omega
        go_simp
        exact hK _ _ rfl ⟨hRr _, Only.refl _ _, fun _ _ _ _ h => h⟩
      -- 22: s33 := load 5 t32
      apply rgd_ev
      · intro a w hR hC hf
        obtain ⟨e32, -⟩ := hf
        replace e32 : a.tmps.getD 32 undef = _ := e32
        refine rg_plain rfl fun K hK => ?_
        have hl := hR.cell hc2 (by simp; omega)
        go_simp
        exact hK _ _ rfl ⟨hRr _, Only.refl _ _, fun _ _ _ _ h => h⟩
      -- 23: s34 := convert 5 57 t33
      apply rgd_ev
      · intro a w hR hC hf
        obtain ⟨e33, -⟩ := hf
        replace e33 : a.tmps.getD 33 undef = _ := e33
        refine rg_plain rfl fun K hK => ?_
        go_simp
        exact hK _ _ rfl ⟨hRr _, Only.refl _ _, fun _ _ _ _ h => h⟩
      -- 24: s35 := binOp Binshl 57 t34 (const (8:u64)) 61
      apply rgd_ev
      · intro a w hR hC hf
        obtain ⟨e34, -⟩ := hf
        replace e34 : a.tmps.getD 34 undef = _ := e34
        refine rg_plain rfl fun K hK => ?_
        go_simp
        exact hK _ _ rfl ⟨hRr _, Only.refl _ _, fun _ _ _ _ h => h⟩
      -- 25: s36 := binOp Binor 57 t27 t35 57
      apply rgd_ev
      · intro a w hR hC hf
        obtain ⟨e27, e35, -⟩ := hf
        replace e27 : a.tmps.getD 27 undef = _ := e27
        replace e35 : a.tmps.getD 35 undef = _ := e35
        refine rg_plain rfl fun K hK => ?_
        go_simp
        exact hK _ _ rfl ⟨hRr _, Only.refl _ _, fun _ _ _ _ h => h⟩
      -- 26: s37 := move t0
      apply rgd_ev
      · intro a w hR hC hf
        obtain ⟨e0, -⟩ := hf
        replace e0 : a.tmps.getD 0 undef = _ := e0
        refine rg_plain rfl fun K hK => ?_
        go_simp
        exact hK _ _ rfl ⟨hRr _, Only.refl _ _, fun _ _ _ _ h => h⟩
      -- 27: s38 := move t4
      apply rgd_ev
      · intro a w hR hC hf
        obtain ⟨e4, -⟩ := hf
        replace e4 : a.tmps.getD 4 undef = _ := e4
        refine rg_plain rfl fun K hK => ?_
        go_simp
        exact hK _ _ rfl ⟨hRr _, Only.refl _ _, fun _ _ _ _ h => h⟩
      -- 28: s39 := binOp Binmul 3 (const (4:i64)) t38 3
      apply rgd_ev
      · intro a w hR hC hf
        obtain ⟨e38, -⟩ := hf
        replace e38 : a.tmps.getD 38 undef = _ := e38
        refine rg_plain rfl fun K hK => ?_
        have hw := IntWalk.i64_in (4 * (j : Int)) (by omega)
        go_simp
        exact hK _ _ rfl ⟨hRr _, Only.refl _ _, fun _ _ _ _ h => h⟩
      -- 29: s40 := binOp Binadd 3 t39 (const (3:i64)) 3
      apply rgd_ev
      · intro a w hR hC hf
        obtain ⟨e39, -⟩ := hf
        replace e39 : a.tmps.getD 39 undef = _ := e39
        refine rg_plain rfl fun K hK => ?_
        have hw := IntWalk.i64_in (4 * (j : Int) + 3) (by omega)
        go_simp
        exact hK _ _ rfl ⟨hRr _, Only.refl _ _, fun _ _ _ _ h => h⟩
      -- 30: s41 := indexAddr 22 t37 t40
      apply rgd_ev
      · intro a w hR hC hf
        obtain ⟨e37, e40, -⟩ := hf
        replace e37 : a.tmps.getD 37 undef = _ := e37
        replace e40 : a.tmps.getD 40 undef = _ := e40
        refine rg_plain rfl fun K hK => ?_
        have hi1 : (0 : Int) ≤ 4 * (j : Int) + 3 := by omega
        have hi2 : 4 * (j : Int) + 3 < 64 := by omega
        have hi3 : (4 * (j : Int) + 3).toNat = 4 * j + 3 := by omega
        go_simp
        exact hK _ _ rfl ⟨hRr _, Only.refl _ _, fun _ _ _ _ h => h⟩
      -- 31: s42 := load 5 t41
      apply rgd_ev
      · intro a w hR hC hf
        obtain ⟨e41, -⟩ := hf
        replace e41 : a.tmps.getD 41 undef = _ := e41
        refine rg_plain rfl fun K hK => ?_
        have hl := hR.cell hc3 (by simp; omega)
        go_simp
        exact hK _ _ rfl ⟨hRr _, Only.refl _ _, fun _ _ _ _ h => h⟩
      -- 32: s43 := convert 5 57 t42
      apply rgd_ev
      · intro a w hR hC hf
        obtain ⟨e42, -⟩ := hf
        replace e42 : a.tmps.getD 42 undef = _ := e42
        refine rg_plain rfl fun K hK => ?_
        go_simp
        exact hK _ _ rfl ⟨hRr _, Only.refl _ _, fun _ _ _ _ h => h⟩
      -- 33: s44 := binOp Binor 57 t36 t43 57
      apply rgd_ev
      · intro a w hR hC hf
        obtain ⟨e36, e43, -⟩ := hf
        replace e36 : a.tmps.getD 36 undef = _ := e36
        replace e43 : a.tmps.getD 43 undef = _ := e43
        refine rg_plain rfl fun K hK => ?_
        go_simp
        exact hK _ _ rfl ⟨hRr _, Only.refl _ _, fun _ _ _ _ h => h⟩
      -- 34: s45 := indexAddr 79 t3 t11
      apply rgd_ev
      · intro a w hR hC hf
        obtain ⟨e3, e11, -⟩ := hf
        replace e3 : a.tmps.getD 3 undef = _ := e3
        replace e11 : a.tmps.getD 11 undef = _ := e11
        refine rg_plain rfl fun K hK => ?_
        have hji : (j : Int) < 64 := by omega
        go_simp
        exact hK _ _ rfl ⟨hRr _, Only.refl _ _, fun _ _ _ _ h => h⟩
      -- 35: sNone := store 57 t45 t44
      refine ⟨fun _ a => Row a (ww.heap.size + 1) 227 (u32s (fillR S (j + 1))), stands_of (fun _ _ _ h ho => h.only0 ho) (by intro x hx hk; obtain rfl := List.mem_singleton.1 hx; simp at hk), fun a w hR hC hf => ?_, ?_⟩
      · obtain ⟨e45, e44, -⟩ := hf
        replace e45 : a.tmps.getD 45 undef = _ := e45
        replace e44 : a.tmps.getD 44 undef = _ := e44
        refine rg_plain rfl fun K hK => ?_
        have hC35 := hC 35 (by simp) (by kernel_rfl)
        obtain ⟨y, hy⟩ : ∃ y, (fillR S j)[j]? = some y := ⟨_, List.getElem?_eq_getElem (by rw [fillR_len S HlS.out j (by omega)]; omega)⟩
        have hcc := hC35.cell (u32s_get hy)
        have hff := hC35.free j
        have hwd := word_cells x0 x1 x2 x3
        go_simp
        have hst : Only [ww.heap.size + 1] w (w.setCell ⟨ww.heap.size + 1, j, none⟩ (u32v (word x0 x1 x2 x3))) := Only.setCell w ⟨ww.heap.size + 1, j, none⟩ _
        refine hK undef _ ?_ ⟨hst, hst, fun i hi hne ha _ => absurd (List.mem_singleton.1 hi) hne⟩
        rw [← fillR_set S HlS.out HS.out, ← u32s_set]
        exact hC35.setCell j (u32v (word x0 x1 x2 x3))
      intro f5 w5 hR5 hf hz5
      dsimp only [mergeT]
      -- r5>>
      obtain ⟨v35, r35⟩ := hz5 _ (List.mem_cons_self ..)
      go_wp2_with fail
      go_roundw
      case rel => exact ⟨j + 1, by go_num, by omega, Lib.hid (R2.out.only hR5 (by simp)), Lib.hid r35, ho.transN hR5 (by simp)⟩
      case measure => simp [intOf]; omega
    · obtain rfl : j = 16 := by omega
      clear hyc hx
      go_wp2_with fail
      go_loopw [5] (fun i wq => ∃ t : Nat, i = .int .i64 (t : Int) ∧ 16 ≤ t ∧ t ≤ 64 ∧ Hid (Row wq ww.heap.size 227 (u32s Z)) ∧ Hid (Row wq (ww.heap.size + 1) 227 (u32s (fillR S t))) ∧ Only [] ww wq) (fun i _ => 64 - (intOf i).toNat)
      case atStart => exact ⟨16, rfl, by omega, by omega, R2, R3, ho⟩
      case round =>
        clear R2 R3 ho
        obtain ⟨t, rfl, h16, h64, R2, R3, ho⟩ := hrel
        by_cases hlt : t < 64
        · have hg : ∀ k, k < t → ∃ x, S[k]? = some x ∧ wr.cell? ⟨ww.heap.size + 1, k, none⟩ = some (.int .u32 (x.toNat : Int)) := fun k hk => by
            have hkl : k < S.length := by rw [HlS.out]; omega
            refine ⟨S[k], List.getElem?_eq_getElem hkl, R3.out.cell (u32s_get ?_)⟩
            rw [fillR_get S HlS.out hk, List.getElem?_eq_getElem hkl]
          obtain ⟨x16, s16, c16⟩ := hg (t - 16) (by omega)
          obtain ⟨x15, s15, c15⟩ := hg (t - 15) (by omega)
          obtain ⟨x7, s7, c7⟩ := hg (t - 7) (by omega)
          obtain ⟨x2, s2, c2⟩ := hg (t - 2) (by omega)
          have hnx := Hhi.out t _ _ _ _ h16 hlt s16 s15 s7 s2
          obtain ⟨xn, hxn⟩ : ∃ x, x = x16 + sig0 x15 + x7 + sig1 x2 := ⟨_, rfl⟩
          rw [← hxn] at hnx
          have Hxn := Lib.hid hxn
          have HS := Lib.hid hnx
          have S16 := Lib.hid s16
          have S7 := Lib.hid s7
          clear hnx hxn hg s16 s15 s7 s2
          go_wp2_with fail
          -- <<r10
          refine wp_region_rg2 (Only []) [[(5, none)], [(51, some 0)], [(3, none), (52, some 0)], [(53, some 0)], [(5, none)], [(55, some 0)], [(3, none), (56, some 0)], [(57, some 0)], [(54, some 4)], [(58, some 1)]] [(6, 1), (7, 0)] [none, none, none, none, none, none, some 6, some 7, none, none, none, none, none, none, none, none, none, none, none, none, none, none, none, none, none, none, none, none, none, none, none, none, none, none, none, none, none, none, none, none, none, none, none, none, none, none, none, none, none, none, none, some 51, some 52, some 53, some 54, some 55, some 56, some 57, some 58, none, none, none, none, none, none, none, none, none, none, none, none, none, none, none, none, none, none, none, none, none, none, none, none, none, none, none, none, none, none] (by kernel_rfl) rfl (by kernel_rfl) (fun _ => Only.refl _ _) (fun _ _ _ h k => h.trans0 k) (Only.drew _) (by kernel_rfl) ?_
          -- 0: s51 := move t5
          apply rg_ev
          · intro a w hR hf
            obtain ⟨e5, -⟩ := hf
            replace e5 : a.tmps.getD 5 undef = _ := e5
            refine rg_plain rfl fun K hK => ?_
            go_simp
            exact hK _ _ rfl (Only.refl _ _)
          -- 1: s52 := binOp Binsub 3 t51 (const (15:i64)) 3
          apply rg_ev
          · intro a w hR hf
            obtain ⟨e51, -⟩ := hf
            replace e51 : a.tmps.getD 51 undef = _ := e51
            refine rg_plain rfl fun K hK => ?_
            have hw := IntWalk.i64_in ((t : Int) - 15) (by omega)
            go_simp
            exact hK _ _ rfl (Only.refl _ _)
          -- 2: s53 := indexAddr 79 t3 t52
          apply rg_ev
          · intro a w hR hf
            obtain ⟨e3, e52, -⟩ := hf
            replace e3 : a.tmps.getD 3 undef = _ := e3
            replace e52 : a.tmps.getD 52 undef = _ := e52
            refine rg_plain rfl fun K hK => ?_
            have hi1 : (0 : Int) ≤ (t : Int) - 15 := by omega
            have hi2 : (t : Int) - 15 < 64 := by omega
            have hi3 : ((t : Int) - 15).toNat = t - 15 := by omega
            have hi4 : (15 : Int) ≤ (t : Int) := by omega
            go_simp
            exact hK _ _ rfl (Only.refl _ _)
          -- 3: s54 := load 57 t53
          apply rg_ev
          · intro a w hR hf
            obtain ⟨e53, -⟩ := hf
            replace e53 : a.tmps.getD 53 undef = _ := e53
            refine rg_plain rfl fun K hK => ?_
            have hl := hR.cell c15 (by simp)
            go_simp
            exact hK _ _ rfl (Only.refl _ _)
          -- 4: s55 := move t5
          apply rg_ev
          · intro a w hR hf
            obtain ⟨e5, -⟩ := hf
            replace e5 : a.tmps.getD 5 undef = _ := e5
            refine rg_plain rfl fun K hK => ?_
            go_simp
            exact hK _ _ rfl (Only.refl _ _)
          -- 5: s56 := binOp Binsub 3 t55 (const (2:i64)) 3
          apply rg_ev
          · intro a w hR hf
            obtain ⟨e55, -⟩ := hf
            replace e55 : a.tmps.getD 55 undef = _ := e55
            refine rg_plain rfl fun K hK => ?_
            have hw := IntWalk.i64_in ((t : Int) - 2) (by omega)
            go_simp
            exact hK _ _ rfl (Only.refl _ _)
          -- 6: s57 := indexAddr 79 t3 t56
          apply rg_ev
          · intro a w hR hf
            obtain ⟨e3, e56, -⟩ := hf
            replace e3 : a.tmps.getD 3 undef = _ := e3
            replace e56 : a.tmps.getD 56 undef = _ := e56
            refine rg_plain rfl fun K hK => ?_
            have hi1 : (0 : Int) ≤ (t : Int) - 2 := by omega
            have hi2 : (t : Int) - 2 < 64 := by omega
            have hi3 : ((t : Int) - 2).toNat = t - 2 := by omega
            have hi4 : (2 : Int) ≤ (t : Int) := by omega
            go_simp
            exact hK _ _ rfl (Only.refl _ _)
          -- 7: s58 := load 57 t57
          apply rg_ev
          · intro a w hR hf
            obtain ⟨e57, -⟩ := hf
            replace e57 : a.tmps.getD 57 undef = _ := e57
            refine rg_plain rfl fun K hK => ?_
            have hl := hR.cell c2 (by simp)
            go_simp
            exact hK _ _ rfl (Only.refl _ _)
          -- 8: s6 := assign t54
          apply rg_ev
          · intro a w hR hf
            obtain ⟨e54, -⟩ := hf
            replace e54 : a.tmps.getD 54 undef = _ := e54
            refine rg_plain rfl fun K hK => ?_
            go_simp
            exact hK _ _ rfl (Only.refl _ _)
          -- 9: s7 := assign t58
          apply rg_ev
          · intro a w hR hf
            obtain ⟨e58, -⟩ := hf
            replace e58 : a.tmps.getD 58 undef = _ := e58
            refine rg_plain rfl fun K hK => ?_
            go_simp
            exact hK _ _ rfl (Only.refl _ _)
          intro f10 w10 hR10 hf
          dsimp only [mergeT]
          obtain ⟨e6, e7, -⟩ := hf
          replace e6 : f10 6 = _ := e6
          rw [e6]
          replace e7 : f10 7 = _ := e7
          rw [e7]
          -- r10>>
          go_wp2_with fail
          have k16f : ∀ a, Row a (ww.heap.size + 1) 227 (u32s (fillR S t)) → a.cell? ⟨ww.heap.size + 1, t - 16, none⟩ = some (.int .u32 (x16.toNat : Int)) := fun a h => h.cell (u32s_get (by rw [fillR_get S HlS.out (by omega)]; exact S16.out))
          have k7f : ∀ a, Row a (ww.heap.size + 1) 227 (u32s (fillR S t)) → a.cell? ⟨ww.heap.size + 1, t - 7, none⟩ = some (.int .u32 (x7.toNat : Int)) := fun a h => h.cell (u32s_get (by rw [fillR_get S HlS.out (by omega)]; exact S7.out))
          have hRr : ∀ a, Only [ww.heap.size + 1] a a := fun a => Only.refl _ _
          have hRt : ∀ a b e, Only [ww.heap.size + 1] a b → Only [ww.heap.size + 1] b e → Only [ww.heap.size + 1] a e := fun a b e h h2 => h.trans h2 (fun i hi _ => hi)
          have hRd : Only [ww.heap.size + 1] w10 w10.drew := (Only.drew _).mono (by simp)
          have hC0 : ∀ i ∈ [29], (fun (_ : Nat) (a : World) => Row a (ww.heap.size + 1) 227 (u32s (fillR S t))) i w10.drew := fun _ _ => (R3.out.only0 hR10).only0 (Only.drew _)
          -- <<r11
          refine wp_region_rg4 (Only [ww.heap.size + 1]) (Dirt [(29, [ww.heap.size + 1])]) (fun (_ : Nat) (a : World) => Row a (ww.heap.size + 1) 227 (u32s (fillR S t))) [29] [[(5, none)], [(5, none)], [(60, some 0)], [(3, none), (61, some 0)], [(62, some 0)], [(6, none)], [(64, some 0)], [(6, none)], [(66, some 0)], [(65, some 2), (67, some 0)], [(6, none)], [(69, some 0)], [(68, some 2), (70, some 0)], [(63, some 8), (71, some 0)], [(5, none)], [(73, some 0)], [(3, none), (74, some 0)], [(75, some 0)], [(72, some 4), (76, some 0)], [(7, none)], [(78, some 0)], [(7, none)], [(80, some 0)], [(79, some 2), (81, some 0)], [(7, none)], [(83, some 0)], [(82, some 2), (84, some 0)], [(77, some 8), (85, some 0)], [(3, none), (59, some 27)], [(87, some 0), (86, some 1)]] [] [none, none, none, none, none, none, none, none, none, none, none, none, none, none, none, none, none, none, none, none, none, none, none, none, none, none, none, none, none, none, none, none, none, none, none, none, none, none, none, none, none, none, none, none, none, none, none, none, none, none, none, none, none, none, none, none, none, none, none, some 59, some 60, some 61, some 62, some 63, some 64, some 65, some 66, some 67, some 68, some 69, some 70, some 71, some 72, some 73, some 74, some 75, some 76, some 77, some 78, some 79, some 80, some 81, some 82, some 83, some 84, some 85, some 86, some 87, none] (by kernel_rfl) rfl (by kernel_rfl) hRr hRt (fun _ _ => Only.refl _ _) hRd hC0 (by kernel_rfl) (by kernel_rfl) ?_
          -- 0: s59 := move t5
          apply rgd_ev
          · intro a w hR hC hf
            obtain ⟨e5, -⟩ := hf
            replace e5 : a.tmps.getD 5 undef = _ := e5
            refine rg_plain rfl fun K hK => ?_
            go_simp
            exact hK _ _ rfl ⟨hRr _, Only.refl _ _, fun _ _ _ _ h => h⟩
          -- 1: s60 := move t5
          apply rgd_ev
          · intro a w hR hC hf
            obtain ⟨e5, -⟩ := hf
            replace e5 : a.tmps.getD 5 undef = _ := e5
            refine rg_plain rfl fun K hK => ?_
            go_simp
            exact hK _ _ rfl ⟨hRr _, Only.refl _ _, fun _ _ _ _ h => h⟩
          -- 2: s61 := binOp Binsub 3 t60 (const (16:i64)) 3
          apply rgd_ev
          · intro a w hR hC hf
            obtain ⟨e60, -⟩ := hf
            replace e60 : a.tmps.getD 60 undef = _ := e60
            refine rg_plain rfl fun K hK => ?_
            have hw := IntWalk.i64_in ((t : Int) - 16) (by omega)
            go_simp
            exact hK _ _ rfl ⟨hRr _, Only.refl _ _, fun _ _ _ _ h => h⟩
          -- 3: s62 := indexAddr 79 t3 t61
          apply rgd_ev
          · intro a w hR hC hf
            obtain ⟨e3, e61, -⟩ := hf
            replace e3 : a.tmps.getD 3 undef = _ := e3
            replace e61 : a.tmps.getD 61 undef = _ := e61
            refine rg_plain rfl fun K hK => ?_
            have hi1 : (0 : Int) ≤ (t : Int) - 16 := by omega
            have hi2 : (t : Int) - 16 < 64 := by omega
            have hi3 : ((t : Int) - 16).toNat = t - 16 := by omega
            have hi4 : (16 : Int) ≤ (t : Int) := by omega
            go_simp
            exact hK _ _ rfl ⟨hRr _, Only.refl _ _, fun _ _ _ _ h => h⟩
          -- 4: s63 := load 57 t62
          apply rgd_ev
          · intro a w hR hC hf
            obtain ⟨e62, -⟩ := hf
            replace e62 : a.tmps.getD 62 undef = _ := e62
            refine rg_plain rfl fun K hK => ?_
            have hl := k16f w ((hC 29 (by simp) (by kernel_rfl)))
            go_simp
            exact hK _ _ rfl ⟨hRr _, Only.refl _ _, fun _ _ _ _ h => h⟩
          -- 5: s64 := move t6
          apply rgd_ev
          · intro a w hR hC hf
            obtain ⟨e6, -⟩ := hf
            replace e6 : a.tmps.getD 6 undef = _ := e6
            refine rg_plain rfl fun K hK => ?_
            go_simp
            exact hK _ _ rfl ⟨hRr _, Only.refl _ _, fun _ _ _ _ h => h⟩
          -- 6: s65 := call { value (Operand.func 45), args := #[t64, const (7:i64)], #[57, 3] }
          apply rgd_ev
          · intro a w hR hC hf
            obtain ⟨e64, -⟩ := hf
            replace e64 : a.tmps.getD 64 undef = _ := e64
            refine rg_plain rfl fun K hK => ?_
            go_simp
            (with_reducible refine (rot_any x15 7 (by simp) 7 rfl _ rfl w).mono ?_)
            rintro e w' ⟨rfl, rfl⟩
            exact hK _ _ rfl ⟨hRr _, Only.refl _ _, fun _ _ _ _ h => h⟩
          -- 7: s66 := move t6
          apply rgd_ev
          · intro a w hR hC hf
            obtain ⟨e6, -⟩ := hf
            replace e6 : a.tmps.getD 6 undef = _ := e6
            refine rg_plain rfl fun K hK => ?_
            go_simp
            exact hK _ _ rfl ⟨hRr _, Only.refl _ _, fun _ _ _ _ h => h⟩
          -- 8: s67 := call { value (Operand.func 45), args := #[t66, const (18:i64)], #[57, 3] }
          apply rgd_ev
          · intro a w hR hC hf
            obtain ⟨e66, -⟩ := hf
            replace e66 : a.tmps.getD 66 undef = _ := e66
            refine rg_plain rfl fun K hK => ?_
            go_simp
            (with_reducible refine (rot_any x15 18 (by simp) 18 rfl _ rfl w).mono ?_)
            rintro e w' ⟨rfl, rfl⟩
            exact hK _ _ rfl ⟨hRr _, Only.refl _ _, fun _ _ _ _ h => h⟩
          -- 9: s68 := binOp Binxor 57 t65 t67 57
          apply rgd_ev
          · intro a w hR hC hf
            obtain ⟨e65, e67, -⟩ := hf
            replace e65 : a.tmps.getD 65 undef = _ := e65
            replace e67 : a.tmps.getD 67 undef = _ := e67
            refine rg_plain rfl fun K hK => ?_
            go_simp
            exact hK _ _ rfl ⟨hRr _, Only.refl _ _, fun _ _ _ _ h => h⟩
          -- 10: s69 := move t6
          apply rgd_ev
          · intro a w hR hC hf
            obtain ⟨e6, -⟩ := hf
            replace e6 : a.tmps.getD 6 undef = _ := e6
            refine rg_plain rfl fun K hK => ?_
            go_simp
            exact hK _ _ rfl ⟨hRr _, Only.refl _ _, fun _ _ _ _ h => h⟩
          -- 11: s70 := binOp Binshr 57 t69 (const (3:u64)) 61
          apply rgd_ev
          · intro a w hR hC hf
            obtain ⟨e69, -⟩ := hf
            replace e69 : a.tmps.getD 69 undef = _ := e69
            refine rg_plain rfl fun K hK => ?_
            go_simp
            exact hK _ _ rfl ⟨hRr _, Only.refl _ _, fun _ _ _ _ h => h⟩
          -- 12: s71 := binOp Binxor 57 t68 t70 57
          apply rgd_ev
          · intro a w hR hC hf
            obtain ⟨e68, e70, -⟩ := hf
            replace e68 : a.tmps.getD 68 undef = _ := e68
            replace e70 : a.tmps.getD 70 undef = _ := e70
            refine rg_plain rfl fun K hK => ?_
            go_simp
            exact hK _ _ rfl ⟨hRr _, Only.refl _ _, fun _ _ _ _ h => h⟩
          -- 13: s72 := binOp Binadd 57 t63 t71 57
          apply rgd_ev
          · intro a w hR hC hf
            obtain ⟨e63, e71, -⟩ := hf
            replace e63 : a.tmps.getD 63 undef = _ := e63
            replace e71 : a.tmps.getD 71 undef = _ := e71
            refine rg_plain rfl fun K hK => ?_
            go_simp
            exact hK _ _ rfl ⟨hRr _, Only.refl _ _, fun _ _ _ _ h => h⟩
          -- 14: s73 := move t5
          apply rgd_ev
          · intro a w hR hC hf
            obtain ⟨e5, -⟩ := hf
            replace e5 : a.tmps.getD 5 undef = _ := e5
            refine rg_plain rfl fun K hK => ?_
            go_simp
            exact hK _ _ rfl ⟨hRr _, Only.refl _ _, fun _ _ _ _ h => h⟩
          -- 15: s74 := binOp Binsub 3 t73 (const (7:i64)) 3
          apply rgd_ev
          · intro a w hR hC hf
            obtain ⟨e73, -⟩ := hf
            replace e73 : a.tmps.getD 73 undef = _ := e73
            refine rg_plain rfl fun K hK => ?_
            have hw := IntWalk.i64_in ((t : Int) - 7) (by omega)
            go_simp
            exact hK _ _ rfl ⟨hRr _, Only.refl _ _, fun _ _ _ _ h => h⟩
          -- 16: s75 := indexAddr 79 t3 t74
          apply rgd_ev
          · intro a w hR hC hf
            obtain ⟨e3, e74, -⟩ := hf
            replace e3 : a.tmps.getD 3 undef = _ := e3
            replace e74 : a.tmps.getD 74 undef = _ := e74
            refine rg_plain rfl fun K hK => ?_
            have hi1 : (0 : Int) ≤ (t : Int) - 7 := by omega
            have hi2 : (t : Int) - 7 < 64 := by omega
            have hi3 : ((t : Int) - 7).toNat = t - 7 := by omega
            have hi4 : (7 : Int) ≤ (t : Int) := by omega
            go_simp
            exact hK _ _ rfl ⟨hRr _, Only.refl _ _, fun _ _ _ _ h => h⟩
          -- 17: s76 := load 57 t75
          apply rgd_ev
          · intro a w hR hC hf
            obtain ⟨e75, -⟩ := hf
            replace e75 : a.tmps.getD 75 undef = _ := e75
            refine rg_plain rfl fun K hK => ?_
            have hl := k7f w ((hC 29 (by simp) (by kernel_rfl)))
            go_simp
            exact hK _ _ rfl ⟨hRr _, Only.refl _ _, fun _ _ _ _ h => h⟩
          -- 18: s77 := binOp Binadd 57 t72 t76 57
          apply rgd_ev
          · intro a w hR hC hf
            obtain ⟨e72, e76, -⟩ := hf
            replace e72 : a.tmps.getD 72 undef = _ := e72
            replace e76 : a.tmps.getD 76 undef = _ := e76
            refine rg_plain rfl fun K hK => ?_
            go_simp
            exact hK _ _ rfl ⟨hRr _, Only.refl _ _, fun _ _ _ _ h => h⟩
          -- 19: s78 := move t7
          apply rgd_ev
          · intro a w hR hC hf
            obtain ⟨e7, -⟩ := hf
            replace e7 : a.tmps.getD 7 undef = _ := e7
            refine rg_plain rfl fun K hK => ?_
            go_simp
            exact hK _ _ rfl ⟨hRr _, Only.refl _ _, fun _ _ _ _ h => h⟩
          -- 20: s79 := call { value (Operand.func 45), args := #[t78, const (17:i64)], #[57, 3] }
          apply rgd_ev
          · intro a w hR hC hf
            obtain ⟨e78, -⟩ := hf
            replace e78 : a.tmps.getD 78 undef = _ := e78
            refine rg_plain rfl fun K hK => ?_
            go_simp
            (with_reducible refine (rot_any x2 17 (by simp) 17 rfl _ rfl w).mono ?_)
            rintro e w' ⟨rfl, rfl⟩
            exact hK _ _ rfl ⟨hRr _, Only.refl _ _, fun _ _ _ _ h => h⟩
          -- 21: s80 := move t7
          apply rgd_ev
          · intro a w hR hC hf
            obtain ⟨e7, -⟩ := hf
            replace e7 : a.tmps.getD 7 undef = _ := e7
            refine rg_plain rfl fun K hK => ?_
            go_simp
            exact hK _ _ rfl ⟨hRr _, Only.refl _ _, fun _ _ _ _ h => h⟩
          -- 22: s81 := call { value (Operand.func 45), args := #[t80, const (19:i64)], #[57, 3] }
          apply rgd_ev
          · intro a w hR hC hf
            obtain ⟨e80, -⟩ := hf
            replace e80 : a.tmps.getD 80 undef = _ := e80
            refine rg_plain rfl fun K hK => ?_
            go_simp
            (with_reducible refine (rot_any x2 19 (by simp) 19 rfl _ rfl w).mono ?_)
            rintro e w' ⟨rfl, rfl⟩
            exact hK _ _ rfl ⟨hRr _, Only.refl _ _, fun _ _ _ _ h => h⟩
          -- 23: s82 := binOp Binxor 57 t79 t81 57
          apply rgd_ev
          · intro a w hR hC hf
            obtain ⟨e79, e81, -⟩ := hf
            replace e79 : a.tmps.getD 79 undef = _ := e79
            replace e81 : a.tmps.getD 81 undef = _ := e81
            refine rg_plain rfl fun K hK => ?_
            go_simp
            exact hK _ _ rfl ⟨hRr _, Only.refl _ _, fun _ _ _ _ h => h⟩
          -- 24: s83 := move t7
          apply rgd_ev
          · intro a w hR hC hf
            obtain ⟨e7, -⟩ := hf
            replace e7 : a.tmps.getD 7 undef = _ := e7
            refine rg_plain rfl fun K hK => ?_
            go_simp
            exact hK _ _ rfl ⟨hRr _, Only.refl _ _, fun _ _ _ _ h => h⟩
          -- 25: s84 := binOp Binshr 57 t83 (const (10:u64)) 61
          apply rgd_ev
          · intro a w hR hC hf
            obtain ⟨e83, -⟩ := hf
            replace e83 : a.tmps.getD 83 undef = _ := e83
            refine rg_plain rfl fun K hK => ?_
            go_simp
            exact hK _ _ rfl ⟨hRr _, Only.refl _ _, fun _ _ _ _ h => h⟩
          -- 26: s85 := binOp Binxor 57 t82 t84 57
          apply rgd_ev
          · intro a w hR hC hf
            obtain ⟨e82, e84, -⟩ := hf
            replace e82 : a.tmps.getD 82 undef = _ := e82
            replace e84 : a.tmps.getD 84 undef = _ := e84
            refine rg_plain rfl fun K hK => ?_
            go_simp
            exact hK _ _ rfl ⟨hRr _, Only.refl _ _, fun _ _ _ _ h => h⟩
          -- 27: s86 := binOp Binadd 57 t77 t85 57
          apply rgd_ev
          · intro a w hR hC hf
            obtain ⟨e77, e85, -⟩ := hf
            replace e77 : a.tmps.getD 77 undef = _ := e77
            replace e85 : a.tmps.getD 85 undef = _ := e85
            refine rg_plain rfl fun K hK => ?_
            go_simp
            exact hK _ _ rfl ⟨hRr _, Only.refl _ _, fun _ _ _ _ h => h⟩
          -- 28: s87 := indexAddr 79 t3 t59
          apply rgd_ev
          · intro a w hR hC hf
            obtain ⟨e3, e59, -⟩ := hf
            replace e3 : a.tmps.getD 3 undef = _ := e3
            replace e59 : a.tmps.getD 59 undef = _ := e59
            refine rg_plain rfl fun K hK => ?_
            have hji : (t : Int) < 64 := by omega
            go_simp
            exact hK _ _ rfl ⟨hRr _, Only.refl _ _, fun _ _ _ _ h => h⟩
          -- 29: sNone := store 57 t87 t86
          refine ⟨fun _ a => Row a (ww.heap.size + 1) 227 (u32s (fillR S (t + 1))), stands_of (fun _ _ _ h ho => h.only0 ho) (by intro x hx hk; obtain rfl := List.mem_singleton.1 hx; simp at hk), fun a w hR hC hf => ?_, ?_⟩
          · obtain ⟨e87, e86, -⟩ := hf
            replace e87 : a.tmps.getD 87 undef = _ := e87
            replace e86 : a.tmps.getD 86 undef = _ := e86
            refine rg_plain rfl fun K hK => ?_
            have hC29 := hC 29 (by simp) (by kernel_rfl)
            obtain ⟨y, hy⟩ : ∃ y, (fillR S t)[t]? = some y := ⟨_, List.getElem?_eq_getElem (by rw [fillR_len S HlS.out t (by omega)]; omega)⟩
            have hcc := hC29.cell (u32s_get hy)
            have hff := hC29.free t
            have hwd := (next_cells x16 x15 x7 x2).trans (congrArg (fun z : UInt32 => (z.toNat : Int)) Hxn.out.symm)
            go_simp
            have hst : Only [ww.heap.size + 1] w (w.setCell ⟨ww.heap.size + 1, t, none⟩ (u32v xn)) := Only.setCell w ⟨ww.heap.size + 1, t, none⟩ _
            refine hK undef _ ?_ ⟨hst, hst, fun i hi hne ha _ => absurd (List.mem_singleton.1 hi) hne⟩
            rw [← fillR_set S HlS.out HS.out, ← u32s_set]
            exact hC29.setCell t (u32v xn)
          intro f11 w11 hR11 hf hz11
          dsimp only [mergeT]
          -- r11>>
          obtain ⟨v29, r29⟩ := hz11 _ (List.mem_cons_self ..)
          go_wp2_with fail
          go_roundw
          case rel => exact ⟨t + 1, by go_num, by omega, by omega, Lib.hid ((R2.out.only0 hR10).only hR11 (by simp)), Lib.hid r29, (ho.trans0 hR10).transN hR11 (by simp)⟩
          case measure => simp [intOf]; omega
        · obtain rfl : t = 64 := by omega
          have r3 := R3.out
          have hfull : fillR S 64 = S := by unfold fillR; rw [List.take_of_length_le (by rw [HlS.out]; exact Nat.le_refl _)]; simp
          rw [hfull] at r3
          have hsz : (Tryd.prog.info? 227).map (·.size) = some (u32s S).length := by rw [u32s_length, HlS.out]; kernel_rfl
          have hld := r3.loadAt (P := Tryd.prog) Tryd.underlying227 hsz
          have hst := R2.out.storeAt (P := Tryd.prog) hsz (by rw [u32s_length, u32s_length, HlS.out, HZ.out]; simp) (fun u hu => u32s_one hu)
          have hrow := R2.out.setRow (u32s S)
          have hos : Only [ww.heap.size] wr (wr.setRow ww.heap.size (u32s S).toArray) := Only.setRow _ _ _
          have Hrow := Lib.hid hrow
          have Hld := Lib.hid hld
          have Hst := Lib.hid hst
          clear hld hst
          have Hsz := Lib.hid hsz
          clear hfull hsz hrow r3 R2 R3
          go_wp2_with (first | ((with_reducible show wpList _ _ _ _ _ _); refine wpl_load (ty := 227) (x := .tmp 3) rfl rfl rfl Hld.out ?_) | ((with_reducible show wpList _ _ _ _ _ _); refine wpl_store (ty := 227) (x := .tmp 2) (y := .tmp 88) rfl rfl rfl rfl Hst.out ?_))
          refine bodyPost_ret (results_cell_row (p := 2) rfl _ _ ww.heap.size 227 (u32s S).toArray (0, 0) _ (by rfl) Hrow.out Tryd.underlying227 rfl (by simpa using Hsz.out)) (by rfl) ?_
          exact ⟨rfl, ho.transN hos (by simp)⟩
end Go.Proofs.YtfoplbolbjcggaaDoor
end
section
set_option linter.unusedVariables false
namespace Go.Proofs.YtfoplbolbjcggaaDoor
open Go.RowKit

theorem wpl_build {P : Program} {ops : Array Oper} {rest : List Oper} {o : Oper} {a : Act} {Q : Exit → Act → World → Prop} {w : World} {t : TypeId} {parts : Array (Nat × Operand)} {cells : Array Value} (hg : o.guard = none) (ho : o.op = .build t parts)
    (hb : P.built t (parts.map fun (i, x) => (i, a.eval x)).toList = some cells) (h : wpList P ops Q rest (a.put o.dst (.agg cells)) w) : wpList P ops Q (o :: rest) a w :=
  wpList_plain hg fun K hK => by
    refine wp_build t parts ho (by rw [hb]; rfl) ?_
    rw [hb]
    exact hK _ _ h
set_option maxRecDepth 100000 in
theorem start_any (ww : World) : Calls Tryd.prog 114 #[] ww fun e w' => e = .returned (.agg (u32s st0.l).toArray) ∧ Only [] ww w' := by
  have hsz : (Tryd.prog.info? 197).map (·.size) = some (u32s st0.l).length := by kernel_rfl
  have hrow := Row.new ww 197 (List.replicate 8 (.int .u32 0))
  have hst := hrow.storeAt (P := Tryd.prog) hsz rfl (fun u hu => u32s_one hu)
  have hrow2 := hrow.setRow (u32s st0.l)
  have hos : Only [ww.heap.size] (ww.alloc (.cells (List.replicate 8 (Value.int .u32 0)).toArray 197)) _ := Only.setRow _ ww.heap.size (u32s st0.l).toArray
  have Hst := Lib.hid hst
  have Hrow2 := Lib.hid hrow2
  have Hos := Lib.hid hos
  clear hst hrow hrow2 hos
  go_enter Tryd.func114, Tryd.ntmps114
  go_wp2_with (first | ((with_reducible show wpList _ _ _ _ _ _); refine wpl_build (t := 197) (cells := (u32s st0.l).toArray) rfl rfl (by kernel_rfl) ?_) | ((with_reducible show wpList _ _ _ _ _ _); refine wpl_store (ty := 197) (x := .tmp 0) (y := .tmp 1) rfl rfl rfl rfl Hst.out ?_))
  refine bodyPost_ret (results_cell_row (p := 0) rfl _ _ ww.heap.size 197 (u32s st0.l).toArray (0, 0) _ (by rfl) Hrow2.out Tryd.underlying197 rfl (by simpa using hsz)) (by rfl) ?_
  exact ⟨rfl, (Only.alloc ww _).transN Hos.out (by simp)⟩
set_option maxRecDepth 100000 in
theorem consts_any (ww : World) : Calls Tryd.prog 136 #[] ww fun e w' => e = .returned (.agg (u32s shaK).toArray) ∧ Only [] ww w' := by
  have hsz : (Tryd.prog.info? 227).map (·.size) = some (u32s shaK).length := by kernel_rfl
  have hrow := Row.new ww 227 (List.replicate 64 (.int .u32 0))
  have hst := hrow.storeAt (P := Tryd.prog) hsz rfl (fun u hu => u32s_one hu)
  have hrow2 := hrow.setRow (u32s shaK)
  have hos : Only [ww.heap.size] (ww.alloc (.cells (List.replicate 64 (Value.int .u32 0)).toArray 227)) _ := Only.setRow _ ww.heap.size (u32s shaK).toArray
  have Hst := Lib.hid hst
  have Hrow2 := Lib.hid hrow2
  have Hos := Lib.hid hos
  clear hst hrow hrow2 hos
  go_enter Tryd.func136, Tryd.ntmps136
  go_wp2_with (first | ((with_reducible show wpList _ _ _ _ _ _); refine wpl_build (t := 227) (cells := (u32s shaK).toArray) rfl rfl (by kernel_rfl) ?_) | ((with_reducible show wpList _ _ _ _ _ _); refine wpl_store (ty := 227) (x := .tmp 0) (y := .tmp 1) rfl rfl rfl rfl Hst.out ?_))
  refine bodyPost_ret (results_cell_row (p := 0) rfl _ _ ww.heap.size 227 (u32s shaK).toArray (0, 0) _ (by rfl) Hrow2.out Tryd.underlying227 rfl (by simpa using hsz)) (by rfl) ?_
  exact ⟨rfl, (Only.alloc ww _).transN Hos.out (by simp)⟩
end Go.Proofs.YtfoplbolbjcggaaDoor
end
section
set_option linter.unusedVariables false
namespace Go.Proofs.YtfoplbolbjcggaaDoor
open Go.RowKit

/-- the state while it is added to -/
def addR (A B : List UInt32) (i : Nat) : List UInt32 := (List.zipWith (· + ·) A B).take i ++ A.drop i
theorem addR_step {A B : List UInt32} (hA : A.length = 8) (hB : B.length = 8) {i : Nat} {x y : UInt32} (hx : A[i]? = some x) (hy : B[i]? = some y) : (addR A B i)[i]? = some x ∧ (addR A B i).set i (x + y) = addR A B (i + 1) := by
  have hi := (List.getElem?_eq_some_iff.1 hx).1
  have hl : ((List.zipWith (· + ·) A B).take i).length = i := by rw [List.length_take, List.length_zipWith]; omega
  have hz : (List.zipWith (· + ·) A B)[i]? = some (x + y) := by rw [List.getElem?_zipWith, hx, hy]
  have hd : A.drop i = x :: A.drop (i + 1) := by
    rw [List.drop_eq_getElem_cons hi]
    have := List.getElem?_eq_getElem hi
    rw [hx] at this
    rw [Option.some.inj this]
  unfold addR
  constructor
  · rw [List.getElem?_append_right (by omega), hl, Nat.sub_self, hd]; rfl
  · rw [List.set_append_right _ _ (by omega), hl, Nat.sub_self, hd, List.set_cons_zero, List.take_add_one, hz]; simp
theorem rnds_step : ∀ (s : St) (K S : List UInt32) (j : Nat) (k w : UInt32), K[j]? = some k → S[j]? = some w → rnds s (K.take (j + 1)) (S.take (j + 1)) = rnd (rnds s (K.take j) (S.take j)) k w
  | s, k' :: K, w' :: S, 0, k, w, h1, h2 => by
    simp at h1 h2; subst h1 h2; rfl
  | s, k' :: K, w' :: S, j + 1, k, w, h1, h2 => by
    simp only [List.getElem?_cons_succ] at h1 h2
    have := rnds_step (rnd s k' w') K S j k w h1 h2
    simp only [List.take_succ_cons, rnds]
    exact this
  | s, [], S, j, k, w, h1, h2 => by simp at h1
  | s, k' :: K, [], j, k, w, h1, h2 => by simp at h2
theorem u32_not (x : UInt32) : bits .xor .u32 (if IntKind.u32.signed = true then -1 else IntKind.u32.max) (x.toNat : Int) = ((~~~x).toNat : Int) := by
  have h : (if IntKind.u32.signed = true then -1 else IntKind.u32.max) = (((4294967295 : UInt32).toNat : Nat) : Int) := by decide
  rw [h, u32_xor_u32]
  congr 2
theorem t1_cells (h e f g k w : UInt32) : (((h.toNat : Int) + bits .xor .u32 (bits .xor .u32 ((rotr e 6).toNat : Int) ((rotr e 11).toNat : Int)) ((rotr e 25).toNat : Int) + bits .xor .u32 (bits .and .u32 (e.toNat : Int) (f.toNat : Int)) (bits .and .u32 (bits .xor .u32 (if IntKind.u32.signed = true then -1 else IntKind.u32.max) (e.toNat : Int)) (g.toNat : Int)) + (k.toNat : Int)) % 4294967296 + (w.toNat : Int)) % 4294967296 = ((h + big1 e + choose e f g + k + w).toNat : Int) := by
  rw [u32_not, u32_xor_u32, u32_xor_u32, u32_and_u32, u32_and_u32, u32_xor_u32]
  have h1 := u32_add_u32 h (big1 e)
  have h2 := u32_add_u32 (h + big1 e) (choose e f g)
  have h3 := u32_add_u32 (h + big1 e + choose e f g) k
  have h4 := u32_add_u32 (h + big1 e + choose e f g + k) w
  rw [← h4, ← h3, ← h2, ← h1]
  show (((h.toNat : Int) + ((big1 e).toNat : Int) + ((choose e f g).toNat : Int) + k.toNat) % 4294967296 + w.toNat) % 4294967296 = _
  omega
theorem u32_ones : (if IntKind.u32.signed = true then -1 else IntKind.u32.max) = (4294967295 : Int) := by decide
theorem t1_cells' (h e f g k w : UInt32) : (((h.toNat : Int) + bits .xor .u32 (bits .xor .u32 ((rotr e 6).toNat : Int) ((rotr e 11).toNat : Int)) ((rotr e 25).toNat : Int) + bits .xor .u32 (bits .and .u32 (e.toNat : Int) (f.toNat : Int)) (bits .and .u32 (bits .xor .u32 4294967295 (e.toNat : Int)) (g.toNat : Int)) + (k.toNat : Int)) % 4294967296 + (w.toNat : Int)) % 4294967296 = ((h + big1 e + choose e f g + k + w).toNat : Int) := by
  have := t1_cells h e f g k w
  rwa [u32_ones] at this
theorem t2_cells (a b c : UInt32) : (bits .xor .u32 (bits .xor .u32 ((rotr a 2).toNat : Int) ((rotr a 13).toNat : Int)) ((rotr a 22).toNat : Int) + bits .xor .u32 (bits .xor .u32 (bits .and .u32 (a.toNat : Int) (b.toNat : Int)) (bits .and .u32 (a.toNat : Int) (c.toNat : Int))) (bits .and .u32 (b.toNat : Int) (c.toNat : Int))) % 4294967296 = ((big0 a + most a b c).toNat : Int) := by
  rw [u32_xor_u32, u32_xor_u32, u32_and_u32, u32_and_u32, u32_and_u32, u32_xor_u32, u32_xor_u32, u32_add_u32]
  rfl
end Go.Proofs.YtfoplbolbjcggaaDoor
end
