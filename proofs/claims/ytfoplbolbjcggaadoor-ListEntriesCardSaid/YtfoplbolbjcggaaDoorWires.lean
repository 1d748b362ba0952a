/- Plain laws of a number's bytes. No program in sight; Bits of uint32 and uint64. No program in sight; The walks of package wire: the writer; The walks of wire.Seal and wire.Open; Plain laws of sums and seals: a sum with one byte changed is another sum. No program in sight but its sums; The walks of bollardref05: Sum, Seal, Open. -/
import Derived.Test.YtfoplbolbjcggaaDoorBase
import Derived.Test.YtfoplbolbjcggaaDoorProg
import Derived.Test.YtfoplbolbjcggaaDoorOwn
import Derived.Test.YtfoplbolbjcggaaDoorSlicesW
import Derived.Test.YtfoplbolbjcggaaDoorErrs
set_option linter.unusedVariables false
set_option maxRecDepth 100000
section
set_option linter.unusedVariables false
namespace Go.Proofs.YtfoplbolbjcggaaDoor
open Go.RowKit

/-- a number's bytes -/
def nb (n : Nat) : List UInt8 := if h : n < 128 then [UInt8.ofNat n] else UInt8.ofNat (n % 128 + 128) :: nb (n / 128)
termination_by n
decreasing_by omega
theorem nb_lo {n : Nat} (h : n < 128) : nb n = [UInt8.ofNat n] := by rw [nb, dif_pos h]
theorem nb_hi {n : Nat} (h : 128 ≤ n) : nb n = UInt8.ofNat (n % 128 + 128) :: nb (n / 128) := by rw [nb, dif_neg (by omega)]

theorem nb_pos (n : Nat) : 1 ≤ (nb n).length := by
  by_cases h : n < 128
  · rw [nb_lo h]; simp
  · rw [nb_hi (by omega)]; simp
theorem nb_len : ∀ (k n : Nat), n < 128 ^ (k + 1) → (nb n).length ≤ k + 1
  | 0, n, h => by rw [nb_lo (by simpa using h)]; simp
  | k + 1, n, h => by
    by_cases h1 : n < 128
    · rw [nb_lo h1]; simp
    · rw [nb_hi (by omega)]
      have := nb_len k (n / 128) (by rw [Nat.div_lt_iff_lt_mul (by omega)]; rw [Nat.pow_succ] at h; omega)
      simp; omega
theorem nb_len9 (n : Nat) (h : n < 9223372036854775808) : (nb n).length ≤ 9 := nb_len 8 n (by simpa using h)
theorem nb_mono : ∀ (b a : Nat), a ≤ b → (nb a).length ≤ (nb b).length := by
  intro b
  induction b using Nat.strongRecOn with
  | _ b ih =>
    intro a h
    by_cases ha : a < 128
    · rw [nb_lo ha]; exact nb_pos b
    · rw [nb_hi (by omega : 128 ≤ a), nb_hi (by omega : 128 ≤ b)]
      have := ih (b / 128) (by omega) (a / 128) (by omega)
      simp; omega
theorem nb_apart : ∀ (a b : Nat), a ≠ b → ∃ (i : Nat) (x y : UInt8), (nb a)[i]? = some x ∧ (nb b)[i]? = some y ∧ x ≠ y := by
  intro a
  induction a using Nat.strongRecOn with
  | _ a ih =>
    intro b h
    have e1 : ∀ k : Nat, k < 256 → (UInt8.ofNat k).toNat = k := fun k hk => by rw [UInt8.toNat_ofNat']; omega
    by_cases ha : a < 128 <;> by_cases hb : b < 128
    · refine ⟨0, _, _, by rw [nb_lo ha]; rfl, by rw [nb_lo hb]; rfl, fun e => h ?_⟩
      have := congrArg UInt8.toNat e
      rw [e1 _ (by omega), e1 _ (by omega)] at this
      exact this
    · refine ⟨0, _, _, by rw [nb_lo ha]; rfl, by rw [nb_hi (by omega)]; rfl, fun e => ?_⟩
      have := congrArg UInt8.toNat e
      rw [e1 _ (by omega), e1 _ (by omega)] at this
      omega
    · refine ⟨0, _, _, by rw [nb_hi (by omega)]; rfl, by rw [nb_lo hb]; rfl, fun e => ?_⟩
      have := congrArg UInt8.toNat e
      rw [e1 _ (by omega), e1 _ (by omega)] at this
      omega
    · by_cases hm : a % 128 = b % 128
      · obtain ⟨i, x, y, h1, h2, h3⟩ := ih (a / 128) (by omega) (b / 128) (by omega)
        exact ⟨i + 1, x, y, by rw [nb_hi (by omega)]; exact h1, by rw [nb_hi (by omega)]; exact h2, h3⟩
      · refine ⟨0, _, _, by rw [nb_hi (by omega)]; rfl, by rw [nb_hi (by omega)]; rfl, fun e => ?_⟩
        have := congrArg UInt8.toNat e
        rw [e1 _ (by omega), e1 _ (by omega)] at this
        omega
theorem nb_apart_take (a b : Nat) (h : a ≠ b) (k : Nat) (hk : k = if (nb b).length < (nb a).length then (nb b).length else (nb a).length) : (nb a).take k ≠ (nb b).take k := by
  obtain ⟨i, x, y, h1, h2, h3⟩ := nb_apart a b h
  intro e
  have l1 := (List.getElem?_eq_some_iff.1 h1).1
  have l2 := (List.getElem?_eq_some_iff.1 h2).1
  have hi : i < k := by rw [hk]; split <;> omega
  have := congrArg (·[i]?) e
  simp only [List.getElem?_take, hi, if_true, h1, h2] at this
  exact h3 (by simpa using this)

/-- an int's lower 63 bits -/
def mask63 (a : Int) : Nat := (BitVec.ofInt 64 a).toNat % 9223372036854775808
theorem mask63_lt (a : Int) : mask63 a < 9223372036854775808 := Nat.mod_lt _ (by omega)
theorem and_mask63 (a : Int) : bits .and .i64 a 9223372036854775807 = ((mask63 a : Nat) : Int) := by
  simp only [bits]
  show IntKind.i64.wrap (((BitVec.ofInt 64 a) &&& (BitVec.ofInt 64 ((9223372036854775807 : Nat) : Int))).toNat : Int) = _
  rw [BitVec.toNat_and, ofInt64_nat 9223372036854775807 (by omega), show (9223372036854775807 : Nat) = 2 ^ 63 - 1 from rfl, Nat.and_two_pow_sub_one_eq_mod]
  exact i64_wrap_nat _ (Nat.mod_lt _ (by omega))
end Go.Proofs.YtfoplbolbjcggaaDoor
end
section
namespace Go.Proofs.YtfoplbolbjcggaaDoor
open Go.RowKit

theorem ofInt32_nat (a : Nat) (ha : a < 4294967296) : (BitVec.ofInt 32 (a : Int)).toNat = a := by
  rw [BitVec.toNat_ofInt]; simp; omega
theorem u32_wrap_nat (n : Nat) (h : n < 4294967296) : IntKind.u32.wrap (n : Int) = n := by
  simp [IntKind.wrap, IntKind.bits, IntKind.signed]; omega
theorem u64_wrap_nat (n : Nat) (h : n < 18446744073709551616) : IntKind.u64.wrap (n : Int) = n := by
  simp [IntKind.wrap, IntKind.bits, IntKind.signed]; omega
theorem u32_xor_nat (a b : Nat) (ha : a < 4294967296) (hb : b < 4294967296) : bits .xor .u32 (a : Int) (b : Int) = ((a ^^^ b : Nat) : Int) := by
  simp only [bits]
  show IntKind.u32.wrap (((BitVec.ofInt 32 (a : Int)) ^^^ (BitVec.ofInt 32 (b : Int))).toNat : Int) = _
  rw [BitVec.toNat_xor, ofInt32_nat a ha, ofInt32_nat b hb]
  exact u32_wrap_nat _ (Nat.xor_lt_two_pow (n := 32) ha hb)
theorem u32_and_nat (a b : Nat) (ha : a < 4294967296) (hb : b < 4294967296) : bits .and .u32 (a : Int) (b : Int) = ((a &&& b : Nat) : Int) := by
  simp only [bits]
  show IntKind.u32.wrap (((BitVec.ofInt 32 (a : Int)) &&& (BitVec.ofInt 32 (b : Int))).toNat : Int) = _
  rw [BitVec.toNat_and, ofInt32_nat a ha, ofInt32_nat b hb]
  exact u32_wrap_nat _ (Nat.and_lt_two_pow (n := 32) _ hb)
theorem u32_or_nat (a b : Nat) (ha : a < 4294967296) (hb : b < 4294967296) : bits .or .u32 (a : Int) (b : Int) = ((a ||| b : Nat) : Int) := by
  simp only [bits]
  show IntKind.u32.wrap (((BitVec.ofInt 32 (a : Int)) ||| (BitVec.ofInt 32 (b : Int))).toNat : Int) = _
  rw [BitVec.toNat_or, ofInt32_nat a ha, ofInt32_nat b hb]
  exact u32_wrap_nat _ (Nat.or_lt_two_pow (n := 32) ha hb)
theorem u64_xor_nat (a b : Nat) (ha : a < 18446744073709551616) (hb : b < 18446744073709551616) : bits .xor .u64 (a : Int) (b : Int) = ((a ^^^ b : Nat) : Int) := by
  simp only [bits]
  show IntKind.u64.wrap (((BitVec.ofInt 64 (a : Int)) ^^^ (BitVec.ofInt 64 (b : Int))).toNat : Int) = _
  rw [BitVec.toNat_xor, ofInt64_nat a ha, ofInt64_nat b hb]
  exact u64_wrap_nat _ (Nat.xor_lt_two_pow (n := 64) ha hb)
theorem u32_xor_u32 (a b : UInt32) : bits .xor .u32 (a.toNat : Int) (b.toNat : Int) = ((a ^^^ b).toNat : Int) := by
  rw [u32_xor_nat _ _ a.toNat_lt b.toNat_lt, UInt32.toNat_xor]
theorem u32_and_u32 (a b : UInt32) : bits .and .u32 (a.toNat : Int) (b.toNat : Int) = ((a &&& b).toNat : Int) := by
  rw [u32_and_nat _ _ a.toNat_lt b.toNat_lt, UInt32.toNat_and]
theorem u32_or_u32 (a b : UInt32) : bits .or .u32 (a.toNat : Int) (b.toNat : Int) = ((a ||| b).toNat : Int) := by
  rw [u32_or_nat _ _ a.toNat_lt b.toNat_lt, UInt32.toNat_or]
/-- a byte as a uint32 -/
theorem u32_of_u8 (c : UInt8) : (c.toNat : Int) % 4294967296 = (c.toUInt32.toNat : Int) := by
  have := c.toNat_lt
  rw [UInt8.toNat_toUInt32]; omega
theorem u32_mul_u32 (a b : UInt32) : ((a.toNat : Int) * (b.toNat : Int)) % 4294967296 = ((a * b).toNat : Int) := by
  rw [UInt32.toNat_mul]; simp
theorem u32_add_u32 (a b : UInt32) : ((a.toNat : Int) + (b.toNat : Int)) % 4294967296 = ((a + b).toNat : Int) := by
  rw [UInt32.toNat_add]; simp
end Go.Proofs.YtfoplbolbjcggaaDoor
end
section
set_option linter.unusedVariables false
namespace Go.Proofs.YtfoplbolbjcggaaDoor
open Go.RowKit

/-- a writer's cells: at the block B, its bytes xs, all its blocks in F -/
def Wr (w : World) (F : List Nat) (B : Nat) (xs : List UInt8) (s : Bool) : Prop :=
  ∃ p c, F = B :: blk p ∧ Row w B 159 [.slice p xs.length c, .bool s] ∧ Own w 0 5 (.slice p xs.length c) (u8s xs) ∧ B ∉ blk p

theorem newWriter (w : World) : Calls Tryd.prog 56 #[] w fun e w' => ∃ B F, e = .returned (.pointer (some ⟨B, 0, none⟩)) ∧ Wr w' F B [] false ∧ Only [] w w' ∧ (∀ k ∈ F, w.heap.size ≤ k) := by
  go_enter Tryd.func56, Tryd.ntmps56
  go_wp2_with fail
  go_ret
  refine ⟨w.heap.size, [w.heap.size], rfl, ?_, ?_, by simp⟩
  · refine ⟨none, 0, rfl, ?_, Own.nil _ _ _, by simp [blk]⟩
    exact Row.new w _ _
  · exact Only.alloc _ _

theorem infoU8w : (Tryd.prog.info? 5).map (fun i => (i.zero, i.size, i.bytes)) = some (some (.int .u8 0), 1, 1) := by kernel_rfl

/-- a writer opened; what a step that puts behind its bytes and stores the slice gives -/
theorem Wr.open {w : World} {F : List Nat} {B : Nat} {ys : List UInt8} {s : Bool} (h : Wr w F B ys s) : ∃ p c, w.cell? ⟨B, 0, none⟩ = some (.slice p ys.length c) ∧ w.cell? ⟨B, 1, none⟩ = some (.bool s) ∧ (∀ i, w.frozen? ⟨B, i, none⟩ = false) ∧
    Own w 0 5 (.slice p ys.length c) (u8s ys) ∧ (∀ k ∈ F, k < w.heap.size) ∧
    ∀ w1, Only [] w w1 → ∀ w2 p' c' m (news : List UInt8), Own w2 0 5 (.slice p' (ys.length + m) c') (u8s ys ++ u8s news) → Only (blk p) w1 w2 → (p' = p ∨ ∃ g, p' = some ⟨g, 0, none⟩ ∧ w1.heap.size ≤ g) → news.length = m →
      w2.cell? ⟨B, 0, none⟩ = some (.slice p ys.length c) ∧ w2.frozen? ⟨B, 0, none⟩ = false ∧ ∃ F', Wr (w2.setCell ⟨B, 0, none⟩ (.slice p' (ys.length + m) c')) F' B (ys ++ news) s ∧ Only F w (w2.setCell ⟨B, 0, none⟩ (.slice p' (ys.length + m) c')) ∧ (∀ k ∈ F', k ∈ F ∨ w.heap.size ≤ k) := by
  obtain ⟨p, c, rfl, r, o, hne⟩ := h
  refine ⟨p, c, r.cell rfl, r.cell rfl, r.free, o, ?_, ?_⟩
  · intro k hk
    rcases List.mem_cons.1 hk with rfl | hk
    · exact r.lt
    · cases p with
      | none => simp [blk] at hk
      | some a =>
        simp [blk] at hk; subst hk
        rcases o.cases with ⟨e, _⟩ | ⟨g, cap, rest, e, _, r2, _⟩
        · simp at e
        · simp at e; rw [e.1]; exact r2.lt
  · intro w1 h1 w2 p' c' m news o2 h2 hp hm
    have r1 := r.only0 h1
    have r2 := r1.only h2 hne
    have h12 : Only (B :: blk p) w w2 := (h1.mono (by simp)).trans h2 (fun i hi _ => List.mem_cons_of_mem _ hi)
    have hBn : B ∉ blk p' := by
      rcases hp with rfl | ⟨g, rfl, hg⟩
      · exact hne
      · have := r1.lt
        simp [blk]; omega
    refine ⟨r2.cell rfl, r2.free 0, B :: blk p', ⟨p', c', rfl, ?_, ?_, hBn⟩, h12.trans (Only.setCell _ _ _) (by simp), ?_⟩
    · have := r2.setCell 0 (.slice p' (ys.length + m) c')
      rw [List.length_append, hm]
      exact this
    · rw [u8s_append, List.length_append, hm]
      refine o2.only (Only.setCell _ _ _) ?_
      intro k hk
      cases p' with
      | none => simp [Value.ownBlock] at hk
      | some a => simp [Value.ownBlock] at hk; simp [blk] at hBn; simp; omega
    · intro k hk
      rcases List.mem_cons.1 hk with rfl | hk
      · exact .inl (by simp)
      · rcases hp with rfl | ⟨g, rfl, hg⟩
        · exact .inl (List.mem_cons_of_mem _ hk)
        · simp [blk] at hk; subst hk
          exact .inr (Nat.le_trans h1.size hg)

theorem blk_own {w : World} {base n c : Nat} {e : TypeId} {p : Option Addr} {vs : List Value} (o : Own w base e (.slice p n c) vs) : ∀ k ∈ blk p, base ≤ k ∧ k < w.heap.size := by
  intro k hk
  cases p with
  | none => simp [blk] at hk
  | some a => simp [blk] at hk; subst hk; exact o.lt _ rfl
theorem Wr.lt {w : World} {F : List Nat} {B : Nat} {xs : List UInt8} {s : Bool} (h : Wr w F B xs s) : ∀ k ∈ F, k < w.heap.size := by
  obtain ⟨p, c, _, _, _, _, h, _⟩ := h.open
  exact h
/-- a writer that nobody touched -/
theorem Wr.only {S : List Nat} {w w' : World} {F : List Nat} {B : Nat} {xs : List UInt8} {s : Bool} (h : Wr w F B xs s) (ho : Only S w w') (hn : ∀ k ∈ F, k ∉ S) : Wr w' F B xs s := by
  obtain ⟨p, c, rfl, r, o, hne⟩ := h
  refine ⟨p, c, rfl, r.only ho (hn B (by simp)), o.only ho ?_, hne⟩
  intro k hk
  cases p with
  | none => simp [Value.ownBlock] at hk
  | some a => simp [Value.ownBlock] at hk; subst hk; exact hn _ (by simp [blk])
theorem Wr.only0 {w w' : World} {F : List Nat} {B : Nat} {xs : List UInt8} {s : Bool} (h : Wr w F B xs s) (ho : Only [] w w') : Wr w' F B xs s := h.only ho (by simp)

theorem i64_and127 (j : Nat) (h : j < 9223372036854775808) : bits .and .i64 (j : Int) 127 = ((j % 128 : Nat) : Int) := by
  have := i64_and_nat j 127 h (by omega)
  rw [show (127 : Nat) = 2 ^ 7 - 1 from rfl, Nat.and_two_pow_sub_one_eq_mod] at this
  exact this
theorem nb_byte_hi (j : Nat) (h : j < 9223372036854775808) (h1 : 128 ≤ j) : ∃ x : UInt8, nb j = x :: nb (j / 128) ∧ bits .or .u8 (bits .and .i64 (j : Int) 127 % 256) 128 = (x.toNat : Int) := by
  refine ⟨_, nb_hi h1, ?_⟩
  rw [i64_and127 j h]
  have e : ((j % 128 : Nat) : Int) % 256 = ((UInt8.ofNat (j % 128)).toNat : Int) := by rw [UInt8.toNat_ofNat']; omega
  rw [e]
  have h2 := u8_or_u8 (UInt8.ofNat (j % 128)) 128
  have e3 : ((128 : UInt8).toNat : Int) = 128 := rfl
  rw [e3] at h2
  rw [h2]
  congr 2
  have : ∀ k : Nat, k < 128 → (UInt8.ofNat k ||| 128) = UInt8.ofNat (k + 128) := by decide +kernel
  exact this _ (Nat.mod_lt _ (by omega))
theorem nb_byte_lo (j : Nat) (h : j < 128) : ∃ x : UInt8, nb j = [x] ∧ j = x.toNat := by
  refine ⟨_, nb_lo h, ?_⟩
  rw [UInt8.toNat_ofNat']; omega

theorem num_any (w : World) (F : List Nat) (B : Nat) (xs : List UInt8) (s : Bool) (n : Nat) (hn : n < 9223372036854775808) (hw : Wr w F B xs s) (hb : xs.length + (nb n).length ≤ 140737488355328) :
    Calls Tryd.prog 57 #[.pointer (some ⟨B, 0, none⟩), .int .i64 (n : Int)] w fun e w' => e = .returned (.tuple #[]) ∧ ∃ F', Wr w' F' B (xs ++ nb n) s ∧ Only F w w' ∧ (∀ k ∈ F', k ∈ F ∨ w.heap.size ≤ k) := by
  have hstep : ∀ (wr : World) ys F1 (x : UInt8), Wr wr F1 B ys s → ys.length + 1 ≤ 140737488355328 → Only F w wr → (∀ k ∈ F1, k ∈ F ∨ w.heap.size ≤ k) →
      ∃ p c, wr.cell? ⟨B, 0, none⟩ = some (.slice p ys.length c) ∧ ∃ p' c' w2, Hid ((Builtin.append_ #[22, 22] 22 #[.slice p ys.length c, .slice (some ⟨wr.heap.size, 0, none⟩) 1 1]).run Tryd.prog (wr.alloc (.cells #[.int .u8 (x.toNat : Int)] 5)) = .ok (.slice p' (ys.length + 1) c') w2) ∧
        w2.cell? ⟨B, 0, none⟩ = some (.slice p ys.length c) ∧ w2.frozen? ⟨B, 0, none⟩ = false ∧
        ∃ F', Wr (w2.setCell ⟨B, 0, none⟩ (.slice p' (ys.length + 1) c')) F' B (ys ++ [x]) s ∧ Only F w (w2.setCell ⟨B, 0, none⟩ (.slice p' (ys.length + 1) c')) ∧ (∀ k ∈ F', k ∈ F ∨ w.heap.size ≤ k) := by
    intro wr ys F1 x hw1 hl ho hF
    obtain ⟨p, c, hc0, hc1, hf, own, hlt, hput⟩ := hw1.open
    have on := Only.alloc wr (.cells #[.int .u8 (x.toNat : Int)] 5)
    have rn := Row.new wr 5 (u8s [x])
    obtain ⟨p', c', w2, hr, o2, h2, hp⟩ := append_owned (P := Tryd.prog) (n := ys.length) (m := 1) (bytes := 1) (q := some ⟨wr.heap.size, 0, none⟩) (c := 1) (news := u8s [x]) (t := 22) (ty := 22) _ Tryd.underlying22 infoU8w rfl (own.only0 on) rn.rd0 (by rfl) (by simp) (fun v hv => u8s_one hv) (by omega) (by omega) (Nat.zero_le _)
    obtain ⟨h3, h4, F', h5, h6, h7⟩ := hput _ on w2 p' c' 1 [x] o2 h2 hp rfl
    exact ⟨p, c, hc0, p', c', w2, Lib.hid hr, h3, h4, F', h5, ho.trans h6 (fun i hi hl => (hF i hi).resolve_right (by omega)), fun k hk => (h7 k hk).elim (hF k) (fun h => .inr (Nat.le_trans ho.size h))⟩
  go_enter Tryd.func57, Tryd.ntmps57
  go_wp2_with fail
  go_loopw [1] (fun i wr => ∃ (j : Nat) (ys : List UInt8) (F1 : List Nat), i = .int .i64 (j : Int) ∧ j ≤ n ∧ Wr wr F1 B ys s ∧ Only F w wr ∧ (∀ k ∈ F1, k ∈ F ∨ w.heap.size ≤ k) ∧ ys ++ nb j = xs ++ nb n) (fun i _ => (intOf i).toNat)
  case atStart => exact ⟨n, xs, F, rfl, Nat.le_refl _, hw, Only.refl _ _, fun k hk => .inl hk, rfl⟩
  case round =>
    obtain ⟨j, ys, F1, rfl, hj, hw1, ho1, hF1, he⟩ := hrel
    have hlen : ys.length + (nb j).length = xs.length + (nb n).length := by rw [← List.length_append, he, List.length_append]
    by_cases h128 : 128 ≤ j
    · have hd : ((127 : Int) < (j : Int)) := by omega
      obtain ⟨x, hx, hbx⟩ := nb_byte_hi j (by omega) h128
      have hl1 : ys.length + 1 ≤ 140737488355328 := by rw [hx] at hlen; simp at hlen; omega
      obtain ⟨p, c, hc0, p', c', w2, Hr, hc2, hf2, F', hw2, ho2, hF2⟩ := hstep wr ys F1 x hw1 hl1 ho1 hF1
      have He := Lib.hid he
      clear he hlen hw1 ho1 hF1
      go_wp2_with (first | (at_builtin; refine wpl_append (s := .tmp 15) (x := .tmp 20) rfl rfl rfl rfl Hr.out ?_))
      go_roundw
      case rel => exact ⟨j / 128, ys ++ [x], F', by go_num, by omega, hw2, ho2, hF2, by rw [List.append_assoc, ← He.out, hx]; rfl⟩
      case measure => simp [intOf]; omega
    · have hd : ¬ ((127 : Int) < (j : Int)) := by omega
      obtain ⟨x, hx, rfl⟩ := nb_byte_lo j (by omega)
      have hl1 : ys.length + 1 ≤ 140737488355328 := by rw [hx] at hlen; simp at hlen; omega
      obtain ⟨p, c, hc0, p', c', w2, Hr, hc2, hf2, F', hw2, ho2, hF2⟩ := hstep wr ys F1 x hw1 hl1 ho1 hF1
      have He := Lib.hid he
      clear he hlen hw1 ho1 hF1
      go_wp2_with (first | (at_builtin; refine wpl_append (s := .tmp 30) (x := .tmp 33) rfl rfl rfl rfl Hr.out ?_))
      (first | go_end0 | ((try simp only [Exit.inBlock, Exit.then]); refine bodyPost_ret (results_none rfl _ _ _) rfl ?_))
      refine ⟨rfl, F', ?_, ho2, hF2⟩
      rw [← He.out, hx]; exact hw2

theorem num_lit (w : World) (F : List Nat) (B : Nat) (xs : List UInt8) (s : Bool) (n : Nat) (v : Int) (hv : v = (n : Int)) (hn : n < 9223372036854775808) (hw : Wr w F B xs s) (hb : xs.length + (nb n).length ≤ 140737488355328) :
    Calls Tryd.prog 57 #[.pointer (some ⟨B, 0, none⟩), .int .i64 v] w fun e w' => e = .returned (.tuple #[]) ∧ ∃ F', Wr w' F' B (xs ++ nb n) s ∧ Only F w w' ∧ (∀ k ∈ F', k ∈ F ∨ w.heap.size ≤ k) := hv ▸ num_any w F B xs s n hn hw hb

theorem num_neg (w : World) (F : List Nat) (B : Nat) (xs : List UInt8) (s : Bool) (n : Int) (hn : n < 0) (hw : Wr w F B xs s) :
    Calls Tryd.prog 57 #[.pointer (some ⟨B, 0, none⟩), .int .i64 n] w fun e w' => e = .returned (.tuple #[]) ∧ Wr w' F B xs true ∧ Only F w w' := by
  obtain ⟨p, c, rfl, r, o, hne⟩ := hw
  have h1 : w.cell? ⟨B, 1, none⟩ = some (.bool s) := r.cell rfl
  have hf := r.free 1
  go_enter Tryd.func57, Tryd.ntmps57
  go_wp2_with fail
  (first | go_end0 | ((try simp only [Exit.inBlock, Exit.then]); refine bodyPost_ret (results_none rfl _ _ _) rfl ?_))
  refine ⟨rfl, ⟨p, c, rfl, ?_, o.only (Only.setCell _ _ _) ?_, hne⟩, (Only.setCell _ _ _).mono (by simp)⟩
  · exact r.setCell 1 (.bool true)
  · intro k hk
    cases p with
    | none => simp [Value.ownBlock] at hk
    | some a => simp [Value.ownBlock] at hk; simp [blk] at hne; simp; omega

/-- a spoilt writer, whatever number comes -/
theorem num_spoilt (w : World) (F : List Nat) (B : Nat) (xs : List UInt8) (v : Int) (hv : -9223372036854775808 ≤ v ∧ v ≤ 9223372036854775807) (hw : Wr w F B xs true) (hb : xs.length + 9 ≤ 140737488355328) :
    Calls Tryd.prog 57 #[.pointer (some ⟨B, 0, none⟩), .int .i64 v] w fun e w' => e = .returned (.tuple #[]) ∧ ∃ F' ys, Wr w' F' B ys true ∧ ys.length ≤ xs.length + 9 ∧ Only F w w' ∧ (∀ k ∈ F', k ∈ F ∨ w.heap.size ≤ k) := by
  by_cases h : v < 0
  · refine (num_neg w F B xs true v h hw).mono ?_
    rintro e w' ⟨rfl, h1, h2⟩
    exact ⟨rfl, F, xs, h1, by omega, h2, fun k hk => .inl hk⟩
  · obtain ⟨n, rfl⟩ : ∃ n : Nat, v = (n : Int) := ⟨v.toNat, by omega⟩
    have h9 := nb_len9 n (by omega)
    refine (num_any w F B xs true n (by omega) hw (by omega)).mono ?_
    rintro e w' ⟨rfl, F', h1, h2, h3⟩
    exact ⟨rfl, F', _, h1, by rw [List.length_append]; omega, h2, h3⟩

theorem done_any (w : World) (F : List Nat) (B : Nat) (xs : List UInt8) (hw : Wr w F B xs false) (hb : xs.length ≤ 140737488355328) :
    Calls Tryd.prog 58 #[.pointer (some ⟨B, 0, none⟩)] w fun e w' => ∃ p' c', e = .returned (.tuple #[.slice p' xs.length c', .nilIface]) ∧ Own w' w.heap.size 5 (.slice p' xs.length c') (u8s xs) ∧ Only [] w w' := by
  obtain ⟨p, c, hc0, hc1, hf, own, hlt, hput⟩ := hw.open
  obtain ⟨p1, c1, e1, rd, _, _, hp, _⟩ := own.rd
  obtain ⟨rfl, -, rfl⟩ : p = p1 ∧ xs.length = (u8s xs).length ∧ c = c1 := by simpa using e1
  rw [u8s_length] at hp
  clear hput e1
  have hcl := clone_any p xs xs.length c w rfl hb hp rd
  go_enter Tryd.func58, Tryd.ntmps58
  go_wp2_with fail
  refine hcl.mono ?_
  rintro e w' ⟨p', c', rfl, o, ho⟩
  go_wp2_with fail
  go_ret2
  exact ⟨p', c', rfl, o, ho⟩

theorem done_spoilt (w : World) (F : List Nat) (B : Nat) (xs : List UInt8) (E : Value) (hw : Wr w F B xs true) (hE : w.cell? ⟨1, 0, none⟩ = some E) :
    Calls Tryd.prog 58 #[.pointer (some ⟨B, 0, none⟩)] w fun e w' => e = .returned (.tuple #[.slice none 0 0, E]) ∧ Only [] w w' := by
  obtain ⟨p, c, hc0, hc1, hf, own, hlt, hput⟩ := hw.open
  clear hput own hf
  go_enter Tryd.func58, Tryd.ntmps58
  go_wp2_with fail
  go_quiet (fail)
  go_wp2_with fail
  go_ret2
  exact ⟨rfl, Only.drewN _ _⟩

theorem bytes_put (w : World) (F : List Nat) (B : Nat) (xs bs : List UInt8) (s : Bool) (q : Option Addr) (m c : Nat) (hw : Wr w F B xs s) (hr : ∀ w1, Only F w w1 → Rd w1 q (u8s bs)) (hm : bs.length = m) (hq : q = none → m = 0 ∧ c = 0)
    (hb : xs.length + (nb m).length + m ≤ 140737488355328) :
    Calls Tryd.prog 59 #[.pointer (some ⟨B, 0, none⟩), .slice q m c] w fun e w' => e = .returned (.tuple #[]) ∧ ∃ F', Wr w' F' B (xs ++ nb m ++ bs) s ∧ Only F w w' ∧ (∀ k ∈ F', k ∈ F ∨ w.heap.size ≤ k) := by
  have hn := num_any w F B xs s m (by omega) hw (by omega)
  go_enter Tryd.func59, Tryd.ntmps59
  go_wp2_with fail
  refine hn.mono ?_
  rintro e w1 ⟨rfl, F1, hw1, ho1, hF1⟩
  have hl : (xs ++ nb m).length = xs.length + (nb m).length := List.length_append
  generalize hys : xs ++ nb m = ys at hl hw1
  obtain ⟨p, c0, hc0, hc1, hf, own, hlt, hput⟩ := hw1.open
  obtain ⟨p', c', w2, hr2, o2, h2, hp⟩ := append_owned (P := Tryd.prog) (n := ys.length) (m := m) (c := c) (bytes := 1) (q := q) (news := u8s bs) (t := 22) (ty := 22) w1 Tryd.underlying22 Tryd.infoU8 rfl own (hr w1 ho1) (by rw [u8s_length, hm]) hq (fun v hv => u8s_one hv) (by omega) (by omega) (Nat.zero_le _)
  obtain ⟨h3, h4, F', h5, h6, h7⟩ := hput _ (Only.refl _ _) w2 p' c' m bs o2 h2 hp hm
  have Hr := Lib.hid hr2
  have Hys := Lib.hid hys
  clear hput hr2 hw hw1 hl hys
  go_wp2_with (first | (at_builtin; refine wpl_append (s := .tmp 12) (x := .tmp 13) rfl rfl rfl rfl Hr.out ?_))
  (first | go_end0 | ((try simp only [Exit.inBlock, Exit.then]); refine bodyPost_ret (results_none rfl _ _ _) rfl ?_))
  refine ⟨rfl, F', by rw [Hys.out]; exact h5, ho1.trans h6 (fun i hi hl => (hF1 i hi).resolve_right (by omega)), fun k hk => (h7 k hk).elim (hF1 k) (fun h => .inr (Nat.le_trans ho1.size h))⟩

/-- the sum of bytes -/
def wsum (s : UInt32) : List UInt8 → UInt32
  | [] => s
  | c :: r => wsum ((s ^^^ c.toUInt32) * 16777619) r

theorem sum_any (p : Option Addr) (xs : List UInt8) (n c : Nat) (w : World) (hn : xs.length = n) (hb : n ≤ 9223372036854775807) (hp : p = none → n = 0 ∧ c = 0) (hx : Rd w p (u8s xs)) :
    Calls Tryd.prog 84 #[.slice p n c] w fun e w' => e = .returned (.int .u32 ((wsum 2166136261 xs).toNat : Int)) ∧ w = w' := by
  go_enter Tryd.func84, Tryd.ntmps84
  go_wp2_with fail
  go_loop [8, 3] (fun i s => ∃ (j : Nat) (a : UInt32), j ≤ n ∧ i = .int .i64 (j : Int) ∧ s = .int .u32 (a.toNat : Int) ∧ wsum a (xs.drop j) = wsum 2166136261 xs) (fun i _ => n - (intOf i).toNat)
  case atStart => exact ⟨0, 2166136261, Nat.zero_le _, rfl, rfl, rfl⟩
  case round =>
    obtain ⟨j, a, hj, rfl, rfl, hs⟩ := hrel
    by_cases hlt : j < n
    · obtain ⟨b, off, rfl, hyc⟩ := hx.bytes (by omega)
      have hc1 := hyc j (by omega)
      have Hs := Lib.hid hs
      clear hyc hs
      go_wp2_with fail
      go_round
      case rel =>
        refine ⟨j + 1, (a ^^^ xs[j].toUInt32) * 16777619, by omega, by go_num, ?_, ?_⟩
        · rw [u32_of_u8, u32_xor_u32]
          exact congrArg _ (u32_mul_u32 _ 16777619)
        · rw [← Hs.out, ← List.getElem_cons_drop (by omega : j < xs.length)]; rfl
      case measure => simp [intOf]; omega
    · obtain rfl : j = n := by omega
      go_wp2_with fail
      go_ret
      rw [List.drop_of_length_le (by omega)] at hs
      exact ⟨by rw [← hs]; rfl, rfl⟩
end Go.Proofs.YtfoplbolbjcggaaDoor
end
section
set_option linter.unusedVariables false
namespace Go.Proofs.YtfoplbolbjcggaaDoor
open Go.RowKit

/-- a sum's bytes -/
def sb (s : UInt32) : List UInt8 := [UInt8.ofNat (s.toNat / 16777216), UInt8.ofNat (s.toNat / 65536), UInt8.ofNat (s.toNat / 256), UInt8.ofNat s.toNat]
theorem sb_length (s : UInt32) : (sb s).length = 4 := rfl
theorem u8_ofNat (k : Nat) : u8 (UInt8.ofNat k) = .int .u8 ((k : Int) % 256) := by
  unfold u8
  rw [UInt8.toNat_ofNat']; simp
theorem sb_cells (s : UInt32) : u8s (sb s) = [.int .u8 ((s.toNat : Int) / 16777216 % 256), .int .u8 ((s.toNat : Int) / 65536 % 256), .int .u8 ((s.toNat : Int) / 256 % 256), .int .u8 ((s.toNat : Int) % 256)] := by
  simp only [sb, u8s, List.map_cons, List.map_nil, u8_ofNat, Int.natCast_ediv]
  rfl
/-- sealed bytes -/
def sealB (xs : List UInt8) : List UInt8 := xs ++ sb (wsum 2166136261 xs)
theorem sealB_length (xs : List UInt8) : (sealB xs).length = xs.length + 4 := by simp [sealB, sb_length]

theorem seal_any (p : Option Addr) (xs : List UInt8) (n c : Nat) (w : World) (hn : xs.length = n) (hb : n ≤ 140737488351232) (hp : p = none → n = 0 ∧ c = 0) (hx : Rd w p (u8s xs)) :
    Calls Tryd.prog 60 #[.slice p n c] w fun e w' => ∃ p' c', e = .returned (.slice p' (n + 4) c') ∧ Own w' w.heap.size 5 (.slice p' (n + 4) c') (u8s (sealB xs)) ∧ Only [] w w' := by
  have Hn := Lib.hid hn
  have Hp := Lib.hid hp
  have hsum := sum_any p xs n c w hn (by omega) hp hx
  clear hn hp
  go_enter Tryd.func60, Tryd.ntmps60
  go_wp2_with fail
  refine hsum.mono ?_
  rintro e w1 ⟨rfl, rfl⟩
  go_wp2_with fail
  have hsb := sb_cells (wsum 2166136261 xs)
  have o1 := Only.alloc w (.cells (u8s (sb (wsum 2166136261 xs))).toArray 5)
  have r1 := Row.new w 5 (u8s (sb (wsum 2166136261 xs)))
  generalize hw1 : w.alloc (.cells (u8s (sb (wsum 2166136261 xs))).toArray 5) = w1 at o1 r1
  rw [hsb] at hw1
  have hw1s : w1.heap.size = w.heap.size + 1 := by rw [← hw1]; simp
  rw [hw1, ← hw1s]
  have o2 := Only.alloc w1 (.cells #[.slice p n c, .slice (some ⟨w.heap.size, 0, none⟩) 4 4] 22)
  have r2 : Row (w1.alloc (.cells #[.slice p n c, .slice (some ⟨w.heap.size, 0, none⟩) 4 4] 22)) w1.heap.size 22 ([⟨p, n, c, xs⟩, ⟨some ⟨w.heap.size, 0, none⟩, 4, 4, sb (wsum 2166136261 xs)⟩].map Sl.val) := Row.new w1 _ _
  have o12 := o1.trans0 o2
  have hok : ∀ s ∈ ([⟨p, n, c, xs⟩, ⟨some ⟨w.heap.size, 0, none⟩, 4, 4, sb (wsum 2166136261 xs)⟩] : List Sl), s.Ok (w1.alloc (.cells #[.slice p n c, .slice (some ⟨w.heap.size, 0, none⟩) 4 4] 22)) := by
    intro s hs
    rcases List.mem_cons.1 hs with rfl | hs
    · exact ⟨Hn.out, Hp.out, hx.only0 o12⟩
    · obtain rfl := List.mem_singleton.1 hs
      exact ⟨rfl, by simp, (r1.only0 o2).rd0⟩
  have hsl : slLen [⟨p, n, c, xs⟩, ⟨some ⟨w.heap.size, 0, none⟩, 4, 4, sb (wsum 2166136261 xs)⟩] = n + 4 := by simp [slLen]
  have hcc := concat_any (some ⟨w1.heap.size, 0, none⟩) _ 2 2 _ rfl (by omega) r2.rd0 hok (by rw [hsl]; omega)
  refine hcc.mono ?_
  rintro e w3 ⟨p', n', c', rfl, Hn', o3, h3⟩
  obtain rfl : n' = n + 4 := Hn'.out.trans hsl
  clear hsb hok hsl
  go_wp2_with fail
  go_ret
  refine ⟨p', c', rfl, ?_, o12.trans0 h3⟩
  have := o3.weaken (base' := w.heap.size) o12.size
  simpa [sealB] using this

/-- what Open answers -/
def openOk (xs : List UInt8) : Bool := decide (4 ≤ xs.length) && (sealB (xs.take (xs.length - 4)) == xs)

theorem open_good (p : Option Addr) (xs : List UInt8) (n c : Nat) (w : World) (hn : xs.length = n) (hnc : n ≤ c) (hb : n ≤ 140737488351236) (hc63 : c ≤ 9223372036854775807) (hp : p = none → n = 0 ∧ c = 0) (hx : Rd w p (u8s xs)) (h4 : 4 ≤ n) (hok : sealB (xs.take (n - 4)) = xs) :
    Calls Tryd.prog 92 #[.slice p n c] w fun e w' => ∃ p' c', e = .returned (.tuple #[.slice p' (n - 4) c', .nilIface]) ∧ Own w' w.heap.size 5 (.slice p' (n - 4) c') (u8s (xs.take (n - 4))) ∧ Only [] w w' := by
  obtain ⟨k, rfl⟩ : ∃ k, n = k + 4 := ⟨n - 4, by omega⟩
  rw [Nat.add_sub_cancel] at hok ⊢
  obtain ⟨b, off, rfl, _⟩ := hx.bytes (by omega)
  have hxk : Rd w (some ⟨b, off, none⟩) (u8s (xs.take k)) := by rw [← u8s_take]; exact hx.take k
  have hlk : (xs.take k).length = k := by rw [List.length_take]; omega
  have hse := fun c => seal_any (some ⟨b, off, none⟩) (xs.take k) k c w hlk (by omega) (by simp) hxk
  have Hn := Lib.hid hn
  have Hok := Lib.hid hok
  have Hlk := Lib.hid hlk
  clear hn hok hlk
  go_enter Tryd.func92, Tryd.ntmps92
  go_wp2_with fail
  refine (hse _).mono ?_
  rintro e w1 ⟨p1, c1, rfl, o1, h1⟩
  go_wp2_with fail
  obtain ⟨rd1, _, _, _, _, _⟩ := o1.view
  have heq := equal_any p1 (some ⟨b, off, none⟩) (sealB (xs.take k)) xs (k + 4) (k + 4) c1 c true w1 (by rw [sealB_length, Hlk.out]) Hn.out (by omega) rd1 (hx.only0 h1) (by rw [Hok.out]; simp)
  refine heq.mono ?_
  rintro e w2 ⟨rfl, hd⟩
  have h2 := h1.trans0 hd.only
  go_wp2_with fail
  have hcl := fun c => clone_any (some ⟨b, off, none⟩) (xs.take k) k c w2 Hlk.out (by omega) (by simp) (hxk.only0 h2)
  refine (hcl _).mono ?_
  rintro e w3 ⟨p3, c3, rfl, o3, h3⟩
  go_wp2_with fail
  go_ret2
  exact ⟨p3, c3, rfl, o3.weaken h2.size, h2.trans0 h3⟩

theorem open_short (p : Option Addr) (n c : Nat) (w : World) (E : Addr) (hE : ErrAt w 3 E) (h4 : n < 4) :
    Calls Tryd.prog 92 #[.slice p n c] w fun e w' => e = .returned (.tuple #[.slice none 0 0, .iface 246 (.pointer (some E))]) ∧ Only [] w w' := by
  have hc := hE.cell
  go_enter Tryd.func92, Tryd.ntmps92
  go_wp2_with fail
  go_quiet (fail)
  go_wp2_with fail
  go_ret2
  exact ⟨rfl, Only.drewN _ _⟩

theorem open_bad (p : Option Addr) (xs : List UInt8) (n c : Nat) (w : World) (E : Addr) (hE : ErrAt w 0 E) (hn : xs.length = n) (hnc : n ≤ c) (hb : n ≤ 140737488351236) (hc63 : c ≤ 9223372036854775807) (hp : p = none → n = 0 ∧ c = 0) (hx : Rd w p (u8s xs)) (h4 : 4 ≤ n) (hbad : sealB (xs.take (n - 4)) ≠ xs) :
    Calls Tryd.prog 92 #[.slice p n c] w fun e w' => e = .returned (.tuple #[.slice none 0 0, .iface 246 (.pointer (some E))]) ∧ Only [] w w' := by
  obtain ⟨k, rfl⟩ : ∃ k, n = k + 4 := ⟨n - 4, by omega⟩
  rw [Nat.add_sub_cancel] at hbad
  obtain ⟨b, off, rfl, _⟩ := hx.bytes (by omega)
  have hxk : Rd w (some ⟨b, off, none⟩) (u8s (xs.take k)) := by rw [← u8s_take]; exact hx.take k
  have hlk : (xs.take k).length = k := by rw [List.length_take]; omega
  have hse := fun c => seal_any (some ⟨b, off, none⟩) (xs.take k) k c w hlk (by omega) (by simp) hxk
  have Hn := Lib.hid hn
  have Hbad := Lib.hid hbad
  have Hlk := Lib.hid hlk
  clear hn hbad hlk
  go_enter Tryd.func92, Tryd.ntmps92
  go_wp2_with fail
  refine (hse _).mono ?_
  rintro e w1 ⟨p1, c1, rfl, o1, h1⟩
  go_wp2_with fail
  obtain ⟨rd1, _, _, _, _, _⟩ := o1.view
  have heq := equal_any p1 (some ⟨b, off, none⟩) (sealB (xs.take k)) xs (k + 4) (k + 4) c1 c false w1 (by rw [sealB_length, Hlk.out]) Hn.out (by omega) rd1 (hx.only0 h1) (by rw [beq_eq_false_iff_ne]; exact Hbad.out)
  refine heq.mono ?_
  rintro e w2 ⟨rfl, hd⟩
  have h2 := h1.trans0 hd.only
  have hc := (hE.only0 h2).cell
  go_wp2_with fail
  go_quiet (fail)
  go_wp2_with fail
  go_ret2
  exact ⟨rfl, h2.trans0 (Only.drewN _ _)⟩
end Go.Proofs.YtfoplbolbjcggaaDoor
end
section
set_option linter.unusedVariables false
namespace Go.Proofs.YtfoplbolbjcggaaDoor
open Go.RowKit

theorem wstep_inj {s t : UInt32} (h : s * 16777619 = t * 16777619) : s = t := by
  have h2 := congrArg (· * (899433627 : UInt32)) h
  simp only [UInt32.mul_assoc] at h2
  have e : (16777619 : UInt32) * 899433627 = 1 := by decide +kernel
  rw [e, UInt32.mul_one, UInt32.mul_one] at h2
  exact h2
theorem xor_inj {s t c : UInt32} (h : s ^^^ c = t ^^^ c) : s = t := by
  have h2 := congrArg (· ^^^ c) h
  simpa [UInt32.xor_assoc] using h2
theorem xor_inj2 {s c d : UInt32} (h : s ^^^ c = s ^^^ d) : c = d := by
  rw [UInt32.xor_comm s c, UInt32.xor_comm s d] at h
  exact xor_inj h
theorem wsum_inj : ∀ (xs : List UInt8) (s t : UInt32), wsum s xs = wsum t xs → s = t
  | [], s, t, h => h
  | c :: r, s, t, h => xor_inj (wstep_inj (wsum_inj r _ _ h))
theorem wsum_set : ∀ (xs : List UInt8) (s : UInt32) (i : Nat) (x to : UInt8), xs[i]? = some x → x ≠ to → wsum s (xs.set i to) ≠ wsum s xs
  | [], s, i, x, to, h, _ => by simp at h
  | c :: r, s, 0, x, to, h, hne => by
    simp only [List.getElem?_cons_zero, Option.some.injEq] at h
    subst h
    intro e
    have := xor_inj2 (wstep_inj (wsum_inj r _ _ e))
    exact hne (UInt8.toNat_inj.1 (by have := congrArg UInt32.toNat this; simpa using this.symm))
  | c :: r, s, i + 1, x, to, h, hne => by
    intro e
    exact wsum_set r _ i x to (by simpa using h) hne e
theorem sb_inj {s t : UInt32} (h : sb s = sb t) : s = t := by
  have h1 := s.toNat_lt
  have h2 := t.toNat_lt
  simp only [sb, List.cons.injEq, and_true] at h
  obtain ⟨e1, e2, e3, e4⟩ := h
  have f : ∀ a b : Nat, UInt8.ofNat a = UInt8.ofNat b → a % 256 = b % 256 := fun a b h => by
    have := congrArg UInt8.toNat h
    rwa [UInt8.toNat_ofNat', UInt8.toNat_ofNat'] at this
  have g1 := f _ _ e1
  have g2 := f _ _ e2
  have g3 := f _ _ e3
  have g4 := f _ _ e4
  exact UInt32.toNat_inj.1 (by omega)
theorem seal_slip (b : List UInt8) (i : Nat) (x to : UInt8) (hx : (sealB b)[i]? = some x) (hne : x ≠ to) : sealB (((sealB b).set i to).take b.length) ≠ (sealB b).set i to := by
  intro h
  by_cases hi : i < b.length
  · have e1 : ((sealB b).set i to) = b.set i to ++ sb (wsum 2166136261 b) := by
      rw [sealB, List.set_append]; simp [hi]
    have e2 : (((sealB b).set i to).take b.length) = b.set i to := by
      rw [e1, List.take_left' (by simp)]
    rw [e2, e1, sealB] at h
    have h3 := sb_inj (List.append_cancel_left h)
    have hbx : b[i]? = some x := by
      rw [sealB, List.getElem?_append_left hi] at hx; exact hx
    exact wsum_set b _ i x to hbx hne h3
  · have e2 : (((sealB b).set i to).take b.length) = b := by
      rw [List.take_set_of_le (by omega), sealB, List.take_left]
    rw [e2] at h
    have h3 := congrArg (·[i]?) h
    have hl := (List.getElem?_eq_some_iff.1 hx).1
    simp only [hx, List.getElem?_set_self hl] at h3
    exact hne (Option.some.inj h3)
theorem sealB_ok (b : List UInt8) : sealB ((sealB b).take b.length) = sealB b := by
  rw [show (sealB b).take b.length = b by rw [sealB, List.take_left]]
end Go.Proofs.YtfoplbolbjcggaaDoor
end
section
set_option linter.unusedVariables false
namespace Go.Proofs.YtfoplbolbjcggaaDoor
open Go.RowKit

theorem ref_step (a : UInt32) (c : UInt8) : (IntKind.u64.wrap (bits .xor .u64 (a.toNat : Int) (IntKind.u64.wrap (c.toNat : Int)) * 16777619)).tmod 4294967296 = (((a ^^^ c.toUInt32) * 16777619).toNat : Int) := by
  have ha := a.toNat_lt
  have hc := c.toNat_lt
  rw [u64_wrap_nat _ (by omega), u64_xor_nat _ _ (by omega) (by omega)]
  have e : (a.toNat ^^^ c.toNat) = (a ^^^ c.toUInt32).toNat := by rw [UInt32.toNat_xor, UInt8.toNat_toUInt32]
  rw [e]
  have hx := (a ^^^ c.toUInt32).toNat_lt
  generalize a ^^^ c.toUInt32 = x at hx
  rw [show ((x.toNat : Int) * 16777619) = ((x.toNat * 16777619 : Nat) : Int) by simp, u64_wrap_nat _ (by omega), Int.tmod_eq_emod_of_nonneg (by omega)]
  have := u32_mul_u32 x 16777619
  rw [← this]
  simp

theorem ref05Sum_any (p : Option Addr) (xs : List UInt8) (n c : Nat) (w : World) (hn : xs.length = n) (hb : n ≤ 9223372036854775807) (hp : p = none → n = 0 ∧ c = 0) (hx : Rd w p (u8s xs)) :
    Calls Tryd.prog 99 #[.slice p n c] w fun e w' => e = .returned (.int .u32 ((wsum 2166136261 xs).toNat : Int)) ∧ w = w' := by
  go_enter Tryd.func99, Tryd.ntmps99
  go_wp2_with fail
  go_loop [8, 3] (fun i s => ∃ (j : Nat) (a : UInt32), j ≤ n ∧ i = .int .i64 (j : Int) ∧ s = .int .u64 (a.toNat : Int) ∧ wsum a (xs.drop j) = wsum 2166136261 xs) (fun i _ => n - (intOf i).toNat)
  case atStart => exact ⟨0, 2166136261, Nat.zero_le _, rfl, rfl, rfl⟩
  case round =>
    obtain ⟨j, a, hj, rfl, rfl, hs⟩ := hrel
    by_cases hlt : j < n
    · obtain ⟨b, off, rfl, hyc⟩ := hx.bytes (by omega)
      have hc1 := hyc j (by omega)
      have Hs := Lib.hid hs
      clear hyc hs
      go_wp2_with fail
      go_round
      case rel =>
        refine ⟨j + 1, (a ^^^ xs[j].toUInt32) * 16777619, by omega, by go_num, ?_, ?_⟩
        · exact congrArg _ (ref_step a _)
        · rw [← Hs.out, ← List.getElem_cons_drop (by omega : j < xs.length)]; rfl
      case measure => simp [intOf]; omega
    · obtain rfl : j = n := by omega
      go_wp2_with fail
      go_ret
      rw [List.drop_of_length_le (by omega)] at hs
      exact ⟨by rw [← hs]; exact congrArg (fun z => Ending.returned (.int .u32 z)) (by have := a.toNat_lt; show (a.toNat : Int) % 4294967296 = (a.toNat : Int); omega), rfl⟩

theorem refSeal_any (p : Option Addr) (xs : List UInt8) (n c : Nat) (w : World) (hn : xs.length = n) (hb : n ≤ 140737488351232) (hp : p = none → n = 0 ∧ c = 0) (hx : Rd w p (u8s xs)) :
    Calls Tryd.prog 70 #[.slice p n c] w fun e w' => ∃ p' c', e = .returned (.slice p' (n + 4) c') ∧ Own w' w.heap.size 5 (.slice p' (n + 4) c') (u8s (sealB xs)) ∧ Only [] w w' := by
  have hsum := ref05Sum_any p xs n c w hn (by omega) hp hx
  have hsb := sb_cells (wsum 2166136261 xs)
  have on := Only.alloc w (.cells #[] 5)
  have rn := Row.new w 5 []
  have ow : Own (w.alloc (.cells #[] 5)) w.heap.size 5 (.slice (some ⟨w.heap.size, 0, none⟩) 0 0) [] := Own.ofRow (vs := []) (rest := []) (Nat.le_refl _) rn rfl (by omega)
  obtain ⟨p1, c1, w1, hr1, o1, h1, hp1⟩ := append_owned (P := Tryd.prog) (n := 0) (m := n) (c := c) (bytes := 1) (q := p) (news := u8s xs) (t := 22) (ty := 22) _ Tryd.underlying22 Tryd.infoU8 rfl ow (hx.only0 on) (by rw [u8s_length, hn]) hp (fun v hv => u8s_one hv) (by omega) (by omega) on.size
  rw [Nat.zero_add] at hr1 o1
  have h01 : Only [] w w1 := on.transN h1 (by simp [blk])|>.drop (by simp)
  have o2 := Only.alloc w1 (.cells (u8s (sb (wsum 2166136261 xs))).toArray 5)
  have r2 := Row.new w1 5 (u8s (sb (wsum 2166136261 xs)))
  obtain ⟨p3, c3, w3, hr3, o3, h3, hp3⟩ := append_owned (P := Tryd.prog) (n := n) (m := 4) (c := 4) (bytes := 1) (q := some ⟨w1.heap.size, 0, none⟩) (news := u8s (sb (wsum 2166136261 xs))) (t := 22) (ty := 22) _ Tryd.underlying22 Tryd.infoU8 rfl (o1.only0 o2) r2.rd0 (by rfl) (by simp) (fun v hv => u8s_one hv) (by omega) (by omega) (by have := h01.size; have := o2.size; omega)
  rw [hsb] at hr3
  have Hr1 := Lib.hid hr1
  have Hr3 := Lib.hid hr3
  have hfin : Only [] w w3 := (h01.trans0 o2).transN h3 (fun i hi => by
    cases p1 with
    | none => simp [blk] at hi
    | some a => simp [blk] at hi; subst hi; exact (o1.lt _ rfl).1)
  have ofin : Own w3 w.heap.size 5 (.slice p3 (n + 4) c3) (u8s (sealB xs)) := by
    rw [sealB, u8s_append]; simpa using o3
  clear hr1 hr3 hsb hn hp on rn ow h1 hp1 h3 hp3 o1 o2 r2 o3
  go_enter Tryd.func70, Tryd.ntmps70
  go_wp2_with fail
  refine hsum.mono ?_
  rintro e w' ⟨rfl, rfl⟩
  go_wp2_with (first | (at_builtin; refine wpl_append (s := .tmp 6) (x := .tmp 7) rfl rfl rfl rfl Hr1.out ?_) | (at_builtin; refine wpl_append (s := .tmp 8) (x := .tmp 20) rfl rfl rfl rfl Hr3.out ?_))
  go_ret
  exact ⟨p3, c3, rfl, ofin, hfin⟩

/-- a slice that reads as the bytes xs -/
def IsBy (xs : List UInt8) (n : Nat) : Value → World → Prop := fun v w => xs.length = n ∧ ∃ p k, v = .slice p n k ∧ Rd w p (u8s xs) ∧ (p = none → n = 0 ∧ k = 0)
theorem IsBy.stable (xs : List UInt8) (n : Nat) : Stable (Only []) (IsBy xs n) := fun v w w' ⟨h1, p, k, h2, h3, h4⟩ ho => ⟨h1, p, k, h2, h3.only0 ho, h4⟩

theorem refOpen_short (p : Option Addr) (n c : Nat) (w : World) (h4 : n < 4) :
    Calls Tryd.prog 63 #[.slice p n c] w fun e w' => e = .returned (.tuple #[.slice none 0 0, .int .i64 5]) ∧ w = w' := by
  go_enter Tryd.func63, Tryd.ntmps63
  go_wp2_with fail
  go_ret2
  exact ⟨rfl, rfl⟩

theorem refOpen_long (p : Option Addr) (xs : List UInt8) (n c : Nat) (b : Bool) (w : World) (hn : xs.length = n) (hnc : n ≤ c) (hb : n ≤ 140737488351232) (hc63 : c ≤ 9223372036854775807) (hx : Rd w p (u8s xs)) (h4 : 4 ≤ n) (hbb : (sealB (xs.take (n - 4)) == xs) = b) :
    Calls Tryd.prog 63 #[.slice p n c] w fun e w' => (if b then ∃ p' c', e = .returned (.tuple #[.slice p' (n - 4) c', .int .i64 0]) ∧ Own w' w.heap.size 5 (.slice p' (n - 4) c') (u8s (xs.take (n - 4))) else e = .returned (.tuple #[.slice none 0 0, .int .i64 6])) ∧ Only [] w w' := by
  obtain ⟨k, rfl⟩ : ∃ k, n = k + 4 := ⟨n - 4, by omega⟩
  rw [Nat.add_sub_cancel] at hbb ⊢
  obtain ⟨b0, off, rfl, _⟩ := hx.bytes (by omega)
  have hxk : Rd w (some ⟨b0, off, none⟩) (u8s (xs.take k)) := by rw [← u8s_take]; exact hx.take k
  have hlk : (xs.take k).length = k := by rw [List.length_take]; omega
  have Hn := Lib.hid hn
  have Hbb := Lib.hid hbb
  have Hlk := Lib.hid hlk
  clear hn hbb hlk
  go_enter Tryd.func63, Tryd.ntmps63
  go_wp2_with fail
  -- <<r4
  refine wp_region_rg2 (Only []) [[(0, none)], [(4, none)], [(4, none)], [(11, some 2), (12, some 1), (13, some 0)], [(14, some 0)], [(15, some 0)], [(0, none)], [(17, some 0)], [(16, some 2), (18, some 0)]] [(19, 0)] [none, none, none, none, none, none, none, none, none, none, none, some 11, some 12, some 13, some 14, some 15, some 16, some 17, some 18, some 19, none, none, none, none, none] (by kernel_rfl) rfl (by kernel_rfl) (fun _ => Only.refl _ _) (fun _ _ _ h k => h.trans0 k) (Only.drew _) (by kernel_rfl) ?_
  -- 0: s11 := move t0
  apply rg_ev
  · intro a w hR hf
    obtain ⟨e0, -⟩ := hf
    replace e0 : a.tmps.getD 0 undef = _ := e0
    refine rg_plain rfl fun K hK => ?_
    go_simp
    exact hK _ _ rfl (Only.refl _ _)
  -- 1: s12 := move t4
  apply rg_ev
  · intro a w hR hf
    obtain ⟨e4, -⟩ := hf
    replace e4 : a.tmps.getD 4 undef = _ := e4
    refine rg_plain rfl fun K hK => ?_
    go_simp
    exact hK _ _ rfl (Only.refl _ _)
  -- 2: s13 := move t4
  apply rg_ev
  · intro a w hR hf
    obtain ⟨e4, -⟩ := hf
    replace e4 : a.tmps.getD 4 undef = _ := e4
    refine rg_plain rfl fun K hK => ?_
    go_simp
    exact hK _ _ rfl (Only.refl _ _)
  -- 3: s14 := slice 26 t11 none (some t12) (some t13)
  apply rg_ev
  · intro a w hR hf
    obtain ⟨e11, e12, e13, -⟩ := hf
    replace e11 : a.tmps.getD 11 undef = _ := e11
    replace e12 : a.tmps.getD 12 undef = _ := e12
    replace e13 : a.tmps.getD 13 undef = _ := e13
    refine rg_plain rfl fun K hK => ?_
    have hkc : k ≤ c := by omega
    go_simp
    exact hK _ _ rfl (Only.refl _ _)
  -- 4: s15 := call { value (Operand.func 36), args := #[t14], #[26] }
  refine ⟨IsBy (sealB (xs.take k)) (k + 4), IsBy.stable _ _, fun a w hR hf => ?_, ?_⟩
  · obtain ⟨e14, -⟩ := hf
    replace e14 : a.tmps.getD 14 undef = _ := e14
    refine rg_plain rfl fun K hK => ?_
    go_simp
    (with_reducible refine (refSeal_any (some ⟨b0, off, none⟩) (xs.take k) k k w Hlk.out (by omega) (by simp) (hxk.only0 hR)).mono ?_)
    rintro e w' ⟨p', c', rfl, o, h⟩
    obtain ⟨v1, v2, v3, _⟩ := o.view
    exact hK _ _ ⟨by rw [sealB_length, Hlk.out], p', c', rfl, v1, v3⟩ h
  -- 5: s16 := convert 26 9 t15
  apply rg_ev
  · intro a w hR hf
    obtain ⟨e15, -⟩ := hf
    replace e15 : IsBy (sealB (xs.take k)) (k + 4) (a.tmps.getD 15 undef) w := e15
    refine rg_plain rfl fun K hK => ?_
    obtain ⟨l15, p15, k15, e15, r15, n15⟩ := e15
    have hc := conv_bytes (P := Tryd.prog) w Tryd.underlying22 Tryd.underlying5 Tryd.underlying9 r15 l15 n15
    clear l15 n15
    go_simp
    exact hK _ _ rfl (Only.refl _ _)
  -- 6: s17 := move t0
  apply rg_ev
  · intro a w hR hf
    obtain ⟨e0, -⟩ := hf
    replace e0 : a.tmps.getD 0 undef = _ := e0
    refine rg_plain rfl fun K hK => ?_
    go_simp
    exact hK _ _ rfl (Only.refl _ _)
  -- 7: s18 := convert 26 9 t17
  apply rg_ev
  · intro a w hR hf
    obtain ⟨e17, -⟩ := hf
    replace e17 : a.tmps.getD 17 undef = _ := e17
    refine rg_plain rfl fun K hK => ?_
    have hc := conv_bytes (P := Tryd.prog) (c := c) w Tryd.underlying22 Tryd.underlying5 Tryd.underlying9 (hx.only0 hR) Hn.out (by simp)
    go_simp
    exact hK _ _ rfl (Only.refl _ _)
  -- 8: s19 := binOp Binneq 9 t16 t18 9
  apply rg_ev
  · intro a w hR hf
    obtain ⟨e16, e18, -⟩ := hf
    replace e16 : a.tmps.getD 16 undef = _ := e16
    replace e18 : a.tmps.getD 18 undef = _ := e18
    refine rg_plain rfl fun K hK => ?_
    have hb2 := Hbb.out
    go_simp
    exact hK _ _ rfl (Only.refl _ _)
  intro f4 w4 hR4 hf
  dsimp only [mergeT]
  obtain ⟨e19, -⟩ := hf
  replace e19 : f4 19 = _ := e19
  rw [e19]
  -- r4>>
  cases b
  · skip
    go_wp2_with fail
    go_ret2
    exact ⟨by simp, hR4⟩
  · have on := Only.alloc w4 (.cells #[] 5)
    have rn := Row.new w4 5 []
    have ow : Own (w4.alloc (.cells #[] 5)) w4.heap.size 5 (.slice (some ⟨w4.heap.size, 0, none⟩) 0 0) [] := Own.ofRow (vs := []) (rest := []) (Nat.le_refl _) rn rfl (by omega)
    obtain ⟨p1, c1, w1, hr1, o1, h1, hp1⟩ := append_owned (P := Tryd.prog) (n := 0) (m := k) (c := c) (bytes := 1) (q := some ⟨b0, off, none⟩) (news := u8s (xs.take k)) (t := 22) (ty := 22) _ Tryd.underlying22 Tryd.infoU8 rfl ow ((hxk.only0 hR4).only0 on) (by rw [u8s_length, Hlk.out]) (by simp) (fun v hv => u8s_one hv) (by omega) (by omega) on.size
    rw [Nat.zero_add] at hr1 o1
    have h01 : Only [] w4 w1 := on.transN h1 (by simp [blk])|>.drop (by simp)
    have hkc : k ≤ c := by omega
    have Hr := Lib.hid hr1
    clear hr1 on rn ow h1 hp1
    go_wp2_with (first | (at_builtin; refine wpl_append (s := .tmp 20) (x := .tmp 23) rfl rfl rfl rfl Hr.out ?_))
    go_ret2
    refine ⟨?_, hR4.trans0 h01⟩
    exact ⟨p1, c1, rfl, o1.weaken hR4.size⟩
end Go.Proofs.YtfoplbolbjcggaaDoor
end
