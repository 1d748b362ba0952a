/- The walks of package wire: the writer. -/
import Derived.Test.YtfoplbolbjcggaaDoorProg
import Derived.Test.YtfoplbolbjcggaaDoorOwn
import Derived.Test.YtfoplbolbjcggaaDoorSlicesW
import Derived.Test.YtfoplbolbjcggaaDoorWireMath
import Derived.Test.YtfoplbolbjcggaaDoorBits
set_option linter.unusedVariables false
set_option maxRecDepth 100000
namespace Go.Proofs.YtfoplbolbjcggaaDoor
open Go.RowKit

/-- a writer's cells: at the block B, its bytes xs, all its blocks in F -/
def Wr (w : World) (F : List Nat) (B : Nat) (xs : List UInt8) (s : Bool) : Prop :=
  ∃ p c, F = B :: blk p ∧ Row w B 159 [.slice p xs.length c, .bool s] ∧ Own w 0 5 (.slice p xs.length c) (u8s xs) ∧ B ∉ blk p

theorem newWriter (w : World) : Calls Tryd.prog 56 #[] w fun e w' => ∃ B F, e = .returned (.pointer (some ⟨B, 0, none⟩)) ∧ Wr w' F B [] false ∧ Only [] w w' ∧ (∀ k ∈ F, w.heap.size ≤ k) := by
  go_enter Tryd.func56, Tryd.ntmps56
  go_wp2_with fail
  go_ret
  refine ⟨w.heap.size, [w.heap.size], rfl, ?_, ?_, by simp⟩
  · refine ⟨none, 0, rfl, ?_, Own.nil _ _ _, by simp [blk]⟩
    exact Row.new w _ _
  · exact Only.alloc _ _

theorem infoU8w : (Tryd.prog.info? 5).map (fun i => (i.zero, i.size, i.bytes)) = some (some (.int .u8 0), 1, 1) := by kernel_rfl

/-- a writer opened; what a step that puts behind its bytes and stores the slice gives -/
theorem Wr.open {w : World} {F : List Nat} {B : Nat} {ys : List UInt8} {s : Bool} (h : Wr w F B ys s) : ∃ p c, w.cell? ⟨B, 0, none⟩ = some (.slice p ys.length c) ∧ w.cell? ⟨B, 1, none⟩ = some (.bool s) ∧ (∀ i, w.frozen? ⟨B, i, none⟩ = false) ∧
    Own w 0 5 (.slice p ys.length c) (u8s ys) ∧ (∀ k ∈ F, k < w.heap.size) ∧
    ∀ w1, Only [] w w1 → ∀ w2 p' c' m (news : List UInt8), Own w2 0 5 (.slice p' (ys.length + m) c') (u8s ys ++ u8s news) → Only (blk p) w1 w2 → (p' = p ∨ ∃ g, p' = some ⟨g, 0, none⟩ ∧ w1.heap.size ≤ g) → news.length = m →
      w2.cell? ⟨B, 0, none⟩ = some (.slice p ys.length c) ∧ w2.frozen? ⟨B, 0, none⟩ = false ∧ ∃ F', Wr (w2.setCell ⟨B, 0, none⟩ (.slice p' (ys.length + m) c')) F' B (ys ++ news) s ∧ Only F w (w2.setCell ⟨B, 0, none⟩ (.slice p' (ys.length + m) c')) ∧ (∀ k ∈ F', k ∈ F ∨ w.heap.size ≤ k) := by
  obtain ⟨p, c, rfl, r, o, hne⟩ := h
  refine ⟨p, c, r.cell rfl, r.cell rfl, r.free, o, ?_, ?_⟩
  · intro k hk
    rcases List.mem_cons.1 hk with rfl | hk
    · exact r.lt
    · cases p with
      | none => simp [blk] at hk
      | some a =>
        simp [blk] at hk; subst hk
        rcases o.cases with ⟨e, _⟩ | ⟨g, cap, rest, e, _, r2, _⟩
        · simp at e
        · simp at e; rw [e.1]; exact r2.lt
  · intro w1 h1 w2 p' c' m news o2 h2 hp hm
    have r1 := r.only0 h1
    have r2 := r1.only h2 hne
    have h12 : Only (B :: blk p) w w2 := (h1.mono (by simp)).trans h2 (fun i hi _ => List.mem_cons_of_mem _ hi)
    have hBn : B ∉ blk p' := by
      rcases hp with rfl | ⟨g, rfl, hg⟩
      · exact hne
      · have := r1.lt
        simp [blk]; omega
    refine ⟨r2.cell rfl, r2.free 0, B :: blk p', ⟨p', c', rfl, ?_, ?_, hBn⟩, h12.trans (Only.setCell _ _ _) (by simp), ?_⟩
    · have := r2.setCell 0 (.slice p' (ys.length + m) c')
      rw [List.length_append, hm]
      exact this
    · rw [u8s_append, List.length_append, hm]
      refine o2.only (Only.setCell _ _ _) ?_
      intro k hk
      cases p' with
      | none => simp [Value.ownBlock] at hk
      | some a => simp [Value.ownBlock] at hk; simp [blk] at hBn; simp; omega
    · intro k hk
      rcases List.mem_cons.1 hk with rfl | hk
      · exact .inl (by simp)
      · rcases hp with rfl | ⟨g, rfl, hg⟩
        · exact .inl (List.mem_cons_of_mem _ hk)
        · simp [blk] at hk; subst hk
          exact .inr (Nat.le_trans h1.size hg)

theorem blk_own {w : World} {base n c : Nat} {e : TypeId} {p : Option Addr} {vs : List Value} (o : Own w base e (.slice p n c) vs) : ∀ k ∈ blk p, base ≤ k ∧ k < w.heap.size := by
  intro k hk
  cases p with
  | none => simp [blk] at hk
  | some a => simp [blk] at hk; subst hk; exact o.lt _ rfl
theorem Wr.lt {w : World} {F : List Nat} {B : Nat} {xs : List UInt8} {s : Bool} (h : Wr w F B xs s) : ∀ k ∈ F, k < w.heap.size := by
  obtain ⟨p, c, _, _, _, _, h, _⟩ := h.open
  exact h
/-- a writer that nobody touched -/
theorem Wr.only {S : List Nat} {w w' : World} {F : List Nat} {B : Nat} {xs : List UInt8} {s : Bool} (h : Wr w F B xs s) (ho : Only S w w') (hn : ∀ k ∈ F, k ∉ S) : Wr w' F B xs s := by
  obtain ⟨p, c, rfl, r, o, hne⟩ := h
  refine ⟨p, c, rfl, r.only ho (hn B (by simp)), o.only ho ?_, hne⟩
  intro k hk
  cases p with
  | none => simp [Value.ownBlock] at hk
  | some a => simp [Value.ownBlock] at hk; subst hk; exact hn _ (by simp [blk])
theorem Wr.only0 {w w' : World} {F : List Nat} {B : Nat} {xs : List UInt8} {s : Bool} (h : Wr w F B xs s) (ho : Only [] w w') : Wr w' F B xs s := h.only ho (by simp)

theorem i64_and127 (j : Nat) (h : j < 9223372036854775808) : bits .and .i64 (j : Int) 127 = ((j % 128 : Nat) : Int) := by
  have := i64_and_nat j 127 h (by omega)
  rw [show (127 : Nat) = 2 ^ 7 - 1 from rfl, Nat.and_two_pow_sub_one_eq_mod] at this
  exact this
theorem nb_byte_hi (j : Nat) (h : j < 9223372036854775808) (h1 : 128 ≤ j) : ∃ x : UInt8, nb j = x :: nb (j / 128) ∧ bits .or .u8 (bits .and .i64 (j : Int) 127 % 256) 128 = (x.toNat : Int) := by
  refine ⟨_, nb_hi h1, ?_⟩
  rw [i64_and127 j h]
  have e : ((j % 128 : Nat) : Int) % 256 = ((UInt8.ofNat (j % 128)).toNat : Int) := by rw [UInt8.toNat_ofNat']; omega
  rw [e]
  have h2 := u8_or_u8 (UInt8.ofNat (j % 128)) 128
  have e3 : ((128 : UInt8).toNat : Int) = 128 := rfl
  rw [e3] at h2
  rw [h2]
  congr 2
  have : ∀ k : Nat, k < 128 → (UInt8.ofNat k ||| 128) = UInt8.ofNat (k + 128) := by decide +kernel
  exact this _ (Nat.mod_lt _ (by omega))
theorem nb_byte_lo (j : Nat) (h : j < 128) : ∃ x : UInt8, nb j = [x] ∧ j = x.toNat := by
  refine ⟨_, nb_lo h, ?_⟩
  rw [UInt8.toNat_ofNat']; omega

theorem num_any (w : World) (F : List Nat) (B : Nat) (xs : List UInt8) (s : Bool) (n : Nat) (hn : n < 9223372036854775808) (hw : Wr w F B xs s) (hb : xs.length + (nb n).length ≤ 140737488355328) :
    Calls Tryd.prog 57 #[.pointer (some ⟨B, 0, none⟩), .int .i64 (n : Int)] w fun e w' => e = .returned (.tuple #[]) ∧ ∃ F', Wr w' F' B (xs ++ nb n) s ∧ Only F w w' ∧ (∀ k ∈ F', k ∈ F ∨ w.heap.size ≤ k) := by
  have hstep : ∀ (wr : World) ys F1 (x : UInt8), Wr wr F1 B ys s → ys.length + 1 ≤ 140737488355328 → Only F w wr → (∀ k ∈ F1, k ∈ F ∨ w.heap.size ≤ k) →
      ∃ p c, wr.cell? ⟨B, 0, none⟩ = some (.slice p ys.length c) ∧ ∃ p' c' w2, Hid ((Builtin.append_ #[22, 22] 22 #[.slice p ys.length c, .slice (some ⟨wr.heap.size, 0, none⟩) 1 1]).run Tryd.prog (wr.alloc (.cells #[.int .u8 (x.toNat : Int)] 5)) = .ok (.slice p' (ys.length + 1) c') w2) ∧
        w2.cell? ⟨B, 0, none⟩ = some (.slice p ys.length c) ∧ w2.frozen? ⟨B, 0, none⟩ = false ∧
        ∃ F', Wr (w2.setCell ⟨B, 0, none⟩ (.slice p' (ys.length + 1) c')) F' B (ys ++ [x]) s ∧ Only F w (w2.setCell ⟨B, 0, none⟩ (.slice p' (ys.length + 1) c')) ∧ (∀ k ∈ F', k ∈ F ∨ w.heap.size ≤ k) := by
    intro wr ys F1 x hw1 hl ho hF
    obtain ⟨p, c, hc0, hc1, hf, own, hlt, hput⟩ := hw1.open
    have on := Only.alloc wr (.cells #[.int .u8 (x.toNat : Int)] 5)
    have rn := Row.new wr 5 (u8s [x])
    obtain ⟨p', c', w2, hr, o2, h2, hp⟩ := append_owned (P := Tryd.prog) (n := ys.length) (m := 1) (bytes := 1) (q := some ⟨wr.heap.size, 0, none⟩) (c := 1) (news := u8s [x]) (t := 22) (ty := 22) _ Tryd.underlying22 infoU8w rfl (own.only0 on) rn.rd0 (by rfl) (by simp) (fun v hv => u8s_one hv) (by omega) (by omega) (Nat.zero_le _)
    obtain ⟨h3, h4, F', h5, h6, h7⟩ := hput _ on w2 p' c' 1 [x] o2 h2 hp rfl
    exact ⟨p, c, hc0, p', c', w2, Lib.hid hr, h3, h4, F', h5, ho.trans h6 (fun i hi hl => (hF i hi).resolve_right (by omega)), fun k hk => (h7 k hk).elim (hF k) (fun h => .inr (Nat.le_trans ho.size h))⟩
  go_enter Tryd.func57, Tryd.ntmps57
  go_wp2_with fail
  go_loopw [1] (fun i wr => ∃ (j : Nat) (ys : List UInt8) (F1 : List Nat), i = .int .i64 (j : Int) ∧ j ≤ n ∧ Wr wr F1 B ys s ∧ Only F w wr ∧ (∀ k ∈ F1, k ∈ F ∨ w.heap.size ≤ k) ∧ ys ++ nb j = xs ++ nb n) (fun i _ => (intOf i).toNat)
  case atStart => exact ⟨n, xs, F, rfl, Nat.le_refl _, hw, Only.refl _ _, fun k hk => .inl hk, rfl⟩
  case round =>
    obtain ⟨j, ys, F1, rfl, hj, hw1, ho1, hF1, he⟩ := hrel
    have hlen : ys.length + (nb j).length = xs.length + (nb n).length := by rw [← List.length_append, he, List.length_append]
    by_cases h128 : 128 ≤ j
    · have hd : ((127 : Int) < (j : Int)) := by omega
      obtain ⟨x, hx, hbx⟩ := nb_byte_hi j (by omega) h128
      have hl1 : ys.length + 1 ≤ 140737488355328 := by rw [hx] at hlen; simp at hlen; omega
      obtain ⟨p, c, hc0, p', c', w2, Hr, hc2, hf2, F', hw2, ho2, hF2⟩ := hstep wr ys F1 x hw1 hl1 ho1 hF1
      have He := Lib.hid he
      clear he hlen hw1 ho1 hF1
      go_wp2_with (first | (at_builtin; refine wpl_append (s := .tmp 15) (x := .tmp 20) rfl rfl rfl rfl Hr.out ?_))
      go_roundw
      case rel => exact ⟨j / 128, ys ++ [x], F', by go_num, by omega, hw2, ho2, hF2, by rw [List.append_assoc, ← He.out, hx]; rfl⟩
      case measure => simp [intOf]; omega
    · have hd : ¬ ((127 : Int) < (j : Int)) := by omega
      obtain ⟨x, hx, rfl⟩ := nb_byte_lo j (by omega)
      have hl1 : ys.length + 1 ≤ 140737488355328 := by rw [hx] at hlen; simp at hlen; omega
      obtain ⟨p, c, hc0, p', c', w2, Hr, hc2, hf2, F', hw2, ho2, hF2⟩ := hstep wr ys F1 x hw1 hl1 ho1 hF1
      have He := Lib.hid he
      clear he hlen hw1 ho1 hF1
      go_wp2_with (first | (at_builtin; refine wpl_append (s := .tmp 30) (x := .tmp 33) rfl rfl rfl rfl Hr.out ?_))
      (first | go_end0 | ((try simp only [Exit.inBlock, Exit.then]); refine bodyPost_ret (results_none rfl _ _ _) rfl ?_))
      refine ⟨rfl, F', ?_, ho2, hF2⟩
      rw [← He.out, hx]; exact hw2

theorem num_lit (w : World) (F : List Nat) (B : Nat) (xs : List UInt8) (s : Bool) (n : Nat) (v : Int) (hv : v = (n : Int)) (hn : n < 9223372036854775808) (hw : Wr w F B xs s) (hb : xs.length + (nb n).length ≤ 140737488355328) :
    Calls Tryd.prog 57 #[.pointer (some ⟨B, 0, none⟩), .int .i64 v] w fun e w' => e = .returned (.tuple #[]) ∧ ∃ F', Wr w' F' B (xs ++ nb n) s ∧ Only F w w' ∧ (∀ k ∈ F', k ∈ F ∨ w.heap.size ≤ k) := hv ▸ num_any w F B xs s n hn hw hb

theorem num_neg (w : World) (F : List Nat) (B : Nat) (xs : List UInt8) (s : Bool) (n : Int) (hn : n < 0) (hw : Wr w F B xs s) :
    Calls Tryd.prog 57 #[.pointer (some ⟨B, 0, none⟩), .int .i64 n] w fun e w' => e = .returned (.tuple #[]) ∧ Wr w' F B xs true ∧ Only F w w' := by
  obtain ⟨p, c, rfl, r, o, hne⟩ := hw
  have h1 : w.cell? ⟨B, 1, none⟩ = some (.bool s) := r.cell rfl
  have hf := r.free 1
  go_enter Tryd.func57, Tryd.ntmps57
  go_wp2_with fail
  (first | go_end0 | ((try simp only [Exit.inBlock, Exit.then]); refine bodyPost_ret (results_none rfl _ _ _) rfl ?_))
  refine ⟨rfl, ⟨p, c, rfl, ?_, o.only (Only.setCell _ _ _) ?_, hne⟩, (Only.setCell _ _ _).mono (by simp)⟩
  · exact r.setCell 1 (.bool true)
  · intro k hk
    cases p with
    | none => simp [Value.ownBlock] at hk
    | some a => simp [Value.ownBlock] at hk; simp [blk] at hne; simp; omega

/-- a spoilt writer, whatever number comes -/
theorem num_spoilt (w : World) (F : List Nat) (B : Nat) (xs : List UInt8) (v : Int) (hv : -9223372036854775808 ≤ v ∧ v ≤ 9223372036854775807) (hw : Wr w F B xs true) (hb : xs.length + 9 ≤ 140737488355328) :
    Calls Tryd.prog 57 #[.pointer (some ⟨B, 0, none⟩), .int .i64 v] w fun e w' => e = .returned (.tuple #[]) ∧ ∃ F' ys, Wr w' F' B ys true ∧ ys.length ≤ xs.length + 9 ∧ Only F w w' ∧ (∀ k ∈ F', k ∈ F ∨ w.heap.size ≤ k) := by
  by_cases h : v < 0
  · refine (num_neg w F B xs true v h hw).mono ?_
    rintro e w' ⟨rfl, h1, h2⟩
    exact ⟨rfl, F, xs, h1, by omega, h2, fun k hk => .inl hk⟩
  · obtain ⟨n, rfl⟩ : ∃ n : Nat, v = (n : Int) := ⟨v.toNat, by omega⟩
    have h9 := nb_len9 n (by omega)
    refine (num_any w F B xs true n (by omega) hw (by omega)).mono ?_
    rintro e w' ⟨rfl, F', h1, h2, h3⟩
    exact ⟨rfl, F', _, h1, by rw [List.length_append]; omega, h2, h3⟩

theorem done_any (w : World) (F : List Nat) (B : Nat) (xs : List UInt8) (hw : Wr w F B xs false) (hb : xs.length ≤ 140737488355328) :
    Calls Tryd.prog 58 #[.pointer (some ⟨B, 0, none⟩)] w fun e w' => ∃ p' c', e = .returned (.tuple #[.slice p' xs.length c', .nilIface]) ∧ Own w' w.heap.size 5 (.slice p' xs.length c') (u8s xs) ∧ Only [] w w' := by
  obtain ⟨p, c, hc0, hc1, hf, own, hlt, hput⟩ := hw.open
  obtain ⟨p1, c1, e1, rd, _, _, hp, _⟩ := own.rd
  obtain ⟨rfl, -, rfl⟩ : p = p1 ∧ xs.length = (u8s xs).length ∧ c = c1 := by simpa using e1
  rw [u8s_length] at hp
  clear hput e1
  have hcl := clone_any p xs xs.length c w rfl hb hp rd
  go_enter Tryd.func58, Tryd.ntmps58
  go_wp2_with fail
  refine hcl.mono ?_
  rintro e w' ⟨p', c', rfl, o, ho⟩
  go_wp2_with fail
  go_ret2
  exact ⟨p', c', rfl, o, ho⟩

theorem done_spoilt (w : World) (F : List Nat) (B : Nat) (xs : List UInt8) (E : Value) (hw : Wr w F B xs true) (hE : w.cell? ⟨1, 0, none⟩ = some E) :
    Calls Tryd.prog 58 #[.pointer (some ⟨B, 0, none⟩)] w fun e w' => e = .returned (.tuple #[.slice none 0 0, E]) ∧ Only [] w w' := by
  obtain ⟨p, c, hc0, hc1, hf, own, hlt, hput⟩ := hw.open
  clear hput own hf
  go_enter Tryd.func58, Tryd.ntmps58
  go_wp2_with fail
  go_quiet (fail)
  go_wp2_with fail
  go_ret2
  exact ⟨rfl, Only.drewN _ _⟩

theorem bytes_put (w : World) (F : List Nat) (B : Nat) (xs bs : List UInt8) (s : Bool) (q : Option Addr) (m c : Nat) (hw : Wr w F B xs s) (hr : ∀ w1, Only F w w1 → Rd w1 q (u8s bs)) (hm : bs.length = m) (hq : q = none → m = 0 ∧ c = 0)
    (hb : xs.length + (nb m).length + m ≤ 140737488355328) :
    Calls Tryd.prog 59 #[.pointer (some ⟨B, 0, none⟩), .slice q m c] w fun e w' => e = .returned (.tuple #[]) ∧ ∃ F', Wr w' F' B (xs ++ nb m ++ bs) s ∧ Only F w w' ∧ (∀ k ∈ F', k ∈ F ∨ w.heap.size ≤ k) := by
  have hn := num_any w F B xs s m (by omega) hw (by omega)
  go_enter Tryd.func59, Tryd.ntmps59
  go_wp2_with fail
  refine hn.mono ?_
  rintro e w1 ⟨rfl, F1, hw1, ho1, hF1⟩
  have hl : (xs ++ nb m).length = xs.length + (nb m).length := List.length_append
  generalize hys : xs ++ nb m = ys at hl hw1
  obtain ⟨p, c0, hc0, hc1, hf, own, hlt, hput⟩ := hw1.open
  obtain ⟨p', c', w2, hr2, o2, h2, hp⟩ := append_owned (P := Tryd.prog) (n := ys.length) (m := m) (c := c) (bytes := 1) (q := q) (news := u8s bs) (t := 22) (ty := 22) w1 Tryd.underlying22 Tryd.infoU8 rfl own (hr w1 ho1) (by rw [u8s_length, hm]) hq (fun v hv => u8s_one hv) (by omega) (by omega) (Nat.zero_le _)
  obtain ⟨h3, h4, F', h5, h6, h7⟩ := hput _ (Only.refl _ _) w2 p' c' m bs o2 h2 hp hm
  have Hr := Lib.hid hr2
  have Hys := Lib.hid hys
  clear hput hr2 hw hw1 hl hys
  go_wp2_with (first | (at_builtin; refine wpl_append (s := .tmp 12) (x := .tmp 13) rfl rfl rfl rfl Hr.out ?_))
  (first | go_end0 | ((try simp only [Exit.inBlock, Exit.then]); refine bodyPost_ret (results_none rfl _ _ _) rfl ?_))
  refine ⟨rfl, F', by rw [Hys.out]; exact h5, ho1.trans h6 (fun i hi hl => (hF1 i hi).resolve_right (by omega)), fun k hk => (h7 k hk).elim (hF1 k) (fun h => .inr (Nat.le_trans ho1.size h))⟩

/-- the sum of bytes -/
def wsum (s : UInt32) : List UInt8 → UInt32
  | [] => s
  | c :: r => wsum ((s ^^^ c.toUInt32) * 16777619) r

theorem sum_any (p : Option Addr) (xs : List UInt8) (n c : Nat) (w : World) (hn : xs.length = n) (hb : n ≤ 9223372036854775807) (hp : p = none → n = 0 ∧ c = 0) (hx : Rd w p (u8s xs)) :
    Calls Tryd.prog 84 #[.slice p n c] w fun e w' => e = .returned (.int .u32 ((wsum 2166136261 xs).toNat : Int)) ∧ w = w' := by
  go_enter Tryd.func84, Tryd.ntmps84
  go_wp2_with fail
  go_loop [8, 3] (fun i s => ∃ (j : Nat) (a : UInt32), j ≤ n ∧ i = .int .i64 (j : Int) ∧ s = .int .u32 (a.toNat : Int) ∧ wsum a (xs.drop j) = wsum 2166136261 xs) (fun i _ => n - (intOf i).toNat)
  case atStart => exact ⟨0, 2166136261, Nat.zero_le _, rfl, rfl, rfl⟩
  case round =>
    obtain ⟨j, a, hj, rfl, rfl, hs⟩ := hrel
    by_cases hlt : j < n
    · obtain ⟨b, off, rfl, hyc⟩ := hx.bytes (by omega)
      have hc1 := hyc j (by omega)
      have Hs := Lib.hid hs
      clear hyc hs
      go_wp2_with fail
      go_round
      case rel =>
        refine ⟨j + 1, (a ^^^ xs[j].toUInt32) * 16777619, by omega, by go_num, ?_, ?_⟩
        · rw [u32_of_u8, u32_xor_u32]
          exact congrArg _ (u32_mul_u32 _ 16777619)
        · rw [← Hs.out, ← List.getElem_cons_drop (by omega : j < xs.length)]; rfl
      case measure => simp [intOf]; omega
    · obtain rfl : j = n := by omega
      go_wp2_with fail
      go_ret
      rw [List.drop_of_length_le (by omega)] at hs
      exact ⟨by rw [← hs]; rfl, rfl⟩
end Go.Proofs.YtfoplbolbjcggaaDoor
