/- Memory: what has not turned between two worlds ('Only'), what a slice reads as ('Rd'), whole blocks ('Row'); make, copy and their like as equations. No program in sight. -/
import Derived.Test.YtfoplbolbjcggaaDoorBase
import Derived.WalkSpells
import Derived.WalkLawsBesides
import Derived.Laws.CopyOwn
import Derived.Deep.Draws
import Derived.Deep.QuietTactic
import Derived.BigQuiet
namespace Go.Proofs.YtfoplbolbjcggaaDoor
open Go.RowKit

/-- Of the blocks of w none has turned in w' but those of the list S. -/
structure Only (S : List Nat) (w w' : World) : Prop where
  os : w'.os = w.os
  tape : w'.tape = w.tape
  output : w'.output = w.output
  size : w.heap.size ≤ w'.heap.size
  block : ∀ k, k < w.heap.size → k ∉ S → w'.heap[k]? = w.heap[k]?

theorem Only.refl (S : List Nat) (w : World) : Only S w w := ⟨rfl, rfl, rfl, Nat.le_refl _, fun _ _ _ => rfl⟩
theorem Only.trans {S T : List Nat} {a b c : World} (h : Only S a b) (k : Only T b c) (hT : ∀ i ∈ T, i < a.heap.size → i ∈ S) : Only S a c :=
  ⟨k.os.trans h.os, k.tape.trans h.tape, k.output.trans h.output, Nat.le_trans h.size k.size, fun i hi hn =>
    (k.block i (Nat.lt_of_lt_of_le hi h.size) (fun hm => hn (hT i hm hi))).trans (h.block i hi hn)⟩
theorem Only.trans0 {S : List Nat} {a b c : World} (h : Only S a b) (k : Only [] b c) : Only S a c := h.trans k (by simp)
/-- a step that turns blocks that are new alone -/
theorem Only.transN {S T : List Nat} {a b c : World} (h : Only S a b) (k : Only T b c) (hT : ∀ i ∈ T, a.heap.size ≤ i) : Only S a c :=
  h.trans k (fun i hi hl => absurd (hT i hi) (by omega))
theorem Only.mono {S T : List Nat} {w w' : World} (h : Only S w w') (hs : ∀ k ∈ S, k ∈ T) : Only T w w' := ⟨h.os, h.tape, h.output, h.size, fun k hk hn => h.block k hk (fun m => hn (hs k m))⟩
theorem Only.drop {S : List Nat} {w w' : World} (h : Only S w w') (hs : ∀ k ∈ S, w.heap.size ≤ k) : Only [] w w' :=
  ⟨h.os, h.tape, h.output, h.size, fun k hk _ => h.block k hk (fun m => absurd (hs k m) (by omega))⟩
theorem Only.drewN (w : World) (n : Nat) : Only [] w (w.drewN n) := ⟨rfl, rfl, rfl, Nat.le_refl _, fun _ _ _ => rfl⟩
theorem Only.drew (w : World) : Only [] w w.drew := ⟨rfl, rfl, rfl, Nat.le_refl _, fun _ _ _ => rfl⟩
theorem Only.alloc (w : World) (o : Obj) : Only [] w (w.alloc o) := ⟨rfl, rfl, rfl, by simp, fun k hk _ => Below.heap_alloc _ _ _ hk⟩
theorem Only.setCell (w : World) (a : Addr) (u : Value) : Only [a.block] w (w.setCell a u) :=
  ⟨rfl, rfl, rfl, by simp [World.setCell], fun k _ hn => Below.heap_setCell _ _ _ _ (by simpa using hn)⟩
theorem Only.setRow (w : World) (g : Nat) (cs : Array Value) : Only [g] w (w.setRow g cs) :=
  ⟨rfl, rfl, rfl, by simp, fun k _ hn => setRow_other w g k cs (by simpa using hn)⟩
theorem Only.grown {w w' : World} {row : Option Nat} (h : w.grownBy w' row) : Only row.toList w w' :=
  ⟨h.os, h.tape, h.output, h.size, fun k hk hn => h.block k hk (fun e => hn (by rw [← e]; simp))⟩
theorem Only.below {w w' : World} (h : Only [] w w') : Below w.heap.size w w' := ⟨h.os, h.tape, h.output, h.size, fun k hk => h.block k hk (by simp)⟩
theorem Only.belowOf {B : Nat} {S : List Nat} {w w' : World} (h : Only S w w') (hB : B ≤ w.heap.size) (hS : ∀ k ∈ S, B ≤ k) : Below B w w' :=
  ⟨h.os, h.tape, h.output, h.size, fun k hk => h.block k (by omega) (fun m => absurd (hS k m) (by omega))⟩
theorem Only.ofBelow {w w' : World} (h : Below w.heap.size w w') : Only [] w w' := ⟨h.os, h.tape, h.output, h.size, fun k hk _ => h.block k hk⟩
theorem Only.cell {S : List Nat} {w w' : World} (h : Only S w w') {a : Addr} {v : Value} (hc : w.cell? a = some v) (hn : a.block ∉ S) : w'.cell? a = some v :=
  (World.cell?_of_block (h.block a.block (World.block_lt_of_cell? w a hc) hn)).trans hc
theorem Only.frozen {S : List Nat} {w w' : World} (h : Only S w w') {a : Addr} (hl : a.block < w.heap.size) (hn : a.block ∉ S) : w'.frozen? a = w.frozen? a :=
  World.frozen?_of_block (h.block a.block hl hn)

/-- The world has drawn, no more. -/
def Drew (w w' : World) : Prop := ∃ n, w' = w.drewN n
theorem Drew.refl (w : World) : Drew w w := ⟨0, rfl⟩
theorem Drew.one (w : World) : Drew w w.drew := ⟨1, rfl⟩
theorem Drew.N (w : World) (n : Nat) : Drew w (w.drewN n) := ⟨n, rfl⟩
theorem Drew.trans {a b c : World} (h : Drew a b) (k : Drew b c) : Drew a c := by
  obtain ⟨n, rfl⟩ := h
  obtain ⟨m, rfl⟩ := k
  exact ⟨n + m, World.drewN_drewN _ _ _⟩
theorem Drew.only {w w' : World} (h : Drew w w') : Only [] w w' := by obtain ⟨n, rfl⟩ := h; exact Only.drewN w n
theorem Drew.size {w w' : World} (h : Drew w w') : w'.heap.size = w.heap.size := by obtain ⟨n, rfl⟩ := h; rfl
/-- a quiet callee met in a region -/
theorem qof {P : Program} {f : FuncId} {args : Array Value} {w : World} {n : Nat} {v : Value}
    (h : Calls P f args (w.drewN n) fun e w' => e = .returned v ∧ Drew (w.drewN n) w') : Calls P f args (w.drewN n) fun e w'' => e = .returned v ∧ ∃ m, w'' = w.drewN m :=
  h.mono fun _ _ ⟨he, hd⟩ => ⟨he, (Drew.N w n).trans hd⟩
theorem qof0 {P : Program} {f : FuncId} {args : Array Value} {w : World} {n : Nat} {v : Value}
    (h : Calls P f args (w.drewN n) fun e w' => e = .returned v ∧ w.drewN n = w') : Calls P f args (w.drewN n) fun e w'' => e = .returned v ∧ ∃ m, w'' = w.drewN m :=
  h.mono fun _ _ ⟨he, hd⟩ => ⟨he, n, hd.symm⟩

/-- The slice whose first element lies at p reads as the cells vs. -/
def Rd (w : World) (p : Option Addr) (vs : List Value) : Prop :=
  vs = [] ∨ ∃ b off, p = some ⟨b, off, none⟩ ∧ ∀ j v, vs[j]? = some v → w.cell? ⟨b, off + j, none⟩ = some v
theorem Rd.nil (w : World) (p : Option Addr) : Rd w p [] := .inl rfl
theorem Rd.only {S : List Nat} {w w' : World} {p : Option Addr} {vs : List Value} (h : Rd w p vs) (ho : Only S w w') (hp : ∀ a, p = some a → a.block ∉ S) : Rd w' p vs := by
  rcases h with h | ⟨b, off, rfl, h⟩
  · exact .inl h
  · exact .inr ⟨b, off, rfl, fun j v hv => ho.cell (h j v hv) (hp ⟨b, off, none⟩ rfl)⟩
theorem Rd.only0 {w w' : World} {p : Option Addr} {vs : List Value} (h : Rd w p vs) (ho : Only [] w w') : Rd w' p vs := h.only ho (by simp)
theorem Rd.lt {w : World} {p : Option Addr} {vs : List Value} (h : Rd w p vs) (hne : vs ≠ []) : ∃ b off, p = some ⟨b, off, none⟩ ∧ b < w.heap.size := by
  rcases h with h | ⟨b, off, rfl, h⟩
  · exact absurd h hne
  · cases vs with
    | nil => exact absurd rfl hne
    | cons v vs => exact ⟨b, off, rfl, World.block_lt_of_cell? w _ (h 0 v rfl)⟩
/-- blocks that are new to w0 do not hold what w0 read -/
theorem Rd.after {S : List Nat} {w0 w' : World} {p : Option Addr} {vs : List Value} (h0 : Rd w0 p vs) (ho : Only S w0 w') (hS : ∀ k ∈ S, w0.heap.size ≤ k) : Rd w' p vs :=
  h0.only0 (ho.drop hS)
theorem Rd.take {w : World} {p : Option Addr} {vs : List Value} (h : Rd w p vs) (n : Nat) : Rd w p (vs.take n) := by
  rcases h with h | ⟨b, off, rfl, h⟩
  · exact .inl (by simp [h])
  · exact .inr ⟨b, off, rfl, fun j v hv => h j v (by rw [List.getElem?_take] at hv; split at hv; exact hv; cases hv)⟩

/-- a byte as a value -/
def u8 (x : UInt8) : Value := .int .u8 (x.toNat : Int)
def u8s (xs : List UInt8) : List Value := xs.map u8
theorem u8s_length (xs : List UInt8) : (u8s xs).length = xs.length := by simp [u8s]
theorem u8s_append (xs ys : List UInt8) : u8s (xs ++ ys) = u8s xs ++ u8s ys := by simp [u8s]
theorem u8s_get {xs : List UInt8} {i : Nat} (h : i < xs.length) : (u8s xs)[i]? = some (.int .u8 ((xs[i]).toNat : Int)) := by simp [u8s, h, u8]
theorem u8s_one {xs : List UInt8} {v : Value} (h : v ∈ u8s xs) : v.oneCell' = true := by
  obtain ⟨x, _, rfl⟩ := List.mem_map.1 h; rfl
theorem u8s_take (xs : List UInt8) (n : Nat) : (u8s xs).take n = u8s (xs.take n) := by simp [u8s, List.map_take]
theorem u8s_drop (xs : List UInt8) (n : Nat) : (u8s xs).drop n = u8s (xs.drop n) := by simp [u8s, List.map_drop]
theorem u8s_set (xs : List UInt8) (n : Nat) (x : UInt8) : (u8s xs).set n (u8 x) = u8s (xs.set n x) := by simp [u8s, List.map_set]
theorem u8s_replicate (n : Nat) (x : UInt8) : u8s (List.replicate n x) = List.replicate n (u8 x) := by simp [u8s]
theorem u8s_inj {xs ys : List UInt8} (h : u8s xs = u8s ys) : xs = ys := by
  refine List.map_inj_right (f := u8) ?_ |>.1 h
  intro a b hab
  simp only [u8, Value.int.injEq, true_and] at hab
  exact UInt8.toNat_inj.1 (by omega)

/-- a slice of bytes that is read: its address, its bytes' cells -/
theorem Rd.bytes {w : World} {p : Option Addr} {xs : List UInt8} (h : Rd w p (u8s xs)) (hne : 0 < xs.length) :
    ∃ b off, p = some ⟨b, off, none⟩ ∧ ∀ i (hi : i < xs.length), w.cell? ⟨b, off + i, none⟩ = some (.int .u8 ((xs[i]).toNat : Int)) := by
  rcases h with h | ⟨b, off, rfl, h⟩
  · have : (u8s xs).length = 0 := by rw [h]; rfl
    rw [u8s_length] at this; omega
  · exact ⟨b, off, rfl, fun i hi => h i _ (u8s_get hi)⟩

/-- A whole block of the heap. -/
def Row (w : World) (g : Nat) (e : TypeId) (vs : List Value) : Prop := w.heap[g]? = some (.cells vs.toArray e (0, 0))
theorem Row.lt {w : World} {g : Nat} {e : TypeId} {vs : List Value} (h : Row w g e vs) : g < w.heap.size := (Array.getElem?_eq_some_iff.1 h).1
theorem Row.cell {w : World} {g : Nat} {e : TypeId} {vs : List Value} (h : Row w g e vs) {i : Nat} {v : Value} (hv : vs[i]? = some v) : w.cell? ⟨g, i, none⟩ = some v := by
  rw [cell_of_row w g i _ e (0, 0) h]; simpa using hv
theorem Row.free {w : World} {g : Nat} {e : TypeId} {vs : List Value} (h : Row w g e vs) (i : Nat) : w.frozen? ⟨g, i, none⟩ = false := by
  unfold Row at h
  simp [World.frozen?, h]
theorem Row.only {S : List Nat} {w w' : World} {g : Nat} {e : TypeId} {vs : List Value} (h : Row w g e vs) (ho : Only S w w') (hn : g ∉ S) : Row w' g e vs :=
  (ho.block g h.lt hn).trans h
theorem Row.only0 {w w' : World} {g : Nat} {e : TypeId} {vs : List Value} (h : Row w g e vs) (ho : Only [] w w') : Row w' g e vs := h.only ho (by simp)
theorem Row.new (w : World) (e : TypeId) (vs : List Value) : Row (w.alloc (.cells vs.toArray e)) w.heap.size e vs := heap_alloc_new w _
theorem Row.newAt (w : World) (e : TypeId) (vs : List Value) {n : Nat} (h : w.heap.size = n) : Row (w.alloc (.cells vs.toArray e)) n e vs := by subst h; exact Row.new w e vs
theorem Row.setCell {w : World} {g : Nat} {e : TypeId} {vs : List Value} (h : Row w g e vs) (i : Nat) (u : Value) : Row (w.setCell ⟨g, i, none⟩ u) g e (vs.set i u) := by
  rw [setCell_eq_setRow w g i _ e (0, 0) u h]
  unfold Row
  rw [setRow_heap w g _ _ e (0, 0) h]
  simp
theorem Row.setRow {w : World} {g : Nat} {e : TypeId} {vs : List Value} (h : Row w g e vs) (us : List Value) : Row (w.setRow g us.toArray) g e us := setRow_heap w g _ _ e (0, 0) h
theorem Row.rd {w : World} {g : Nat} {e : TypeId} {vs : List Value} (h : Row w g e vs) (o : Nat) : Rd w (some ⟨g, o, none⟩) (vs.drop o) :=
  .inr ⟨g, o, rfl, fun j v hv => h.cell (by rw [List.getElem?_drop] at hv; exact hv)⟩
theorem Row.rd0 {w : World} {g : Nat} {e : TypeId} {vs : List Value} (h : Row w g e vs) : Rd w (some ⟨g, 0, none⟩) vs := h.rd 0
theorem Row.bytes {w : World} {g : Nat} {e : TypeId} {xs : List UInt8} (h : Row w g e (u8s xs)) {i : Nat} (hi : i < xs.length) : w.cell? ⟨g, i, none⟩ = some (.int .u8 ((xs[i]).toNat : Int)) := h.cell (u8s_get hi)

section
variable {P : Program} (w : World)

/-- make([]T, n), its element of one cell -/
theorem make_row {t e : TypeId} {z : Value} {bytes : Nat} (ht : P.underlying t = some (.slice e)) (hi : (P.info? e).map (fun i => (i.zero, i.size, i.bytes)) = some (some z, 1, bytes)) (hz : z.cells = #[z])
    (kl kc : IntKind) (l n : Nat) (hl : l ≤ n) (hb : bytes * n ≤ 281474976710656) (h63 : n ≤ 9223372036854775807) :
    ∃ g w', (Instr.makeSlice t (.int kl (l : Int)) (.int kc (n : Int))).run P w = .ok (.slice (some ⟨g, 0, none⟩) l n) w' ∧ w.heap.size ≤ g ∧ Row w' g e (List.replicate n z) ∧ Only [] w w' := by
  obtain ⟨i, hi, hz0, hz1, hz2⟩ := info_parts hi
  have hb' : (bytes : Int) * (n : Int) ≤ 281474976710656 := by
    have h : ((bytes * n : Nat) : Int) ≤ 281474976710656 := by omega
    rwa [Int.natCast_mul] at h
  have h := run_make (P := P) w t e i z ht hi hz0 kl kc l n (by omega) (by omega) (by rw [hz2]; exact hb') (by omega)
  refine ⟨_, _, h, Nat.le_refl _, ?_, Only.alloc _ _⟩
  rw [hz, hz1]
  simp only [Int.toNat_natCast, Nat.mul_one]
  rw [← toList_madeCells_one]
  exact Row.new w e _
/-- copy into a block of the call's own -/
theorem copy_row {dT sT ty elem : TypeId} {g L dCap n c : Nat} {p : Option Addr} {t : TypeId} {vs cs : List Value} {o : Nat}
    (hu : P.underlying dT = some (.slice elem)) (hs : (P.info? elem).map (·.size) = some 1) (hrow : Row w g t vs) (hr : Rd w p cs) (hn : cs.length = Nat.min n L)
    (hfit : o + cs.length ≤ vs.length) (h1 : ∀ v ∈ cs, v.oneCell' = true) :
    ∃ w', (Builtin.copy_ #[dT, sT] ty #[.slice (some ⟨g, o, none⟩) L dCap, .slice p n c]).run P w = .ok (.int .i64 (cs.length : Int)) w' ∧ Row w' g t (vs.take o ++ cs ++ vs.drop (o + cs.length)) ∧ Only [g] w w' := by
  rcases hr with rfl | ⟨b, off, rfl, hr⟩
  · have h := run_copy_none (P := P) w dT sT ty elem (some ⟨g, o, none⟩) p L dCap n c hu hs (by simpa using hn.symm)
    exact ⟨w, h, by simpa using hrow, Only.refl _ _⟩
  · have h := run_copy_row (P := P) w dT sT ty elem g o L dCap ⟨b, off, none⟩ n c vs.toArray t cs hu hs hrow hn (fun j v hv => by
      have := hr j v hv
      have hadd : (⟨b, off, none⟩ : Addr).add j = ⟨b, off + j, none⟩ := Addr.add_lit _ _ _
      rw [hadd]; exact this) (by simpa using hfit) h1
    refine ⟨_, h, ?_, Only.setRow _ _ _⟩
    exact hrow.setRow _

/-- string(b) of a slice of bytes -/
theorem conv_bytes {src dst e : TypeId} {p : Option Addr} {c n : Nat} {xs : List UInt8} (hs : P.underlying src = some (.slice e)) (he : P.underlying e = some (.int .u8)) (hd : P.underlying dst = some .string)
    (h : Rd w p (u8s xs)) (hn : xs.length = n) (hp : p = none → n = 0 ∧ c = 0) :
    (Go.convert src dst (.slice p n c)).run P w = .ok (.string ⟨xs.toArray⟩) w := by
  subst hn
  cases p with
  | none =>
    obtain ⟨h1, rfl⟩ := hp rfl
    have : xs = [] := List.eq_nil_of_length_eq_zero h1
    subst this
    show (Go.convert src dst (.slice none 0 0)).run P w = _
    rw [run_convert_bytes_string w src dst e none 0 0 hs he hd]
    rfl
  | some a =>
    refine run_convert_bytes_back w src dst e a c xs hs he hd (fun j hj => ?_)
    rcases h with h | ⟨b, off, e', h⟩
    · have : (u8s xs).length = 0 := by rw [h]; rfl
      rw [u8s_length] at this; omega
    · cases e'
      have hadd : (⟨b, off, none⟩ : Addr).add j = ⟨b, off + j, none⟩ := Addr.add_lit _ _ _
      rw [hadd]
      exact h j _ (u8s_get hj)
end

end Go.Proofs.YtfoplbolbjcggaaDoor
