/- The arguments of a law's row, opened: integers as bytes and ints; slices of bytes; how large they are. -/
import Derived.Test.YtfoplbolbjcggaaDoorRows
import Derived.Test.YtfoplbolbjcggaaDoorLaw
import Derived.OpenShut
import Derived.SizedLaws
import Derived.Lib.SmallJoins
set_option linter.unusedVariables false
set_option maxRecDepth 100000
namespace Go.Proofs.YtfoplbolbjcggaaDoor
open Go.ChangeShapes Go.WideShapes Go.ChangeAt Go.RowKit

theorem own : ownKnob Tryd.prog.godebug = none := by kernel_rfl
theorem laidOut : laidOutB Tryd.prog = true := by kernel_rfl
theorem i64_of_wf {a : Int} (h : (Lit.int .i64 a).wf = true) : -9223372036854775808 ≤ a ∧ a ≤ 9223372036854775807 := by
  simpa [Lit.wf, IntKind.min, IntKind.max, IntKind.bits, IntKind.signed] using h

section
variable {H : Type} {enc : TypeId × Value → H} {P : Program}

/-- the form's own reach, of one datum -/
def Fits (P : Program) (t : TypeId) (d : DataW H) : Prop := ∀ n ∈ d.weights P t, n ≤ reachBytes
theorem fits_arg {ts : List TypeId} {ds : List (DataW H)} (h : (DataW.weightsEach P ts ds).all (· ≤ reachBytes) = true) {j : Nat} {t : TypeId} {d : DataW H} (ht : ts[j]? = some t) (hd : ds[j]? = some d) : Fits P t d :=
  fun n hn => by simpa using List.all_eq_true.1 h n (DataW.weights_mem_each ht hd n hn)
theorem fits_field {t : TypeId} {fs : Array Field} {parts : List (DataW H)} (hu : P.underlying t = some (.struct fs)) (h : Fits P t (.agg parts)) {j : Nat} {t' : TypeId} {d : DataW H} (ht : (fs.toList.map (·.type))[j]? = some t') (hd : parts[j]? = some d) : Fits P t' d :=
  fun n hn => h n (by simp only [DataW.weights, hu]; exact DataW.weights_mem_each ht hd n hn)
theorem weightsAll_mem {e : TypeId} {d : DataW H} {n : Nat} (hn : n ∈ d.weights P e) : ∀ {l : List (DataW H)}, d ∈ l → n ∈ DataW.weightsAll P e l
  | x :: r, hd => by
    simp only [DataW.weightsAll, List.mem_append]
    rcases List.mem_cons.1 hd with rfl | hd
    · exact .inl hn
    · exact .inr (weightsAll_mem hn hd)
theorem fits_elem {t e : TypeId} {elems spare : List (DataW H)} (hu : P.underlying t = some (.slice e)) (h : Fits P t (.slice elems spare)) {d : DataW H} (hd : d ∈ elems) : Fits P e d := by
  intro n hn
  refine h n ?_
  simp only [DataW.weights, hu, List.mem_cons, List.mem_append]
  exact .inr (.inl (weightsAll_mem hn hd))
theorem fits_slice {t e : TypeId} {elems spare : List (DataW H)} (hu : P.underlying t = some (.slice e)) (h : Fits P t (.slice elems spare)) : (elems.length + spare.length) * P.bytesOf e ≤ reachBytes :=
  h _ (by simp [DataW.weights, hu])

theorem ints_bytes {zs : List Int} (h : ∀ n ∈ zs, (Lit.int .u8 n).wf = true) : ∃ xs : List UInt8, zs = xs.map fun x => (x.toNat : Int) := by
  induction zs with
  | nil => exact ⟨[], rfl⟩
  | cons n zs ih =>
    obtain ⟨x, hx⟩ := u8_of_wf (h n (by simp))
    obtain ⟨xs, hxs⟩ := ih (fun m hm => h m (by simp [hm]))
    exact ⟨x :: xs, by rw [hx, hxs]; rfl⟩

/-- a slice of bytes among what came in -/
theorem open_bytes {w : World} {base : Nat} {held : Bool} {fuel : Nat} {t e : TypeId} {v : Value} {x : DataW H × List MemPlace} (ht : P.underlying t = some (.slice e)) (he : P.underlying e = some (.int .u8)) (hc : P.cellsOf e = 1) (hb : P.bytesOf e = 1)
    (h : DataW.trod enc P w base (fun _ => true) held fuel t [v] = some x) (hf : Fits P t x.1) :
    ∃ p n cp xs, v = .slice p n cp ∧ xs.length = n ∧ n ≤ cp ∧ cp ≤ 140737488351232 ∧ (p = none → cp = 0) ∧ Rd w p (u8s xs) := by
  rcases open_ints ht he hc h with ⟨h1, h2⟩ | ⟨a, len, cap, zs, h1, _, hl, hm, hz, hx, hcell, hwf⟩
  · obtain rfl : v = .slice none 0 0 := by simpa using h1
    exact ⟨none, 0, 0, [], rfl, rfl, Nat.le_refl _, by omega, fun _ => rfl, Rd.nil _ _⟩
  · obtain rfl : v = .slice (some a) len cap := by simpa using h1
    simp only [if_true] at hz
    obtain ⟨xs, rfl⟩ := ints_bytes hwf
    have hcp : cap ≤ 140737488351232 := by
      rw [hx] at hf
      have := fits_slice ht hf
      rw [hb, Nat.mul_one] at this
      simp only [lits, List.length_map, List.length_take, List.length_drop, hz] at this
      simp only [List.length_map] at hz
      simp only [reachBytes] at this
      omega
    simp only [List.length_map] at hz hcell
    refine ⟨some a, len, cap, xs.take len, rfl, by rw [List.length_take]; omega, hl, hcp, by simp, ?_⟩
    rw [← u8s_take]
    refine Rd.take ?_ _
    rcases Nat.eq_zero_or_pos cap with h0 | h0
    · exact .inl (by rw [List.eq_nil_of_length_eq_zero (hz.trans h0)]; rfl)
    · obtain ⟨b, off, rfl, hcc⟩ := ints_at (k := .u8) (zs := xs.map fun x => (x.toNat : Int)) (by simpa using hcell) (by simp; omega)
      refine .inr ⟨b, off, rfl, fun j v hv => ?_⟩
      have hj : j < xs.length := by
        have := (List.getElem?_eq_some_iff.1 hv).1
        rwa [u8s_length] at this
      rw [u8s_get hj] at hv
      cases hv
      have := hcc j (by simp [hj])
      rw [this]
      simp [List.getD_eq_getElem?_getD, hj]
/-- a byte, an int among what came in -/
theorem open_u8 {w : World} {base : Nat} {spare : Nat → Bool} {held : Bool} {fuel : Nat} {t : TypeId} {v : Value} {x : DataW H × List MemPlace} (ht : P.underlying t = some (.int .u8))
    (h : DataW.trod enc P w base spare held fuel t [v] = some x) : ∃ b : UInt8, v = .int .u8 (b.toNat : Int) := by
  obtain ⟨n, hc, _, hw⟩ := DataW.trod_int ht h
  obtain ⟨b, rfl⟩ := u8_of_wf hw
  exact ⟨b, by simpa using hc⟩
theorem open_i64 {w : World} {base : Nat} {spare : Nat → Bool} {held : Bool} {fuel : Nat} {t : TypeId} {v : Value} {x : DataW H × List MemPlace} (ht : P.underlying t = some (.int .i64))
    (h : DataW.trod enc P w base spare held fuel t [v] = some x) : ∃ a : Int, v = .int .i64 a ∧ (-9223372036854775808 ≤ a ∧ a ≤ 9223372036854775807) := by
  obtain ⟨n, hc, _, hw⟩ := DataW.trod_int ht h
  exact ⟨n, by simpa using hc, i64_of_wf hw⟩
/-- an argument of one cell -/
theorem arg_slice {W : World} {r : Reach} {b0 base : Nat} {spare : Nat → Bool} {held : Bool} {t e : TypeId} {v : Value} {d : DataW H} {ps : List MemPlace} (ht : P.underlying t = some (.slice e)) (hok : Value.okWide P W r b0 t v)
    (h : DataW.Trod enc P W base spare held t v d ps) : ∃ fu, DataW.trod enc P W base spare held fu t [v] = some (d, ps) := by
  obtain ⟨a, len, cap, rfl⟩ := okWide_slice ht hok
  exact h
theorem arg_int {W : World} {r : Reach} {b0 base : Nat} {spare : Nat → Bool} {held : Bool} {t : TypeId} {k : IntKind} {v : Value} {d : DataW H} {ps : List MemPlace} (ht : P.underlying t = some (.int k)) (hok : Value.okWide P W r b0 t v)
    (h : DataW.Trod enc P W base spare held t v d ps) : ∃ fu, DataW.trod enc P W base spare held fu t [v] = some (d, ps) := by
  obtain ⟨n, rfl⟩ := okWide_int ht hok
  exact h
theorem arg_string {W : World} {r : Reach} {b0 base : Nat} {spare : Nat → Bool} {held : Bool} {t : TypeId} {v : Value} {d : DataW H} {ps : List MemPlace} (ht : P.underlying t = some .string) (hok : Value.okWide P W r b0 t v)
    (h : DataW.Trod enc P W base spare held t v d ps) : ∃ fu, DataW.trod enc P W base spare held fu t [v] = some (d, ps) := by
  obtain ⟨s, rfl⟩ := okWide_string ht hok
  exact h
end
end Go.Proofs.YtfoplbolbjcggaaDoor
