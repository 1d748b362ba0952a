/- Slices of structs among what came in, opened; how large they are. -/
import Derived.Test.YtfoplbolbjcggaaDoorLawOpen
import Derived.Deep.Slices
set_option linter.unusedVariables false
set_option maxRecDepth 100000
namespace Go.Proofs.YtfoplbolbjcggaaDoor
open Go.ChangeShapes Go.WideShapes Go.ChangeAt Go.RowKit Go.Deep

section
variable {H : Type} {enc : TypeId × Value → H} {P : Program}

theorem bulk_one (d : DataW H) : 1 ≤ Rows.uptoBulk d := by
  cases d with
  | lit l => cases l <;> simp [Rows.uptoBulk]
  | nil => simp [Rows.uptoBulk]
  | ptr d => simp [Rows.uptoBulk]
  | slice elems spare => simp [Rows.uptoBulk]
  | agg parts => simp [Rows.uptoBulk]
  | iface t d => simp [Rows.uptoBulk]
  | map entries => simp [Rows.uptoBulk]
  | held h => simp [Rows.uptoBulk]
theorem bulk_append (l r : List (DataW H)) : Rows.uptoBulkAll (l ++ r) = Rows.uptoBulkAll l + Rows.uptoBulkAll r := by
  induction l with
  | nil => simp [Rows.uptoBulkAll]
  | cons x l ih => simp only [List.cons_append, Rows.uptoBulkAll, ih]; omega
theorem bulk_mem {d : DataW H} {l : List (DataW H)} (h : d ∈ l) : Rows.uptoBulk d ≤ Rows.uptoBulkAll l := by
  induction l with
  | nil => cases h
  | cons x r ih =>
    simp only [Rows.uptoBulkAll]
    rcases List.mem_cons.1 h with rfl | e
    · omega
    · have := ih e; omega
theorem bulk_length (l : List (DataW H)) : l.length ≤ Rows.uptoBulkAll l := by
  induction l with
  | nil => simp [Rows.uptoBulkAll]
  | cons x r ih => have := bulk_one x; simp only [Rows.uptoBulkAll, List.length_cons]; omega
theorem bulk_range (wt : Nat → Nat) (D : Nat → DataW H) : ∀ n, (∀ i, i < n → wt i ≤ Rows.uptoBulk (D i)) → ((List.range n).map wt).sum ≤ Rows.uptoBulkAll ((List.range n).map D)
  | 0, _ => by simp [Rows.uptoBulkAll]
  | n + 1, h => by
    have := bulk_range wt D n (fun i hi => h i (by omega))
    have h1 := h n (by omega)
    rw [List.range_succ, List.map_append, List.map_append, List.sum_append, bulk_append]
    simp [Rows.uptoBulkAll]; omega

/-- a slice's length and its bulk -/
theorem bulk_slice {w : World} {base : Nat} {spare : Nat → Bool} {held : Bool} {fuel : Nat} {t e : TypeId} {p : Option Addr} {n c : Nat} {x : DataW H × List MemPlace} (ht : P.underlying t = some (.slice e))
    (h : DataW.trod enc P w base spare held fuel t [.slice p n c] = some x) : n + 1 ≤ Rows.uptoBulk x.1 := by
  rcases open_slice ht h with ⟨e1, _⟩ | ⟨a, len, cap, m, k, D, Pl, e1, _, hl, _, _, hx, _⟩
  · obtain ⟨_, rfl, _⟩ : p = none ∧ n = 0 ∧ c = 0 := by simpa using e1
    have := bulk_one x.1; omega
  · obtain ⟨_, rfl, _⟩ : p = some a ∧ n = len ∧ c = cap := by simpa using e1
    rw [hx]
    have := bulk_length ((List.range n).map D)
    simp at this
    simp [Rows.uptoBulk]; omega

/-- a slice whose elements are of K cells, each opened by 'El' -/
theorem open_elems {α : Type} [Inhabited α] {w : World} {base : Nat} {held : Bool} {fuel : Nat} {t e : TypeId} {v : Value} {x : DataW H × List MemPlace} (K : Nat) (El : α → List Value → Prop) (wt : α → Nat) (ht : P.underlying t = some (.slice e)) (hc : P.cellsOf e = K) (hK : 0 < K)
    (hel : ∀ n cs y, cs.length = K → DataW.trod enc P w base (fun _ => true) held n e cs = some y → Fits P e y.1 → ∃ o, El o cs ∧ wt o ≤ Rows.uptoBulk y.1)
    (h : DataW.trod enc P w base (fun _ => true) held fuel t [v] = some x) (hf : Fits P t x.1) :
    ∃ p n cp, ∃ os : List α, v = .slice p n cp ∧ os.length = n ∧ n ≤ cp ∧ cp * P.bytesOf e ≤ reachBytes ∧ (p = none → n = 0 ∧ cp = 0) ∧ (os.map wt).sum ≤ Rows.uptoBulk x.1 ∧
      (∀ a, p = some a → 0 < n → ∃ b off, a = ⟨b, off, none⟩) ∧
      ∀ (j : Nat) o b off, os[j]? = some o → p = some ⟨b, off, none⟩ → ∃ cs, El o cs ∧ cs.length = K ∧ ∀ f, f < K → w.cell? ⟨b, off + j * K + f, none⟩ = cs[f]? := by
  have hsz : ∀ elems spare, x.1 = .slice elems spare → (elems.length + spare.length) * P.bytesOf e ≤ reachBytes := fun elems spare e1 => fits_slice ht (e1 ▸ hf)
  have hfe : ∀ elems spare, x.1 = .slice elems spare → ∀ d ∈ elems, Fits P e d := fun elems spare e1 d hd => fits_elem ht (e1 ▸ hf) hd
  rcases open_slice ht h with ⟨e1, e2⟩ | ⟨a, len, cap, m, k, D, Pl, e1, hb, hl, hm, hmm, hx, hcell⟩
  · obtain rfl : v = .slice none 0 0 := by simpa using e1
    exact ⟨none, 0, 0, [], rfl, rfl, Nat.le_refl _, by simp, fun _ => ⟨rfl, rfl⟩, by simp, by simp, by simp⟩
  · obtain rfl : v = .slice (some a) len cap := by simpa using e1
    simp only [if_true] at hmm
    subst hmm
    have hx1 : x.1 = .slice ((List.range len).map D) ((List.range (m - len)).map fun j => D (len + j)) := by rw [hx]
    have each : ∀ i, i < len → ∃ o : α, ∃ cs, El o cs ∧ wt o ≤ Rows.uptoBulk (D i) ∧ cs.length = K ∧ ∀ f, f < K → w.cell? (a.add (i * K + f)) = cs[f]? := by
      intro i hi
      obtain ⟨cs', h1, h2⟩ := hcell i (by omega)
      rw [hc] at h1
      obtain ⟨_, hlen, hcl⟩ := World.cells?_some h1
      obtain ⟨o, h3, h4⟩ := hel k cs' _ hlen h2 (hfe _ _ hx1 (D i) (List.mem_map.2 ⟨i, List.mem_range.2 hi, rfl⟩))
      exact ⟨o, cs', h3, h4, hlen, fun f hf => by rw [← hcl f hf, add_add]⟩
    obtain ⟨f, hfn⟩ := choose_lt each
    refine ⟨some a, len, m, (List.range len).map f, rfl, by simp, hl, ?_, by simp, ?_, ?_, ?_⟩
    · have := hsz _ _ hx1
      simp only [List.length_map, List.length_range] at this
      rwa [show len + (m - len) = m by omega] at this
    · rw [hx1, List.map_map]
      have := bulk_range (wt ∘ f) D len (fun i hi => (hfn i hi).choose_spec.2.1)
      simp only [Rows.uptoBulk]
      omega
    · intro a' ha' hn
      obtain rfl := Option.some.inj ha'
      obtain ⟨cs, _, _, hlen, h0⟩ := hfn 0 hn
      obtain ⟨b, off, spot⟩ := a
      have h1 := h0 0 hK
      rw [Nat.zero_mul, Nat.zero_add] at h1
      have hcs : ∃ u, cs[0]? = some u := ⟨_, List.getElem?_eq_getElem (by omega : 0 < cs.length)⟩
      obtain ⟨u, hu⟩ := hcs
      rw [hu] at h1
      have hspot : spot = none := by simpa [Addr.add] using World.cell?_spot h1
      exact ⟨b, off, by rw [hspot]⟩
    · intro j o b off ho ha
      obtain rfl := Option.some.inj ha
      have hj : j < len := by
        have := (List.getElem?_eq_some_iff.1 ho).1
        simpa using this
      have ho' : f j = o := by
        rw [List.getElem?_map, List.getElem?_range hj] at ho
        simpa using ho
      obtain ⟨cs, h1, _, hlen, h2⟩ := hfn j hj
      rw [ho'] at h1
      exact ⟨cs, h1, hlen, fun f hf => by rw [← h2 f hf, Addr.add_lit, Nat.add_assoc]⟩
end
end Go.Proofs.YtfoplbolbjcggaaDoor
