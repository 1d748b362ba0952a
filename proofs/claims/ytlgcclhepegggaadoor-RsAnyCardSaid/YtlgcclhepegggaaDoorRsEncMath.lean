/- Plain laws of shards: what each byte of one is; the data shards are the bytes; sums; any k shards give the data. No program in sight. -/
import Derived.Test.YtlgcclhepegggaaDoorRsElim
set_option linter.unusedVariables false
namespace Go.Proofs.YtlgcclhepegggaaDoor
open Go.RowKit

theorem getD_some {α : Type} {l : List α} {i : Nat} {x : α} (z : α) (h : l[i]? = some x) : l.getD i z = x := by rw [List.getD_eq_getElem?_getD, h]; rfl
theorem gsum_succ (k : Nat) (f : Nat → UInt8) : gsum (k + 1) f = gadd (gsum k f) (f k) := rfl
theorem ent_some {R : List (List UInt8)} {i j : Nat} {l : List UInt8} (h : R[i]? = some l) : ent R i j = l.getD j 0 := by unfold ent; rw [getD_some _ h]
theorem combB_up {cs : List UInt8} {ls : List (List UInt8)} {size k : Nat} (hc : cs.length = k) (hl : ls.length = k) (b : Nat) : ∀ j, j ≤ k → (combB (cs.take j) (ls.take j) size).getD b 0 = gsum j fun t => gmul (cs.getD t 0) (ent ls t b)
  | 0, _ => by
    show (List.replicate size (0 : UInt8)).getD b 0 = 0
    rw [List.getD_eq_getElem?_getD, List.getElem?_replicate]
    split <;> rfl
  | j + 1, hj => by
    obtain ⟨x, hx⟩ : ∃ x, cs[j]? = some x := ⟨_, List.getElem?_eq_getElem (by omega)⟩
    obtain ⟨l, hl'⟩ : ∃ l, ls[j]? = some l := ⟨_, List.getElem?_eq_getElem (by omega)⟩
    rw [combB_step hx hl', addS_getD, combB_up hc hl b j (by omega), gsum_succ, ent_some hl', getD_some _ hx]
/-- each byte of a sum of lists -/
theorem combB_ent {cs : List UInt8} {ls : List (List UInt8)} {size k : Nat} (hc : cs.length = k) (hl : ls.length = k) (b : Nat) : (combB cs ls size).getD b 0 = dotN k (fun j => cs.getD j 0) (fun j => ent ls j b) := by
  have := combB_up (size := size) hc hl b k (Nat.le_refl _)
  rw [combB_full hc hl] at this
  exact this
theorem rowB_ent {k n j : Nat} (hj : j < k) : (rowB k n).getD j 0 = factor k n j := by rw [List.getD_eq_getElem?_getD, rowB_get hj]; rfl
theorem list_ext {k : Nat} {a b : List UInt8} (ha : a.length = k) (hb : b.length = k) (h : ∀ j, j < k → a.getD j 0 = b.getD j 0) : a = b := by
  apply List.ext_getElem (by omega)
  intro j h1 h2
  have := h j (by omega)
  rwa [getD_at h1, getD_at h2] at this
/-- a data shard is the data -/
theorem combB_unit {k n size : Nat} {D : List (List UInt8)} (hn : n < k) (hD : D.length = k) (he : ∀ l ∈ D, l.length = size) : combB (rowB k n) D size = D.getD n [] := by
  refine list_ext (combB_len he) (getD_len he (by omega)) fun b hb => ?_
  rw [combB_ent (rowB_len k n) hD]
  exact dotN_unit hn (fun j hj => by rw [rowB_ent hj]; unfold factor; rw [if_pos hn]; by_cases e : n = j <;> simp [e, eq_comm])
theorem chunks_flatten (size : Nat) : ∀ (k : Nat) (l : List UInt8), l.length = k * size → ((List.range k).map fun j => (l.drop (j * size)).take size).flatten = l
  | 0, l, h => by
    have : l = [] := List.eq_nil_of_length_eq_zero (by omega)
    subst this; rfl
  | k + 1, l, h => by
    rw [List.range_succ_eq_map, List.map_cons, List.flatten_cons, List.map_map]
    have ih := chunks_flatten size k (l.drop size) (by rw [List.length_drop, h, Nat.add_mul, Nat.one_mul]; omega)
    have e : ((fun j => (l.drop (j * size)).take size) ∘ Nat.succ) = fun j => ((l.drop size).drop (j * size)).take size := funext fun j => by
      show (l.drop ((j + 1) * size)).take size = _
      rw [List.drop_drop, Nat.add_mul, Nat.one_mul, Nat.add_comm]
    rw [e, ih, Nat.zero_mul, List.drop_zero, List.take_append_drop]
theorem dataB_flatten {k size : Nat} {data : List UInt8} (h : data.length ≤ k * size) : (dataB k size data).flatten = padD k size data := chunks_flatten size k _ (padD_len h)
/-- the data shards, one behind the other -/
theorem encB_data {k m size : Nat} {data : List UInt8} (h : data.length ≤ k * size) : ((encB k m size data).take k) = dataB k size data := by
  apply List.ext_getElem?
  intro i
  rw [List.getElem?_take]
  by_cases hi : i < k
  · rw [if_pos hi, encB_get (by omega), combB_unit hi (dataB_len _ _ _) (dataB_each h), List.getD_eq_getElem?_getD]
    rw [List.getElem?_eq_getElem (by rw [dataB_len]; exact hi)]; rfl
  · rw [if_neg hi, List.getElem?_eq_none (by rw [dataB_len]; omega)]

/-! sums -/
theorem padD_getD {k size : Nat} (data : List UInt8) (i : Nat) : (padD k size data).getD i 0 = data.getD i 0 := by
  unfold padD
  by_cases h : i < data.length
  · rw [List.getD_eq_getElem?_getD, List.getElem?_append_left h, ← List.getD_eq_getElem?_getD]
  · rw [getD_out (l := data) 0 (by omega), List.getD_eq_getElem?_getD, List.getElem?_append_right (by omega), List.getElem?_replicate]
    split <;> rfl
theorem dataB_ent {k size j b : Nat} (data : List UInt8) (hj : j < k) (hb : b < size) : ent (dataB k size data) j b = data.getD (j * size + b) 0 := by
  rw [ent_some (dataB_get hj), List.getD_eq_getElem?_getD, List.getElem?_take, if_pos hb, List.getElem?_drop, ← List.getD_eq_getElem?_getD, padD_getD]
theorem encB_ent {k m size i b : Nat} {data : List UInt8} (hi : i < k + m) (hb : b < size) : ent (encB k m size data) i b = dotN k (factor k i) (fun j => data.getD (j * size + b) 0) := by
  rw [ent_some (encB_get hi), combB_ent (rowB_len _ _) (dataB_len _ _ _)]
  unfold dotN
  exact gsum_congr k fun j hj => by dsimp only; rw [rowB_ent hj, dataB_ent data hj hb]
theorem dotN_sum (k : Nat) (a d e : Nat → UInt8) : dotN k a (fun j => gadd (d j) (e j)) = gadd (dotN k a d) (dotN k a e) := by
  unfold dotN
  rw [← gsum_add]
  exact gsum_congr k fun j _ => gmul_gadd _ _ _
def xorL (xs ys : List UInt8) : List UInt8 := (xs.zip ys).map fun p => p.1 ^^^ p.2
theorem xorL_len {xs ys : List UInt8} {n : Nat} (hx : xs.length = n) (hy : ys.length = n) : (xorL xs ys).length = n := by unfold xorL; simp [hx, hy]
theorem xorL_getD {xs ys : List UInt8} {n : Nat} (hx : xs.length = n) (hy : ys.length = n) (i : Nat) : (xorL xs ys).getD i 0 = gadd (xs.getD i 0) (ys.getD i 0) := by
  by_cases h : i < n
  · have h1 : i < (xorL xs ys).length := by rw [xorL_len hx hy]; exact h
    rw [getD_at h1, getD_at (by omega), getD_at (by omega)]
    simp [xorL, gadd]
  · rw [getD_out 0 (by rw [xorL_len hx hy]; omega), getD_out (l := xs) 0 (by omega), getD_out (l := ys) 0 (by omega)]; rfl
/-- the shards of a sum are the sums of the shards -/
theorem encB_xor {k m size n i b : Nat} {xs ys : List UInt8} (hx : xs.length = n) (hy : ys.length = n) (hi : i < k + m) (hb : b < size) :
    ent (encB k m size (xorL xs ys)) i b = gadd (ent (encB k m size xs) i b) (ent (encB k m size ys) i b) := by
  rw [encB_ent hi hb, encB_ent hi hb, encB_ent hi hb, ← dotN_sum]
  unfold dotN
  exact gsum_congr k fun j _ => by dsimp only; rw [xorL_getD hx hy]

/-! any k shards -/
theorem nodup_sub : ∀ (l m : List Nat), l.Nodup → (∀ x ∈ l, x ∈ m) → l.length ≤ m.length
  | [], _, _, _ => by simp
  | a :: l, m, hn, hs => by
    have hn' := List.nodup_cons.1 hn
    have hm := hs a (by simp)
    have := nodup_sub l (m.erase a) hn'.2 (fun x hx => by
      have hxa : x ≠ a := fun e => hn'.1 (e ▸ hx)
      exact (List.mem_erase_of_ne hxa).2 (hs x (by simp [hx])))
    rw [List.length_erase_of_mem hm] at this
    have := List.length_pos_of_mem hm
    simp only [List.length_cons]; omega
theorem gsum_list (f : Nat → UInt8) : ∀ k, gsum k f = ((List.range k).map f).foldl gadd 0
  | 0 => rfl
  | k + 1 => by rw [List.range_succ, List.map_append, List.foldl_append, ← gsum_list f k]; rfl
theorem u8_nat {a b : Nat} (ha : a < 256) (hb : b < 256) (h : UInt8.ofNat a = UInt8.ofNat b) : a = b := by
  have := congrArg UInt8.toNat h
  simp only [UInt8.toNat_ofNat'] at this
  omega
theorem u8_xor_ofNat (a b : Nat) : UInt8.ofNat (a ^^^ b) = gadd (UInt8.ofNat a) (UInt8.ofNat b) := by
  unfold gadd
  apply UInt8.toNat_inj.1
  rw [UInt8.toNat_xor, UInt8.toNat_ofNat', UInt8.toNat_ofNat', UInt8.toNat_ofNat']
  exact Nat.xor_mod_two_pow (n := 8)
/-- sums over a list of numbers -/
def nsum : List Nat → (Nat → UInt8) → UInt8
  | [], _ => 0
  | x :: l, f => gadd (f x) (nsum l f)
theorem nsum_append (f : Nat → UInt8) : ∀ (l m : List Nat), nsum (l ++ m) f = gadd (nsum l f) (nsum m f)
  | [], m => (zero_gadd _).symm
  | x :: l, m => by
    show gadd (f x) (nsum (l ++ m) f) = gadd (gadd (f x) (nsum l f)) (nsum m f)
    rw [nsum_append f l m, gadd_assoc]
theorem gsum_nsum (f : Nat → UInt8) : ∀ k, gsum k f = nsum (List.range k) f
  | 0 => rfl
  | k + 1 => by rw [List.range_succ, nsum_append, ← gsum_nsum f k]; show _ = gadd _ (gadd (f k) 0); rw [gadd_zero]; rfl
theorem nsum_filter (f : Nat → UInt8) (p : Nat → Bool) : ∀ (l : List Nat), (∀ x ∈ l, p x = false → f x = 0) → nsum l f = nsum (l.filter p) f
  | [], _ => rfl
  | x :: l, h => by
    have ih := nsum_filter f p l (fun y hy => h y (by simp [hy]))
    show gadd (f x) (nsum l f) = _
    rw [List.filter_cons]
    cases hp : p x with
    | true => simp only [if_true]; show _ = gadd (f x) (nsum (l.filter p) f); rw [ih]
    | false => simp only [Bool.false_eq_true, if_false]; rw [h x (by simp) hp, zero_gadd, ih]
theorem nsum_map (g : UInt8 → UInt8) : ∀ (l : List Nat), nsum l (fun j => g (UInt8.ofNat j)) = lsum (l.map UInt8.ofNat) g
  | [] => rfl
  | x :: l => by show gadd _ (nsum l _) = gadd _ (lsum _ g); rw [nsum_map g l]
theorem nodup_ofNat : ∀ (l : List Nat), l.Nodup → (∀ x ∈ l, x < 256) → (l.map UInt8.ofNat).Nodup
  | [], _, _ => List.nodup_nil
  | a :: l, h, hb => by
    have h' := List.nodup_cons.1 h
    rw [List.map_cons, List.nodup_cons]
    refine ⟨fun hm => ?_, nodup_ofNat l h'.2 (fun x hx => hb x (by simp [hx]))⟩
    obtain ⟨x, hx, he⟩ := List.mem_map.1 hm
    have := u8_nat (hb x (by simp [hx])) (hb a (by simp)) he
    exact h'.1 (this ▸ hx)
theorem filter_split {α : Type} (p : α → Bool) : ∀ (l : List α), (l.filter p).length + (l.filter fun x => !p x).length = l.length
  | [] => rfl
  | x :: l => by
    have := filter_split p l
    rw [List.filter_cons, List.filter_cons]
    cases hp : p x <;> simp <;> omega
/-- the rows of any k shards are independent -/
theorem ind_rows {k : Nat} (hk : k ≤ 16) {N : List Nat} (hl : N.length = k) (hn : N.Nodup) (hb : ∀ x ∈ N, x < 16) : Ind k (fun i => factor k (N.getD i 0)) := by
  intro d hd
  have hrow : ∀ n ∈ N, dotN k (factor k n) d = 0 := fun n hm => by
    obtain ⟨i, hi⟩ := List.getElem?_of_mem hm
    have hik := (List.getElem?_eq_some_iff.1 hi).1
    have := hd i (by omega)
    dsimp only at this
    rwa [getD_some _ hi] at this
  -- the data shards among them
  have hS : ∀ n ∈ N, n < k → d n = 0 := fun n hm hnk => by
    have := hrow n hm
    rwa [dotN_unit hnk (fun j hj => by unfold factor; rw [if_pos hnk]; by_cases e : n = j <;> simp [e, eq_comm])] at this
  let J : List Nat := (List.range k).filter fun j => !N.contains j
  let I : List Nat := N.filter fun n => decide (k ≤ n)
  have hJl : J.length ≤ I.length := by
    have e1 : ((List.range k).filter fun j => N.contains j).length + J.length = k := by
      have := filter_split (fun j => N.contains j) (List.range k)
      rw [List.length_range] at this
      exact this
    have e2 : I.length + (N.filter fun n => !decide (k ≤ n)).length = k := by
      have := filter_split (fun n => decide (k ≤ n)) N
      rw [hl] at this
      exact this
    have e3 : (N.filter fun n => !decide (k ≤ n)).length ≤ ((List.range k).filter fun j => N.contains j).length := nodup_sub _ _ (hn.filter _) (fun x hx => by
      obtain ⟨h1, h2⟩ := List.mem_filter.1 hx
      exact List.mem_filter.2 ⟨List.mem_range.2 (by simpa using h2), by simpa using h1⟩)
    omega
  let e : UInt8 → UInt8 := fun x => d x.toNat
  have hJ : ∀ j ∈ J, j < k ∧ j ∉ N := fun j hj => by
    obtain ⟨h1, h2⟩ := List.mem_filter.1 hj
    exact ⟨List.mem_range.1 h1, by simpa using h2⟩
  have hI : ∀ n ∈ I, n ∈ N ∧ k ≤ n := fun n hn => by
    obtain ⟨h1, h2⟩ := List.mem_filter.1 hn
    exact ⟨h1, by simpa using h2⟩
  have hto : ∀ j, j < 256 → (UInt8.ofNat j).toNat = j := fun j hj => by rw [UInt8.toNat_ofNat']; omega
  have hmain := cauchy_ind (J.map UInt8.ofNat) (I.map UInt8.ofNat) e (by simp only [List.length_map]; exact hJl)
    (nodup_ofNat J (List.nodup_range.filter _) (fun x hx => by have := (hJ x hx).1; omega))
    (nodup_ofNat I (hn.filter _) (fun x hx => by have := hb x (hI x hx).1; omega))
    (fun n hn j hj he => by
      obtain ⟨n', hn', rfl⟩ := List.mem_map.1 hn
      obtain ⟨j', hj', rfl⟩ := List.mem_map.1 hj
      have h1 := hI n' hn'
      have h2 := hJ j' hj'
      have := u8_nat (by have := hb n' h1.1; omega) (by omega) he
      omega)
    (fun n hn => by
      obtain ⟨n', hn', rfl⟩ := List.mem_map.1 hn
      have h1 := hI n' hn'
      have h0 := hrow n' h1.1
      unfold dotN at h0
      rw [gsum_nsum, nsum_filter _ (fun j => !N.contains j) _ (fun x hx hp => by
        have hxN : x ∈ N := by simpa using hp
        rw [hS x hxN (List.mem_range.1 hx), gmul_zero_right])] at h0
      unfold cau
      rw [← nsum_map]
      have hcongr : ∀ (l : List Nat) (f g : Nat → UInt8), (∀ x ∈ l, f x = g x) → nsum l f = nsum l g := by
        intro l
        induction l with
        | nil => intro f g _; rfl
        | cons x l ih =>
          intro f g h
          show gadd (f x) (nsum l f) = gadd (g x) (nsum l g)
          rw [h x (by simp), ih f g (fun y hy => h y (by simp [hy]))]
      rw [← h0]
      refine hcongr J _ _ fun j hj => ?_
      have h2 := hJ j hj
      have hnb := hb n' h1.1
      show gmul (d (UInt8.ofNat j).toNat) _ = _
      rw [hto j (by omega)]
      unfold factor
      rw [if_neg (by omega), u8_xor_ofNat]
      have hne : gadd (UInt8.ofNat n') (UInt8.ofNat j) ≠ 0 := gadd_ne (fun he => by have := u8_nat (by omega) (by omega) he; omega)
      rw [ginvZ_ne hne, gmul_comm])
  intro j hj
  by_cases hm : j ∈ N
  · exact hS j hm hj
  · have hjJ : j ∈ J := List.mem_filter.2 ⟨List.mem_range.2 hj, by simpa using hm⟩
    have := hmain (UInt8.ofNat j) (List.mem_map.2 ⟨j, hjJ, rfl⟩)
    have h2 : e (UInt8.ofNat j) = d j := by show d (UInt8.ofNat j).toNat = d j; rw [hto j (by omega)]
    rwa [h2] at this
/-- any k shards of the data give the data -/
theorem solve_any_k {k m size : Nat} {data : List UInt8} {N : List Nat} {s : St} (hk : k + m ≤ 16) (h : data.length ≤ k * size) (hl : N.length = k) (hn : N.Nodup) (hb : ∀ x ∈ N, x < k + m)
    (hR : s.1 = N.map (rowB k)) (hV : s.2 = N.map fun n => combB (rowB k n) (dataB k size data) size) : (solveS s).2 = dataB k size data := by
  have hs : Shape k size s := ⟨by rw [hR, List.length_map, hl], by rw [hV, List.length_map, hl], fun l hl => by rw [hR] at hl; obtain ⟨n, -, rfl⟩ := List.mem_map.1 hl; exact rowB_len _ _, fun l hl => by
    rw [hV] at hl; obtain ⟨n, -, rfl⟩ := List.mem_map.1 hl; exact combB_len (dataB_each h)⟩
  have hN : ∀ i, i < k → N[i]? = some (N.getD i 0) := fun i hi => by rw [List.getD_eq_getElem?_getD, List.getElem?_eq_getElem (by omega)]; rfl
  have eR : ∀ i t, i < k → t < k → ent s.1 i t = factor k (N.getD i 0) t := fun i t hi ht => by
    rw [hR, ent_some (l := rowB k (N.getD i 0)) (by rw [List.getElem?_map, hN i hi]; rfl)]
    exact rowB_ent ht
  refine solve_data hs ?_ ?_ (dataB_len _ _ _) (dataB_each h)
  · intro d hd
    refine ind_rows (by omega) hl hn (fun x hx => by have := hb x hx; omega) d (fun i hi => ?_)
    have := hd i hi
    rwa [dotN_congr (fun t ht => eR i t hi ht)] at this
  · intro i j hi hj
    rw [dotN_congr (fun t ht => eR i t hi ht), hV]
    rw [ent_some (l := combB (rowB k (N.getD i 0)) (dataB k size data) size) (by rw [List.getElem?_map, hN i hi]; rfl), combB_ent (rowB_len _ _) (dataB_len _ _ _)]
    unfold dotN
    exact gsum_congr k fun t ht => by dsimp only; rw [rowB_ent ht]
end Go.Proofs.YtlgcclhepegggaaDoor
