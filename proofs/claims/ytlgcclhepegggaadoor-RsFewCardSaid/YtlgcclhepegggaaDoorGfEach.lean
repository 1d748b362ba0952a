/- The walk of gf.each: a kernel at every place of the longer list. -/
import Derived.Test.YtlgcclhepegggaaDoorGfDot
import Derived.Test.YtlgcclhepegggaaDoorMem
namespace Go.Proofs.YtlgcclhepegggaaDoor
open Go.RowKit

theorem Tryd.infoU8 : (Tryd.prog.info? 5).map (fun i => (i.zero, i.size, i.bytes)) = some (some (.int .u8 0), 1, 1) := by kernel_rfl
theorem Tryd.sizeU8 : (Tryd.prog.info? 5).map (·.size) = some 1 := by kernel_rfl

/-- the state of 'each' behind k rounds -/
def eachUp (f : UInt8 → UInt8 → UInt8) (xs ys : List UInt8) (L k : Nat) : List UInt8 :=
  (List.range L).map fun i => if i < k then f (xs.getD i 0) (ys.getD i 0) else xs.getD i 0
/-- what 'each' answers -/
def eachS (f : UInt8 → UInt8 → UInt8) (xs ys : List UInt8) : List UInt8 := eachUp f xs ys (max xs.length ys.length) ys.length
theorem eachUp_length (f : UInt8 → UInt8 → UInt8) (xs ys : List UInt8) (L k : Nat) : (eachUp f xs ys L k).length = L := by simp [eachUp]
theorem eachUp_zero (f : UInt8 → UInt8 → UInt8) (xs ys : List UInt8) {L : Nat} (h : xs.length ≤ L) : eachUp f xs ys L 0 = xs ++ List.replicate (L - xs.length) 0 := by
  apply List.ext_getElem
  · simp [eachUp]; omega
  · intro i h1 h2
    simp only [eachUp, List.getElem_map, List.getElem_range, Nat.not_lt_zero, if_false]
    by_cases hi : i < xs.length
    · rw [List.getElem_append_left hi, List.getD_eq_getElem?_getD, List.getElem?_eq_getElem hi]; rfl
    · rw [List.getElem_append_right (by omega), List.getElem_replicate, List.getD_eq_getElem?_getD, List.getElem?_eq_none (by omega)]; rfl
theorem eachUp_get (f : UInt8 → UInt8 → UInt8) (xs ys : List UInt8) {L k i : Nat} (h2 : i < (eachUp f xs ys L k).length) : (eachUp f xs ys L k)[i] = if i < k then f (xs.getD i 0) (ys.getD i 0) else xs.getD i 0 := by
  simp [eachUp]
theorem eachUp_succ (f : UInt8 → UInt8 → UInt8) (xs ys : List UInt8) (L k : Nat) : (eachUp f xs ys L k).set k (f (xs.getD k 0) (ys.getD k 0)) = eachUp f xs ys L (k + 1) := by
  apply List.ext_getElem
  · simp [eachUp]
  · intro i h1 h2
    rw [List.getElem_set]
    by_cases hk : k = i
    · subst hk; rw [if_pos rfl, eachUp_get, if_pos (by omega)]
    · rw [if_neg hk, eachUp_get, eachUp_get]
      by_cases h3 : i < k
      · rw [if_pos h3, if_pos (by omega)]
      · rw [if_neg h3, if_neg (by omega)]

theorem eachUp_row {wr : World} {g : Nat} (f : UInt8 → UInt8 → UInt8) (xs ys : List UInt8) {L j : Nat} (h : j < ys.length) {h1 : j < (eachUp f xs ys L j).length} (r : Row wr g 5 (u8s (eachUp f xs ys L j))) :
    Row (wr.setCell ⟨g, j, none⟩ (.int .u8 ((f (eachUp f xs ys L j)[j] ys[j]).toNat : Int))) g 5 (u8s (eachUp f xs ys L (j + 1))) := by
  have := r.setCell j (u8 (f (eachUp f xs ys L j)[j] ys[j]))
  rw [u8s_set] at this
  have e : (eachUp f xs ys L j).set j (f (eachUp f xs ys L j)[j] ys[j]) = eachUp f xs ys L (j + 1) := by
    rw [← eachUp_succ]
    congr 2
    · rw [eachUp_get, if_neg (by omega)]
    · rw [List.getD_eq_getElem?_getD, List.getElem?_eq_getElem h]; rfl
  rw [e] at this
  exact this

set_option maxRecDepth 100000 in
theorem each_any (kf : FuncId) (cap : Array Value) (k : UInt8 → UInt8 → UInt8) (p q : Option Addr) (xs ys : List UInt8) (c d : Nat) (w : World)
    (hn : xs.length ≤ 140737488351232) (hm : ys.length ≤ 140737488351232) (hx : Rd w p (u8s xs)) (hy : Rd w q (u8s ys))
    (hcf : ∀ (vs : Array Value) (W : World), (callFunc kf vs).run Tryd.prog W = .ok (.enter kf vs) W)
    (hk : ∀ (a b : UInt8) (W : World), Below w.heap.size w W → Calls Tryd.prog kf (#[.int .u8 (a.toNat : Int), .int .u8 (b.toNat : Int)] ++ cap) W fun e w' => e = .returned (.int .u8 ((k a b).toNat : Int)) ∧ W = w') :
    Calls Tryd.prog 69 #[.slice p xs.length c, .slice q ys.length d, .func (.func kf) #[] cap] w fun e w' =>
      ∃ g, e = .returned (.slice (some ⟨g, 0, none⟩) (max xs.length ys.length) (max xs.length ys.length)) ∧ w.heap.size ≤ g ∧ Row w' g 5 (u8s (eachS k xs ys)) ∧ Only [] w w' := by
  obtain ⟨n, hn'⟩ : ∃ n, xs.length = n := ⟨_, rfl⟩
  obtain ⟨m, hm'⟩ : ∃ m, ys.length = m := ⟨_, rfl⟩
  obtain ⟨L, hL⟩ : ∃ L, max n m = L := ⟨_, rfl⟩
  rw [hn', hm', hL]
  have hmax : (if n < m then (m : Int) else (n : Int)) = (L : Int) := by rw [← hL]; split <;> omega
  have hxn : n ≤ L := by omega
  have hxm : m ≤ L := by omega
  have Hn := Lib.hid hn'
  have Hm := Lib.hid hm'
  have HL := Lib.hid hL
  rw [hn'] at hn
  rw [hm'] at hm
  clear hn' hm' hL
  go_enter Tryd.func69, Tryd.ntmps69
  go_wp2_with fail
  obtain ⟨g, w1, hr, hg, r1, o1⟩ := make_row w Tryd.underlying27 Tryd.infoU8 rfl .i64 .i64 L L (by omega) (by omega) (by omega)
  rw [hr]
  clear hr
  go_wp2_with fail
  obtain ⟨w2, hr, r2, o2⟩ := copy_row w1 (dT := 27) (sT := 27) (ty := 3) (L := L) (dCap := L) (n := n) (c := c) (o := 0) Tryd.underlying27 Tryd.sizeU8 r1 (hx.only0 o1) (by rw [u8s_length, Hn.out]; exact (Nat.min_eq_left hxn).symm) (by rw [u8s_length, Hn.out]; simp; omega) (fun v hv => u8s_one hv)
  rw [hr]
  clear hr
  go_wp2_with fail
  have r3 : Row w2 g 5 (u8s (eachUp k xs ys L 0)) := by
    rw [eachUp_zero k xs ys (by rw [Hn.out]; exact hxn)]
    simpa [u8s, u8, Hn.out] using r2
  have o3 : Only [] w w2 := (o1.transN o2 (by simpa using hg)).drop (by simp)
  clear r1 r2 o1 o2
  go_loopw [21] (fun i wr => ∃ j : Nat, j ≤ m ∧ i = .int .i64 (j : Int) ∧ Row wr g 5 (u8s (eachUp k xs ys L j)) ∧ Only [] w wr) (fun i _ => m - (intOf i).toNat)
  case atStart => exact ⟨0, Nat.zero_le _, rfl, r3, o3⟩
  case round =>
    obtain ⟨j, hj, rfl, r4, o4⟩ := hrel
    by_cases hlt : j < m
    · obtain ⟨b, off, rfl, hyc⟩ := (hy.only0 o4).bytes (by rw [Hm.out]; omega)
      have hc1 := hyc j (by rw [Hm.out]; omega)
      have hc2 := r4.bytes (i := j) (by rw [eachUp_length]; omega)
      have hf := r4.free j
      clear hyc
      go_wp2_with fail
      refine (hk _ _ _ o4.below).mono ?_
      rintro e w' ⟨rfl, rfl⟩
      go_wp2_with fail
      go_roundw
      case rel => exact ⟨j + 1, by omega, by go_num, eachUp_row k xs ys (by rw [Hm.out]; exact hlt) r4, (o4.transN (Only.setCell _ _ _) (by simpa using hg)).drop (by simp)⟩
      case measure => simp [intOf]; omega
    · obtain rfl : j = m := by omega
      go_wp2_with fail
      go_ret
      exact ⟨g, rfl, hg, by have := r4; rw [eachS, Hn.out, Hm.out, HL.out]; exact this, o4⟩
end Go.Proofs.YtlgcclhepegggaaDoor
