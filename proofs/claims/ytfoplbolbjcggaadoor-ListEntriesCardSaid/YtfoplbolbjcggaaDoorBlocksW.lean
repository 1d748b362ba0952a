/- The walks of frame.Blocks and of what it hands back: over the blocks. -/
import Derived.Test.YtfoplbolbjcggaaDoorProg
import Derived.Test.YtfoplbolbjcggaaDoorRange
import Derived.Test.YtfoplbolbjcggaaDoorSlicesW
set_option linter.unusedVariables false
set_option maxRecDepth 100000
namespace Go.Proofs.YtfoplbolbjcggaaDoor
open Go.RowKit
attribute [local go_sem] Oper.semAt_some

/-- block number i of bytes, and how many there are -/
def chunk (xs : List UInt8) (i : Nat) : List UInt8 := (xs.drop (32 * i)).take 32
def nblk (xs : List UInt8) : Nat := (xs.length + 31) / 32
def blks (xs : List UInt8) : List (Nat × List UInt8) := (List.range (nblk xs)).map fun i => (i, chunk xs i)
theorem blks_length (xs : List UInt8) : (blks xs).length = nblk xs := by simp [blks]
theorem blks_get (xs : List UInt8) {i : Nat} (h : i < nblk xs) : (blks xs)[i]? = some (i, chunk xs i) := by simp [blks, h]
theorem chunk_length (xs : List UInt8) (i : Nat) : (chunk xs i).length = min 32 (xs.length - 32 * i) := by simp [chunk]
theorem blks_split (xs : List UInt8) {i : Nat} (h : i < nblk xs) : blks xs = (blks xs).take i ++ (i, chunk xs i) :: (blks xs).drop (i + 1) := by
  have hl := blks_length xs
  have hi : i < (blks xs).length := by omega
  have hg : (blks xs)[i] = (i, chunk xs i) := by
    have := blks_get xs h
    rw [List.getElem?_eq_getElem hi] at this
    exact Option.some.inj this
  rw [← hg, List.getElem_cons_drop, List.take_append_drop]
theorem blks_take (xs : List UInt8) {i : Nat} (h : i < nblk xs) : (blks xs).take (i + 1) = (blks xs).take i ++ [(i, chunk xs i)] := by
  rw [List.take_add_one, blks_get xs h]; rfl
theorem Rd.sub {w : World} {p : Option Addr} {vs : List Value} (h : Rd w p vs) (m : Nat) : Rd w (p.map fun x => x.add m) (vs.drop m) := by
  rcases h with h | ⟨b, off, e, h⟩
  · exact .inl (by simp [h])
  · subst e
    by_cases hm : m = 0
    · subst hm; exact .inr ⟨b, off, rfl, by simpa using h⟩
    · refine .inr ⟨b, off + m, by simp [Addr.add, hm], fun j u hu => ?_⟩
      rw [List.getElem?_drop] at hu
      rw [show off + m + j = off + (m + j) by omega]
      exact h _ _ hu
theorem blkLt {w : World} {base n c : Nat} {e : TypeId} {p : Option Addr} {vs : List Value} (h : Own w base e (.slice p n c) vs) : ∀ x ∈ blk p, x < w.heap.size := fun x hx => by
  cases p with
  | none => cases hx
  | some a => simp [blk] at hx; subst hx; exact (h.view.2.2.2.2.2 a rfl).2
theorem blkGe {w : World} {base n c : Nat} {e : TypeId} {p : Option Addr} {vs : List Value} (h : Own w base e (.slice p n c) vs) : ∀ x ∈ blk p, base ≤ x := fun x hx => by
  cases p with
  | none => cases hx
  | some a => simp [blk] at hx; subst hx; exact (h.view.2.2.2.2.2 a rfl).1
/-- what the closure has captured -/
structure BlkAt (w : World) (c : Nat) (p : Option Addr) (k : Nat) (xs : List UInt8) : Prop where
  row : Row w c 22 [.slice p xs.length k]
  own : Own w 0 5 (.slice p xs.length k) (u8s xs)
  ne : c ∉ blk p
theorem BlkAt.only {S : List Nat} {w w' : World} {c k : Nat} {p : Option Addr} {xs : List UInt8} (h : BlkAt w c p k xs) (ho : Only S w w') (hS : ∀ x ∈ c :: blk p, x ∉ S) : BlkAt w' c p k xs :=
  ⟨h.row.only ho (hS c (by simp)), h.own.only ho (fun x hx hm => hS x (List.mem_cons_of_mem _ (by
    cases p with
    | none => simp [Value.ownBlock] at hx
    | some a => simp [Value.ownBlock] at hx; simp [blk, hx])) hm), h.ne⟩
def blkF (c : Nat) : Value := .func (.func 44) #[] #[.pointer (some ⟨c, 0, none⟩)]
set_option maxHeartbeats 4000000 in
theorem blocks_any (p : Option Addr) (xs : List UInt8) (n c : Nat) (w : World) (hn : xs.length = n) (hb : n ≤ 140737488351232) (hp : p = none → n = 0 ∧ c = 0) (hx : Rd w p (u8s xs)) :
    Calls Tryd.prog 18 #[.slice p n c] w fun e w' => ∃ g p' k, e = .returned (blkF g) ∧ BlkAt w' g p' k xs ∧ Only [] w w' ∧ ∀ x ∈ g :: blk p', w.heap.size ≤ x := by
  obtain ⟨w1, hw1⟩ : ∃ w1, w1 = w.alloc (.cells #[.slice p n c] 22) := ⟨_, rfl⟩
  have o1 : Only [] w w1 := by rw [hw1]; exact Only.alloc _ _
  have r1 : Row w1 w.heap.size 22 [.slice p n c] := by rw [hw1]; exact Row.newOf _ _ _ _ rfl
  have hcl := clone_any p xs n c w1 hn (by omega) hp (hx.only0 o1)
  have c1 := r1.cell (i := 0) rfl
  have HO1 := Lib.hid o1
  have HR1 := Lib.hid r1
  have Hw1 := Lib.hid hw1
  have Hn := Lib.hid hn
  have hmf : ∀ (fn : Fn) (first cap : Array Value) (w : World), (Instr.makeFunc fn first cap).run Tryd.prog w = .ok (.func fn first cap) w := fun _ _ _ _ => rfl
  rw [hw1] at c1
  clear o1 r1 hw1 hx hn
  go_enter Tryd.func18, Tryd.ntmps18
  go_wp2_with fail
  rw [← Hw1.out]
  refine hcl.mono ?_
  clear hcl c1
  rintro e w2 ⟨p', k, rfl, own2, o2⟩
  have r2 := HR1.out.only0 o2
  have c2 := r2.cell (i := 0) rfl
  have f2 := r2.free 0
  obtain ⟨w3, hw3⟩ : ∃ w3, w3 = w2.setCell ⟨w.heap.size, 0, none⟩ (.slice p' n k) := ⟨_, rfl⟩
  have o3 : Only [w.heap.size] w2 w3 := by rw [hw3]; exact Only.setCell _ ⟨_, 0, none⟩ _
  have r3 : Row w3 w.heap.size 22 [.slice p' n k] := by rw [hw3]; exact r2.setCell 0 _
  have hlo : ∀ x ∈ blk p', w1.heap.size ≤ x := fun x hx => by
    cases p' with
    | none => cases hx
    | some a => simp [blk] at hx; subst hx; exact (own2.lt _ rfl).1
  have hXlt := HR1.out.lt
  have hne : w.heap.size ∉ blk p' := fun hm => by have := hlo _ hm; omega
  have HE : Hid (BlkAt w3 w.heap.size p' k xs) := Lib.hid (by
    refine ⟨by rw [Hn.out]; exact r3, ?_, hne⟩
    rw [Hn.out]
    exact (own2.only o3 (fun x hx hm => by
      obtain rfl := List.mem_singleton.1 hm
      cases p' with
      | none => simp [Value.ownBlock] at hx
      | some a => simp [Value.ownBlock] at hx; exact hne (by simp [blk, hx]))).weaken (Nat.zero_le _))
  have HO : Hid (Only [] w w3) := Lib.hid ((HO1.out.trans0 o2).transN o3 (by simp))
  have Hw3 := Lib.hid hw3
  have Hlo := Lib.hid hlo
  clear r2 own2 o2 o3 r3 hw3 hlo hne
  go_wp2_with fail
  rw [← Hw3.out]
  go_ret
  refine ⟨_, p', k, rfl, HE.out, HO.out, fun x hx => ?_⟩
  rcases List.mem_cons.1 hx with rfl | hx
  · exact Nat.le_refl _
  · have := Hlo.out x hx; omega
def EncB : Nat × List UInt8 → Array Value → List Nat → World → Prop := fun x vs G A => ∃ q k, vs = #[.int .i64 (x.1 : Int), .slice q x.2.length k] ∧ G = blk q ∧ Own A 0 5 (.slice q x.2.length k) (u8s x.2)
set_option maxHeartbeats 4000000 in
theorem blocks_seq {w : World} {c k : Nat} {p : Option Addr} {xs : List UInt8} (h : BlkAt w c p k xs) (hb : xs.length ≤ 140737488351232) :
    SeqD Tryd.prog 44 #[.pointer (some ⟨c, 0, none⟩)] EncB (blks xs) (c :: blk p) w := by
  intro l J Jx W D o0 hD hJ hJx hY h0
  have hlt : ∀ x ∈ c :: blk p, x < w.heap.size := fun x hx => by
    rcases List.mem_cons.1 hx with rfl | hx
    · exact h.row.lt
    · exact blkLt h.own x hx
  have H := Lib.hid (h.only o0 (by simp))
  have HD := Lib.hid hD
  have HJ := Lib.hid hJ
  have HY := Lib.hid hY
  have H0 := Lib.hid h0
  have HW : Hid (∀ x ∈ c :: blk p, x < W.heap.size) := Lib.hid (fun x hx => Nat.lt_of_lt_of_le (hlt x hx) o0.size)
  generalize hn : xs.length = n at hb
  have Hn := Lib.hid hn
  have hnb : nblk xs = (n + 31) / 32 := by rw [← hn]; rfl
  clear h hD hJ hY h0 hlt hJx hn
  refine (callsIn_wide (n := 10)).1 ?_
  refine callsIn_of_wp Tryd.func44 rfl trivial ?_
  simp only [Tryd.ntmps44, List.size_toArray, List.length_cons, List.length_nil, Nat.reduceAdd, Nat.reduceSub, Array.replicate_succ, Array.replicate_zero, List.push_toArray, List.append_toArray, List.nil_append, List.cons_append]
  gi_wp2_with fail
  gi_loopw [3] (fun a wr => ∃ (i : Nat) (D : List Nat), a = .int .i64 (i : Int) ∧ i ≤ nblk xs ∧ Hid (J ((blks xs).take i) D wr) ∧ Hid (BlkAt wr c p k xs) ∧ Hid (∀ d ∈ D, d ∉ c :: blk p ∧ d < wr.heap.size) ∧ Hid (W.heap.size ≤ wr.heap.size)) (fun a _ => nblk xs - (intOf a).toNat)
  case atStart => exact ⟨0, D, rfl, Nat.zero_le _, H0, H, HD, Lib.hid (Nat.le_refl _)⟩
  case round =>
    obtain ⟨i, D, rfl, hi, HJi, HB, HD, HS⟩ := hrel
    have c0 := HB.out.row.cell (i := 0) rfl
    rw [Hn.out] at c0
    by_cases hlt : i < nblk xs
    · have hin : 32 * i < n := by omega
      have hin2 : (i : Int) * 32 < (n : Int) := by omega
      have hne : xs ≠ [] := fun e => by have := Hn.out; rw [e] at this; simp at this; omega
      obtain ⟨E, hE, hE2, hE3⟩ : ∃ E : Nat, (if (n : Int) < ((i : Int) + 1) * 32 then (n : Int) else ((i : Int) + 1) * 32) = (E : Int) ∧ i * 32 < E ∧ E ≤ n ∧ (E - i * 32 = min 32 (n - 32 * i)) := by
        by_cases h : (n : Int) < ((i : Int) + 1) * 32
        · exact ⟨n, by rw [if_pos h], by omega, by omega, by omega⟩
        · exact ⟨(i + 1) * 32, by rw [if_neg h]; omega, by omega, by omega, by omega⟩
      obtain ⟨hE3, hE4⟩ := hE3
      obtain ⟨m, hm⟩ : ∃ m, E - i * 32 = m := ⟨_, rfl⟩
      rw [hm] at hE4
      have hv := HB.out.own.view
      rw [Hn.out] at hv
      have hcl : chunk xs i = (xs.drop (i * 32)).take m := by
        rw [hE4]
        unfold chunk
        rw [Nat.mul_comm 32 i]
        have : (xs.drop (i * 32)).length = n - i * 32 := by rw [List.length_drop, Hn.out]
        by_cases h : 32 ≤ n - i * 32
        · rw [Nat.min_eq_left h]
        · rw [Nat.min_eq_right (by omega), List.take_of_length_le (by omega), List.take_of_length_le (by omega)]
      have hrd : Rd wr (p.map fun x => x.add (i * 32)) (u8s (chunk xs i)) := by
        have := (hv.1.sub (i * 32)).take m
        rw [hcl]
        unfold u8s at this ⊢
        rw [List.map_take, List.map_drop]
        exact this
      have hcll : (chunk xs i).length = m := by rw [chunk_length, Hn.out]; omega
      have hcln := clone_any (p.map fun x => x.add (i * 32)) (chunk xs i) m (k - i * 32) wr hcll (by omega) (fun e => by
        cases hp : p with
        | none => have := (hv.2.2.1 hp).1; omega
        | some a => rw [hp] at e; cases e) hrd
      have hi0 : (i : Int) ≤ (n : Int) := by omega
      have hEk : (E : Int) ≤ (k : Int) := by have := hv.2.2.2.1; omega
      have hE2i : (i : Int) * 32 ≤ (E : Int) := by omega
      have Hcll := Lib.hid hcll
      have Hcl := Lib.hid hcl
      clear hcl hrd hcll hv hE4
      gi_wp2_with fail
      (with_reducible refine ⟨wideFn _, inW (hcln) ?_⟩)
      rintro e w2 ⟨q, k2, rfl, own2, o2⟩
      clear hcln
      have hnb2 : nblk xs = nblk xs := rfl
      have hDq : ∀ d ∈ D, d < wr.heap.size := fun d hd => (HD.out d hd).2
      have hq : ∀ g ∈ blk q, wr.heap.size ≤ g ∧ g < w2.heap.size := fun g hg => ⟨blkGe own2 g hg, blkLt own2 g hg⟩
      have henc : EncB (i, chunk xs i) #[.int .i64 (i : Int), .slice q m k2] (blk q) w2 := ⟨q, k2, by rw [Hcll.out], rfl, by rw [Hcll.out]; exact own2.weaken (Nat.zero_le _)⟩
      obtain ⟨fn, tmps, assign, body, hy, hR⟩ := HY.out _ (i, chunk xs i) _ D w2 _ (blk q) (HJ.out _ _ _ _ _ HJi.out o2 (by simp)) (blks_split xs hlt) henc (fun g hg => ⟨fun hm => by have := hDq g hm; have := hq g hg; omega, by have := hq g hg; have := HS.out; omega, (hq g hg).2⟩)
      have HR := Lib.hid hR
      have HB2 := Lib.hid (HB.out.only o2 (by simp))
      have Ho2 := Lib.hid o2
      have Hq := Lib.hid hq
      clear hR own2 o2 henc hq hDq HJi
      gi_wp2_with fail
      refine HR.out.mono ?_
      rintro e w3 ⟨D', o3, hD3, ⟨rfl, hj⟩ | ⟨rfl, hj⟩⟩
      · have HB3 : Hid (BlkAt w3 c p k xs) := Lib.hid (HB2.out.only o3 (fun x hx hm => by
          rcases List.mem_append.1 hm with h1 | h1
          · exact (HD.out x h1).1 hx
          · have := (Hq.out x h1).1
            have := HW.out x hx
            have := HS.out
            omega))
        have HJ3 : Hid (J ((blks xs).take (i + 1)) D' w3) := Lib.hid (by rw [blks_take xs hlt]; exact hj)
        have HD4 : Hid (∀ d ∈ D', d ∉ c :: blk p ∧ d < w3.heap.size) := Lib.hid (fun d hd => by
          obtain ⟨h1, h2⟩ := hD3 d hd
          refine ⟨fun hm => ?_, h2⟩
          have h3 := HW.out d hm
          have h4 := HS.out
          have h5 := Ho2.out.size
          rcases h1 with h1 | h1 | h1
          · exact (HD.out d h1).1 hm
          · have := (Hq.out d h1).1; omega
          · omega)
        have HS3 : Hid (W.heap.size ≤ w3.heap.size) := Lib.hid (Nat.le_trans HS.out (Nat.le_trans Ho2.out.size o3.size))
        clear hj o3 hD3
        gi_wp2_with fail
        refine ⟨⟨i + 1, D', by go_num, by omega, HJ3, HB3, HD4, HS3⟩, ?_⟩
        show nblk xs - ((i : Int) + 1).toNat < nblk xs - ((i : Int)).toNat
        omega
      · have Hj := Lib.hid hj
        clear hj o3 hD3
        gi_wp2_with fail
        (first | go_end0 | ((try simp only [Exit.inBlock, Exit.then]); refine bodyPost_ret (results_none rfl _ _ _) rfl ?_))
        exact ⟨⟨_, rfl⟩, .inr ⟨_, D', Hj.out⟩⟩
    · obtain rfl : i = nblk xs := by omega
      have hin2 : ¬ ((nblk xs : Nat) : Int) * 32 < (n : Int) := by omega
      have hJe := HJi.out
      rw [List.take_of_length_le (by rw [blks_length]; exact Nat.le_refl _)] at hJe
      have HJe := Lib.hid hJe
      clear hJe HJi
      gi_wp2_with fail
      (first | go_end0 | ((try simp only [Exit.inBlock, Exit.then]); refine bodyPost_ret (results_none rfl _ _ _) rfl ?_))
      exact ⟨⟨_, rfl⟩, .inl ⟨D, HJe.out⟩⟩
end Go.Proofs.YtfoplbolbjcggaaDoor
