/- The walk of frame.Put. -/
import Derived.Test.YtfoplbolbjcggaaDoorInFormW
import Derived.Test.YtfoplbolbjcggaaDoorShaSums0
import Derived.Test.YtfoplbolbjcggaaDoorRowLoad
import Derived.Test.YtfoplbolbjcggaaDoorRegionIn
import Derived.Test.YtfoplbolbjcggaaDoorRegions
import Derived.Test.YtfoplbolbjcggaaDoorErrs
set_option linter.unusedVariables false
set_option maxRecDepth 100000
namespace Go.Proofs.YtfoplbolbjcggaaDoor
open Go.RowKit Go.Shelf
attribute [local go_sem] Oper.semAt_some

theorem row32 (w : World) (A : List UInt8) (hlA : A.length = 32) : ∃ w5, Hid ((Instr.storeAt 122 (.pointer (some ⟨w.heap.size, 0, none⟩)) (.agg (u8s A).toArray)).run Tryd.prog (w.alloc (.cells #[.int .u8 0, .int .u8 0, .int .u8 0, .int .u8 0, .int .u8 0, .int .u8 0, .int .u8 0, .int .u8 0, .int .u8 0, .int .u8 0, .int .u8 0, .int .u8 0, .int .u8 0, .int .u8 0, .int .u8 0, .int .u8 0, .int .u8 0, .int .u8 0, .int .u8 0, .int .u8 0, .int .u8 0, .int .u8 0, .int .u8 0, .int .u8 0, .int .u8 0, .int .u8 0, .int .u8 0, .int .u8 0, .int .u8 0, .int .u8 0, .int .u8 0, .int .u8 0] 122)) = .ok () w5) ∧ Row w5 w.heap.size 122 (u8s A) ∧ Only [] w w5 ∧ w5.heap.size = w.heap.size + 1 := by
  obtain ⟨W1, hW1⟩ : ∃ W1, W1 = w.alloc (.cells #[.int .u8 0, .int .u8 0, .int .u8 0, .int .u8 0, .int .u8 0, .int .u8 0, .int .u8 0, .int .u8 0, .int .u8 0, .int .u8 0, .int .u8 0, .int .u8 0, .int .u8 0, .int .u8 0, .int .u8 0, .int .u8 0, .int .u8 0, .int .u8 0, .int .u8 0, .int .u8 0, .int .u8 0, .int .u8 0, .int .u8 0, .int .u8 0, .int .u8 0, .int .u8 0, .int .u8 0, .int .u8 0, .int .u8 0, .int .u8 0, .int .u8 0, .int .u8 0] 122) := ⟨_, rfl⟩
  have oW1 : Only [] w W1 := by rw [hW1]; exact Only.alloc _ _
  have r6 : Row W1 w.heap.size 122 (u8s (List.replicate 32 0)) := by rw [hW1]; exact Row.newOf _ _ _ _ (by rfl)
  have hsz : (Tryd.prog.info? 122).map (·.size) = some (u8s A).length := by rw [u8s_length, hlA]; kernel_rfl
  have hst := r6.storeAt (P := Tryd.prog) hsz (by rw [u8s_length, u8s_length, hlA]; rfl) (fun u hu => u8s_one hu)
  have hrow := r6.setRow (u8s A)
  have hos : Only [w.heap.size] W1 (W1.setRow w.heap.size (u8s A).toArray) := Only.setRow _ _ _
  rw [← hW1]
  exact ⟨_, Lib.hid hst, hrow, oW1.transN hos (by simp), by rw [hW1]; simp [World.setRow]⟩

theorem ownBlk {p : Option Addr} {n c x : Nat} (h : (Value.slice p n c).ownBlock = some x) : x ∈ blk p := by
  cases p with
  | none => simp [Value.ownBlock] at h
  | some a => simp [Value.ownBlock] at h; simp [blk, h]
theorem run_idx7 (a b q h z n : Nat) (w : World) {j x : Nat} (hx : [1, a, b, q, h, z, n][j]? = some x) :
    (Instr.index 118 (.agg #[.int .i64 1, .int .i64 (a : Int), .int .i64 (b : Int), .int .i64 (q : Int), .int .i64 (h : Int), .int .i64 (z : Int), .int .i64 (n : Int)]) (.int .i64 (j : Int))).run Tryd.prog w = .ok (.int .i64 (x : Int)) w := by
  have hj : j < 7 := by
    have := (List.getElem?_eq_some_iff.1 hx).1
    simpa using this
  obtain rfl | rfl | rfl | rfl | rfl | rfl | rfl : j = 0 ∨ j = 1 ∨ j = 2 ∨ j = 3 ∨ j = 4 ∨ j = 5 ∨ j = 6 := by omega
  all_goals
    have e := Option.some.inj hx
    subst e
    first | rfl | kernel_rfl
/-- what a frame's bytes are while it is made -/
structure OutAt (w0 : World) (s : Stp) (n : Nat) (X : Nat) (ys : List (Nat × List UInt8)) (D : List Nat) (w : World) (q : Option Addr) (m k : Nat) : Prop where
  d : D = X :: blk q
  row : Row w X 22 [.slice q m k]
  len : m = (topB s n ++ ys.flatMap body1).length
  own : Own w w0.heap.size 5 (.slice q m k) (u8s (topB s n ++ ys.flatMap body1))
  ne : X ∉ blk q
  only : Only [] w0 w
  lo : w0.heap.size ≤ X
def OutI (w0 : World) (s : Stp) (n X : Nat) : List (Nat × List UInt8) → List Nat → World → Prop := fun ys D w => ∃ q m k, OutAt w0 s n X ys D w q m k
theorem OutAt.only' {w0 w w' : World} {s : Stp} {n X m k : Nat} {ys : List (Nat × List UInt8)} {D T : List Nat} {q : Option Addr} (h : OutAt w0 s n X ys D w q m k) (ho : Only T w w') (hT : ∀ t ∈ T, t ∉ D ∧ w0.heap.size ≤ t) : OutAt w0 s n X ys D w' q m k :=
  ⟨h.d, h.row.only ho (fun hm => (hT X hm).1 (by rw [h.d]; simp)), h.len, h.own.only ho (fun x hx hm => (hT x hm).1 (by rw [h.d]; exact List.mem_cons_of_mem _ (ownBlk hx))), h.ne, h.only.transN ho (fun t ht => (hT t ht).2), h.lo⟩

/-- the blocks of D have turned, and new ones -/
def Trn (D : List Nat) (k : Nat) : World → World → Prop := fun a b => ∃ S, Only S a b ∧ ∀ x ∈ S, x ∈ D ∨ k ≤ x
theorem Trn.refl (D : List Nat) (k : Nat) (w : World) : Trn D k w w := ⟨[], Only.refl _ _, by simp⟩
theorem Trn.trans {D : List Nat} {k : Nat} {a b c : World} (h : Trn D k a b) (g : Trn D k b c) : Trn D k a c := by
  obtain ⟨S, h1, h2⟩ := h
  obtain ⟨T, g1, g2⟩ := g
  exact ⟨S ++ T, (h1.mono (by simp; exact fun _ h => .inl h)).trans (g1.mono (by simp; exact fun _ h => .inr h)) (fun i hi _ => hi), fun x hx => (List.mem_append.1 hx).elim (h2 x) (g2 x)⟩
theorem Trn.size {D : List Nat} {k : Nat} {a b : World} (h : Trn D k a b) : a.heap.size ≤ b.heap.size := by obtain ⟨S, h1, -⟩ := h; exact h1.size
theorem Trn.of0 {D : List Nat} {k : Nat} {a b : World} (h : Only [] a b) : Trn D k a b := ⟨[], h, by simp⟩
theorem Row.trn {D : List Nat} {w w' : World} {g : Nat} {e : TypeId} {vs : List Value} (h : Row w g e vs) (ho : Trn D w.heap.size w w') (hg : g ∉ D) : Row w' g e vs := by
  obtain ⟨S, h1, h2⟩ := ho
  refine h.only h1 (fun hm => ?_)
  rcases h2 g hm with h3 | h3
  · exact hg h3
  · have := h.lt; omega
theorem Only.trn {D : List Nat} {w0 w w' : World} (h : Only [] w0 w) (ho : Trn D w.heap.size w w') (hD : ∀ x ∈ D, w0.heap.size ≤ x) : Only [] w0 w' := by
  obtain ⟨S, h1, h2⟩ := ho
  refine h.transN h1 (fun x hx => ?_)
  rcases h2 x hx with h3 | h3
  · exact hD x h3
  · have := h.size; omega
/-- an appended row -/
def AppB (base n : Nat) (bs : List UInt8) (D : List Nat) (k : Nat) : Value → World → Prop := fun v w => ∃ q c, v = .slice q n c ∧ Own w base 5 (.slice q n c) (u8s bs) ∧ ∀ x ∈ blk q, x ∈ D ∨ k ≤ x
theorem AppB.stable0 {base n : Nat} {bs : List UInt8} {D : List Nat} {k : Nat} : Stable (Only []) (AppB base n bs D k) := fun _ _ _ ⟨q, c, h1, h2, h3⟩ ho => ⟨q, c, h1, h2.only0 ho, h3⟩
/-- what the store leaves -/
def OutS (w0 : World) (s : Stp) (n X : Nat) (ys : List (Nat × List UInt8)) (D : List Nat) (k : Nat) : Value → World → Prop := fun _ w => ∃ q m c, OutAt w0 s n X ys (X :: blk q) w q m c ∧ ∀ x ∈ blk q, x ∈ D ∨ k ≤ x
theorem OutS.stable0 {w0 : World} {s : Stp} {n X : Nat} {ys : List (Nat × List UInt8)} {D : List Nat} {k : Nat} : Stable (Only []) (OutS w0 s n X ys D k) := fun _ _ _ ⟨q, m, c, h1, h2⟩ ho => ⟨q, m, c, h1.only' ho (by simp), h2⟩
theorem infoU8o : (Tryd.prog.info? 5).map (fun i => (i.zero, i.size, i.bytes)) = some (some (.int .u8 0), 1, 1) := by kernel_rfl

set_option maxHeartbeats 16000000 in
theorem put_ok (s : Stp) (hs : stOk s) (p : Option Addr) (xs : List UInt8) (n c : Nat) (w0 : World) (hn : xs.length = n) (hb : n ≤ 1024) (hp : p = none → n = 0 ∧ c = 0) (hx : Rd w0 p (u8s xs)) :
    Calls Tryd.prog 30 #[stV s, .slice p n c] w0 fun e w' => ∃ q m k, e = .returned (.tuple #[.slice q m k, .nilIface]) ∧ m = (frameB s xs).length ∧ Own w' w0.heap.size 5 (.slice q m k) (u8s (frameB s xs)) ∧ Only [] w0 w' := by
  obtain ⟨na, hna⟩ := Int.eq_ofNat_of_zero_le hs.n0
  obtain ⟨nbt, hnb⟩ := Int.eq_ofNat_of_zero_le hs.b0
  obtain ⟨nq, hnq⟩ := Int.eq_ofNat_of_zero_le hs.q0
  obtain ⟨nh, hnh⟩ := Int.eq_ofNat_of_zero_le hs.h0
  obtain ⟨nz, hnz⟩ := Int.eq_ofNat_of_zero_le hs.z0
  have hsv : stV s = .agg #[.int .i64 (na : Int), .int .i64 (nbt : Int), .int .i64 (nq : Int), .int .i64 (nh : Int), .int .i64 (nz : Int)] := by unfold stV; rw [hna, hnb, hnq, hnh, hnz]
  have HNs : Hid (headNs s n = [1, na, nbt, nq, nh, nz, n]) := Lib.hid (by unfold headNs; rw [hna, hnb, hnq, hnh, hnz]; rfl)
  obtain ⟨w1, hw1⟩ : ∃ w1, w1 = w0.alloc (.cells #[.int .i64 (na : Int), .int .i64 (nbt : Int), .int .i64 (nq : Int), .int .i64 (nh : Int), .int .i64 (nz : Int)] 67) := ⟨_, rfl⟩
  have o1 : Only [] w0 w1 := by rw [hw1]; exact Only.alloc _ _
  have r1 : Row w1 w0.heap.size 67 [.int .i64 (na : Int), .int .i64 (nbt : Int), .int .i64 (nq : Int), .int .i64 (nh : Int), .int .i64 (nz : Int)] := by rw [hw1]; exact Row.newOf _ _ _ _ rfl
  have hif : Calls Tryd.prog 55 #[stV s] w1 fun e w' => e = .returned (.bool true) ∧ Only [] w1 w' := (inForm_any s w1).mono (fun e w' h => ⟨by rw [h.1, decide_eq_true hs], h.2⟩)
  have hhl := headB_length hs (n := n) (by omega)
  have hns := headNs_lt hs (n := n) (by omega)
  have hh9 : ∀ j, (((headNs s n).take j).flatMap nb).length ≤ 63 := fun j => by
    have := flat_nb_length ((headNs s n).take j) (fun x hx => by have := hns x (List.mem_of_mem_take hx); omega)
    have h2 : ((headNs s n).take j).length ≤ 7 := by rw [List.length_take]; exact Nat.min_le_right _ _
    omega
  have Hhl := Lib.hid hhl
  have Hns := Lib.hid hns
  have Hh9 := Lib.hid hh9
  have HO1 := Lib.hid o1
  have HR1 := Lib.hid r1
  have Hw1 := Lib.hid hw1
  have Hx := Lib.hid hx
  have Hn := Lib.hid hn
  have Hp := Lib.hid hp
  have c0 := r1.cell (i := 0) rfl
  have c1 := r1.cell (i := 1) rfl
  have c2 := r1.cell (i := 2) rfl
  have c3 := r1.cell (i := 3) rfl
  have c4 := r1.cell (i := 4) rfl
  rw [hw1] at c0 c1 c2 c3 c4
  rw [hsv] at hif ⊢
  clear o1 r1 hw1 hx hn hhl hns hs hh9 hp hsv hna hnb hnq hnh hnz
  refine calls_of_marks Tryd.func30 rfl ?_
  simp only [Tryd.ntmps30, List.size_toArray, List.length_cons, List.length_nil, Nat.reduceAdd, Nat.reduceSub, Array.replicate_succ, Array.replicate_zero, List.push_toArray, List.append_toArray, List.nil_append, List.cons_append]
  go_wp2_with fail
  rw [← Hw1.out]
  refine hif.mono ?_
  clear hif c0 c1 c2 c3 c4
  rintro e w2 ⟨rfl, o2⟩
  have hnw := newWriter w2
  have HO2 := Lib.hid (HO1.out.trans0 o2)
  have HR2 := Lib.hid (HR1.out.only0 o2)
  clear o2
  go_wp2_with fail
  refine hnw.mono ?_
  clear hnw
  rintro e w3 ⟨B, F, rfl, hW, o3, hF⟩
  have HO3 := Lib.hid (HO2.out.trans0 o3)
  have HR3 := HR2.out.only0 o3
  have c0 := HR3.cell (i := 0) rfl
  have c1 := HR3.cell (i := 1) rfl
  have c2 := HR3.cell (i := 2) rfl
  have c3 := HR3.cell (i := 3) rfl
  have c4 := HR3.cell (i := 4) rfl
  have HW := Lib.hid hW
  have HF : Hid (∀ k ∈ F, w0.heap.size ≤ k) := Lib.hid (fun k hk => by have := hF k hk; have := HO2.out.size; omega)
  clear hW o3 hF HR3
  go_wp2_with fail
  clear c0 c1 c2 c3 c4
  go_loopw [41] (fun a wr => ∃ (j : Nat) (F : List Nat), a = .int .i64 (j : Int) ∧ j ≤ 7 ∧ Hid (Wr wr F B (((headNs s n).take j).flatMap nb) false) ∧ Hid (Only [] w0 wr) ∧ Hid (∀ k ∈ F, w0.heap.size ≤ k)) (fun a _ => 7 - (intOf a).toNat)
  case atStart => exact ⟨0, F, rfl, by omega, Lib.hid (by simpa using HW.out), HO3, HF⟩
  case round =>
    clear HW HF
    obtain ⟨j, F, rfl, hj, HW, HO, HF⟩ := hrel
    by_cases hlt : j < 7
    · have hnm : ∀ (x : Nat) (v : Int), (headNs s n)[j]? = some x → v = (x : Int) → Calls Tryd.prog 57 #[.pointer (some ⟨B, 0, none⟩), .int .i64 v] wr fun e w' => e = .returned (.tuple #[]) ∧ Only [] w0 w' ∧ ∃ F', Wr w' F' B (((headNs s n).take (j + 1)).flatMap nb) false ∧ (∀ k ∈ F', w0.heap.size ≤ k) := by
        intro x v hxj hv
        have hxl := Hns.out x (List.mem_of_getElem? hxj)
        have h9 := nb_len9 x (by omega)
        have h63 := Hh9.out j
        refine (num_lit wr F B _ false x v hv (by omega) HW.out (by omega)).mono ?_
        rintro e w' ⟨rfl, F', h1, h2, h3⟩
        refine ⟨rfl, HO.out.transN h2 HF.out, F', ?_, fun k hk => ?_⟩
        · rw [List.take_add_one, hxj, List.flatMap_append]
          simpa using h1
        · rcases h3 k hk with h | h
          · exact HF.out k h
          · have := HO.out.size; omega
      obtain ⟨x, hx⟩ : ∃ x, [1, na, nbt, nq, nh, nz, n][j]? = some x := ⟨_, List.getElem?_eq_getElem (by simpa using hlt)⟩
      have hix := fun w => run_idx7 na nbt nq nh nz n w hx
      have hn2 := hnm x _ (by rw [HNs.out]; exact hx) rfl
      have hji : (j : Int) < 7 := by omega
      clear hnm hx
      go_wp2_with fail
      refine hn2.mono ?_
      clear hn2
      rintro e w4 ⟨rfl, o4, F', hW4, hF4⟩
      have HW4 := Lib.hid hW4
      have HO4 := Lib.hid o4
      have HF4 := Lib.hid hF4
      clear o4 hW4 hF4
      go_wp2_with fail
      refine ⟨⟨j + 1, F', by go_num, by omega, HW4, HO4, HF4⟩, ?_⟩
      show 7 - ((j : Int) + 1).toNat < 7 - ((j : Int)).toNat
      omega
    · obtain rfl : j = 7 := by omega
      have hW7 := HW.out
      rw [List.take_of_length_le (by simp [headNs])] at hW7
      replace hW7 : Wr wr F B (headB s n) false := hW7
      obtain ⟨hB, hhB⟩ : ∃ hB, hB = headB s n := ⟨_, rfl⟩
      have htop : topB s n = nb (hB.length + 4) ++ sealB hB := by rw [hhB]; rfl
      have hhl : hB.length ≤ 63 := by rw [hhB]; exact Hhl.out
      rw [← hhB] at hW7
      have hdn := done_any wr F B hB hW7 (by omega)
      have Htop := Lib.hid htop
      obtain ⟨nH, hnH⟩ : ∃ nH, nH = hB.length := ⟨_, rfl⟩
      rw [← hnH] at hdn hhl
      have HnH := Lib.hid hnH
      clear hW7 hhB HW htop hnH HNs Hns Hh9
      go_wp2_with fail
      refine hdn.mono ?_
      clear hdn
      rintro e w5 ⟨p5, k5, rfl, own5, o5⟩
      have hnw := newWriter w5
      have HO5 := Lib.hid (HO.out.trans0 o5)
      have HOwn5 := Lib.hid own5
      clear own5 o5 HO HF
      go_wp2_with fail
      refine hnw.mono ?_
      clear hnw
      rintro e w6 ⟨B6, F6, rfl, hW6, o6, hF6⟩
      have hse := seal_any p5 hB nH k5 w6 HnH.out.symm (by omega) (HOwn5.out.view.2.2.1) (HOwn5.out.view.1.only0 o6)
      have HO6 := Lib.hid (HO5.out.trans0 o6)
      have HF6 : Hid (∀ k ∈ F6, w0.heap.size ≤ k) := Lib.hid (fun k hk => by have := hF6 k hk; have := HO5.out.size; omega)
      have HF6l : Hid (∀ k ∈ F6, k < w6.heap.size) := Lib.hid (fun k hk => hW6.lt k hk)
      have HW6 := Lib.hid hW6
      clear hW6 o6 hF6
      go_wp2_with fail
      refine hse.mono ?_
      clear hse
      rintro e w7 ⟨p7, k7, rfl, own7, o7⟩
      have hby := bytes_put w7 F6 B6 [] (sealB hB) false p7 (nH + 4) k7 (HW6.out.only0 o7) (fun w hw => own7.view.1.only hw (fun a ha hm => by
        have := (own7.view.2.2.2.2.2 a ha).1
        have := HF6l.out _ hm
        omega)) (by rw [sealB_length, ← HnH.out]) (own7.view.2.2.1) (by rw [nb_lo (by omega)]; simp; omega)
      rw [List.nil_append, HnH.out, ← Htop.out, ← HnH.out] at hby
      have HO7 := Lib.hid (HO6.out.trans0 o7)
      clear own7 o7
      go_wp2_with fail
      refine hby.mono ?_
      clear hby
      rintro e w8 ⟨rfl, F8, hW8, o8, hF8⟩
      have htl : (topB s n).length ≤ 68 := by
        rw [Htop.out, List.length_append, sealB_length, ← HnH.out, nb_lo (by omega)]
        simp; omega
      have hdn := done_any w8 F8 B6 (topB s n) hW8 (by omega)
      have HO8 := Lib.hid (HO7.out.transN o8 HF6.out)
      have Htl := Lib.hid htl
      clear hW8 o8 hF8
      generalize hmT : (topB s n).length = mT at hdn
      have HmT := Lib.hid hmT
      clear hmT htl
      go_wp2_with fail
      refine hdn.mono ?_
      clear hdn
      rintro e w9 ⟨q9, k9, rfl, own9, o9⟩
      obtain ⟨wa, hwa⟩ : ∃ wa, wa = w9.alloc (.cells #[.slice q9 mT k9] 22) := ⟨_, rfl⟩
      have oA : Only [] w9 wa := by rw [hwa]; exact Only.alloc _ _
      have rA : Row wa w9.heap.size 22 [.slice q9 mT k9] := by rw [hwa]; exact Row.newOf _ _ _ _ rfl
      have HOA := Lib.hid ((HO8.out.trans0 o9).trans0 oA)
      have HOut : Hid (OutAt w0 s n w9.heap.size [] (w9.heap.size :: blk q9) wa q9 mT k9) := Lib.hid ⟨rfl, rA, by rw [← HmT.out]; simp, by
        rw [List.flatMap_nil, List.append_nil]
        exact (own9.only0 oA).weaken (Nat.le_trans HO8.out.size (Nat.le_refl _)), fun hm => by have := blkLt own9 _ hm; omega, HOA.out, Nat.le_trans (HO8.out.trans0 o9).size (Nat.le_refl _)⟩
      have hbk := blocks_any p xs n c wa Hn.out (by omega) Hp.out (Hx.out.only0 HOA.out)
      have Hwa := Lib.hid hwa
      clear own9 o9 oA rA hwa
      go_wp2_with fail
      rw [← Hwa.out]
      refine hbk.mono ?_
      clear hbk Hwa
      rintro e wb ⟨g, pb, kb, rfl, hBk, ob, hlo⟩
      have hseq := blocks_seq hBk (by rw [Hn.out]; omega)
      have HOut2 := Lib.hid (HOut.out.only' ob (by simp))
      have Hwab := Lib.hid ob.size
      have Hlo := Lib.hid hlo
      have hcapl : ∀ x ∈ g :: blk pb, x < wb.heap.size := fun x hx => by
        rcases List.mem_cons.1 hx with rfl | hx
        · exact hBk.row.lt
        · exact blkLt hBk.own x hx
      have hOlt : ∀ d ∈ w9.heap.size :: blk q9, d < wa.heap.size := fun d hd => by
        rcases List.mem_cons.1 hd with rfl | hd
        · exact HOut.out.row.lt
        · exact blkLt HOut.out.own d hd
      have Hcapl := Lib.hid hcapl
      have HOlt := Lib.hid hOlt
      have Hseq := Lib.hid hseq
      unfold blkF
      clear hBk ob hlo hcapl hOlt hseq HOut
      go_wp2_with fail
      generalize hXe : w9.heap.size = X at *
      clear hXe
      refine wp_rangeD (xs := blks xs) rfl (enters_of Tryd.func44 (by kernel_rfl) rfl) Hseq.out Hcapl.out (by rintro _ _ _ _ ⟨_, _, rfl, -, -⟩; rfl) (OutI w0 s n X) (fun _ _ _ _ => False) (X :: blk q9) ?hD0 ?hI (fun _ _ _ _ _ _ h => h.elim) ⟨_, _, _, HOut2.out⟩ ?round ?done (fun _ _ _ _ h => h.elim)
      case hD0 =>
        intro d hd
        have h1 := HOlt.out d hd
        have h2 := Hwab.out
        exact ⟨fun hm => by have := Hlo.out d hm; omega, by omega⟩
      case hI =>
        rintro ys D A B T ⟨q, m, k, h⟩ ho hT
        exact ⟨q, m, k, h.only' ho (fun t ht => ⟨(hT t ht).1, by have := (hT t ht).2; have := HOut2.out.only.size; omega⟩)⟩
      case done =>
        rintro D D' ⟨q, m, k, hO⟩ hd hk
        have hc := hO.row.cell (i := 0) rfl
        have HOd := Lib.hid hO
        have Hd := Lib.hid hd
        have Hk := Lib.hid hk
        clear hO hd hk
        go_wp2_with fail
        refine mret1 Hk.out (results_tmp2 rfl _ _ _) ?_
        have oP := Only.putObj D' wb.heap.size (.deferred none)
        have hlo2 : w0.heap.size ≤ wb.heap.size := HOut2.out.only.size
        refine ⟨q, m, k, rfl, ?_, ?_, ?_⟩
        · rw [HOd.out.len, ← Hn.out]; rfl
        · rw [show u8s (frameB s xs) = u8s (topB s n ++ (blks xs).flatMap body1) by rw [← Hn.out]; rfl]
          exact HOd.out.own.only oP (fun x hx hm => by
            obtain rfl := List.mem_singleton.1 hm
            exact (Hd.out _ (by rw [HOd.out.d]; exact List.mem_cons_of_mem _ (ownBlk hx))).1 rfl)
        · exact HOd.out.only.transN oP (by simpa using hlo2)
      case round =>
        rintro l ys ⟨ib, cs⟩ zs D A vs G hl1 hl2 hDG hG ⟨q, m, k, hO⟩ hxs ⟨qb, kb2, rfl, rfl, hown⟩
        have hcl : cs.length ≤ 32 := blks_small xs (ib, cs) (by rw [hxs]; simp)
        have hml : m ≤ 68 + 64 * 33 := by
          have h1 := hO.len
          rw [List.length_append] at h1
          have h2 := flat_body_le ys (fun b hb => blks_small xs b (by rw [hxs]; simp [hb]))
          have h3 := congrArg List.length hxs
          rw [blks_length, List.length_append] at h3
          have h4 : nblk xs ≤ 33 := by unfold nblk; rw [Hn.out]; omega
          have := Htl.out
          omega
        dsimp only at hown
        obtain ⟨mb, hmb⟩ : ∃ mb, cs.length = mb := ⟨_, rfl⟩
        rw [hmb] at hown hcl ⊢
        have hXD : X ∈ D := by rw [hO.d]; simp
        have hqD : ∀ x ∈ blk q, x ∈ D := fun x hx => by rw [hO.d]; exact List.mem_cons_of_mem _ hx
        have hw0b : w0.heap.size ≤ wb.heap.size := HOut2.out.only.size
        have hGlt := blkLt hown
        have HO := Lib.hid hO
        have HG := Lib.hid hG
        have HDG := Lib.hid hDG
        have Hown := Lib.hid hown
        have HL := Lib.hid hmb
        have Hml := Lib.hid hml
        have HqD := Lib.hid hqD
        have HXD := Lib.hid hXD
        have HGlt := Lib.hid hGlt
        clear hO hG hDG hown hmb hml hqD hXD hxs hGlt
        gi_wp2_with fail
        refine ⟨Only.refl _ _, fun A2 o2 hs2 => ?_⟩
        have hl0 : ∀ t ∈ [l], t ∉ D ∧ w0.heap.size ≤ t := fun t ht => by
          obtain rfl := List.mem_singleton.1 ht
          exact ⟨fun hm => (HDG.out _ (List.mem_append_left _ hm)).1 rfl, by omega⟩
        have HO2 := Lib.hid (HO.out.only' o2 hl0)
        have hown2 := Hown.out.only o2 (fun x hx hm => by
          obtain rfl := List.mem_singleton.1 hm
          exact (HDG.out _ (List.mem_append_right _ (ownBlk hx))).1 rfl)
        have hv2 := hown2.view
        have hsm := shaSum_any qb cs mb kb2 A2 HL.out (by omega) hv2.2.2.1 hv2.1
        have Hown2 := Lib.hid hown2
        clear hown2 hv2 hl0
        gi_wp2_with fail
        (with_reducible refine ⟨wideFn _, inR (hsm) ?_⟩)
        rintro e A3 ⟨rfl, o3⟩
        clear hsm
        obtain ⟨A5, Hst, hY5, o5, hs5⟩ := row32 A3 (shaB cs) (shaB_len cs)
        generalize hYe : A3.heap.size = Y at *
        have o25 : Only [] A2 A5 := o3.trans0 o5
        have hs3 := o3.size
        have hOn5 := HO2.out.only' o25 (by simp)
        have HOn5 : Hid (Only [] w0 A5) := Lib.hid hOn5.only
        have HOwn5 : Hid (Own A5 w0.heap.size 5 (.slice q m k) (u8s (topB s n ++ ys.flatMap body1))) := Lib.hid hOn5.own
        have HrX : Hid (Row A5 X 22 [.slice q m k]) := Lib.hid hOn5.row
        have HrdG : Hid (Rd A5 qb (u8s cs)) := Lib.hid (Hown2.out.view.1.only0 o25)
        have HnilG : Hid (qb = none → mb = 0 ∧ kb2 = 0) := Lib.hid Hown2.out.view.2.2.1
        have HY5 := Lib.hid hY5
        have HXq := Lib.hid hOn5.ne
        have HXlo := Lib.hid hOn5.lo
        have Hbase : Hid (w0.heap.size ≤ A5.heap.size) := Lib.hid hOn5.only.size
        have HDlt : Hid (∀ x ∈ X :: blk q, x < A2.heap.size ∧ w0.heap.size ≤ x) := Lib.hid (fun x hx => by
          rcases List.mem_cons.1 hx with rfl | hx
          · exact ⟨HO2.out.row.lt, HO2.out.lo⟩
          · exact ⟨blkLt HO2.out.own x hx, blkGe HO2.out.own x hx⟩)
        have HXl : Hid (X < A5.heap.size) := Lib.hid (Nat.lt_of_lt_of_le (HDlt.out X (by simp)).1 o25.size)
        have HYn : Hid (Y ∉ X :: blk q) := Lib.hid (fun hm => by have := (HDlt.out _ hm).1; omega)
        have HDlo : Hid (∀ x ∈ X :: blk q, w0.heap.size ≤ x) := Lib.hid (fun x hx => (HDlt.out x hx).2)
        have HLen : Hid (m + mb + 32 = (topB s n ++ (ys ++ [(ib, cs)]).flatMap body1).length) := Lib.hid (by
          have := HO2.out.len
          rw [List.length_append] at this ⊢
          rw [List.flatMap_append, List.length_append, List.flatMap_singleton, body1_length, HL.out]
          omega)
        have HVs : Hid (topB s n ++ (ys ++ [(ib, cs)]).flatMap body1 = topB s n ++ ys.flatMap body1 ++ cs ++ shaB cs) := Lib.hid (by simp [body1])
        have hml := Hml.out
        have Ho25 := Lib.hid o25
        have hsA5 := o25.size
        clear o3 o5 hY5 hOn5 o25
        gi_wp2_with (first | ((with_reducible show wpListIn _ _ _ _ _ _ _ _); refine wpli_store (ty := 122) (x := .tmp 15) (y := .tmp 74) (fun _ => trivial) rfl rfl rfl rfl Hst.out ?_))
        generalize hvs : topB s n ++ ys.flatMap body1 = vs at HOwn5 HVs
        clear hvs
        have hRr : ∀ a, Trn (X :: blk q) A5.heap.size a a := Trn.refl _ _
        have hRt : ∀ a b e, Trn (X :: blk q) A5.heap.size a b → Trn (X :: blk q) A5.heap.size b e → Trn (X :: blk q) A5.heap.size a e := fun _ _ _ h h2 => h.trans h2
        have hRd : Trn (X :: blk q) A5.heap.size A5 A5.drew := Trn.of0 (Only.drew _)
        have hRs : ∀ j w, DirtR [(2, Only (blk q)), (4, Trn (blk q) A5.heap.size), (5, Only [X])] j w w := DirtR.refl (by
          intro x hx w
          simp only [List.mem_cons, List.not_mem_nil, or_false] at hx
          rcases hx with rfl | rfl | rfl
          · exact Only.refl _ _
          · exact Trn.refl _ _ _
          · exact Only.refl _ _)
        have hC0 : ∀ d ∈ [2, 5], (fun (i : Nat) (a : World) => (i = 2 → Only [] A5 a) ∧ (i = 5 → Row a X 22 [.slice q m k])) d A5.drew := fun _ _ => ⟨fun _ => Only.drew _, fun _ => HrX.out.only0 (Only.drew _)⟩
        -- <<R22
        refine wpIn_region_rg7 (Trn (X :: blk q) A5.heap.size) (DirtR [(2, Only (blk q)), (4, Trn (blk q) A5.heap.size), (5, Only [X])]) (fun (i : Nat) (a : World) => (i = 2 → Only [] A5 a) ∧ (i = 5 → Row a X 22 [.slice q m k])) [2, 5] [[(12, none)], [(14, none)], [(75, some 1), (76, some 0)], [(15, none)], [(77, some 1), (78, some 0)], [(12, none), (79, some 0)]] [] [0] [none, none, none, none, none, none, none, none, none, none, none, none, none, none, none, none, none, none, none, none, none, none, none, none, none, none, none, none, none, none, none, none, none, none, none, none, none, none, none, none, none, none, none, none, none, none, none, none, none, none, none, none, none, none, none, none, none, none, none, none, none, none, none, none, none, none, none, none, none, none, none, none, none, none, none, some 75, some 76, some 77, some 78, some 79, none] (by kernel_rfl) rfl (by kernel_rfl) hRr hRt hRs hRd hC0 (by kernel_rfl) (by kernel_rfl) (by kernel_rfl) ?_
        -- 0: s75 := load 22 t12
        apply rg7_ev
        · intro a w hR hC hf
          obtain ⟨e12, -⟩ := hf
          replace e12 : a.tmps.getD 12 undef = _ := e12
          refine rg_plain rfl fun K hK => ?_
          have h0 := (((hC 5 (by simp) (by kernel_rfl)).2 rfl).cell (i := 0) rfl)
          go_simp
          exact hK _ _ rfl ⟨hRr _, hRs _ _, fun _ _ _ _ h => h⟩
        -- 1: s76 := move t14
        apply rg7_ev
        · intro a w hR hC hf
          obtain ⟨e14, -⟩ := hf
          replace e14 : a.tmps.getD 14 undef = _ := e14
          refine rg_plain rfl fun K hK => ?_
          go_simp
          exact hK _ _ rfl ⟨hRr _, hRs _ _, fun _ _ _ _ h => h⟩
        -- 2: s77 := call { builtin append, args := #[t75, t76], #[22, 22] }
        refine ⟨AppB w0.heap.size (m + mb) (vs ++ cs) (blk q) A5.heap.size, stands5_of AppB.stable0 (by intro x hx hk; simp only [List.mem_cons, List.not_mem_nil, or_false] at hx; rcases hx with rfl | rfl | rfl <;> exact Bool.noConfusion (hk.symm.trans (by kernel_rfl : _ = true))), fun a w hR hC hf => ?_, ?_⟩
        · obtain ⟨e75, e76, -⟩ := hf
          replace e75 : a.tmps.getD 75 undef = _ := e75
          replace e76 : a.tmps.getD 76 undef = _ := e76
          refine rg_plain rfl fun K hK => ?_
          have hC2 := (hC 2 (by simp) (by kernel_rfl)).1 rfl
          obtain ⟨p'', c'', w'', hra, oA, hA, hpA⟩ := append_owned (P := Tryd.prog) (bytes := 1) (c := kb2) (q := qb) (m := mb) (news := u8s cs) (t := 22) (ty := 22) w Tryd.underlying22 infoU8o rfl (HOwn5.out.only0 hC2) (HrdG.out.only0 hC2) (by rw [u8s_length, HL.out]) HnilG.out (fun v hv => u8s_one hv) (by omega) (by omega) (Nat.le_trans Hbase.out hC2.size)
          rw [← u8s_append] at oA
          refine rg_append (s := .tmp 75) (x := .tmp 76) rfl e75 e76 hra ?_
          refine hK _ _ ⟨p'', c'', rfl, oA, fun x hx => ?_⟩ ⟨⟨blk q, hA, fun x hx => .inl (List.mem_cons_of_mem _ hx)⟩, hA, fun i hi hne ha hc => ⟨fun e => absurd e hne, fun e => (hc.2 e).only hA HXq.out⟩⟩
          rcases hpA with rfl | ⟨g', rfl, hg'⟩
          · exact .inl hx
          · simp [blk] at hx; subst hx; exact .inr (Nat.le_trans hC2.size hg')
        -- 3: s78 := slice 122 t15 none none none
        apply rg7_ev
        · intro a w hR hC hf
          obtain ⟨e15, -⟩ := hf
          replace e15 : a.tmps.getD 15 undef = _ := e15
          refine rg_plain rfl fun K hK => ?_
          go_simp
          exact hK _ _ rfl ⟨hRr _, hRs _ _, fun _ _ _ _ h => h⟩
        -- 4: s79 := call { builtin append, args := #[t77, t78], #[22, 22] }
        refine ⟨AppB w0.heap.size (m + mb + 32) (vs ++ cs ++ shaB cs) (blk q) A5.heap.size, stands5_of AppB.stable0 (by intro x hx hk; simp only [List.mem_cons, List.not_mem_nil, or_false] at hx; rcases hx with rfl | rfl | rfl <;> exact Bool.noConfusion (hk.symm.trans (by kernel_rfl : _ = true))), fun a w hR hC hf => ?_, ?_⟩
        · obtain ⟨e77, e78, -⟩ := hf
          replace e77 : AppB w0.heap.size (m + mb) (vs ++ cs) (blk q) A5.heap.size (a.tmps.getD 77 undef) w := e77
          replace e78 : a.tmps.getD 78 undef = _ := e78
          refine rg_plain rfl fun K hK => ?_
          obtain ⟨q1, k1, e77, own1, hq1⟩ := e77
          have hY := HY5.out.trn hR HYn.out
          have hws := hR.size
          obtain ⟨p'', c'', w'', hra, oA, hA, hpA⟩ := append_owned (P := Tryd.prog) (bytes := 1) (c := 32) (q := some ⟨Y, 0, none⟩) (m := 32) (news := u8s (shaB cs)) (t := 22) (ty := 22) w Tryd.underlying22 infoU8o rfl own1 hY.rd0 (by rw [u8s_length, shaB_len]) (by simp) (fun v hv => u8s_one hv) (by omega) (by omega) (Nat.le_trans Hbase.out hws)
          rw [← u8s_append] at oA
          refine rg_append (s := .tmp 77) (x := .tmp 78) rfl e77 e78 hra ?_
          have hT : ∀ x ∈ blk q1, x ∈ blk q ∨ A5.heap.size ≤ x := hq1
          refine hK _ _ ⟨p'', c'', rfl, oA, fun x hx => ?_⟩ ⟨⟨blk q1, hA, fun x hx => (hT x hx).imp (fun h => List.mem_cons_of_mem _ h) id⟩, ⟨blk q1, hA, hT⟩, fun i hi hne ha hc => ⟨fun e => ?_, fun e => (hc.2 e).only hA (fun hm => ?_)⟩⟩
          · rcases hpA with rfl | ⟨g', rfl, hg'⟩
            · exact hT x hx
            · simp [blk] at hx; subst hx; exact .inr (Nat.le_trans hws hg')
          · subst e; exact Bool.noConfusion (ha.symm.trans (by kernel_rfl : _ = true))
          · rcases hT _ hm with h | h
            · exact HXq.out h
            · have := HXl.out; omega
        -- 5: sNone := store 22 t12 t79
        refine ⟨OutS w0 s n X (ys ++ [(ib, cs)]) (blk q) A5.heap.size, stands5_of OutS.stable0 (by intro x hx hk; simp only [List.mem_cons, List.not_mem_nil, or_false] at hx; rcases hx with rfl | rfl | rfl <;> exact Bool.noConfusion (hk.symm.trans (by kernel_rfl : _ = true))), fun a w hR hC hf => ?_, ?_⟩
        · obtain ⟨e12, e79, -⟩ := hf
          replace e12 : a.tmps.getD 12 undef = _ := e12
          replace e79 : AppB w0.heap.size (m + mb + 32) (vs ++ cs ++ shaB cs) (blk q) A5.heap.size (a.tmps.getD 79 undef) w := e79
          refine rg_plain rfl fun K hK => ?_
          obtain ⟨q1, k1, e79, own1, hq1⟩ := e79
          have rX := (hC 5 (by simp) (by kernel_rfl)).2 rfl
          have h5c := rX.cell (i := 0) rfl
          have h5f := rX.free 0
          go_simp
          have hst : Only [X] w (w.setCell ⟨X, 0, none⟩ (.slice q1 (m + mb + 32) k1)) := Only.setCell w ⟨X, 0, none⟩ _
          have hXq1 : X ∉ blk q1 := fun hm => (hq1 X hm).elim HXq.out (fun h => by have := HXl.out; omega)
          refine hK undef _ ⟨q1, m + mb + 32, k1, ⟨rfl, rX.setCell 0 _, HLen.out, ?_, hXq1, (HOn5.out.trn hR HDlo.out).transN hst (fun t ht => by obtain rfl := List.mem_singleton.1 ht; exact HXlo.out), HXlo.out⟩, hq1⟩ ⟨⟨[X], hst, fun x hx => .inl (by obtain rfl := List.mem_singleton.1 hx; simp)⟩, hst, ?_⟩
          · rw [HVs.out]
            exact own1.only hst (fun x hx hm => by obtain rfl := List.mem_singleton.1 hm; exact hXq1 (ownBlk hx))
          · intro i hi hne ha _
            simp only [List.mem_cons, List.not_mem_nil, or_false] at hi
            rcases hi with rfl | rfl
            · exact Bool.noConfusion (ha.symm.trans (by kernel_rfl : _ = true))
            · exact absurd rfl hne
        intro f22 w22 hR22 hf hl22
        dsimp only [mergeT]
        obtain ⟨l5, -⟩ := hl22
        replace l5 : ∃ v, (OutS w0 s n X (ys ++ [(ib, cs)]) (blk q) A5.heap.size) v w22 := l5
        -- R22>>
        obtain ⟨v5, q', m', k', hO5, hq5⟩ := l5
        obtain ⟨S, hS, hS2⟩ := hR22
        have hAs : A.heap.size ≤ A5.heap.size := by have := o2.size; omega
        have hD : D = X :: blk q := HO2.out.d
        have HE : Hid (∃ S D', Only S A2 w22 ∧ (∀ s ∈ S, s ∈ D ++ blk qb ∨ A.heap.size ≤ s) ∧ (∀ d ∈ D', (d ∈ D ++ blk qb ∨ A.heap.size ≤ d) ∧ d < w22.heap.size) ∧ OutI w0 s n X (ys ++ [(ib, cs)]) D' w22) := Lib.hid (by
          refine ⟨S, X :: blk q', (Ho25.out.mono (by simp)).trans hS (fun i hi _ => hi), fun x hx => ?_, fun d hd => ⟨?_, ?_⟩, q', m', k', hO5⟩
          · rcases hS2 x hx with h | h
            · exact .inl (List.mem_append_left _ (by rw [hD]; exact h))
            · exact .inr (by omega)
          · rcases List.mem_cons.1 hd with rfl | hd
            · exact .inl (List.mem_append_left _ (by rw [hD]; simp))
            · rcases hq5 d hd with h | h
              · exact .inl (List.mem_append_left _ (by rw [hD]; exact List.mem_cons_of_mem _ h))
              · exact .inr (by omega)
          · rcases List.mem_cons.1 hd with rfl | hd
            · exact hO5.row.lt
            · exact blkLt hO5.own d hd)
        exact HE.out
end Go.Proofs.YtfoplbolbjcggaaDoor
