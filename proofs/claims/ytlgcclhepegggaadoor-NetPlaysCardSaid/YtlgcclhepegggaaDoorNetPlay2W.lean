/- The walks of bollardlaw14.play: KDeliver, KDrop, KNth. -/
import Derived.Test.YtlgcclhepegggaaDoorNetPlayW
set_option linter.unusedVariables false
set_option maxRecDepth 100000
namespace Go.Proofs.YtlgcclhepegggaaDoor
open Go.RowKit

section
variable (az : List Addr) {wz w0 : World} {base B n c last Br cr : Nat} {q qr : Option Addr} {L : List Lt} {aN aG aF : Addr}
theorem Lt.bb_blk {o : Lt} (h : o.xs ≠ []) : o.bb = blk o.q := by unfold Lt.bb; rw [if_neg h]
set_option maxHeartbeats 16000000 in
theorem play_deliver (h : PA w0 base B q n c last L Br qr cr) (hE : ErrAll wz az) (h0 : Only [] wz w0) (hb : wz.heap.size ≤ base) (hG : az[7]? = some aG) (wh fr tg no : Int) (bp : Option Addr) (bm bc : Nat) :
    Calls Tryd.prog 21 #[.pointer (some ⟨B, 0, none⟩), .pointer (some ⟨Br, 0, none⟩), .agg #[.int .i64 2, .int .i64 wh, .int .i64 fr, .int .i64 tg, .int .i64 no, .slice bp bm bc]] w0 fun e w' => e = .returned (.bool true) ∧ PlayEnd w0 base B q last L Br qr w' := by
  obtain ⟨wo, hwo⟩ : ∃ wo, wo = w0.alloc (.cells #[.int .i64 2, .int .i64 wh, .int .i64 fr, .int .i64 tg, .int .i64 no, .slice bp bm bc] 29) := ⟨_, rfl⟩
  have oO : Only [] w0 wo := by rw [hwo]; exact Only.alloc _ _
  have rO : Row wo w0.heap.size 29 [.int .i64 2, .int .i64 wh, .int .i64 fr, .int .i64 tg, .int .i64 no, .slice bp bm bc] := by rw [hwo]; exact Row.newOf _ _ _ _ rfl
  have HP1 := Lib.hid (h.only0 oO)
  have hsb := deliver_both az hG HP1.out (hE.only0 (h0.trans0 oO)) no
  have H := Lib.hid h
  have HE := Lib.hid hE
  have H0 := Lib.hid h0
  have HOo := Lib.hid oO
  have HRo := Lib.hid rO
  clear h hE h0 oO rO
  go_enter Tryd.func21, Tryd.ntmps21
  go_wp2_with fail
  rw [← hwo]
  refine hsb.mono ?_
  clear hsb hwo
  unfold DelBoth ltV
  rintro e w2 ⟨o, v, num, n', L', rfl, hnum, hok, hbb, hn2, hsl, o2, hn4, hrc⟩
  have hin2 : ∀ x ∈ netD B q L, x < w0.heap.size := fun x hx => (H.out.lt x (List.mem_append_left _ hx)).2
  have hinr : ∀ x ∈ Br :: blk qr, x < w0.heap.size := fun x hx => (H.out.lt x (List.mem_append_right _ hx)).2
  have o2' : Only (netD B q L) wo w2 := o2.mono (fun x hx => netD_head hx)
  have rO2 := HRo.out.only o2' (fun hm => by have := hin2 _ hm; omega)
  have hw2 : w0.heap.size < w2.heap.size := rO2.lt
  obtain ⟨w3, hw3⟩ : ∃ w3, w3 = w2.alloc (.cells #[.int .i64 (o.n : Int), .int .i64 o.fr, .int .i64 o.to, .slice o.q o.xs.length o.c] 37) := ⟨_, rfl⟩
  have o3 : Only [] w2 w3 := by rw [hw3]; exact Only.alloc _ _
  have rL3 : Row w3 w2.heap.size 37 [.int .i64 (o.n : Int), .int .i64 o.fr, .int .i64 o.to, .slice o.q o.xs.length o.c] := by rw [hw3]; exact Row.newOf _ _ _ _ rfl
  have rO3 := rO2.only0 o3
  have hy4 := rO3.cell (i := 4) rfl
  have hrc3 := hrc w3 o3
  unfold rV at hrc3
  have HN3 := Lib.hid (hn2.only0 o3)
  have HSl := Lib.hid hsl
  have HO3 := Lib.hid (o2'.trans0 o3)
  have Hnum := Lib.hid hnum
  have Hok := Lib.hid (hok.only0 o3)
  have Hbb := Lib.hid hbb
  have HRo3 := Lib.hid rO3
  have HL3 := Lib.hid rL3
  have Hw3 := Lib.hid hw3
  rw [hw3] at hy4
  clear hnum hn2 hsl o2 o2' rO2 hrc hok hbb o3 rO3 rL3 hw3
  go_wp2_with fail
  rw [← Hw3.out]
  refine hrc3.mono ?_
  clear hrc3 hy4
  rintro e w4 ⟨qr', cr', rfl, hrf, hqr, o4⟩
  have hr' : Rises last L' := ⟨fun x hx => H.out.rises.1 x (HSl.out.subset hx), List.Pairwise.sublist (List.Sublist.map _ HSl.out) H.out.rises.2⟩
  obtain ⟨hp4, hg4, hO4⟩ := HP1.out.step HN3.out hr' (fun x hx => .inl (netD_sub HSl.out hx)) HO3.out hrf hqr o4 hn4 (Nat.le_succ _)
  have hqr3 : ∀ y ∈ o.bb, y ∉ paD B q L' Br qr' := fun y hy hm => by
    have h1 := Hbb.out y hy
    rcases List.mem_append.1 hm with hm | hm
    · exact h1.2 hm
    · rcases List.mem_cons.1 hm with rfl | hm
      · exact H.out.dis _ (by simp) h1.1
      · rcases hqr y hm with h2 | h2
        · exact H.out.dis y (List.mem_cons_of_mem _ h2) h1.1
        · have := hin2 y h1.1
          have := HL3.out.lt
          omega
  have hok4 : o.Ok w4 := Hok.out.only o4 (fun y hy hm => H.out.dis y hm (Hbb.out y hy).1)
  have rL4 := HL3.out.only o4 (fun hm => by have := hinr _ hm; omega)
  obtain ⟨sb, hsb⟩ : ∃ sb : ByteArray, sb = ⟨o.xs.toArray⟩ := ⟨_, rfl⟩
  rw [← hsb]
  obtain ⟨w5, hw5⟩ : ∃ w5, w5 = w4.alloc (.cells #[.int .i64 (o.n : Int), .int .i64 o.fr, .int .i64 o.to, .string sb] 55) := ⟨_, rfl⟩
  have o5 : Only [] w4 w5 := by rw [hw5]; exact Only.alloc _ _
  have rR5 : Row w5 w4.heap.size 55 [.int .i64 (o.n : Int), .int .i64 o.fr, .int .i64 o.to, .string sb] := by rw [hw5]; exact Row.newOf _ _ _ _ rfl
  have rL5 := rL4.only0 o5
  have hok5 := hok4.only0 o5
  have hcv := conv_bytes (P := Tryd.prog) (src := 27) (dst := 9) w5 Tryd.underlying27 Tryd.underlying5 Tryd.underlying9 (c := o.c) (n := o.xs.length) hok5.1 rfl hok5.2.1
  rw [← hsb] at hcv
  have hE5 : ErrAll w5 az := (HE.out.only0 (H.out.low H0.out hb ((HOo.out.mono (by simp)).trans hO4 (fun i hi _ => hi)) (fun x hx => .inl hx))).only0 o5
  have hnm := num_is Hnum.out w5 hE5
  have l0 := rL5.cell (i := 0) rfl
  have l1 := rL5.cell (i := 1) rfl
  have l2 := rL5.cell (i := 2) rfl
  have l3 := rL5.cell (i := 3) rfl
  have m0 := rR5.cell (i := 0) rfl
  have m1 := rR5.cell (i := 1) rfl
  have m2 := rR5.cell (i := 2) rfl
  have m3 := rR5.cell (i := 3) rfl
  have HP5 := Lib.hid (hp4.only0 o5)
  have HG4 := Lib.hid hg4
  have HO5 := Lib.hid (hO4.trans0 o5)
  have Hok5 := Lib.hid hok5
  have HL5 := Lib.hid rL5
  have Hqr3 := Lib.hid hqr3
  have Hw5 := Lib.hid hw5
  have hlx : o.xs.length ≤ 140737488351232 := hok5.2.2.2
  obtain ⟨ln, hln⟩ : ∃ ln, ln = o.xs.length := ⟨_, rfl⟩
  rw [← hln] at l3 hcv hlx
  have Hln := Lib.hid hln
  rw [hw5] at hcv l0 l1 l2 l3 m0 m1 m2 m3
  clear hrf hqr o4 hp4 hg4 hO4 hok4 rL4 hsb o5 rR5 rL5 hok5 hE5 hw5 hqr3 hln hr'
  go_wp2_with fail
  rw [← Hw5.out]
  refine hnm.mono ?_
  clear hnm hcv l0 l1 l2 l3 m0 m1 m2 m3
  rintro e w6 ⟨rfl, o6⟩
  have l3 := (HL5.out.only0 o6).cell (i := 3) rfl
  have HP6 := Lib.hid (HP5.out.only0 o6)
  have HO6 := Lib.hid (HO5.out.trans0 o6)
  have Hok6 := Lib.hid (Hok5.out.only0 o6)
  have HL6 := Lib.hid (HL5.out.only0 o6)
  rw [← Hln.out] at l3
  clear o6
  go_wp2_with fail
  clear l3
  have hw2L : w2.heap.size ∉ o.bb := fun hm => by have := hin2 _ (Hbb.out _ hm).1; omega
  go_loopw [137] (fun a wr => ∃ (j : Nat) (ys : List UInt8), a = .int .i64 (j : Int) ∧ j ≤ ln ∧ Hid (ys.length = ln) ∧ Hid (ln ≠ 0 → Own wr 0 5 (.slice o.q ln o.c) (u8s ys)) ∧ Hid (Only o.bb w6 wr)) (fun a _ => ln - (intOf a).toNat)
  case atStart => exact ⟨0, o.xs, rfl, Nat.zero_le _, Lib.hid Hln.out.symm, Lib.hid (fun hne => by
    have h1 := Hok6.out.2.2.1.2 (fun e => hne (by rw [Hln.out, e]; rfl))
    rwa [← Hln.out] at h1), Lib.hid (Only.refl _ _)⟩
  case round =>
    obtain ⟨j, ys, rfl, hj, Hys, Hr, HO⟩ := hrel
    have l3 := (HL6.out.only HO.out hw2L).cell (i := 3) rfl
    rw [← Hln.out] at l3
    by_cases hlt : j < ln
    · have hji : (j : Int) < (ln : Int) := by omega
      have hne : o.xs ≠ [] := fun e => by have := Hln.out; rw [e] at this; simp at this; omega
      have hown := Hr.out (by omega)
      obtain ⟨g, hg, -, -⟩ := hown.at (by omega)
      rw [hg] at hown l3
      have hgbb : o.bb = [g] := by rw [Lt.bb_blk hne, hg]; rfl
      have hjl : j < ys.length := by rw [Hys.out]; exact hlt
      have hcj := hown.cellAt (u8s_get hjl)
      generalize ys[j]'hjl = y at hcj
      obtain ⟨hfj, hset⟩ := hown.set hlt (u8 (y ^^^ 3))
      have hx3 := u8_xor3 y
      rw [u8s_set] at hset
      have Hr2 : Hid (ln ≠ 0 → Own (wr.setCell ⟨g, j, none⟩ (.int .u8 ((y ^^^ 3).toNat : Int))) 0 5 (.slice o.q ln o.c) (u8s (ys.set j (y ^^^ 3)))) := Lib.hid (fun _ => by rw [hg]; exact hset)
      have HO7 : Hid (Only o.bb w6 (wr.setCell ⟨g, j, none⟩ (.int .u8 ((y ^^^ 3).toNat : Int)))) := Lib.hid (HO.out.trans (Only.setCell _ ⟨g, j, none⟩ _) (fun i hi _ => by rw [hgbb]; exact hi))
      have Hys2 : Hid ((ys.set j (y ^^^ 3)).length = ln) := Lib.hid (by rw [List.length_set]; exact Hys.out)
      clear hne hown hg hgbb hjl hset
      go_wp2_with fail
      refine ⟨⟨j + 1, ys.set j (y ^^^ 3), by go_num, by omega, Hys2, Hr2, HO7⟩, ?_⟩
      show ln - ((j : Int) + 1).toNat < ln - ((j : Int)).toNat
      omega
    · obtain rfl : j = ln := by omega
      have hji : ¬ (j : Int) < (j : Int) := by omega
      go_wp2_with fail
      go_ret
      exact ⟨rfl, PlayEnd.of HOo.out HP6.out (Nat.le_succ _) HG4.out HO6.out HO.out Hqr3.out (fun x hx => .inl (List.mem_append_left _ (Hbb.out x hx).1))⟩
end
end Go.Proofs.YtlgcclhepegggaaDoor
