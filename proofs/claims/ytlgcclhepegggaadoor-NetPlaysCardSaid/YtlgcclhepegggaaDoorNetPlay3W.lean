/- The walks of bollardlaw14.play: KDrop, KNth. -/
import Derived.Test.YtlgcclhepegggaaDoorNetPlay2W
set_option linter.unusedVariables false
set_option maxRecDepth 100000
namespace Go.Proofs.YtlgcclhepegggaaDoor
open Go.RowKit

section
variable (az : List Addr) {wz w0 : World} {base B n c last Br cr : Nat} {q qr : Option Addr} {L : List Lt} {aN aG aF : Addr}
set_option maxHeartbeats 8000000 in
theorem play_drop (h : PA w0 base B q n c last L Br qr cr) (hE : ErrAll wz az) (h0 : Only [] wz w0) (hb : wz.heap.size ≤ base) (hG : az[7]? = some aG) (wh fr tg no : Int) (bp : Option Addr) (bm bc : Nat) :
    Calls Tryd.prog 21 #[.pointer (some ⟨B, 0, none⟩), .pointer (some ⟨Br, 0, none⟩), .agg #[.int .i64 3, .int .i64 wh, .int .i64 fr, .int .i64 tg, .int .i64 no, .slice bp bm bc]] w0 fun e w' => e = .returned (.bool true) ∧ PlayEnd w0 base B q last L Br qr w' := by
  obtain ⟨wo, hwo⟩ : ∃ wo, wo = w0.alloc (.cells #[.int .i64 3, .int .i64 wh, .int .i64 fr, .int .i64 tg, .int .i64 no, .slice bp bm bc] 29) := ⟨_, rfl⟩
  have oO : Only [] w0 wo := by rw [hwo]; exact Only.alloc _ _
  have rO : Row wo w0.heap.size 29 [.int .i64 3, .int .i64 wh, .int .i64 fr, .int .i64 tg, .int .i64 no, .slice bp bm bc] := by rw [hwo]; exact Row.newOf _ _ _ _ rfl
  have HP1 := Lib.hid (h.only0 oO)
  have H := Lib.hid h
  have HE := Lib.hid hE
  have H0 := Lib.hid h0
  have HOo := Lib.hid oO
  have HRo := Lib.hid rO
  have hsb := drop_both az hG HP1.out (hE.only0 (h0.trans0 oO)) (fun w1 o1 => HE.out.only0 (H.out.low H0.out hb ((HOo.out.mono (by simp)).trans o1 (fun i hi _ => hi)) (fun x hx => .inl (List.mem_append_right _ hx)))) no
  clear h hE h0 oO rO
  go_enter Tryd.func21, Tryd.ntmps21
  go_wp2_with fail
  rw [← hwo]
  refine hsb.mono ?_
  clear hsb hwo
  unfold DropBoth rV
  rintro e w2 ⟨o, num, n', L', qr', cr', rfl, hrf, hsl, hn4, hqr, o2, hrc⟩
  have hin2 : ∀ x ∈ netD B q L, x < w0.heap.size := fun x hx => (H.out.lt x (List.mem_append_left _ hx)).2
  have hinr : ∀ x ∈ Br :: blk qr, x < w0.heap.size := fun x hx => (H.out.lt x (List.mem_append_right _ hx)).2
  have rO2 := HRo.out.only o2 (fun hm => by have := hinr _ hm; omega)
  obtain ⟨w3, hw3⟩ : ∃ w3, w3 = w2.alloc (.cells #[.int .i64 (o.n : Int), .int .i64 o.fr, .int .i64 o.to, .string ⟨o.xs.toArray⟩] 55) := ⟨_, rfl⟩
  have o3 : Only [] w2 w3 := by rw [hw3]; exact Only.alloc _ _
  have hy4 := (rO2.only0 o3).cell (i := 4) rfl
  have hrc3 := hrc w3 o3
  have Hrf := Lib.hid (hrf.only0 o3)
  have HSl := Lib.hid hsl
  have HO3 := Lib.hid (o2.trans0 o3)
  have Hqr := Lib.hid hqr
  have Hw3 := Lib.hid hw3
  rw [hw3] at hy4
  clear hrf hsl o2 rO2 hrc hqr o3 hw3
  go_wp2_with fail
  rw [← Hw3.out]
  refine hrc3.mono ?_
  clear hrc3 hy4
  rintro e w4 ⟨v, rfl, hnum, hn4', o4⟩
  have hr' : Rises last L' := ⟨fun x hx => H.out.rises.1 x (HSl.out.subset hx), List.Pairwise.sublist (List.Sublist.map _ HSl.out) H.out.rises.2⟩
  obtain ⟨hp4, hg4, hO4⟩ := HP1.out.step2 Hrf.out Hqr.out HO3.out hn4' hr' (fun x hx => netD_sub HSl.out hx) (o4.mono (fun x hx => netD_head hx)) hn4
  have hE4 : ErrAll w4 az := HE.out.only0 (H.out.low H0.out hb ((HOo.out.mono (by simp)).trans hO4 (fun i hi _ => hi)) (fun x hx => .inl hx))
  have hnm := num_is hnum w4 hE4
  have HP4 := Lib.hid hp4
  have HG4 := Lib.hid hg4
  have HO4 := Lib.hid hO4
  clear hp4 hg4 hO4 hE4 hn4' o4 hnum hr'
  go_wp2_with fail
  refine hnm.mono ?_
  clear hnm
  rintro e w6 ⟨rfl, o6⟩
  have HO6 := Lib.hid o6
  clear o6
  go_wp2_with fail
  go_ret
  exact ⟨rfl, PlayEnd.of HOo.out HP4.out (Nat.le_succ _) HG4.out HO4.out HO6.out (by simp) (by simp)⟩
set_option maxHeartbeats 8000000 in
theorem play_nth (h : PA w0 base B q n c last L Br qr cr) (wh fr tg no : Int) (bp : Option Addr) (bm bc : Nat) (hno : -9223372036854775808 ≤ no ∧ no ≤ 9223372036854775807) :
    Calls Tryd.prog 21 #[.pointer (some ⟨B, 0, none⟩), .pointer (some ⟨Br, 0, none⟩), .agg #[.int .i64 5, .int .i64 wh, .int .i64 fr, .int .i64 tg, .int .i64 no, .slice bp bm bc]] w0 fun e w' => e = .returned (.bool true) ∧ PlayEnd w0 base B q last L Br qr w' := by
  obtain ⟨wo, hwo⟩ : ∃ wo, wo = w0.alloc (.cells #[.int .i64 5, .int .i64 wh, .int .i64 fr, .int .i64 tg, .int .i64 no, .slice bp bm bc] 29) := ⟨_, rfl⟩
  have oO : Only [] w0 wo := by rw [hwo]; exact Only.alloc _ _
  have rO : Row wo w0.heap.size 29 [.int .i64 5, .int .i64 wh, .int .i64 fr, .int .i64 tg, .int .i64 no, .slice bp bm bc] := by rw [hwo]; exact Row.newOf _ _ _ _ rfl
  have HP1 := Lib.hid (h.only0 oO)
  have hn4 := h.n4
  have hsb := nth_any wo base B q n c last L HP1.out.net (by omega) no hno
  have H := Lib.hid h
  have HOo := Lib.hid oO
  have HRo := Lib.hid rO
  clear h oO rO
  go_enter Tryd.func21, Tryd.ntmps21
  go_wp2_with fail
  rw [← hwo]
  refine hsb.mono ?_
  clear hsb hwo
  rintro e w2 ⟨o2, ⟨rfl, rfl⟩ | ⟨j, o, hj, hjv, rfl⟩⟩
  · obtain rfl : n = 0 := HP1.out.net.len.symm
    have HP2 := Lib.hid (HP1.out.only0 o2)
    have hcr := HP2.out.ref.st.cell (i := 0) rfl
    have HO2 := Lib.hid o2
    clear o2
    go_wp2_with fail
    go_ret
    exact ⟨rfl, PlayEnd.of HOo.out HP1.out (Nat.le_succ _) (fun x hx => .inl hx) (Only.refl _ _) HO2.out (by simp) (by simp)⟩
  · have HP2 := Lib.hid (HP1.out.only0 o2)
    have hcr := HP2.out.ref.st.cell (i := 0) rfl
    obtain ⟨g, hqg, d0, -, -, -⟩ := HP2.out.ref.cell hj
    rw [hqg] at hcr
    have hjl := (List.getElem?_eq_some_iff.1 hj).1
    have hln := HP1.out.net.len
    have hy4 := (HRo.out.only0 o2).cell (i := 4) rfl
    have b1 := Int.tmod_lt_of_pos no (show 0 < (n : Int) by omega)
    have b2 := Int.tmod_lt_of_pos (-no) (show 0 < (n : Int) by omega)
    rw [Int.neg_tmod] at b2
    have e : wrap64 (no.tmod (n : Int) + (n : Int)) = no.tmod (n : Int) + (n : Int) := IntWalk.wrap64_in _ (by omega)
    have hjv2 : (wrap64 (no.tmod (n : Int) + (n : Int))).tmod (n : Int) = (j : Int) := by rw [e]; exact hjv
    have hjv3 : (IntKind.i64.wrap (no.tmod (n : Int) + (n : Int))).tmod (n : Int) = (j : Int) := by rw [IntWalk.i64_in _ (by omega)]; exact hjv
    have hji : (j : Int) < (n : Int) := by omega
    have hn0 : ((n : Int) == 0) = false := by simp; omega
    have hn1 : ¬ (n : Int) = 0 := by omega
    have HO2 := Lib.hid o2
    clear hj hjv b1 b2 e hjl hln o2 hqg
    go_wp2_with fail
    go_quiet (fail)
    go_wp2_with fail
    go_ret
    exact ⟨rfl, PlayEnd.of HOo.out HP1.out (Nat.le_succ _) (fun x hx => .inl hx) (Only.refl _ _) (HO2.out.trans0 (Only.drewN _ _)) (by simp) (by simp)⟩
end
end Go.Proofs.YtlgcclhepegggaaDoor
