/- The walk of bollardlaw14.alive. -/
import Derived.Test.YtlgcclhepegggaaDoorNetOps2W
set_option linter.unusedVariables false
set_option maxRecDepth 100000
namespace Go.Proofs.YtlgcclhepegggaaDoor
open Go.RowKit

theorem NetAt.fresh {w0 w w' : World} {base B n c last : Nat} {q : Option Addr} {L : List Lt} (h : NetAt w base B q n c last L) (hb : w0.heap.size ≤ base) (h0 : Only [] w0 w) (ho : Only (B :: blk q) w w') : Only [] w0 w' :=
  h0.transN ho (fun x hx => by
    have := (h.lt x (by
      rcases List.mem_cons.1 hx with rfl | h1
      · simp [netD]
      · simp [netD, h1])).1
    omega)
set_option maxHeartbeats 16000000 in
theorem alive14_any (w0 : World) (aG aF : Addr) (eG : ErrAt w0 2 aG) (eF : ErrAt w0 10 aF) : Calls Tryd.prog 12 #[] w0 fun e w' => e = .returned (.bool true) ∧ Only [] w0 w' := by
  have HG := Lib.hid eG
  have HF := Lib.hid eF
  clear eG eF
  have hnew := new_any w0
  go_enter Tryd.func12, Tryd.ntmps12
  go_wp2_with fail
  (with_reducible refine (hnew).mono ?_)
  rintro e w1 ⟨rfl, hnet, o1⟩
  clear hnew
  have hb0 : w0.heap.size ≤ w0.heap.size := Nat.le_refl _
  generalize hBe : w0.heap.size = B0 at hnet
  have HBe := Lib.hid hBe
  have HN1 := Lib.hid hnet
  have HO1 := Lib.hid o1
  clear hBe hb0 hnet o1
  have hcc := Go.Lib.run_convert_bytes_const (P := Tryd.prog) w1 27 5 #[.int .u8 97] 1 1 Tryd.underlying27 Tryd.underlying5
  obtain ⟨w2, hw2⟩ : ∃ w2, w2 = w1.alloc (.cells #[.int .u8 97] 5 (1, 2)) := ⟨_, rfl⟩
  have o2 : Only [] w1 w2 := by rw [hw2]; exact Only.alloc _ _
  have rn : Rd w2 (some ⟨w1.heap.size, 0, none⟩) (u8s [97]) := by rw [hw2]; exact Rd.newMark w1 5 (u8s [97]) (1, 2)
  have hBlt := HN1.out.st.lt
  have hsend := send_ok w2 B0 B0 none 0 0 0 [] (HN1.out.only0 o2) 0 1 ⟨by omega, by omega⟩ (some ⟨w1.heap.size, 0, none⟩) 1 1 [97] rfl (by omega) (by simp) rn (fun _ a ha => by obtain rfl := Option.some.inj ha; dsimp only; omega) (by omega) aF (HF.out.only0 (HO1.out.trans0 o2))
  have HO2 := Lib.hid (HO1.out.trans0 o2)
  have HN2 := Lib.hid (HN1.out.only0 o2)
  clear o2 rn hBlt
  go_wp2_with fail
  rw [← hw2]
  refine hsend.mono ?_
  clear hsend hcc hw2
  unfold PutEnd
  rintro e w3 (⟨h1, -⟩ | ⟨-, q3, c3, o, rfl, n3, ⟨on, ofr, oto, oxs⟩, -, -, o3⟩)
  · omega
  have HO3 : Hid (Only [] w0 w3) := Lib.hid (HN2.out.fresh (by rw [HBe.out]; exact Nat.le_refl _) HO2.out o3)
  have hr1 : Rises 1 ([] ++ [o]) := ⟨by simp; omega, by simp⟩
  have HN3 := Lib.hid n3
  have Ho : Hid (o.n = 1 ∧ o.fr = 0 ∧ o.to = 1 ∧ o.xs = [97]) := Lib.hid ⟨by omega, ofr, oto, oxs⟩
  clear n3 on ofr oto oxs o3 HN1 HN2
  have hcopy := copy_any w3 B0 B0 q3 1 c3 1 ([] ++ [o]) HN3.out hr1 (by omega) 1 (by omega) aG aF (HG.out.only0 HO3.out) (HF.out.only0 HO3.out)
  have Hr1 := Lib.hid hr1
  clear hr1
  go_wp2_with fail
  refine hcopy.mono ?_
  clear hcopy
  unfold CopyEnd PutEnd
  rintro e w4 (⟨-, hno, -⟩ | ⟨i, o', hio, -, ⟨h1, -⟩ | ⟨-, q4, c4, o2, rfl, n4, ⟨on, ofr, oto, oxs⟩, -, -, o4⟩⟩)
  · exact absurd (by rw [Ho.out.1]; rfl) (hno o (by simp))
  · omega
  have HO4 : Hid (Only [] w0 w4) := Lib.hid (HN3.out.fresh (by rw [HBe.out]; exact Nat.le_refl _) HO3.out o4)
  have hr2 : Rises 2 ([] ++ [o] ++ [o2]) := Hr1.out.snoc on
  have HN4 := Lib.hid n4
  clear n4 ofr oto oxs o4 hio
  have hdel := deliver_any w4 B0 B0 q4 2 c4 2 ([] ++ [o] ++ [o2]) HN4.out hr2 (by omega) 1 aG (HG.out.only0 HO4.out)
  have Hr2 := Lib.hid hr2
  have Hon := Lib.hid on
  clear hr2 on
  go_wp2_with fail
  refine hdel.mono ?_
  clear hdel
  unfold DelEnd
  rintro e w5 (⟨-, hno, -⟩ | ⟨i, o5, rfl, hio, hin, n5, o5w⟩)
  · exact absurd (by rw [Ho.out.1]; rfl) (hno o (by simp))
  obtain ⟨rfl, rfl⟩ : i = 0 ∧ o = o5 := by
    match i, hio with
    | 0, hio => simp at hio; exact ⟨rfl, hio⟩
    | 1, hio =>
      simp at hio
      subst hio
      have := Hon.out
      omega
    | i + 2, hio => simp at hio
  have hok := HN4.out.ok o (by simp)
  have hrd := hok.1
  have hnil := hok.2.1
  rw [Ho.out.2.2.2] at hrd hnil
  have HO5 : Hid (Only [] w0 w5) := Lib.hid (HN4.out.fresh (by rw [HBe.out]; exact Nat.le_refl _) HO4.out o5w)
  have hr3 : Rises 2 (([] ++ [o] ++ [o2]).eraseIdx 0) := Hr2.out.erase
  have HN5 := Lib.hid n5
  have hbn : ∀ a, o.q = some a → a.block ∉ (B0 :: blk q4) := fun a ha hm => by
    have hnd := List.nodup_cons.1 HN4.out.nd
    have h1 : a.block ∈ bbs ([] ++ [o] ++ [o2]) := bbs_mem (o := o) (by simp) (by unfold Lt.bb; rw [if_neg (by rw [Ho.out.2.2.2]; simp), ha]; simp [blk])
    rcases List.mem_cons.1 hm with e | e
    · exact hnd.1 (by rw [← e]; exact List.mem_append_right _ h1)
    · exact (List.nodup_append.1 hnd.2).2.2 _ e _ h1 rfl
  have hrd5 : Rd w5 o.q (u8s [97]) := hrd.only o5w hbn
  obtain ⟨on, ofr, oto, oxs⟩ := Ho.out
  unfold ltV
  rw [on, ofr, oto, oxs]
  generalize o.q = oq at *
  generalize o.c = oc at *
  have Hrd5 := Lib.hid hrd5
  have Hnil := Lib.hid hnil
  clear n5 o5w hio hin hok hrd hnil hbn hrd5 on ofr oto oxs
  obtain ⟨w6, hw6⟩ : ∃ w6, w6 = w5.alloc (.cells #[.int .i64 1, .int .i64 0, .int .i64 1, .slice oq 1 oc] 37) := ⟨_, rfl⟩
  have oA : Only [] w5 w6 := by rw [hw6]; exact Only.alloc _ _
  have rL : Row w6 w5.heap.size 37 [.int .i64 1, .int .i64 0, .int .i64 1, .slice oq 1 oc] := by rw [hw6]; exact Row.newOf _ _ _ _ rfl
  have hdel2 := deliver_any w6 B0 B0 q4 (2 - 1) c4 2 (([] ++ [o] ++ [o2]).eraseIdx 0) (HN5.out.only0 oA) hr3 (by omega) 1 aG (HG.out.only0 (HO5.out.trans0 oA))
  have HrL := Lib.hid rL
  have HO6 := Lib.hid (HO5.out.trans0 oA)
  have HR5 := Lib.hid (Hrd5.out.only0 oA)
  clear oA rL hr3
  go_wp2_with fail
  rw [← hw6]
  refine hdel2.mono ?_
  clear hdel2
  unfold DelEnd
  rintro e w7 (⟨rfl, -, o7⟩ | ⟨i, o7, rfl, hio, hin, -⟩)
  · have HO7 := Lib.hid (HO6.out.trans0 o7)
    obtain ⟨w8, hw8⟩ : ∃ w8, w8 = w7.alloc (.cells #[.int .i64 0, .int .i64 0, .int .i64 0, .slice none 0 0] 37) := ⟨_, rfl⟩
    have oB : Only [] w7 w8 := by rw [hw8]; exact Only.alloc _ _
    have rL8 := HrL.out.only0 (o7.trans0 oB)
    have y1 := rL8.cell (i := 2) rfl
    have y3 := rL8.cell (i := 3) rfl
    have hgc := (HG.out.only0 (HO7.out.trans0 oB)).cell
    have heq := err_eql_same w8 aG
    have hcv := conv_bytes (P := Tryd.prog) (src := 27) (dst := 9) (xs := [97]) (n := 1) w8 Tryd.underlying27 Tryd.underlying5 Tryd.underlying9 ((HR5.out.only0 o7).only0 oB) rfl Hnil.out
    have HO8 := Lib.hid (HO7.out.trans0 oB)
    rw [hw8] at y1 y3 hgc heq hcv HO8
    clear rL8 o7 oB hw8
    unfold ltV0 ev
    go_wp2_with fail
    go_ret
    exact ⟨rfl, HO8.out⟩
  · exfalso
    match i, hio with
    | 0, hio =>
      simp at hio
      subst hio
      have := Hon.out
      omega
    | i + 1, hio => simp at hio
end Go.Proofs.YtlgcclhepegggaaDoor
