/- The walk of (*bollardref14.Net).Lose. -/
import Derived.Test.YtlgcclhepegggaaDoorNetRefOpsW
import Derived.Test.YtlgcclhepegggaaDoorNetLoseW
set_option linter.unusedVariables false
set_option maxRecDepth 100000
namespace Go.Proofs.YtlgcclhepegggaaDoor
open Go.RowKit

/-- what Lose hands back -/
def RLoseEnd (w0 : World) (base B : Nat) (n last : Nat) (L : List Lt) (t : Int) (e : Ending) (w' : World) : Prop :=
  ∃ (m : Nat) (q' : Option Addr) (c' : Nat), e = .returned (.int .i64 ((n : Int) - (m : Int))) ∧ m = (L.filter (keepP t)).length ∧ RefAt w' base B q' m c' last (L.filter (keepP t)) ∧ (∀ y ∈ blk q', w0.heap.size ≤ y) ∧ Only [B] w0 w'
set_option maxHeartbeats 8000000 in
theorem rlose_any (w0 : World) (base B : Nat) (q : Option Addr) (n c last : Nat) (L : List Lt) (h : RefAt w0 base B q n c last L) (hn : n ≤ 1000000) (t : Int) :
    Calls Tryd.prog 48 #[.pointer (some ⟨B, 0, none⟩), .int .i64 t] w0 (RLoseEnd w0 base B n last L t) := by
  have cB := h.st.cell (i := 0) rfl
  have hBlt := h.st.lt
  obtain ⟨w1, hw1⟩ : ∃ w1, w1 = w0.alloc (.cells #[] 55) := ⟨_, rfl⟩
  have o1 : Only [] w0 w1 := by rw [hw1]; exact Only.alloc _ _
  have own1 : OwnK w1 w0.heap.size 55 4 (.slice (some ⟨w0.heap.size, 0, none⟩) 0 0) 0 (rFlat []) := by rw [hw1]; exact OwnK.new (n := 0) [] (Nat.le_refl _) rfl (by omega)
  have H := Lib.hid h
  have HO1 : Hid (Only [] w0 (w0.alloc (.cells #[] 55))) := Lib.hid (by rw [← hw1]; exact o1)
  have Hown1 : Hid (OwnK (w0.alloc (.cells #[] 55)) w0.heap.size 55 4 (.slice (some ⟨w0.heap.size, 0, none⟩) 0 0) 0 (rFlat ((L.take 0).filter (keepP t)))) := Lib.hid (by rw [← hw1]; simpa using own1)
  clear h o1 own1 hw1
  go_enter Tryd.func48, Tryd.ntmps48
  go_wp2_with fail
  clear cB
  go_loopw [15, 5] (fun a v wr => ∃ (j m : Nat) (p : Option Addr) (d : Nat), a = .int .i64 (j : Int) ∧ v = .slice p m d ∧ j ≤ n ∧ m ≤ j ∧ Hid (OwnK wr w0.heap.size 55 4 (.slice p m d) m (rFlat ((L.take j).filter (keepP t)))) ∧ Hid (m = ((L.take j).filter (keepP t)).length) ∧ Hid (Only [] w0 wr)) (fun a _ _ => n - (intOf a).toNat)
  case atStart => exact ⟨0, 0, _, 0, rfl, rfl, Nat.zero_le _, Nat.le_refl _, Hown1, Lib.hid (by simp), HO1⟩
  case round =>
    clear Hown1 HO1
    obtain ⟨j, m, p, d, rfl, rfl, hj, hmj, Hown, Hm, HO⟩ := hrel
    by_cases hlt : j < n
    · have hji : (j : Int) < (n : Int) := by omega
      obtain ⟨o, ho⟩ : ∃ o, L[j]? = some o := ⟨_, List.getElem?_eq_getElem (by rw [H.out.len]; exact hlt)⟩
      obtain ⟨g, rfl, c0, c1, c2, c3⟩ := (H.out.only0 HO.out).cell ho
      obtain ⟨sb, hsb⟩ : ∃ sb, rStr o = .string sb := ⟨_, rfl⟩
      rw [hsb] at c3
      have Hsb := Lib.hid hsb
      have Ho := Lib.hid ho
      clear hsb ho
      by_cases he : o.to = t
      · have hne : (o.to != t) = false := by simp [he]
        have hk : keepP t o = false := by simp [keepP, he]
        have HO2 := Lib.hid (HO.out.trans0 (Only.alloc wr (.cells #[.int .i64 (o.n : Int), .int .i64 o.fr, .int .i64 o.to, .string sb] 55)))
        have Hown2 := Lib.hid (Hown.out.only0 (Only.alloc wr (.cells #[.int .i64 (o.n : Int), .int .i64 o.fr, .int .i64 o.to, .string sb] 55)))
        have hf : (L.take (j + 1)).filter (keepP t) = (L.take j).filter (keepP t) := by rw [List.take_add_one, Ho.out, List.filter_append]; simp [hk]
        have Hf := Lib.hid hf
        clear he hk hf
        go_wp2_with fail
        exact ⟨⟨j + 1, m, p, d, by go_num, rfl, by omega, by omega, by rw [Hf.out]; exact Hown2, by rw [Hf.out]; exact Hm, HO2⟩, by show n - ((j : Int) + 1).toNat < n - ((j : Int)).toNat; omega⟩
      · have hne : (o.to != t) = true := by simp [he]
        have hk : keepP t o = true := by simp [keepP, he]
        obtain ⟨w2, hw2⟩ : ∃ w2, w2 = wr.alloc (.cells #[.int .i64 (o.n : Int), .int .i64 o.fr, .int .i64 o.to, .string sb] 55) := ⟨_, rfl⟩
        have hs2 : w2.heap.size = wr.heap.size + 1 := by rw [hw2]; exact Array.size_push ..
        obtain ⟨w3, hw3⟩ : ∃ w3, w3 = w2.alloc (.cells #[.int .i64 (o.n : Int), .int .i64 o.fr, .int .i64 o.to, .string sb] 55) := ⟨_, rfl⟩
        have oA : Only [] wr w3 := by rw [hw3, hw2]; exact (Only.alloc _ _).trans0 (Only.alloc _ _)
        have rA : Row w3 (wr.heap.size + 1) 55 (rFlat [o]) := by rw [hw3, ← hs2, show rFlat [o] = [.int .i64 (o.n : Int), .int .i64 o.fr, .int .i64 o.to, .string sb] by rw [← Hsb.out]; rfl]; exact Row.newOf _ _ _ _ rfl
        obtain ⟨p', d', w5, hr, own5, o5, hb5⟩ := rlt_append_at w3 (c := 1) (m := 1) (q := some ⟨wr.heap.size + 1, 0, none⟩) (rs := [o]) (Hown.out.only0 oA) (Nat.le_trans HO.out.size oA.size) rA.rd0 rfl (by simp) (by omega)
        have hf : (L.take (j + 1)).filter (keepP t) = (L.take j).filter (keepP t) ++ [o] := by rw [List.take_add_one, Ho.out, List.filter_append]; simp [hk]
        rw [hw3, hw2] at hr
        have Hr := Lib.hid hr
        have Hown5 : Hid (OwnK w5 w0.heap.size 55 4 (.slice p' (m + 1) d') (m + 1) (rFlat ((L.take (j + 1)).filter (keepP t)))) := Lib.hid (by rw [hf]; exact own5)
        have Hm5 : Hid (m + 1 = ((L.take (j + 1)).filter (keepP t)).length) := Lib.hid (by rw [hf, List.length_append, ← Hm.out]; rfl)
        have HO5 : Hid (Only [] w0 w5) := Lib.hid ((HO.out.trans0 oA).transN o5 (fun x hx => (Hown.out.view.2.2.2.2.2.2 x hx).1))
        clear he hk hf hw2 hs2 hw3 oA rA hr own5 o5 hb5
        go_wp2_with (first | (at_builtin; refine wpl_append (s := .tmp 23) (x := .tmp 25) rfl rfl rfl rfl Hr.out ?_))
        exact ⟨⟨j + 1, m + 1, p', d', by go_num, rfl, by omega, by omega, Hown5, Hm5, HO5⟩, by show n - ((j : Int) + 1).toNat < n - ((j : Int)).toNat; omega⟩
    · obtain rfl : j = n := by omega
      have hji : ¬ (j : Int) < (j : Int) := by omega
      have hst := H.out.st.only0 HO.out
      have cB := hst.cell (i := 0) rfl
      have fB := hst.free 0
      have hw := IntWalk.i64_in ((j : Int) - (m : Int)) (by omega)
      have oS : Only [B] wr (wr.setCell ⟨B, 0, none⟩ (.slice p m d)) := Only.setCell wr ⟨B, 0, none⟩ _
      have hpn : ∀ y ∈ blk p, w0.heap.size ≤ y := fun y hy => (Hown.out.view.2.2.2.2.2.2 y hy).1
      have htk : L.take j = L := List.take_of_length_le (by rw [H.out.len]; exact Nat.le_refl _)
      have HF : Hid (RefAt (wr.setCell ⟨B, 0, none⟩ (.slice p m d)) base B p m d last (L.filter (keepP t))) := Lib.hid (by
        have h1 := Hown.out
        have h2 := Hm.out
        rw [htk] at h1 h2
        refine ⟨hst.setCell 0 _, (h1.only oS (fun k hk hmk => ?_)).weaken (by have := H.out.lo; omega), h2.symm, fun hm => by have := hpn B hm; omega, H.out.lo⟩
        obtain rfl : k = B := by simpa using hmk
        have := hpn k (blkOwn hk)
        omega)
      have Hm2 : Hid (m = (L.filter (keepP t)).length) := Lib.hid (by have := Hm.out; rwa [htk] at this)
      have HOf : Hid (Only [B] w0 (wr.setCell ⟨B, 0, none⟩ (.slice p m d))) := Lib.hid ((HO.out.mono (by simp)).trans oS (fun i hi _ => hi))
      have Hpn := Lib.hid hpn
      clear hst oS hpn htk
      go_wp2_with fail
      go_ret
      exact ⟨m, p, d, rfl, Hm2.out, HF.out, Hpn.out, HOf.out⟩
end Go.Proofs.YtlgcclhepegggaaDoor
