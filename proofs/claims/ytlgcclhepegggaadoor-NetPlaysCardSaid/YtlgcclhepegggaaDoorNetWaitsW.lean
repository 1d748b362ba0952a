/- The walk of bollardlaw14.waits; bollardlaw14.play at every act. -/
import Derived.Test.YtlgcclhepegggaaDoorNetPlay4W
import Derived.Test.YtlgcclhepegggaaDoorNetOrdersL
import Derived.Test.YtlgcclhepegggaaDoorFresh
import Derived.Test.YtlgcclhepegggaaDoorSameIntsW
set_option linter.unusedVariables false
set_option maxRecDepth 100000
namespace Go.Proofs.YtlgcclhepegggaaDoor
open Go.RowKit

section
variable {w0 : World} {base B n c last Br cr : Nat} {q qr : Option Addr} {L : List Lt}
set_option maxHeartbeats 8000000 in
theorem waits_any (h : PA w0 base B q n c last L Br qr cr) :
    Calls Tryd.prog 22 #[.pointer (some ⟨B, 0, none⟩), .pointer (some ⟨Br, 0, none⟩)] w0 fun e w' => e = .returned (.bool true) ∧ Only [] w0 w' := by
  obtain ⟨w1, hw1⟩ : ∃ w1, w1 = w0.alloc (.cells #[] 3) := ⟨_, rfl⟩
  have o1 : Only [] w0 w1 := by rw [hw1]; exact Only.alloc _ _
  have own1 : Own w1 w0.heap.size 3 (.slice (some ⟨w0.heap.size, 0, none⟩) 0 0) [] := by rw [hw1]; exact Own.ofRow (vs := []) (rest := []) (Nat.le_refl _) (Row.new w0 _ []) rfl (by omega)
  have hn4 := h.n4
  have hcr := (h.ref.only0 o1).st.cell (i := 0) rfl
  have H := Lib.hid h
  have HO1 := Lib.hid o1
  have HOwn1 := Lib.hid own1
  have Hw1 := Lib.hid hw1
  rw [hw1] at hcr
  clear h o1 own1 hw1
  go_enter Tryd.func22, Tryd.ntmps22
  go_wp2_with fail
  rw [← Hw1.out]
  rw [← Hw1.out] at hcr
  clear hcr Hw1
  go_loopw [14, 5] (fun a o wr => ∃ (j : Nat) (p : Option Addr) (d : Nat), a = .int .i64 (j : Int) ∧ o = .slice p j d ∧ j ≤ n ∧ Hid (Own wr w0.heap.size 3 (.slice p j d) (numsV (L.take j))) ∧ Hid (Only [] w0 wr)) (fun a _ _ => n - (intOf a).toNat)
  case atStart => exact ⟨0, _, 0, rfl, rfl, Nat.zero_le _, Lib.hid (by rw [List.take_zero]; exact HOwn1.out), HO1⟩
  case round =>
    obtain ⟨j, p, d, rfl, rfl, hj, Hown, HO⟩ := hrel
    by_cases hlt : j < n
    · have hji : (j : Int) < (n : Int) := by omega
      obtain ⟨o, ho⟩ : ∃ o, L[j]? = some o := ⟨_, List.getElem?_eq_getElem (by rw [H.out.ref.len]; exact hlt)⟩
      obtain ⟨g, rfl, c0, c1, c2, c3⟩ := (H.out.ref.only0 HO.out).cell ho
      generalize hrs : rStr o = so at c3
      have hso : Hid (so.oneCell' = true) := Lib.hid (by rw [← hrs]; rfl)
      obtain ⟨sb, hsb⟩ : ∃ sb, so = .string sb := ⟨_, hrs.symm⟩
      subst hsb
      obtain ⟨w1, hw1⟩ : ∃ w1, w1 = (wr.alloc (.cells #[.int .i64 (o.n : Int), .int .i64 o.fr, .int .i64 o.to, .string sb] 55)).alloc (.cells #[.int .i64 (o.n : Int)] 3) := ⟨_, rfl⟩
      have oA : Only [] wr w1 := by rw [hw1]; exact (Only.alloc _ _).trans0 (Only.alloc _ _)
      obtain ⟨w2, hw2⟩ : ∃ w2, w2 = wr.alloc (.cells #[.int .i64 (o.n : Int), .int .i64 o.fr, .int .i64 o.to, .string sb] 55) := ⟨_, rfl⟩
      have rA : Row w1 w2.heap.size 3 [.int .i64 (o.n : Int)] := by rw [hw1, ← hw2]; exact Row.newOf _ _ _ _ rfl
      have hw2s : w2.heap.size = wr.heap.size + 1 := by rw [hw2]; exact Array.size_push ..
      rw [hw2s] at rA
      obtain ⟨p', d', w5, hr, own5, o5, hb5⟩ := append_owned (P := Tryd.prog) (bytes := 8) (c := 1) (q := some ⟨wr.heap.size + 1, 0, none⟩) (m := 1) (news := [.int .i64 (o.n : Int)]) (t := 26) (ty := 26) w1 Tryd.underlying26 Tryd.infoI64 rfl (Hown.out.only0 oA) rA.rd0 rfl (by simp) (fun v hv => by obtain rfl := List.mem_singleton.1 hv; rfl) (by omega) (by omega) (Nat.le_trans HO.out.size oA.size)
      rw [hw1] at hr
      have Hr := Lib.hid hr
      have Own5 : Hid (Own w5 w0.heap.size 3 (.slice p' (j + 1) d') (numsV (L.take (j + 1)))) := Lib.hid (by
        rw [List.take_add_one, ho]
        unfold numsV at own5 ⊢
        rw [List.map_append]
        exact own5)
      have HO5 : Hid (Only [] w0 w5) := Lib.hid ((HO.out.trans0 oA).transN o5 (fun x hx => by
        cases p with
        | none => cases hx
        | some a => simp [blk] at hx; subst hx; exact (Hown.out.lt _ rfl).1))
      clear ho oA hw1 hw2 rA hw2s hr own5 o5 hb5 Hown HO hso hrs
      go_wp2_with (first | (at_builtin; refine wpl_append (s := .tmp 18) (x := .tmp 21) rfl rfl rfl rfl Hr.out ?_))
      refine ⟨⟨j + 1, p', d', by go_num, rfl, by omega, Own5, HO5⟩, ?_⟩
      show n - ((j : Int) + 1).toNat < n - ((j : Int)).toNat
      omega
    · obtain rfl : j = n := by omega
      have hji : ¬ (j : Int) < (j : Int) := by omega
      have hown := Hown.out
      rw [List.take_of_length_le (by rw [H.out.ref.len]; exact Nat.le_refl _)] at hown
      have HOwn := Lib.hid hown
      have hwt := waiting_any wr base B q j c last L (H.out.net.only0 HO.out) (by omega)
      clear hown Hown
      go_wp2_with fail
      refine hwt.mono ?_
      clear hwt
      rintro e w4 ⟨p', d', rfl, own4, o4⟩
      have hsi := sameInts_any w4 p' p j d' d (L.map fun o => (o.n : Int)) (by rw [List.length_map, H.out.ref.len]) (by omega) (by rw [← numsV_ints]; exact own4.view.1) (by rw [← numsV_ints]; exact (HOwn.out.only0 o4).view.1)
      have HO4 := Lib.hid (HO.out.trans0 o4)
      clear own4 o4
      go_wp2_with fail
      refine hsi.mono ?_
      clear hsi
      rintro e w5 ⟨rfl, o5⟩
      have HO5 := Lib.hid (HO4.out.trans0 o5)
      clear o5
      go_wp2_with fail
      go_ret
      exact ⟨rfl, HO5.out⟩
end
section
variable (az : List Addr) {wz w0 : World} {base B n c last Br cr : Nat} {q qr : Option Addr} {L : List Lt} {aN aG aF : Addr}
/-- one act by both -/
theorem play_any (h : PA w0 base B q n c last L Br qr cr) (hE : ErrAll wz az) (h0 : Only [] wz w0) (hb : wz.heap.size ≤ base) (hN : az[1]? = some aN) (hG : az[7]? = some aG) (hF : az[9]? = some aF) (kd wh fr tg no : Int) (bp : Option Addr) (bm bc : Nat) (bs : List UInt8) (hno : -9223372036854775808 ≤ no ∧ no ≤ 9223372036854775807) (hl : bs.length = bm) (hlb : bm ≤ 140737488351232) (hbn : bp = none → bm = 0 ∧ bc = 0) (hbr : Rd w0 bp (u8s bs)) (hnb : bs ≠ [] → ∀ a, bp = some a → a.block ∉ paD B q L Br qr) (hlast : last ≤ 1000000000000000000) :
    Calls Tryd.prog 21 #[.pointer (some ⟨B, 0, none⟩), .pointer (some ⟨Br, 0, none⟩), .agg #[.int .i64 kd, .int .i64 wh, .int .i64 fr, .int .i64 tg, .int .i64 no, .slice bp bm bc]] w0 fun e w' => e = .returned (.bool true) ∧ PlayEnd w0 base B q last L Br qr w' := by
  by_cases k1 : kd = 1
  · subst k1; exact play_send az h hE h0 hb hN hF wh fr tg no bp bm bc bs hl hlb hbn hbr hnb hlast
  by_cases k2 : kd = 2
  · subst k2; exact play_deliver az h hE h0 hb hG wh fr tg no bp bm bc
  by_cases k3 : kd = 3
  · subst k3; exact play_drop az h hE h0 hb hG wh fr tg no bp bm bc
  by_cases k4 : kd = 4
  · subst k4; exact play_copy az h hE h0 hb hG hF wh fr tg no bp bm bc hlast
  by_cases k5 : kd = 5
  · subst k5; exact play_nth h wh fr tg no bp bm bc hno
  by_cases k6 : kd = 6
  · subst k6; exact play_lose h wh fr tg no bp bm bc
  · exact play_none h kd wh fr tg no bp bm bc (by omega)
end
end Go.Proofs.YtlgcclhepegggaaDoor
