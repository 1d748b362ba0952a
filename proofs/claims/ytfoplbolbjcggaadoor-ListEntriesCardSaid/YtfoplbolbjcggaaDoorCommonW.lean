/- The walk of bollardref20.common. -/
import Derived.Test.YtfoplbolbjcggaaDoorEntryW
set_option linter.unusedVariables false
set_option maxRecDepth 100000
namespace Go.Proofs.YtfoplbolbjcggaaDoor
open Go.RowKit

def commAns (pf dl k : Bs) : Value := match comm pf dl k with
  | some c => .tuple #[.string (str c), .bool true]
  | none => .tuple #[.string (str []), .bool false]
theorem str_ext (k : Bs) (a b : Nat) : (str k).extract a b = str ((k.take b).drop a) := by
  apply ByteArray.ext
  rw [ByteArray.data_extract]
  apply Array.ext'
  simp [str, List.drop_take, List.extract_eq_take_drop]
theorem seg_eq (pf rs : Bs) (j d : Nat) : ((pf ++ rs).take (pf.length + j + d)).drop (pf.length + j) = (rs.drop j).take d := by
  rw [List.drop_take, List.drop_append, List.drop_eq_nil_of_le (by omega), List.nil_append]
  congr 1
  · omega
  · congr 1; omega
set_option maxHeartbeats 8000000 in
theorem common_any (pf rs dl : Bs) (w : World) (hk : pf.length + rs.length ≤ 4294967280) (hd : dl.length ≤ 140737488351232) :
    Calls Tryd.prog 50 #[.string (str (pf ++ rs)), .string (str pf), .string (str dl)] w fun e w' => e = .returned (commAns pf dl (pf ++ rs)) ∧ Only [] w w' := by
  have hksz : (str (pf ++ rs)).size = pf.length + rs.length := by rw [str_size, List.length_append]
  have hpsz : (str pf).size = pf.length := str_size pf
  have hdsz : (str dl).size = dl.length := str_size dl
  have hpp : pf <+: pf ++ rs := List.prefix_append _ _
  have hdr : (pf ++ rs).drop pf.length = rs := List.drop_left
  by_cases he : dl = []
  · have hde : (str dl).toList = [] := by rw [he, str_toList]
    have Hc : Hid (comm pf dl (pf ++ rs) = none) := Lib.hid (by unfold comm; rw [if_neg (fun h => h.1 he)])
    clear he hpp hdr
    go_enter Tryd.func50, Tryd.ntmps50
    go_wp2_with fail
    go_loopw [8] (fun a wr => a = .int .i64 (pf.length : Int) ∧ Hid (Only [] w wr)) (fun a _ => 0)
    case atStart => exact ⟨rfl, Lib.hid (Only.refl _ _)⟩
    case round =>
      obtain ⟨rfl, ho⟩ := hrel
      go_wp2_with fail
      go_ret2
      exact ⟨by unfold commAns; rw [Hc.out]; rfl, ho.out⟩
  · have hde : ¬ (str dl).toList = [] := by rw [str_toList]; exact he
    have hde2 : (str dl).toList.isEmpty = false := by rw [str_toList]; cases dl with | nil => exact absurd rfl he | cons x l => rfl
    have Hseg : Hid (∀ j, (str (pf ++ rs)).extract (pf.length + j) (pf.length + j + dl.length) = str ((rs.drop j).take dl.length)) := Lib.hid (fun j => by rw [str_ext, seg_eq])
    have Hpre : Hid (∀ j, (str (pf ++ rs)).extract 0 (pf.length + j + dl.length) = str (pf ++ rs.take (j + dl.length))) := Lib.hid (fun j => by
      rw [str_ext, List.drop_zero, List.take_append, List.take_of_length_le (by omega)]
      congr 3
      omega)
    have Hhit : Hid (∀ j, j + dl.length ≤ rs.length → Lib.occAt rs dl j = true → (∀ j', j' < j → Lib.occAt rs dl j' = false) → comm pf dl (pf ++ rs) = some (pf ++ rs.take (j + dl.length))) := Lib.hid (fun j h1 h2 h3 => (comm_some hpp).2 ⟨he, j, by rw [hdr]; exact h1, by rw [hdr]; exact h2, by rw [hdr]; exact h3, by rw [hdr]⟩)
    have Hmiss : Hid (∀ j, rs.length < j + dl.length → (∀ j', j' < j → Lib.occAt rs dl j' = false) → comm pf dl (pf ++ rs) = none) := Lib.hid (fun j h1 h3 => by
      cases hc : comm pf dl (pf ++ rs) with
      | none => rfl
      | some c =>
        obtain ⟨_, i, k1, k2, _, _⟩ := (comm_some hpp).1 hc
        rw [hdr] at k1 k2
        have := h3 i (by omega)
        rw [this] at k2; cases k2)
    have Hocc : Hid (∀ j, j + dl.length ≤ rs.length → Lib.occAt rs dl j = ((rs.drop j).take dl.length == dl)) := Lib.hid (fun j h => Lib.occAt_iff_take rs dl j h)
    obtain ⟨K, hK⟩ : ∃ K, pf ++ rs = K := ⟨_, rfl⟩
    rw [hK] at hksz Hseg Hpre Hhit Hmiss ⊢
    clear he hpp hdr hK
    obtain ⟨P, hP⟩ : ∃ P, pf.length = P := ⟨_, rfl⟩
    obtain ⟨R, hR⟩ : ∃ R, rs.length = R := ⟨_, rfl⟩
    obtain ⟨d, hdl⟩ : ∃ d, dl.length = d := ⟨_, rfl⟩
    rw [hP] at hpsz hk hksz Hseg Hpre
    rw [hR] at hk hksz Hhit Hmiss Hocc
    rw [hdl] at hd hdsz Hseg Hpre Hhit Hmiss Hocc
    have HP := Lib.hid hP
    clear hP hR hdl
    go_enter Tryd.func50, Tryd.ntmps50
    go_wp2_with fail
    go_loopw [8] (fun a wr => ∃ j : Nat, a = .int .i64 ((P + j : Nat) : Int) ∧ j ≤ R + 1 ∧ Hid (∀ j', j' < j → Lib.occAt rs dl j' = false) ∧ Hid (Only [] w wr)) (fun a _ => P + R + 2 - (intOf a).toNat)
    case atStart => exact ⟨0, by simp, by omega, Lib.hid (fun _ h => absurd h (Nat.not_lt_zero _)), Lib.hid (Only.refl _ _)⟩
    case round =>
      obtain ⟨j, rfl, hj, Hno, ho⟩ := hrel
      have hj0 : (0 : Int) ≤ ((P + j : Nat) : Int) := by omega
      by_cases hin : j + d ≤ R
      · obtain ⟨A, hA⟩ : ∃ A, P + j = A := ⟨_, rfl⟩
        obtain ⟨B, hB⟩ : ∃ B, A + d = B := ⟨_, rfl⟩
        have hs := Hseg.out j
        have hp := Hpre.out j
        rw [hA, hB] at hs hp
        have hw1 : (A : Int) + (d : Int) = (B : Int) := by omega
        have hle1 : (A : Int) + (d : Int) ≤ (P : Int) + (R : Int) := by omega
        have hAB : (A : Int) ≤ (B : Int) := by omega
        have hBs : (B : Int) ≤ ((P : Int) + (R : Int)) := by omega
        rw [hA]
        have hoc := Hocc.out j hin
        by_cases hq : (rs.drop j).take d = dl
        · have hq1 : ((str K).extract A B).toList = (str dl).toList := by rw [hs, hq]
          have hc := Hhit.out j hin (by rw [hoc, hq]; exact beq_self_eq_true _) Hno.out
          have Hc := Lib.hid hc
          have Hp := Lib.hid hp
          clear hc hp hs hq hoc
          go_wp2_with fail
          go_ret2
          refine ⟨?_, ho.out⟩
          unfold commAns
          rw [Hc.out]
          show Ending.returned (Value.tuple #[.string ((str K).extract 0 B), .bool true]) = _
          rw [Hp.out]
        · have hq1 : ¬ ((str K).extract A B).toList = (str dl).toList := by
            rw [hs, str_toList, str_toList]; exact hq
          have hq2 : (((str K).extract A B).toList == (str dl).toList) = false := beq_false_of_ne hq1
          have Hn2 : Hid (∀ j', j' < j + 1 → Lib.occAt rs dl j' = false) := Lib.hid (fun j' h => by
            rcases Nat.lt_or_eq_of_le (Nat.lt_succ_iff.1 h) with h1 | rfl
            · exact Hno.out j' h1
            · rw [hoc]; exact beq_false_of_ne hq)
          clear hp hs hq hoc
          go_wp2_with fail
          refine ⟨⟨j + 1, by rw [← Nat.add_assoc, hA]; go_num, by omega, Hn2, ho⟩, ?_⟩
          show P + R + 2 - ((A : Int) + 1).toNat < P + R + 2 - ((A : Int)).toNat
          omega
      · have hle1 : ¬ ((P + j : Nat) : Int) + (d : Int) ≤ (P : Int) + (R : Int) := by omega
        have hc := Hmiss.out j (by omega) Hno.out
        have Hc := Lib.hid hc
        clear hc
        go_wp2_with fail
        go_ret2
        exact ⟨by unfold commAns; rw [Hc.out]; rfl, ho.out⟩
end Go.Proofs.YtfoplbolbjcggaaDoor
