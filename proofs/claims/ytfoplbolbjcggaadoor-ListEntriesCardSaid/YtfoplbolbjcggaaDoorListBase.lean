/- Objects and entries as cells; the walk of bollardref10.GoodKey. -/
import Derived.Test.YtfoplbolbjcggaaDoorListPage
import Derived.Test.YtfoplbolbjcggaaDoorFlat
import Derived.Test.YtfoplbolbjcggaaDoorUnhexW
import Derived.Lib.ConvBytes
import Derived.Deep.DeepCutAuto
import Derived.Deep.Cut
set_option linter.unusedVariables false
set_option maxRecDepth 100000
namespace Go.Proofs.YtfoplbolbjcggaaDoor
open Go.RowKit

/-- a string's value -/
def str (b : Bs) : ByteArray := ⟨b.toArray⟩
theorem str_toList (b : Bs) : (str b).toList = b := by rw [ByteArray.toList_eq]; rfl
theorem str_size (b : Bs) : (str b).size = b.length := by simp [str, ByteArray.size]
theorem str_inj {a b : Bs} (h : str a = str b) : a = b := by rw [← str_toList a, ← str_toList b, h]
theorem str_eqb (a b : Bs) : ((str a).toList == (str b).toList) = decide (a = b) := by
  rw [str_toList, str_toList]
  by_cases h : a = b
  · rw [decide_eq_true h, h]; exact beq_self_eq_true _
  · rw [decide_eq_false h]; exact beq_false_of_ne h
theorem str_ltb (a b : Bs) : Op.bytesLess (str a).toList (str b).toList = decide (lt a b) := by
  rw [str_toList, str_toList]
  by_cases h : lt a b
  · rw [decide_eq_true h]; exact h
  · rw [decide_eq_false h]; unfold lt at h; simpa using h
theorem str_at {k : Bs} {j : Nat} {x : UInt8} (h : k[j]? = some x) : ∀ hh : j < (str k).size, (str k)[j]'hh = x := by
  intro hh
  have h0 := (List.getElem?_eq_some_iff.1 h).2
  exact h0
def obCells (o : Ob) : List Value := [.string (str o.key), .int .i64 o.size, .string (str o.etag), .int .i64 (o.time : Int), .slice none 0 0]
def enCells (e : En) : List Value := [.string (str e.name), .bool e.pre, .int .i64 e.size, .string (str e.etag), .int .i64 e.time]
def enV (e : En) : Value := .agg #[.string (str e.name), .bool e.pre, .int .i64 e.size, .string (str e.etag), .int .i64 e.time]
def obV (o : Ob) : Value := .agg #[.string (str o.key), .int .i64 o.size, .string (str o.etag), .int .i64 (o.time : Int), .slice none 0 0]
theorem obCells_len (o : Ob) : (obCells o).length = 5 := rfl
theorem enCells_len (e : En) : (enCells e).length = 5 := rfl
theorem obCells_one (o : Ob) : ∀ u ∈ obCells o, u.oneCell' = true := by
  intro u hu
  simp only [obCells, List.mem_cons, List.not_mem_nil, or_false] at hu
  rcases hu with rfl | rfl | rfl | rfl | rfl <;> rfl
theorem enCells_one (o : En) : ∀ u ∈ enCells o, u.oneCell' = true := by
  intro u hu
  simp only [enCells, List.mem_cons, List.not_mem_nil, or_false] at hu
  rcases hu with rfl | rfl | rfl | rfl | rfl <;> rfl
theorem Tryd.infoOb : (Tryd.prog.info? 59).map (fun i => (i.zero, i.size, i.bytes)) = some (some (.agg #[.string ⟨#[]⟩, .int .i64 0, .string ⟨#[]⟩, .int .i64 0, .slice none 0 0]), 5, 72) := by kernel_rfl
theorem Tryd.infoEn : (Tryd.prog.info? 61).map (fun i => (i.zero, i.size, i.bytes)) = some (some (.agg #[.string ⟨#[]⟩, .bool false, .int .i64 0, .string ⟨#[]⟩, .int .i64 0]), 5, 56) := by kernel_rfl

def goodC (x : UInt8) : Bool := decide (32 ≤ x.toNat) && decide (x.toNat ≤ 126)
def goodK (k : Bs) : Bool := decide (1 ≤ k.length) && decide (k.length ≤ 200) && k.all goodC
theorem all_succ {k : Bs} {j : Nat} {x : UInt8} (h : k[j]? = some x) : (k.take (j + 1)).all goodC = ((k.take j).all goodC && goodC x) := by
  rw [List.take_add_one, h, List.all_append]
  simp
set_option maxHeartbeats 4000000 in
theorem goodKey_any (k : Bs) (n : Nat) (hn : k.length = n) (hb : n ≤ 140737488351232) (w : World) : Calls Tryd.prog 45 #[.string (str k)] w fun e w' => e = .returned (.bool (goodK k)) ∧ Only [] w w' := by
  have hsz : (str k).size = n := by rw [str_size, hn]
  have Hn := Lib.hid hn
  have Hk : Hid (goodK k = ((decide (1 ≤ n) && decide (n ≤ 200)) && (k.take n).all goodC)) := Lib.hid (by unfold goodK; rw [hn, List.take_of_length_le (by omega)])
  obtain ⟨b0, hb0⟩ : ∃ b0, (decide (1 ≤ n) && decide (n ≤ 200)) = b0 := ⟨_, rfl⟩
  rw [hb0] at Hk
  have Hat : Hid (∀ (j : Nat) x, k[j]? = some x → ∀ hh : j < (str k).size, (str k)[j]'hh = x) := Lib.hid fun j x h => str_at h
  have Hix : Hid (∀ (j : Nat) x, k[j]? = some x → ∀ w, (Instr.index 9 (.string (str k)) (.int .i64 (j : Int))).run Tryd.prog w = .ok (.int .u8 (x.toNat : Int)) w) := Lib.hid fun j x h w => run_index_str (P := Tryd.prog) w Tryd.underlying9 k (str k) rfl j x h .i64
  generalize hS : str k = S at *
  have loop : ∀ (bb : Bool), b0 = bb → True := fun _ _ => trivial
  clear loop hn hS
  have hb0' : b0 = true → 1 ≤ n ∧ n ≤ 200 := fun h => by rw [← hb0] at h; simpa using h
  have hb0'' : b0 = false → ¬ (1 ≤ n ∧ n ≤ 200) := fun h => by rw [← hb0] at h; simpa using h
  have Hb1 := Lib.hid hb0'
  have Hb2 := Lib.hid hb0''
  clear hb0 hb0' hb0''
  go_enter Tryd.func45, Tryd.ntmps45
  go_upto_region 1 with (fail)
  go_cut [3] (fun s3 wx => s3 = .bool b0 ∧ wx = w)
  case first =>
    by_cases h1 : 1 ≤ n
    · have h1' : (1 : Int) ≤ (n : Int) := by omega
      by_cases h2 : n ≤ 200
      · have h2' : (n : Int) ≤ 200 := by omega
        have hb : b0 = true := by
          cases hb : b0 with
          | true => rfl
          | false => exact absurd ⟨h1, h2⟩ (Hb2.out hb)
        go_wp2_with fail
        go_meet
        exact ⟨by simp [hb], rfl⟩
      · have h2' : ¬ (n : Int) ≤ 200 := by omega
        have hb : b0 = false := by
          cases hb : b0 with
          | false => rfl
          | true => exact absurd (Hb1.out hb).2 h2
        go_wp2_with fail
        go_meet
        exact ⟨by simp [hb], rfl⟩
    · have h1' : ¬ (1 : Int) ≤ (n : Int) := by omega
      have hb : b0 = false := by
        cases hb : b0 with
        | false => rfl
        | true => exact absurd (Hb1.out hb).1 h1
      go_wp2_with fail
      go_meet
      exact ⟨by simp [hb], rfl⟩
  case rest =>
  obtain ⟨rfl, rfl⟩ := hcut
  go_wp2_with fail
  go_loopw [3, 4] (fun ok i wr => ∃ (j : Nat) (bb : Bool), i = .int .i64 (j : Int) ∧ j ≤ n ∧ ok = .bool bb ∧ Hid (bb = (b0 && (k.take j).all goodC)) ∧ Only [] wc wr) (fun _ i _ => n - (intOf i).toNat)
  case atStart => exact ⟨0, b0, rfl, by omega, rfl, Lib.hid (by simp), Only.refl _ _⟩
  case round =>
    obtain ⟨j, bb, rfl, hj, rfl, Hbb, ho⟩ := hrel
    by_cases hlt : j < n
    · obtain ⟨x, hx⟩ : ∃ x, k[j]? = some x := ⟨_, List.getElem?_eq_getElem (by rw [Hn.out]; exact hlt)⟩
      have hS := Hat.out j x hx
      have hI := Hix.out j x hx
      have Hs := Lib.hid (all_succ hx)
      clear hx
      cases bb with
      | false =>
        go_wp2_with fail
        refine ⟨⟨j + 1, false, by go_num, by omega, rfl, Lib.hid (by rw [Hs.out, ← Bool.and_assoc, ← Hbb.out]; rfl), ho⟩, by simp [intOf]; omega⟩
      | true =>
        by_cases h1 : 32 ≤ x.toNat
        · have h1' : (32 : Int) ≤ (x.toNat : Int) := by omega
          by_cases h2 : x.toNat ≤ 126
          · have h2' : (x.toNat : Int) ≤ 126 := by omega
            have Hg : Hid (goodC x = true) := Lib.hid (by simp [goodC, h1, h2])
            clear h1 h2
            go_wp2_with fail
            refine ⟨⟨j + 1, true, by go_num, by omega, rfl, Lib.hid (by rw [Hs.out, ← Bool.and_assoc, ← Hbb.out, Hg.out]; rfl), ho⟩, by simp [intOf]; omega⟩
          · have h2' : ¬ (x.toNat : Int) ≤ 126 := by omega
            have Hg : Hid (goodC x = false) := Lib.hid (by simp [goodC, h2])
            clear h1 h2
            go_wp2_with fail
            refine ⟨⟨j + 1, false, by go_num, by omega, rfl, Lib.hid (by rw [Hs.out, ← Bool.and_assoc, ← Hbb.out, Hg.out]; rfl), ho⟩, by simp [intOf]; omega⟩
        · have h1' : ¬ (32 : Int) ≤ (x.toNat : Int) := by omega
          have Hg : Hid (goodC x = false) := Lib.hid (by simp [goodC, h1])
          clear h1
          go_wp2_with fail
          refine ⟨⟨j + 1, false, by go_num, by omega, rfl, Lib.hid (by rw [Hs.out, ← Bool.and_assoc, ← Hbb.out, Hg.out]; rfl), ho⟩, by simp [intOf]; omega⟩
    · obtain rfl : j = n := by omega
      go_wp2_with fail
      go_ret
      exact ⟨by rw [Hk.out, ← Hbb.out]; rfl, ho⟩
end Go.Proofs.YtfoplbolbjcggaaDoor
