/- The walk of bollardnum.Num: the number of an error. -/
import Derived.Test.YtfoplbolbjcggaaDoorErrs
set_option linter.unusedVariables false
set_option maxRecDepth 100000
namespace Go.Proofs.YtfoplbolbjcggaaDoor
open Go.RowKit

/-- the errors' variables, by number -/
def errVars : List Nat := [5, 1, 4, 6, 3, 0, 7, 8, 9, 10, 2, 11, 12, 13, 14, 15, 16, 17]
/-- where the errors lie, by number -/
def ErrAll (w : World) (az : List Addr) : Prop := az.length = 18 ∧ az.Nodup ∧ ∀ (i : Nat) g a, errVars[i]? = some g → az[i]? = some a → ErrAt w g a
theorem ErrAll.only0 {w w' : World} {az : List Addr} (h : ErrAll w az) (ho : Only [] w w') : ErrAll w' az := ⟨h.1, h.2.1, fun i g a h1 h2 => (h.2.2 i g a h1 h2).only0 ho⟩
theorem ErrAll.new {S : List Nat} {w w' : World} {az : List Addr} (h : ErrAll w az) (ho : Only S w w') (hS : ∀ k ∈ S, w.heap.size ≤ k) : ErrAll w' az := h.only0 (ho.drop hS)

def All2 {α β : Type} (r : α → β → Prop) : List α → List β → Prop
  | [], [] => True
  | a :: l, b :: m => r a b ∧ All2 r l m
  | _, _ => False
theorem all2_get {α β : Type} {r : α → β → Prop} : ∀ {l : List α} {m : List β}, All2 r l m → ∀ (i : Nat) a b, l[i]? = some a → m[i]? = some b → r a b
  | [], _, _, i, a, b, h, _ => by simp at h
  | _ :: _, [], h, _, _, _, _, _ => h.elim
  | _ :: _, _ :: _, h, 0, a, b, h1, h2 => by
    simp only [List.getElem?_cons_zero, Option.some.injEq] at h1 h2
    subst h1; subst h2; exact h.1
  | _ :: _, _ :: _, h, i + 1, a, b, h1, h2 => all2_get h.2 i a b (by simpa using h1) (by simpa using h2)
theorem errAll_of {w : World} {az : List Addr} (hl : az.length = 18) (hnd : az.Nodup) (h : All2 (ErrAt w) errVars az) : ErrAll w az := ⟨hl, hnd, fun i g a h1 h2 => all2_get h i g a h1 h2⟩

/-- an error as a value -/
def ev (a : Addr) : Value := .iface 246 (.pointer (some a))

theorem list18 {α : Type} : ∀ (l : List α), l.length = 18 → ∃ e0 e1 e2 e3 e4 e5 e6 e7 e8 e9 e10 e11 e12 e13 e14 e15 e16 e17, l = [e0, e1, e2, e3, e4, e5, e6, e7, e8, e9, e10, e11, e12, e13, e14, e15, e16, e17]
  | [e0, e1, e2, e3, e4, e5, e6, e7, e8, e9, e10, e11, e12, e13, e14, e15, e16, e17], _ => ⟨e0, e1, e2, e3, e4, e5, e6, e7, e8, e9, e10, e11, e12, e13, e14, e15, e16, e17, rfl⟩

theorem num_nil (w : World) : Calls Tryd.prog 26 #[.nilIface] w fun e w' => e = .returned (.int .i64 0) ∧ w = w' := by
  go_enter Tryd.func26, Tryd.ntmps26
  go_wp2_with fail
  go_ret
  exact ⟨rfl, rfl⟩

theorem num_err (w : World) (az : List Addr) (i : Nat) (a : Addr) (h : ErrAll w az) (ha : az[i]? = some a) : Calls Tryd.prog 26 #[ev a] w fun e w' => e = .returned (.int .i64 ((i : Int) + 1)) ∧ Only [] w w' := by
  obtain ⟨hl, hnd, hE⟩ := h
  have hi : i < 18 := by rw [← hl]; exact (List.getElem?_eq_some_iff.1 ha).1
  have hall : ∀ (j : Nat) b, az[j]? = some b → ∃ g, ErrAt w g b := fun j b hb => by
    have hj : j < 18 := by rw [← hl]; exact (List.getElem?_eq_some_iff.1 hb).1
    exact ⟨_, hE j _ b (List.getElem?_eq_getElem (show j < errVars.length from hj)) hb⟩
  have o1 := Only.alloc w (.cells (az.map ev).toArray 45)
  have r1 := Row.new w 45 (az.map ev)
  have same := fun w => err_eql_same w a
  have other : ∀ (j : Nat) b, j ≠ i → az[j]? = some b → (binOp .eql 45 (.iface 246 (.pointer (some a))) (.iface 246 (.pointer (some b)))).run Tryd.prog (w.alloc (.cells (az.map ev).toArray 45)) = .ok (.bool false) (w.alloc (.cells (az.map ev).toArray 45)) := by
    intro j b hj hb
    obtain ⟨g1, k1⟩ := hall i a ha
    obtain ⟨g2, k2⟩ := hall j b hb
    refine err_eql_other (k1.only0 o1) (k2.only0 o1) ?_
    rintro rfl
    have i1 := (List.getElem?_eq_some_iff.1 ha)
    have i2 := (List.getElem?_eq_some_iff.1 hb)
    obtain ⟨q1, e1⟩ := i1
    obtain ⟨q2, e2⟩ := i2
    have pw := List.pairwise_iff_getElem.1 hnd
    rcases Nat.lt_or_gt_of_ne hj with h | h
    · exact pw j i q2 q1 h (e2.trans e1.symm)
    · exact pw i j q1 q2 h (e1.trans e2.symm)
  have get : ∀ j, j < 18 → ∃ b, az[j]? = some b := fun j hj => ⟨_, List.getElem?_eq_getElem (by rw [hl]; exact hj)⟩
  have cells : ∀ (j : Nat) b, az[j]? = some b → (w.alloc (.cells (az.map ev).toArray 45)).cell? ⟨w.heap.size, j, none⟩ = some (.iface 246 (.pointer (some b))) := fun j b hb => r1.cell (by rw [List.getElem?_map, hb]; rfl)
  have Hother := Lib.hid other
  have Hget := Lib.hid get
  have Hcells := Lib.hid cells
  have Ha := Lib.hid ha
  obtain ⟨e0, e1, e2, e3, e4, e5, e6, e7, e8, e9, e10, e11, e12, e13, e14, e15, e16, e17, rfl⟩ := list18 az hl
  have c0 := (hE 0 _ e0 rfl rfl).cell
  have c1 := (hE 1 _ e1 rfl rfl).cell
  have c2 := (hE 2 _ e2 rfl rfl).cell
  have c3 := (hE 3 _ e3 rfl rfl).cell
  have c4 := (hE 4 _ e4 rfl rfl).cell
  have c5 := (hE 5 _ e5 rfl rfl).cell
  have c6 := (hE 6 _ e6 rfl rfl).cell
  have c7 := (hE 7 _ e7 rfl rfl).cell
  have c8 := (hE 8 _ e8 rfl rfl).cell
  have c9 := (hE 9 _ e9 rfl rfl).cell
  have c10 := (hE 10 _ e10 rfl rfl).cell
  have c11 := (hE 11 _ e11 rfl rfl).cell
  have c12 := (hE 12 _ e12 rfl rfl).cell
  have c13 := (hE 13 _ e13 rfl rfl).cell
  have c14 := (hE 14 _ e14 rfl rfl).cell
  have c15 := (hE 15 _ e15 rfl rfl).cell
  have c16 := (hE 16 _ e16 rfl rfl).cell
  have c17 := (hE 17 _ e17 rfl rfl).cell
  have hev : (List.map ev [e0, e1, e2, e3, e4, e5, e6, e7, e8, e9, e10, e11, e12, e13, e14, e15, e16, e17]).toArray = #[.iface 246 (.pointer (some e0)), .iface 246 (.pointer (some e1)), .iface 246 (.pointer (some e2)), .iface 246 (.pointer (some e3)), .iface 246 (.pointer (some e4)), .iface 246 (.pointer (some e5)), .iface 246 (.pointer (some e6)), .iface 246 (.pointer (some e7)), .iface 246 (.pointer (some e8)), .iface 246 (.pointer (some e9)), .iface 246 (.pointer (some e10)), .iface 246 (.pointer (some e11)), .iface 246 (.pointer (some e12)), .iface 246 (.pointer (some e13)), .iface 246 (.pointer (some e14)), .iface 246 (.pointer (some e15)), .iface 246 (.pointer (some e16)), .iface 246 (.pointer (some e17))] := rfl
  rw [hev] at Hcells Hother o1
  clear hl hnd hE hall r1 same other get cells ha hev
  have hev : ev a = .iface 246 (.pointer (some a)) := rfl
  rw [hev]
  go_enter Tryd.func26, Tryd.ntmps26
  go_wp2_with fail
  clear c0 c1 c2 c3 c4 c5 c6 c7 c8 c9 c10 c11 c12 c13 c14 c15 c16 c17
  go_loop [29] (fun v => ∃ j : Nat, j ≤ i ∧ v = .int .i64 (j : Int)) (fun v => 18 - (intOf v).toNat)
  case atStart => exact ⟨0, Nat.zero_le _, rfl⟩
  case round =>
    obtain ⟨j, hj, rfl⟩ := hrel
    obtain ⟨b, hb⟩ := Hget.out j (by omega)
    have hc := Hcells.out j b hb
    by_cases hji : j = i
    · subst hji
      obtain rfl : a = b := Option.some.inj (Ha.out.symm.trans hb)
      have hs := fun w => err_eql_same w a
      go_wp2_with fail
      go_ret
      exact ⟨rfl, o1⟩
    · have ho := Hother.out j b hji hb
      have Hb := Lib.hid hb
      clear hb
      go_wp2_with fail
      go_round
      case rel => exact ⟨j + 1, by omega, by go_num⟩
      case measure => simp [intOf]; omega
end Go.Proofs.YtfoplbolbjcggaaDoor
