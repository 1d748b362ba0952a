/- A string as new bytes; an entry behind a row of our own. -/
import Derived.Test.YtfoplbolbjcggaaDoorEntSeqW
import Derived.Laws.IdiomStrings
set_option linter.unusedVariables false
set_option maxRecDepth 100000
namespace Go.Proofs.YtfoplbolbjcggaaDoor
open Go.RowKit

theorem conv_str (w : World) (S : ByteArray) (xs : List UInt8) (hS : S = ⟨xs.toArray⟩) (n : Nat) (hn : xs.length = n) : ∃ g c w', (Go.convert 9 22 (.string S)).run Tryd.prog w = .ok (.slice (some ⟨g, 0, none⟩) n c) w' ∧ w.heap.size ≤ g ∧ Rd w' (some ⟨g, 0, none⟩) (u8s xs) ∧ Only [] w w' ∧ n ≤ c := by
  subst hn
  have h := run_bytes_of_string (P := Tryd.prog) w 9 22 5 S Tryd.underlying9 Tryd.underlying22 Tryd.underlying5
  have hsz : S.size = xs.length := by rw [hS]; simp [ByteArray.size]
  have hge := grownCap_ge w S.size 0 5
  rw [hsz] at h hge
  refine ⟨_, _, _, h, Nat.le_refl _, .inr ⟨_, 0, rfl, fun j v hj => ?_⟩, (Only.drew w).trans0 (Only.alloc _ _), hge⟩
  rw [Nat.zero_add]
  have hc := World.cell?_alloc_mark w.drew (bytesRow S (grownCap w xs.length 0 5)) 5 ((bytesRow S (grownCap w xs.length 0 5)).size, (bytesRow S (grownCap w xs.length 0 5)).size + 1) j
  have hj' : j < xs.length := by have := (List.getElem?_eq_some_iff.1 hj).1; rwa [u8s_length] at this
  refine hc.trans ?_
  rw [bytesRow_at S _ j (by rw [hS]; simpa using hj'), ← hj, u8s_get hj']
  subst hS; simp
theorem push_en {wr : World} {base m k : Nat} {p : Option Addr} (l : List En) (x : En) (o : OwnK wr base 61 5 (.slice p m k) m (l.flatMap enCells)) (hb : base ≤ wr.heap.size) (hl : m ≤ 1000) :
    ∃ p' k' w2, Hid ((Builtin.append_ #[41, 41] 41 #[.slice p m k, .slice (some ⟨wr.heap.size, 0, none⟩) 1 1]).run Tryd.prog (wr.alloc (.cells #[.string (str x.name), .bool x.pre, .int .i64 x.size, .string (str x.etag), .int .i64 x.time] 61)) = .ok (.slice p' (m + 1) k') w2) ∧
      OwnK w2 base 61 5 (.slice p' (m + 1) k') (m + 1) ((l ++ [x]).flatMap enCells) ∧ Only (blk p) wr w2 ∧ (p' = p ∨ ∃ g, p' = some ⟨g, 0, none⟩ ∧ wr.heap.size ≤ g) := by
  have on := Only.alloc wr (.cells #[.string (str x.name), .bool x.pre, .int .i64 x.size, .string (str x.etag), .int .i64 x.time] 61)
  have rn := Row.newOf wr 61 #[.string (str x.name), .bool x.pre, .int .i64 x.size, .string (str x.etag), .int .i64 x.time] (enCells x) rfl
  obtain ⟨p', c', w2, hr, o2, h2⟩ := appendK (P := Tryd.prog) (bytes := 56) (n := m) (m := 1) (q := some ⟨wr.heap.size, 0, none⟩) (c := 1) (news := enCells x) (t := 41) (ty := 41) _ Tryd.underlying41 Tryd.infoEn rfl (by omega) (o.only0 on) rn.rd0 rfl (by simp) (fun v hv => enCells_one x v hv) (by omega) (by omega) (Nat.le_trans hb on.size)
  have hat := appendK_at (P := Tryd.prog) (bytes := 56) (n := m) (m := 1) (q := some ⟨wr.heap.size, 0, none⟩) (c := 1) (news := enCells x) (t := 41) (ty := 41) _ Tryd.underlying41 Tryd.infoEn rfl (by omega) (o.only0 on) rn.rd0 rfl (by simp) (fun v hv => enCells_one x v hv) (by omega) (by omega) hr
  refine ⟨p', c', w2, Lib.hid hr, ?_, (on.mono (by simp)).trans h2 (fun i hi _ => hi), hat.imp id (fun ⟨g, h1, h2⟩ => ⟨g, h1, Nat.le_trans on.size h2⟩)⟩
  rw [List.flatMap_append]
  simpa using o2
end Go.Proofs.YtfoplbolbjcggaaDoor
