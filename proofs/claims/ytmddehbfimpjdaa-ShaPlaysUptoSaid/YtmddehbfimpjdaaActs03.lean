/- Scripts of chapter 3 put one behind the other. -/
import Derived.Test.YtmddehbfimpjdaaScript03
import Derived.Test.YtmddehbfimpjdaaOwnK
set_option linter.unusedVariables false
namespace Go.Proofs.Ytmddehbfimpjdaa
open Go.RowKit

def opsFlat (os : List Op3) : List Value := os.flatMap Op3.cells
theorem opsFlat_length (os : List Op3) : (opsFlat os).length = os.length * 3 := flat_length _ 3 (fun _ => rfl) os
theorem opsFlat_append (os rs : List Op3) : opsFlat (os ++ rs) = opsFlat os ++ opsFlat rs := List.flatMap_append
theorem Acts.rd {w : World} {p : Option Addr} {os : List Op3} (h : Acts w p os) : Rd w p (opsFlat os) := by
  refine rd_flat Op3.cells 3 (by omega) (fun _ => rfl) fun j o hj => ?_
  obtain ⟨b, off, h1, h2, h3, h4, h5⟩ := h j o hj
  refine ⟨b, off, h1, fun r v hv => ?_⟩
  match r, hv with
  | 0, hv => obtain rfl := Option.some.inj hv; exact h3
  | 1, hv => obtain rfl := Option.some.inj hv; exact h4
  | 2, hv => obtain rfl := Option.some.inj hv; exact h5
theorem acts_of {w : World} {p : Option Addr} {os : List Op3} (h : Rd w p (opsFlat os)) (hok : ∀ o ∈ os, o.Ok w) : Acts w p os := by
  intro j o hj
  have hget := fun r hr => flat_get Op3.cells 3 (fun _ => rfl) os j o r hj hr
  rcases h with h | ⟨b, off, rfl, h⟩
  · have := hget 0 (by omega)
    rw [show os.flatMap Op3.cells = [] from h] at this
    cases this
  · refine ⟨b, off, rfl, hok o (List.mem_of_getElem? hj), ?_, ?_, ?_⟩
    · exact h _ _ (hget 0 (by omega))
    · exact h _ _ (hget 1 (by omega))
    · exact h _ _ (hget 2 (by omega))
theorem Acts.ok {w : World} {p : Option Addr} {os : List Op3} (h : Acts w p os) : ∀ o ∈ os, o.Ok w := by
  intro o ho
  obtain ⟨j, hj⟩ := List.getElem?_of_mem ho
  obtain ⟨_, _, _, h, _⟩ := h j o hj
  exact h
theorem opsFlat_one {os : List Op3} {v : Value} (h : v ∈ opsFlat os) : v.oneCell' = true := by
  obtain ⟨o, _, h⟩ := List.mem_flatMap.1 h
  simp only [Op3.cells, List.mem_cons, List.not_mem_nil, or_false] at h
  rcases h with rfl | rfl | rfl <;> rfl

theorem Try.infoOp : (Try.prog.info? 37).map (fun i => (i.zero, i.size, i.bytes)) = some (some (.agg #[.int .i64 0, .int .i64 0, .slice none 0 0]), 3, 40) := by kernel_rfl

/-- acts appended to a script of our own -/
theorem acts_append {w0 : World} (w : World) {n cap m c : Nat} {p q : Option Addr} {os rs : List Op3} (hown : OwnK w w0.heap.size 37 3 (.slice p n cap) n (opsFlat os)) (ho : Only [] w0 w) (hr : Rd w q (opsFlat rs)) (hm : rs.length = m) (hq : q = none → m = 0 ∧ c = 0) (hb : (n + m) * 40 ≤ 140737488355328) :
    ∃ p' cap' w', Hid ((Builtin.append_ #[31, 31] 31 #[.slice p n cap, .slice q m c]).run Try.prog w = .ok (.slice p' (n + m) cap') w') ∧ OwnK w' w0.heap.size 37 3 (.slice p' (n + m) cap') (n + m) (opsFlat (os ++ rs)) ∧ Only [] w0 w' := by
  obtain ⟨p', cap', w', h1, h2, h3⟩ := appendK (P := Try.prog) w (c := c) (ty := 31) Try.underlying31 Try.infoOp rfl (by omega) hown hr (by rw [opsFlat_length, hm]) hq (fun u hu => opsFlat_one hu) hb (by omega) ho.size
  exact ⟨p', cap', w', Lib.hid h1, by rw [opsFlat_append]; exact h2, ho.transN h3 (fun k hk => (hown.view.2.2.2.2.2.2 k hk).1)⟩
end Go.Proofs.Ytmddehbfimpjdaa
