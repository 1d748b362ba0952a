/- What every law's row asks behind its walk: the answer is true, and all that came in reads as it read, since no block that was there has turned. Over any program. -/
import Derived.Test.YtfoplbolbjcggaaDoorMem
import Derived.ProofKit
import Derived.WalkSmall
import Derived.Carry
import Derived.Deep.DeepHandedRow
namespace Go.Proofs.YtfoplbolbjcggaaDoor
open Go.ChangeShapes Go.WideShapes Go.ChangeAt Go.RowKit

section
variable {H : Type} {enc : TypeId × Value → H} {P : Program}

def typesFine (P : Program) (ts : List TypeId) : Bool := ts.all fun t => P.readableRec t && decide (t < P.types.size)
def varsFine (P : Program) (ns : List String) : Bool := ns.all fun n => match P.globalNamed n with
  | some g => match P.globals[g]? with
    | some x => P.readableRec x.type && decide (x.type < P.types.size)
    | none => false
  | none => false

theorem trodAll_below (hl : laidOutB P = true) {W W' : World} (hb : Below W.heap.size W W') : ∀ {ts : List TypeId} {vs : List Value} {ds : List (DataW H)} {ps : List MemPlace}, typesFine P ts = true →
    DataW.TrodAll enc P W 0 (fun _ => true) true ts vs ds ps → (∀ x ∈ ps, x.block < W.heap.size) → DataW.TrodAll enc P W' 0 (fun b => decide (b < W.heap.size)) true ts vs ds ps
  | [], [], [], _, _, h, _ => h
  | t :: ts, v :: vs, d :: ds, ps, hf, h, hlt => by
    obtain ⟨p, q, h1, h2, rfl⟩ := h
    simp only [typesFine, List.all_cons, Bool.and_eq_true, decide_eq_true_eq] at hf
    exact ⟨p, q, Below.trod hl hf.1.1 hf.1.2 h1 hb (fun x hx => hlt x (List.mem_append_left _ hx)),
      trodAll_below hl hb (by simpa [typesFine] using hf.2) h2 (fun x hx => hlt x (List.mem_append_right _ hx)), rfl⟩
  | [], [], _ :: _, _, _, h, _ => h.elim
  | [], _ :: _, _, _, _, h, _ => h.elim
  | _ :: _, [], _, _, _, h, _ => h.elim
  | _ :: _, _ :: _, [], _, _, h, _ => h.elim

theorem trodVars_below (hl : laidOutB P = true) {W W' : World} (hb : Below W.heap.size W W') : ∀ {ns : List String} {ds : List (DataW H)} {ps : List MemPlace}, varsFine P ns = true →
    DataW.TrodVars enc P W (fun _ => true) ns ds ps → (∀ x ∈ ps, x.block < W.heap.size) → DataW.TrodVars enc P W' (fun b => decide (b < W.heap.size)) ns ds ps
  | [], [], _, _, h, _ => h
  | n :: ns, d :: ds, ps, hf, h, hlt => by
    obtain ⟨g, t, cs, fuel, p, q, hg, ht, hv, hr, h2, rfl⟩ := h
    simp only [varsFine, List.all_cons, Bool.and_eq_true] at hf
    obtain ⟨hf1, hf2⟩ := hf
    rw [hg] at hf1
    obtain ⟨x, hx, rfl⟩ := Option.map_eq_some_iff.1 ht
    simp only [hx, Bool.and_eq_true, decide_eq_true_eq] at hf1
    have hgl : g < W.heap.size := by
      unfold World.var? at hv
      simp only [hg, Option.bind_some] at hv
      rcases Nat.lt_or_ge g W.heap.size with h | h
      · exact h
      · rw [Array.getElem?_eq_none h] at hv; cases hv
    refine ⟨g, _, cs, fuel, p, q, hg, ht, var?_below hb hg hgl hv, ?_, trodVars_below hl hb (by simpa [varsFine] using hf2) h2 (fun x hx => hlt x (List.mem_append_right _ hx)), rfl⟩
    exact DataW.trod_stays (kids_book hl hf1.1) (book_sized hf1.1) (fun h => by cases h) ⟨hf1.2, book_self _⟩ hr
      (fun y hy => hb.same (hlt y (List.mem_append_left _ (List.mem_append_right _ hy))))
      (fun y hy => by simpa using hlt y (List.mem_append_left _ (List.mem_append_right _ hy)))
  | [], _ :: _, _, _, h, _ => h.elim
  | _ :: _, [], _, _, h, _ => h.elim

/-- THE LAW's END: true, and what came in stands. -/
theorem law_post {f : Func} {s : ChangeSpec} {W W' : World} {args : Array Value} {ds gs : List (DataW H)} {before : List MemPlace} {T : TypeId}
    (hl : laidOutB P = true) (hpar : typesFine P f.params.toList = true) (hvars : varsFine P s.vars = true) (hrt : f.resultTypes = #[T]) (hT : P.underlying T = some .bool)
    (hW : DataW.Whole enc P f.params.toList s.vars false W args.toList ds gs before)
    (hres : (s.fn H (ds ++ gs)).results = [.lit (.bool true)]) (hargs : (s.fn H (ds ++ gs)).args = ds) (hvs : (s.fn H (ds ++ gs)).vars = gs) (hB : Below W.heap.size W W') :
    s.post enc P f false true false false W args (.bool true) W' := by
  have hlt := hW.lt
  have hW' := hW
  obtain ⟨p, q, hA, hV, rfl, _, _⟩ := hW
  refine ⟨ds, gs, p ++ q, [], p, q, hW', ?_, ?_, ?_, hB.frame _, fun h => by cases h⟩
  · rw [hres, hrt]
    exact ⟨[], [], shut_bool hT true, rfl, rfl⟩
  · rw [hargs]
    exact trodAll_below hl hB hpar hA (fun x hx => hlt x (List.mem_append_left _ hx))
  · rw [hvs]
    exact trodVars_below hl hB hvars hV (fun x hx => hlt x (List.mem_append_right _ hx))
end
end Go.Proofs.YtfoplbolbjcggaaDoor
