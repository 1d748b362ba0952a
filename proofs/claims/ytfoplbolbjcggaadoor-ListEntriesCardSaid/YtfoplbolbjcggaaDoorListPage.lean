/- Pages of entries, in plain Lean. -/
import Derived.Test.YtfoplbolbjcggaaDoorListEnt
set_option linter.unusedVariables false
set_option maxRecDepth 100000
namespace Go.Proofs.YtfoplbolbjcggaaDoor

/-- does an entry stand behind a name -/
def passes (nm : Option Bs) (e : En) : Bool := match nm with
  | none => true
  | some n => !(Op.bytesLess e.name n || (e.name == n))
def behind (nm : Option Bs) (es : List En) : List En := es.filter (passes nm)
theorem behind_none (es : List En) : behind none es = es := by unfold behind; exact List.filter_eq_self.2 (fun x _ => rfl)
theorem behind_succ {nm : Option Bs} {es : List En} {j : Nat} {e : En} (h : es[j]? = some e) : behind nm (es.take (j + 1)) = behind nm (es.take j) ++ (if passes nm e = true then [e] else []) := by
  unfold behind
  rw [List.take_add_one, h, List.filter_append]
  congr 1
  simp only [Option.toList]
  split
  · rw [List.filter_cons_of_pos (by assumption)]; rfl
  · rw [List.filter_cons_of_neg (by assumption)]; rfl
theorem behind_drop {es : List En} (ha : Asc es) {m : Nat} {e : En} (h : es[m]? = some e) : behind (some e.name) es = es.drop (m + 1) := by
  obtain ⟨hm, he⟩ := List.getElem?_eq_some_iff.1 h
  have hs : es = es.take m ++ e :: es.drop (m + 1) := by
    conv => lhs; rw [← List.take_append_drop m es]
    rw [List.drop_eq_getElem_cons hm, he]
  have hp := ha
  unfold Asc at hp
  rw [hs] at hp
  obtain ⟨_, hp2, hp3⟩ := List.pairwise_append.1 hp
  conv => lhs; rw [hs]
  unfold behind
  rw [List.filter_append, List.filter_cons_of_neg (by simp [passes])]
  have h1 : (es.take m).filter (passes (some e.name)) = [] := List.filter_eq_nil_iff.2 (fun x hx => by
    have h4 : lt x.name e.name := hp3 x hx e (by simp)
    unfold lt at h4
    simp [passes, h4])
  have h2 : (es.drop (m + 1)).filter (passes (some e.name)) = es.drop (m + 1) := List.filter_eq_self.2 (fun x hx => by
    have h4 := (List.pairwise_cons.1 hp2).1 x hx
    have h5 := lt_asymm h4
    have h6 : x.name ≠ e.name := fun e' => lt_irrefl e.name (by rw [e'] at h4; exact h4)
    unfold lt at h5
    simp [passes, h5, h6])
  rw [h1, h2, List.nil_append]
structure Pg where
  ents : List En
  next : Bs
/-- the page: what hex makes of the last name stands as next -/
def pageOf (hx : Bs → Bs) (es : List En) (nm : Option Bs) (most : Nat) : Pg :=
  ⟨(behind nm es).take most, if most < (behind nm es).length then hx (((behind nm es)[most - 1]?.map (·.name)).getD []) else []⟩
/-- the page is full, and one more stands behind -/
theorem page_full {hx : Bs → Bs} {zs ts : List En} {x l : En} {nm : Option Bs} {M : Nat} (hM : 1 ≤ M) (hp : passes nm x = true) (hl : (behind nm zs).length = M) (hll : (behind nm zs)[M - 1]? = some l) : pageOf hx (zs ++ x :: ts) nm M = ⟨behind nm zs, hx l.name⟩ := by
  have hb : behind nm (zs ++ x :: ts) = behind nm zs ++ x :: behind nm ts := by
    unfold behind
    rw [List.filter_append, List.filter_cons_of_pos hp]
  unfold pageOf
  rw [hb, List.take_append_of_le_length (by omega), List.take_of_length_le (by omega), if_pos (by simp; omega), List.getElem?_append_left (by omega), hll]
  rfl
end Go.Proofs.YtfoplbolbjcggaaDoor
