/- From page to page, in plain Lean. -/
import Derived.Test.YtfoplbolbjcggaaDoorListAnsW
set_option linter.unusedVariables false
set_option maxRecDepth 100000
namespace Go.Proofs.YtfoplbolbjcggaaDoor
open Go.RowKit

/-- the name that stands ahead of a place, the token of a place -/
def nameAt (es : List En) (a : Nat) : Bs := if a = 0 then [] else (es[a - 1]?.map (·.name)).getD []
def tokAt (es : List En) (a : Nat) : Bs := hexB (nameAt es a)
theorem hexB_eq_nil {x : Bs} : hexB x = [] ↔ x = [] := by
  constructor
  · intro h
    have := hexB_len x
    rw [h] at this
    exact List.eq_nil_of_length_eq_zero (by simp at this; omega)
  · rintro rfl; rfl
theorem nameAt_ne {es : List En} (hne : ∀ e ∈ es, e.name ≠ []) {a : Nat} (h0 : 0 < a) (ha : a ≤ es.length) : nameAt es a ≠ [] := by
  unfold nameAt
  rw [if_neg (by omega), List.getElem?_eq_getElem (by omega)]
  exact hne _ (List.getElem_mem _)
theorem tokAt_ne {es : List En} (hne : ∀ e ∈ es, e.name ≠ []) {a : Nat} (h0 : 0 < a) (ha : a ≤ es.length) : tokAt es a ≠ [] := fun h => nameAt_ne hne h0 ha (hexB_eq_nil.1 h)
theorem behind_at {es : List En} (hs : Asc es) (hne : ∀ e ∈ es, e.name ≠ []) {a : Nat} (ha : a ≤ es.length) : behind (tokOf (tokAt es a) (nameAt es a)) es = es.drop a := by
  unfold tokOf
  by_cases h0 : a = 0
  · subst h0
    rw [if_pos (by unfold tokAt nameAt; rfl), behind_none]
    rfl
  · rw [if_neg (tokAt_ne hne (by omega) ha)]
    obtain ⟨e, he⟩ : ∃ e, es[a - 1]? = some e := ⟨_, List.getElem?_eq_getElem (by omega)⟩
    have hn : nameAt es a = e.name := by unfold nameAt; rw [if_neg h0, he]; rfl
    rw [hn, behind_drop hs he, show a - 1 + 1 = a by omega]
theorem chain_page {es : List En} (hs : Asc es) (hne : ∀ e ∈ es, e.name ≠ []) {a M : Nat} (ha : a ≤ es.length) (hM : 1 ≤ M) :
    pageOf hexB es (tokOf (tokAt es a) (nameAt es a)) M = ⟨(es.drop a).take M, if a + M < es.length then tokAt es (a + M) else []⟩ := by
  unfold pageOf
  rw [behind_at hs hne ha, List.length_drop]
  congr 1
  by_cases h : a + M < es.length
  · rw [if_pos (by omega), if_pos h, List.getElem?_drop]
    unfold tokAt nameAt
    rw [if_neg (by omega), show a + (M - 1) = a + M - 1 by omega]
  · rw [if_neg (by omega), if_neg h]
theorem chain_ans {pf dl : Bs} {os : List Ob} (hs : SortedK os) (hk : ∀ o ∈ os, o.key ≠ []) {a M : Nat} (ha : a ≤ (entries pf dl os).length) (hM : 1 ≤ M) (hM2 : M ≤ 100) :
    pgAns pf dl os (tokAt (entries pf dl os) a) (M : Int) = (⟨((entries pf dl os).drop a).take M, if a + M < (entries pf dl os).length then tokAt (entries pf dl os) (a + M) else []⟩, 0) := by
  unfold pgAns
  have hu : unhexB (tokAt (entries pf dl os) a) = some (nameAt (entries pf dl os) a) := unhex_hex _
  rw [if_pos (by omega), hu]
  dsimp only
  rw [Int.toNat_natCast, chain_page (entries_asc hs) (fun e he => ?_) ha hM]
  obtain ⟨o, ho, h⟩ := (entries_mem hs _).1 he
  exact (ent_name h).2 (hk o ho)
theorem nameAt_len {pf dl : Bs} {os : List Ob} (hs : SortedK os) (hk : ∀ o ∈ os, o.key.length ≤ 200) (a : Nat) : (nameAt (entries pf dl os) a).length ≤ 200 := by
  unfold nameAt
  split
  · simp
  · cases h : (entries pf dl os)[a - 1]? with
    | none => simp
    | some e =>
      obtain ⟨o, ho, h2⟩ := (entries_mem hs _).1 (List.mem_of_getElem? h)
      have h3 := (ent_name h2).1.length_le
      have h4 := hk o ho
      show e.name.length ≤ 200
      omega
theorem tokAt_len {pf dl : Bs} {os : List Ob} (hs : SortedK os) (hk : ∀ o ∈ os, o.key.length ≤ 200) (a : Nat) : (tokAt (entries pf dl os) a).length ≤ 400 := by
  unfold tokAt
  rw [hexB_len]
  have := nameAt_len (pf := pf) (dl := dl) hs hk a
  omega
theorem mod100 (a : Int) : ∃ j : Nat, j < 100 ∧ (wrap64 (a.tmod 100 + 100)).tmod 100 = (j : Int) := by
  have b1 := Int.tmod_lt_of_pos a (show (0 : Int) < 100 by omega)
  have b2 := Int.tmod_lt_of_pos (-a) (show (0 : Int) < 100 by omega)
  rw [Int.neg_tmod] at b2
  have e : wrap64 (a.tmod 100 + 100) = a.tmod 100 + 100 := IntWalk.wrap64_in _ (by omega)
  rw [e]
  have c1 := Int.tmod_nonneg (100 : Int) (show 0 ≤ a.tmod 100 + 100 by omega)
  have c2 := Int.tmod_lt_of_pos (a.tmod 100 + 100) (show (0 : Int) < 100 by omega)
  exact ⟨((a.tmod 100 + 100).tmod 100).toNat, by omega, by omega⟩
/-- a page from a place on -/
theorem page_chain (nm : ByteArray) (tt dd : Int) (u : Value) (hu : u.oneCell' = true) (p : Option Addr) (os : List Ob) (n c : Nat) (pf dl : Bs) (a M : Nat) (mx : Int) (w0 : World) (hn : os.length = n) (hb : n ≤ 1000) (hp : p = none → n = 0 ∧ c = 0) (hx : Rd w0 p (os.flatMap obCells)) (hs : SortedK os) (hk : ∀ o ∈ os, o.key ≠ [] ∧ o.key.length ≤ 200) (hpl : pf.length ≤ 140737488351232) (hdl : dl.length ≤ 140737488351232) (hmx : w0.cell? ⟨18, 0, none⟩ = some (.int .i64 mx)) (ha : a ≤ (entries pf dl os).length) (hM : 1 ≤ M) (hM2 : M ≤ 100) :
    Calls Tryd.prog 23 #[bkV' nm tt dd p n c u, .string (str pf), .string (str dl), .string (str (tokAt (entries pf dl os) a)), .int .i64 (M : Int)] w0 fun e w' => ∃ q m k, e = .returned (.tuple #[pgV q m k (str (if a + M < (entries pf dl os).length then tokAt (entries pf dl os) (a + M) else [])), .nilIface]) ∧ (((entries pf dl os).drop a).take M).length = m ∧ OwnK w' w0.heap.size 61 5 (.slice q m k) m ((((entries pf dl os).drop a).take M).flatMap enCells) ∧ Only [] w0 w' := by
  have h := page_ok nm tt dd u hu p os n c M pf dl (tokAt (entries pf dl os) a) (nameAt (entries pf dl os) a) mx w0 hn hb hp hx hs (fun o ho => by have := (hk o ho).2; omega) hpl hdl (by have := tokAt_len (pf := pf) (dl := dl) hs (fun o ho => (hk o ho).2) a; omega) hM hM2 (unhex_hex _) hmx
  rw [chain_page (entries_asc hs) (fun e he => by obtain ⟨o, ho, h⟩ := (entries_mem hs _).1 he; exact (ent_name h).2 (hk o ho).1) ha hM] at h
  exact h
end Go.Proofs.YtfoplbolbjcggaaDoor
