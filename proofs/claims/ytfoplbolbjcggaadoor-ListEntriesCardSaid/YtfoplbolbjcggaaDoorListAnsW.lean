/- list.Page and the document's Page, whatever is asked: one contract each. -/
import Derived.Test.YtfoplbolbjcggaaDoorListPageW
import Derived.Test.YtfoplbolbjcggaaDoorListErrW
set_option linter.unusedVariables false
set_option maxRecDepth 100000
namespace Go.Proofs.YtfoplbolbjcggaaDoor
open Go.RowKit

/-- the page that is wanted, and the error's number -/
def pgAns (pf dl : Bs) (os : List Ob) (tk : Bs) (M : Int) : Pg × Nat :=
  if 1 ≤ M ∧ M ≤ 100 then (match unhexB tk with
    | none => (⟨[], []⟩, 3)
    | some name => (pageOf hexB (entries pf dl os) (tokOf tk name) M.toNat, 0))
  else (⟨[], []⟩, 2)
/-- a page that can be read -/
def PgOk (A : Pg) (v : Value) (w : World) : Prop := ∃ q m k, v = pgV q m k (str A.next) ∧ A.ents.length = m ∧ m ≤ 1000 ∧ m ≤ k ∧ Rd w q (A.ents.flatMap enCells) ∧ (q = none → m = 0 ∧ k = 0)
theorem PgOk.only0 {A : Pg} {v : Value} {w w' : World} (h : PgOk A v w) (ho : Only [] w w') : PgOk A v w' := by
  obtain ⟨q, m, k, h1, h2, h3, h4, h5, h6⟩ := h
  exact ⟨q, m, k, h1, h2, h3, h4, h5.only0 ho, h6⟩
theorem PgOk.stable (A : Pg) : Stable (Only []) (PgOk A) := fun _ _ _ h ho => PgOk.only0 h ho
/-- the error of a number -/
def ErrNo (az : List Addr) (v : Value) (k : Nat) : Prop := (k = 0 ∧ v = .nilIface) ∨ ∃ i a, k = i + 1 ∧ az[i]? = some a ∧ v = ev a
theorem numOf_any (w : World) (az : List Addr) (v : Value) (k : Nat) (h : ErrAll w az) (hv : ErrNo az v k) : Calls Tryd.prog 26 #[v] w fun e w' => e = .returned (.int .i64 (k : Int)) ∧ Only [] w w' := by
  rcases hv with ⟨rfl, rfl⟩ | ⟨i, a, rfl, ha, rfl⟩
  · exact (num_nil w).mono fun e w' ⟨h1, h2⟩ => ⟨h1, by subst h2; exact Only.refl _ _⟩
  · exact (num_err w az i a h ha).mono fun e w' ⟨h1, h2⟩ => ⟨by rw [h1]; rfl, h2⟩
theorem ents_len (pf dl : Bs) (os : List Ob) (nm : Option Bs) (M : Nat) (h : os.length ≤ 1000) : (pageOf hexB (entries pf dl os) nm M).ents.length ≤ 1000 := by
  unfold pageOf behind
  have h1 := entries_len pf dl os
  have h2 := List.length_filter_le (passes nm) (entries pf dl os)
  show ((entries pf dl os).filter (passes nm) |>.take M).length ≤ 1000
  rw [List.length_take]
  omega
theorem pgOk_nil (w : World) : PgOk ⟨[], []⟩ (pgV none 0 0 (str [])) w := ⟨none, 0, 0, rfl, rfl, by omega, by omega, Rd.nil _ _, fun _ => ⟨rfl, rfl⟩⟩
theorem pgOk_own {w : World} {base : Nat} {q : Option Addr} {m k : Nat} {A : Pg} (hl : A.ents.length = m) (hm : A.ents.length ≤ 1000) (h : OwnK w base 61 5 (.slice q m k) m (A.ents.flatMap enCells)) : PgOk A (pgV q m k (str A.next)) w :=
  ⟨q, m, k, rfl, hl, by omega, h.view.2.2.2.2.1, h.view.2.2.1, h.view.2.2.2.1⟩
theorem page_any (nm : ByteArray) (tt dd : Int) (u : Value) (hu : u.oneCell' = true) (p : Option Addr) (os : List Ob) (n c : Nat) (pf dl tk : Bs) (M : Int) (mx : Int) (w0 : World) (hn : os.length = n) (hb : n ≤ 1000) (hp : p = none → n = 0 ∧ c = 0) (hx : Rd w0 p (os.flatMap obCells)) (hs : SortedK os) (hk : ∀ o ∈ os, o.key.length ≤ 4294967280) (hpl : pf.length ≤ 140737488351232) (hdl : dl.length ≤ 140737488351232) (htl : tk.length ≤ 140737488351232) (hmx : w0.cell? ⟨18, 0, none⟩ = some (.int .i64 mx)) (az : List Addr) (hE : ErrAll w0 az) :
    Calls Tryd.prog 23 #[bkV' nm tt dd p n c u, .string (str pf), .string (str dl), .string (str tk), .int .i64 M] w0 fun e w' => ∃ v er, e = .returned (.tuple #[v, er]) ∧ PgOk (pgAns pf dl os tk M).1 v w' ∧ ErrNo az er (pgAns pf dl os tk M).2 ∧ Only [] w0 w' := by
  unfold pgAns
  obtain ⟨e1, he1⟩ : ∃ a, az[1]? = some a := ⟨_, List.getElem?_eq_getElem (by rw [hE.1]; omega)⟩
  obtain ⟨e2, he2⟩ : ∃ a, az[2]? = some a := ⟨_, List.getElem?_eq_getElem (by rw [hE.1]; omega)⟩
  by_cases hM : 1 ≤ M ∧ M ≤ 100
  · rw [if_pos hM]
    cases hun : unhexB tk with
    | none =>
      refine (page_data nm tt dd u p n c pf dl tk M w0 hM.1 hM.2 htl hun e2 (hE.2.2 2 _ _ rfl he2)).mono fun e w' ⟨h1, h2⟩ => ⟨_, _, h1, pgOk_nil _, .inr ⟨2, e2, rfl, he2, rfl⟩, h2⟩
    | some name =>
      obtain ⟨M', rfl⟩ : ∃ M' : Nat, M = (M' : Int) := ⟨M.toNat, by omega⟩
      refine (page_ok nm tt dd u hu p os n c M' pf dl tk name mx w0 hn hb hp hx hs hk hpl hdl htl (by omega) (by omega) hun hmx).mono ?_
      rintro e w' ⟨q, m, k, h1, h2, h3, h4⟩
      exact ⟨_, _, h1, pgOk_own h2 (ents_len _ _ _ _ _ (by omega)) h3, .inl ⟨rfl, rfl⟩, h4⟩
  · rw [if_neg hM]
    exact (page_number nm tt dd u p n c pf dl tk M w0 hM e1 (hE.2.2 1 _ _ rfl he1)).mono fun e w' ⟨h1, h2⟩ => ⟨_, _, h1, pgOk_nil _, .inr ⟨1, e1, rfl, he1, rfl⟩, h2⟩
theorem refPage_any (nm : ByteArray) (tt dd : Int) (u : Value) (hu : u.oneCell' = true) (p : Option Addr) (os : List Ob) (n c : Nat) (pf dl tk : Bs) (M : Int) (w0 : World) (hn : os.length = n) (hb : n ≤ 1000) (hp : p = none → n = 0 ∧ c = 0) (hx : Rd w0 p (os.flatMap obCells)) (hs : SortedK os) (hk : ∀ o ∈ os, o.key.length ≤ 4294967280) (hpl : pf.length ≤ 140737488351232) (hdl : dl.length ≤ 140737488351232) (htl : tk.length ≤ 140737488351232) :
    Calls Tryd.prog 24 #[bkV' nm tt dd p n c u, .string (str pf), .string (str dl), .string (str tk), .int .i64 M] w0 fun e w' => ∃ v, e = .returned (.tuple #[v, .int .i64 ((pgAns pf dl os tk M).2 : Int)]) ∧ PgOk (pgAns pf dl os tk M).1 v w' ∧ Only [] w0 w' := by
  unfold pgAns
  by_cases hM : 1 ≤ M ∧ M ≤ 100
  · rw [if_pos hM]
    cases hun : unhexB tk with
    | none =>
      refine (refPage_data nm tt dd u p n c pf dl tk M w0 hM.1 hM.2 htl hun).mono fun e w' ⟨h1, h2⟩ => ⟨_, h1, pgOk_nil _, h2⟩
    | some name =>
      obtain ⟨M', rfl⟩ : ∃ M' : Nat, M = (M' : Int) := ⟨M.toNat, by omega⟩
      have hr := refPage_ok nm tt dd u hu p os n c M' pf dl tk name w0 hn hb hp hx hs hk hpl hdl htl (by omega) (by omega) hun
      rw [← entries_doc hs] at hr
      refine hr.mono ?_
      rintro e w' ⟨q, m, k, h1, h2, h3, h4⟩
      exact ⟨_, h1, pgOk_own h2 (ents_len _ _ _ _ _ (by omega)) h3, h4⟩
  · rw [if_neg hM]
    exact (refPage_number nm tt dd u p n c pf dl tk M w0 hM).mono fun e w' ⟨h1, h2⟩ => ⟨_, h1, pgOk_nil _, h2⟩
theorem samePg_any (A : Pg) (v1 v2 : Value) (w : World) (h1 : PgOk A v1 w) (h2 : PgOk A v2 w) : Calls Tryd.prog 25 #[v1, v2] w fun e w' => e = .returned (.bool true) ∧ Only [] w w' := by
  obtain ⟨q1, m1, k1, rfl, l1, b1, c1, r1, n1⟩ := h1
  obtain ⟨q2, m2, k2, rfl, l2, b2, c2, r2, n2⟩ := h2
  obtain rfl : m1 = m2 := l1.symm.trans l2
  exact same_yes q1 q2 m1 k1 k2 (str A.next) A.ents w l1 b1 c1 c2 r1 r2
end Go.Proofs.YtfoplbolbjcggaaDoor
