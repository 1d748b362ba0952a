/- The walks of net.New, Send, Deliver, Drop, Copy, Nth, Waiting. -/
import Derived.Test.YtlgcclhepegggaaDoorNetPutW
import Derived.Test.YtlgcclhepegggaaDoorNetDelW
set_option linter.unusedVariables false
set_option maxRecDepth 100000
namespace Go.Proofs.YtlgcclhepegggaaDoor
open Go.RowKit

theorem node_any (x : Int) (b : Bool) (hb : b = true ↔ 0 ≤ x ∧ x < 16) (w : World) : Calls Tryd.prog 40 #[.int .i64 x] w fun e w' => e = .returned (.bool b) ∧ w = w' := by
  by_cases h1 : 0 ≤ x
  · by_cases h2 : x < 16
    · obtain rfl : b = true := hb.2 ⟨h1, h2⟩
      clear hb
      go_enter Tryd.func40, Tryd.ntmps40
      go_wp2_with fail
      go_ret
      exact ⟨rfl, rfl⟩
    · obtain rfl : b = false := by cases b; rfl; exact absurd (hb.1 rfl).2 h2
      clear hb
      go_enter Tryd.func40, Tryd.ntmps40
      go_wp2_with fail
      go_ret
      exact ⟨rfl, rfl⟩
  · obtain rfl : b = false := by cases b; rfl; exact absurd (hb.1 rfl).1 h1
    clear hb
    go_enter Tryd.func40, Tryd.ntmps40
    go_wp2_with fail
    go_ret
    exact ⟨rfl, rfl⟩
theorem new_any (w0 : World) : Calls Tryd.prog 13 #[] w0 fun e w' => e = .returned (.pointer (some ⟨w0.heap.size, 0, none⟩)) ∧ NetAt w' w0.heap.size w0.heap.size none 0 0 0 [] ∧ Only [] w0 w' := by
  go_enter Tryd.func13, Tryd.ntmps13
  go_wp2_with fail
  go_ret
  refine ⟨rfl, ⟨Row.newOf _ _ _ _ rfl, ⟨rfl, .inl ⟨rfl, rfl⟩⟩, by simp, rfl, by simp [blk, bbs], Nat.le_refl _, by simp [bbs]⟩, Only.alloc _ _⟩

/-- what Send hands back -/
def GoodNo (fr to : Int) : Prop := (0 ≤ fr ∧ fr < 16) ∧ 0 ≤ to ∧ to < 16
set_option maxHeartbeats 4000000 in
theorem send_ok (w0 : World) (base B : Nat) (q : Option Addr) (n c last : Nat) (L : List Lt) (h : NetAt w0 base B q n c last L) (fr to : Int) (hgood : GoodNo fr to) (bq : Option Addr) (l bc : Nat) (xs : List UInt8) (hl : xs.length = l) (hlb : l ≤ 140737488351232) (hbn : bq = none → l = 0 ∧ bc = 0) (hbr : Rd w0 bq (u8s xs)) (hne : xs ≠ [] → ∀ a, bq = some a → a.block ≠ B) (hlast : last ≤ 1000000000000000000) (a : Addr) (hE : ErrAt w0 10 a) :
    Calls Tryd.prog 14 #[.pointer (some ⟨B, 0, none⟩), .int .i64 fr, .int .i64 to, .slice bq l bc] w0 (PutEnd w0 base B q n c last L fr to xs a) := by
  have hp := put_any w0 base B q n c last L h 0 fr to bq l bc xs hl hlb hbn hbr hne hlast a hE
  have hn1 := node_any fr true (by simp [hgood.1]) w0
  have hn2 := node_any to true (by simp [hgood.2]) w0
  clear h hl hbn hbr hne hE hgood
  unfold PutEnd ev at *
  go_enter Tryd.func14, Tryd.ntmps14
  go_wp2_with fail
  (with_reducible refine (hn1).mono ?_)
  rintro e w' ⟨rfl, rfl⟩
  go_wp2_with fail
  (with_reducible refine (hn2).mono ?_)
  rintro e w' ⟨rfl, rfl⟩
  go_wp2_with fail
  refine hp.mono ?_
  clear hp hn1 hn2
  rintro e w1 (⟨h1, rfl, h2⟩ | ⟨h1, q', c', o, rfl, h2⟩)
  · have H2 := Lib.hid h2
    clear h2
    go_wp2_with fail
    go_ret2
    exact .inl ⟨h1, rfl, H2.out⟩
  · have H2 := Lib.hid h2
    clear h2
    go_wp2_with fail
    go_ret2
    exact .inr ⟨h1, q', c', o, rfl, H2.out⟩
theorem send_bad (w0 : World) (B : Nat) (fr to : Int) (hbad : ¬ GoodNo fr to) (bq : Option Addr) (l bc : Nat) (a : Addr) (hE : ErrAt w0 3 a) :
    Calls Tryd.prog 14 #[.pointer (some ⟨B, 0, none⟩), .int .i64 fr, .int .i64 to, .slice bq l bc] w0 fun e w' => e = .returned (.tuple #[.int .i64 0, ev a]) ∧ Only [] w0 w' := by
  have hgc := hE.cell
  unfold ev
  by_cases h1 : 0 ≤ fr ∧ fr < 16
  · have hn1 := node_any fr true (by simp [h1]) w0
    have hn2 := node_any to false (by simp only [Bool.false_eq_true, false_iff]; exact fun h2 => hbad ⟨h1, h2⟩) w0
    clear hE hbad h1
    go_enter Tryd.func14, Tryd.ntmps14
    go_wp2_with fail
    (with_reducible refine (hn1).mono ?_)
    rintro e w' ⟨rfl, rfl⟩
    go_wp2_with fail
    (with_reducible refine (hn2).mono ?_)
    rintro e w' ⟨rfl, rfl⟩
    go_wp2_with fail
    go_quiet (fail)
    go_wp2_with fail
    go_ret2
    exact ⟨rfl, Only.drewN _ _⟩
  · have hn1 := node_any fr false (by simp only [Bool.false_eq_true, false_iff]; exact h1) w0
    clear hE hbad h1
    go_enter Tryd.func14, Tryd.ntmps14
    go_wp2_with fail
    (with_reducible refine (hn1).mono ?_)
    rintro e w' ⟨rfl, rfl⟩
    go_wp2_with fail
    go_quiet (fail)
    go_wp2_with fail
    go_ret2
    exact ⟨rfl, Only.drewN _ _⟩

theorem NetAt.bb_ne {w : World} {base B n c last : Nat} {q : Option Addr} {L : List Lt} (h : NetAt w base B q n c last L) {o : Lt} (ho : o ∈ L) (hne : o.xs ≠ []) : ∀ a, o.q = some a → a.block ≠ B := fun a ha e => by
  have h1 : a.block ∈ o.bb := by unfold Lt.bb; rw [if_neg hne, ha]; simp [blk]
  exact (List.nodup_cons.1 h.nd).1 (by rw [← e]; exact List.mem_append_right _ (bbs_mem ho h1))
/-- what Copy hands back -/
def CopyEnd (w0 : World) (base B : Nat) (q : Option Addr) (n c last : Nat) (L : List Lt) (x : Int) (aG aF : Addr) (e : Ending) (w' : World) : Prop :=
  (e = .returned (.tuple #[.int .i64 0, ev aG]) ∧ (∀ o ∈ L, (o.n : Int) ≠ x) ∧ Only [] w0 w') ∨ (∃ (i : Nat) (o : Lt), L[i]? = some o ∧ (o.n : Int) = x ∧ PutEnd w0 base B q n c last L o.fr o.to o.xs aF e w')
theorem PutEnd.of {w0 w1 : World} {base B n c last : Nat} {q : Option Addr} {L : List Lt} {fr to : Int} {xs : List UInt8} {a : Addr} {e : Ending} {w' : World} (ho : Only [] w0 w1) (h : PutEnd w1 base B q n c last L fr to xs a e w') : PutEnd w0 base B q n c last L fr to xs a e w' := by
  have hs := ho.size
  rcases h with ⟨h1, h2, h3⟩ | ⟨h1, q', c', o, h2, h3, h4, h5, h6, h7⟩
  · exact .inl ⟨h1, h2, ho.trans0 h3⟩
  · exact .inr ⟨h1, q', c', o, h2, h3, h4, fun x hx => by have := h5 x hx; omega, fun x hx => (h6 x hx).imp id (fun h => by omega), (ho.mono (by simp)).trans h7 (fun i hi _ => hi)⟩
set_option maxHeartbeats 4000000 in
theorem copy_any (w0 : World) (base B : Nat) (q : Option Addr) (n c last : Nat) (L : List Lt) (h : NetAt w0 base B q n c last L) (hr : Rises last L) (hn : n ≤ 1000000) (x : Int) (hlast : last ≤ 1000000000000000000) (aG aF : Addr) (eG : ErrAt w0 2 aG) (eF : ErrAt w0 10 aF) :
    Calls Tryd.prog 15 #[.pointer (some ⟨B, 0, none⟩), .int .i64 x] w0 (CopyEnd w0 base B q n c last L x aG aF) := by
  have hf := find_any x w0 base B q n c last L h hr hn aG eG
  have H := Lib.hid h
  have HF := Lib.hid eF
  clear h hr eG eF
  unfold CopyEnd
  unfold ev at *
  go_enter Tryd.func15, Tryd.ntmps15
  go_wp2_with fail
  refine hf.mono ?_
  clear hf
  rintro e w1 ⟨o1, ⟨i, o, rfl, hi, ho, hx⟩ | ⟨rfl, hno⟩⟩
  · have hnet := H.out.only0 o1
    obtain ⟨g, rfl, c0, c1, c2, c3⟩ := hnet.cell ho
    have cB := hnet.st.cell (i := 0) rfl
    have hok := hnet.ok o (List.mem_of_getElem? ho)
    have hp := put_any w1 base B (some ⟨g, 0, none⟩) n c last L hnet (o.n : Int) o.fr o.to o.q o.xs.length o.c o.xs rfl hok.2.2.2 hok.2.1 hok.1 (fun e => hnet.bb_ne (List.mem_of_getElem? ho) e) hlast aF (HF.out.only0 o1)
    have hii : (i : Int) < (n : Int) := by omega
    have Ho := Lib.hid ho
    have Hx := Lib.hid hx
    have HO := Lib.hid o1
    clear ho hx hnet hok o1
    have hpe : ∀ e w', PutEnd w1 base B (some ⟨g, 0, none⟩) n c last L o.fr o.to o.xs aF e w' → PutEnd w0 base B (some ⟨g, 0, none⟩) n c last L o.fr o.to o.xs aF e w' := fun e w' h => h.of HO.out
    have Hpe := Lib.hid hpe
    clear hpe
    go_wp2_with fail
    refine hp.mono ?_
    clear hp
    rintro e w2 h2
    have H2 := Lib.hid (Hpe.out e w2 h2)
    unfold PutEnd ev at h2
    rcases h2 with ⟨h1, rfl, -⟩ | ⟨h1, q', c', o', rfl, -⟩
    · skip
      go_wp2_with fail
      go_ret2
      exact .inr ⟨i, o, Ho.out, Hx.out, H2.out⟩
    · skip
      go_wp2_with fail
      go_ret2
      exact .inr ⟨i, o, Ho.out, Hx.out, H2.out⟩
  · have Hno := Lib.hid hno
    have HO := Lib.hid o1
    clear hno o1
    go_wp2_with fail
    go_ret2
    exact .inl ⟨rfl, Hno.out, HO.out⟩

set_option maxHeartbeats 4000000 in
theorem nth_any (w0 : World) (base B : Nat) (q : Option Addr) (n c last : Nat) (L : List Lt) (h : NetAt w0 base B q n c last L) (hn : n ≤ 1000000) (x : Int) (hx : -9223372036854775808 ≤ x ∧ x ≤ 9223372036854775807) :
    Calls Tryd.prog 20 #[.pointer (some ⟨B, 0, none⟩), .int .i64 x] w0 fun e w' => Only [] w0 w' ∧ ((L = [] ∧ e = .returned (.tuple #[.int .i64 0, .bool false])) ∨ (∃ j o, L[j]? = some o ∧ ((x.tmod (n : Int) + (n : Int)).tmod (n : Int)) = ((j : Nat) : Int) ∧ e = .returned (.tuple #[.int .i64 (o.n : Int), .bool true]))) := by
  have cB := h.st.cell (i := 0) rfl
  have hl := h.len
  by_cases h0 : n = 0
  · subst h0
    have hL : L = [] := List.eq_nil_of_length_eq_zero hl
    clear h hl
    go_enter Tryd.func20, Tryd.ntmps20
    go_wp2_with fail
    go_ret2
    exact ⟨Only.refl _ _, .inl ⟨hL, rfl⟩⟩
  · have b1 := Int.tmod_lt_of_pos x (show 0 < (n : Int) by omega)
    have b2 := Int.tmod_lt_of_pos (-x) (show 0 < (n : Int) by omega)
    rw [Int.neg_tmod] at b2
    have e : wrap64 (x.tmod (n : Int) + (n : Int)) = x.tmod (n : Int) + (n : Int) := IntWalk.wrap64_in _ (by omega)
    have c1 := Int.tmod_nonneg (n : Int) (show 0 ≤ x.tmod (n : Int) + (n : Int) by omega)
    have c2 := Int.tmod_lt_of_pos (x.tmod (n : Int) + (n : Int)) (show 0 < (n : Int) by omega)
    obtain ⟨j, hj, hjv⟩ : ∃ j : Nat, j < n ∧ (x.tmod (n : Int) + (n : Int)).tmod (n : Int) = (j : Int) := ⟨((x.tmod (n : Int) + (n : Int)).tmod (n : Int)).toNat, by omega, by omega⟩
    obtain ⟨o, ho⟩ : ∃ o, L[j]? = some o := ⟨_, List.getElem?_eq_getElem (by omega)⟩
    obtain ⟨g, rfl, d0, -, -, -⟩ := h.cell ho
    have hjv2 : (wrap64 (x.tmod (n : Int) + (n : Int))).tmod (n : Int) = (j : Int) := by rw [e]; exact hjv
    have hjv3 : (IntKind.i64.wrap (x.tmod (n : Int) + (n : Int))).tmod (n : Int) = (j : Int) := by rw [IntWalk.i64_in _ (by omega)]; exact hjv
    have hji : (j : Int) < (n : Int) := by omega
    have hn0 : ((n : Int) == 0) = false := by simp; omega
    have hn1 : ¬ (n : Int) = 0 := by omega
    have Ho := Lib.hid ho
    have Hjv := Lib.hid hjv
    clear h ho hjv b1 b2 c1 c2 e hl h0
    go_enter Tryd.func20, Tryd.ntmps20
    go_wp2_with fail
    go_quiet (fail)
    go_wp2_with fail
    go_ret2
    exact ⟨Only.drewN _ _, .inr ⟨j, o, Ho.out, Hjv.out, rfl⟩⟩
end Go.Proofs.YtlgcclhepegggaaDoor
