/- The walks of rs.row, rs.combined. -/
import Derived.Test.YtlgcclhepegggaaDoorRsMath
import Derived.Test.YtlgcclhepegggaaDoorMakeAll
import Derived.Test.YtlgcclhepegggaaDoorGfNew
import Derived.Test.YtlgcclhepegggaaDoorOwn
set_option linter.unusedVariables false
set_option maxRecDepth 100000
namespace Go.Proofs.YtlgcclhepegggaaDoor
open Go.RowKit

set_option maxHeartbeats 2000000 in
theorem row_any (k number : Nat) (hk : k ≤ 16) (hn : number < 16) (ww : World) :
    Calls Tryd.prog 50 #[.int .i64 (k : Int), .int .i64 (number : Int)] ww fun e w' => ∃ g, e = .returned (.slice (some ⟨g, 0, none⟩) k k) ∧ ww.heap.size ≤ g ∧ Row w' g 5 (u8s (rowB k number)) ∧ Only [] ww w' := by
  obtain ⟨g, w1, hmk, hg, hr, ho⟩ := make_row (P := Tryd.prog) (bytes := 1) ww Tryd.underlying27 Tryd.infoU8 rfl .i64 .i64 k k (Nat.le_refl _) (by omega) (by omega)
  have R := Lib.hid (show Row w1 g 5 (u8s (rowUp k number 0)) by rw [rowUp_zero, u8s_replicate]; exact hr)
  have Ho := Lib.hid ho
  clear hr ho
  go_enter Tryd.func50, Tryd.ntmps50
  go_wp2_with fail
  go_loopw [11] (fun i wr => ∃ j : Nat, i = .int .i64 (j : Int) ∧ j ≤ k ∧ Hid (Row wr g 5 (u8s (rowUp k number j))) ∧ Hid (Only [] ww wr)) (fun i _ => k - (intOf i).toNat)
  case atStart => exact ⟨0, rfl, Nat.zero_le _, R, Ho⟩
  case round =>
    clear R Ho hmk
    obtain ⟨j, rfl, hj, R, Ho⟩ := hrel
    by_cases hlt : j < k
    · obtain ⟨hget, hset⟩ := rowUp_step (number := number) hlt
      have hc := R.out.cell (by unfold u8s; rw [List.getElem?_map, hget]; rfl : (u8s (rowUp k number j))[j]? = some (.int .u8 0))
      have hf := R.out.free j
      have hji : (j : Int) < (k : Int) := by omega
      have r2 := R.out.setCell j (u8 (factor k number j))
      rw [u8s_set, hset] at r2
      have o2 : Only [g] wr (wr.setCell ⟨g, j, none⟩ (u8 (factor k number j))) := Only.setCell _ ⟨g, j, none⟩ _
      have R2 := Lib.hid r2
      have Ho2 := Lib.hid (Ho.out.transN o2 (by simp; exact hg))
      have Hsame := Lib.hid (fun h0 => rowUp_same (number := number) hlt h0)
      clear hget hset r2 o2
      by_cases hnk : number < k
      · have hnki : (number : Int) < (k : Int) := by omega
        by_cases he : j = number
        · have hei : ((j : Int) == (number : Int)) = true := by simp [he]
          have hfac : factor k number j = 1 := by unfold factor; rw [if_pos hnk, if_pos he]
          rw [hfac] at R2 Ho2
          clear he hfac Hsame
          go_wp2_with fail
          exact ⟨⟨j + 1, by go_num, by omega, R2, Ho2⟩, by simp [intOf]; omega⟩
        · have hei : ((j : Int) == (number : Int)) = false := by simp; omega
          have hfac : factor k number j = 0 := by unfold factor; rw [if_pos hnk, if_neg he]
          have hs := Hsame.out hfac
          have R3 := Lib.hid R.out
          rw [hs] at R3
          clear he hfac Hsame R2 Ho2 hs
          go_wp2_with fail
          exact ⟨⟨j + 1, by go_num, by omega, R3, Ho⟩, by simp [intOf]; omega⟩
      · have hnki : ¬ (number : Int) < (k : Int) := by omega
        have hfac : factor k number j = ginvZ (UInt8.ofNat (number ^^^ j)) := by unfold factor; rw [if_neg hnk]
        have hx : bits .xor .i64 (number : Int) (j : Int) = ((number ^^^ j : Nat) : Int) := i64_xor_nat _ _ (by omega) (by omega)
        have hx16 : number ^^^ j < 16 := Nat.xor_lt_two_pow (n := 4) (by omega) (by omega)
        obtain ⟨x, hxe⟩ : ∃ x, x = number ^^^ j := ⟨_, rfl⟩
        rw [← hxe] at hx hx16 hfac
        have hxu : (x : Int) = ((UInt8.ofNat x).toNat : Int) := by rw [UInt8.toNat_ofNat']; omega
        have hwr : IntKind.u8.wrap (x : Int) = (x : Int) := IntWalk.u8_in _ (by omega)
        have hinv := inv_any (UInt8.ofNat x) wr
        rw [← hxu] at hinv
        rw [hfac] at R2 Ho2
        clear hxe hfac Hsame hxu
        generalize ginvZ (UInt8.ofNat x) = y at *
        generalize nz (UInt8.ofNat x) = b at *
        go_wp2_with fail
        (with_reducible refine (hinv).mono ?_)
        rintro e w' ⟨rfl, rfl⟩
        go_wp2_with fail
        exact ⟨⟨j + 1, by go_num, by omega, R2, Ho2⟩, by simp [intOf]; omega⟩
    · obtain rfl : j = k := by omega
      have r := R.out
      rw [rowUp_full] at r
      have HR := Lib.hid r
      clear r R
      go_wp2_with fail
      go_ret
      exact ⟨g, rfl, hg, HR.out, Ho.out⟩

/-- a slice of lists of bytes, read -/
def Lists (w : World) (p : Option Addr) (Ls : List (List UInt8)) : Prop :=
  ∀ (j : Nat) L, Ls[j]? = some L → ∃ b off q c, p = some ⟨b, off, none⟩ ∧ w.cell? ⟨b, off + j, none⟩ = some (.slice q L.length c) ∧ Rd w q (u8s L) ∧ (q = none → L.length = 0 ∧ c = 0) ∧ L.length ≤ c
theorem Lists.only0 {w w' : World} {p : Option Addr} {Ls : List (List UInt8)} (h : Lists w p Ls) (ho : Only [] w w') : Lists w' p Ls := fun j L hj => by
  obtain ⟨b, off, q, c, h1, h2, h3, h4, h5⟩ := h j L hj
  exact ⟨b, off, q, c, h1, ho.cell h2 (by simp), h3.only0 ho, h4, h5⟩

set_option maxHeartbeats 2000000 in
theorem combined_any (p q : Option Addr) (cs : List UInt8) (Ls : List (List UInt8)) (n c m d size : Nat) (ww : World) (hn : cs.length = n) (hm : Ls.length = m) (hnm : n ≤ m) (hnb : n ≤ 1000) (hs : size ≤ 100000) (heach : ∀ l ∈ Ls, l.length = size)
    (hx : Rd ww p (u8s cs)) (hl : Lists ww q Ls) :
    Calls Tryd.prog 49 #[.slice p n c, .slice q m d, .int .i64 (size : Int)] ww fun e w' => ∃ g, e = .returned (.slice (some ⟨g, 0, none⟩) size size) ∧ ww.heap.size ≤ g ∧ Row w' g 5 (u8s (combB cs (Ls.take n) size)) ∧ Only [] ww w' := by
  obtain ⟨g, w1, hmk, hg, hr, ho⟩ := make_row (P := Tryd.prog) (bytes := 1) ww Tryd.underlying27 Tryd.infoU8 rfl .i64 .i64 size size (Nat.le_refl _) (by omega) (by omega)
  have R := Lib.hid (show Row w1 g 5 (u8s (combB (cs.take 0) (Ls.take 0) size)) by
    have : combB (cs.take 0) (Ls.take 0) size = List.replicate size 0 := rfl
    rw [this, u8s_replicate]; exact hr)
  have Ho := Lib.hid ho
  have Hn := Lib.hid hn
  have Hm := Lib.hid hm
  have Hx := Lib.hid hx
  have Hl := Lib.hid hl
  have He := Lib.hid heach
  clear hr ho hn hm hx hl heach
  go_enter Tryd.func49, Tryd.ntmps49
  go_wp2_with fail
  go_loopw [14, 7] (fun i o wr => ∃ (j g : Nat), i = .int .i64 (j : Int) ∧ o = .slice (some ⟨g, 0, none⟩) size size ∧ j ≤ n ∧ Hid (ww.heap.size ≤ g) ∧ Hid (Row wr g 5 (u8s (combB (cs.take j) (Ls.take j) size))) ∧ Hid (Only [] ww wr)) (fun i _ _ => n - (intOf i).toNat)
  case atStart => exact ⟨0, g, rfl, rfl, Nat.zero_le _, Lib.hid hg, R, Ho⟩
  case round =>
    clear R Ho hmk hg
    obtain ⟨j, g, rfl, rfl, hj, Hg, R, Ho⟩ := hrel
    by_cases hlt : j < n
    · have hji : (j : Int) < (n : Int) := by omega
      have hji2 : (j : Int) < (m : Int) := by omega
      obtain ⟨b, off, rfl, hyc⟩ := (Hx.out.only0 Ho.out).bytes (by rw [Hn.out]; omega)
      have hc := hyc j (by rw [Hn.out]; exact hlt)
      obtain ⟨x, hxe⟩ : ∃ x, cs[j]? = some x := ⟨_, List.getElem?_eq_getElem (by rw [Hn.out]; exact hlt)⟩
      rw [(List.getElem?_eq_some_iff.1 hxe).2] at hc
      obtain ⟨L, hL⟩ : ∃ L, Ls[j]? = some L := ⟨_, List.getElem?_eq_getElem (by rw [Hm.out]; omega)⟩
      obtain ⟨b2, off2, q2, c2, rfl, hc2, hr2, hq2, -⟩ := (Hl.out.only0 Ho.out) j L hL
      have hLs := He.out L (List.mem_of_getElem? hL)
      rw [hLs] at hc2 hq2
      have hstep := combB_step (size := size) hxe hL
      have hol : (combB (cs.take j) (Ls.take j) size).length = size := combB_len (fun l hl => He.out l (List.mem_of_mem_take hl))
      have hadd := addScaled_any x (some ⟨g, 0, none⟩) q2 (combB (cs.take j) (Ls.take j) size) L size c2 wr (by rw [hol]; omega) (by rw [hLs]; omega) R.out.rd0 hr2
      rw [hol, hLs] at hadd
      have Hst := Lib.hid hstep
      have Hol := Lib.hid hol
      have HLs := Lib.hid hLs
      clear hyc hxe hL hstep hr2 hol hLs R
      generalize combB (cs.take j) (Ls.take j) size = o at *
      go_wp2_with fail
      refine hadd.mono ?_
      rintro e w' ⟨g', rfl, hg', hrow, ho⟩
      have hlen : (eachS (fun a b => gadd a (gmul x b)) o L).length = size := by rw [eachS_length, Hol.out, HLs.out, Nat.max_self]
      rw [hlen]
      have R2 := Lib.hid hrow
      have Ho2 := Lib.hid (Ho.out.trans0 ho)
      have Hg2 := Lib.hid (Nat.le_trans Ho.out.size hg')
      clear hrow ho hadd hg' hlen
      go_wp2_with fail
      refine ⟨⟨j + 1, g', by go_num, rfl, by omega, Hg2, Lib.hid ?_, Ho2⟩, by simp [intOf]; omega⟩
      rw [Hst.out]; exact R2.out
    · obtain rfl : j = n := by omega
      have hji : ¬ (j : Int) < (j : Int) := by omega
      have r := R.out
      rw [List.take_of_length_le (by rw [Hn.out]; exact Nat.le_refl _)] at r
      have HR := Lib.hid r
      clear r R
      go_wp2_with fail
      go_ret
      exact ⟨g, rfl, Hg.out, HR.out, Ho.out⟩
end Go.Proofs.YtlgcclhepegggaaDoor
