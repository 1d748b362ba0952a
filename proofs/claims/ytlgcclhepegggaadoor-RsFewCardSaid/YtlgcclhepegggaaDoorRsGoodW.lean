/- The walk of bollardref02.Good. -/
import Derived.Test.YtlgcclhepegggaaDoorShActs
set_option linter.unusedVariables false
set_option maxRecDepth 100000
namespace Go.Proofs.YtlgcclhepegggaaDoor
open Go.RowKit

set_option maxHeartbeats 4000000 in
theorem refGood_any (k m size n c : Nat) (p : Option Addr) (L : List Sh) (b : Bool) (w0 : World) (hb : b = true ↔ goodL k m size L) (hk : k ≤ 16) (hm : m ≤ 16) (hs : size ≤ 1024) (hn : L.length = n) (hnb : n ≤ 140737488351232) (hL : Shards w0 p L) :
    Calls Tryd.prog 35 #[.int .i64 (k : Int), .int .i64 (m : Int), .int .i64 (size : Int), .slice p n c] w0 fun e w' => e = .returned (.bool b) ∧ Only [] w0 w' := by
  have Hb := Lib.hid hb
  have Hn := Lib.hid hn
  have HL := Lib.hid hL
  clear hb hn hL
  by_cases hnk : n = k
  · subst hnk
    go_enter Tryd.func35, Tryd.ntmps35
    go_wp2_with fail
    go_loopw [18] (fun x wr => ∃ i : Nat, x = .int .i64 (i : Int) ∧ i ≤ n ∧ Hid (∀ (j : Nat) o, j < i → L[j]? = some o → okAt n m size L j o) ∧ Hid (Only [] w0 wr)) (fun x _ => n - (intOf x).toNat)
    case atStart => exact ⟨0, rfl, Nat.zero_le _, Lib.hid (fun j o h => by omega), Lib.hid (Only.refl _ _)⟩
    case round =>
      obtain ⟨i, rfl, hi, Hok, HO⟩ := hrel
      by_cases hlt : i < n
      · have hii : (i : Int) < (n : Int) := by omega
        obtain ⟨o, ho⟩ : ∃ o, L[i]? = some o := ⟨_, List.getElem?_eq_getElem (by rw [Hn.out]; exact hlt)⟩
        obtain ⟨bp, off, rfl, hok, hc0, hc1⟩ := (HL.out.only0 HO.out) i o ho
        have Ho := Lib.hid ho
        have hbad : ¬ okAt n m size L i o → b = false := fun h => by
          cases hb : b with
          | false => rfl
          | true => exact absurd ((Hb.out.1 hb).2 i o ho) h
        have Hbad := Lib.hid hbad
        obtain ⟨on, hon⟩ : ∃ x, x = o.n := ⟨_, rfl⟩
        obtain ⟨oq, hoq⟩ : ∃ x, x = o.q := ⟨_, rfl⟩
        obtain ⟨oc, hoc⟩ : ∃ x, x = o.c := ⟨_, rfl⟩
        obtain ⟨ol, hol⟩ : ∃ x, x = o.xs.length := ⟨_, rfl⟩
        have ho1 := hok.1
        have ho2 := hok.2.2.2
        rw [← hon] at ho1 hc0
        rw [← hoq, ← hoc, ← hol] at hc1
        rw [← hoc, ← hol] at ho2
        have Hon := Lib.hid hon
        have Hol := Lib.hid hol
        clear ho hok hbad hon hoq hoc hol
        obtain ⟨w1, hw1⟩ : ∃ w1, w1 = wr.alloc (.cells #[.int .i64 on, .slice oq ol oc] 80) := ⟨_, rfl⟩
        have rX : Row w1 wr.heap.size 80 [.int .i64 on, .slice oq ol oc] := by rw [hw1]; exact Row.newOf _ _ _ _ rfl
        have HOx : Hid (Only [] wr w1) := Lib.hid (by rw [hw1]; exact Only.alloc _ _)
        by_cases h1 : on < 0
        · have hbf : b = false := Hbad.out (fun h => by have := h.1; have := Hon.out; omega)
          subst hbf
          go_wp2_with fail
          go_ret
          rw [← hw1]
          exact ⟨rfl, HO.out.trans0 HOx.out⟩
        · by_cases h2 : (n : Int) + (m : Int) ≤ on
          · have hbf : b = false := Hbad.out (fun h => by have := h.2.1; have := Hon.out; omega)
            subst hbf
            go_wp2_with fail
            go_ret
            rw [← hw1]
            exact ⟨rfl, HO.out.trans0 HOx.out⟩
          · by_cases h3 : ol = size
            · subst h3
              go_wp2_with fail
              rw [← hw1]
              have hx0 := rX.cell (i := 0) rfl
              generalize wr.heap.size = gx at *
              have HOw : Hid (Only [] w0 w1) := Lib.hid (HO.out.trans0 HOx.out)
              have Hrg : Hid (0 ≤ on ∧ on < (n : Int) + (m : Int)) := Lib.hid (by omega)
              clear rX hw1 hc0 hc1 h1 h2
              have hon16 : -9223372036854775808 ≤ on ∧ on ≤ 9223372036854775807 := ho1
              go_loopw [11] (fun x wr => ∃ j : Nat, x = .int .i64 (j : Int) ∧ j ≤ i ∧ Hid (∀ (t : Nat) x, t < j → L[t]? = some x → x.n ≠ o.n) ∧ Hid (Only [] w1 wr)) (fun x _ => i - (intOf x).toNat)
              case atStart => exact ⟨0, rfl, Nat.zero_le _, Lib.hid (fun t x h => by omega), Lib.hid (Only.refl _ _)⟩
              case round =>
                obtain ⟨j, rfl, hj, Hne, HO2⟩ := hrel
                by_cases hjl : j < i
                · have hji : (j : Int) < (i : Int) := by omega
                  have hjn : (j : Int) < (n : Int) := by omega
                  obtain ⟨y, hy⟩ : ∃ y, L[j]? = some y := ⟨_, List.getElem?_eq_getElem (by rw [Hn.out]; omega)⟩
                  obtain ⟨b2, off2, e2, hoky, hy0, -⟩ := (HL.out.only0 (HOw.out.trans0 HO2.out)) j y hy
                  obtain ⟨rfl, rfl⟩ : bp = b2 ∧ off = off2 := by simpa using e2
                  have hx0' := HO2.out.cell hx0 (by simp)
                  by_cases he : y.n = on
                  · have hbf : b = false := Hbad.out (fun h => h.2.2.2 j y hjl hy (by rw [he]; exact Hon.out))
                    subst hbf
                    have hei : (y.n == on) = true := by simp [he]
                    clear he hy e2 hoky
                    go_wp2_with fail
                    go_quiet (fail)
                    go_wp2_with fail
                    go_ret
                    exact ⟨rfl, (HOw.out.trans0 HO2.out).trans0 (Only.drewN _ _)⟩
                  · have hei : (y.n == on) = false := by simpa using he
                    have Hne2 : Hid (∀ (t : Nat) x, t < j + 1 → L[t]? = some x → x.n ≠ o.n) := Lib.hid fun t x ht hx => by
                      by_cases e : t < j
                      · exact Hne.out t x e hx
                      · obtain rfl : t = j := by omega
                        rw [hx] at hy
                        obtain rfl := Option.some.inj hy
                        rw [← Hon.out]; exact he
                    clear he hy e2 hoky Hne
                    go_wp2_with fail
                    go_quiet (fail)
                    have HO3 : Hid (Only [] w1 (wr.drewN nq)) := Lib.hid (HO2.out.trans0 (Only.drewN _ _))
                    generalize wr.drewN nq = wz at *
                    go_wp2_with fail
                    go_roundw
                    case rel => exact ⟨j + 1, by go_num, by omega, Hne2, HO3⟩
                    case measure => simp [intOf]; omega
                · obtain rfl : j = i := by omega
                  have hji : ¬ (j : Int) < (j : Int) := by omega
                  have Hok2 : Hid (∀ (t : Nat) o, t < j + 1 → L[t]? = some o → okAt n m ol L t o) := Lib.hid fun t x ht hx => by
                    by_cases e : t < j
                    · exact Hok.out t x e hx
                    · obtain rfl : t = j := by omega
                      have h := Ho.out
                      rw [hx] at h
                      obtain rfl := Option.some.inj h
                      have h1 := Hon.out
                      have h2 := Hol.out
                      have h3 := Hrg.out
                      refine ⟨by omega, by omega, by omega, Hne.out⟩
                  have HO3 : Hid (Only [] w0 wr) := Lib.hid (HOw.out.trans0 HO2.out)
                  clear Hok Hne HO HOw
                  go_wp2_with fail
                  go_roundw
                  case rel => exact ⟨j + 1, by go_num, by omega, Hok2, HO3⟩
                  case measure => simp [intOf]; omega
            · have hbf : b = false := Hbad.out (fun h => by have := h.2.2.1; have := Hol.out; omega)
              subst hbf
              have h3i : ((ol : Int) == (size : Int)) = false := by simp; omega
              go_wp2_with fail
              go_ret
              rw [← hw1]
              exact ⟨rfl, HO.out.trans0 HOx.out⟩
      · obtain rfl : i = n := by omega
        have hii : ¬ (i : Int) < (i : Int) := by omega
        have hbt : b = true := Hb.out.2 ⟨Hn.out, fun j o hj => Hok.out j o (by have := (List.getElem?_eq_some_iff.1 hj).1; have := Hn.out; omega) hj⟩
        subst hbt
        go_wp2_with fail
        go_ret
        exact ⟨rfl, HO.out⟩
  · have hbf : b = false := by
      cases hb : b with
      | false => rfl
      | true => exact absurd ((Hb.out.1 hb).1.symm.trans Hn.out).symm hnk
    subst hbf
    have hni : ((n : Int) == (k : Int)) = false := by simp; omega
    go_enter Tryd.func35, Tryd.ntmps35
    go_wp2_with fail
    go_ret
    exact ⟨rfl, Only.refl _ _⟩
end Go.Proofs.YtlgcclhepegggaaDoor
