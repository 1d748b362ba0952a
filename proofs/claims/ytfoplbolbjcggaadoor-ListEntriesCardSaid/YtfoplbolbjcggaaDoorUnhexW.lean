/- The walk of sha.Unhex. -/
import Derived.Test.YtfoplbolbjcggaaDoorHexW
import Derived.Test.YtfoplbolbjcggaaDoorRegions
set_option linter.unusedVariables false
set_option maxRecDepth 100000
namespace Go.Proofs.YtfoplbolbjcggaaDoor
open Go.RowKit

theorem run_index_str {P : Program} (w : World) {t : TypeId} (ht : P.underlying t = some .string) (xs : List UInt8) (S : ByteArray) (hS : S = ⟨xs.toArray⟩) (i : Nat) (x : UInt8) (h : xs[i]? = some x) (k : IntKind) : (Instr.index t (.string S) (.int k (i : Int))).run P w = .ok (.int .u8 (x.toNat : Int)) w := by
  subst hS
  obtain ⟨hi, hx⟩ := List.getElem?_eq_some_iff.1 h
  have hsz : (⟨xs.toArray⟩ : ByteArray).size = xs.length := by simp [ByteArray.size]
  rw [run_index_string _ _ _ _ _ ht, dif_pos ⟨by omega, by rw [hsz]; omega⟩]
  congr 3
  show (xs.toArray[(i : Int).toNat]'_).toNat = _
  simp [hx]
theorem rg_index {P : Program} {o : Oper} {a : Act} {K : Act → World → Prop} {w : World} {x y : Operand} {ty : TypeId} {xv yv v : Value} (ho : o.op = .index ty x y) (hx : a.eval x = xv) (hy : a.eval y = yv)
    (hr : (Instr.index ty xv yv).run P w = .ok v w) (h : K (a.put o.dst v) w) : o.wp P a w K (fun _ _ _ => False) := by
  unfold Oper.wp execOp
  simp only [ho, hx, hy, hr, Sem.run_bind, Sem.run_pure, Result.andThen_ok]
  exact h
theorem or16 : ∀ a, a < 16 → ∀ b, b < 16 → bits .or .i64 ((a : Nat) * 16 : Int) ((b : Nat) : Int) = ((16 * a + b : Nat) : Int) := by decide +kernel
theorem unhexB_step (xs : List UInt8) (k : Nat) (a b : UInt8) (ha : xs[2 * k]? = some a) (hb : xs[2 * k + 1]? = some b) : unhexB (xs.drop (2 * k)) = if dv a < 0 ∨ dv b < 0 then none else (unhexB (xs.drop (2 * (k + 1)))).map (UInt8.ofNat (16 * (dv a).toNat + (dv b).toNat) :: ·) := by
  have h1 := (List.getElem?_eq_some_iff.1 ha).1
  have h2 := (List.getElem?_eq_some_iff.1 hb).1
  have e : xs.drop (2 * k) = a :: b :: xs.drop (2 * (k + 1)) := by
    rw [List.drop_eq_getElem_cons h1, List.drop_eq_getElem_cons h2]
    rw [List.getElem?_eq_getElem h1] at ha
    rw [List.getElem?_eq_getElem h2] at hb
    rw [Option.some.inj ha, Option.some.inj hb]
    rfl
  rw [e, unhexB]
theorem unhexB_odd : ∀ (xs : List UInt8), xs.length % 2 = 1 → unhexB xs = none
  | [], h => by simp at h
  | [_], _ => rfl
  | a :: b :: r, h => by
    rw [unhexB, unhexB_odd r (by simp at h; omega)]; simp
/-- what Unhex hands back -/
def UnhexAns (xs : List UInt8) (ww : World) (e : Ending) (w' : World) : Prop :=
  ∃ p c ys ok, e = .returned (.tuple #[.slice p ys.length c, .bool ok]) ∧ Own w' ww.heap.size 5 (.slice p ys.length c) (u8s ys) ∧ Only [] ww w' ∧ ((ok = true ∧ unhexB xs = some ys) ∨ (ok = false ∧ ys = [] ∧ unhexB xs = none))
set_option maxHeartbeats 2000000 in
theorem unhex_any (xs : List UInt8) (S : ByteArray) (hS : S = ⟨xs.toArray⟩) (ww : World) (hb : xs.length ≤ 140737488355328) : Calls Tryd.prog 46 #[.string S] ww fun e w' => UnhexAns xs ww e w' := by
  have hsz : S.size = xs.length := by rw [hS]; simp [ByteArray.size]
  obtain ⟨n, hn⟩ : ∃ n, n = xs.length := ⟨_, rfl⟩
  rw [← hn] at hsz hb
  have hno : unhexB xs = none → ∀ w', Only [] ww w' → UnhexAns xs ww (.returned (.tuple #[.slice none 0 0, .bool false])) w' := fun h w' ho => ⟨none, 0, [], false, rfl, Own.nil _ _ _, ho, .inr ⟨rfl, rfl, h⟩⟩
  have Hno := Lib.hid hno
  have HS := Lib.hid hS
  have Hn := Lib.hid hn
  clear hno hS hn
  by_cases hodd : n % 2 = 1
  · have hd : (n : Int) % 2 = 1 := by omega
    have ho := unhexB_odd xs (by rw [← Hn.out]; exact hodd)
    have Ho := Lib.hid ho
    clear ho
    go_enter Tryd.func46, Tryd.ntmps46
    go_wp2_with fail
    go_ret2
    exact Hno.out Ho.out _ (Only.refl _ _)
  · have hd : ¬ (n : Int) % 2 = 1 := by omega
    go_enter Tryd.func46, Tryd.ntmps46
    go_wp2_with fail
    go_loopw [4, 5] (fun v i wr => ∃ (k : Nat) (p : Option Addr) (c : Nat) (ys : List UInt8), v = .slice p k c ∧ i = .int .i64 (2 * (k : Int)) ∧ 2 * k ≤ n ∧ Hid (ys.length = k) ∧ Hid (Own wr ww.heap.size 5 (.slice p k c) (u8s ys)) ∧ Hid (Only [] ww wr) ∧ Hid (unhexB xs = (unhexB (xs.drop (2 * k))).map (ys ++ ·))) (fun _ i _ => n - (intOf i).toNat)
    case atStart => exact ⟨0, none, 0, [], rfl, rfl, by omega, Lib.hid rfl, Lib.hid (Own.nil _ _ _), Lib.hid (Only.refl _ _), Lib.hid (by simp)⟩
    case round =>
      obtain ⟨k, p, c, ys, rfl, rfl, hk, Hl, O, Ho, He⟩ := hrel
      by_cases hlt : 2 * k < n
      · have hlt2 : 2 * k + 1 < n := by omega
        obtain ⟨a, ha⟩ : ∃ a, xs[2 * k]? = some a := ⟨_, List.getElem?_eq_getElem (by rw [← Hn.out]; exact hlt)⟩
        obtain ⟨b, hb'⟩ : ∃ b, xs[2 * k + 1]? = some b := ⟨_, List.getElem?_eq_getElem (by rw [← Hn.out]; exact hlt2)⟩
        have Hia : Hid (∀ w, (Instr.index 9 (.string S) (.int .i64 (2 * (k : Int)))).run Tryd.prog w = .ok (.int .u8 (a.toNat : Int)) w) := Lib.hid fun w => by
          have := run_index_str (P := Tryd.prog) w Tryd.underlying9 xs S HS.out (2 * k) a ha .i64
          push_cast at this; exact this
        have Hib : Hid (∀ w, (Instr.index 9 (.string S) (.int .i64 (2 * (k : Int) + 1))).run Tryd.prog w = .ok (.int .u8 (b.toNat : Int)) w) := Lib.hid fun w => by
          have := run_index_str (P := Tryd.prog) w Tryd.underlying9 xs S HS.out (2 * k + 1) b hb' .i64
          push_cast at this; exact this
        have hstep := unhexB_step xs k a b ha hb'
        have hda := dv_all a
        have hdb := dv_all b
        have hca : ∀ w, Calls Tryd.prog 78 #[.string ⟨#[48, 49, 50, 51, 52, 53, 54, 55, 56, 57, 97, 98, 99, 100, 101, 102]⟩, .int .u8 (a.toNat : Int)] w fun e w' => e = .returned (.int .i64 (dv a)) ∧ w' = w := fun w => by
          have := indexByte_any ⟨#[48, 49, 50, 51, 52, 53, 54, 55, 56, 57, 97, 98, 99, 100, 101, 102]⟩ (a.toNat : Int) w
          simp only [Int.toNat_natCast, UInt8.ofNat_toNat, Nat.toUInt8] at this
          exact this
        have hcb : ∀ w, Calls Tryd.prog 78 #[.string ⟨#[48, 49, 50, 51, 52, 53, 54, 55, 56, 57, 97, 98, 99, 100, 101, 102]⟩, .int .u8 (b.toNat : Int)] w fun e w' => e = .returned (.int .i64 (dv b)) ∧ w' = w := fun w => by
          have := indexByte_any ⟨#[48, 49, 50, 51, 52, 53, 54, 55, 56, 57, 97, 98, 99, 100, 101, 102]⟩ (b.toNat : Int) w
          simp only [Int.toNat_natCast, UInt8.ofNat_toNat, Nat.toUInt8] at this
          exact this
        generalize dv a = da at hstep hda hca
        generalize dv b = db at hstep hdb hcb
        have Hca := Lib.hid hca
        have Hcb := Lib.hid hcb
        have Hstep := Lib.hid hstep
        have hda1 := hda.1
        have hda2 := hda.2.1
        have hdb1 := hdb.1
        have hdb2 := hdb.2.1
        clear hca hcb hstep ha hb' hda hdb
        go_wp2_with fail
        -- <<r7
        refine wp_region_rg2 (Only []) [[(0, none)], [(5, none)], [(18, some 1), (19, some 0)], [(20, some 0)], [(0, none)], [(5, none)], [(23, some 0)], [(22, some 2), (24, some 0)], [(25, some 0)], [(21, some 5)], [(26, some 1)]] [(6, 1), (7, 0)] [none, none, none, none, none, none, some 6, some 7, none, none, none, none, none, none, none, none, none, none, some 18, some 19, some 20, some 21, some 22, some 23, some 24, some 25, some 26, none, none, none, none, none, none, none, none, none, none, none, none, none, none, none] (by kernel_rfl) rfl (by kernel_rfl) (fun _ => Only.refl _ _) (fun _ _ _ h k => h.trans0 k) (Only.drew _) (by kernel_rfl) ?_
        -- 0: s18 := move t0
        apply rg_ev
        · intro a w hR hf
          obtain ⟨e0, -⟩ := hf
          replace e0 : a.tmps.getD 0 undef = _ := e0
          refine rg_plain rfl fun K hK => ?_
          go_simp
          exact hK _ _ rfl (Only.refl _ _)
        -- 1: s19 := move t5
        apply rg_ev
        · intro a w hR hf
          obtain ⟨e5, -⟩ := hf
          replace e5 : a.tmps.getD 5 undef = _ := e5
          refine rg_plain rfl fun K hK => ?_
          go_simp
          exact hK _ _ rfl (Only.refl _ _)
        -- 2: s20 := index 9 t18 t19
        apply rg_ev
        · intro a w hR hf
          obtain ⟨e18, e19, -⟩ := hf
          replace e18 : a.tmps.getD 18 undef = _ := e18
          replace e19 : a.tmps.getD 19 undef = _ := e19
          refine rg_plain rfl fun K hK => ?_
          exact rg_index (x := .tmp 18) (y := .tmp 19) rfl e18 e19 (Hia.out _) (hK _ _ rfl (Only.refl _ _))
        -- 3: s21 := call { value (Operand.func 40), args := #[const (Value.string { data := #[48, 49, 50, 51, 52, 53, 54, 55, 56, 
        apply rg_ev
        · intro a w hR hf
          obtain ⟨e20, -⟩ := hf
          replace e20 : a.tmps.getD 20 undef = _ := e20
          refine rg_plain rfl fun K hK => ?_
          go_simp
          (with_reducible refine (Hca.out _).mono ?_)
          rintro e w' ⟨rfl, rfl⟩
          exact hK _ _ rfl (Only.refl _ _)
        -- 4: s22 := move t0
        apply rg_ev
        · intro a w hR hf
          obtain ⟨e0, -⟩ := hf
          replace e0 : a.tmps.getD 0 undef = _ := e0
          refine rg_plain rfl fun K hK => ?_
          go_simp
          exact hK _ _ rfl (Only.refl _ _)
        -- 5: s23 := move t5
        apply rg_ev
        · intro a w hR hf
          obtain ⟨e5, -⟩ := hf
          replace e5 : a.tmps.getD 5 undef = _ := e5
          refine rg_plain rfl fun K hK => ?_
          go_simp
          exact hK _ _ rfl (Only.refl _ _)
        -- 6: s24 := binOp Binadd 3 t23 (const (1:i64)) 3
        apply rg_ev
        · intro a w hR hf
          obtain ⟨e23, -⟩ := hf
          replace e23 : a.tmps.getD 23 undef = _ := e23
          refine rg_plain rfl fun K hK => ?_
          have hw := IntWalk.i64_in (2 * (k : Int) + 1) (by omega)
          go_simp
          exact hK _ _ rfl (Only.refl _ _)
        -- 7: s25 := index 9 t22 t24
        apply rg_ev
        · intro a w hR hf
          obtain ⟨e22, e24, -⟩ := hf
          replace e22 : a.tmps.getD 22 undef = _ := e22
          replace e24 : a.tmps.getD 24 undef = _ := e24
          refine rg_plain rfl fun K hK => ?_
          exact rg_index (x := .tmp 22) (y := .tmp 24) rfl e22 e24 (Hib.out _) (hK _ _ rfl (Only.refl _ _))
        -- 8: s26 := call { value (Operand.func 40), args := #[const (Value.string { data := #[48, 49, 50, 51, 52, 53, 54, 55, 56, 
        apply rg_ev
        · intro a w hR hf
          obtain ⟨e25, -⟩ := hf
          replace e25 : a.tmps.getD 25 undef = _ := e25
          refine rg_plain rfl fun K hK => ?_
          go_simp
          (with_reducible refine (Hcb.out _).mono ?_)
          rintro e w' ⟨rfl, rfl⟩
          exact hK _ _ rfl (Only.refl _ _)
        -- 9: s6 := assign t21
        apply rg_ev
        · intro a w hR hf
          obtain ⟨e21, -⟩ := hf
          replace e21 : a.tmps.getD 21 undef = _ := e21
          refine rg_plain rfl fun K hK => ?_
          go_simp
          exact hK _ _ rfl (Only.refl _ _)
        -- 10: s7 := assign t26
        apply rg_ev
        · intro a w hR hf
          obtain ⟨e26, -⟩ := hf
          replace e26 : a.tmps.getD 26 undef = _ := e26
          refine rg_plain rfl fun K hK => ?_
          go_simp
          exact hK _ _ rfl (Only.refl _ _)
        intro f7 w7 hR7 hf
        dsimp only [mergeT]
        obtain ⟨e6, e7, -⟩ := hf
        replace e6 : f7 6 = _ := e6
        rw [e6]
        replace e7 : f7 7 = _ := e7
        rw [e7]
        -- r7>>
        have Ho7 := Lib.hid (Ho.out.trans0 hR7)
        have O7 := Lib.hid (O.out.only0 hR7)
        clear Ho O
        by_cases hbad : da < 0 ∨ db < 0
        · have hnone : unhexB xs = none := by rw [He.out, Hstep.out, if_pos hbad]; rfl
          have Hnone := Lib.hid hnone
          clear hnone
          by_cases h1 : da < 0
          · clear hbad
            go_wp2_with fail
            go_ret2
            exact Hno.out Hnone.out _ Ho7.out
          · have h2 : db < 0 := by omega
            clear hbad
            go_wp2_with fail
            go_ret2
            exact Hno.out Hnone.out _ Ho7.out
        · obtain ⟨na, rfl⟩ : ∃ m : Nat, da = (m : Int) := ⟨da.toNat, by omega⟩
          obtain ⟨nb, rfl⟩ : ∃ m : Nat, db = (m : Int) := ⟨db.toNat, by omega⟩
          have hna : na < 16 := by omega
          have hnb : nb < 16 := by omega
          have he2 : unhexB xs = (unhexB (xs.drop (2 * (k + 1)))).map ((ys ++ [UInt8.ofNat (16 * na + nb)]) ++ ·) := by
            rw [He.out, Hstep.out, if_neg hbad]
            simp only [Int.toNat_natCast, Option.map_map]
            congr 1
            funext z; simp
          have hx : ((16 * na + nb : Nat) : Int) = ((UInt8.ofNat (16 * na + nb)).toNat : Int) := by rw [UInt8.toNat_ofNat']; omega
          have hor := or16 na hna nb hnb
          rw [hx] at hor
          have hxl := (UInt8.ofNat (16 * na + nb)).toNat_lt
          generalize UInt8.ofNat (16 * na + nb) = x at he2 hor hxl
          obtain ⟨p', c', w2, Hr, O', h'⟩ := push1 w7 ww.heap.size p k c ys x O7.out (by omega) Ho7.out.size
          have O2 := Lib.hid O'
          have Ho2 := Lib.hid (Ho7.out.transN h' O7.out.blk)
          have He2 := Lib.hid he2
          have hn1 : ¬ ((na : Int) < 0) := by omega
          have hn2 : ¬ ((nb : Int) < 0) := by omega
          clear he2 hx O' h' hbad Ho7 O7 He Hstep
          go_wp2_with (first | (at_builtin; refine wpl_append (s := .tmp 33) (x := .tmp 39) rfl rfl rfl rfl Hr.out ?_))
          refine ⟨⟨u2, u3, _, _, ⟨k + 1, p', c', rfl, rfl, by omega, ys ++ [x], Lib.hid (by rw [List.length_append, Hl.out]; rfl), O2, He2⟩, rfl, rfl, rfl, by go_num⟩, by simp [intOf]; omega⟩
      · obtain rfl : n = 2 * k := by omega
        go_wp2_with fail
        go_ret2
        refine ⟨p, c, ys, true, by rw [Hl.out]; rfl, by rw [Hl.out]; exact O.out, Ho.out, .inl ⟨rfl, ?_⟩⟩
        rw [He.out, List.drop_of_length_le (by rw [← Hn.out]; exact Nat.le_refl _)]
        simp [unhexB]
end Go.Proofs.YtfoplbolbjcggaaDoor
