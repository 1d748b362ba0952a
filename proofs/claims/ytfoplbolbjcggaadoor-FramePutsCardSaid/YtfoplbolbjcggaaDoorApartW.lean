/- The walk of bollardnum.Apart, its second list an owned slice (nil too). -/
import Derived.Test.YtfoplbolbjcggaaDoorBytesW
set_option linter.unusedVariables false
set_option maxRecDepth 100000
namespace Go.Proofs.YtfoplbolbjcggaaDoor
open Go.RowKit

theorem apart_own (p q : Option Addr) (xs zs : List UInt8) (n c m d base : Nat) (w : World) (hn : xs.length = n) (hp : p = none → n = 0 ∧ c = 0) (hx : Rd w p (u8s xs)) (hne : ∀ a, p = some a → a.block ∉ blk q)
    (hz : Own w base 5 (.slice q m d) (u8s zs)) (hzl : zs.length = m) (hb : m ≤ 140737488351300) (hbase : base ≤ w.heap.size) :
    Calls Tryd.prog 36 #[.slice p n c, .slice q m d] w fun e w' => e = .returned (.bool true) ∧ Only (blk q) w w' ∧ ∃ zs' : List UInt8, zs'.length = m ∧ Own w' base 5 (.slice q m d) (u8s zs') := by
  have c1 := conv_bytes (P := Tryd.prog) w Tryd.underlying22 Tryd.underlying5 Tryd.underlying9 hx hn hp
  have Hn := Lib.hid hn
  have Hp := Lib.hid hp
  have Hne := Lib.hid hne
  have Hzl := Lib.hid hzl
  have hq : ∀ k ∈ blk q, k < w.heap.size := by
    intro k hk
    cases q with
    | none => simp [blk] at hk
    | some a => simp [blk] at hk; subst hk; exact (hz.lt _ rfl).2
  have keep : ∀ {W : World}, Only (blk q) w W → Rd W p (u8s xs) := fun ho => hx.only ho Hne.out
  clear hn hp hne hzl
  go_enter Tryd.func36, Tryd.ntmps36
  go_wp2_with fail
  clear c1
  go_loopw [13] (fun i wr => ∃ (k : Nat) (ys : List UInt8), k ≤ m ∧ i = .int .i64 (k : Int) ∧ Hid (ys.length = m) ∧ Own wr base 5 (.slice q m d) (u8s ys) ∧ Only (blk q) w wr) (fun i _ => m - (intOf i).toNat)
  case atStart => exact ⟨0, zs, by omega, rfl, Hzl, hz, Only.refl _ _⟩
  case round =>
    obtain ⟨k, ys, hk, rfl, Hy, r, o⟩ := hrel
    by_cases hlt : k < m
    · obtain ⟨g, rfl, _, _⟩ := r.at (by omega)
      have hky : k < ys.length := by rw [Hy.out]; omega
      have hc := r.cellAt (u8s_get hky)
      obtain ⟨hf, r2⟩ := r.set hlt (.int .u8 ((ys[k] ^^^ 85).toNat : Int))
      have hx85 := u8_xor85 ys[k]
      go_wp2_with fail
      go_roundw
      case rel => exact ⟨k + 1, ys.set k (ys[k] ^^^ 85), by omega, by go_num, Lib.hid (by rw [List.length_set]; exact Hy.out), by rw [← u8s_set]; exact r2, o.trans (Only.setCell _ _ _) (by simp [blk])⟩
      case measure => simp [intOf]; omega
    · obtain rfl : k = m := by omega
      have c2 := conv_bytes (P := Tryd.prog) wr Tryd.underlying22 Tryd.underlying5 Tryd.underlying9 (keep o) Hn.out Hp.out
      have rn := Row.new wr 5 (u8s [7, 7, 7, 7, 7, 7, 7, 7])
      have on := Only.alloc wr (.cells #[.int .u8 7, .int .u8 7, .int .u8 7, .int .u8 7, .int .u8 7, .int .u8 7, .int .u8 7, .int .u8 7] 5)
      have hos := o.size
      have hons := on.size
      obtain ⟨p', cap', w1, hr, r1, o1, hpp⟩ := append_owned2 (P := Tryd.prog) (n := k) (m := 8) (c := 8) (bytes := 1) (q := some ⟨wr.heap.size, 0, none⟩) (news := u8s [7, 7, 7, 7, 7, 7, 7, 7]) (t := 22) (ty := 22) _ Tryd.underlying22 Tryd.infoU8' rfl (r.only0 on) rn.rd0 (by rfl) (by simp) (fun v hv => u8s_one hv) (by omega) (by omega) (by omega)
      rw [← u8s_append] at r1
      have Hr := Lib.hid hr
      have Hpp : Hid (p' = q ∧ cap' = d ∨ ∃ g, p' = some ⟨g, 0, none⟩ ∧ w.heap.size ≤ g) := hpp.imp id (fun ⟨⟨g, h1, h2⟩, _⟩ => ⟨g, h1, by omega⟩)
      have o2 : Only (blk q) w w1 := (o.trans0 on).trans o1 (fun i hi _ => hi)
      obtain ⟨ts, hts, rt⟩ : ∃ ts : List UInt8, ts.length = k ∧ Own w1 base 5 (.slice q k d) (u8s ts) := by
        rcases hpp with ⟨e1, e2⟩ | ⟨_, e2⟩
        · subst e1 e2
          cases p' with
          | none =>
            obtain ⟨_, h2, h3, _⟩ := r1.view
            have := (h3 rfl).1; omega
          | some a =>
            obtain ⟨g, e3, _, _⟩ := r1.at (by omega)
            obtain rfl := Option.some.inj e3
            have := r1.short (m := k) (by omega)
            rw [u8s_take] at this
            exact ⟨_, by rw [List.length_take, List.length_append, Hy.out]; omega, this⟩
        · exact ⟨ys, Hy.out, r.only0 (on.trans0 e2)⟩
      have Hts := Lib.hid hts
      have Hus : Hid ((ys ++ [7, 7, 7, 7, 7, 7, 7, 7]).length = k + 8) := by rw [List.length_append, Hy.out]; rfl
      clear hr hpp on rn hts hos hons
      go_wp2_with (first | (at_builtin; refine wpl_append (s := .tmp 29) (x := .tmp 30) rfl rfl rfl rfl Hr.out ?_))
      go_loopw [8] (fun i wr => ∃ (j : Nat) (us ts : List UInt8), j ≤ k + 8 ∧ i = .int .i64 (j : Int) ∧ Hid (us.length = k + 8) ∧ Own wr base 5 (.slice p' (k + 8) cap') (u8s us) ∧ Hid (ts.length = k) ∧ Own wr base 5 (.slice q k d) (u8s ts) ∧ Only (blk q) w wr) (fun i _ => k + 8 - (intOf i).toNat)
      case atStart => exact ⟨k, _, ts, by omega, rfl, Hus, r1, Hts, rt, o2⟩
      case round =>
        rename_i wz _ _
        obtain ⟨j, us, ts, hj, rfl, Hu, ru, Ht, rt, o3⟩ := hrel
        by_cases hlt : j < k + 8
        · obtain ⟨g', rfl, _, hg'⟩ := ru.at (by omega)
          have hju : j < us.length := by rw [Hu.out]; omega
          have hc := ru.cellAt (u8s_get hju)
          obtain ⟨hf, ru2⟩ := ru.set hlt (.int .u8 ((us[j] ^^^ 85).toNat : Int))
          have hx85 := u8_xor85 us[j]
          obtain ⟨ts2, hts2, rt2⟩ : ∃ ts2 : List UInt8, ts2.length = k ∧ Own (wr.setCell ⟨g', j, none⟩ (.int .u8 ((us[j] ^^^ 85).toNat : Int))) base 5 (.slice q k d) (u8s ts2) := by
            rcases Hpp.out with ⟨e1, e2⟩ | ⟨g, e1, e2⟩
            · subst e1 e2
              have := ru2.short (m := k) (by omega)
              have e3 : (u8s us).set j (.int .u8 ((us[j] ^^^ 85).toNat : Int)) = u8s (us.set j (us[j] ^^^ 85)) := u8s_set _ _ _
              rw [e3, u8s_take] at this
              exact ⟨_, by rw [List.length_take, List.length_set, Hu.out]; omega, this⟩
            · simp at e1; subst e1
              refine ⟨ts, Ht.out, rt.only (Only.setCell _ _ _) ?_⟩
              intro i hi
              cases q with
              | none => simp [Value.ownBlock] at hi
              | some a =>
                simp [Value.ownBlock] at hi; subst hi
                have := hq a.block (by simp [blk])
                simp; omega
          have ho4 : Only (blk q) w (wr.setCell ⟨g', j, none⟩ (.int .u8 ((us[j] ^^^ 85).toNat : Int))) := o3.trans (Only.setCell _ _ _) (by
            intro i hi hl
            simp at hi
            subst hi
            rcases Hpp.out with ⟨e1, _⟩ | ⟨g, e1, e2⟩
            · rw [← e1]; simp [blk]
            · have e3 := congrArg (fun x : Option Addr => x.map (·.block)) e1
              simp at e3
              omega)
          have Hts2 := Lib.hid hts2
          clear hts2 rt
          go_wp2_with fail
          go_roundw
          case rel => exact ⟨j + 1, us.set j (us[j] ^^^ 85), ts2, by omega, by go_num, Lib.hid (by rw [List.length_set]; exact Hu.out), by rw [← u8s_set]; exact ru2, Hts2, rt2, ho4⟩
          case measure => simp [intOf]; omega
        · obtain rfl : j = k + 8 := by omega
          have c3 := conv_bytes (P := Tryd.prog) wr Tryd.underlying22 Tryd.underlying5 Tryd.underlying9 (keep o3) Hn.out Hp.out
          go_wp2_with fail
          go_ret
          exact ⟨rfl, o3, ts, Ht.out, rt⟩
end Go.Proofs.YtfoplbolbjcggaaDoor
