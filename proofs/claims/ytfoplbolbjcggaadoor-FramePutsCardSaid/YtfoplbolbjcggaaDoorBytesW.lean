/- The walks of bollardnum.SameBytes, Bytes, Kept, Apart. -/
import Derived.Test.YtfoplbolbjcggaaDoorProg
import Derived.Test.YtfoplbolbjcggaaDoorRegions
import Derived.Test.YtfoplbolbjcggaaDoorOwn
set_option linter.unusedVariables false
set_option maxRecDepth 100000
namespace Go.Proofs.YtfoplbolbjcggaaDoor
open Go.RowKit

theorem Tryd.infoU8' : (Tryd.prog.info? 5).map (fun i => (i.zero, i.size, i.bytes)) = some (some (.int .u8 0), 1, 1) := by kernel_rfl

theorem sameBytes_any (p q : Option Addr) (xs ys : List UInt8) (n m c d : Nat) (b : Bool) (w : World) (hn : xs.length = n) (hm : ys.length = m) (hp : p = none → n = 0 ∧ c = 0) (hq : q = none → m = 0 ∧ d = 0) (hx : Rd w p (u8s xs)) (hy : Rd w q (u8s ys)) (hb : (xs == ys) = b) :
    Calls Tryd.prog 20 #[.slice p n c, .slice q m d] w fun e w' => e = .returned (.bool b) ∧ w = w' := by
  have c1 := conv_bytes (P := Tryd.prog) w Tryd.underlying22 Tryd.underlying5 Tryd.underlying9 hx hn hp
  have c2 := conv_bytes (P := Tryd.prog) w Tryd.underlying22 Tryd.underlying5 Tryd.underlying9 hy hm hq
  clear hn hm hp hq
  go_enter Tryd.func20, Tryd.ntmps20
  go_wp2_with fail
  go_ret
  exact ⟨rfl, rfl⟩

def marks : List UInt8 := [201, 202, 203, 204, 205, 206]

theorem bytes_any (p : Option Addr) (xs : List UInt8) (n c : Nat) (w : World) (hn : xs.length = n) (hb : n ≤ 140737488351232) (hp : p = none → n = 0 ∧ c = 0) (hx : Rd w p (u8s xs)) :
    Calls Tryd.prog 16 #[.slice p n c] w fun e w' => ∃ g, e = .returned (.slice (some ⟨g, 0, none⟩) n (n + 6)) ∧ w.heap.size ≤ g ∧ Row w' g 5 (u8s (xs ++ marks)) ∧ Only [] w w' := by
  have Hn := Lib.hid hn
  have Hp := Lib.hid hp
  clear hn hp
  go_enter Tryd.func16, Tryd.ntmps16
  go_wp2_with fail
  obtain ⟨g, w1, hr, hg, r1, o1⟩ := make_row (P := Tryd.prog) w Tryd.underlying22 Tryd.infoU8' rfl .i64 .i64 0 (n + 6) (by omega) (by omega) (by omega)
  have hr' : (Instr.makeSlice 22 (.int .i64 0) (.int .i64 ((n : Int) + 6))).run Tryd.prog w = .ok (.slice (some ⟨g, 0, none⟩) 0 (n + 6)) w1 := hr
  rw [hr']
  clear hr hr'
  obtain ⟨w2, hr, r2, o2⟩ := append_room (P := Tryd.prog) (n := 0) (m := n) (c := c) (cap := n + 6) w1 (t := 22) (ty := 22) Tryd.underlying22 Tryd.infoU8' r1 (by simp) (hx.only0 o1) (by rw [u8s_length, Hn.out]) Hp.out (fun v hv => u8s_one hv) (by omega) (by omega)
  have r3 := r2.only0 (Only.alloc w2 (.cells #[.int .u8 201, .int .u8 202, .int .u8 203, .int .u8 204, .int .u8 205, .int .u8 206] 5))
  have rn := Row.new w2 5 (u8s marks)
  have on := Only.alloc w2 (.cells #[.int .u8 201, .int .u8 202, .int .u8 203, .int .u8 204, .int .u8 205, .int .u8 206] 5)
  obtain ⟨w4, hr2, r4, o4⟩ := append_room (P := Tryd.prog) (n := 0 + n) (m := 6) (c := 6) (cap := n + 6) (p := some ⟨w2.heap.size, 0, none⟩) _ (t := 22) (ty := 22) Tryd.underlying22 Tryd.infoU8' r3 (by simp [u8s_length, Hn.out]) rn.rd0 (by rfl) (by simp) (fun v hv => u8s_one hv) (by omega) (by omega)
  rw [Nat.zero_add] at hr hr2 r4
  have Hr := Lib.hid hr
  have Hr2 := Lib.hid hr2
  clear hr hr2
  go_wp2_with (first | (at_builtin; refine wpl_append (s := .tmp 7) (x := .tmp 8) rfl rfl rfl rfl Hr.out ?_) | (at_builtin; refine wpl_append (s := .tmp 9) (x := .tmp 10) rfl rfl rfl rfl Hr2.out ?_))
  go_ret
  refine ⟨g, rfl, hg, ?_, ?_⟩
  · have : u8s (xs ++ marks) = List.take n (List.take 0 (List.replicate (n + 6) (Value.int .u8 0)) ++ u8s xs ++ List.drop n (List.replicate (n + 6) (Value.int .u8 0))) ++ u8s marks ++ List.drop (n + 6) (List.take 0 (List.replicate (n + 6) (Value.int .u8 0)) ++ u8s xs ++ List.drop n (List.replicate (n + 6) (Value.int .u8 0))) := by
      have hl : (u8s xs).length = n := by rw [u8s_length, Hn.out]
      rw [u8s_append]
      simp [hl]
    rw [this]; exact r4
  · exact ((o1.transN o2 (by simpa using hg)).trans0 on).transN o4 (by simpa using hg) |>.drop (by simp)

theorem marks_get : ∀ i, i < 6 → ((marks.getD i 0).toNat : Int) = 201 + (i : Int) := by decide +kernel

theorem kept_any (g : Nat) (p : Option Addr) (xs : List UInt8) (n c m : Nat) (w : World) (hn : xs.length = n) (hb : n ≤ 140737488351232) (hp : p = none → n = 0 ∧ c = 0) (hm : m ≤ n + 6) (hg : Row w g 5 (u8s (xs ++ marks))) (hx : Rd w p (u8s xs)) :
    Calls Tryd.prog 19 #[.slice (some ⟨g, 0, none⟩) m (n + 6), .slice p n c] w fun e w' => e = .returned (.bool true) ∧ Drew w w' := by
  have r1 : Rd w (some ⟨g, 0, none⟩) (u8s xs) := by
    have := hg.rd0.take n
    rw [u8s_take] at this
    rwa [List.take_left' hn] at this
  have c1 := fun k => conv_bytes (P := Tryd.prog) (c := n + 6) (w.drewN k) Tryd.underlying22 Tryd.underlying5 Tryd.underlying9 (r1.only0 (Only.drewN w k)) hn (by simp)
  have c2 := fun k => conv_bytes (P := Tryd.prog) (w.drewN k) Tryd.underlying22 Tryd.underlying5 Tryd.underlying9 (hx.only0 (Only.drewN w k)) hn hp
  have hcell : ∀ i, i < 6 → w.cell? ⟨g, n + i, none⟩ = some (.int .u8 (201 + (i : Int))) := by
    intro i hi
    have hlt : n + i < (xs ++ marks).length := by simp [marks, hn]; omega
    have := hg.bytes hlt
    rw [this]
    have e : (xs ++ marks)[n + i] = marks.getD i 0 := by
      rw [List.getElem_append_right (by omega)]
      simp [hn, List.getD_eq_getElem?_getD, show i < marks.length from hi]
    rw [e, marks_get i hi]
  have Hc := Lib.hid hcell
  have Hn := Lib.hid hn
  have Hp := Lib.hid hp
  have hd : decide ((n : Int) + 6 < (n : Int) + 6) = false := by simp
  clear hcell hn hp
  go_enter Tryd.func19, Tryd.ntmps19
  go_wp2_with fail
  go_quiet (fail)
  go_wp2_with fail
  go_loop [6] (fun i => ∃ k : Nat, k ≤ 6 ∧ i = .int .i64 (k : Int)) (fun i => 6 - (intOf i).toNat)
  case atStart => exact ⟨0, by omega, rfl⟩
  case round =>
    obtain ⟨k, hk, rfl⟩ := hrel
    by_cases hlt : k < 6
    · have hc := Hc.out k hlt
      go_wp2_with fail
      go_round
      case rel => exact ⟨k + 1, by omega, by go_num⟩
      case measure => simp [intOf]; omega
    · obtain rfl : k = 6 := by omega
      go_wp2_with fail
      go_ret
      exact ⟨rfl, Drew.N _ _⟩

theorem u8_xor85 (x : UInt8) : bits .xor .u8 (x.toNat : Int) 85 = ((x ^^^ 85).toNat : Int) := u8_xor_u8 x 85

theorem apart_any (p : Option Addr) (xs zs : List UInt8) (n c g m cap : Nat) (w : World) (hn : xs.length = n) (hp : p = none → n = 0 ∧ c = 0) (hx : Rd w p (u8s xs)) (hne : ∀ a, p = some a → a.block ≠ g)
    (hz : Row w g 5 (u8s zs)) (hcap : zs.length = cap) (hm : m ≤ cap) (hb : cap ≤ 140737488351300) :
    Calls Tryd.prog 36 #[.slice p n c, .slice (some ⟨g, 0, none⟩) m cap] w fun e w' => e = .returned (.bool true) ∧ Only [g] w w' ∧ ∃ zs' : List UInt8, zs'.length = cap ∧ Row w' g 5 (u8s zs') := by
  have c1 := conv_bytes (P := Tryd.prog) w Tryd.underlying22 Tryd.underlying5 Tryd.underlying9 hx hn hp
  have Hn := Lib.hid hn
  have Hp := Lib.hid hp
  have Hne := Lib.hid hne
  have Hcap := Lib.hid hcap
  have hgl := hz.lt
  have keep : ∀ {W : World}, Only [g] w W → Rd W p (u8s xs) := fun ho => hx.only ho (fun a ha => by simpa using Hne.out a ha)
  clear hn hp hne hcap
  go_enter Tryd.func36, Tryd.ntmps36
  go_wp2_with fail
  clear c1
  go_loopw [13] (fun i wr => ∃ (k : Nat) (ys : List UInt8), k ≤ m ∧ i = .int .i64 (k : Int) ∧ Hid (ys.length = cap) ∧ Row wr g 5 (u8s ys) ∧ Only [g] w wr) (fun i _ => m - (intOf i).toNat)
  case atStart => exact ⟨0, zs, by omega, rfl, Hcap, hz, Only.refl _ _⟩
  case round =>
    obtain ⟨k, ys, hk, rfl, Hy, r, o⟩ := hrel
    by_cases hlt : k < m
    · have hky : k < ys.length := by rw [Hy.out]; omega
      have hc := r.bytes hky
      have hf := r.free k
      have hx85 := u8_xor85 ys[k]
      go_wp2_with fail
      go_roundw
      case rel => exact ⟨k + 1, ys.set k (ys[k] ^^^ 85), by omega, by go_num, Lib.hid (by rw [List.length_set]; exact Hy.out), by rw [← u8s_set]; exact r.setCell k _, o.trans (Only.setCell _ _ _) (by simp)⟩
      case measure => simp [intOf]; omega
    · obtain rfl : k = m := by omega
      have c2 := conv_bytes (P := Tryd.prog) wr Tryd.underlying22 Tryd.underlying5 Tryd.underlying9 (keep o) Hn.out Hp.out
      -- the append
      have ra := r.only0 (Only.alloc wr (.cells #[.int .u8 7, .int .u8 7, .int .u8 7, .int .u8 7, .int .u8 7, .int .u8 7, .int .u8 7, .int .u8 7] 5))
      have rn := Row.new wr 5 (u8s [7, 7, 7, 7, 7, 7, 7, 7])
      have on := Only.alloc wr (.cells #[.int .u8 7, .int .u8 7, .int .u8 7, .int .u8 7, .int .u8 7, .int .u8 7, .int .u8 7, .int .u8 7] 5)
      have key : ∃ g' cap' w1, (Builtin.append_ #[22, 22] 22 #[.slice (some ⟨g, 0, none⟩) k cap, .slice (some ⟨wr.heap.size, 0, none⟩) 8 8]).run Tryd.prog (wr.alloc (.cells #[.int .u8 7, .int .u8 7, .int .u8 7, .int .u8 7, .int .u8 7, .int .u8 7, .int .u8 7, .int .u8 7] 5)) = .ok (.slice (some ⟨g', 0, none⟩) (k + 8) cap') w1 ∧
          (∃ us : List UInt8, us.length = cap' ∧ Row w1 g' 5 (u8s us)) ∧ k + 8 ≤ cap' ∧ (g' = g ∧ cap' = cap ∨ w.heap.size ≤ g') ∧ Only [g] wr w1 ∧ (∃ us : List UInt8, us.length = cap ∧ Row w1 g 5 (u8s us)) := by
        by_cases hfit : k + 8 ≤ cap
        · obtain ⟨w1, h1, h2, h3⟩ := append_room (P := Tryd.prog) (n := k) (m := 8) (c := 8) (cap := cap) (p := some ⟨wr.heap.size, 0, none⟩) _ (t := 22) (ty := 22) Tryd.underlying22 Tryd.infoU8' ra (by rw [u8s_length, Hy.out]) rn.rd0 (by rfl) (by simp) (fun v hv => u8s_one hv) hfit (by omega)
          rw [u8s_take, u8s_drop, ← u8s_append, ← u8s_append] at h2
          have hl : (ys.take k ++ [7, 7, 7, 7, 7, 7, 7, 7] ++ ys.drop (k + 8)).length = cap := by
            have := Hy.out
            simp only [List.length_append, List.length_take, List.length_drop, this]
            simp; omega
          exact ⟨g, cap, w1, h1, ⟨_, hl, h2⟩, hfit, .inl ⟨rfl, rfl⟩, (on.mono (by simp)).trans h3 (by simp), ⟨_, hl, h2⟩⟩
        · have rs : Rd (wr.alloc (.cells #[.int .u8 7, .int .u8 7, .int .u8 7, .int .u8 7, .int .u8 7, .int .u8 7, .int .u8 7, .int .u8 7] 5)) (some ⟨g, 0, none⟩) (u8s (ys.take k)) := by
            have := ra.rd0.take k
            rwa [u8s_take] at this
          obtain ⟨g', cap', j, w1, h1, h2, h3, h4, h5, h6⟩ := append_new (P := Tryd.prog) (n := k) (m := 8) (c := 8) (cap := cap) (q := some ⟨wr.heap.size, 0, none⟩) _ (t := 22) (ty := 22) Tryd.underlying22 Tryd.infoU8' rfl rs (by rw [u8s_length, List.length_take, Hy.out]; omega) (by simp) rn.rd0 (by rfl) (by simp) (by omega) hm (by omega) (by omega)
          have h3' : Row w1 g' 5 (u8s (ys.take k ++ [7, 7, 7, 7, 7, 7, 7, 7] ++ List.replicate j 0)) := by
            rw [u8s_append, u8s_append, u8s_replicate]; exact h3
          have hs := on.size
          have ho := o.size
          exact ⟨g', cap', w1, h1, ⟨_, by
            have := Hy.out
            simp only [List.length_append, List.length_take, List.length_replicate, this]
            simp; omega, h3'⟩, by omega, .inr (by omega), (on.trans0 h6).mono (by simp), ⟨ys, Hy.out, ra.only0 h6⟩⟩
      obtain ⟨g', cap', w1, hr, ⟨us, hu, ru⟩, hfit, hgg, o1, ⟨ts, ht, rt⟩⟩ := key
      have Hr := Lib.hid hr
      have Hu := Lib.hid hu
      have Ht := Lib.hid ht
      have o2 : Only [g] w w1 := o.trans o1 (by simp)
      clear hr hu ht on rn ra
      go_wp2_with (first | (at_builtin; refine wpl_append (s := .tmp 29) (x := .tmp 30) rfl rfl rfl rfl Hr.out ?_))
      have Hgg := Lib.hid hgg
      clear hgg
      obtain ⟨wq, hwq⟩ : ∃ wq : World, wq = wr := ⟨_, rfl⟩
      clear hwq
      go_loopw [8] (fun i wr => ∃ (j : Nat) (us ts : List UInt8), j ≤ k + 8 ∧ i = .int .i64 (j : Int) ∧ Hid (us.length = cap') ∧ Row wr g' 5 (u8s us) ∧ Hid (ts.length = cap) ∧ Row wr g 5 (u8s ts) ∧ Only [g] w wr) (fun i _ => k + 8 - (intOf i).toNat)
      case atStart => exact ⟨k, us, ts, by omega, rfl, Hu, ru, Ht, rt, o2⟩
      case round =>
        rename_i wz _ _
        obtain ⟨j, us, ts, hj, rfl, Hu, ru, Ht, rt, o3⟩ := hrel
        by_cases hlt : j < k + 8
        · have hju : j < us.length := by rw [Hu.out]; omega
          have hc := ru.bytes hju
          have hf := ru.free j
          have hx85 := u8_xor85 us[j]
          go_wp2_with fail
          go_roundw
          case rel =>
            refine ⟨j + 1, us.set j (us[j] ^^^ 85), if g' = g then us.set j (us[j] ^^^ 85) else ts, by omega, by go_num, Lib.hid (by rw [List.length_set]; exact Hu.out), by rw [← u8s_set]; exact ru.setCell j _, ?_, ?_, ?_⟩
            · rcases Hgg.out with ⟨e1, e2⟩ | h
              · rw [if_pos e1]; exact Lib.hid (by rw [List.length_set, Hu.out, e2])
              · rw [if_neg (by omega)]; exact Ht
            · rcases Hgg.out with ⟨e1, e2⟩ | h
              · rw [if_pos e1]; subst e1; rw [← u8s_set]; exact ru.setCell j _
              · rw [if_neg (by omega)]; exact rt.only (Only.setCell _ _ _) (by simp; omega)
            · exact o3.trans (Only.setCell _ _ _) (by
                intro i hi hl
                simp at hi ⊢
                rcases Hgg.out with ⟨e1, e2⟩ | h
                · rw [hi, e1]
                · omega)
          case measure => simp [intOf]; omega
        · obtain rfl : j = k + 8 := by omega
          have c3 := conv_bytes (P := Tryd.prog) wr Tryd.underlying22 Tryd.underlying5 Tryd.underlying9 (keep o3) Hn.out Hp.out
          go_wp2_with fail
          go_ret
          exact ⟨rfl, o3, ts, Ht.out, rt⟩
end Go.Proofs.YtfoplbolbjcggaaDoor
