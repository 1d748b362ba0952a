/- The walk of bollardlaw02.RsFew. -/
import Derived.Test.YtlgcclhepegggaaDoorRsCopiedW
import Derived.Test.YtlgcclhepegggaaDoorRsGoodW
import Derived.Test.YtlgcclhepegggaaDoorRsAliveW
import Derived.Test.YtlgcclhepegggaaDoorRegion5
set_option linter.unusedVariables false
set_option maxRecDepth 100000
namespace Go.Proofs.YtlgcclhepegggaaDoor
open Go.RowKit

def ShN (base : Nat) : Value → World → Prop := fun v w => ∃ p, v = .slice p 0 0 ∧ OwnK w base 80 2 (.slice p 0 0) 0 (shFlat [])
theorem ShN.stable (base : Nat) : Stable (Only []) (ShN base) := fun _ _ _ ⟨p, e, h⟩ ho => ⟨p, e, h.only0 ho⟩
def ShO (base n : Nat) (L : List Sh) : Value → World → Prop := fun v w => ∃ p c, v = .slice p n c ∧ OwnK w base 80 2 (.slice p n c) n (shFlat L)
theorem ShO.stable (base n : Nat) (L : List Sh) : Stable (Only []) (ShO base n L) := fun _ _ _ ⟨p, c, e, h⟩ ho => ⟨p, c, e, h.only0 ho⟩
/-- a slice that reads so in every world behind -/
def RdP (w0 : World) (n c : Nat) (vs : List Value) : Value → World → Prop := fun v _ => ∃ q, v = .slice q n c ∧ q ≠ none ∧ ∀ w, Only [] w0 w → Rd w q vs
theorem RdP.any (w0 : World) (n c : Nat) (vs : List Value) {R : World → World → Prop} : Stable R (RdP w0 n c vs) := fun _ _ _ h _ => h
theorem RdP.stable (w0 : World) (n c : Nat) (vs : List Value) : Stable (Only []) (RdP w0 n c vs) := RdP.any w0 n c vs
def Sh1 (base : Nat) (n : Int) (q : Option Addr) (l c : Nat) : Value → World → Prop := fun v w => ∃ h, v = .slice (some ⟨h, 0, none⟩) 1 1 ∧ Row w h 80 [.int .i64 n, .slice q l c]
theorem Sh1.stable (base : Nat) (n : Int) (q : Option Addr) (l c : Nat) : Stable (Only []) (Sh1 base n q l c) := fun _ _ _ ⟨h, e, r⟩ ho => ⟨h, e, r.only0 ho⟩
theorem Rd.drop {w : World} {b off : Nat} {vs : List Value} (h : Rd w (some ⟨b, off, none⟩) vs) (k : Nat) : Rd w (some ⟨b, off + k, none⟩) (vs.drop k) := by
  rcases h with rfl | ⟨b', off', e, h⟩
  · exact .inl (by simp)
  · obtain ⟨rfl, rfl⟩ : b = b' ∧ off = off' := by simpa using e
    exact .inr ⟨b, off + k, rfl, fun j v hv => by rw [List.getElem?_drop] at hv; rw [Nat.add_assoc]; exact h _ v hv⟩

theorem set_same {α : Type} {l : List α} {i : Nat} {x : α} (h : l[i]? = some x) : l.set i x = l := by
  apply List.ext_getElem?
  intro j
  by_cases e : j = i
  · subst e; rw [List.getElem?_set_self (List.getElem?_eq_some_iff.1 h).1, h]
  · rw [List.getElem?_set_ne (fun e2 => e e2.symm)]

set_option maxHeartbeats 16000000 in
theorem rsFew_any (k m n num drop : Int) (p : Option Addr) (L : List Sh) (nL cL : Nat) (w0 : World) (aD : Addr) (hk : -9223372036854775808 ≤ k ∧ k ≤ 9223372036854775807) (hm : -9223372036854775808 ≤ m ∧ m ≤ 9223372036854775807) (hn : -9223372036854775808 ≤ n ∧ n ≤ 9223372036854775807)
    (hdr : -9223372036854775808 ≤ drop ∧ drop ≤ 9223372036854775807) (hnL : L.length = nL) (hnb : nL ≤ cL) (hcb : cL ≤ 140737488351232) (hL : Shards w0 p L) (eD : ErrAt w0 1 aD) :
    Calls Tryd.prog 9 #[.agg #[.int .i64 k, .int .i64 m, .int .i64 n, .int .i64 num, .slice p nL cL], .int .i64 drop] w0 fun e w' => e = .returned (.bool true) ∧ Only [] w0 w' := by
  have hal := fun (w : World) (ho : Only [] w0 w) => alive02_any w aD (eD.only0 ho)
  have HnL := Lib.hid hnL
  have HL := Lib.hid hL
  have HeD := Lib.hid eD
  have Hal := Lib.hid hal
  clear eD hL hal hnL
  obtain ⟨w1, hw1⟩ : ∃ w1, w1 = w0.alloc (.cells #[.int .i64 k, .int .i64 m, .int .i64 n, .int .i64 num, .slice p nL cL] 77) := ⟨_, rfl⟩
  have o1 : Only [] w0 w1 := by rw [hw1]; exact Only.alloc _ _
  have r1 : Row w1 w0.heap.size 77 [.int .i64 k, .int .i64 m, .int .i64 n, .int .i64 num, .slice p nL cL] := by rw [hw1]; exact Row.newOf _ _ _ _ rfl
  have HO1 := Lib.hid o1
  have HR1 := Lib.hid r1
  clear o1 r1
  go_enter Tryd.func9, Tryd.ntmps9
  go_wp2_with fail
  rw [← hw1]
  clear hw1
  (with_reducible refine (Hal.out w1 HO1.out).mono ?_)
  rintro e w2 ⟨rfl, o2⟩
  have HO2 := Lib.hid (HO1.out.trans0 o2)
  have r2 := HR1.out.only0 o2
  generalize hB : w0.heap.size = B at r2
  have hc0 := r2.cell (i := 0) rfl
  have hc1 := r2.cell (i := 1) rfl
  have hc2 := r2.cell (i := 2) rfl
  have hc4 := r2.cell (i := 4) rfl
  have HR2 := Lib.hid r2
  have HBw : Hid (w0.heap.size ≤ B) := Lib.hid (by omega)
  clear o2 HR1 hB Hal r2
  by_cases hbad : legal k m = false ∨ n < 0 ∨ 1024 < n
  · have hrf := refSize_bad k m n hbad hk hm w2
    obtain ⟨x, hx, hx3⟩ : ∃ x : Int, (if legal k m = false then (1 : Int) else if n < 0 then 2 else 11) = x ∧ (x = 1 ∨ x = 2 ∨ x = 11) := ⟨_, rfl, by
      split
      · exact .inl rfl
      · split
        · exact .inr (.inl rfl)
        · exact .inr (.inr rfl)⟩
    rw [hx] at hrf
    clear hbad hx
    rcases hx3 with rfl | rfl | rfl
    all_goals
      go_wp2_with fail
      (with_reducible refine (hrf).mono ?_)
      rintro e w' ⟨rfl, rfl⟩
      go_wp2_with fail
      go_ret
      exact ⟨rfl, HO2.out⟩
  have hl : legal k m = true := by
    cases h : legal k m with
    | true => rfl
    | false => exact absurd (.inl h) hbad
  have hn0 : 0 ≤ n ∧ n ≤ 1024 := by
    refine ⟨?_, ?_⟩
    · rcases Int.lt_or_le n 0 with h | h
      · exact absurd (.inr (.inl h)) hbad
      · exact h
    · rcases Int.lt_or_le 1024 n with h | h
      · exact absurd (.inr (.inr h)) hbad
      · exact h
  clear hbad
  have Hl := Lib.hid hl
  obtain ⟨l1, l2, l3⟩ := legal_iff.1 hl
  clear hl
  obtain ⟨k, rfl⟩ : ∃ t : Nat, k = t := ⟨k.toNat, by omega⟩
  obtain ⟨m, rfl⟩ : ∃ t : Nat, m = t := ⟨m.toNat, by omega⟩
  obtain ⟨n, rfl⟩ : ∃ t : Nat, n = t := ⟨n.toNat, by omega⟩
  have hrf := refSize_ok k m n Hl.out (by omega) w2
  have hszl := shardLen_le (k := k) (show n ≤ 1024 by omega)
  obtain ⟨size, hsize⟩ : ∃ s, s = shardLen k n := ⟨_, rfl⟩
  rw [← hsize] at hrf hszl
  have Hsize := Lib.hid hsize
  clear hsize
  obtain ⟨b, hb⟩ : ∃ b : Bool, b = true ↔ goodL k m size L := by
    by_cases h : goodL k m size L
    · exact ⟨true, by simp [h]⟩
    · exact ⟨false, by simp [h]⟩
  have hgd := refGood_any k m size nL cL p L b w2 hb (by omega) (by omega) hszl HnL.out (by omega) (HL.out.only0 HO2.out)
  cases b with
  | false =>
    clear hb
    go_wp2_with fail
    (with_reducible refine (hrf).mono ?_)
    rintro e w' ⟨rfl, rfl⟩
    go_wp2_with fail
    (with_reducible refine (hgd).mono ?_)
    rintro e w3 ⟨rfl, o3⟩
    have HO3 := Lib.hid (HO2.out.trans0 o3)
    clear o3
    go_wp2_with fail
    go_ret
    exact ⟨rfl, HO3.out⟩
  | true =>
  have hgood := hb.1 rfl
  have hgk := hgood.1
  rw [HnL.out] at hgk
  subst hgk
  have HGood := Lib.hid hgood
  clear hb hgood
  by_cases hk2 : nL < 2
  · have hk2i : (nL : Int) < 2 := by omega
    go_wp2_with fail
    (with_reducible refine (hrf).mono ?_)
    rintro e w' ⟨rfl, rfl⟩
    go_wp2_with fail
    (with_reducible refine (hgd).mono ?_)
    rintro e w3 ⟨rfl, o3⟩
    have HO3 := Lib.hid (HO2.out.trans0 o3)
    have hc0 := o3.cell hc0 (by simp)
    clear o3
    go_wp2_with fail
    go_ret
    exact ⟨rfl, HO3.out⟩
  have hk2i : ¬ (nL : Int) < 2 := by omega
  obtain ⟨d, hdl, hdv⟩ : ∃ d : Nat, d < nL ∧ (wrap64 (drop.tmod (nL : Int) + (nL : Int))).tmod (nL : Int) = (d : Int) := by
    have b1 := Int.tmod_lt_of_pos drop (show 0 < (nL : Int) by omega)
    have b2 := Int.tmod_lt_of_pos (-drop) (show 0 < (nL : Int) by omega)
    rw [Int.neg_tmod] at b2
    have e : wrap64 (drop.tmod (nL : Int) + (nL : Int)) = drop.tmod (nL : Int) + (nL : Int) := IntWalk.wrap64_in _ (by omega)
    rw [e]
    have c1 := Int.tmod_nonneg (nL : Int) (show 0 ≤ drop.tmod (nL : Int) + (nL : Int) by omega)
    have c2 := Int.tmod_lt_of_pos (drop.tmod (nL : Int) + (nL : Int)) (show 0 < (nL : Int) by omega)
    exact ⟨((drop.tmod (nL : Int) + (nL : Int)).tmod (nL : Int)).toNat, by omega, by omega⟩
  obtain ⟨bL, oL, rfl⟩ : ∃ b o, p = some ⟨b, o, none⟩ := by
    obtain ⟨o, ho⟩ : ∃ o, L[0]? = some o := ⟨_, List.getElem?_eq_getElem (by rw [HnL.out]; omega)⟩
    obtain ⟨b, off, e, -⟩ := HL.out 0 o ho
    exact ⟨b, off, e⟩
  go_wp2_with fail
  (with_reducible refine (hrf).mono ?_)
  rintro e w' ⟨rfl, rfl⟩
  go_wp2_with fail
  (with_reducible refine (hgd).mono ?_)
  rintro e w3 ⟨rfl, o3⟩
  have HO3 := Lib.hid (HO2.out.trans0 o3)
  have HR3 := Lib.hid (HR2.out.only0 o3)
  clear hc0 hc1 hc2 hc4 o3 hgd hrf HR2
  have hc0 := HR3.out.cell (i := 0) rfl
  go_wp2_with fail
  go_quiet (fail)
  have HOq : Hid (Only [] w0 (w3.drewN nq)) := Lib.hid (HO3.out.trans0 (Only.drewN _ _))
  have HRq := Lib.hid (HR3.out.only0 (Only.drewN w3 nq))
  generalize w3.drewN nq = wr at *
  clear HO3 HR3 hc0 hdv
  have hc4 := HRq.out.cell (i := 4) rfl
  have HLr := Lib.hid (HL.out.only0 HOq.out)
  have HLt : Hid (∀ w, Only [] wr w → Rd w (some ⟨bL, oL, none⟩) (shFlat (L.take d))) := Lib.hid fun w ho => by
    have := (HLr.out.only0 ho).rd.take (d * 2)
    rwa [shFlat_take] at this
  have HSl : Hid (∀ a, RdP wr (nL - (d + 1)) (cL - (d + 1)) (shFlat (L.drop (d + 1))) (.slice (if cL = d + 1 then some ⟨bL, oL, none⟩ else some ⟨bL, oL + (d + 1) * 2, none⟩) (nL - (d + 1)) (cL - (d + 1))) a) := Lib.hid fun _ => ⟨_, rfl, by split <;> simp, fun w ho => by
    by_cases e : cL = d + 1
    · rw [List.drop_of_length_le (by rw [HnL.out]; omega)]
      exact Rd.nil _ _
    · rw [if_neg e]
      have := (HLr.out.only0 ho).rd.drop ((d + 1) * 2)
      rwa [shFlat_drop] at this⟩
  have HLl := Lib.hid HnL.out
  go_wp2_with fail
  have hRr : ∀ a, Below wr.heap.size a a := fun a => Below.refl _ _
  have hRt : ∀ a b e, Below wr.heap.size a b → Below wr.heap.size b e → Below wr.heap.size a e := fun a b e h h2 => h.trans h2
  have hRd : Below wr.heap.size wr wr.drew := (Only.drew _).below
  have hRs : ∀ j w, DirtR [(11, Below wr.heap.size)] j w w := DirtR.refl (by intro x hx w; obtain rfl := List.mem_singleton.1 hx; exact Below.refl _ _)
  -- <<R7
  refine wp_region_rg5 (Below wr.heap.size) (DirtR [(11, Below wr.heap.size)]) [[], [(2, none)], [(57, some 0)], [(1, none)], [(58, some 1), (59, some 0)], [(56, some 4), (60, some 0)], [(2, none)], [(62, some 0)], [(1, none)], [(64, some 0)], [(63, some 2), (65, some 0)], [(61, some 5), (66, some 0)], [(67, some 0)]] [(7, 0)] [none, none, none, none, none, none, none, some 7, none, none, none, none, none, none, none, none, none, none, none, none, none, none, none, none, none, none, none, none, none, none, none, none, none, none, none, none, none, none, none, none, none, none, none, none, none, none, none, none, none, none, none, none, none, none, none, none, some 56, some 57, some 58, some 59, some 60, some 61, some 62, some 63, some 64, some 65, some 66, some 67, none, none, none, none, none, none, none, none, none, none, none, none, none, none, none, none, none, none, none, none, none, none, none, none, none, none, none, none, none, none, none, none, none, none, none, none, none, none, none, none, none, none, none, none, none, none, none, none, none, none, none, none, none, none, none, none, none, none, none, none, none, none, none, none, none, none, none, none, none, none, none, none] (by kernel_rfl) rfl (by kernel_rfl) hRr hRt hRs hRd (by kernel_rfl) ?_
  -- 0: s56 := buildSlice 75 0 #[]
  refine ⟨ShN wr.heap.size, stands5_of (ShN.stable _) (by intro x hx hk; obtain rfl := List.mem_singleton.1 hx; exact Bool.noConfusion (hk.symm.trans (by kernel_rfl : _ = true))), fun a w hR hf => ?_, ?_⟩
  · refine rg_plain rfl fun K hK => ?_
    go_simp
    exact hK _ _ ⟨_, rfl, OwnK.new (n := 0) [] hR.size rfl (by omega)⟩ ⟨(Only.alloc w _).below.mono hR.size, Only.alloc w _⟩
  -- 1: s57 := fieldAddr 77 t2 4
  apply rgu_ev
  · intro a w hR hf
    obtain ⟨e2, -⟩ := hf
    replace e2 : a.tmps.getD 2 undef = _ := e2
    refine rg_plain rfl fun K hK => ?_
    go_simp
    exact hK _ _ rfl ⟨hRr _, hRs _ _⟩
  -- 2: s58 := load 75 t57
  apply rgu_ev
  · intro a w hR hf
    obtain ⟨e57, -⟩ := hf
    replace e57 : a.tmps.getD 57 undef = _ := e57
    refine rg_plain rfl fun K hK => ?_
    have h2 := (Only.ofBelow hR).cell hc4 (by simp)
    go_simp
    exact hK _ _ rfl ⟨hRr _, hRs _ _⟩
  -- 3: s59 := move t1
  apply rgu_ev
  · intro a w hR hf
    obtain ⟨e1, -⟩ := hf
    replace e1 : a.tmps.getD 1 undef = _ := e1
    refine rg_plain rfl fun K hK => ?_
    go_simp
    exact hK _ _ rfl ⟨hRr _, hRs _ _⟩
  -- 4: s60 := slice 75 t58 none (some t59) none
  apply rgu_ev
  · intro a w hR hf
    obtain ⟨e58, e59, -⟩ := hf
    replace e58 : a.tmps.getD 58 undef = _ := e58
    replace e59 : a.tmps.getD 59 undef = _ := e59
    refine rg_plain rfl fun K hK => ?_
    have hd1 : (d : Int) ≤ (cL : Int) := by omega
    go_simp
    exact hK _ _ rfl ⟨hRr _, hRs _ _⟩
  -- 5: s61 := call { builtin append, args := #[t56, t60], #[75, 75] }
  refine ⟨ShO wr.heap.size d (L.take d), stands5_of (ShO.stable _ _ _) (by intro x hx hk; obtain rfl := List.mem_singleton.1 hx; exact Bool.noConfusion (hk.symm.trans (by kernel_rfl : _ = true))), fun a w hR hf => ?_, ?_⟩
  · obtain ⟨e56, e60, -⟩ := hf
    replace e56 : ShN wr.heap.size (a.tmps.getD 56 undef) w := e56
    replace e60 : a.tmps.getD 60 undef = _ := e60
    refine rg_plain rfl fun K hK => ?_
    obtain ⟨q56, e56, o56⟩ := e56
    obtain ⟨p', c', w3, hr, o3, h3⟩ := sh_fresh w (c := cL) (m := d) (q := some ⟨bL, oL, none⟩) (rs := L.take d) o56 hR.size (HLt.out w (Only.ofBelow hR)) (by rw [List.length_take, HLl.out]; omega) (by simp) (by omega)
    refine rg_append (s := .tmp 56) (x := .tmp 60) rfl e56 e60 hr ?_
    exact hK _ _ ⟨p', c', rfl, o3⟩ ⟨h3.below.mono hR.size, h3⟩
  -- 6: s62 := fieldAddr 77 t2 4
  apply rgu_ev
  · intro a w hR hf
    obtain ⟨e2, -⟩ := hf
    replace e2 : a.tmps.getD 2 undef = _ := e2
    refine rg_plain rfl fun K hK => ?_
    go_simp
    exact hK _ _ rfl ⟨hRr _, hRs _ _⟩
  -- 7: s63 := load 75 t62
  apply rgu_ev
  · intro a w hR hf
    obtain ⟨e62, -⟩ := hf
    replace e62 : a.tmps.getD 62 undef = _ := e62
    refine rg_plain rfl fun K hK => ?_
    have h7 := (Only.ofBelow hR).cell hc4 (by simp)
    go_simp
    exact hK _ _ rfl ⟨hRr _, hRs _ _⟩
  -- 8: s64 := move t1
  apply rgu_ev
  · intro a w hR hf
    obtain ⟨e1, -⟩ := hf
    replace e1 : a.tmps.getD 1 undef = _ := e1
    refine rg_plain rfl fun K hK => ?_
    go_simp
    exact hK _ _ rfl ⟨hRr _, hRs _ _⟩
  -- 9: s65 := binOp Binadd 3 t64 (const (1:i64)) 3
  apply rgu_ev
  · intro a w hR hf
    obtain ⟨e64, -⟩ := hf
    replace e64 : a.tmps.getD 64 undef = _ := e64
    refine rg_plain rfl fun K hK => ?_
    have hw := IntWalk.i64_in ((d : Int) + 1) (by omega)
    go_simp
    exact hK _ _ rfl ⟨hRr _, hRs _ _⟩
  -- 10: s66 := slice 75 t63 (some t65) none none
  refine ⟨RdP wr (nL - (d + 1)) (cL - (d + 1)) (shFlat (L.drop (d + 1))), stands5_of (RdP.stable _ _ _ _) (by intro x hx hk; exact RdP.any _ _ _ _), fun a w hR hf => ?_, ?_⟩
  · obtain ⟨e63, e65, -⟩ := hf
    replace e63 : a.tmps.getD 63 undef = _ := e63
    replace e65 : a.tmps.getD 65 undef = _ := e65
    refine rg_plain rfl fun K hK => ?_
    have hd1 : (d : Int) + 1 ≤ (nL : Int) := by omega
    go_simp
    exact hK _ _ (HSl.out w) ⟨hRr _, hRs _ _⟩
  -- 11: s67 := call { builtin append, args := #[t61, t66], #[75, 75] }
  refine ⟨ShO wr.heap.size (d + (nL - (d + 1))) (L.take d ++ L.drop (d + 1)), stands5_of (ShO.stable _ _ _) (by intro x hx hk; obtain rfl := List.mem_singleton.1 hx; exact Bool.noConfusion (hk.symm.trans (by kernel_rfl : _ = true))), fun a w hR hf => ?_, ?_⟩
  · obtain ⟨e61, e66, -⟩ := hf
    replace e61 : ShO wr.heap.size d (L.take d) (a.tmps.getD 61 undef) w := e61
    replace e66 : RdP wr (nL - (d + 1)) (cL - (d + 1)) (shFlat (L.drop (d + 1))) (a.tmps.getD 66 undef) w := e66
    refine rg_plain rfl fun K hK => ?_
    obtain ⟨q61, c61, e61, o61⟩ := e61
    obtain ⟨q66, e66, h66, r66⟩ := e66
    obtain ⟨p', c', w3, hr, o3, h3, -⟩ := sh_append_at w (c := cL - (d + 1)) (m := nL - (d + 1)) (q := q66) (rs := L.drop (d + 1)) o61 hR.size (r66 w (Only.ofBelow hR)) (by rw [List.length_drop, HLl.out]) (fun e => absurd e h66) (by omega)
    have hbel : Below wr.heap.size w w3 := h3.belowOf hR.size (fun x hx => (ownKblk o61 x hx).1)
    refine rg_append (s := .tmp 61) (x := .tmp 66) rfl e61 e66 hr ?_
    exact hK _ _ ⟨p', c', rfl, o3⟩ ⟨hbel, hbel⟩
  -- 12: s7 := assign t67
  refine ⟨ShO wr.heap.size (d + (nL - (d + 1))) (L.take d ++ L.drop (d + 1)), stands5_of (ShO.stable _ _ _) (by intro x hx hk; obtain rfl := List.mem_singleton.1 hx; exact Bool.noConfusion (hk.symm.trans (by kernel_rfl : _ = true))), fun a w hR hf => ?_, ?_⟩
  · obtain ⟨e67, -⟩ := hf
    replace e67 : ShO wr.heap.size (d + (nL - (d + 1))) (L.take d ++ L.drop (d + 1)) (a.tmps.getD 67 undef) w := e67
    refine rg_plain rfl fun K hK => ?_
    generalize hv67 : a.tmps.getD 67 undef = v67 at e67
    go_simp
    exact hK _ _ e67 ⟨hRr _, hRs _ _⟩
  intro f7 w7 hR7 hf
  dsimp only [mergeT]
  obtain ⟨e7, -⟩ := hf
  replace e7 : ShO wr.heap.size (d + (nL - (d + 1))) (L.take d ++ L.drop (d + 1)) (f7 7) w7 := e7
  -- R7>>
  obtain ⟨q7, c7, e7, o7⟩ := e7
  rw [e7]
  have hO7 := Only.ofBelow hR7
  obtain ⟨n7, hn7⟩ : ∃ n7, n7 = d + (nL - (d + 1)) := ⟨_, rfl⟩
  obtain ⟨few, hfew⟩ : ∃ few, few = L.take d ++ L.drop (d + 1) := ⟨_, rfl⟩
  rw [← hn7, ← hfew] at o7
  rw [← hn7]
  have hf7l : few.length = n7 := by rw [hfew, List.length_append, List.length_take, List.length_drop, HnL.out]; omega
  have hn71 : n7 + 1 = nL := by omega
  have hn70 : 0 < n7 := by omega
  obtain ⟨g7, rest7, rfl, hg7, r7⟩ := o7.row hn70
  have v7 := o7.view
  have Hf7l := Lib.hid hf7l
  have HF7 : Hid (∀ w, Only [] w7 w → Rd w (some ⟨g7, 0, none⟩) (shFlat few)) := Lib.hid fun w ho => v7.2.2.1.only0 ho
  have Hc7 := Lib.hid v7.2.2.2.2.1
  obtain ⟨f0, hf0⟩ : ∃ o, few[0]? = some o := ⟨_, List.getElem?_eq_getElem (by rw [hf7l]; exact hn70)⟩
  have Hf0 := Lib.hid hf0
  have Hfew := Lib.hid hfew
  have HOw7 : Hid (Only [] w0 w7) := Lib.hid (HOq.out.trans0 hO7)
  have HR7 := Lib.hid (HRq.out.only0 hO7)
  have hfg := shFlat_get hf0
  have hgapp : ∀ (t : Nat) v, (shFlat few)[t]? = some v → (shFlat few ++ rest7)[t]? = some v := fun t v h => by rw [List.getElem?_append_left (List.getElem?_eq_some_iff.1 h).1]; exact h
  have hf0 := r7.cell (hgapp _ _ hfg.1)
  have hf1 := r7.cell (hgapp _ _ hfg.2)
  obtain ⟨fn, fq, fc, fl, hfn⟩ : ∃ n q c l, n = f0.n ∧ q = f0.q ∧ l = f0.xs.length ∧ c = f0.c := ⟨_, _, _, _, rfl, rfl, rfl, rfl⟩
  rw [← hfn.1] at hf0
  rw [← hfn.2.1, ← hfn.2.2.1, ← hfn.2.2.2] at hf1
  have Hfn := Lib.hid hfn
  rw [Nat.zero_mul] at hf0 hf1
  clear e7 o7 hO7 hn7 hfew hf7l v7 hfg hgapp hfn r7 hg7 hR7 hc4 HSl HLt hRr hRt hRd hRs HRq
  go_wp2_with fail
  have hRr : ∀ a, Below w7.heap.size a a := fun a => Below.refl _ _
  have hRt : ∀ a b e, Below w7.heap.size a b → Below w7.heap.size b e → Below w7.heap.size a e := fun a b e h h2 => h.trans h2
  have hRd : Below w7.heap.size w7 w7.drew := (Only.drew _).below
  have hRs : ∀ j w, DirtR [(7, Below w7.heap.size)] j w w := DirtR.refl (by intro x hx w; obtain rfl := List.mem_singleton.1 hx; exact Below.refl _ _)
  -- <<R8
  refine wp_region_rg5 (Below w7.heap.size) (DirtR [(7, Below w7.heap.size)]) [[], [(7, none)], [(68, some 1), (69, some 0)], [(7, none)], [(71, some 0)], [(72, some 0)], [(73, some 0)], [(70, some 4), (74, some 0)], [(75, some 0)]] [(8, 0)] [none, none, none, none, none, none, none, none, some 8, none, none, none, none, none, none, none, none, none, none, none, none, none, none, none, none, none, none, none, none, none, none, none, none, none, none, none, none, none, none, none, none, none, none, none, none, none, none, none, none, none, none, none, none, none, none, none, none, none, none, none, none, none, none, none, none, none, none, none, some 68, some 69, some 70, some 71, some 72, some 73, some 74, some 75, none, none, none, none, none, none, none, none, none, none, none, none, none, none, none, none, none, none, none, none, none, none, none, none, none, none, none, none, none, none, none, none, none, none, none, none, none, none, none, none, none, none, none, none, none, none, none, none, none, none, none, none, none, none, none, none, none, none, none, none, none, none, none, none] (by kernel_rfl) rfl (by kernel_rfl) hRr hRt hRs hRd (by kernel_rfl) ?_
  -- 0: s68 := buildSlice 75 0 #[]
  refine ⟨ShN w7.heap.size, stands5_of (ShN.stable _) (by intro x hx hk; obtain rfl := List.mem_singleton.1 hx; exact Bool.noConfusion (hk.symm.trans (by kernel_rfl : _ = true))), fun a w hR hf => ?_, ?_⟩
  · refine rg_plain rfl fun K hK => ?_
    go_simp
    exact hK _ _ ⟨_, rfl, OwnK.new (n := 0) [] hR.size rfl (by omega)⟩ ⟨(Only.alloc w _).below.mono hR.size, Only.alloc w _⟩
  -- 1: s69 := move t7
  apply rgu_ev
  · intro a w hR hf
    obtain ⟨e7, -⟩ := hf
    replace e7 : a.tmps.getD 7 undef = _ := e7
    refine rg_plain rfl fun K hK => ?_
    go_simp
    exact hK _ _ rfl ⟨hRr _, hRs _ _⟩
  -- 2: s70 := call { builtin append, args := #[t68, t69], #[75, 75] }
  refine ⟨ShO w7.heap.size n7 few, stands5_of (ShO.stable _ _ _) (by intro x hx hk; obtain rfl := List.mem_singleton.1 hx; exact Bool.noConfusion (hk.symm.trans (by kernel_rfl : _ = true))), fun a w hR hf => ?_, ?_⟩
  · obtain ⟨e68, e69, -⟩ := hf
    replace e68 : ShN w7.heap.size (a.tmps.getD 68 undef) w := e68
    replace e69 : a.tmps.getD 69 undef = _ := e69
    refine rg_plain rfl fun K hK => ?_
    obtain ⟨q68, e68, o68⟩ := e68
    obtain ⟨p', c', w3, hr, o3, h3⟩ := sh_fresh w (c := c7) (m := n7) (q := some ⟨g7, 0, none⟩) (rs := few) o68 hR.size (HF7.out w (Only.ofBelow hR)) Hf7l.out (by simp) (by omega)
    refine rg_append (s := .tmp 68) (x := .tmp 69) rfl e68 e69 hr ?_
    exact hK _ _ ⟨p', c', rfl, o3⟩ ⟨h3.below.mono hR.size, h3⟩
  -- 3: s71 := move t7
  apply rgu_ev
  · intro a w hR hf
    obtain ⟨e7, -⟩ := hf
    replace e7 : a.tmps.getD 7 undef = _ := e7
    refine rg_plain rfl fun K hK => ?_
    go_simp
    exact hK _ _ rfl ⟨hRr _, hRs _ _⟩
  -- 4: s72 := indexAddr 75 t71 (const (0:i64))
  apply rgu_ev
  · intro a w hR hf
    obtain ⟨e71, -⟩ := hf
    replace e71 : a.tmps.getD 71 undef = _ := e71
    refine rg_plain rfl fun K hK => ?_
    have h70 : (0 : Int) < (n7 : Int) := by omega
    go_simp
    exact hK _ _ rfl ⟨hRr _, hRs _ _⟩
  -- 5: s73 := load 80 t72
  apply rgu_ev
  · intro a w hR hf
    obtain ⟨e72, -⟩ := hf
    replace e72 : a.tmps.getD 72 undef = _ := e72
    refine rg_plain rfl fun K hK => ?_
    have h50 := (Only.ofBelow hR).cell hf0 (by simp)
    have h51 := (Only.ofBelow hR).cell hf1 (by simp)
    go_simp
    exact hK _ _ rfl ⟨hRr _, hRs _ _⟩
  -- 6: s74 := buildSlice 75 1 #[(0, t73)]
  refine ⟨Sh1 w7.heap.size fn fq fl fc, stands5_of (Sh1.stable _ _ _ _ _) (by intro x hx hk; obtain rfl := List.mem_singleton.1 hx; exact Bool.noConfusion (hk.symm.trans (by kernel_rfl : _ = true))), fun a w hR hf => ?_, ?_⟩
  · obtain ⟨e73, -⟩ := hf
    replace e73 : a.tmps.getD 73 undef = _ := e73
    refine rg_plain rfl fun K hK => ?_
    have e73' := e73
    rw [Array.getD_eq_getD_getElem?] at e73'
    go_simp
    exact hK _ _ ⟨_, rfl, Row.newOf _ _ _ _ rfl⟩ ⟨(Only.alloc w _).below.mono hR.size, Only.alloc w _⟩
  -- 7: s75 := call { builtin append, args := #[t70, t74], #[75, 75] }
  refine ⟨ShO w7.heap.size (n7 + 1) (few ++ [f0]), stands5_of (ShO.stable _ _ _) (by intro x hx hk; obtain rfl := List.mem_singleton.1 hx; exact Bool.noConfusion (hk.symm.trans (by kernel_rfl : _ = true))), fun a w hR hf => ?_, ?_⟩
  · obtain ⟨e70, e74, -⟩ := hf
    replace e70 : ShO w7.heap.size n7 few (a.tmps.getD 70 undef) w := e70
    replace e74 : Sh1 w7.heap.size fn fq fl fc (a.tmps.getD 74 undef) w := e74
    refine rg_plain rfl fun K hK => ?_
    obtain ⟨q70, c70, e70, o70⟩ := e70
    obtain ⟨h74, e74, r74⟩ := e74
    have hrd : Rd w (some ⟨h74, 0, none⟩) (shFlat [f0]) := by
      rw [show shFlat [f0] = [.int .i64 fn, .slice fq fl fc] by rw [Hfn.out.1, Hfn.out.2.1, Hfn.out.2.2.1, Hfn.out.2.2.2]; rfl]
      exact r74.rd0
    obtain ⟨p', c', w3, hr, o3, h3, -⟩ := sh_append_at w (c := 1) (m := 1) (q := some ⟨h74, 0, none⟩) (rs := [f0]) o70 hR.size hrd rfl (by simp) (by omega)
    have hbel : Below w7.heap.size w w3 := h3.belowOf hR.size (fun x hx => (ownKblk o70 x hx).1)
    refine rg_append (s := .tmp 70) (x := .tmp 74) rfl e70 e74 hr ?_
    exact hK _ _ ⟨p', c', rfl, o3⟩ ⟨hbel, hbel⟩
  -- 8: s8 := assign t75
  refine ⟨ShO w7.heap.size (n7 + 1) (few ++ [f0]), stands5_of (ShO.stable _ _ _) (by intro x hx hk; obtain rfl := List.mem_singleton.1 hx; exact Bool.noConfusion (hk.symm.trans (by kernel_rfl : _ = true))), fun a w hR hf => ?_, ?_⟩
  · obtain ⟨e75, -⟩ := hf
    replace e75 : ShO w7.heap.size (n7 + 1) (few ++ [f0]) (a.tmps.getD 75 undef) w := e75
    refine rg_plain rfl fun K hK => ?_
    generalize hv75 : a.tmps.getD 75 undef = v75 at e75
    go_simp
    exact hK _ _ e75 ⟨hRr _, hRs _ _⟩
  intro f8 w8 hR8 hf
  dsimp only [mergeT]
  obtain ⟨e8, -⟩ := hf
  replace e8 : ShO w7.heap.size (n7 + 1) (few ++ [f0]) (f8 8) w8 := e8
  -- R8>>
  obtain ⟨q8, c8, e8, o8⟩ := e8
  rw [e8]
  have hO8 := Only.ofBelow hR8
  have v8 := o8.view
  have HF8 : Hid (∀ w, Only [] w8 w → Rd w q8 (shFlat (few ++ [f0]))) := Lib.hid fun w ho => v8.2.2.1.only0 ho
  have HOw8 : Hid (Only [] w0 w8) := Lib.hid (HOw7.out.trans0 hO8)
  have HF7 : Hid (∀ w, Only [] w8 w → Rd w (some ⟨g7, 0, none⟩) (shFlat few)) := Lib.hid fun w ho => HF7.out w (hO8.trans0 ho)
  have HR8 := Lib.hid (HR7.out.only0 hO8)
  clear e8 o8 hO8 v8 hR8 hRr hRt hRd hRs hf0 hf1 HR7
  have hc4 := HR8.out.cell (i := 4) rfl
  go_wp2_with fail
  (with_reducible refine (copied_any nL cL (some ⟨bL, oL, none⟩) L w8 HnL.out (by omega) (HL.out.only0 HOw8.out)).mono ?_)
  rintro e w9 ⟨q9, c9, gs, rfl, cp9, o9⟩
  have hown := cp9.own
  obtain ⟨gl, rest9, rfl, hgl, r9⟩ := hown.row (by omega)
  obtain ⟨od, hod⟩ : ∃ o, L[d]? = some o := ⟨_, List.getElem?_eq_getElem (by rw [HnL.out]; exact hdl)⟩
  obtain ⟨gd, hgd⟩ : ∃ g, gs[d]? = some g := ⟨_, List.getElem?_eq_getElem (by rw [← cp9.len, HnL.out]; exact hdl)⟩
  have hcg := copyL_get hod hgd
  have hodl := (HGood.out.2 d od hod).2.2.1
  have rgd := cp9.row d gd od hgd hod
  have hfg := shFlat_get hcg
  have hgapp : ∀ (t : Nat) v, (shFlat (copyL L gs))[t]? = some v → (shFlat (copyL L gs) ++ rest9)[t]? = some v := fun t v h => by rw [List.getElem?_append_left (List.getElem?_eq_some_iff.1 h).1]; exact h
  have hl1 := r9.cell (hgapp _ _ hfg.2)
  have hgnl : gd ≠ gl := fun e => (cp9.low gd (List.mem_of_getElem? hgd)).2 (by rw [e]; simp [blk])
  dsimp only at hl1
  rw [hodl] at hl1
  -- a nought behind the bytes
  have oA := Only.alloc w9 (.cells #[.int .u8 0] 5)
  have rA : Row (w9.alloc (.cells #[.int .u8 0] 5)) w9.heap.size 5 (u8s [0]) := Row.newOf _ _ _ _ rfl
  obtain ⟨w10, Hr10, r10, o10⟩ := append_room (P := Tryd.prog) (bytes := 1) (n := size) (cap := size + 6) (c := 1) (m := 1) (p := some ⟨w9.heap.size, 0, none⟩) (news := u8s [0]) (t := 27) (ty := 27) _ Tryd.underlying27 Tryd.infoU8' (rgd.only0 oA) (by rw [u8s_length, List.length_append, hodl]; rfl) rA.rd0 rfl (by simp) (fun v hv => u8s_one hv) (by omega) (by omega)
  have e10 : (u8s (od.xs ++ marks)).take size ++ u8s [0] ++ (u8s (od.xs ++ marks)).drop (size + 1) = u8s ((od.xs ++ [0]) ++ marks.drop 1) := by
    rw [u8s_take, u8s_drop, ← u8s_append, ← u8s_append, List.take_left' hodl, ← hodl, List.drop_append, List.drop_of_length_le (l := od.xs) (by omega)]
    simp
  rw [e10] at r10
  have o10' : Only [gd] w9 w10 := (oA.mono (by simp)).trans o10 (fun i hi _ => hi)
  have hl1' := o10'.cell hl1 (by simpa using hgnl.symm)
  have hr9' := r9.only o10' (by simpa using hgnl.symm)
  have hfr := hr9'.free (d * 2 + 1)
  have Hr10 := Lib.hid Hr10
  obtain ⟨w11, hw11⟩ : ∃ w11, w11 = w10.setCell ⟨gl, d * 2 + 1, none⟩ (.slice (some ⟨gd, 0, none⟩) (size + 1) (size + 6)) := ⟨_, rfl⟩
  have o11 : Only [gl] w10 w11 := by rw [hw11]; exact Only.setCell w10 ⟨gl, d * 2 + 1, none⟩ _
  have hlow := cp9.low
  have hgld : w8.heap.size ≤ gd := (hlow gd (List.mem_of_getElem? hgd)).1
  have HO11 : Hid (Only [] w8 w11) := Lib.hid ((o9.transN o10' (by simpa using hgld)).transN o11 (by simpa using hgl))
  have hcl : (copyL L gs).length = nL := by rw [copyL_len cp9.len, HnL.out]
  have r11 : Row w11 gl 80 (shFlat ((copyL L gs).set d ⟨od.n, some ⟨gd, 0, none⟩, size + 6, od.xs ++ [0]⟩) ++ rest9) := by
    have h := hr9'.setCell (d * 2 + 1) (.slice (some ⟨gd, 0, none⟩) (size + 1) (size + 6))
    rw [List.set_append_left _ _ (by rw [shFlat_length, hcl]; omega)] at h
    rw [hw11, ← shFlat_set (by rw [hcl]; exact hdl)]
    dsimp only
    have hl1 : (od.xs ++ [(0 : UInt8)]).length = size + 1 := by rw [List.length_append, hodl]; rfl
    rw [set_same (l := shFlat (copyL L gs)) (i := d * 2) (x := Value.int .i64 od.n) hfg.1, hl1]
    exact h
  have hok3 : ∀ o ∈ (copyL L gs).set d ⟨od.n, some ⟨gd, 0, none⟩, size + 6, od.xs ++ [0]⟩, ∀ w, Only [] w11 w → o.Ok w := by
    intro o ho w hw
    obtain ⟨j, hj⟩ := List.getElem?_of_mem ho
    by_cases e : j = d
    · subst e
      rw [List.getElem?_set_self (by rw [hcl]; exact hdl)] at hj
      obtain rfl := Option.some.inj hj
      have hrange := (HL.out.ok od (List.mem_of_getElem? hod)).1
      refine ⟨hrange, ?_, by simp, by dsimp only; rw [List.length_append, hodl]; show size + 1 ≤ size + 6; omega, by dsimp only; omega⟩
      have h := ((r10.only o11 (by simpa using hgnl)).only0 hw).rd0.take (size + 1)
      rwa [u8s_take, List.take_left' (by rw [List.length_append, hodl]; rfl)] at h
    · rw [List.getElem?_set_ne (fun e2 => e e2.symm)] at hj
      have hjl := (List.getElem?_eq_some_iff.1 hj).1
      rw [hcl] at hjl
      obtain ⟨oj, hoj⟩ : ∃ o, L[j]? = some o := ⟨_, List.getElem?_eq_getElem (by rw [HnL.out]; exact hjl)⟩
      obtain ⟨gj, hgj⟩ : ∃ g, gs[j]? = some g := ⟨_, List.getElem?_eq_getElem (by rw [← cp9.len, HnL.out]; exact hjl)⟩
      rw [copyL_get hoj hgj] at hj
      obtain rfl := Option.some.inj hj
      have hojl := (HGood.out.2 j oj hoj).2.2.1
      have hne : gj ≠ gd := fun e3 => by
        subst e3
        exact e ((List.getElem?_inj (List.getElem?_eq_some_iff.1 hgj).1 cp9.nd).1 (hgj.trans hgd.symm))
      have hne2 : gj ≠ gl := fun e3 => (cp9.low gj (List.mem_of_getElem? hgj)).2 (by rw [e3]; simp [blk])
      refine ⟨(HL.out.ok oj (List.mem_of_getElem? hoj)).1, ?_, by simp, by dsimp only; omega, by dsimp only; omega⟩
      have h := ((((cp9.row j gj oj hgj hoj).only o10' (by simpa using hne)).only o11 (by simpa using hne2)).only0 hw).rd0.take size
      rwa [u8s_take, List.take_left' hojl] at h
  have hl3 : ((copyL L gs).set d ⟨od.n, some ⟨gd, 0, none⟩, size + 6, od.xs ++ [0]⟩).length = nL := by rw [List.length_set, hcl]
  have hbad3 : ¬ goodL nL m size ((copyL L gs).set d ⟨od.n, some ⟨gd, 0, none⟩, size + 6, od.xs ++ [0]⟩) := fun h => by
    have := (h.2 d _ (List.getElem?_set_self (by rw [hcl]; exact hdl))).2.2.1
    dsimp only at this
    rw [List.length_append, hodl] at this
    simp at this
  have hok0 := HL.out.ok
  have hfewm : ∀ o ∈ few, o ∈ L := by
    intro o ho
    rw [Hfew.out] at ho
    rcases List.mem_append.1 ho with h | h
    · exact List.mem_of_mem_take h
    · exact List.mem_of_mem_drop h
  have hf0m : f0 ∈ few := List.mem_of_getElem? Hf0.out
  have hbad1 : ¬ goodL nL m size few := fun h => by have := h.1; have := Hf7l.out; omega
  have hbad2 : ¬ goodL nL m size (few ++ [f0]) := fun h => by
    have h1 : (few ++ [f0])[n7]? = some f0 := by rw [List.getElem?_append_right (by rw [Hf7l.out]; exact Nat.le_refl _), Hf7l.out, Nat.sub_self]; rfl
    exact (h.2 n7 f0 h1).2.2.2 0 f0 hn70 (by rw [List.getElem?_append_left (by rw [Hf7l.out]; exact hn70)]; exact Hf0.out) rfl
  -- the three lists
  have HThree : Hid (∀ j, j < 3 → ∃ q l c LL, ([.slice (some ⟨g7, 0, none⟩) n7 c7, .slice q8 nL c8, .slice (some ⟨gl, 0, none⟩) nL c9] : List Value)[j]? = some (.slice q l c) ∧ LL.length = l ∧ l ≤ 1000 ∧ ¬ goodL nL m size LL ∧ ∀ w, Only [] w11 w → Shards w q LL) := Lib.hid (by
    intro j hj
    have hO8 := HO11.out
    match j, hj with
    | 0, _ => exact ⟨_, _, _, few, rfl, Hf7l.out, by omega, hbad1, fun w hw => shards_of (HF7.out w (hO8.trans0 hw)) (fun o ho => (hok0 o (hfewm o ho)).only0 ((HOw8.out.trans0 hO8).trans0 hw))⟩
    | 1, _ => exact ⟨_, _, _, few ++ [f0], rfl, by rw [List.length_append, Hf7l.out]; exact hn71, by omega, hbad2, fun w hw => shards_of (HF8.out w (hO8.trans0 hw)) (fun o ho => by
        have hom : o ∈ few := by
          rcases List.mem_append.1 ho with h | h
          · exact h
          · obtain rfl := List.mem_singleton.1 h; exact hf0m
        exact (hok0 o (hfewm o hom)).only0 ((HOw8.out.trans0 hO8).trans0 hw))⟩
    | 2, _ => exact ⟨_, _, _, _, rfl, hl3, by omega, hbad3, fun w hw => shards_of (by
        have h := (r11.only0 hw).rd0.take (nL * 2)
        rwa [List.take_append_of_le_length (by rw [shFlat_length, hl3]; exact Nat.le_refl _), List.take_of_length_le (by rw [shFlat_length, hl3]; exact Nat.le_refl _)] at h) (fun o ho => hok3 o ho w hw)⟩)
  have HO0 : Hid (Only [] w0 w11) := Lib.hid (HOw8.out.trans0 HO11.out)
  have HR11 := Lib.hid (HR8.out.only0 HO11.out)
  have Hw11 := Lib.hid hw11
  have hdl9 : (d : Int) < (nL : Int) := by omega
  clear hown hgl r9 hod hgd hcg hodl rgd hfg hgapp hgnl oA rA r10 o10 e10 o10' hr9' hw11 o11 hlow hgld hcl r11 hok3 hl3 hbad3 hok0 hfewm hf0m hbad1 hbad2 hc4 HF7 HF8
  go_wp2_with (first | (at_builtin; refine wpl_append (s := .tmp 85) (x := .tmp 86) rfl rfl rfl rfl Hr10.out ?_))
  rw [← Hw11.out]
  obtain ⟨w12, hw12⟩ : ∃ w12, w12 = w11.alloc (.cells #[.slice (some ⟨g7, 0, none⟩) n7 c7, .slice q8 nL c8, .slice (some ⟨gl, 0, none⟩) nL c9] 75) := ⟨_, rfl⟩
  rw [← hw12]
  have o12 : Only [] w11 w12 := by rw [hw12]; exact Only.alloc _ _
  have r12 : Row w12 w10.heap.size 75 [.slice (some ⟨g7, 0, none⟩) n7 c7, .slice q8 nL c8, .slice (some ⟨gl, 0, none⟩) nL c9] := by
    have h := Row.newOf w11 75 #[.slice (some ⟨g7, 0, none⟩) n7 c7, .slice q8 nL c8, .slice (some ⟨gl, 0, none⟩) nL c9] _ rfl
    rw [← hw12] at h
    have e : w11.heap.size = w10.heap.size := by rw [Hw11.out, World.size_setCell]
    rwa [e] at h
  have HR12 := Lib.hid (HR11.out.only0 o12)
  have Hr12 := Lib.hid r12
  have HO12 := Lib.hid o12
  have HO0b := Lib.hid (HO0.out.trans0 o12)
  clear o12 r12 hw12
  go_loopw [95] (fun x wr => ∃ j : Nat, x = .int .i64 (j : Int) ∧ j ≤ 3 ∧ Hid (Only [] w12 wr)) (fun x _ => 3 - (intOf x).toNat)
  case atStart => exact ⟨0, rfl, by omega, Lib.hid (Only.refl _ _)⟩
  case round =>
    obtain ⟨j, rfl, hj, HO⟩ := hrel
    have hc0 := HO.out.cell (HR12.out.cell (i := 0) rfl) (by simp)
    have hc1 := HO.out.cell (HR12.out.cell (i := 1) rfl) (by simp)
    have hc2 := HO.out.cell (HR12.out.cell (i := 2) rfl) (by simp)
    have hc4 := HO.out.cell (HR12.out.cell (i := 4) rfl) (by simp)
    by_cases hlt : j < 3
    · have hji : (j : Int) < 3 := by omega
      obtain ⟨qj, lj, cj, LL, hget, hll, hlb, hbad, hsh⟩ := HThree.out j hlt
      have hcj := HO.out.cell (Hr12.out.cell hget) (by simp)
      have hdec := decode_any nL m n lj cj qj LL wr aD (HeD.out.only0 (HO0b.out.trans0 HO.out)) Hl.out (by omega) hll (by omega) (hsh wr (HO12.out.trans0 HO.out))
      have Hbad := Lib.hid hbad
      have hne := fun w => err_neq_same w aD
      clear hget hll hbad hsh
      go_wp2_with fail
      refine hdec.mono ?_
      clear hdec
      rintro e wd ⟨od, ⟨hg, -⟩ | ⟨-, rfl⟩⟩
      · exact absurd (by rw [← Hsize.out] at hg; exact hg) Hbad.out
      · unfold ev
        have HOd := Lib.hid (HO.out.trans0 od)
        have hgc := (HeD.out.only0 (HO0b.out.trans0 HOd.out)).cell
        clear od HO hcj hc0 hc1 hc2 hc4
        go_wp2_with fail
        exact ⟨⟨j + 1, by go_num, by omega, HOd⟩, by simp [intOf]; omega⟩
    · obtain rfl : j = 3 := by omega
      have hdec := decode_any nL m n nL cL (some ⟨bL, oL, none⟩) L wr aD (HeD.out.only0 (HO0b.out.trans0 HO.out)) Hl.out (by omega) HnL.out (by omega) (HL.out.only0 (HO0b.out.trans0 HO.out))
      go_wp2_with fail
      refine hdec.mono ?_
      clear hdec
      rintro e wd ⟨od, ⟨-, q, c, rfl, -⟩ | ⟨hb, -⟩⟩
      · have HOd := Lib.hid (HO0b.out.trans0 (HO.out.trans0 od))
        have hc2 := od.cell hc2 (by simp)
        clear od HO hc0 hc1 hc4
        go_wp2_with fail
        go_ret
        exact ⟨rfl, HOd.out⟩
      · exact absurd (by rw [← Hsize.out]; exact HGood.out) hb
end Go.Proofs.YtlgcclhepegggaaDoor
