/- The walk of bollardlaw02.RsAny. -/
import Derived.Test.YtlgcclhepegggaaDoorRsAnyMath
import Derived.Test.YtlgcclhepegggaaDoorShActs
import Derived.Test.YtlgcclhepegggaaDoorRsEncX
import Derived.Test.YtlgcclhepegggaaDoorRsRefEncW
import Derived.BigRegion
import Derived.RegionTactic
set_option linter.unusedVariables false
set_option maxRecDepth 100000
namespace Go.Proofs.YtlgcclhepegggaaDoor
open Go.RowKit

/-- a shard and no error -/
def RebT (E : List UInt8) (n : Nat) : Value → World → Prop := fun v w => ∃ g, v = .tuple #[.slice (some ⟨g, 0, none⟩) n n, .nilIface] ∧ Row w g 5 (u8s E)
theorem RebT.stable (E : List UInt8) (n : Nat) : Stable (Only []) (RebT E n) := fun _ _ _ ⟨g, e, h⟩ ho => ⟨g, e, h.only0 ho⟩
def RebS (E : List UInt8) (n : Nat) : Value → World → Prop := fun v w => ∃ g, v = .slice (some ⟨g, 0, none⟩) n n ∧ Row w g 5 (u8s E)
theorem RebS.stable (E : List UInt8) (n : Nat) : Stable (Only []) (RebS E n) := fun _ _ _ ⟨g, e, h⟩ ho => ⟨g, e, h.only0 ho⟩
set_option maxHeartbeats 16000000 in
theorem rsAny_any (k m : Int) (p1 p2 : Option Addr) (xs : List UInt8) (n1 c1 n2 c2 : Nat) (p3 : Option Addr) (ns : List Int) (n3 c3 : Nat) (w0 : World) (aD : Addr) (hk : -9223372036854775808 ≤ k ∧ k ≤ 9223372036854775807) (hm : -9223372036854775808 ≤ m ∧ m ≤ 9223372036854775807)
    (hn1 : xs.length = n1) (hb1 : n1 ≤ 140737488351232) (hp1 : p1 = none → n1 = 0 ∧ c1 = 0) (hx1 : Rd w0 p1 (u8s xs))
    (hn3 : ns.length = n3) (hb3 : n3 ≤ 140737488351232) (hx3 : Rd w0 p3 (ns.map fun n => .int .i64 n)) (hr3 : ∀ a ∈ ns, -9223372036854775808 ≤ a ∧ a ≤ 9223372036854775807) (eD : ErrAt w0 1 aD) :
    Calls Tryd.prog 11 #[.agg #[.int .i64 k, .int .i64 m, .slice p1 n1 c1, .slice p2 n2 c2, .slice p3 n3 c3]] w0 fun e w' => e = .returned (.bool true) ∧ Only [] w0 w' := by
  have hal := fun (w : World) (ho : Only [] w0 w) => alive02_any w aD (eD.only0 ho)
  have hHx1 := Lib.hid hx1
  have hHx3 := Lib.hid hx3
  have Hr3 := Lib.hid hr3
  have Hn1 := Lib.hid hn1
  have Hn3 := Lib.hid hn3
  have Hp1 := Lib.hid hp1
  have Hal := Lib.hid hal
  have HeD := Lib.hid eD
  clear eD hx1 hal hn1 hp1 hn3 hx3 hr3
  obtain ⟨w1, hw1⟩ : ∃ w1, w1 = w0.alloc (.cells #[.int .i64 k, .int .i64 m, .slice p1 n1 c1, .slice p2 n2 c2, .slice p3 n3 c3] 73) := ⟨_, rfl⟩
  have o1 : Only [] w0 w1 := by rw [hw1]; exact Only.alloc _ _
  have r1 : Row w1 w0.heap.size 73 [.int .i64 k, .int .i64 m, .slice p1 n1 c1, .slice p2 n2 c2, .slice p3 n3 c3] := by rw [hw1]; exact Row.newOf _ _ _ _ rfl
  have HO1 := Lib.hid o1
  have HR1 := Lib.hid r1
  clear o1 r1
  go_enter Tryd.func11, Tryd.ntmps11
  go_wp2_with fail
  rw [← hw1]
  clear hw1
  (with_reducible refine (Hal.out w1 HO1.out).mono ?_)
  rintro e w2 ⟨rfl, o2⟩
  have HO2 := Lib.hid (HO1.out.trans0 o2)
  have r2 := HR1.out.only0 o2
  generalize hB : w0.heap.size = B at r2
  have hBlt := r2.lt
  have hc0 := r2.cell (i := 0) rfl
  have hc1 := r2.cell (i := 1) rfl
  have hc2 := r2.cell (i := 2) rfl
  have HR2 := Lib.hid r2
  have HBw : Hid (w0.heap.size ≤ B) := Lib.hid (by omega)
  clear o2 HR1 hB Hal
  have hrl := refLegal_any k m hk hm w2
  cases hl : legal k m with
  | false =>
    rw [hl] at hrl
    clear hl
    go_wp2_with fail
    (with_reducible refine (hrl).mono ?_)
    rintro e w' ⟨rfl, rfl⟩
    go_wp2_with fail
    go_ret
    exact ⟨rfl, HO2.out⟩
  | true =>
  rw [hl] at hrl
  have Hl := Lib.hid hl
  obtain ⟨l1, l2, l3⟩ := legal_iff.1 hl
  clear hl
  by_cases hbig : 1024 < n1
  · have hbi : (1024 : Int) < (n1 : Int) := by omega
    go_wp2_with fail
    (with_reducible refine (hrl).mono ?_)
    rintro e w' ⟨rfl, rfl⟩
    go_wp2_with fail
    go_ret
    exact ⟨rfl, HO2.out⟩
  have hbi : ¬ (1024 : Int) < (n1 : Int) := by omega
  obtain ⟨k, rfl⟩ : ∃ t : Nat, k = t := ⟨k.toNat, by omega⟩
  obtain ⟨m, rfl⟩ : ∃ t : Nat, m = t := ⟨m.toNat, by omega⟩
  have henc := encode_ok p1 xs n1 c1 k m w2 Hl.out Hn1.out (by omega) Hp1.out (hHx1.out.only0 HO2.out)
  have hkm : ((k + m : Nat) : Int) = (k : Int) + (m : Int) := by omega
  go_wp2_with fail
  (with_reducible refine (hrl).mono ?_)
  rintro e w' ⟨rfl, rfl⟩
  go_wp2_with fail
  clear hrl hk hm hbi
  (with_reducible refine (henc).mono ?_)
  rintro e w3 ⟨q3, c4, gs, rfl, nl, o3⟩
  clear henc
  have hfit : xs.length ≤ k * shardLen k n1 := by rw [Hn1.out]; exact shardLen_mul (by omega)
  have hszl := shardLen_le (k := k) (show n1 ≤ 1024 by omega)
  obtain ⟨E, hE⟩ : ∃ E, E = encB k m (shardLen k n1) xs := ⟨_, rfl⟩
  rw [← hE] at nl
  have hEl : E.length = k + m := by rw [hE]; exact encB_len _ _ _ _
  obtain ⟨size, hsize⟩ : ∃ s, s = shardLen k n1 := ⟨_, rfl⟩
  rw [← hsize] at nl hfit hszl
  have hown := nl.own
  rw [hEl] at hown
  obtain ⟨gq, rfl, -, -⟩ := hown.at (by omega)
  have HE := Lib.hid hE
  have HEl := Lib.hid hEl
  have Hsize := Lib.hid hsize
  have Hfit := Lib.hid hfit
  have HNL := Lib.hid nl
  have Hown := Lib.hid hown
  have HO3 := Lib.hid (HO2.out.trans0 o3)
  have HR3 := Lib.hid (HR2.out.only0 o3)
  clear nl o3 hE hEl hsize hfit hown r2 hc0 hc1 hc2
  have hc0 := HR3.out.cell (i := 0) rfl
  have hc1 := HR3.out.cell (i := 1) rfl
  go_wp2_with fail
  obtain ⟨w4, hw4⟩ : ∃ w4, w4 = w3.alloc (.cells #[] 80) := ⟨_, rfl⟩
  rw [← hw4]
  have o4 : Only [] w3 w4 := by rw [hw4]; exact Only.alloc _ _
  have own4 : OwnK w4 w3.heap.size 80 2 (.slice (some ⟨w3.heap.size, 0, none⟩) 0 0) 0 (shFlat []) := by rw [hw4]; exact OwnK.new (n := 0) [] (Nat.le_refl _) rfl (by omega)
  have HO4 := Lib.hid o4
  have Hown4 := Lib.hid own4
  clear o4 own4 hw4 hc0 hc1
  go_loopw [55, 6] (fun x o wr => ∃ (i : Nat) (q : Option Addr) (c : Nat) (L : List Sh), x = .int .i64 (i : Int) ∧ o = .slice q i c ∧ i ≤ k + m ∧ Hid (L.length = i) ∧ Hid (OwnK wr w3.heap.size 80 2 (.slice q i c) i (shFlat L)) ∧
    Hid (∀ (j : Nat) o, L[j]? = some o → o.n = (j : Int) ∧ E[j]? = some o.xs ∧ o.c = size ∧ ∃ g, gs[j]? = some g ∧ o.q = some ⟨g, 0, none⟩) ∧ Hid (Only [] w3 wr)) (fun x _ _ => k + m - (intOf x).toNat)
  case atStart => exact ⟨0, _, 0, [], rfl, rfl, Nat.zero_le _, Lib.hid rfl, Hown4, Lib.hid (by simp), HO4⟩
  case round =>
    clear Hown4 HO4
    obtain ⟨i, q, c, L, rfl, rfl, hi, HLl, HOK, HL, HO⟩ := hrel
    by_cases hlt : i < k + m
    · have hii : (i : Int) < (k : Int) + (m : Int) := by omega
      obtain ⟨g, hg⟩ : ∃ g, gs[i]? = some g := ⟨_, List.getElem?_eq_getElem (by rw [HNL.out.len, HEl.out]; exact hlt)⟩
      obtain ⟨Ei, hEi⟩ : ∃ l, E[i]? = some l := ⟨_, List.getElem?_eq_getElem (by rw [HEl.out]; exact hlt)⟩
      have hel := HNL.out.each Ei (List.mem_of_getElem? hEi)
      have hcell := HO.out.cell (Hown.out.cellAt (i := i) (v := .slice (some ⟨g, 0, none⟩) size size) (by unfold slsV; rw [List.getElem?_map, hg]; rfl)) (by simp)
      have oA := Only.alloc wr (.cells #[.int .i64 (i : Int), .slice (some ⟨g, 0, none⟩) size size] 80)
      have rA : Row (wr.alloc (.cells #[.int .i64 (i : Int), .slice (some ⟨g, 0, none⟩) size size] 80)) wr.heap.size 80 (shFlat [(⟨(i : Int), some ⟨g, 0, none⟩, size, Ei⟩ : Sh)]) := by
        have : shFlat [(⟨(i : Int), some ⟨g, 0, none⟩, size, Ei⟩ : Sh)] = [.int .i64 (i : Int), .slice (some ⟨g, 0, none⟩) size size] := by
          show [Value.int .i64 (i : Int), Value.slice (some ⟨g, 0, none⟩) Ei.length size] = _
          rw [hel]
        rw [this]
        exact Row.newOf _ _ _ _ rfl
      obtain ⟨q5, c5, w5, Hr, own5, o5⟩ := sh_append _ (c := 1) (m := 1) (q := some ⟨wr.heap.size, 0, none⟩) (rs := [(⟨(i : Int), some ⟨g, 0, none⟩, size, Ei⟩ : Sh)]) (HOK.out.only0 oA) (Nat.le_trans HO.out.size oA.size) rA.rd0 rfl (by simp) (by omega)
      have hlow := HOK.out.view.2.2.2.2.2.2
      have HOK5 := Lib.hid own5
      have HO5 : Hid (Only [] w3 w5) := Lib.hid ((HO.out.trans0 oA).transN o5 (fun x hx => (hlow x hx).1))
      have HLl5 : Hid ((L ++ [(⟨(i : Int), some ⟨g, 0, none⟩, size, Ei⟩ : Sh)]).length = i + 1) := Lib.hid (by rw [List.length_append, HLl.out]; rfl)
      have HL5 : Hid (∀ (j : Nat) o, (L ++ [(⟨(i : Int), some ⟨g, 0, none⟩, size, Ei⟩ : Sh)])[j]? = some o → o.n = (j : Int) ∧ E[j]? = some o.xs ∧ o.c = size ∧ ∃ g, gs[j]? = some g ∧ o.q = some ⟨g, 0, none⟩) := Lib.hid fun j o hj => by
        by_cases e : j < i
        · rw [List.getElem?_append_left (by rw [HLl.out]; exact e)] at hj
          exact HL.out j o hj
        · have hj1 := (List.getElem?_eq_some_iff.1 hj).1
          rw [HLl5.out] at hj1
          obtain rfl : j = i := by omega
          rw [List.getElem?_append_right (by rw [HLl.out]; exact Nat.le_refl _), HLl.out, Nat.sub_self] at hj
          obtain rfl := Option.some.inj hj
          exact ⟨rfl, hEi, rfl, g, hg, rfl⟩
      clear hg hEi hel oA rA own5 o5 hlow HOK HO HLl HL
      generalize L ++ [(⟨(i : Int), some ⟨g, 0, none⟩, size, Ei⟩ : Sh)] = LL at *
      go_wp2_with (first | (at_builtin; refine wpl_append (s := .tmp 60) (x := .tmp 64) rfl rfl rfl rfl Hr.out ?_))
      exact ⟨⟨i + 1, q5, c5, LL, by go_num, rfl, by omega, HLl5, HOK5, HL5, HO5⟩, by simp [intOf]; omega⟩
    · obtain rfl : i = k + m := by omega
      have hii : ¬ ((k + m : Nat) : Int) < (k : Int) + (m : Int) := by omega
      obtain ⟨gl, rest, rfl, hgl, hrow⟩ := HOK.out.row (by omega)
      have hlc := HOK.out.view.2.2.2.2.1
      have HGl := Lib.hid hgl
      have HRow := Lib.hid hrow
      have Hlc := Lib.hid hlc
      clear HOK hgl hrow hlc
      obtain ⟨w6, hw6⟩ : ∃ w, w = wr := ⟨_, rfl⟩
      subst hw6
      have hR6 := HR3.out.only0 HO.out
      have HRB := Lib.hid hR6
      have HBl : Hid (B ≠ gl) := Lib.hid (by have := HR3.out.lt; have := HGl.out; omega)
      have Hgl0 : Hid (w0.heap.size ≤ gl) := Lib.hid (Nat.le_trans HO3.out.size HGl.out)
      have HX3 : Hid (Rd w6 p3 (ns.map fun n => .int .i64 n)) := Lib.hid (hHx3.out.only0 (HO3.out.trans0 HO.out))
      have H0ok : Hid (∀ o ∈ L, ∃ j : Nat, j < k + m ∧ o.n = (j : Int) ∧ E[j]? = some o.xs) := Lib.hid fun o ho => by
        obtain ⟨j, hj⟩ := List.getElem?_of_mem ho
        obtain ⟨h1, h2, -⟩ := HL.out j o hj
        exact ⟨j, by have := (List.getElem?_eq_some_iff.1 hj).1; have := HLl.out; omega, h1, h2⟩
      have H0ap : Hid (∀ (a b : Nat) oa ob, L[a]? = some oa → L[b]? = some ob → oa.n = ob.n → a = b) := Lib.hid fun a b oa ob h1 h2 e => by
        have := (HL.out a oa h1).1; have := (HL.out b ob h2).1; omega
      -- all of them stand in every world behind
      have H0st : Hid (∀ o ∈ L, ∀ w, Only [gl] w6 w → o.Ok w) := Lib.hid fun o ho w hw => by
        obtain ⟨j, hj⟩ := List.getElem?_of_mem ho
        obtain ⟨h1, h2, h3, g, h4, h5⟩ := HL.out j o hj
        have hrow := (HNL.out.only0 HO.out).row j g o.xs h4 h2
        have hg := HNL.out.lt g (List.mem_of_getElem? h4)
        have hjl := (List.getElem?_eq_some_iff.1 hj).1
        have hsz := HNL.out.each o.xs (List.mem_of_getElem? h2)
        have hlt := HLl.out
        refine ⟨by omega, ?_, by rw [h5]; simp, by omega, by omega⟩
        rw [h5]
        exact (hrow.only hw (by have := HGl.out; simp; omega)).rd0
      clear hR6 HL HR3
      go_wp2_with fail
      go_loopw [9] (fun x wr => ∃ (i : Nat) (Ls : List Sh), x = .int .i64 (i : Int) ∧ i ≤ k + m ∧ Hid (Ls.length = k + m) ∧ Hid (Row wr gl 80 (shFlat Ls ++ rest)) ∧ Hid (∀ o ∈ Ls, o ∈ L) ∧ Hid (∀ (a b : Nat) oa ob, Ls[a]? = some oa → Ls[b]? = some ob → oa.n = ob.n → a = b) ∧ Hid (Only [gl] w6 wr)) (fun x _ => k + m - (intOf x).toNat)
      case atStart => exact ⟨0, L, rfl, Nat.zero_le _, HLl, HRow, Lib.hid (fun _ h => h), H0ap, Lib.hid (Only.refl _ _)⟩
      case round =>
        clear HRow HLl H0ap
        obtain ⟨i, Ls, rfl, hi, HLl, HRow, HIn, HAp, HOl⟩ := hrel
        have hb4 := (HRB.out.only HOl.out (by simpa using HBl.out)).cell (i := 4) rfl
        by_cases hlt : i < k + m ∧ i < n3
        · obtain ⟨hlt, hl3⟩ := hlt
          have hii : (i : Int) < (k : Int) + (m : Int) := by omega
          have hi3 : (i : Int) < (n3 : Int) := by omega
          obtain ⟨a, ha⟩ : ∃ a, ns[i]? = some a := ⟨_, List.getElem?_eq_getElem (by rw [Hn3.out]; exact hl3)⟩
          obtain ⟨b3, off3, rfl, hc3⟩ : ∃ b off, p3 = some ⟨b, off, none⟩ ∧ wr.cell? ⟨b, off + i, none⟩ = some (.int .i64 a) := by
            have hv : (ns.map fun n => Value.int .i64 n)[i]? = some (.int .i64 a) := by rw [List.getElem?_map, ha]; rfl
            rcases (hHx3.out) with h0 | ⟨b, off, e, hc⟩
            · rw [h0] at hv; cases hv
            · refine ⟨b, off, e, ?_⟩
              have hc0 := hc i _ hv
              have hbl := World.block_lt_of_cell? w0 _ hc0
              exact HOl.out.cell ((HO3.out.trans0 HO.out).cell hc0 (by simp)) (by have := Hgl0.out; dsimp only at hbl; simp; omega)
          have har := Hr3.out a (List.mem_of_getElem? ha)
          clear ha
          obtain ⟨N, hN⟩ : ∃ N : Nat, N = k + m := ⟨_, rfl⟩
          have hNi : (k : Int) + (m : Int) = (N : Int) := by omega
          obtain ⟨j, hjl, hjv⟩ : ∃ j : Nat, j < k + m ∧ (wrap64 (a.tmod ((k : Int) + (m : Int)) + ((k : Int) + (m : Int)))).tmod ((k : Int) + (m : Int)) = (j : Int) := by
            have b1 := Int.tmod_lt_of_pos a (show 0 < (k : Int) + (m : Int) by omega)
            have b2 := Int.tmod_lt_of_pos (-a) (show 0 < (k : Int) + (m : Int) by omega)
            rw [Int.neg_tmod] at b2
            have e : wrap64 (a.tmod ((k : Int) + (m : Int)) + ((k : Int) + (m : Int))) = a.tmod ((k : Int) + (m : Int)) + ((k : Int) + (m : Int)) := IntWalk.wrap64_in _ (by omega)
            rw [e]
            have c1 := Int.tmod_nonneg ((k : Int) + (m : Int)) (show 0 ≤ a.tmod ((k : Int) + (m : Int)) + ((k : Int) + (m : Int)) by omega)
            have c2 := Int.tmod_lt_of_pos (a.tmod ((k : Int) + (m : Int)) + ((k : Int) + (m : Int))) (show 0 < (k : Int) + (m : Int) by omega)
            exact ⟨((a.tmod ((k : Int) + (m : Int)) + ((k : Int) + (m : Int))).tmod ((k : Int) + (m : Int))).toNat, by omega, by omega⟩
          have hji : (j : Int) < (k : Int) + (m : Int) := by omega
          clear hN hNi N
          have hil : i < Ls.length := by rw [HLl.out]; exact hlt
          have hjl2 : j < Ls.length := by rw [HLl.out]; exact hjl
          obtain ⟨oi, hoi⟩ : ∃ o, Ls[i]? = some o := ⟨_, List.getElem?_eq_getElem hil⟩
          obtain ⟨oj, hoj⟩ : ∃ o, Ls[j]? = some o := ⟨_, List.getElem?_eq_getElem hjl2⟩
          have hfl := shFlat_length Ls
          have hget : ∀ (t : Nat) v, (shFlat Ls)[t]? = some v → (shFlat Ls ++ rest)[t]? = some v := fun t v h => by rw [List.getElem?_append_left (List.getElem?_eq_some_iff.1 h).1]; exact h
          have li0 := HRow.out.cell (hget _ _ (shFlat_get hoi).1)
          have li1 := HRow.out.cell (hget _ _ (shFlat_get hoi).2)
          have lj0 := HRow.out.cell (hget _ _ (shFlat_get hoj).1)
          have lj1 := HRow.out.cell (hget _ _ (shFlat_get hoj).2)
          have fi0 := HRow.out.free (i * 2)
          have fi1 := HRow.out.free (i * 2 + 1)
          have fj0 := HRow.out.free (j * 2)
          have fj1 := HRow.out.free (j * 2 + 1)
          obtain ⟨an, aq, ac, ax, hai⟩ : ∃ n q c l, oi.n = n ∧ oi.q = q ∧ oi.c = c ∧ oi.xs.length = l := ⟨_, _, _, _, rfl, rfl, rfl, rfl⟩
          obtain ⟨bn, bq, bc, bx, hbj⟩ : ∃ n q c l, oj.n = n ∧ oj.q = q ∧ oj.c = c ∧ oj.xs.length = l := ⟨_, _, _, _, rfl, rfl, rfl, rfl⟩
          rw [hai.1] at li0
          rw [hai.2.1, hai.2.2.1, hai.2.2.2] at li1
          rw [hbj.1] at lj0
          rw [hbj.2.1, hbj.2.2.1, hbj.2.2.2] at lj1
          have r1 := HRow.out.setCell (i * 2) (.int .i64 bn)
          have r2 := r1.setCell (i * 2 + 1) (.slice bq bx bc)
          have r3 := r2.setCell (j * 2) (.int .i64 an)
          have r4 := r3.setCell (j * 2 + 1) (.slice aq ax ac)
          obtain ⟨u1, hu1⟩ : ∃ v, (wr.setCell ⟨gl, i * 2, none⟩ (.int .i64 bn)).cell? ⟨gl, i * 2 + 1, none⟩ = some v := ⟨_, r1.cell (i := i * 2 + 1) (List.getElem?_eq_getElem (by simp only [List.length_set, List.length_append]; omega))⟩
          obtain ⟨u2, hu2⟩ : ∃ v, ((wr.setCell ⟨gl, i * 2, none⟩ (.int .i64 bn)).setCell ⟨gl, i * 2 + 1, none⟩ (.slice bq bx bc)).cell? ⟨gl, j * 2, none⟩ = some v := ⟨_, r2.cell (i := j * 2) (List.getElem?_eq_getElem (by simp only [List.length_set, List.length_append]; omega))⟩
          obtain ⟨u3, hu3⟩ : ∃ v, (((wr.setCell ⟨gl, i * 2, none⟩ (.int .i64 bn)).setCell ⟨gl, i * 2 + 1, none⟩ (.slice bq bx bc)).setCell ⟨gl, j * 2, none⟩ (.int .i64 an)).cell? ⟨gl, j * 2 + 1, none⟩ = some v := ⟨_, r3.cell (i := j * 2 + 1) (List.getElem?_eq_getElem (by simp only [List.length_set, List.length_append]; omega))⟩
          have o4 : Only [gl] wr ((((wr.setCell ⟨gl, i * 2, none⟩ (.int .i64 bn)).setCell ⟨gl, i * 2 + 1, none⟩ (.slice bq bx bc)).setCell ⟨gl, j * 2, none⟩ (.int .i64 an)).setCell ⟨gl, j * 2 + 1, none⟩ (.slice aq ax ac)).drew :=
            (((((Only.setCell wr ⟨gl, i * 2, none⟩ _).trans (Only.setCell _ ⟨gl, i * 2 + 1, none⟩ _) (fun i hi _ => hi)).trans (Only.setCell _ ⟨gl, j * 2, none⟩ _) (fun i hi _ => hi)).trans (Only.setCell _ ⟨gl, j * 2 + 1, none⟩ _) (fun i hi _ => hi)).trans0 (Only.drew _))
          have hr4 := r4.only0 (Only.drew _)
          have hflat : (((((shFlat Ls ++ rest).set (i * 2) (.int .i64 bn)).set (i * 2 + 1) (.slice bq bx bc)).set (j * 2) (.int .i64 an)).set (j * 2 + 1) (.slice aq ax ac)) = shFlat (swapL Ls i j) ++ rest := by
            rw [List.set_append_left _ _ (by omega), List.set_append_left _ _ (by simp only [List.length_set]; omega), List.set_append_left _ _ (by simp only [List.length_set]; omega), List.set_append_left _ _ (by simp only [List.length_set]; omega), swapL_eq hoi hoj]
            congr 1
            rw [← hbj.1, ← hbj.2.1, ← hbj.2.2.1, ← hbj.2.2.2, ← hai.1, ← hai.2.1, ← hai.2.2.1, ← hai.2.2.2, shFlat_set hil, shFlat_set (by rw [List.length_set]; exact hjl2)]
          rw [hflat] at hr4
          have HRow2 := Lib.hid hr4
          have HO4 := Lib.hid (HOl.out.trans o4 (fun i hi _ => hi))
          have HLl2 : Hid ((swapL Ls i j).length = k + m) := Lib.hid (by rw [swapL_len]; exact HLl.out)
          have HIn2 : Hid (∀ o ∈ swapL Ls i j, o ∈ L) := Lib.hid fun o ho => HIn.out o (swapL_mem ho)
          have HAp2 := Lib.hid (swapL_apart hil hjl2 HAp.out)
          clear hil hjl2 hoi hoj hfl hget hai hbj r1 r2 r3 r4 o4 hr4 hflat HOl HRow HLl HIn HAp
          go_wp2_with fail
          go_region
          go_wp2_with fail
          exact ⟨⟨i + 1, swapL Ls i j, by go_num, by omega, HLl2, HRow2, HIn2, HAp2, HO4⟩, by simp [intOf]; omega⟩
        · have HLk : Hid ((Ls.take k).length = k) := Lib.hid (by rw [List.length_take, HLl.out]; omega)
          have hinv : ∀ o ∈ Ls.take k, ∃ j : Nat, j < k + m ∧ o.n = (j : Int) ∧ (encB k m size xs)[j]? = some o.xs := fun o ho => by
            have := H0ok.out o (HIn.out o (List.mem_of_mem_take ho))
            rwa [HE.out, ← Hsize.out] at this
          have hap := take_apart (k := k) HAp.out
          have hgood := any_good HLk.out Hfit.out hinv hap
          have hdata := any_data (by omega) HLk.out Hfit.out hinv hap
          have hbytes := any_bytes (by omega) Hn1.out HLk.out Hfit.out hinv hap
          have hsh : ∀ w, Only [] wr w → Shards w (some ⟨gl, 0, none⟩) (Ls.take k) := fun w ho => shards_of (by
            have := (HRow.out.only0 ho).rd0.take (k * 2)
            rwa [List.take_append_of_le_length (by rw [shFlat_length, HLl.out]; omega), shFlat_take] at this) (fun o h => H0st.out o (HIn.out o (List.mem_of_mem_take h)) w (HOl.out.trans0 ho))
          have hEk : ∀ i, i < k + m → ∀ l, E[i]? = some l → combB (rowB k i) (dataB k size xs) size = l := fun i hi l hl => by
            rw [HE.out, ← Hsize.out, encB_get hi] at hl
            exact Option.some.inj hl
          have HGood := Lib.hid hgood
          have HData := Lib.hid hdata
          have HBytes := Lib.hid hbytes
          have HSh := Lib.hid hsh
          have HEk := Lib.hid hEk
          have HOw : Hid (Only [] w0 wr) := Lib.hid ((HO3.out.trans0 HO.out).transN HOl.out (by simpa using Hgl0.out))
          have HRBw := Lib.hid (HRB.out.only HOl.out (by simpa using HBl.out))
          have hc0 := HRBw.out.cell (i := 0) rfl
          have hc1 := HRBw.out.cell (i := 1) rfl
          have hc2 := HRBw.out.cell (i := 2) rfl
          have HLs : Hid (Lists wr (some ⟨gq, 0, none⟩) E) := Lib.hid (by
            have h := HNL.out.only0 HO.out
            exact (h.only HOl.out (by
              intro x hx
              obtain rfl := List.mem_singleton.1 hx
              have h1 := HGl.out
              refine ⟨fun hm => by have := HNL.out.lt _ hm; omega, fun hm => ?_⟩
              have := (ownBlk HNL.out.own _ hm).2
              omega)).lists)
          clear hinv hap hgood hdata hbytes hsh hEk HRow HIn HAp H0st H0ok
          generalize Ls.take k = LK at *
          obtain ⟨w7, hw7⟩ : ∃ w, w = wr := ⟨_, rfl⟩
          subst hw7
          have hkc : (k : Int) ≤ (c : Int) := by have := Hlc.out; omega
          have hp1 := Hp1.out
          rcases Nat.lt_or_ge i (k + m) with hlt2 | hlt2
          have hi1 : (i : Int) < (k : Int) + (m : Int) := by omega
          have hi2 : ¬ (i : Int) < (n3 : Int) := fun h => hlt ⟨hlt2, by omega⟩
          rotate_left 1
          have hi1 : ¬ (i : Int) < (k : Int) + (m : Int) := by omega
          all_goals
            clear hp1
            go_wp2_with fail
            -- <<R20
            refine wp_region_rg2 (Only []) [[(1, none)], [(105, some 0)], [(1, none)], [(107, some 0)], [(1, none)], [(109, some 0)], [(110, some 0)], [(6, none)], [(1, none)], [(113, some 0)], [(112, some 2), (114, some 0)], [(106, some 9), (108, some 7), (111, some 4), (115, some 0)], [(116, some 0)], [(104, some 0)], [(104, some 1)], [(117, some 1)], [(118, some 1)]] [(11, 1), (4, 0)] [none, none, none, none, some 4, none, none, none, none, none, none, some 11, none, none, none, none, none, none, none, none, none, none, none, none, none, none, none, none, none, none, none, none, none, none, none, none, none, none, none, none, none, none, none, none, none, none, none, none, none, none, none, none, none, none, none, none, none, none, none, none, none, none, none, none, none, none, none, none, none, none, none, none, none, none, none, none, none, none, none, none, none, none, none, none, none, none, none, none, none, none, none, none, none, none, none, none, none, none, none, none, none, none, none, none, some 104, some 105, some 106, some 107, some 108, some 109, some 110, some 111, some 112, some 113, some 114, some 115, some 116, some 117, some 118, none, none, none, none, none, none, none, none, none, none, none, none, none, none, none, none, none, none, none, none, none, none, none, none, none, none, none, none, none, none, none, none, none, none, none, none, none, none, none, none, none, none, none, none] (by kernel_rfl) rfl (by kernel_rfl) (fun _ => Only.refl _ _) (fun _ _ _ h k => h.trans0 k) (Only.drew _) (by kernel_rfl) ?_
            -- 0: s105 := fieldAddr 73 t1 0
            apply rg_ev
            · intro a w hR hf
              obtain ⟨e1, -⟩ := hf
              replace e1 : a.tmps.getD 1 undef = _ := e1
              refine rg_plain rfl fun K hK => ?_
              go_simp
              exact hK _ _ rfl (Only.refl _ _)
            -- 1: s106 := load 3 t105
            apply rg_ev
            · intro a w hR hf
              obtain ⟨e105, -⟩ := hf
              replace e105 : a.tmps.getD 105 undef = _ := e105
              refine rg_plain rfl fun K hK => ?_
              have h1 := hR.cell hc0 (by simp)
              go_simp
              exact hK _ _ rfl (Only.refl _ _)
            -- 2: s107 := fieldAddr 73 t1 1
            apply rg_ev
            · intro a w hR hf
              obtain ⟨e1, -⟩ := hf
              replace e1 : a.tmps.getD 1 undef = _ := e1
              refine rg_plain rfl fun K hK => ?_
              go_simp
              exact hK _ _ rfl (Only.refl _ _)
            -- 3: s108 := load 3 t107
            apply rg_ev
            · intro a w hR hf
              obtain ⟨e107, -⟩ := hf
              replace e107 : a.tmps.getD 107 undef = _ := e107
              refine rg_plain rfl fun K hK => ?_
              have h3 := hR.cell hc1 (by simp)
              go_simp
              exact hK _ _ rfl (Only.refl _ _)
            -- 4: s109 := fieldAddr 73 t1 2
            apply rg_ev
            · intro a w hR hf
              obtain ⟨e1, -⟩ := hf
              replace e1 : a.tmps.getD 1 undef = _ := e1
              refine rg_plain rfl fun K hK => ?_
              go_simp
              exact hK _ _ rfl (Only.refl _ _)
            -- 5: s110 := load 27 t109
            apply rg_ev
            · intro a w hR hf
              obtain ⟨e109, -⟩ := hf
              replace e109 : a.tmps.getD 109 undef = _ := e109
              refine rg_plain rfl fun K hK => ?_
              have h5 := hR.cell hc2 (by simp)
              go_simp
              exact hK _ _ rfl (Only.refl _ _)
            -- 6: s111 := call { builtin len, args := #[t110], #[27] }
            apply rg_ev
            · intro a w hR hf
              obtain ⟨e110, -⟩ := hf
              replace e110 : a.tmps.getD 110 undef = _ := e110
              refine rg_plain rfl fun K hK => ?_
              go_simp
              exact hK _ _ rfl (Only.refl _ _)
            -- 7: s112 := move t6
            apply rg_ev
            · intro a w hR hf
              obtain ⟨e6, -⟩ := hf
              replace e6 : a.tmps.getD 6 undef = _ := e6
              refine rg_plain rfl fun K hK => ?_
              go_simp
              exact hK _ _ rfl (Only.refl _ _)
            -- 8: s113 := fieldAddr 73 t1 0
            apply rg_ev
            · intro a w hR hf
              obtain ⟨e1, -⟩ := hf
              replace e1 : a.tmps.getD 1 undef = _ := e1
              refine rg_plain rfl fun K hK => ?_
              go_simp
              exact hK _ _ rfl (Only.refl _ _)
            -- 9: s114 := load 3 t113
            apply rg_ev
            · intro a w hR hf
              obtain ⟨e113, -⟩ := hf
              replace e113 : a.tmps.getD 113 undef = _ := e113
              refine rg_plain rfl fun K hK => ?_
              have h9 := hR.cell hc0 (by simp)
              go_simp
              exact hK _ _ rfl (Only.refl _ _)
            -- 10: s115 := slice 75 t112 none (some t114) none
            apply rg_ev
            · intro a w hR hf
              obtain ⟨e112, e114, -⟩ := hf
              replace e112 : a.tmps.getD 112 undef = _ := e112
              replace e114 : a.tmps.getD 114 undef = _ := e114
              refine rg_plain rfl fun K hK => ?_
              go_simp
              exact hK _ _ rfl (Only.refl _ _)
            -- 11: s116 := call { value (Operand.func 37), args := #[t106, t108, t111, t115], #[3, 3, 3, 75] }
            refine ⟨TupD xs n1 w7.heap.size, TupD.stable, fun a w hR hf => ?_, ?_⟩
            · obtain ⟨e106, e108, e111, e115, -⟩ := hf
              replace e106 : a.tmps.getD 106 undef = _ := e106
              replace e108 : a.tmps.getD 108 undef = _ := e108
              replace e111 : a.tmps.getD 111 undef = _ := e111
              replace e115 : a.tmps.getD 115 undef = _ := e115
              refine rg_plain rfl fun K hK => ?_
              go_simp
              refine (decode_any k m n1 k c (some ⟨gl, 0, none⟩) LK w aD (HeD.out.only0 (HOw.out.trans0 hR)) Hl.out (by omega) HLk.out (by omega) (HSh.out w hR)).mono ?_
              rintro e w' ⟨ho, ⟨-, q, c, rfl, own⟩ | ⟨hb, -⟩⟩
              · rw [HBytes.out] at own; exact hK _ _ ⟨q, c, rfl, own.weaken hR.size⟩ ho
              · exact absurd (by rw [← Hsize.out]; exact HGood.out) hb
            -- 12: s104 := move t116
            refine ⟨TupD xs n1 w7.heap.size, TupD.stable, fun a w hR hf => ?_, ?_⟩
            · obtain ⟨e116, -⟩ := hf
              replace e116 : TupD xs n1 w7.heap.size (a.tmps.getD 116 undef) w := e116
              refine rg_plain rfl fun K hK => ?_
              generalize hv116 : a.tmps.getD 116 undef = v116 at e116
              go_simp
              exact hK _ _ e116 (Only.refl _ _)
            -- 13: s117 := extract t104 0
            refine ⟨OwnD xs n1 w7.heap.size, OwnD.stable, fun a w hR hf => ?_, ?_⟩
            · obtain ⟨e104, -⟩ := hf
              replace e104 : TupD xs n1 w7.heap.size (a.tmps.getD 104 undef) w := e104
              refine rg_plain rfl fun K hK => ?_
              obtain ⟨q, c, e104, ow⟩ := e104
              go_simp
              exact hK _ _ ⟨q, c, rfl, ow⟩ (Only.refl _ _)
            -- 14: s118 := extract t104 1
            apply rg_ev
            · intro a w hR hf
              obtain ⟨e104, -⟩ := hf
              replace e104 : TupD xs n1 w7.heap.size (a.tmps.getD 104 undef) w := e104
              refine rg_plain rfl fun K hK => ?_
              obtain ⟨q, c, e104, ow⟩ := e104
              go_simp
              exact hK _ _ rfl (Only.refl _ _)
            -- 15: s11 := assign t117
            refine ⟨OwnD xs n1 w7.heap.size, OwnD.stable, fun a w hR hf => ?_, ?_⟩
            · obtain ⟨e117, -⟩ := hf
              replace e117 : OwnD xs n1 w7.heap.size (a.tmps.getD 117 undef) w := e117
              refine rg_plain rfl fun K hK => ?_
              generalize hv117 : a.tmps.getD 117 undef = v117 at e117
              go_simp
              exact hK _ _ e117 (Only.refl _ _)
            -- 16: s4 := assign t118
            apply rg_ev
            · intro a w hR hf
              obtain ⟨e118, -⟩ := hf
              replace e118 : a.tmps.getD 118 undef = _ := e118
              refine rg_plain rfl fun K hK => ?_
              go_simp
              exact hK _ _ rfl (Only.refl _ _)
            intro f20 w20 hR20 hf
            dsimp only [mergeT]
            obtain ⟨e11, e4, -⟩ := hf
            replace e11 : OwnD xs n1 w7.heap.size (f20 11) w20 := e11
            replace e4 : f20 4 = _ := e4
            rw [e4]
            -- R20>>
            obtain ⟨q11, c11, e11, own11⟩ := e11
            rw [e11]
            obtain ⟨rd11, hl11, hq11, -, -, -⟩ := own11.view
            rw [u8s_length] at hl11
            have hv1 := conv_bytes (P := Tryd.prog) (c := c11) (xs := xs) w20 Tryd.underlying27 Tryd.underlying5 Tryd.underlying9 rd11 hl11 hq11
            have hv2 := conv_bytes (P := Tryd.prog) (c := c1) w20 Tryd.underlying27 Tryd.underlying5 Tryd.underlying9 (hHx1.out.only0 (HOw.out.trans0 hR20)) Hn1.out Hp1.out
            have HOz0 := Lib.hid hR20
            have hc2 := hR20.cell hc2 (by simp)
            clear rd11 hl11 hq11 own11 e11 hR20 e4
            go_wp2_with fail
            clear hv1 hv2 hc2
            clear hlt2 hi1
            go_loopw [131] (fun x wr => ∃ i : Nat, x = .int .i64 (i : Int) ∧ i ≤ k + m ∧ Hid (Only [] w20 wr)) (fun x _ => k + m - (intOf x).toNat)
            case atStart => exact ⟨0, rfl, Nat.zero_le _, Lib.hid (Only.refl _ _)⟩
            case round =>
              obtain ⟨i, rfl, hi, HO8⟩ := hrel
              by_cases hlt : i < k + m
              · have hii : (i : Int) < (k : Int) + (m : Int) := by omega
                obtain ⟨Ei, hEi⟩ : ∃ l, E[i]? = some l := ⟨_, List.getElem?_eq_getElem (by rw [HEl.out]; exact hlt)⟩
                have HEi := Lib.hid hEi
                have HOz : Hid (Only [] w7 wr) := Lib.hid (HOz0.out.trans0 HO8.out)
                have HOr : Hid (Only [] w0 wr) := Lib.hid (HOw.out.trans0 HOz.out)
                obtain ⟨bl, ol, ql, cl, el, hcl, hrl, hql, -⟩ := (HLs.out.only0 HOz.out) i Ei hEi
                obtain ⟨rfl, rfl⟩ : gq = bl ∧ 0 = ol := by simpa using el
                have hEil := HNL.out.each Ei (List.mem_of_getElem? hEi)
                rw [hEil] at hcl hql
                rw [Nat.zero_add] at hcl
                have HEil := Lib.hid hEil
                have Hql := Lib.hid hql
                have Hrl := Lib.hid hrl
                have hc0 := HOz.out.cell (HRBw.out.cell (i := 0) rfl) (by simp)
                have hc1 := HOz.out.cell (HRBw.out.cell (i := 1) rfl) (by simp)
                have hc2 := HOz.out.cell (HRBw.out.cell (i := 2) rfl) (by simp)
                clear hEi el hrl hql hEil
                go_wp2_with fail
                -- <<R26
                refine wp_region_rg2 (Only []) [[(1, none)], [(135, some 0)], [(1, none)], [(137, some 0)], [(1, none)], [(139, some 0)], [(140, some 0)], [(6, none)], [(1, none)], [(143, some 0)], [(142, some 2), (144, some 0)], [(12, none)], [(136, some 10), (138, some 8), (141, some 5), (145, some 1), (146, some 0)], [(147, some 0)], [(134, some 0)], [(134, some 1)], [(148, some 1)], [(149, some 1)]] [(13, 1), (14, 0)] [none, none, none, none, none, none, none, none, none, none, none, none, none, some 13, some 14, none, none, none, none, none, none, none, none, none, none, none, none, none, none, none, none, none, none, none, none, none, none, none, none, none, none, none, none, none, none, none, none, none, none, none, none, none, none, none, none, none, none, none, none, none, none, none, none, none, none, none, none, none, none, none, none, none, none, none, none, none, none, none, none, none, none, none, none, none, none, none, none, none, none, none, none, none, none, none, none, none, none, none, none, none, none, none, none, none, none, none, none, none, none, none, none, none, none, none, none, none, none, none, none, none, none, none, none, none, none, none, none, none, none, none, none, none, none, none, some 134, some 135, some 136, some 137, some 138, some 139, some 140, some 141, some 142, some 143, some 144, some 145, some 146, some 147, some 148, some 149, none, none, none, none, none, none, none, none, none, none, none, none, none] (by kernel_rfl) rfl (by kernel_rfl) (fun _ => Only.refl _ _) (fun _ _ _ h k => h.trans0 k) (Only.drew _) (by kernel_rfl) ?_
                -- 0: s135 := fieldAddr 73 t1 0
                apply rg_ev
                · intro a w hR hf
                  obtain ⟨e1, -⟩ := hf
                  replace e1 : a.tmps.getD 1 undef = _ := e1
                  refine rg_plain rfl fun K hK => ?_
                  go_simp
                  exact hK _ _ rfl (Only.refl _ _)
                -- 1: s136 := load 3 t135
                apply rg_ev
                · intro a w hR hf
                  obtain ⟨e135, -⟩ := hf
                  replace e135 : a.tmps.getD 135 undef = _ := e135
                  refine rg_plain rfl fun K hK => ?_
                  have h1 := hR.cell hc0 (by simp)
                  go_simp
                  exact hK _ _ rfl (Only.refl _ _)
                -- 2: s137 := fieldAddr 73 t1 1
                apply rg_ev
                · intro a w hR hf
                  obtain ⟨e1, -⟩ := hf
                  replace e1 : a.tmps.getD 1 undef = _ := e1
                  refine rg_plain rfl fun K hK => ?_
                  go_simp
                  exact hK _ _ rfl (Only.refl _ _)
                -- 3: s138 := load 3 t137
                apply rg_ev
                · intro a w hR hf
                  obtain ⟨e137, -⟩ := hf
                  replace e137 : a.tmps.getD 137 undef = _ := e137
                  refine rg_plain rfl fun K hK => ?_
                  have h3 := hR.cell hc1 (by simp)
                  go_simp
                  exact hK _ _ rfl (Only.refl _ _)
                -- 4: s139 := fieldAddr 73 t1 2
                apply rg_ev
                · intro a w hR hf
                  obtain ⟨e1, -⟩ := hf
                  replace e1 : a.tmps.getD 1 undef = _ := e1
                  refine rg_plain rfl fun K hK => ?_
                  go_simp
                  exact hK _ _ rfl (Only.refl _ _)
                -- 5: s140 := load 27 t139
                apply rg_ev
                · intro a w hR hf
                  obtain ⟨e139, -⟩ := hf
                  replace e139 : a.tmps.getD 139 undef = _ := e139
                  refine rg_plain rfl fun K hK => ?_
                  have h5 := hR.cell hc2 (by simp)
                  go_simp
                  exact hK _ _ rfl (Only.refl _ _)
                -- 6: s141 := call { builtin len, args := #[t140], #[27] }
                apply rg_ev
                · intro a w hR hf
                  obtain ⟨e140, -⟩ := hf
                  replace e140 : a.tmps.getD 140 undef = _ := e140
                  refine rg_plain rfl fun K hK => ?_
                  go_simp
                  exact hK _ _ rfl (Only.refl _ _)
                -- 7: s142 := move t6
                apply rg_ev
                · intro a w hR hf
                  obtain ⟨e6, -⟩ := hf
                  replace e6 : a.tmps.getD 6 undef = _ := e6
                  refine rg_plain rfl fun K hK => ?_
                  go_simp
                  exact hK _ _ rfl (Only.refl _ _)
                -- 8: s143 := fieldAddr 73 t1 0
                apply rg_ev
                · intro a w hR hf
                  obtain ⟨e1, -⟩ := hf
                  replace e1 : a.tmps.getD 1 undef = _ := e1
                  refine rg_plain rfl fun K hK => ?_
                  go_simp
                  exact hK _ _ rfl (Only.refl _ _)
                -- 9: s144 := load 3 t143
                apply rg_ev
                · intro a w hR hf
                  obtain ⟨e143, -⟩ := hf
                  replace e143 : a.tmps.getD 143 undef = _ := e143
                  refine rg_plain rfl fun K hK => ?_
                  have h9 := hR.cell hc0 (by simp)
                  go_simp
                  exact hK _ _ rfl (Only.refl _ _)
                -- 10: s145 := slice 75 t142 none (some t144) none
                apply rg_ev
                · intro a w hR hf
                  obtain ⟨e142, e144, -⟩ := hf
                  replace e142 : a.tmps.getD 142 undef = _ := e142
                  replace e144 : a.tmps.getD 144 undef = _ := e144
                  refine rg_plain rfl fun K hK => ?_
                  go_simp
                  exact hK _ _ rfl (Only.refl _ _)
                -- 11: s146 := move t12
                apply rg_ev
                · intro a w hR hf
                  obtain ⟨e12, -⟩ := hf
                  replace e12 : a.tmps.getD 12 undef = _ := e12
                  refine rg_plain rfl fun K hK => ?_
                  go_simp
                  exact hK _ _ rfl (Only.refl _ _)
                -- 12: s147 := call { value (Operand.func 39), args := #[t136, t138, t141, t145, t146], #[3, 3, 3, 75, 3] }
                refine ⟨RebT Ei size, RebT.stable _ _, fun a w hR hf => ?_, ?_⟩
                · obtain ⟨e136, e138, e141, e145, e146, -⟩ := hf
                  replace e136 : a.tmps.getD 136 undef = _ := e136
                  replace e138 : a.tmps.getD 138 undef = _ := e138
                  replace e141 : a.tmps.getD 141 undef = _ := e141
                  replace e145 : a.tmps.getD 145 undef = _ := e145
                  replace e146 : a.tmps.getD 146 undef = _ := e146
                  refine rg_plain rfl fun K hK => ?_
                  go_simp
                  refine (rebuild_any k m n1 k c i (some ⟨gl, 0, none⟩) LK w aD (HeD.out.only0 (HOr.out.trans0 hR)) Hl.out (by omega) hlt HLk.out (by omega) (HSh.out w (HOz.out.trans0 hR))).mono ?_
                  rintro e w' ⟨ho, ⟨-, g, rfl, hg, r⟩ | ⟨hb, -⟩⟩
                  · rw [← Hsize.out, HData.out, HEk.out i hlt Ei HEi.out] at r; exact hK _ _ ⟨g, by rw [← Hsize.out], r⟩ ho
                  · exact absurd (by rw [← Hsize.out]; exact HGood.out) hb
                -- 13: s134 := move t147
                refine ⟨RebT Ei size, RebT.stable _ _, fun a w hR hf => ?_, ?_⟩
                · obtain ⟨e147, -⟩ := hf
                  replace e147 : RebT Ei size (a.tmps.getD 147 undef) w := e147
                  refine rg_plain rfl fun K hK => ?_
                  generalize hv147 : a.tmps.getD 147 undef = v147 at e147
                  go_simp
                  exact hK _ _ e147 (Only.refl _ _)
                -- 14: s148 := extract t134 0
                refine ⟨RebS Ei size, RebS.stable _ _, fun a w hR hf => ?_, ?_⟩
                · obtain ⟨e134, -⟩ := hf
                  replace e134 : RebT Ei size (a.tmps.getD 134 undef) w := e134
                  refine rg_plain rfl fun K hK => ?_
                  obtain ⟨g, e134, ow⟩ := e134
                  go_simp
                  exact hK _ _ ⟨g, rfl, ow⟩ (Only.refl _ _)
                -- 15: s149 := extract t134 1
                apply rg_ev
                · intro a w hR hf
                  obtain ⟨e134, -⟩ := hf
                  replace e134 : RebT Ei size (a.tmps.getD 134 undef) w := e134
                  refine rg_plain rfl fun K hK => ?_
                  obtain ⟨g, e134, ow⟩ := e134
                  go_simp
                  exact hK _ _ rfl (Only.refl _ _)
                -- 16: s13 := assign t148
                refine ⟨RebS Ei size, RebS.stable _ _, fun a w hR hf => ?_, ?_⟩
                · obtain ⟨e148, -⟩ := hf
                  replace e148 : RebS Ei size (a.tmps.getD 148 undef) w := e148
                  refine rg_plain rfl fun K hK => ?_
                  generalize hv148 : a.tmps.getD 148 undef = v148 at e148
                  go_simp
                  exact hK _ _ e148 (Only.refl _ _)
                -- 17: s14 := assign t149
                apply rg_ev
                · intro a w hR hf
                  obtain ⟨e149, -⟩ := hf
                  replace e149 : a.tmps.getD 149 undef = _ := e149
                  refine rg_plain rfl fun K hK => ?_
                  go_simp
                  exact hK _ _ rfl (Only.refl _ _)
                intro f26 w26 hR26 hf
                dsimp only [mergeT]
                obtain ⟨e13, e14, -⟩ := hf
                replace e13 : RebS Ei size (f26 13) w26 := e13
                replace e14 : f26 14 = _ := e14
                rw [e14]
                -- R26>>
                obtain ⟨g26, e13, r26⟩ := e13
                rw [e13]
                have HO26 := Lib.hid (HO8.out.trans0 hR26)
                have hcl := hR26.cell hcl (by simp)
                have Hrl := Lib.hid (Hrl.out.only0 hR26)
                clear e13 hR26 e14 hc0 hc1 hc2
                go_wp2_with fail
                -- <<R27
                refine wp_region_rg2 (Only []) [[(14, none)], [(150, some 0)], [(151, some 0)], [(152, some 0), (13, none)], [(152, some 1), (153, some 0)], [(152, some 2), (3, none)], [(152, some 3), (12, none)], [(152, some 4), (155, some 1), (156, some 0)], [(152, some 5), (157, some 0)], [(152, some 6), (158, some 0)], [(152, some 7), (154, some 5), (159, some 0)], [(152, some 8), (160, some 0)]] [(161, 0)] [none, none, none, none, none, none, none, none, none, none, none, none, none, none, none, none, none, none, none, none, none, none, none, none, none, none, none, none, none, none, none, none, none, none, none, none, none, none, none, none, none, none, none, none, none, none, none, none, none, none, none, none, none, none, none, none, none, none, none, none, none, none, none, none, none, none, none, none, none, none, none, none, none, none, none, none, none, none, none, none, none, none, none, none, none, none, none, none, none, none, none, none, none, none, none, none, none, none, none, none, none, none, none, none, none, none, none, none, none, none, none, none, none, none, none, none, none, none, none, none, none, none, none, none, none, none, none, none, none, none, none, none, none, none, none, none, none, none, none, none, none, none, none, none, none, none, none, none, none, none, some 150, some 151, some 152, some 153, some 154, some 155, some 156, some 157, some 158, some 159, some 160, some 161, none] (by kernel_rfl) rfl (by kernel_rfl) (fun _ => Only.refl _ _) (fun _ _ _ h k => h.trans0 k) (Only.drew _) (by kernel_rfl) ?_
                -- 0: s150 := move t14
                apply rg_ev
                · intro a w hR hf
                  obtain ⟨e14, -⟩ := hf
                  replace e14 : a.tmps.getD 14 undef = _ := e14
                  refine rg_plain rfl fun K hK => ?_
                  go_simp
                  exact hK _ _ rfl (Only.refl _ _)
                -- 1: s151 := binOp Binneq 31 t150 (const Value.nilIface) 31
                apply rg_ev
                · intro a w hR hf
                  obtain ⟨e150, -⟩ := hf
                  replace e150 : a.tmps.getD 150 undef = _ := e150
                  refine rg_plain rfl fun K hK => ?_
                  go_simp
                  exact hK _ _ rfl (Only.refl _ _)
                -- 2: s152 := move t151
                apply rg_ev
                · intro a w hR hf
                  obtain ⟨e151, -⟩ := hf
                  replace e151 : a.tmps.getD 151 undef = _ := e151
                  refine rg_plain rfl fun K hK => ?_
                  go_simp
                  exact hK _ _ rfl (Only.refl _ _)
                -- 3: s153 := move t13 [if 2=false]
                apply rg_ev
                · intro a w hR hf
                  obtain ⟨e152, e13, -⟩ := hf
                  replace e152 : a.tmps.getD 152 undef = _ := e152
                  replace e13 : a.tmps.getD 13 undef = _ := e13
                  refine rg_want rfl rfl e152 fun K hK => ?_
                  clear e152
                  go_simp
                  exact hK _ _ rfl (Only.refl _ _)
                -- 4: s154 := convert 27 9 t153 [if 2=false]
                apply rg_ev
                · intro a w hR hf
                  obtain ⟨e152, e153, -⟩ := hf
                  replace e152 : a.tmps.getD 152 undef = _ := e152
                  replace e153 : a.tmps.getD 153 undef = _ := e153
                  refine rg_want rfl rfl e152 fun K hK => ?_
                  clear e152
                  have h4 := conv_bytes (P := Tryd.prog) (c := size) w Tryd.underlying27 Tryd.underlying5 Tryd.underlying9 (r26.only0 hR).rd0 HEil.out (by simp)
                  go_simp
                  exact hK _ _ rfl (Only.refl _ _)
                -- 5: s155 := move t3 [if 2=false]
                apply rg_ev
                · intro a w hR hf
                  obtain ⟨e152, e3, -⟩ := hf
                  replace e152 : a.tmps.getD 152 undef = _ := e152
                  replace e3 : a.tmps.getD 3 undef = _ := e3
                  refine rg_want rfl rfl e152 fun K hK => ?_
                  clear e152
                  go_simp
                  exact hK _ _ rfl (Only.refl _ _)
                -- 6: s156 := move t12 [if 2=false]
                apply rg_ev
                · intro a w hR hf
                  obtain ⟨e152, e12, -⟩ := hf
                  replace e152 : a.tmps.getD 152 undef = _ := e152
                  replace e12 : a.tmps.getD 12 undef = _ := e12
                  refine rg_want rfl rfl e152 fun K hK => ?_
                  clear e152
                  go_simp
                  exact hK _ _ rfl (Only.refl _ _)
                -- 7: s157 := indexAddr 64 t155 t156 [if 2=false]
                apply rg_ev
                · intro a w hR hf
                  obtain ⟨e152, e155, e156, -⟩ := hf
                  replace e152 : a.tmps.getD 152 undef = _ := e152
                  replace e155 : a.tmps.getD 155 undef = _ := e155
                  replace e156 : a.tmps.getD 156 undef = _ := e156
                  refine rg_want rfl rfl e152 fun K hK => ?_
                  clear e152
                  go_simp
                  exact hK _ _ rfl (Only.refl _ _)
                -- 8: s158 := load 27 t157 [if 2=false]
                apply rg_ev
                · intro a w hR hf
                  obtain ⟨e152, e157, -⟩ := hf
                  replace e152 : a.tmps.getD 152 undef = _ := e152
                  replace e157 : a.tmps.getD 157 undef = _ := e157
                  refine rg_want rfl rfl e152 fun K hK => ?_
                  clear e152
                  have h8 := hR.cell hcl (by simp)
                  go_simp
                  exact hK _ _ rfl (Only.refl _ _)
                -- 9: s159 := convert 27 9 t158 [if 2=false]
                apply rg_ev
                · intro a w hR hf
                  obtain ⟨e152, e158, -⟩ := hf
                  replace e152 : a.tmps.getD 152 undef = _ := e152
                  replace e158 : a.tmps.getD 158 undef = _ := e158
                  refine rg_want rfl rfl e152 fun K hK => ?_
                  clear e152
                  have h9 := conv_bytes (P := Tryd.prog) (c := cl) w Tryd.underlying27 Tryd.underlying5 Tryd.underlying9 (Hrl.out.only0 hR) HEil.out Hql.out
                  go_simp
                  exact hK _ _ rfl (Only.refl _ _)
                -- 10: s160 := binOp Binneq 9 t154 t159 9 [if 2=false]
                apply rg_ev
                · intro a w hR hf
                  obtain ⟨e152, e154, e159, -⟩ := hf
                  replace e152 : a.tmps.getD 152 undef = _ := e152
                  replace e154 : a.tmps.getD 154 undef = _ := e154
                  replace e159 : a.tmps.getD 159 undef = _ := e159
                  refine rg_want rfl rfl e152 fun K hK => ?_
                  clear e152
                  go_simp
                  exact hK _ _ rfl (Only.refl _ _)
                -- 11: s161 := pick t152 (const (Value.bool true)) t160
                apply rg_ev
                · intro a w hR hf
                  obtain ⟨e152, e160, -⟩ := hf
                  replace e152 : a.tmps.getD 152 undef = _ := e152
                  replace e160 : a.tmps.getD 160 undef = _ := e160
                  refine rg_plain rfl fun K hK => ?_
                  go_simp
                  exact hK _ _ rfl (Only.refl _ _)
                intro f27 w27 hR27 hf
                dsimp only [mergeT]
                obtain ⟨e161, -⟩ := hf
                replace e161 : f27 161 = _ := e161
                rw [e161]
                -- R27>>
                have HO27 := Lib.hid (HO26.out.trans0 hR27)
                clear hR27 r26
                go_wp2_with fail
                go_roundw
                case rel => exact ⟨i + 1, by go_num, by omega, HO27⟩
                case measure => simp [intOf]; omega
              · obtain rfl : i = k + m := by omega
                have hii : ¬ ((k + m : Nat) : Int) < (k : Int) + (m : Int) := by omega
                go_wp2_with fail
                go_ret
                exact ⟨rfl, HOw.out.trans0 (HOz0.out.trans0 HO8.out)⟩
end Go.Proofs.YtlgcclhepegggaaDoor
