/- The walk of bollardlaw03.ShaPlays. -/
import Derived.Test.YtmddehbfimpjdaaPlaysState
import Derived.Test.YtmddehbfimpjdaaAlive03W
import Derived.Test.YtmddehbfimpjdaaRefSumW
import Derived.Test.YtmddehbfimpjdaaBytesW
import Derived.Test.YtmddehbfimpjdaaRegion
import Derived.Test.YtmddehbfimpjdaaStepLaw
import Derived.Deep.RegionWith
import Derived.Deep.DeepCutAuto
import Derived.Deep.Cut
set_option linter.unusedVariables false
namespace Go.Proofs.Ytmddehbfimpjdaa
open Go.RowKit

def ptail : List Op3 := [⟨2, 0, none, 0, 0, []⟩, ⟨2, 1, none, 0, 0, []⟩]
theorem ptail_ok (w : World) : ∀ o ∈ ptail, o.Ok w := by
  intro o ho
  have hz : ∀ a b : Int, a = 2 → (b = 0 ∨ b = 1) → (⟨a, b, none, 0, 0, []⟩ : Op3).Ok w := fun a b ha hb => by
    refine ⟨?_, ?_, rfl, Nat.le_refl _, by simp, by simp, Rd.nil _ _⟩
    · subst ha; simp
    · rcases hb with rfl | rfl <;> simp
  simp only [ptail, List.mem_cons, List.not_mem_nil, or_false] at ho
  rcases ho with rfl | rfl
  · exact hz 2 0 rfl (.inl rfl)
  · exact hz 2 1 rfl (.inr rfl)
theorem opsWeight_app (os rs : List Op3) : opsWeight (os ++ rs) = opsWeight os + opsWeight rs := by
  unfold opsWeight; rw [List.map_append, List.sum_append]
theorem opsWeight_len : ∀ os : List Op3, os.length ≤ opsWeight os
  | [] => Nat.zero_le _
  | o :: r => by have := opsWeight_len r; unfold opsWeight at *; simp only [List.map_cons, List.sum_cons, List.length_cons]; omega
theorem opsWeight_take : ∀ (os : List Op3) {j : Nat} {o : Op3}, os[j]? = some o → opsWeight (os.take (j + 1)) = opsWeight (os.take j) + o.m + 1
  | [], j, o, h => by simp at h
  | a :: r, 0, o, h => by obtain rfl := Option.some.inj h; simp [opsWeight]
  | a :: r, j + 1, o, h => by
    have := opsWeight_take r (j := j) (o := o) (by simpa using h)
    unfold opsWeight at *
    simp only [List.take_succ_cons, List.map_cons, List.sum_cons] at *
    omega
theorem opsWeight_le (os : List Op3) (j : Nat) : opsWeight (os.take j) ≤ opsWeight os := by
  have h := opsWeight_app (os.take j) (os.drop j)
  rw [List.take_append_drop] at h
  omega
theorem w_get2 {α : Type} (f : Nat → α) {k : Nat} (hk : k < 2) : [f 0, f 1][k]? = some (f k) := by
  match k, hk with
  | 0, _ => rfl
  | 1, _ => rfl
theorem w_bit0 (a : Int) : ∃ k : Nat, k < 2 ∧ bits .and .i64 a 1 = (k : Int) := by
  refine ⟨((BitVec.ofInt 64 a) &&& (BitVec.ofInt 64 ((1 : Nat) : Int))).toNat, ?_, ?_⟩
  · rw [BitVec.toNat_and]
    exact Nat.lt_of_le_of_lt Nat.and_le_right (by decide)
  · show IntKind.i64.wrap (((BitVec.ofInt 64 a) &&& (BitVec.ofInt 64 ((1 : Nat) : Int))).toNat : Int) = _
    exact i64_wrap_nat _ (by rw [BitVec.toNat_and]; exact Nat.lt_of_le_of_lt Nat.and_le_right (by decide))

set_option maxRecDepth 100000 in
set_option maxHeartbeats 8000000 in
theorem shaPlays_walk (p : Option Addr) (os : List Op3) (n cp : Nat) (ww : World)
    (hn : os.length = n) (hw : opsWeight os ≤ 1048576) (hpz : p = none → n = 0 ∧ cp = 0) (hacts : Acts ww p os) :
    Calls Try.prog 6 #[.slice p n cp] ww fun e w' => e = .returned (.bool true) ∧ Only [] ww w' := by
  have hn20 : n ≤ 1048576 := by have := opsWeight_len os; omega
  have Hn := Lib.hid hn
  have Hacts := Lib.hid hacts
  have Hpz := Lib.hid hpz
  have Hw := Lib.hid hw
  clear hn hacts hpz hw
  go_enter Try.func6, Try.ntmps6
  go_wp2_with fail
  (with_reducible refine (alive03_any ww).mono ?_)
  rintro e w1 ⟨rfl, o1⟩
  go_wp2_with fail
  (with_reducible refine (new_any w1).mono ?_)
  rintro e w2 ⟨b0, F0, rfl, hw2, ho2, hF2⟩
  go_wp2_with fail
  (with_reducible refine (new_any w2).mono ?_)
  rintro e w3 ⟨b1, F1, rfl, hw3, ho3, hF3⟩
  have oA : Only [] w3 (w3.alloc (.cells #[.pointer (some ⟨b0, 0, none⟩), .pointer (some ⟨b1, 0, none⟩)] 34)) := Only.alloc _ _
  have oB : Only [] (w3.alloc (.cells #[.pointer (some ⟨b0, 0, none⟩), .pointer (some ⟨b1, 0, none⟩)] 34)) ((w3.alloc (.cells #[.pointer (some ⟨b0, 0, none⟩), .pointer (some ⟨b1, 0, none⟩)] 34)).alloc (.cells #[.slice none 0 0, .slice none 0 0] 35)) := Only.alloc _ _
  have rA : Row (w3.alloc (.cells #[.pointer (some ⟨b0, 0, none⟩), .pointer (some ⟨b1, 0, none⟩)] 34)) w3.heap.size 34 [.pointer (some ⟨b0, 0, none⟩), .pointer (some ⟨b1, 0, none⟩)] := Row.new w3 _ _
  have rB : Row ((w3.alloc (.cells #[.pointer (some ⟨b0, 0, none⟩), .pointer (some ⟨b1, 0, none⟩)] 34)).alloc (.cells #[.slice none 0 0, .slice none 0 0] 35)) (w3.heap.size + 1) 35 [.slice none 0 0, .slice none 0 0] := Row.newAt _ _ _ (by simp)
  have hsB : ((w3.alloc (.cells #[.pointer (some ⟨b0, 0, none⟩), .pointer (some ⟨b1, 0, none⟩)] 34)).alloc (.cells #[.slice none 0 0, .slice none 0 0] 35)).heap.size = w3.heap.size + 1 + 1 := by simp
  have o4 : Only [] ww ((w3.alloc (.cells #[.pointer (some ⟨b0, 0, none⟩), .pointer (some ⟨b1, 0, none⟩)] 34)).alloc (.cells #[.slice none 0 0, .slice none 0 0] 35)) := (((o1.trans0 ho2).trans0 ho3).trans0 oA).trans0 oB
  have hF1lt := hw3.lt
  have hF0lt := hw2.lt
  have hs12 := o1.size
  have hs13 := ho2.size
  have hs23 := ho3.size
  have ws : PS ww ((w3.alloc (.cells #[.pointer (some ⟨b0, 0, none⟩), .pointer (some ⟨b1, 0, none⟩)] 34)).alloc (.cells #[.slice none 0 0, .slice none 0 0] 35)) w3.heap.size (fun i => match i with | 0 => F0 | 1 => F1 | 4 => [w3.heap.size] | 5 => [w3.heap.size + 1] | _ => []) (fun i => match i with | 0 => b0 | _ => b1) (fun _ => []) (fun _ => none) (fun _ => 0) (fun _ => 0) none [] := by
    refine ⟨?_, ?_, rA.only0 oB, rB, ⟨rfl, rfl⟩, ⟨Rd.nil _ _, rfl⟩, ⟨?_, ?_⟩, o4⟩
    · intro k hk
      match k, hk with
      | 0, _ => exact ((hw2.only ho3 (by simp)).only oA (by simp)).only oB (by simp)
      | 1, _ => exact (hw3.only oA (by simp)).only oB (by simp)
    · intro k hk
      match k, hk with
      | 0, _ => exact ⟨Own.nil _ _ _, rfl⟩
      | 1, _ => exact ⟨Own.nil _ _ _, rfl⟩
    · intro i j hi hj hij x hx hm
      have f0 : ∀ x ∈ F0, w1.heap.size ≤ x ∧ x < w2.heap.size := fun x hx => ⟨hF2 x hx, hF0lt x hx⟩
      have f1 : ∀ x ∈ F1, w2.heap.size ≤ x ∧ x < w3.heap.size := fun x hx => ⟨hF3 x hx, hF1lt x hx⟩
      match i, hi with
      | 0, _ => match j, hj with
        | 0, _ => exact hij rfl
        | 1, _ => have := f0 x hx; have := f1 x hm; omega
        | 2, _ => cases hm
        | 3, _ => cases hm
        | 4, _ => have := f0 x hx; simp at hm; omega
        | 5, _ => have := f0 x hx; simp at hm; omega
        | 6, _ => cases hm
      | 1, _ => match j, hj with
        | 0, _ => have := f1 x hx; have := f0 x hm; omega
        | 1, _ => exact hij rfl
        | 2, _ => cases hm
        | 3, _ => cases hm
        | 4, _ => have := f1 x hx; simp at hm; omega
        | 5, _ => have := f1 x hx; simp at hm; omega
        | 6, _ => cases hm
      | 2, _ => cases hx
      | 3, _ => cases hx
      | 4, _ => match j, hj with
        | 0, _ => simp at hx; have := f0 x hm; omega
        | 1, _ => simp at hx; have := f1 x hm; omega
        | 2, _ => cases hm
        | 3, _ => cases hm
        | 4, _ => exact hij rfl
        | 5, _ => simp at hx; simp at hm; omega
        | 6, _ => cases hm
      | 5, _ => match j, hj with
        | 0, _ => simp at hx; have := f0 x hm; omega
        | 1, _ => simp at hx; have := f1 x hm; omega
        | 2, _ => cases hm
        | 3, _ => cases hm
        | 4, _ => simp at hx; simp at hm; omega
        | 5, _ => exact hij rfl
        | 6, _ => cases hm
      | 6, _ => cases hx
    · intro i hi x hx
      rw [hsB]
      match i, hi with
      | 0, _ => have := hF2 x hx; have := hF0lt x hx; omega
      | 1, _ => have := hF3 x hx; have := hF1lt x hx; omega
      | 2, _ => cases hx
      | 3, _ => cases hx
      | 4, _ => simp at hx; omega
      | 5, _ => simp at hx; omega
      | 6, _ => cases hx
  have oE := Only.alloc ((w3.alloc (.cells #[.pointer (some ⟨b0, 0, none⟩), .pointer (some ⟨b1, 0, none⟩)] 34)).alloc (.cells #[.slice none 0 0, .slice none 0 0] 35)) (.cells #[] 37)
  obtain ⟨p1, c1, wP, Hr1, ow1, oP⟩ := acts_append (w0 := ((w3.alloc (.cells #[.pointer (some ⟨b0, 0, none⟩), .pointer (some ⟨b1, 0, none⟩)] 34)).alloc (.cells #[.slice none 0 0, .slice none 0 0] 35))) (m := n) (c := cp) (os := []) (rs := os) _ (OwnK.new (n := 0) [] (Nat.le_refl _) rfl (by omega)) oE (Hacts.out.only0 (o4.trans0 oE)).rd Hn.out Hpz.out (by omega)
  rw [Nat.zero_add, List.nil_append] at *
  have oQ := Only.alloc wP (.cells (opsFlat ptail).toArray 37)
  have rQ : Row _ wP.heap.size 37 (opsFlat ptail) := Row.new wP _ _
  obtain ⟨p2, c2, wz, Hr2, ow2, oz⟩ := acts_append (w0 := ((w3.alloc (.cells #[.pointer (some ⟨b0, 0, none⟩), .pointer (some ⟨b1, 0, none⟩)] 34)).alloc (.cells #[.slice none 0 0, .slice none 0 0] 35))) (m := 2) (c := 2) (os := os) (rs := ptail) _ (ow1.only0 oQ) (oP.trans0 oQ) rQ.rd0 rfl (by simp) (by omega)
  replace Hr2 : Hid ((Builtin.append_ #[31, 31] 31 #[.slice p1 n c1, .slice (some ⟨wP.heap.size, 0, none⟩) 2 2]).run Try.prog (wP.alloc (.cells #[.int .i64 2, .int .i64 0, .slice none 0 0, .int .i64 2, .int .i64 1, .slice none 0 0] 37)) = .ok (.slice p2 (n + 2) c2) wz) := Hr2
  have hb2 := ow2.view.2.2.2.2.2.2
  have wsz := ws.script oz ow2.view.2.2.1 hb2
  have hok : ∀ o ∈ os ++ ptail, o.Ok ww := fun o ho' => by
    rcases List.mem_append.1 ho' with h | h
    · exact Hacts.out.ok o h
    · exact ptail_ok ww o h
  have hl2 : (os ++ ptail).length = n + 2 := by rw [List.length_append, Hn.out]; rfl
  have hw2' : opsWeight (os ++ ptail) ≤ 1048578 := by rw [opsWeight_app]; have := Hw.out; have : opsWeight ptail = 2 := rfl; omega
  rw [hsB] at Hr1
  generalize hn2 : n + 2 = n2 at *
  have hn22 : n2 ≤ 1048578 := by omega
  generalize os ++ ptail = os2 at hl2 hw2' hok wsz
  have Hl2 := Lib.hid hl2
  have Hok := Lib.hid hok
  have Hw2 := Lib.hid hw2'
  have Hwsz := Lib.hid wsz
  clear hl2 hw2' ow2 rQ ow1 ws rA rB oA oB oE oP oQ hsB hok hw2 hw3 hn2 wsz hb2 oz o4 hF1lt hF0lt hs12 hs13 hs23 hF2 hF3 ho2 ho3 o1
  go_wp2_with (first | (at_builtin; refine wpl_append (s := .tmp 24) (x := .tmp 25) rfl rfl rfl rfl Hr1.out ?_) | (at_builtin; refine wpl_append (s := .tmp 26) (x := .tmp 29) rfl rfl rfl rfl Hr2.out ?_))
  clear Hr1 Hr2
  generalize w3.heap.size = g at *
  go_loopw [32, 5] (fun i wk wr => ∃ (j u : Nat) (d : Nat → List Nat) (B : Nat → Nat) (ys : Nat → List UInt8) (q : Nat → Option Addr) (m c : Nat → Nat), i = .int .i64 (j : Int) ∧ wk = .int .i64 (u : Int) ∧ j ≤ n2 ∧ u ≤ 4194304 ∧ Hid (PS ww wr g d B ys q m c p2 (opsFlat os2)) ∧ Hid (∀ k, k < 2 → (ys k).length ≤ opsWeight (os2.take j))) (fun i _ _ => n2 - (intOf i).toNat)
  case atStart => exact ⟨0, 0, _, _, _, _, _, _, rfl, rfl, Nat.zero_le _, by omega, Hwsz, fun k hk => Nat.zero_le _⟩
  case round =>
    obtain ⟨j, u, d, B, ys, q, m, c, rfl, rfl, hj, hu, Hws, Hy⟩ := hrel
    clear Hwsz
    have ws := Hws.out
    by_cases hlt : j < n2
    · have hji : (j : Int) < (n2 : Int) := by omega
      obtain ⟨o, hoj⟩ : ∃ o, os2[j]? = some o := ⟨_, List.getElem?_eq_getElem (by rw [Hl2.out]; exact hlt)⟩
      have ho1 := Hok.out o (List.mem_of_getElem? hoj)
      obtain ⟨b2, off2, rfl, _, hc0, hc1, hc2⟩ := (acts_of ws.sc.1 (fun o ho => (Hok.out o ho).only0 ws.only)) j o hoj
      obtain ⟨k, hk2, hbit⟩ := w_bit0 o.which
      have hki : (k : Int) < 2 := by omega
      have hwt := opsWeight_take os2 hoj
      have hwl := opsWeight_le os2 (j + 1)
      have hw2 := Hw2.out
      have hyk := Hy.out k hk2
      have rn : Row (wr.alloc (.cells #[.int .i64 o.kind, .int .i64 o.which, .slice o.p o.m o.c] 37)) wr.heap.size 37 o.cells := Row.new wr _ _
      have on : Only [] wr (wr.alloc (.cells #[.int .i64 o.kind, .int .i64 o.which, .slice o.p o.m o.c] 37)) := Only.alloc wr _
      have wn := ws.only0 on
      have hcB := wn.r0.cell (w_get2 (fun k => Value.pointer (some ⟨B k, 0, none⟩)) hk2)
      have hcP : (wr.alloc (.cells #[.int .i64 o.kind, .int .i64 o.which, .slice o.p o.m o.c] 37)).cell? ⟨g + 1, k, none⟩ = some (.slice (q k) (m k) (c k)) := wn.r1.cell (w_get2 (slV q m c) hk2)
      obtain ⟨hok1, hok2, hom, hoc, hoc2, hoz, hord⟩ := ho1
      have hlm : (ys k).length = m k := by have := (ws.own k hk2).1.view.2.1; rwa [u8s_length] at this
      have Hom := Lib.hid hom
      have Hoz := Lib.hid hoz
      have Hlm := Lib.hid hlm
      have Hoj := Lib.hid hoj
      clear hom hoz hlm hoj
      have hy1 : ∀ i, i < 2 → (ys i).length ≤ opsWeight (os2.take (j + 1)) := fun i hi => by have := Hy.out i hi; omega
      have hcN := rn.cell (i := 2) rfl
      have hcK := rn.cell (i := 0) rfl
      have hcW := rn.cell (i := 1) rfl
      have hsz := rn.lt
      have hbk : (m k : Int) ≤ 1048578 := by have := Hlm.out; omega
      have hbm : o.m ≤ 1048578 := by omega
      have hby : (ys k).length ≤ 1048578 := by omega
      have Hy1 := Lib.hid hy1
      have Hyk := Lib.hid (Hy.out k hk2)
      have Hwt := Lib.hid hwt
      clear hwt hy1 Hy
      by_cases hk1 : o.kind = 1
      · have hkb : (o.kind == 1) = true := by rw [hk1]; rfl
        clear hk1
        go_wp2_with fail
        generalize (wr.alloc (.cells #[.int .i64 o.kind, .int .i64 o.which, .slice o.p o.m o.c] 37)) = wa at *
        (with_reducible refine (bytes_any o.p o.bs o.m o.c wa Hom.out (by omega) Hoz.out (hord.only0 wn.only)).mono ?_)
        rintro e wb ⟨g9, rfl, hg9, r9, hob⟩
        have ws2 := wn.only0 hob
        have hcBb := hob.cell hcB (by simp)
        have hBd := (wn.hs k hk2).head
        have hB9 : B k < wa.heap.size := (wn.apt.2 k (by omega) _ hBd).2
        have Hr9 := Lib.hid (show Rd wb (some ⟨g9, 0, none⟩) (u8s o.bs) by have := r9.rd0.take o.m; rwa [u8s_take, List.take_left' Hom.out] at this)
        have hd9 : ∀ i, i < 7 → g9 ∉ d i := fun i hi hm => by have := (wn.apt.2 i hi _ hm).2; omega
        have hdn : ∀ i, i < 7 → wr.heap.size ∉ d i := fun i hi hm => by have := (ws.apt.2 i hi _ hm).2; omega
        have hg9a : g9 < wb.heap.size := r9.lt
        go_wp2_with fail
        (with_reducible refine (write_any wb (d k) (B k) (ys k) o.bs (some ⟨g9, 0, none⟩) o.m (o.m + 6) (ws2.hs k hk2) (fun w1 ho => Hr9.out.only ho (fun a ha hb => by obtain rfl := Option.some.inj ha; have := List.mem_singleton.1 hb; simp at this; omega)) Hom.out (by simp) (by omega) (by have := Hyk.out; omega)).mono ?_)
        rintro e we ⟨rfl, F', hH, hoe, hFe⟩
        have hgd1 : g + 1 ∉ d k := fun hm => (ws.sep (by omega) hm).2.1 rfl
        have hcPe := (hob.cell hcP (by simp))
        replace hcPe := hoe.cell hcPe hgd1
        have hcNe := hob.cell hcN (by simp)
        replace hcNe := hoe.cell hcNe (hdn k (by omega))
        have r9e := r9.only hoe (hd9 k (by omega))
        have own1 := ((ws2.own k hk2).1.only hoe (fun x hx hm => ws2.apt.1 (2 + k) k (by omega) (by omega) (by omega) x (ws2.ownB hk2 x hx) hm))
        have hrow1 := ws2.r1.only hoe hgd1
        have hlow := ws2.only.transN hoe (fun x hx => (ws2.apt.2 k (by omega) x hx).1)
        have hgd2 : g + 1 ∉ d (2 + k) := fun hm => (ws.sep (by omega) hm).2.1 rfl
        have hqd := (ws.own k hk2).2
        have hszE := hoe.size
        have hszB := hob.size
        have hszL := hlow.size
        have Hord := Lib.hid (hord.only0 hlow)
        have Hord0 := Lib.hid hord
        have Hown1 := Lib.hid own1
        have Hrow1 := Lib.hid hrow1
        have Hr9e := Lib.hid r9e
        have HH := Lib.hid hH
        have Hoe := Lib.hid hoe
        have HFe := Lib.hid hFe
        have Hws2 := Lib.hid ws2
        have Hlow := Lib.hid hlow
        have Hg0 := Lib.hid ws.g0
        have Hnr := Lib.hid hdn
        have Hd9 := Lib.hid hd9
        clear own1 hrow1 r9e hH hoe hFe ws2 hlow hdn hd9 Hws ws wn hcB hcP hcN hcK hcW hcBb hord rn on r9 Hacts hc0 hc1 hc2 Hr9 hBd hob
        go_upto_region 16 with (fail)
        go_cut [] (fun wx => ∃ q' c', Hid (Row wx (g + 1) 35 [slV (fun i => if i = k then q' else q i) (fun i => if i = k then m k + o.m else m i) (fun i => if i = k then c' else c i) 0, slV (fun i => if i = k then q' else q i) (fun i => if i = k then m k + o.m else m i) (fun i => if i = k then c' else c i) 1]) ∧ Hid (Own wx ww.heap.size 5 (.slice q' (m k + o.m) c') (u8s (ys k ++ o.bs))) ∧ Hid (∀ x ∈ blk q', x ∈ d (2 + k) ∨ we.heap.size ≤ x) ∧ Hid (Only ((g + 1) :: d (2 + k)) we wx))
        case first =>
          obtain ⟨q', c', wA, hra, oA, hA, hpA⟩ := append_owned (P := Try.prog) (bytes := 1) (c := o.c) (q := o.p) (m := o.m) (news := u8s o.bs) (t := 22) (ty := 22) we.drew Try.underlying22 infoU8s rfl (Hown1.out.only0 (Only.drew _)) (Hord.out.only0 (Only.drew _)) (by rw [u8s_length, Hom.out]) Hoz.out (fun v hv => u8s_one hv) (by omega) (by omega) hszL
          rw [hqd] at hA
          have rA := (Hrow1.out.only0 (Only.drew _)).only hA hgd2
          have h9c : wA.cell? ⟨g + 1, k, none⟩ = some (.slice (q k) (m k) (c k)) := rA.cell (w_get2 (slV q m c) hk2)
          have h9f := rA.free k
          have hst : Only [g + 1] wA (wA.setCell ⟨g + 1, k, none⟩ (.slice q' (m k + o.m) c')) := Only.setCell wA ⟨g + 1, k, none⟩ _
          have hG : ∀ x ∈ blk q', x ∈ d (2 + k) ∨ we.heap.size ≤ x := by
            intro x hx
            rcases hpA with rfl | ⟨g', rfl, hg'⟩
            · exact .inl (hqd ▸ hx)
            · simp [blk] at hx; subst hx; exact .inr hg'
          have F1 := Lib.hid (rA.setCell k (.slice q' (m k + o.m) c'))
          have F2 := Lib.hid (oA.only hst (fun x hx hm => by
            have hbx : x ∈ blk q' := by cases q' <;> simp [Value.ownBlock, blk] at hx ⊢; exact hx.symm
            obtain rfl : x = g + 1 := by simpa using hm
            rcases hG _ hbx with h | h
            · exact hgd2 h
            · have := Hg0.out; omega))
          have F3 := Lib.hid hG
          have F4 : Hid (Only ((g + 1) :: d (2 + k)) we (wA.setCell ⟨g + 1, k, none⟩ (.slice q' (m k + o.m) c'))) := Lib.hid ((((Only.drew we).mono (by simp)).trans hA (fun i hi _ => List.mem_cons_of_mem _ hi)).trans hst (fun i hi _ => by simp at hi; subst hi; simp))
          have Hra := Lib.hid hra
          clear hra rA hst hG oA hA hpA
          go_region_law (refine step_append_run rfl (.tmp 54) (.tmp 56) rfl (by simp [Act.eval]) (by simp [Act.eval]) Hra.out ?_)
          all_goals (go_wp2_with fail; go_meet)
          all_goals exact ⟨q', c', by rw [← slv_set q m c k hk2]; exact F1, by rw [u8s_append]; exact F2, F3, F4⟩
        case rest =>
        obtain ⟨q', c', HR1, Hown2, HG, HO⟩ := hcut
        have hg0 := Hg0.out
        have hnO : ∀ x, (∀ i, i < 7 → x ∉ d i) → x ≠ g + 1 → x ∉ (g + 1) :: d (2 + k) := fun x h1 h2 hm => by
          rcases List.mem_cons.1 hm with e | hm
          · exact h2 e
          · exact h1 _ (by omega) hm
        have hcNc := HO.out.cell hcNe (hnO wr.heap.size Hnr.out (by omega))
        have r9c := Hr9e.out.only HO.out (hnO g9 Hd9.out (by omega))
        have wsn := Hws2.out.write hk2 Hoe.out HH.out HFe.out HO.out HR1.out Hown2.out HG.out
        have hlowc := wsn.only
        clear hcNe
        go_wp2_with fail
        (with_reducible refine (kept_any g9 o.p o.bs o.m o.c o.m wc Hom.out (by omega) Hoz.out (by omega) r9c (Hord0.out.only0 hlowc)).mono ?_)
        rintro e we2 ⟨rfl, ⟨dn, rfl⟩⟩
        have ode := Only.drewN wc dn
        have wse := wsn.only0 ode
        have r9d := r9c.only0 ode
        generalize wc.drewN dn = we2 at ode wse r9d
        have Hwse := Lib.hid wse
        have HG9 : Hid (∀ x ∈ [g9], ww.heap.size ≤ x ∧ x ≠ g ∧ x ≠ g + 1 ∧ (∀ i, i < 4 → x ∉ (if i = k then F' else if i = 2 + k then blk q' else d i)) ∧ x ∉ (if 6 = k then F' else if 6 = 2 + k then blk q' else d 6)) := Lib.hid (by
          intro x hx
          obtain rfl : x = g9 := by simpa using hx
          refine ⟨by omega, by omega, by omega, fun i hi hm => ?_, ?_⟩
          · by_cases e2 : i = k
            · rw [if_pos e2] at hm
              rcases HFe.out x hm with h | h
              · exact Hd9.out _ (by omega) h
              · omega
            · rw [if_neg e2] at hm
              by_cases e : i = 2 + k
              · rw [if_pos e] at hm
                rcases HG.out x hm with h | h
                · exact Hd9.out _ (by omega) h
                · omega
              · rw [if_neg e] at hm
                exact Hd9.out _ (by omega) hm
          · rw [if_neg (by omega), if_neg (by omega)]
            exact Hd9.out 6 (by omega))
        clear wse r9c wsn hcNc hlowc ode hnO HR1 Hown2 HG HO Hws2 HH Hoe HFe Hown1 Hrow1 Hr9e
        go_wp2_with fail
        go_loopw [66] (fun i wf => ∃ (t : Nat) (zs : List UInt8), i = .int .i64 (t : Int) ∧ t ≤ o.m ∧ Hid (zs.length = o.m + 6) ∧ Row wf g9 5 (u8s zs) ∧ Only [g9] we2 wf) (fun i _ => o.m - (intOf i).toNat)
        case atStart => exact ⟨0, o.bs ++ marks, rfl, Nat.zero_le _, Lib.hid (by rw [List.length_append, Hom.out]; rfl), r9d, Only.refl _ _⟩
        case round =>
          obtain ⟨t, zs, rfl, ht, Hyl, r9f, of⟩ := hrel
          by_cases hun : t < o.m
          · have hky : t < zs.length := by rw [Hyl.out]; omega
            have hc := r9f.bytes hky
            have hf := r9f.free t
            obtain ⟨z1, hz1⟩ : ∃ z, z = zs[t] ^^^ 91 := ⟨_, rfl⟩
            have hx91 : bits .xor .u8 (zs[t].toNat : Int) 91 = (z1.toNat : Int) := by rw [hz1]; exact u8_xor_u8 zs[t] 91
            clear hz1
            go_wp2_with fail
            go_roundw
            case rel => exact ⟨t + 1, zs.set t z1, by go_num, by omega, Lib.hid (by rw [List.length_set]; exact Hyl.out), by rw [← u8s_set]; exact r9f.setCell t _, of.trans (Only.setCell _ _ _) (by simp)⟩
            case measure => simp [intOf]; omega
          · obtain rfl : t = o.m := by omega
            have wsf := Hwse.out.keep of HG9.out
            go_wp2_with fail
            refine ⟨⟨j + 1, u, _, _, _, _, _, _, by go_num, rfl, by omega, by omega, Lib.hid wsf, Lib.hid fun i hi => ?_⟩, by simp [intOf]; omega⟩
            by_cases e : i = k
            · subst e; simp only [if_true]; rw [List.length_append, Hom.out]; have := Hyk.out; have := Hwt.out; omega
            · simp only [if_neg e]; exact Hy1.out i hi
      · have hkb : (o.kind == 1) = false := by simpa using hk1
        clear hk1
        by_cases hk2' : o.kind = 2
        · have hkb2 : (o.kind == 2) = true := by rw [hk2']; rfl
          clear hk2'
          by_cases hgt : 4194304 < u + m k
          · have hgti : (4194304 : Int) < (u : Int) + (m k : Int) := by omega
            go_wp2_with fail
            go_ret
            exact ⟨rfl, wn.only⟩
          · have hgti : ¬ (4194304 : Int) < (u : Int) + (m k : Int) := by omega
            have hov := (wn.own k hk2).1.view
            have Hsum : Hid (∀ w, Only [] (wr.alloc (.cells #[.int .i64 o.kind, .int .i64 o.which, .slice o.p o.m o.c] 37)) w → Calls Try.prog 23 #[.pointer (some ⟨B k, 0, none⟩)] w fun e w' => e = .returned (.agg (u8s (shaB (ys k))).toArray) ∧ Only [] w w') := Lib.hid fun w h => hashSum_any w (d k) (B k) (ys k) ((wn.hs k hk2).only h (by simp)) (by have := Hyk.out; omega)
            have Href : Hid (∀ w, Only [] (wr.alloc (.cells #[.int .i64 o.kind, .int .i64 o.which, .slice o.p o.m o.c] 37)) w → Calls Try.prog 20 #[.slice (q k) (m k) (c k)] w fun e w' => e = .returned (.agg (u8s (shaB (ys k))).toArray) ∧ Only [] w w') := Lib.hid fun w h => refSum_any (q k) (ys k) (m k) (c k) w Hlm.out (by omega) hov.2.2.1 (hov.1.only0 h)
            have Heq : Hid (∀ w, (Op.equalIn 10000 25 (.agg (u8s (shaB (ys k))).toArray) (.agg (u8s (shaB (ys k))).toArray)).run Try.prog w = .ok true w) := Lib.hid fun w => by
              have := eqIn32 (shaB (ys k)) (shaB (ys k)) (shaB_len _) (shaB_len _) w
              rwa [beq_self_eq_true] at this
            have Hwn := Lib.hid wn
            clear hov wn ws
            go_wp2_with fail
            generalize (wr.alloc (.cells #[.int .i64 o.kind, .int .i64 o.which, .slice o.p o.m o.c] 37)) = wa at *
            generalize (u8s (shaB (ys k))).toArray = A32 at *
            -- <<r28
            refine wp_region_rg2 (Only []) [[(8, none)], [(3, none), (86, some 0)], [(87, some 0)], [(88, some 0)], [(8, none)], [(4, none), (90, some 0)], [(91, some 0)], [(92, some 0)], [(89, some 4), (93, some 0)]] [(94, 0)] [none, none, none, none, none, none, none, none, none, none, none, none, none, none, none, none, none, none, none, none, none, none, none, none, none, none, none, none, none, none, none, none, none, none, none, none, none, none, none, none, none, none, none, none, none, none, none, none, none, none, none, none, none, none, none, none, none, none, none, none, none, none, none, none, none, none, none, none, none, none, none, none, none, none, none, none, none, none, none, none, none, none, none, none, none, none, some 86, some 87, some 88, some 89, some 90, some 91, some 92, some 93, some 94, none, none, none, none, none, none, none, none, none, none, none, none] (by kernel_rfl) rfl (by kernel_rfl) (fun _ => Only.refl _ _) (fun _ _ _ h k => h.trans0 k) (Only.drew _) (by kernel_rfl) ?_
            -- 0: s86 := move t8
            apply rg_ev
            · intro a w hR hf
              obtain ⟨e8, -⟩ := hf
              replace e8 : a.tmps.getD 8 undef = _ := e8
              refine rg_plain rfl fun K hK => ?_
              go_simp
              exact hK _ _ rfl (Only.refl _ _)
            -- 1: s87 := indexAddr 34 t3 t86
            apply rg_ev
            · intro a w hR hf
              obtain ⟨e3, e86, -⟩ := hf
              replace e3 : a.tmps.getD 3 undef = _ := e3
              replace e86 : a.tmps.getD 86 undef = _ := e86
              refine rg_plain rfl fun K hK => ?_
              go_simp
              exact hK _ _ rfl (Only.refl _ _)
            -- 2: s88 := load 32 t87
            apply rg_ev
            · intro a w hR hf
              obtain ⟨e87, -⟩ := hf
              replace e87 : a.tmps.getD 87 undef = _ := e87
              refine rg_plain rfl fun K hK => ?_
              have hcB' := hR.cell hcB (by simp)
              go_simp
              exact hK _ _ rfl (Only.refl _ _)
            -- 3: s89 := call { value (Operand.func 23), args := #[t88], #[32] }
            apply rg_ev
            · intro a w hR hf
              obtain ⟨e88, -⟩ := hf
              replace e88 : a.tmps.getD 88 undef = _ := e88
              refine rg_plain rfl fun K hK => ?_
              go_simp
              (with_reducible refine (Hsum.out w hR).mono ?_)
              rintro e w' ⟨rfl, ho⟩
              exact hK _ _ rfl ho
            -- 4: s90 := move t8
            apply rg_ev
            · intro a w hR hf
              obtain ⟨e8, -⟩ := hf
              replace e8 : a.tmps.getD 8 undef = _ := e8
              refine rg_plain rfl fun K hK => ?_
              go_simp
              exact hK _ _ rfl (Only.refl _ _)
            -- 5: s91 := indexAddr 35 t4 t90
            apply rg_ev
            · intro a w hR hf
              obtain ⟨e4, e90, -⟩ := hf
              replace e4 : a.tmps.getD 4 undef = _ := e4
              replace e90 : a.tmps.getD 90 undef = _ := e90
              refine rg_plain rfl fun K hK => ?_
              go_simp
              exact hK _ _ rfl (Only.refl _ _)
            -- 6: s92 := load 22 t91
            apply rg_ev
            · intro a w hR hf
              obtain ⟨e91, -⟩ := hf
              replace e91 : a.tmps.getD 91 undef = _ := e91
              refine rg_plain rfl fun K hK => ?_
              have hcP' := hR.cell hcP (by simp)
              go_simp
              exact hK _ _ rfl (Only.refl _ _)
            -- 7: s93 := call { value (Operand.func 20), args := #[t92], #[22] }
            apply rg_ev
            · intro a w hR hf
              obtain ⟨e92, -⟩ := hf
              replace e92 : a.tmps.getD 92 undef = _ := e92
              refine rg_plain rfl fun K hK => ?_
              go_simp
              (with_reducible refine (Href.out w hR).mono ?_)
              rintro e w' ⟨rfl, ho⟩
              exact hK _ _ rfl ho
            -- 8: s94 := binOp Binneq 25 t89 t93 25
            apply rg_ev
            · intro a w hR hf
              obtain ⟨e89, e93, -⟩ := hf
              replace e89 : a.tmps.getD 89 undef = _ := e89
              replace e93 : a.tmps.getD 93 undef = _ := e93
              refine rg_plain rfl fun K hK => ?_
              have hq := Heq.out w
              have hgd := guard32
              go_simp
              exact hK _ _ rfl (Only.refl _ _)
            intro f28 w28 hR28 hf
            dsimp only [mergeT]
            obtain ⟨e94, -⟩ := hf
            replace e94 : f28 94 = _ := e94
            rw [e94]
            -- r28>>
            have wx := Hwn.out.only0 hR28
            go_wp2_with fail
            exact ⟨⟨j + 1, u + m k, _, _, _, _, _, _, by go_num, by go_num, by omega, by omega, Lib.hid wx, Hy1⟩, by simp [intOf]; omega⟩
        · have hkb2 : (o.kind == 2) = false := by simpa using hk2'
          clear hk2'
          by_cases hk3 : o.kind = 3
          · have hkb3 : (o.kind == 3) = true := by rw [hk3]; rfl
            clear hk3
            have Hlen : Hid (∀ w, Only [] (wr.alloc (.cells #[.int .i64 o.kind, .int .i64 o.which, .slice o.p o.m o.c] 37)) w → Calls Try.prog 24 #[.pointer (some ⟨B k, 0, none⟩)] w fun e w' => e = .returned (.int .i64 (m k : Int)) ∧ w = w') := Lib.hid fun w h => by
              have := len_any w (d k) (B k) _ _ _ ((wn.hs k hk2).only h (by simp))
              rwa [Hlm.out] at this
            have Hwn := Lib.hid wn
            clear wn ws
            go_wp2_with fail
            generalize (wr.alloc (.cells #[.int .i64 o.kind, .int .i64 o.which, .slice o.p o.m o.c] 37)) = wa at *
            -- <<r31
            refine wp_region_rg2 (Only []) [[(8, none)], [(3, none), (97, some 0)], [(98, some 0)], [(99, some 0)], [(8, none)], [(4, none), (101, some 0)], [(102, some 0)], [(103, some 0)], [(100, some 4), (104, some 0)]] [(105, 0)] [none, none, none, none, none, none, none, none, none, none, none, none, none, none, none, none, none, none, none, none, none, none, none, none, none, none, none, none, none, none, none, none, none, none, none, none, none, none, none, none, none, none, none, none, none, none, none, none, none, none, none, none, none, none, none, none, none, none, none, none, none, none, none, none, none, none, none, none, none, none, none, none, none, none, none, none, none, none, none, none, none, none, none, none, none, none, none, none, none, none, none, none, none, none, none, none, none, some 97, some 98, some 99, some 100, some 101, some 102, some 103, some 104, some 105, none] (by kernel_rfl) rfl (by kernel_rfl) (fun _ => Only.refl _ _) (fun _ _ _ h k => h.trans0 k) (Only.drew _) (by kernel_rfl) ?_
            -- 0: s97 := move t8
            apply rg_ev
            · intro a w hR hf
              obtain ⟨e8, -⟩ := hf
              replace e8 : a.tmps.getD 8 undef = _ := e8
              refine rg_plain rfl fun K hK => ?_
              go_simp
              exact hK _ _ rfl (Only.refl _ _)
            -- 1: s98 := indexAddr 34 t3 t97
            apply rg_ev
            · intro a w hR hf
              obtain ⟨e3, e97, -⟩ := hf
              replace e3 : a.tmps.getD 3 undef = _ := e3
              replace e97 : a.tmps.getD 97 undef = _ := e97
              refine rg_plain rfl fun K hK => ?_
              go_simp
              exact hK _ _ rfl (Only.refl _ _)
            -- 2: s99 := load 32 t98
            apply rg_ev
            · intro a w hR hf
              obtain ⟨e98, -⟩ := hf
              replace e98 : a.tmps.getD 98 undef = _ := e98
              refine rg_plain rfl fun K hK => ?_
              have hcB' := hR.cell hcB (by simp)
              go_simp
              exact hK _ _ rfl (Only.refl _ _)
            -- 3: s100 := call { value (Operand.func 24), args := #[t99], #[32] }
            apply rg_ev
            · intro a w hR hf
              obtain ⟨e99, -⟩ := hf
              replace e99 : a.tmps.getD 99 undef = _ := e99
              refine rg_plain rfl fun K hK => ?_
              go_simp
              (with_reducible refine (Hlen.out w hR).mono ?_)
              rintro e w' ⟨rfl, rfl⟩
              exact hK _ _ rfl (Only.refl _ _)
            -- 4: s101 := move t8
            apply rg_ev
            · intro a w hR hf
              obtain ⟨e8, -⟩ := hf
              replace e8 : a.tmps.getD 8 undef = _ := e8
              refine rg_plain rfl fun K hK => ?_
              go_simp
              exact hK _ _ rfl (Only.refl _ _)
            -- 5: s102 := indexAddr 35 t4 t101
            apply rg_ev
            · intro a w hR hf
              obtain ⟨e4, e101, -⟩ := hf
              replace e4 : a.tmps.getD 4 undef = _ := e4
              replace e101 : a.tmps.getD 101 undef = _ := e101
              refine rg_plain rfl fun K hK => ?_
              go_simp
              exact hK _ _ rfl (Only.refl _ _)
            -- 6: s103 := load 22 t102
            apply rg_ev
            · intro a w hR hf
              obtain ⟨e102, -⟩ := hf
              replace e102 : a.tmps.getD 102 undef = _ := e102
              refine rg_plain rfl fun K hK => ?_
              have hcP' := hR.cell hcP (by simp)
              go_simp
              exact hK _ _ rfl (Only.refl _ _)
            -- 7: s104 := call { builtin len, args := #[t103], #[22] }
            apply rg_ev
            · intro a w hR hf
              obtain ⟨e103, -⟩ := hf
              replace e103 : a.tmps.getD 103 undef = _ := e103
              refine rg_plain rfl fun K hK => ?_
              go_simp
              exact hK _ _ rfl (Only.refl _ _)
            -- 8: s105 := binOp Binneq 3 t100 t104 3
            apply rg_ev
            · intro a w hR hf
              obtain ⟨e100, e104, -⟩ := hf
              replace e100 : a.tmps.getD 100 undef = _ := e100
              replace e104 : a.tmps.getD 104 undef = _ := e104
              refine rg_plain rfl fun K hK => ?_
              go_simp
              exact hK _ _ rfl (Only.refl _ _)
            intro f31 w31 hR31 hf
            dsimp only [mergeT]
            obtain ⟨e105, -⟩ := hf
            replace e105 : f31 105 = _ := e105
            rw [e105]
            -- r31>>
            have wx := Hwn.out.only0 hR31
            go_wp2_with fail
            exact ⟨⟨j + 1, u, _, _, _, _, _, _, by go_num, rfl, by omega, by omega, Lib.hid wx, Hy1⟩, by simp [intOf]; omega⟩
          · have hkb3 : (o.kind == 3) = false := by simpa using hk3
            clear hk3
            go_wp2_with fail
            exact ⟨⟨j + 1, u, _, _, _, _, _, _, by go_num, rfl, by omega, by omega, Lib.hid wn, Hy1⟩, by simp [intOf]; omega⟩
    · obtain rfl : j = n2 := by omega
      go_wp2_with fail
      go_ret
      exact ⟨rfl, ws.only⟩
end Go.Proofs.Ytmddehbfimpjdaa
