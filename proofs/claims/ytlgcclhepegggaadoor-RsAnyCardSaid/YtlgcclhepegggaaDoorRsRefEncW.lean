/- The walk of bollardref02.Encode. -/
import Derived.Test.YtlgcclhepegggaaDoorRsRefW
import Derived.Test.YtlgcclhepegggaaDoorRegion4
import Derived.Test.YtlgcclhepegggaaDoorRegDirt
set_option linter.unusedVariables false
set_option maxRecDepth 100000
namespace Go.Proofs.YtlgcclhepegggaaDoor
open Go.RowKit

theorem NewLists.only {w w' : World} {S : List Nat} {base : Nat} {q : Option Addr} {c size : Nat} {Ls : List (List UInt8)} {gs : List Nat} (h : NewLists w base q c size Ls gs) (ho : Only S w w') (hS : ∀ x ∈ S, x ∉ gs ∧ x ∉ blk q) : NewLists w' base q c size Ls gs :=
  ⟨h.len, h.apart, h.own.only ho (fun x hx hm => (hS x hm).2 (blkOwn hx)), h.low, h.each, fun j g L h1 h2 => (h.row j g L h1 h2).only ho (fun hm => (hS g hm).1 (List.mem_of_getElem? h1))⟩
theorem NewLists.lt {w : World} {base : Nat} {q : Option Addr} {c size : Nat} {Ls : List (List UInt8)} {gs : List Nat} (h : NewLists w base q c size Ls gs) : ∀ g ∈ gs, g < w.heap.size := fun g hg => by
  obtain ⟨i, hi⟩ := List.getElem?_of_mem hg
  have hil := (List.getElem?_eq_some_iff.1 hi).1
  exact (h.row i g _ hi (List.getElem?_eq_getElem (by rw [← h.len]; exact hil))).lt
/-- one list more -/
theorem NewLists.snoc {w : World} {base : Nat} {q : Option Addr} {c size j g : Nat} {Ls : List (List UInt8)} {gs : List Nat} {L : List UInt8} (h : NewLists w base q c size Ls gs) (hj : Ls.length = j) (hj2 : j + 1 ≤ 1000000)
    (r : Row w g 5 (u8s L)) (hL : L.length = size) (hg : base ≤ g) (hg2 : g ∉ gs) (hg3 : g ∉ blk q) (hbase : base ≤ w.heap.size) :
    ∃ q' c'' w', Hid ((Builtin.append_ #[64, 64] 64 #[.slice q j c, .slice (some ⟨w.heap.size, 0, none⟩) 1 1]).run Tryd.prog (w.alloc (.cells #[.slice (some ⟨g, 0, none⟩) size size] 27)) = .ok (.slice q' (j + 1) c'') w') ∧ NewLists w' base q' c'' size (Ls ++ [L]) (gs ++ [g]) ∧ Only (blk q) w w' := by
  have hown := h.own
  rw [hj] at hown
  obtain ⟨q', c'', w', Hr, own2, o5, hb5⟩ := append_one hown (.slice (some ⟨g, 0, none⟩) size size) rfl hj2 hbase
  have hlt := h.lt
  have hgl := h.len
  refine ⟨q', c'', w', Hr, ⟨by rw [List.length_append, List.length_append, hgl]; rfl, ?_, ?_, ?_, ?_, ?_⟩, o5⟩
  · rw [List.nodup_append]
    refine ⟨h.apart, by simp, fun a ha b hb => ?_⟩
    obtain rfl := List.mem_singleton.1 hb
    exact fun e => hg2 (e ▸ ha)
  · rw [List.length_append, hj]; unfold slsV; rw [List.map_append]; exact own2
  · intro x hx
    rcases List.mem_append.1 hx with h1 | h1
    · refine ⟨(h.low x h1).1, fun hm => ?_⟩
      rcases hb5 x hm with h2 | h2
      · exact (h.low x h1).2 h2
      · have := hlt x h1; omega
    · obtain rfl := List.mem_singleton.1 h1
      refine ⟨hg, fun hm => ?_⟩
      rcases hb5 x hm with h2 | h2
      · exact hg3 h2
      · have := r.lt; omega
  · intro l hl
    rcases List.mem_append.1 hl with h1 | h1
    · exact h.each l h1
    · obtain rfl := List.mem_singleton.1 h1; exact hL
  · intro i x l h1 h2
    by_cases e : i < j
    · rw [List.getElem?_append_left (by rw [hgl, hj]; exact e)] at h1
      rw [List.getElem?_append_left (by rw [hj]; exact e)] at h2
      exact (h.row i x l h1 h2).only o5 (h.low x (List.mem_of_getElem? h1)).2
    · have hi1 := (List.getElem?_eq_some_iff.1 h2).1
      rw [List.length_append, hj] at hi1
      simp at hi1
      obtain rfl : i = j := by omega
      rw [List.getElem?_append_right (by rw [hgl, hj]; exact Nat.le_refl _), hgl, hj, Nat.sub_self] at h1
      rw [List.getElem?_append_right (by rw [hj]; exact Nat.le_refl _), hj, Nat.sub_self] at h2
      obtain rfl := Option.some.inj h1
      obtain rfl := Option.some.inj h2
      exact r.only o5 hg3

/-- a list while it is made -/
def upL (T : List UInt8) (size b : Nat) : List UInt8 := T.take b ++ List.replicate (size - b) 0
theorem upL_zero (T : List UInt8) (size : Nat) : upL T size 0 = List.replicate size 0 := by unfold upL; simp
theorem upL_full {T : List UInt8} {size : Nat} (h : T.length = size) : upL T size size = T := by unfold upL; rw [List.take_of_length_le (by omega)]; simp
theorem upL_len {T : List UInt8} {size b : Nat} (h : T.length = size) (hb : b ≤ size) : (upL T size b).length = size := by unfold upL; rw [List.length_append, List.length_take, h, List.length_replicate]; omega
theorem upL_step {T : List UInt8} {size b : Nat} (h : T.length = size) (hb : b < size) : (upL T size b)[b]? = some 0 ∧ (upL T size b).set b (T.getD b 0) = upL T size (b + 1) := by
  have hl : (T.take b).length = b := by rw [List.length_take, h]; omega
  have hd : List.replicate (size - b) (0 : UInt8) = 0 :: List.replicate (size - (b + 1)) 0 := by
    rw [show size - b = (size - (b + 1)) + 1 by omega]; rfl
  have hg : T[b]? = some (T.getD b 0) := by rw [List.getElem?_eq_getElem (by omega), getD_at (by omega)]
  unfold upL
  rw [hd]
  refine ⟨by rw [List.getElem?_append_right (by omega), hl, Nat.sub_self]; rfl, ?_⟩
  rw [List.set_append_right _ _ (by omega), hl, Nat.sub_self, List.take_add_one, hg]
  simp
/-- a byte of a shard while it is summed -/
def encS (k size : Nat) (data : List UInt8) (i b j : Nat) : UInt8 := gsum j fun t => gmul (factor k i t) (data.getD (t * size + b) 0)
theorem encS_zero (k size : Nat) (data : List UInt8) (i b : Nat) : encS k size data i b 0 = 0 := rfl
theorem encS_succ (k size : Nat) (data : List UInt8) (i b j : Nat) : encS k size data i b (j + 1) = encS k size data i b j ^^^ gmul (factor k i j) (data.getD (j * size + b) 0) := rfl
theorem encS_full {k m size i b : Nat} {data T : List UInt8} (hi : i < k + m) (hb : b < size) (hT : (encB k m size data)[i]? = some T) : encS k size data i b k = T.getD b 0 := by
  have := encB_ent (m := m) (data := data) hi hb
  rw [ent_some hT] at this
  exact this.symm

set_option maxHeartbeats 8000000 in
theorem refEncode_ok (p : Option Addr) (data : List UInt8) (n c k m : Nat) (ww : World) (h : legal (k : Int) (m : Int) = true) (hn : data.length = n) (hb : n ≤ 1024) (hp : p = none → n = 0 ∧ c = 0) (hx : Rd ww p (u8s data)) :
    Calls Tryd.prog 31 #[.int .i64 (k : Int), .int .i64 (m : Int), .slice p n c] ww fun e w' => ∃ q c' gs, e = .returned (.tuple #[.slice q (k + m) c', .int .i64 0]) ∧ NewLists w' ww.heap.size q c' (shardLen k n) (encB k m (shardLen k n) data) gs ∧ Only [] ww w' := by
  obtain ⟨l1, l2, l3⟩ := legal_iff.1 h
  have hsize := refSize_ok k m n h hb ww
  have hsl := shardLen_le (k := k) hb
  have hfit : data.length ≤ k * shardLen k n := by rw [hn]; exact shardLen_mul (by omega)
  have hel : (encB k m (shardLen k n) data).length = k + m := encB_len _ _ _ _
  have hee := encB_each (m := m) hfit
  have hS : ∀ i b T, i < k + m → b < shardLen k n → (encB k m (shardLen k n) data)[i]? = some T → encS k (shardLen k n) data i b k = T.getD b 0 := fun i b T h1 h2 h3 => encS_full h1 h2 h3
  generalize encB k m (shardLen k n) data = E at *
  generalize shardLen k n = size at *
  have Hn := Lib.hid hn
  have Hx := Lib.hid hx
  have Hel := Lib.hid hel
  have Hee := Lib.hid hee
  have HS := Lib.hid hS
  clear h hn hx hel hee hS hfit hp
  go_enter Tryd.func31, Tryd.ntmps31
  go_wp2_with fail
  (with_reducible refine (hsize).mono ?_)
  rintro e w' ⟨rfl, rfl⟩
  go_wp2_with fail
  clear hsize
  obtain ⟨w1, hw1⟩ : ∃ w1, w1 = ww.alloc (.cells #[] 27) := ⟨_, rfl⟩
  rw [← hw1]
  have o1 : Only [] ww w1 := by rw [hw1]; exact Only.alloc _ _
  have own1 : Own w1 ww.heap.size 27 (.slice (some ⟨ww.heap.size, 0, none⟩) 0 0) [] := Own.ofRow (rest := []) (cap := 0) (Nat.le_refl _) (by rw [hw1]; exact Row.newOf _ _ _ _ rfl) rfl (by omega)
  have hnl : NewLists w1 ww.heap.size (some ⟨ww.heap.size, 0, none⟩) 0 size (E.take 0) [] := ⟨rfl, List.nodup_nil, own1, by simp, by simp, by simp⟩
  have HO1 := Lib.hid o1
  have HNL := Lib.hid hnl
  clear o1 own1 hnl hw1
  go_loopw [11, 10] (fun i o wr => ∃ (t : Nat) (q2 : Option Addr) (c2 : Nat) (gs : List Nat), i = .int .i64 (t : Int) ∧ o = .slice q2 t c2 ∧ t ≤ k + m ∧ Hid (NewLists wr ww.heap.size q2 c2 size (E.take t) gs) ∧ Hid (Only [] ww wr)) (fun i _ _ => k + m - (intOf i).toNat)
  case atStart => exact ⟨0, _, 0, [], rfl, rfl, Nat.zero_le _, HNL, HO1⟩
  case round =>
    clear HNL HO1
    obtain ⟨i, q2, c2, gs, rfl, rfl, ht, HNL, HO1⟩ := hrel
    by_cases hlt : i < k + m
    · have hti : (i : Int) < (k : Int) + (m : Int) := by omega
      obtain ⟨T, hT⟩ : ∃ T, E[i]? = some T := ⟨_, List.getElem?_eq_getElem (by rw [Hel.out]; exact hlt)⟩
      have hTl := Hee.out T (List.mem_of_getElem? hT)
      have HST : Hid (∀ b, b < size → encS k size data i b k = T.getD b 0) := Lib.hid fun b hb => HS.out i b T hlt hb hT
      obtain ⟨g, w2, hmk, hg, hr, ho⟩ := make_row (P := Tryd.prog) (bytes := 1) wr Tryd.underlying27 Tryd.infoU8 rfl .i64 .i64 size size (Nat.le_refl _) (by omega) (by omega)
      have R := Lib.hid (show Row w2 g 5 (u8s (upL T size 0)) by rw [upL_zero, u8s_replicate]; exact hr)
      have HT := Lib.hid hT
      have HTl := Lib.hid hTl
      have HO2 := Lib.hid (HO1.out.trans0 ho)
      have HNL2 := Lib.hid (HNL.out.only0 ho)
      have hgn : ∀ x ∈ [g], x ∉ gs ∧ x ∉ blk q2 := by
        intro x hx
        obtain rfl := List.mem_singleton.1 hx
        exact ⟨fun hm => by have := HNL.out.lt _ hm; omega, fun hm => by have := (ownBlk HNL.out.own _ hm).2; omega⟩
      have Hgn := Lib.hid hgn
      have Hgb : Hid (ww.heap.size ≤ g) := Lib.hid (Nat.le_trans HO1.out.size hg)
      have Hx2 : Hid (Rd w2 p (u8s data)) := Lib.hid (Hx.out.only0 HO2.out)
      have hpg : data ≠ [] → ∀ a, p = some a → a.block ≠ g := fun hne a ha => by
        obtain ⟨b, off, e6, h7⟩ := Hx.out.lt (fun e => hne (by unfold u8s at e; exact List.map_eq_nil_iff.1 e))
        rw [ha] at e6
        obtain rfl := Option.some.inj e6
        have := Hgb.out
        dsimp only at h7 ⊢
        omega
      have Hpg := Lib.hid hpg
      clear hT hTl hr ho HO1 HNL hgn hg hpg
      obtain ⟨w9, hw9⟩ : ∃ w, w = wr := ⟨_, rfl⟩
      subst hw9
      go_wp2_with fail
      clear hmk
      go_loopw [38] (fun x wr => ∃ b : Nat, x = .int .i64 (b : Int) ∧ b ≤ size ∧ Hid (Row wr g 5 (u8s (upL T size b))) ∧ Hid (Only [g] w2 wr)) (fun x _ => size - (intOf x).toNat)
      case atStart => exact ⟨0, rfl, Nat.zero_le _, R, Lib.hid (Only.refl _ _)⟩
      case round =>
        clear R
        obtain ⟨b, rfl, hb2, R, HO⟩ := hrel
        by_cases hbl : b < size
        · have hbi : (b : Int) < (size : Int) := by omega
          obtain ⟨hget0, hset⟩ := upL_step HTl.out hbl
          have hul := upL_len HTl.out hb2
          rw [← HST.out b hbl] at hset
          obtain ⟨U, hU⟩ : ∃ U, U = upL T size b := ⟨_, rfl⟩
          rw [← hU] at hget0 hset hul R
          have Hset := Lib.hid hset
          have Hul := Lib.hid hul
          have RU : Hid (Row wr g 5 (u8s (U.set b (encS k size data i b 0)))) := Lib.hid (by
            rw [encS_zero, show U.set b 0 = U from List.ext_getElem? fun t => by
              by_cases e : t = b
              · subst e; rw [List.getElem?_set_self (by omega), hget0]
              · rw [List.getElem?_set_ne (fun e2 => e e2.symm)]]
            exact R.out)
          clear hU hget0 hset hul R
          obtain ⟨w8, hw8⟩ : ∃ w, w = wr := ⟨_, rfl⟩
          subst hw8
          go_wp2_with fail
          go_loopw [14] (fun x wr => ∃ j : Nat, x = .int .i64 (j : Int) ∧ j ≤ k ∧ Hid (Row wr g 5 (u8s (U.set b (encS k size data i b j)))) ∧ Hid (Only [g] w2 wr)) (fun x _ => k - (intOf x).toNat)
          case atStart => exact ⟨0, rfl, Nat.zero_le _, RU, HO⟩
          case round =>
            clear RU HO
            obtain ⟨j, rfl, hj, RU, HO⟩ := hrel
            by_cases hjl : j < k
            · have hji : (j : Int) < (k : Int) := by omega
              obtain ⟨acc, hacc⟩ : ∃ a, a = encS k size data i b j := ⟨_, rfl⟩
              obtain ⟨acc2, hacc2⟩ : ∃ a, a = encS k size data i b (j + 1) := ⟨_, rfl⟩
              have hst := encS_succ k size data i b j
              rw [← hacc, ← hacc2] at hst
              rw [← hacc] at RU
              obtain ⟨y, hy⟩ : ∃ y, y = data.getD (j * size + b) 0 := ⟨_, rfl⟩
              rw [← hy] at hst
              have Hy := Lib.hid hy
              have Hacc := Lib.hid hst
              have Hacc2 := Lib.hid hacc2
              have Hget : Hid ((u8s (U.set b acc))[b]? = some (.int .u8 (acc.toNat : Int))) := Lib.hid (by unfold u8s; rw [List.getElem?_map, List.getElem?_set_self (by rw [Hul.out]; exact hbl)]; rfl)
              have Hx4 : Hid (Rd wr p (u8s data)) := Lib.hid (Hx2.out.onlyNe HO.out (fun hne a ha hm => Hpg.out hne a ha (by simpa using hm)))
              clear hacc hacc2 hst hy
              go_wp2_with fail
              have hRr : ∀ a, Only [g] a a := fun a => Only.refl _ _
              have hRt : ∀ a b e, Only [g] a b → Only [g] b e → Only [g] a e := fun a b e h h2 => h.trans h2 (fun i hi _ => hi)
              have hRd : Only [g] wr wr.drew := (Only.drew _).mono (by simp)
              have hC0 : ∀ i ∈ [16], (fun (_ : Nat) (a : World) => Row a g 5 (u8s (U.set b acc))) i wr.drew := fun _ _ => RU.out.only0 (Only.drew _)
              -- <<R15
              refine wp_region_rg4 (Only [g]) (Dirt [(16, [g])]) (fun (_ : Nat) (a : World) => Row a g 5 (u8s (U.set b acc))) [16] [[(12, none)], [(13, none)], [(46, some 1), (47, some 0)], [(48, some 0)], [(0, none)], [(11, none)], [(14, none)], [(50, some 2), (51, some 1), (52, some 0)], [(2, none)], [(8, none)], [(14, none)], [(13, none)], [(54, some 3), (55, some 2), (56, some 1), (57, some 0)], [(53, some 5), (58, some 0)], [(49, some 10), (59, some 0)], [(46, some 14), (47, some 13)], [(61, some 0), (60, some 1)]] [] [none, none, none, none, none, none, none, none, none, none, none, none, none, none, none, none, none, none, none, none, none, none, none, none, none, none, none, none, none, none, none, none, none, none, none, none, none, none, none, none, none, none, none, none, none, none, some 46, some 47, some 48, some 49, some 50, some 51, some 52, some 53, some 54, some 55, some 56, some 57, some 58, some 59, some 60, some 61, none, none, none, none, none, none] (by kernel_rfl) rfl (by kernel_rfl) hRr hRt (fun _ _ => Only.refl _ _) hRd hC0 (by kernel_rfl) (by kernel_rfl) ?_
              -- 0: s46 := move t12
              apply rgd_ev
              · intro a w hR hC hf
                obtain ⟨e12, -⟩ := hf
                replace e12 : a.tmps.getD 12 undef = _ := e12
                refine rg_plain rfl fun K hK => ?_
                go_simp
                exact hK _ _ rfl ⟨hRr _, Only.refl _ _, fun _ _ _ _ h => h⟩
              -- 1: s47 := move t13
              apply rgd_ev
              · intro a w hR hC hf
                obtain ⟨e13, -⟩ := hf
                replace e13 : a.tmps.getD 13 undef = _ := e13
                refine rg_plain rfl fun K hK => ?_
                go_simp
                exact hK _ _ rfl ⟨hRr _, Only.refl _ _, fun _ _ _ _ h => h⟩
              -- 2: s48 := indexAddr 27 t46 t47
              apply rgd_ev
              · intro a w hR hC hf
                obtain ⟨e46, e47, -⟩ := hf
                replace e46 : a.tmps.getD 46 undef = _ := e46
                replace e47 : a.tmps.getD 47 undef = _ := e47
                refine rg_plain rfl fun K hK => ?_
                have hbi : (b : Int) < (size : Int) := by omega
                go_simp
                exact hK _ _ rfl ⟨hRr _, Only.refl _ _, fun _ _ _ _ h => h⟩
              -- 3: s49 := load 5 t48
              apply rgd_ev
              · intro a w hR hC hf
                obtain ⟨e48, -⟩ := hf
                replace e48 : a.tmps.getD 48 undef = _ := e48
                refine rg_plain rfl fun K hK => ?_
                have hl := (hC 16 (by simp) (by kernel_rfl)).cell (Hget.out)
                go_simp
                exact hK _ _ rfl ⟨hRr _, Only.refl _ _, fun _ _ _ _ h => h⟩
              -- 4: s50 := move t0
              apply rgd_ev
              · intro a w hR hC hf
                obtain ⟨e0, -⟩ := hf
                replace e0 : a.tmps.getD 0 undef = _ := e0
                refine rg_plain rfl fun K hK => ?_
                go_simp
                exact hK _ _ rfl ⟨hRr _, Only.refl _ _, fun _ _ _ _ h => h⟩
              -- 5: s51 := move t11
              apply rgd_ev
              · intro a w hR hC hf
                obtain ⟨e11, -⟩ := hf
                replace e11 : a.tmps.getD 11 undef = _ := e11
                refine rg_plain rfl fun K hK => ?_
                go_simp
                exact hK _ _ rfl ⟨hRr _, Only.refl _ _, fun _ _ _ _ h => h⟩
              -- 6: s52 := move t14
              apply rgd_ev
              · intro a w hR hC hf
                obtain ⟨e14, -⟩ := hf
                replace e14 : a.tmps.getD 14 undef = _ := e14
                refine rg_plain rfl fun K hK => ?_
                go_simp
                exact hK _ _ rfl ⟨hRr _, Only.refl _ _, fun _ _ _ _ h => h⟩
              -- 7: s53 := call { value (Operand.func 52), args := #[t50, t51, t52], #[3, 3, 3] }
              apply rgd_ev
              · intro a w hR hC hf
                obtain ⟨e50, e51, e52, -⟩ := hf
                replace e50 : a.tmps.getD 50 undef = _ := e50
                replace e51 : a.tmps.getD 51 undef = _ := e51
                replace e52 : a.tmps.getD 52 undef = _ := e52
                refine rg_plain rfl fun K hK => ?_
                go_simp
                (with_reducible refine (refFactor_any k i j (by omega) (by omega) (by omega) w).mono ?_)
                rintro e w' ⟨rfl, rfl⟩
                exact hK _ _ rfl ⟨hRr _, Only.refl _ _, fun _ _ _ _ h => h⟩
              -- 8: s54 := move t2
              apply rgd_ev
              · intro a w hR hC hf
                obtain ⟨e2, -⟩ := hf
                replace e2 : a.tmps.getD 2 undef = _ := e2
                refine rg_plain rfl fun K hK => ?_
                go_simp
                exact hK _ _ rfl ⟨hRr _, Only.refl _ _, fun _ _ _ _ h => h⟩
              -- 9: s55 := move t8
              apply rgd_ev
              · intro a w hR hC hf
                obtain ⟨e8, -⟩ := hf
                replace e8 : a.tmps.getD 8 undef = _ := e8
                refine rg_plain rfl fun K hK => ?_
                go_simp
                exact hK _ _ rfl ⟨hRr _, Only.refl _ _, fun _ _ _ _ h => h⟩
              -- 10: s56 := move t14
              apply rgd_ev
              · intro a w hR hC hf
                obtain ⟨e14, -⟩ := hf
                replace e14 : a.tmps.getD 14 undef = _ := e14
                refine rg_plain rfl fun K hK => ?_
                go_simp
                exact hK _ _ rfl ⟨hRr _, Only.refl _ _, fun _ _ _ _ h => h⟩
              -- 11: s57 := move t13
              apply rgd_ev
              · intro a w hR hC hf
                obtain ⟨e13, -⟩ := hf
                replace e13 : a.tmps.getD 13 undef = _ := e13
                refine rg_plain rfl fun K hK => ?_
                go_simp
                exact hK _ _ rfl ⟨hRr _, Only.refl _ _, fun _ _ _ _ h => h⟩
              -- 12: s58 := call { value (Operand.func 53), args := #[t54, t55, t56, t57], #[27, 3, 3, 3] }
              apply rgd_ev
              · intro a w hR hC hf
                obtain ⟨e54, e55, e56, e57, -⟩ := hf
                replace e54 : a.tmps.getD 54 undef = _ := e54
                replace e55 : a.tmps.getD 55 undef = _ := e55
                replace e56 : a.tmps.getD 56 undef = _ := e56
                replace e57 : a.tmps.getD 57 undef = _ := e57
                refine rg_plain rfl fun K hK => ?_
                go_simp
                have hat := (refAt_any p data n c size j b Hn.out (by omega) (by omega) (by omega) (by omega) w (Hx4.out.onlyNe hR (fun hne a ha hm => Hpg.out hne a ha (by simpa using hm))))
                rw [← Hy.out] at hat
                (with_reducible refine hat.mono ?_)
                rintro e w' ⟨rfl, rfl⟩
                exact hK _ _ rfl ⟨hRr _, Only.refl _ _, fun _ _ _ _ h => h⟩
              -- 13: s59 := call { value (Operand.func 51), args := #[t53, t58], #[5, 5] }
              apply rgd_ev
              · intro a w hR hC hf
                obtain ⟨e53, e58, -⟩ := hf
                replace e53 : a.tmps.getD 53 undef = _ := e53
                replace e58 : a.tmps.getD 58 undef = _ := e58
                refine rg_plain rfl fun K hK => ?_
                go_simp
                (with_reducible refine (refMul_any (factor k i j) y w).mono ?_)
                rintro e w' ⟨rfl, rfl⟩
                exact hK _ _ rfl ⟨hRr _, Only.refl _ _, fun _ _ _ _ h => h⟩
              -- 14: s60 := binOp Binxor 5 t49 t59 5
              apply rgd_ev
              · intro a w hR hC hf
                obtain ⟨e49, e59, -⟩ := hf
                replace e49 : a.tmps.getD 49 undef = _ := e49
                replace e59 : a.tmps.getD 59 undef = _ := e59
                refine rg_plain rfl fun K hK => ?_
                have hxr := u8_xor_u8 acc (gmul (factor k i j) y)
                go_simp
                exact hK _ _ rfl ⟨hRr _, Only.refl _ _, fun _ _ _ _ h => h⟩
              -- 15: s61 := indexAddr 27 t46 t47
              apply rgd_ev
              · intro a w hR hC hf
                obtain ⟨e46, e47, -⟩ := hf
                replace e46 : a.tmps.getD 46 undef = _ := e46
                replace e47 : a.tmps.getD 47 undef = _ := e47
                refine rg_plain rfl fun K hK => ?_
                have hbi : (b : Int) < (size : Int) := by omega
                go_simp
                exact hK _ _ rfl ⟨hRr _, Only.refl _ _, fun _ _ _ _ h => h⟩
              -- 16: sNone := store 5 t61 t60
              refine ⟨fun _ a => Row a g 5 (u8s (U.set b acc2)), stands_of (fun _ _ _ h ho => h.only0 ho) (by intro x hx hk; obtain rfl := List.mem_singleton.1 hx; simp at hk), fun a w hR hC hf => ?_, ?_⟩
              · obtain ⟨e61, e60, -⟩ := hf
                replace e61 : a.tmps.getD 61 undef = _ := e61
                replace e60 : a.tmps.getD 60 undef = _ := e60
                refine rg_plain rfl fun K hK => ?_
                have hC16 := hC 16 (by simp) (by kernel_rfl)
                have hcc := hC16.cell Hget.out
                have hff := hC16.free b
                go_simp
                have hst : Only [g] w (w.setCell ⟨g, b, none⟩ (u8 acc2)) := Only.setCell w ⟨g, b, none⟩ _
                rw [show (Value.int .u8 ((acc.toNat ^^^ (gmul (factor k i j) y).toNat : Nat) : Int)) = u8 acc2 by rw [Hacc.out, u8, UInt8.toNat_xor]]
                refine hK undef _ ?_ ⟨hst, hst, fun i hi hne ha _ => absurd (List.mem_singleton.1 hi) hne⟩
                have hrs := hC16.setCell b (u8 acc2)
                rw [u8s_set, List.set_set] at hrs
                exact hrs
              intro f15 w15 hR15 hf hz15
              dsimp only [mergeT]
              -- R15>>
              obtain ⟨v16, r16⟩ := hz15 _ (List.mem_cons_self ..)
              have RU2 : Hid (Row w15 g 5 (u8s (U.set b (encS k size data i b (j + 1))))) := Lib.hid (by rw [← Hacc2.out]; exact r16)
              have HO15 := Lib.hid (HO.out.trans hR15 (fun i hi _ => hi))
              clear hz15 r16 hR15 hC0 hRt hRr hRd
              go_wp2_with fail
              exact ⟨⟨j + 1, by go_num, by omega, RU2, HO15⟩, by simp [intOf]; omega⟩
            · obtain rfl : j = k := by omega
              have hji : ¬ (j : Int) < (j : Int) := by omega
              have R1 : Hid (Row wr g 5 (u8s (upL T size (b + 1)))) := Lib.hid (by rw [← Hset.out]; exact RU.out)
              go_wp2_with fail
              go_roundw
              case rel => exact ⟨b + 1, by go_num, by omega, R1, HO⟩
              case measure => simp [intOf]; omega
        · obtain rfl : b = size := by omega
          have hbi : ¬ (b : Int) < (b : Int) := by omega
          have hro := R.out
          rw [upL_full HTl.out] at hro
          have hsz := HO2.out.size
          have hsz2 := HO.out.size
          obtain ⟨q3, c3, w5, Hr, nl5, o5⟩ := (HNL2.out.only HO.out Hgn.out).snoc (j := i) (by rw [List.length_take, Hel.out]; omega) (by omega) hro HTl.out Hgb.out (Hgn.out g (by simp)).1 (Hgn.out g (by simp)).2 (by omega)
          have NL5 : Hid (NewLists w5 ww.heap.size q3 c3 b (E.take (i + 1)) (gs ++ [g])) := Lib.hid (by rw [List.take_add_one, HT.out]; exact nl5)
          have HO5 : Hid (Only [] ww w5) := Lib.hid ((HO2.out.transN HO.out (by simpa using Hgb.out)).transN o5 (fun x hx => (ownBlk HNL2.out.own x hx).1))
          clear nl5 o5 hro hsz hsz2 HNL2 R
          go_wp2_with (first | (at_builtin; refine wpl_append (s := .tmp 63) (x := .tmp 65) rfl rfl rfl rfl Hr.out ?_))
          go_roundw
          case rel => exact ⟨i + 1, q3, c3, _, by go_num, rfl, by omega, NL5, HO5⟩
          case measure => simp [intOf]; omega
    · obtain rfl : i = k + m := by omega
      have hti : ¬ ((k + m : Nat) : Int) < (k : Int) + (m : Int) := by omega
      have hnl := HNL.out
      rw [List.take_of_length_le (by rw [Hel.out]; exact Nat.le_refl _)] at hnl
      have HNL3 := Lib.hid hnl
      clear hnl HNL
      go_wp2_with fail
      go_ret2
      exact ⟨q2, c2, rfl, ⟨gs, HNL3.out⟩, HO1.out⟩
end Go.Proofs.YtlgcclhepegggaaDoor
