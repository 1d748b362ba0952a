/- The walk of bollardlaw02.copied. -/
import Derived.Test.YtlgcclhepegggaaDoorShActs
import Derived.Test.YtlgcclhepegggaaDoorBytesW
import Derived.Test.YtlgcclhepegggaaDoorRegion4
import Derived.Test.YtlgcclhepegggaaDoorRegDirt
set_option linter.unusedVariables false
set_option maxRecDepth 100000
namespace Go.Proofs.YtlgcclhepegggaaDoor
open Go.RowKit

/-- shards with bytes of their own -/
def copyL (L : List Sh) (gs : List Nat) : List Sh := List.zipWith (fun o g => ⟨o.n, some ⟨g, 0, none⟩, o.xs.length + 6, o.xs⟩) L gs
theorem copyL_snoc {L : List Sh} {gs : List Nat} (h : L.length = gs.length) (o : Sh) (g : Nat) : copyL (L ++ [o]) (gs ++ [g]) = copyL L gs ++ [⟨o.n, some ⟨g, 0, none⟩, o.xs.length + 6, o.xs⟩] := by
  unfold copyL; rw [List.zipWith_append h]; rfl
theorem copyL_len {L : List Sh} {gs : List Nat} (h : L.length = gs.length) : (copyL L gs).length = L.length := by unfold copyL; rw [List.length_zipWith, ← h, Nat.min_self]
theorem copyL_get {L : List Sh} {gs : List Nat} {j g : Nat} {o : Sh} (h1 : L[j]? = some o) (h2 : gs[j]? = some g) : (copyL L gs)[j]? = some ⟨o.n, some ⟨g, 0, none⟩, o.xs.length + 6, o.xs⟩ := by
  unfold copyL; rw [List.getElem?_zipWith, h1, h2]
structure Copy (w : World) (base : Nat) (q : Option Addr) (n c : Nat) (L : List Sh) (gs : List Nat) : Prop where
  len : L.length = gs.length
  nn : L.length = n
  nd : gs.Nodup
  own : OwnK w base 80 2 (.slice q n c) n (shFlat (copyL L gs))
  low : ∀ g ∈ gs, base ≤ g ∧ g ∉ blk q
  row : ∀ (j : Nat) g o, gs[j]? = some g → L[j]? = some o → Row w g 5 (u8s (o.xs ++ marks))
theorem Copy.only0 {w w' : World} {base : Nat} {q : Option Addr} {n c : Nat} {L : List Sh} {gs : List Nat} (h : Copy w base q n c L gs) (ho : Only [] w w') : Copy w' base q n c L gs :=
  ⟨h.len, h.nn, h.nd, h.own.only0 ho, h.low, fun j g o h1 h2 => (h.row j g o h1 h2).only0 ho⟩
theorem Copy.lt {w : World} {base : Nat} {q : Option Addr} {n c : Nat} {L : List Sh} {gs : List Nat} (h : Copy w base q n c L gs) : ∀ g ∈ gs, g < w.heap.size := fun g hg => by
  obtain ⟨i, hi⟩ := List.getElem?_of_mem hg
  have hil := (List.getElem?_eq_some_iff.1 hi).1
  exact (h.row i g _ hi (List.getElem?_eq_getElem (by rw [h.len]; exact hil))).lt

/-- bytes with marks in a new block -/
def NewB (xs : List UInt8) (n hi : Nat) : Value → World → Prop := fun v w => ∃ g, v = .slice (some ⟨g, 0, none⟩) n (n + 6) ∧ hi ≤ g ∧ Row w g 5 (u8s (xs ++ marks))
theorem NewB.stable {xs : List UInt8} {n hi : Nat} {D : List Nat} (h : ∀ x ∈ D, x < hi) : Stable (Only D) (NewB xs n hi) := fun _ _ _ ⟨g, e, hg, r⟩ ho => ⟨g, e, hg, r.only ho (fun hm => by have := h _ hm; omega)⟩
def AggB (xs : List UInt8) (a : Int) (n hi : Nat) : Value → World → Prop := fun v w => ∃ g, v = .agg #[.int .i64 a, .slice (some ⟨g, 0, none⟩) n (n + 6)] ∧ hi ≤ g ∧ Row w g 5 (u8s (xs ++ marks))
theorem AggB.stable {xs : List UInt8} {a : Int} {n hi : Nat} {D : List Nat} (h : ∀ x ∈ D, x < hi) : Stable (Only D) (AggB xs a n hi) := fun _ _ _ ⟨g, e, hg, r⟩ ho => ⟨g, e, hg, r.only ho (fun hm => by have := h _ hm; omega)⟩
def ShB (xs : List UInt8) (a : Int) (n hi : Nat) : Value → World → Prop := fun v w => ∃ h g, v = .slice (some ⟨h, 0, none⟩) 1 1 ∧ hi ≤ h ∧ Row w h 80 [.int .i64 a, .slice (some ⟨g, 0, none⟩) n (n + 6)] ∧ hi ≤ g ∧ Row w g 5 (u8s (xs ++ marks))
theorem ShB.stable {xs : List UInt8} {a : Int} {n hi : Nat} {D : List Nat} (h : ∀ x ∈ D, x < hi) : Stable (Only D) (ShB xs a n hi) := fun _ _ _ ⟨b, g, e, hb, r1, hg, r⟩ ho => ⟨b, g, e, hb, r1.only ho (fun hm => by have := h _ hm; omega), hg, r.only ho (fun hm => by have := h _ hm; omega)⟩
def AppC (L : List Sh) (gs : List Nat) (o : Sh) (base hi i : Nat) (D : List Nat) : Value → World → Prop := fun v w => ∃ q' c' g, v = .slice q' (i + 1) c' ∧ OwnK w base 80 2 (.slice q' (i + 1) c') (i + 1) (shFlat (copyL L gs ++ [⟨o.n, some ⟨g, 0, none⟩, o.xs.length + 6, o.xs⟩])) ∧ (∀ x ∈ blk q', x ∈ D ∨ hi ≤ x) ∧ hi ≤ g ∧ g ∉ blk q' ∧ Row w g 5 (u8s (o.xs ++ marks))
theorem AppC.stable0 {L : List Sh} {gs : List Nat} {o : Sh} {base hi i : Nat} {D : List Nat} : Stable (Only []) (AppC L gs o base hi i D) := fun _ _ _ ⟨q', c', g, e, h1, h2, h3, h4, h5⟩ ho => ⟨q', c', g, e, h1.only0 ho, h2, h3, h4, h5.only0 ho⟩

set_option maxHeartbeats 4000000 in
theorem copied_any (n c : Nat) (p : Option Addr) (LL : List Sh) (w0 : World) (hn : LL.length = n) (hnb : n ≤ 1000) (hL : Shards w0 p LL) :
    Calls Tryd.prog 36 #[.slice p n c] w0 fun e w' => ∃ q c' gs, e = .returned (.slice q n c') ∧ Copy w' w0.heap.size q n c' LL gs ∧ Only [] w0 w' := by
  have Hn := Lib.hid hn
  have HL := Lib.hid hL
  clear hn hL
  go_enter Tryd.func36, Tryd.ntmps36
  go_wp2_with fail
  obtain ⟨w1, hw1⟩ : ∃ w1, w1 = w0.alloc (.cells #[] 80) := ⟨_, rfl⟩
  rw [← hw1]
  have o1 : Only [] w0 w1 := by rw [hw1]; exact Only.alloc _ _
  have own1 : OwnK w1 w0.heap.size 80 2 (.slice (some ⟨w0.heap.size, 0, none⟩) 0 0) 0 (shFlat (copyL [] [])) := by rw [hw1]; exact OwnK.new (n := 0) [] (Nat.le_refl _) rfl (by omega)
  have HC1 : Hid (Copy w1 w0.heap.size (some ⟨w0.heap.size, 0, none⟩) 0 0 (LL.take 0) []) := Lib.hid ⟨rfl, rfl, List.nodup_nil, own1, by simp, by simp⟩
  have HO1 := Lib.hid o1
  clear o1 own1 hw1
  go_loopw [9, 3] (fun x o wr => ∃ (i : Nat) (q : Option Addr) (c : Nat) (gs : List Nat), x = .int .i64 (i : Int) ∧ o = .slice q i c ∧ i ≤ n ∧ Hid (Copy wr w0.heap.size q i c (LL.take i) gs) ∧ Hid (Only [] w0 wr)) (fun x _ _ => n - (intOf x).toNat)
  case atStart => exact ⟨0, _, 0, [], rfl, rfl, Nat.zero_le _, HC1, HO1⟩
  case round =>
    clear HC1 HO1
    obtain ⟨i, q, c1, gs, rfl, rfl, hi, HCo, HOr⟩ := hrel
    by_cases hlt : i < n
    · have hii : (i : Int) < (n : Int) := by omega
      obtain ⟨o, ho⟩ : ∃ o, LL[i]? = some o := ⟨_, List.getElem?_eq_getElem (by rw [Hn.out]; exact hlt)⟩
      obtain ⟨bp, off, rfl, hok, hc0, hc1⟩ := (HL.out.only0 HOr.out) i o ho
      have hok0 := HL.out.ok o (List.mem_of_getElem? ho)
      have Ho := Lib.hid ho
      obtain ⟨on, hon⟩ : ∃ x, x = o.n := ⟨_, rfl⟩
      obtain ⟨oq, hoq⟩ : ∃ x, x = o.q := ⟨_, rfl⟩
      obtain ⟨oc, hoc⟩ : ∃ x, x = o.c := ⟨_, rfl⟩
      obtain ⟨ol, hol⟩ : ∃ x, o.xs.length = x := ⟨_, rfl⟩
      have ho2 := hok.2.2.2
      have hrd := hok0.2.1
      have hnil := hok0.2.2.1
      rw [← hon] at hc0
      rw [← hoq, ← hoc, hol] at hc1
      rw [← hoc, hol] at ho2
      rw [← hoq] at hrd
      rw [← hoq, ← hoc, hol] at hnil
      have Hon := Lib.hid hon
      have Hol := Lib.hid hol
      have Hrd := Lib.hid hrd
      have Hoq := Lib.hid hnil
      clear ho hok hok0 hon hoq hoc hol hrd hnil
      go_wp2_with fail
      obtain ⟨wb, hwb⟩ : ∃ wb, wb = wr.alloc (.cells #[.int .i64 on, .slice oq ol oc] 80) := ⟨_, rfl⟩
      rw [← hwb]
      have rX : Row wb wr.heap.size 80 [.int .i64 on, .slice oq ol oc] := by rw [hwb]; exact Row.newOf _ _ _ _ rfl
      have HOx : Hid (Only [] wr wb) := Lib.hid (by rw [hwb]; exact Only.alloc _ _)
      have hb0 := ownKblk HCo.out.own
      have nX : wr.heap.size ∉ blk q := fun hm => by have := (hb0 _ hm).2; omega
      have cX0 := rX.cell (i := 0) rfl
      have cX1 := rX.cell (i := 1) rfl
      have hlq : ∀ x ∈ blk q, x < wb.heap.size := fun x hx => by have := (hb0 x hx).2; have := HOx.out.size; omega
      have Hlo : Hid (∀ x ∈ blk q, w0.heap.size ≤ x) := Lib.hid fun x hx => (hb0 x hx).1
      have HOb : Hid (Only [] w0 wb) := Lib.hid (HOr.out.trans0 HOx.out)
      have HO : Hid (∀ w, Only (blk q) wb w → Only (blk q) w0 w) := Lib.hid fun w h => (HOb.out.mono (by simp)).trans h (fun i hi _ => hi)
      have hCo := HCo.out.only0 HOx.out
      have HOK := Lib.hid hCo.own
      have HCo2 := Lib.hid hCo
      generalize wr.heap.size = X at *
      clear rX hwb hc0 hc1 hb0 HCo hCo HOr HOx
      have Ht : Hid (LL.take (i + 1) = LL.take i ++ [o]) := Lib.hid (by rw [List.take_add_one, Ho.out]; rfl)
      generalize LL.take i = L at *
      have hRr : ∀ a, Only (blk q) a a := fun a => Only.refl _ _
      have hRt : ∀ a b e, Only (blk q) a b → Only (blk q) b e → Only (blk q) a e := fun a b e h h2 => h.trans h2 (fun i hi _ => hi)
      have hRd : Only (blk q) wb wb.drew := (Only.drew _).mono (by simp)
      have hC0 : ∀ d ∈ [8], (fun (_ : Nat) (a : World) => Only [] wb a) d wb.drew := fun _ _ => Only.drew _
      -- <<C5
      refine wp_region_rg4 (Only (blk q)) (Dirt [(8, blk q)]) (fun (_ : Nat) (a : World) => Only [] wb a) [8] [[(3, none)], [(5, none)], [(14, some 0)], [(5, none)], [(16, some 0)], [(17, some 0)], [(15, some 3), (18, some 0)], [(19, some 0)], [(13, some 7), (20, some 0)], [(21, some 0)]] [(3, 0)] [none, none, none, some 3, none, none, none, none, none, none, none, none, none, some 13, some 14, some 15, some 16, some 17, some 18, some 19, some 20, some 21, none, none] (by kernel_rfl) rfl (by kernel_rfl) hRr hRt (fun _ _ => Only.refl _ _) hRd hC0 (by kernel_rfl) (by kernel_rfl) ?_
      -- 0: s13 := move t3
      apply rgd_ev
      · intro a w hR hC hf
        obtain ⟨e3, -⟩ := hf
        replace e3 : a.tmps.getD 3 undef = _ := e3
        refine rg_plain rfl fun K hK => ?_
        go_simp
        exact hK _ _ rfl ⟨hRr _, Only.refl _ _, fun _ _ _ _ h => h⟩
      -- 1: s14 := fieldAddr 80 t5 0
      apply rgd_ev
      · intro a w hR hC hf
        obtain ⟨e5, -⟩ := hf
        replace e5 : a.tmps.getD 5 undef = _ := e5
        refine rg_plain rfl fun K hK => ?_
        go_simp
        exact hK _ _ rfl ⟨hRr _, Only.refl _ _, fun _ _ _ _ h => h⟩
      -- 2: s15 := load 3 t14
      apply rgd_ev
      · intro a w hR hC hf
        obtain ⟨e14, -⟩ := hf
        replace e14 : a.tmps.getD 14 undef = _ := e14
        refine rg_plain rfl fun K hK => ?_
        have h2 := hR.cell cX0 nX
        go_simp
        exact hK _ _ rfl ⟨hRr _, Only.refl _ _, fun _ _ _ _ h => h⟩
      -- 3: s16 := fieldAddr 80 t5 1
      apply rgd_ev
      · intro a w hR hC hf
        obtain ⟨e5, -⟩ := hf
        replace e5 : a.tmps.getD 5 undef = _ := e5
        refine rg_plain rfl fun K hK => ?_
        go_simp
        exact hK _ _ rfl ⟨hRr _, Only.refl _ _, fun _ _ _ _ h => h⟩
      -- 4: s17 := load 27 t16
      apply rgd_ev
      · intro a w hR hC hf
        obtain ⟨e16, -⟩ := hf
        replace e16 : a.tmps.getD 16 undef = _ := e16
        refine rg_plain rfl fun K hK => ?_
        have h4 := hR.cell cX1 nX
        go_simp
        exact hK _ _ rfl ⟨hRr _, Only.refl _ _, fun _ _ _ _ h => h⟩
      -- 5: s18 := call { value (Operand.func 29), args := #[t17], #[27] }
      refine ⟨NewB o.xs ol wb.heap.size, stands_of (NewB.stable (by simp)) (by intro x hx _; obtain rfl := List.mem_singleton.1 hx; exact NewB.stable hlq), fun a w hR hC hf => ?_, ?_⟩
      · obtain ⟨e17, -⟩ := hf
        replace e17 : a.tmps.getD 17 undef = _ := e17
        refine rg_plain rfl fun K hK => ?_
        go_simp
        (with_reducible refine (bytes_any oq o.xs ol oc w Hol.out (by omega) Hoq.out (Hrd.out.after (HO.out w hR) Hlo.out)).mono ?_)
        rintro e w' ⟨g, rfl, hg, r, ho⟩
        exact hK _ _ ⟨g, rfl, Nat.le_trans hR.size hg, r⟩ ⟨ho.mono (by simp), ho, fun _ _ _ _ hc => hc.trans0 ho⟩
      -- 6: s19 := build 80 #[(0, t15), (1, t18)]
      refine ⟨AggB o.xs on ol wb.heap.size, stands_of (AggB.stable (by simp)) (by intro x hx _; obtain rfl := List.mem_singleton.1 hx; exact AggB.stable hlq), fun a w hR hC hf => ?_, ?_⟩
      · obtain ⟨e15, e18, -⟩ := hf
        replace e15 : a.tmps.getD 15 undef = _ := e15
        replace e18 : NewB o.xs ol wb.heap.size (a.tmps.getD 18 undef) w := e18
        refine rg_plain rfl fun K hK => ?_
        have e15' := e15
        rw [Array.getD_eq_getD_getElem?] at e15'
        obtain ⟨g, e18, hg, rg⟩ := e18
        have e15' := e15
        rw [Array.getD_eq_getD_getElem?] at e15'
        have e18' : (a.tmps[18]?).getD undef = .slice (some ⟨g, 0, none⟩) ol (ol + 6) := by rw [← e18]; simp
        go_simp
        exact hK _ _ ⟨g, rfl, hg, rg⟩ ⟨hRr _, Only.refl _ _, fun _ _ _ _ h => h⟩
      -- 7: s20 := buildSlice 75 1 #[(0, t19)]
      refine ⟨ShB o.xs on ol wb.heap.size, stands_of (ShB.stable (by simp)) (by intro x hx _; obtain rfl := List.mem_singleton.1 hx; exact ShB.stable hlq), fun a w hR hC hf => ?_, ?_⟩
      · obtain ⟨e19, -⟩ := hf
        replace e19 : AggB o.xs on ol wb.heap.size (a.tmps.getD 19 undef) w := e19
        refine rg_plain rfl fun K hK => ?_
        obtain ⟨g, e19, hg, rg⟩ := e19
        have e19' : (a.tmps[19]?).getD undef = .agg #[.int .i64 on, .slice (some ⟨g, 0, none⟩) ol (ol + 6)] := by rw [← e19]; simp
        go_simp
        have oA := Only.alloc w (.cells #[.int .i64 on, .slice (some ⟨g, 0, none⟩) ol (ol + 6)] 80)
        exact hK _ _ ⟨w.heap.size, g, rfl, hR.size, Row.newOf _ _ _ _ rfl, hg, rg.only0 oA⟩ ⟨oA.mono (by simp), oA, fun _ _ _ _ hc => hc.trans0 oA⟩
      -- 8: s21 := call { builtin append, args := #[t13, t20], #[75, 75] }
      refine ⟨AppC L gs o w0.heap.size wb.heap.size i (blk q), stands_of AppC.stable0 (by intro x hx hk; obtain rfl := List.mem_singleton.1 hx; exact Bool.noConfusion (hk.symm.trans (by kernel_rfl : _ = true))), fun a w hR hC hf => ?_, ?_⟩
      · obtain ⟨e13, e20, -⟩ := hf
        replace e13 : a.tmps.getD 13 undef = _ := e13
        replace e20 : ShB o.xs on ol wb.heap.size (a.tmps.getD 20 undef) w := e20
        refine rg_plain rfl fun K hK => ?_
        have hC8 := hC 8 (by simp) (by kernel_rfl)
        obtain ⟨h, g, e20, hh, rh, hg, rg⟩ := e20
        have rh' : Rd w (some ⟨h, 0, none⟩) (shFlat [(⟨on, some ⟨g, 0, none⟩, ol + 6, o.xs⟩ : Sh)]) := by
          have : shFlat [(⟨on, some ⟨g, 0, none⟩, ol + 6, o.xs⟩ : Sh)] = [.int .i64 on, .slice (some ⟨g, 0, none⟩) ol (ol + 6)] := by
            show [Value.int .i64 on, Value.slice (some ⟨g, 0, none⟩) o.xs.length (ol + 6)] = _
            rw [Hol.out]
          rw [this]; exact rh.rd0
        obtain ⟨p'', c'', w'', hra, oA, hA, hpA⟩ := sh_append_at w (c := 1) (m := 1) (q := some ⟨h, 0, none⟩) (rs := [(⟨on, some ⟨g, 0, none⟩, ol + 6, o.xs⟩ : Sh)]) (HOK.out.only0 hC8) (Nat.le_trans HOb.out.size hC8.size) rh' rfl (by simp) (by omega)
        refine rg_append (s := .tmp 13) (x := .tmp 20) rfl e13 e20 hra ?_
        have hg2 : g ∉ blk p'' := by
          rcases hpA with rfl | ⟨g', rfl, hg'⟩
          · intro hm; have := hlq g hm; omega
          · intro hm; simp [blk] at hm; have := rg.lt; omega
        refine hK _ _ ⟨p'', c'', g, rfl, ?_, fun x hx => ?_, hg, hg2, rg.only hA (fun hm => by have := hlq g hm; omega)⟩ ⟨hA, hA, fun i hi hne _ _ => absurd (List.mem_singleton.1 hi) hne⟩
        · rw [Hon.out, ← Hol.out] at oA; exact oA
        · rcases hpA with rfl | ⟨g', rfl, hg'⟩
          · exact .inl hx
          · simp [blk] at hx; subst hx; exact .inr (Nat.le_trans hR.size hg')
      -- 9: s3 := assign t21
      refine ⟨AppC L gs o w0.heap.size wb.heap.size i (blk q), stands_of AppC.stable0 (by intro x hx hk; obtain rfl := List.mem_singleton.1 hx; exact Bool.noConfusion (hk.symm.trans (by kernel_rfl : _ = true))), fun a w hR hC hf => ?_, ?_⟩
      · obtain ⟨e21, -⟩ := hf
        replace e21 : AppC L gs o w0.heap.size wb.heap.size i (blk q) (a.tmps.getD 21 undef) w := e21
        refine rg_plain rfl fun K hK => ?_
        generalize hv21 : a.tmps.getD 21 undef = v21 at e21
        go_simp
        exact hK _ _ e21 ⟨hRr _, Only.refl _ _, fun _ _ _ _ h => h⟩
      intro f5 w5 hR5 hf hz5
      dsimp only [mergeT]
      obtain ⟨e3, -⟩ := hf
      replace e3 : AppC L gs o w0.heap.size wb.heap.size i (blk q) (f5 3) w5 := e3
      -- C5>>
      obtain ⟨q', c', g, e3, ow, hb, hg, hg2, rg⟩ := e3
      rw [e3]
      have hbq := ownKblk HOK.out
      have hco := HCo2.out
      have hlt2 := hco.lt
      have HC5 : Hid (Copy w5 w0.heap.size q' (i + 1) c' (LL.take (i + 1)) (gs ++ [g])) := Lib.hid (by
        rw [Ht.out]
        refine ⟨by rw [List.length_append, List.length_append, hco.len]; rfl, by rw [List.length_append, hco.nn]; rfl, ?_, by rw [copyL_snoc hco.len]; exact ow, fun x hx => ?_, fun j x y h1 h2 => ?_⟩
        · rw [List.nodup_append]
          refine ⟨hco.nd, by simp, fun a ha b hb => ?_⟩
          obtain rfl := List.mem_singleton.1 hb
          have := hlt2 a ha
          omega
        · rcases List.mem_append.1 hx with h | h
          · refine ⟨(hco.low x h).1, fun hm => ?_⟩
            rcases hb x hm with h3 | h3
            · exact (hco.low x h).2 h3
            · have := hlt2 x h; omega
          · obtain rfl := List.mem_singleton.1 h
            exact ⟨Nat.le_trans HOb.out.size hg, hg2⟩
        · by_cases e : j < L.length
          · rw [List.getElem?_append_left (by rw [← hco.len]; exact e)] at h1
            rw [List.getElem?_append_left e] at h2
            exact (hco.row j x y h1 h2).only hR5 (hco.low x (List.mem_of_getElem? h1)).2
          · have hj := (List.getElem?_eq_some_iff.1 h2).1
            simp at hj
            obtain rfl : j = L.length := by omega
            rw [List.getElem?_append_right (Nat.le_refl _), Nat.sub_self] at h2
            rw [List.getElem?_append_right (by rw [hco.len]; exact Nat.le_refl _), hco.len, Nat.sub_self] at h1
            obtain rfl := Option.some.inj h1
            obtain rfl := Option.some.inj h2
            exact rg)
      have HO5 : Hid (Only [] w0 w5) := Lib.hid (HOb.out.transN hR5 Hlo.out)
      clear e3 ow hb hg hg2 rg hbq hco hlt2 hz5 hR5 hC0 hRt hRr hRd HCo2 HOK HO
      go_wp2_with fail
      exact ⟨⟨i + 1, q', c', _, by go_num, rfl, by omega, HC5, HO5⟩, by simp [intOf]; omega⟩
    · obtain rfl : i = n := by omega
      have hii : ¬ (i : Int) < (i : Int) := by omega
      have hco := HCo.out
      rw [List.take_of_length_le (by rw [Hn.out]; exact Nat.le_refl _)] at hco
      have HC2 := Lib.hid hco
      clear hco HCo
      go_wp2_with fail
      go_ret
      exact ⟨q, c1, rfl, ⟨gs, HC2.out⟩, HOr.out⟩
end Go.Proofs.YtlgcclhepegggaaDoor
