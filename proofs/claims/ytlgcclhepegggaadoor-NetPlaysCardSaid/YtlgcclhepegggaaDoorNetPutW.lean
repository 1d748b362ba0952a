/- The walk of (*net.Net).put. -/
import Derived.Test.YtlgcclhepegggaaDoorNetFindW
import Derived.Test.YtlgcclhepegggaaDoorSlicesW
import Derived.Test.YtlgcclhepegggaaDoorRegion4
import Derived.Test.YtlgcclhepegggaaDoorRegDirt
set_option linter.unusedVariables false
set_option maxRecDepth 100000
namespace Go.Proofs.YtlgcclhepegggaaDoor
open Go.RowKit

theorem blkOwn {q : Option Addr} {n c : Nat} {k : Nat} (h : (Value.slice q n c).ownBlock = some k) : k ∈ blk q := by
  cases q <;> simp [Value.ownBlock, blk] at h ⊢; exact h.symm
theorem own_ne {w : World} {base X n c : Nat} {e : TypeId} {q : Option Addr} {vs : List Value} (h : Own w base e (.slice q n c) vs) (hX : X < base) : ∀ x, (Value.slice q n c).ownBlock = some x → x ∉ [X] := fun x hx hm => by
  have h1 := (h.lt x hx).1
  have h2 : x = X := by simpa using hm
  omega
/-- one cell of a block turns -/
def OnlyC (X i : Nat) (a b : World) : Prop := Only [X] a b ∧ ∀ (j : Nat) v, j ≠ i → a.cell? ⟨X, j, none⟩ = some v → b.cell? ⟨X, j, none⟩ = some v
theorem OnlyC.refl (X i : Nat) (a : World) : OnlyC X i a a := ⟨Only.refl _ _, fun _ _ _ h => h⟩
theorem OnlyC.setCell (w : World) (X i : Nat) (u : Value) : OnlyC X i w (w.setCell ⟨X, i, none⟩ u) :=
  ⟨Only.setCell w ⟨X, i, none⟩ u, fun j v hj h => by rw [World.cell?_setCell_other _ _ _ _ (by intro h; simp only [Addr.mk.injEq] at h; omega)]; exact h⟩
/-- a letter's block while its number and bytes are written -/
def PutR (X : Nat) (fr to : Int) (a b : World) : Prop := Only [X] a b ∧ ((∃ v0 v3, Row a X 37 [v0, .int .i64 fr, .int .i64 to, v3]) → ∃ v0 v3, Row b X 37 [v0, .int .i64 fr, .int .i64 to, v3])
theorem PutR.of0 {X : Nat} {fr to : Int} {a b : World} (h : Only [] a b) : PutR X fr to a b := ⟨h.mono (by simp), fun ⟨v0, v3, r⟩ => ⟨v0, v3, r.only0 h⟩⟩
theorem PutR.trans {X : Nat} {fr to : Int} {a b c : World} (h : PutR X fr to a b) (k : PutR X fr to b c) : PutR X fr to a c := ⟨h.1.trans k.1 (fun i hi _ => hi), fun x => k.2 (h.2 x)⟩
def PutRs (X : Nat) (k : Nat) : World → World → Prop := if k = 8 then OnlyC X 0 else if k = 10 then OnlyC X 3 else Only []
theorem PutRs.refl (X k : Nat) (w : World) : PutRs X k w w := by
  unfold PutRs
  split
  · exact OnlyC.refl _ _ _
  · split
    · exact OnlyC.refl _ _ _
    · exact Only.refl _ _
theorem putStands {ops : Array Oper} {X k : Nat} {S : Value → World → Prop} (h0 : Stable (Only []) S) (h8 : (8 == k || (ancs ops k).contains 8) = false → Stable (OnlyC X 0) S) (h10 : (10 == k || (ancs ops k).contains 10) = false → Stable (OnlyC X 3) S) : Stands ops (PutRs X) k S := by
  intro j hj hc
  unfold PutRs
  split
  · rename_i e
    subst e
    exact h8 (by simp only [Bool.or_eq_false_iff]; exact ⟨by simpa using hj, hc⟩)
  · split
    · rename_i e
      subst e
      exact h10 (by simp only [Bool.or_eq_false_iff]; exact ⟨by simpa using hj, hc⟩)
    · exact h0
/-- a clone -/
def CloneB (base : Nat) (xs : List UInt8) (l : Nat) : Value → World → Prop := fun v w => ∃ q c, v = .slice q l c ∧ Own w base 5 (.slice q l c) (u8s xs)
theorem CloneB.stable0 (base : Nat) (xs : List UInt8) (l : Nat) : Stable (Only []) (CloneB base xs l) := fun _ _ _ ⟨q, c, e, h⟩ ho => ⟨q, c, e, h.only0 ho⟩
theorem CloneB.stable {base X i : Nat} (xs : List UInt8) (l : Nat) (hX : X < base) : Stable (OnlyC X i) (CloneB base xs l) := fun _ _ _ ⟨q, c, e, h⟩ ho => ⟨q, c, e, h.only ho.1 (own_ne h hX)⟩
/-- a letter in a slice of one -/
def LtB (o : Lt) (hi : Nat) : Value → World → Prop := fun v w => ∃ h, v = .slice (some ⟨h, 0, none⟩) 1 1 ∧ hi ≤ h ∧ Row w h 37 (ltFlat [o])
theorem LtB.stable {o : Lt} {hi : Nat} {D : List Nat} (h : ∀ x ∈ D, x < hi) : Stable (Only D) (LtB o hi) := fun _ _ _ ⟨b, e, hb, r⟩ ho => ⟨b, e, hb, r.only ho (fun hm => by have := h _ hm; omega)⟩
def AppN (o : Lt) (L : List Lt) (base hi n : Nat) (D : List Nat) : Value → World → Prop := fun v w => ∃ q' c', v = .slice q' (n + 1) c' ∧ OwnK w base 37 4 (.slice q' (n + 1) c') (n + 1) (ltFlat (L ++ [o])) ∧ (∀ x ∈ blk q', x ∈ D ∨ hi ≤ x)
theorem AppN.stable0 {o : Lt} {L : List Lt} {base hi n : Nat} {D : List Nat} : Stable (Only []) (AppN o L base hi n D) := fun _ _ _ ⟨q', c', e, h1, h2⟩ ho => ⟨q', c', e, h1.only0 ho, h2⟩
theorem AppN.stable {o : Lt} {L : List Lt} {base hi n : Nat} {D S : List Nat} (h : ∀ x ∈ S, x < hi ∧ x ∉ D) : Stable (Only S) (AppN o L base hi n D) := fun _ _ _ ⟨q', c', e, h1, h2⟩ ho => ⟨q', c', e, h1.only ho (fun x hx hm => by have h3 := h x hm; rcases h2 x (blkOwn hx) with h4 | h4; exact h3.2 h4; omega), h2⟩
def AppZ (o : Lt) (L : List Lt) (base hi n B : Nat) (D : List Nat) (last : Int) : Value → World → Prop := fun _ w => ∃ q' c', Row w B 89 [.slice q' (n + 1) c', .int .i64 last] ∧ OwnK w base 37 4 (.slice q' (n + 1) c') (n + 1) (ltFlat (L ++ [o])) ∧ (∀ x ∈ blk q', x ∈ D ∨ hi ≤ x)
theorem AppZ.stable0 {o : Lt} {L : List Lt} {base hi n B : Nat} {D : List Nat} {last : Int} : Stable (Only []) (AppZ o L base hi n B D last) := fun _ _ _ ⟨q', c', h0, h1, h2⟩ ho => ⟨q', c', h0.only0 ho, h1.only0 ho, h2⟩
theorem lt_append_at {base : Nat} (w : World) {n cap m c : Nat} {p q : Option Addr} {os rs : List Lt} (hown : OwnK w base 37 4 (.slice p n cap) n (ltFlat os)) (hbase : base ≤ w.heap.size) (hr : Rd w q (ltFlat rs)) (hm : rs.length = m) (hq : q = none → m = 0 ∧ c = 0) (hb : (n + m) * 48 ≤ 140737488355328) :
    ∃ p' cap' w', (Builtin.append_ #[87, 87] 87 #[.slice p n cap, .slice q m c]).run Tryd.prog w = .ok (.slice p' (n + m) cap') w' ∧ OwnK w' base 37 4 (.slice p' (n + m) cap') (n + m) (ltFlat (os ++ rs)) ∧ Only (blk p) w w' ∧ (p' = p ∨ ∃ g, p' = some ⟨g, 0, none⟩ ∧ w.heap.size ≤ g) := by
  obtain ⟨p', cap', w', h1, h2, h3⟩ := appendK (P := Tryd.prog) w (c := c) (ty := 87) Tryd.underlying87 Tryd.infoLt rfl (by omega) hown hr (by rw [ltFlat_length, hm]) hq (fun u hu => ltFlat_one hu) hb (by omega) hbase
  exact ⟨p', cap', w', h1, by rw [ltFlat_append]; exact h2, h3, appendK_at (P := Tryd.prog) w Tryd.underlying87 Tryd.infoLt rfl (by omega) hown hr (by rw [ltFlat_length, hm]) hq (fun u hu => ltFlat_one hu) hb (by omega) h1⟩

/-- what put hands back -/
def PutEnd (w0 : World) (base B : Nat) (q : Option Addr) (n c last : Nat) (L : List Lt) (fr to : Int) (xs : List UInt8) (a : Addr) (e : Ending) (w' : World) : Prop :=
  (4096 ≤ n ∧ e = .returned (.tuple #[.int .i64 0, ev a]) ∧ Only [] w0 w') ∨
  (n < 4096 ∧ ∃ q' c' o, e = .returned (.tuple #[.int .i64 ((last + 1 : Nat) : Int), .nilIface]) ∧ NetAt w' base B q' (n + 1) c' (last + 1) (L ++ [o]) ∧ (o.n = last + 1 ∧ o.fr = fr ∧ o.to = to ∧ o.xs = xs) ∧ (∀ x ∈ o.bb, w0.heap.size ≤ x) ∧ (∀ x ∈ blk q', x ∈ blk q ∨ w0.heap.size ≤ x) ∧ Only (B :: blk q) w0 w')
set_option maxHeartbeats 16000000 in
theorem put_any (w0 : World) (base B : Nat) (q : Option Addr) (n c last : Nat) (L : List Lt) (h : NetAt w0 base B q n c last L) (num fr to : Int) (bq : Option Addr) (l bc : Nat) (xs : List UInt8) (hl : xs.length = l) (hlb : l ≤ 140737488351232) (hbn : bq = none → l = 0 ∧ bc = 0) (hbr : Rd w0 bq (u8s xs)) (hne : xs ≠ [] → ∀ a, bq = some a → a.block ≠ B) (hlast : last ≤ 1000000000000000000) (a : Addr) (hE : ErrAt w0 10 a) :
    Calls Tryd.prog 41 #[.pointer (some ⟨B, 0, none⟩), .agg #[.int .i64 num, .int .i64 fr, .int .i64 to, .slice bq l bc]] w0 (PutEnd w0 base B q n c last L fr to xs a) := by
  have c0 := h.st.cell (i := 0) rfl
  unfold PutEnd
  obtain ⟨w1, hw1⟩ : ∃ w1, w1 = w0.alloc (.cells #[.int .i64 num, .int .i64 fr, .int .i64 to, .slice bq l bc] 37) := ⟨_, rfl⟩
  have o1 : Only [] w0 w1 := by rw [hw1]; exact Only.alloc _ _
  have rX : Row w1 w0.heap.size 37 [.int .i64 num, .int .i64 fr, .int .i64 to, .slice bq l bc] := by rw [hw1]; exact Row.newOf _ _ _ _ rfl
  have c0a := o1.cell c0 (by simp)
  by_cases hfull : 4096 ≤ n
  · have hfi : (4096 : Int) ≤ (n : Int) := by omega
    have hgc := (hE.only0 o1).cell
    have Ho1 := Lib.hid o1
    rw [hw1] at c0a hgc
    clear o1 rX h hE hbr c0
    unfold ev
    go_enter Tryd.func41, Tryd.ntmps41
    go_wp2_with fail
    go_quiet (fail)
    go_wp2_with fail
    go_ret2
    refine .inl ⟨hfull, rfl, Only.trans0 ?_ (Only.drewN _ _)⟩
    rw [← hw1]; exact Ho1.out
  · have hfi : ¬ (4096 : Int) ≤ (n : Int) := by omega
    have hwl : IntKind.i64.wrap ((last : Int) + 1) = (last : Int) + 1 := IntWalk.i64_in _ (by omega)
    have hnet := h.only0 o1
    have c1 := hnet.st.cell (i := 1) rfl
    have f1 := hnet.st.free 1
    have hXlt := rX.lt
    have hlt0 := h.lt
    have Hlt0 := Lib.hid hlt0
    have HNet := Lib.hid hnet
    have HX1 := Lib.hid rX
    have Ho1 := Lib.hid o1
    have Hl := Lib.hid hl
    have Hbn := Lib.hid hbn
    have Hbr0 := Lib.hid hbr
    rw [hw1] at c0a c1 f1
    clear o1 rX h hE c0 hl hbn hbr hlt0
    go_enter Tryd.func41, Tryd.ntmps41
    go_wp2_with fail
    rw [← hw1]
    obtain ⟨wr, hwr⟩ : ∃ wr, wr = w1.setCell ⟨B, 1, none⟩ (.int .i64 ((last : Int) + 1)) := ⟨_, rfl⟩
    rw [← hwr]
    have oB : Only [B] w1 wr := by rw [hwr]; exact Only.setCell w1 ⟨B, 1, none⟩ _
    have hBlt : B < w0.heap.size := (Hlt0.out B (by simp [netD])).2
    have hnd := HNet.out.nd
    have hBq : B ∉ blk q := fun hm => (List.nodup_cons.1 hnd).1 (List.mem_append_left _ hm)
    have hstB : Row wr B 89 [.slice q n c, .int .i64 ((last : Int) + 1)] := by rw [hwr]; exact HNet.out.st.setCell 1 _
    have HstB := Lib.hid hstB
    have hX := HX1.out.only oB (by simp; omega)
    have HX := Lib.hid hX
    have hb1 := hstB.cell (i := 1) rfl
    have HBX : Hid (B ≠ w0.heap.size) := Lib.hid (by omega)
    have hX3 := hX.cell (i := 3) rfl
    have hXlt2 := hX.lt
    have Hnd := Lib.hid hnd
    have HBq := Lib.hid hBq
    have HoB := Lib.hid oB
    have hbqlt : ∀ x ∈ blk q, x < w0.heap.size := fun x hx => (Hlt0.out x (by simp [netD, hx])).2
    have Hbqlt := Lib.hid hbqlt
    have Hbr : Hid (∀ w, Only [w0.heap.size] wr w → Rd w bq (u8s xs)) := Lib.hid fun w ho => by
      have h1 : Rd wr bq (u8s xs) := (Hbr0.out.only0 Ho1.out).onlyNe' oB (fun e a ha hm => hne e a ha (by simpa using hm))
      refine h1.onlyNe' ho (fun e a ha hm => ?_)
      obtain ⟨b, off, e6, h7⟩ := Hbr0.out.lt (fun e2 => e (by unfold u8s at e2; exact List.map_eq_nil_iff.1 e2))
      rw [ha] at e6
      obtain rfl := Option.some.inj e6
      simp at hm
      omega
    generalize hXe : w0.heap.size = X at *
    have HXe := Lib.hid hXe
    clear hXe hw1 hwr c0a c1 f1 oB hnd hBq hstB hX hbqlt
    have hRr : ∀ a, PutR X fr to a a := fun a => PutR.of0 (Only.refl _ _)
    have hRt : ∀ a b e, PutR X fr to a b → PutR X fr to b e → PutR X fr to a e := fun a b e h h2 => h.trans h2
    have hRd : PutR X fr to wr wr.drew := PutR.of0 (Only.drew _)
    have hRs := PutRs.refl X
    have hC0 : ∀ d ∈ [8, 10], (fun (i : Nat) (a : World) => i = 10 → a.cell? ⟨X, 3, none⟩ = some (.slice bq l bc)) d wr.drew := fun _ _ _ => (Only.drew wr).cell hX3 (by simp)
    have hX : X < wr.heap.size := hXlt2
    -- <<R4
    refine wp_region_rg4 (PutR X fr to) (PutRs X) (fun (i : Nat) (a : World) => i = 10 → a.cell? ⟨X, 3, none⟩ = some (.slice bq l bc)) [8, 10] [[(0, none)], [(20, some 0)], [(21, some 0)], [(22, some 0)], [(3, none)], [(24, some 0)], [(25, some 0)], [(3, none)], [(27, some 0), (23, some 4)], [(3, none)], [(28, some 0), (26, some 3)]] [] [none, none, none, none, none, none, none, none, none, none, none, none, none, none, none, none, none, none, none, none, some 20, some 21, some 22, some 23, some 24, some 25, some 26, some 27, some 28, none, none, none, none, none, none, none, none, none, none, none, none, none, none] (by kernel_rfl) rfl (by kernel_rfl) hRr hRt hRs hRd hC0 (by kernel_rfl) (by kernel_rfl) ?_
    -- 0: s20 := move t0
    apply rgd_ev
    · intro a w hR hC hf
      obtain ⟨e0, -⟩ := hf
      replace e0 : a.tmps.getD 0 undef = _ := e0
      refine rg_plain rfl fun K hK => ?_
      go_simp
      exact hK _ _ rfl ⟨hRr _, hRs _ _, fun _ _ _ _ h => h⟩
    -- 1: s21 := nilCheck t20
    apply rgd_ev
    · intro a w hR hC hf
      obtain ⟨e20, -⟩ := hf
      replace e20 : a.tmps.getD 20 undef = _ := e20
      refine rg_plain rfl fun K hK => ?_
      go_simp
      exact hK _ _ rfl ⟨hRr _, hRs _ _, fun _ _ _ _ h => h⟩
    -- 2: s22 := fieldAddr 89 t21 1
    apply rgd_ev
    · intro a w hR hC hf
      obtain ⟨e21, -⟩ := hf
      replace e21 : a.tmps.getD 21 undef = _ := e21
      refine rg_plain rfl fun K hK => ?_
      go_simp
      exact hK _ _ rfl ⟨hRr _, hRs _ _, fun _ _ _ _ h => h⟩
    -- 3: s23 := load 3 t22
    apply rgd_ev
    · intro a w hR hC hf
      obtain ⟨e22, -⟩ := hf
      replace e22 : a.tmps.getD 22 undef = _ := e22
      refine rg_plain rfl fun K hK => ?_
      have h3 := hR.1.cell hb1 (by simpa using HBX.out)
      go_simp
      exact hK _ _ rfl ⟨hRr _, hRs _ _, fun _ _ _ _ h => h⟩
    -- 4: s24 := fieldAddr 37 t3 3
    apply rgd_ev
    · intro a w hR hC hf
      obtain ⟨e3, -⟩ := hf
      replace e3 : a.tmps.getD 3 undef = _ := e3
      refine rg_plain rfl fun K hK => ?_
      go_simp
      exact hK _ _ rfl ⟨hRr _, hRs _ _, fun _ _ _ _ h => h⟩
    -- 5: s25 := load 27 t24
    apply rgd_ev
    · intro a w hR hC hf
      obtain ⟨e24, -⟩ := hf
      replace e24 : a.tmps.getD 24 undef = _ := e24
      refine rg_plain rfl fun K hK => ?_
      have h5 := (hC 10 (by simp) (by kernel_rfl)) rfl
      go_simp
      exact hK _ _ rfl ⟨hRr _, hRs _ _, fun _ _ _ _ h => h⟩
    -- 6: s26 := call { value (Operand.func 55), args := #[t25], #[27] }
    refine ⟨CloneB wr.heap.size xs l, putStands (CloneB.stable0 _ _ _) (fun _ => CloneB.stable _ _ hX) (fun _ => CloneB.stable _ _ hX), fun a w hR hC hf => ?_, ?_⟩
    · obtain ⟨e25, -⟩ := hf
      replace e25 : a.tmps.getD 25 undef = _ := e25
      refine rg_plain rfl fun K hK => ?_
      have hR1 := hR.1
      go_simp
      (with_reducible refine (clone_any bq xs l bc w Hl.out (by omega) Hbn.out (Hbr.out w hR1)).mono ?_)
      rintro e w' ⟨p', c', rfl, ow, ho⟩
      exact hK _ _ ⟨p', c', rfl, ow.weaken hR.1.size⟩ ⟨PutR.of0 ho, ho, fun i _ _ _ hc e => ho.cell (hc e) (by simp)⟩
    -- 7: s27 := fieldAddr 37 t3 0
    apply rgd_ev
    · intro a w hR hC hf
      obtain ⟨e3, -⟩ := hf
      replace e3 : a.tmps.getD 3 undef = _ := e3
      refine rg_plain rfl fun K hK => ?_
      go_simp
      exact hK _ _ rfl ⟨hRr _, hRs _ _, fun _ _ _ _ h => h⟩
    -- 8: sNone := store 3 t27 t23
    refine ⟨fun _ a => a.cell? ⟨X, 0, none⟩ = some (.int .i64 ((last : Int) + 1)), putStands (fun _ _ _ h ho => ho.cell h (by simp)) (fun h => by simp at h) (fun _ _ _ _ h ho => ho.2 0 _ (by omega) h), fun a w hR hC hf => ?_, ?_⟩
    · obtain ⟨e27, e23, -⟩ := hf
      replace e27 : a.tmps.getD 27 undef = _ := e27
      replace e23 : a.tmps.getD 23 undef = _ := e23
      refine rg_plain rfl fun K hK => ?_
      obtain ⟨v0, v3, rX⟩ := hR.2 ⟨_, _, HX.out⟩
      have hc8 := rX.cell (i := 0) rfl
      have hf8 := rX.free 0
      go_simp
      exact hK undef _ ((rX.setCell 0 _).cell (i := 0) rfl) ⟨⟨Only.setCell w ⟨X, 0, none⟩ _, fun ⟨v0, v3, r⟩ => ⟨_, v3, r.setCell 0 _⟩⟩, OnlyC.setCell w X 0 _, fun i hi hne _ hc e => (OnlyC.setCell w X 0 _).2 3 _ (by omega) (hc e)⟩
    -- 9: s28 := fieldAddr 37 t3 3
    apply rgd_ev
    · intro a w hR hC hf
      obtain ⟨e3, -⟩ := hf
      replace e3 : a.tmps.getD 3 undef = _ := e3
      refine rg_plain rfl fun K hK => ?_
      go_simp
      exact hK _ _ rfl ⟨hRr _, hRs _ _, fun _ _ _ _ h => h⟩
    -- 10: sNone := store 27 t28 t26
    refine ⟨fun _ a => ∃ q c, a.cell? ⟨X, 3, none⟩ = some (.slice q l c) ∧ Own a wr.heap.size 5 (.slice q l c) (u8s xs), putStands (fun _ _ _ ⟨q, c, h, ow⟩ ho => ⟨q, c, ho.cell h (by simp), ow.only0 ho⟩) (fun _ _ _ _ ⟨q, c, h, ow⟩ ho => ⟨q, c, ho.2 3 _ (by omega) h, ow.only ho.1 (own_ne ow hX)⟩) (fun h => by simp at h), fun a w hR hC hf => ?_, ?_⟩
    · obtain ⟨e28, e26, -⟩ := hf
      replace e28 : a.tmps.getD 28 undef = _ := e28
      replace e26 : CloneB wr.heap.size xs l (a.tmps.getD 26 undef) w := e26
      refine rg_plain rfl fun K hK => ?_
      obtain ⟨q26, c26, e26, o26⟩ := e26
      obtain ⟨v0, v3, rX⟩ := hR.2 ⟨_, _, HX.out⟩
      have hc10 := rX.cell (i := 3) rfl
      have hf10 := rX.free 3
      go_simp
      exact hK undef _ ⟨q26, c26, (rX.setCell 3 _).cell (i := 3) rfl, o26.only (Only.setCell w ⟨X, 3, none⟩ _) (own_ne o26 hX)⟩ ⟨⟨Only.setCell w ⟨X, 3, none⟩ _, fun ⟨v0, v3, r⟩ => ⟨v0, _, r.setCell 3 _⟩⟩, OnlyC.setCell w X 3 _, fun i hi hne ha hc e => absurd e hne⟩
    intro f4 w4 hR4 hf hz4
    dsimp only [mergeT]
    -- R4>>
    obtain ⟨v10, q3, c3, h10, own3⟩ := hz4 _ (List.mem_cons_self ..)
    obtain ⟨v8, h8⟩ := hz4 _ (List.mem_cons_of_mem _ (List.mem_cons_of_mem _ (List.mem_cons_self ..)))
    obtain ⟨v0, v3, rX⟩ := hR4.2 ⟨_, _, HX.out⟩
    have ev0 := (rX.cell (i := 0) rfl).symm.trans h8
    have ev3 := (rX.cell (i := 3) rfl).symm.trans h10
    obtain rfl := Option.some.inj ev0
    obtain rfl := Option.some.inj ev3
    have hO4 := hR4.1
    obtain ⟨wb, hwb⟩ : ∃ wb, wb = w4 := ⟨_, rfl⟩
    subst hwb
    have HOwr : Hid (Only [B] w1 wr) := HoB
    have hst4 := HstB.out.only hO4 (by simpa using HBX.out)
    have HOK : Hid (OwnK wb base 37 4 (.slice q n c) n (ltFlat L)) := Lib.hid ((HNet.out.own.only HoB.out (fun k hk hm => by
        obtain rfl : k = B := by simpa using hm
        exact HBq.out (blkOwn hk))).only hO4 (fun k hk hm => by
        have h1 : k = X := by simpa using hm
        have := Hbqlt.out k (blkOwn hk)
        omega))
    obtain ⟨o, ho⟩ : ∃ o : Lt, o = ⟨last + 1, fr, to, q3, c3, xs⟩ := ⟨_, rfl⟩
    have hoc : ltFlat [o] = [.int .i64 ((last : Int) + 1), .int .i64 fr, .int .i64 to, .slice q3 l c3] := by
      rw [ho]
      show [Value.int .i64 ((last + 1 : Nat) : Int), Value.int .i64 fr, Value.int .i64 to, Value.slice q3 xs.length c3] = _
      rw [Hl.out]; rfl
    have Hoc := Lib.hid hoc
    have Ho := Lib.hid ho
    have Hown3 := Lib.hid own3
    have hsz := hO4.size
    have Hbase : Hid (base ≤ wb.heap.size) := Lib.hid (by have := HNet.out.lo.1; omega)
    have nX : X ∉ (B :: blk q) := by
      intro hm
      rcases List.mem_cons.1 hm with h | h
      · exact HBX.out h.symm
      · have := Hbqlt.out X h; omega
    have cx0 := rX.cell (i := 0) rfl
    have cx1 := rX.cell (i := 1) rfl
    have cx2 := rX.cell (i := 2) rfl
    have cx3 := rX.cell (i := 3) rfl
    have hlq : ∀ x ∈ blk q, x < wb.heap.size := fun x hx => by have := Hbqlt.out x hx; omega
    have hlB : ∀ x ∈ [B], x < wb.heap.size := by simp; omega
    have hB1 : ∀ x ∈ [B], x < wb.heap.size ∧ x ∉ blk q := by simp; exact ⟨by omega, HBq.out⟩
    have HO4 := Lib.hid hO4
    clear hz4 h8 h10 hR4 hRr hRt hRd hRs hC0 own3 hoc ho hX3 hb1 hO4 hXlt2
    go_wp2_with fail
    have hRr : ∀ a, Only (B :: blk q) a a := fun a => Only.refl _ _
    have hRt : ∀ a b e, Only (B :: blk q) a b → Only (B :: blk q) b e → Only (B :: blk q) a e := fun a b e h h2 => h.trans h2 (fun i hi _ => hi)
    have hRd : Only (B :: blk q) wb wb.drew := (Only.drew _).mono (by simp)
    have hC0 : ∀ i ∈ [7, 10], (fun (i : Nat) (a : World) => (i = 7 → Only [] wb a) ∧ (i = 10 → Row a B 89 [.slice q n c, .int .i64 ((last : Int) + 1)])) i wb.drew := fun _ _ => ⟨fun _ => Only.drew _, fun _ => hst4.only0 (Only.drew _)⟩
    -- <<R5
    refine wp_region_rg4 (Only (B :: blk q)) (Dirt [(7, blk q), (10, [B])]) (fun (i : Nat) (a : World) => (i = 7 → Only [] wb a) ∧ (i = 10 → Row a B 89 [.slice q n c, .int .i64 ((last : Int) + 1)])) [7, 10] [[(0, none)], [(0, none)], [(30, some 0)], [(31, some 0)], [(32, some 0)], [(3, none)], [(34, some 0)], [(33, some 2), (35, some 0)], [(29, some 7)], [(37, some 0)], [(38, some 0), (36, some 2)]] [] [none, none, none, none, none, none, none, none, none, none, none, none, none, none, none, none, none, none, none, none, none, none, none, none, none, none, none, none, none, some 29, some 30, some 31, some 32, some 33, some 34, some 35, some 36, some 37, some 38, none, none, none, none] (by kernel_rfl) rfl (by kernel_rfl) hRr hRt (fun _ _ => Only.refl _ _) hRd hC0 (by kernel_rfl) (by kernel_rfl) ?_
    -- 0: s29 := move t0
    apply rgd_ev
    · intro a w hR hC hf
      obtain ⟨e0, -⟩ := hf
      replace e0 : a.tmps.getD 0 undef = _ := e0
      refine rg_plain rfl fun K hK => ?_
      go_simp
      exact hK _ _ rfl ⟨hRr _, Only.refl _ _, fun _ _ _ _ h => h⟩
    -- 1: s30 := move t0
    apply rgd_ev
    · intro a w hR hC hf
      obtain ⟨e0, -⟩ := hf
      replace e0 : a.tmps.getD 0 undef = _ := e0
      refine rg_plain rfl fun K hK => ?_
      go_simp
      exact hK _ _ rfl ⟨hRr _, Only.refl _ _, fun _ _ _ _ h => h⟩
    -- 2: s31 := nilCheck t30
    apply rgd_ev
    · intro a w hR hC hf
      obtain ⟨e30, -⟩ := hf
      replace e30 : a.tmps.getD 30 undef = _ := e30
      refine rg_plain rfl fun K hK => ?_
      go_simp
      exact hK _ _ rfl ⟨hRr _, Only.refl _ _, fun _ _ _ _ h => h⟩
    -- 3: s32 := fieldAddr 89 t31 0
    apply rgd_ev
    · intro a w hR hC hf
      obtain ⟨e31, -⟩ := hf
      replace e31 : a.tmps.getD 31 undef = _ := e31
      refine rg_plain rfl fun K hK => ?_
      go_simp
      exact hK _ _ rfl ⟨hRr _, Only.refl _ _, fun _ _ _ _ h => h⟩
    -- 4: s33 := load 87 t32
    apply rgd_ev
    · intro a w hR hC hf
      obtain ⟨e32, -⟩ := hf
      replace e32 : a.tmps.getD 32 undef = _ := e32
      refine rg_plain rfl fun K hK => ?_
      have h4 := ((hC 10 (by simp) (by kernel_rfl)).2 rfl).cell (i := 0) rfl
      go_simp
      exact hK _ _ rfl ⟨hRr _, Only.refl _ _, fun _ _ _ _ h => h⟩
    -- 5: s34 := load 37 t3
    apply rgd_ev
    · intro a w hR hC hf
      obtain ⟨e3, -⟩ := hf
      replace e3 : a.tmps.getD 3 undef = _ := e3
      refine rg_plain rfl fun K hK => ?_
      have h50 := hR.cell cx0 nX
      have h51 := hR.cell cx1 nX
      have h52 := hR.cell cx2 nX
      have h53 := hR.cell cx3 nX
      go_simp
      exact hK _ _ rfl ⟨hRr _, Only.refl _ _, fun _ _ _ _ h => h⟩
    -- 6: s35 := buildSlice 87 1 #[(0, t34)]
    refine ⟨LtB o wb.heap.size, stands_of (LtB.stable (by simp)) (two_dirt (Z := fun x => Stable (Only x.2) (LtB o wb.heap.size)) (fun _ => LtB.stable hlq) (fun _ => LtB.stable hlB)), fun a w hR hC hf => ?_, ?_⟩
    · obtain ⟨e34, -⟩ := hf
      replace e34 : a.tmps.getD 34 undef = _ := e34
      refine rg_plain rfl fun K hK => ?_
      have e34' := e34
      rw [Array.getD_eq_getD_getElem?] at e34'
      go_simp
      have oA := Only.alloc w (.cells #[.int .i64 ((last : Int) + 1), .int .i64 fr, .int .i64 to, .slice q3 l c3] 37)
      exact hK _ _ ⟨w.heap.size, rfl, hR.size, by rw [Hoc.out]; exact Row.newOf _ _ _ _ rfl⟩ ⟨oA.mono (by simp), oA, fun i _ _ _ hc => ⟨fun e => (hc.1 e).trans0 oA, fun e => (hc.2 e).only0 oA⟩⟩
    -- 7: s36 := call { builtin append, args := #[t33, t35], #[87, 87] }
    refine ⟨AppN o L base wb.heap.size n (blk q), stands_of AppN.stable0 (two_dirt (Z := fun x => Stable (Only x.2) (AppN o L base wb.heap.size n (blk q))) (fun h => by simp at h) (fun _ => AppN.stable hB1)), fun a w hR hC hf => ?_, ?_⟩
    · obtain ⟨e33, e35, -⟩ := hf
      replace e33 : a.tmps.getD 33 undef = _ := e33
      replace e35 : LtB o wb.heap.size (a.tmps.getD 35 undef) w := e35
      refine rg_plain rfl fun K hK => ?_
      have hC7 := (hC 7 (by simp) (by kernel_rfl)).1 rfl
      obtain ⟨h, e35, hh, rh⟩ := e35
      obtain ⟨p'', c'', w'', hra, oA, hA, hpA⟩ := lt_append_at w (c := 1) (m := 1) (q := some ⟨h, 0, none⟩) (rs := [o]) (HOK.out.only0 hC7) (Nat.le_trans Hbase.out hC7.size) rh.rd0 rfl (by simp) (by omega)
      refine rg_append (s := .tmp 33) (x := .tmp 35) rfl e33 e35 hra ?_
      refine hK _ _ ⟨p'', c'', rfl, oA, fun x hx => ?_⟩ ⟨hA.mono (fun x hx => List.mem_cons_of_mem _ hx), hA, fun i _ hne _ hc => ⟨fun e => absurd e hne, fun e => (hc.2 e).only hA HBq.out⟩⟩
      rcases hpA with rfl | ⟨g', rfl, hg'⟩
      · exact .inl hx
      · simp [blk] at hx; subst hx; exact .inr (Nat.le_trans hR.size hg')
    -- 8: s37 := nilCheck t29
    apply rgd_ev
    · intro a w hR hC hf
      obtain ⟨e29, -⟩ := hf
      replace e29 : a.tmps.getD 29 undef = _ := e29
      refine rg_plain rfl fun K hK => ?_
      go_simp
      exact hK _ _ rfl ⟨hRr _, Only.refl _ _, fun _ _ _ _ h => h⟩
    -- 9: s38 := fieldAddr 89 t37 0
    apply rgd_ev
    · intro a w hR hC hf
      obtain ⟨e37, -⟩ := hf
      replace e37 : a.tmps.getD 37 undef = _ := e37
      refine rg_plain rfl fun K hK => ?_
      go_simp
      exact hK _ _ rfl ⟨hRr _, Only.refl _ _, fun _ _ _ _ h => h⟩
    -- 10: sNone := store 87 t38 t36
    refine ⟨AppZ o L base wb.heap.size n B (blk q) ((last : Int) + 1), stands_of AppZ.stable0 (two_dirt (Z := fun x => Stable (Only x.2) (AppZ o L base wb.heap.size n B (blk q) ((last : Int) + 1))) (fun h => Bool.noConfusion (h.symm.trans (by kernel_rfl : _ = true))) (fun h => by simp at h)), fun a w hR hC hf => ?_, ?_⟩
    · obtain ⟨e38, e36, -⟩ := hf
      replace e38 : a.tmps.getD 38 undef = _ := e38
      replace e36 : AppN o L base wb.heap.size n (blk q) (a.tmps.getD 36 undef) w := e36
      refine rg_plain rfl fun K hK => ?_
      obtain ⟨q', c', e36, ow, hb⟩ := e36
      have rB := (hC 10 (by simp) (by kernel_rfl)).2 rfl
      have h10c := rB.cell (i := 0) rfl
      have h10f := rB.free 0
      go_simp
      have hst : Only [B] w (w.setCell ⟨B, 0, none⟩ (.slice q' (n + 1) c')) := Only.setCell w ⟨B, 0, none⟩ _
      refine hK undef _ ⟨q', c', rB.setCell 0 _, ow.only hst ?_, hb⟩ ⟨hst.mono (by simp), hst, ?_⟩
      · intro x hx hm
        obtain rfl : x = B := by simpa using hm
        rcases hb _ (blkOwn hx) with h | h
        · exact HBq.out h
        · have := hlB x (by simp); omega
      · intro i hi hne ha _
        simp only [List.mem_cons, List.not_mem_nil, or_false] at hi
        rcases hi with rfl | rfl
        · exact Bool.noConfusion (ha.symm.trans (by kernel_rfl : _ = true))
        · exact absurd rfl hne
    intro f5 w5 hR5 hf hz5
    dsimp only [mergeT]
    -- R5>>
    obtain ⟨v10, q', c', rB, ow, hb⟩ := hz5 _ (List.mem_cons_self ..)
    have c1 := rB.cell (i := 1) rfl
    have hsz5 := hR5.size
    have hobb : ∀ x ∈ o.bb, wr.heap.size ≤ x ∧ x < wb.heap.size := by
      intro x hx
      unfold Lt.bb at hx
      split at hx
      · cases hx
      · rw [Ho.out] at hx
        have := Hown3.out.view.2.2.2.2.2
        cases q3 with
        | none => simp [blk] at hx
        | some a => simp [blk] at hx; subst hx; exact Hown3.out.lt _ rfl
    have hnet : NetAt w5 base B q' (n + 1) c' (last + 1) (L ++ [o]) := by
      have hnd := List.nodup_cons.1 Hnd.out
      have hnd2 := List.nodup_append.1 hnd.2
      have hbbs : ∀ x ∈ bbs L, x < X ∧ base ≤ x := fun x hx => by
        have h1 := Hlt0.out x (by simp [netD, hx])
        exact ⟨h1.2, h1.1⟩
      refine ⟨by rw [show ((last + 1 : Nat) : Int) = (last : Int) + 1 by omega]; exact rB, ow, fun y hy => ?_, by rw [List.length_append, HNet.out.len]; rfl, ?_, HNet.out.lo.1, fun x hx => ?_⟩
      · rcases List.mem_append.1 hy with h | h
        · have h0 := HNet.out.ok y h
          have hy1 : ∀ x ∈ y.bb, x < X ∧ x ≠ B ∧ x ∉ blk q := fun x hx => by
            have h3 := bbs_mem h hx
            exact ⟨(hbbs x h3).1, fun e => hnd.1 (by rw [← e]; exact List.mem_append_right _ h3), fun hm => hnd2.2.2 x hm x h3 rfl⟩
          refine ((h0.only HoB.out (fun x hx hm => (hy1 x hx).2.1 (by simpa using hm))).only HO4.out (fun x hx hm => ?_)).only hR5 (fun x hx hm => ?_)
          · have h5 : x = X := by simpa using hm
            have := (hy1 x hx).1; omega
          · rcases List.mem_cons.1 hm with h5 | h5
            · exact (hy1 x hx).2.1 h5
            · exact (hy1 x hx).2.2 h5
        · obtain rfl := List.mem_singleton.1 h
          have hv := (Hown3.out.only hR5 (fun x hx hm => by
            have h1 := (Hown3.out.lt x hx).1
            rcases List.mem_cons.1 hm with h5 | h5
            · omega
            · have := Hbqlt.out x h5; omega)).view
          rw [Ho.out]
          refine ⟨hv.1, fun e => ?_, ?_, by dsimp only; rw [Hl.out]; exact hlb⟩
          · dsimp only at e ⊢
            rw [Hl.out]; exact hv.2.2.1 e
          · dsimp only
            refine ⟨by rw [Hl.out]; exact hv.2.2.2.1, fun _ => ?_⟩
            rw [Hl.out]
            exact ((Hown3.out.only hR5 (fun x hx hm => by
              have h1 := (Hown3.out.lt x hx).1
              rcases List.mem_cons.1 hm with h5 | h5
              · omega
              · have := Hbqlt.out x h5; omega))).weaken (Nat.zero_le _)
      · rw [List.nodup_cons, List.nodup_append, bbs_append, List.nodup_append]
        have hbo : bbs [o] = o.bb := by unfold bbs; simp
        rw [hbo]
        have hbq1 : ∀ x ∈ blk q', x ∉ bbs L ∧ x ∉ o.bb ∧ x ≠ B := fun x hx => by
          rcases hb x hx with h1 | h1
          · refine ⟨fun hm => hnd2.2.2 x h1 x hm rfl, fun hm => ?_, fun e => HBq.out (e ▸ h1)⟩
            have := (hobb x hm).1; have := Hbqlt.out x h1; omega
          · refine ⟨fun hm => ?_, fun hm => ?_, fun e => ?_⟩
            · have := (hbbs x hm).1; omega
            · have := (hobb x hm).2; omega
            · omega
        refine ⟨fun hm => ?_, ?_, ⟨hnd2.2.1, ?_, fun a ha b hb2 e => ?_⟩, fun a ha b hb2 e => ?_⟩
        · rcases List.mem_append.1 hm with h1 | h1
          · exact (hbq1 B h1).2.2 rfl
          · rcases List.mem_append.1 h1 with h1 | h1
            · exact hnd.1 (List.mem_append_right _ h1)
            · have := (hobb B h1).1; omega
        · cases q' <;> simp [blk]
        · unfold Lt.bb; split
          · simp
          · cases o.q <;> simp [blk]
        · have := (hbbs a ha).1
          have := (hobb b hb2).1
          omega
        · subst e
          rcases List.mem_append.1 hb2 with h1 | h1
          · exact (hbq1 a ha).1 h1
          · exact (hbq1 a ha).2.1 h1
      · rw [bbs_append] at hx
        rcases List.mem_append.1 hx with h | h
        · exact HNet.out.lo.2 x h
        · have hbo : bbs [o] = o.bb := by unfold bbs; simp
          rw [hbo] at h
          have := (hobb x h).1
          have := HNet.out.lo.1
          omega
    have HN := Lib.hid hnet
    have Hobb : Hid (∀ x ∈ o.bb, X ≤ x) := Lib.hid fun x hx => by have := (hobb x hx).1; omega
    have Hpl : Hid (∀ x ∈ blk q', x ∈ blk q ∨ X ≤ x) := Lib.hid fun x hx => (hb x hx).imp id (fun h => by omega)
    have HOend : Hid (Only (B :: blk q) w0 w5) := Lib.hid (((((Ho1.out.mono (by simp)).trans HoB.out (by simp)).trans HO4.out (fun i hi hl2 => by
      have h5 : i = X := by simpa using hi
      have h6 := HXe.out
      omega)).trans hR5 (fun i hi _ => hi)))
    have hn2 : n < 4096 := by omega
    have Hoe : Hid (o.n = last + 1 ∧ o.fr = fr ∧ o.to = to ∧ o.xs = xs) := Lib.hid (by rw [Ho.out]; exact ⟨rfl, rfl, rfl, rfl⟩)
    clear hz5 hR5 rB ow hb hobb hnet hRr hRt hRd hC0 cx0 cx1 cx2 cx3 rX
    go_wp2_with fail
    go_ret2
    exact .inr ⟨hn2, q', c', o, by rw [show ((last + 1 : Nat) : Int) = (last : Int) + 1 by omega]; rfl, HN.out, Hoe.out, by rw [HXe.out]; exact Hobb.out, by rw [HXe.out]; exact Hpl.out, HOend.out⟩
end Go.Proofs.YtlgcclhepegggaaDoor
