/- The walk of (*bollardref14.Net).put. -/
import Derived.Test.YtlgcclhepegggaaDoorNetRefBase
import Derived.Test.YtlgcclhepegggaaDoorRegion4
import Derived.Test.YtlgcclhepegggaaDoorRegDirt
import Derived.Deep.DeepCutAuto
import Derived.Deep.Cut
set_option linter.unusedVariables false
set_option maxRecDepth 100000
namespace Go.Proofs.YtlgcclhepegggaaDoor
open Go.RowKit

/-- a letter in a slice of one -/
def RLtB (o : Lt) (hi : Nat) : Value → World → Prop := fun v w => ∃ h, v = .slice (some ⟨h, 0, none⟩) 1 1 ∧ hi ≤ h ∧ Row w h 55 (rFlat [o])
theorem RLtB.stable {o : Lt} {hi : Nat} {D : List Nat} (h : ∀ x ∈ D, x < hi) : Stable (Only D) (RLtB o hi) := fun _ _ _ ⟨b, e, hb, r⟩ ho => ⟨b, e, hb, r.only ho (fun hm => by have := h _ hm; omega)⟩
def RAppN (o : Lt) (L : List Lt) (base hi n : Nat) (D : List Nat) : Value → World → Prop := fun v w => ∃ q' c', v = .slice q' (n + 1) c' ∧ OwnK w base 55 4 (.slice q' (n + 1) c') (n + 1) (rFlat (L ++ [o])) ∧ (∀ x ∈ blk q', x ∈ D ∨ hi ≤ x)
theorem RAppN.stable0 {o : Lt} {L : List Lt} {base hi n : Nat} {D : List Nat} : Stable (Only []) (RAppN o L base hi n D) := fun _ _ _ ⟨q', c', e, h1, h2⟩ ho => ⟨q', c', e, h1.only0 ho, h2⟩
theorem RAppN.stable {o : Lt} {L : List Lt} {base hi n : Nat} {D S : List Nat} (h : ∀ x ∈ S, x < hi ∧ x ∉ D) : Stable (Only S) (RAppN o L base hi n D) := fun _ _ _ ⟨q', c', e, h1, h2⟩ ho => ⟨q', c', e, h1.only ho (fun x hx hm => by have h3 := h x hm; rcases h2 x (blkOwn hx) with h4 | h4; exact h3.2 h4; omega), h2⟩
def RAppZ (o : Lt) (L : List Lt) (base hi n B : Nat) (D : List Nat) (last : Int) : Value → World → Prop := fun _ w => ∃ q' c', Row w B 50 [.slice q' (n + 1) c', .int .i64 last] ∧ OwnK w base 55 4 (.slice q' (n + 1) c') (n + 1) (rFlat (L ++ [o])) ∧ (∀ x ∈ blk q', x ∈ D ∨ hi ≤ x)
theorem RAppZ.stable0 {o : Lt} {L : List Lt} {base hi n B : Nat} {D : List Nat} {last : Int} : Stable (Only []) (RAppZ o L base hi n B D last) := fun _ _ _ ⟨q', c', h0, h1, h2⟩ ho => ⟨q', c', h0.only0 ho, h1.only0 ho, h2⟩

/-- what put hands back -/
def RPutEnd (w0 : World) (base B : Nat) (q : Option Addr) (n c last : Nat) (L : List Lt) (fr tg : Int) (xs : List UInt8) (e : Ending) (w' : World) : Prop :=
  (4096 ≤ n ∧ e = .returned (.tuple #[.int .i64 0, .int .i64 10]) ∧ Only [] w0 w') ∨
  (n < 4096 ∧ ∃ q' c', e = .returned (.tuple #[.int .i64 ((last + 1 : Nat) : Int), .int .i64 0]) ∧ (∀ o : Lt, o.n = last + 1 → o.fr = fr → o.to = tg → o.xs = xs → RefAt w' base B q' (n + 1) c' (last + 1) (L ++ [o])) ∧ (∀ x ∈ blk q', x ∈ blk q ∨ w0.heap.size ≤ x) ∧ Only (B :: blk q) w0 w')
set_option maxHeartbeats 16000000 in
theorem rput_any (w0 : World) (base B : Nat) (q : Option Addr) (n c last : Nat) (L : List Lt) (h : RefAt w0 base B q n c last L) (num fr tg : Int) (xs : List UInt8) (hlast : last ≤ 1000000000000000000) :
    Calls Tryd.prog 59 #[.pointer (some ⟨B, 0, none⟩), .agg #[.int .i64 num, .int .i64 fr, .int .i64 tg, .string ⟨xs.toArray⟩]] w0 (RPutEnd w0 base B q n c last L fr tg xs) := by
  have c0 := h.st.cell (i := 0) rfl
  unfold RPutEnd
  generalize hsb : (⟨xs.toArray⟩ : ByteArray) = sb
  have Hsb := Lib.hid hsb
  clear hsb
  have hBlt := h.st.lt
  by_cases hfull : 4096 ≤ n
  · have hfi : (4096 : Int) ≤ (n : Int) := by omega
    clear h
    go_enter Tryd.func59, Tryd.ntmps59
    go_wp2_with fail
    go_ret2
    exact .inl ⟨hfull, rfl, Only.alloc _ _⟩
  · have hfi : ¬ (4096 : Int) ≤ (n : Int) := by omega
    have hwl : IntKind.i64.wrap ((last : Int) + 1) = (last : Int) + 1 := IntWalk.i64_in _ (by omega)
    have c1 := h.st.cell (i := 1) rfl
    have f1 := h.st.free 1
    have hbX : B ≠ w0.heap.size := by omega
    have HBX := Lib.hid hbX
    have hbqlt : ∀ x ∈ blk q, x < w0.heap.size := fun x hx => (h.blk_lt x hx).2
    have hbaselo := h.lo
    have hBq := h.nd
    have hlen := h.len
    obtain ⟨w1, hw1⟩ : ∃ w1, w1 = w0.setCell ⟨B, 1, none⟩ (.int .i64 ((last : Int) + 1)) := ⟨_, rfl⟩
    have oB : Only [B] w0 w1 := by rw [hw1]; exact Only.setCell w0 ⟨B, 1, none⟩ _
    have hsz1 : w1.heap.size = w0.heap.size := by rw [hw1]; simp [World.setCell]
    have hstB : Row w1 B 50 [.slice q n c, .int .i64 ((last : Int) + 1)] := by rw [hw1]; exact h.st.setCell 1 _
    obtain ⟨wb, hwb⟩ : ∃ wb, wb = w1.alloc (.cells #[.int .i64 ((last : Int) + 1), .int .i64 fr, .int .i64 tg, .string sb] 55) := ⟨_, rfl⟩
    have oX : Only [] w1 wb := by rw [hwb]; exact Only.alloc _ _
    have hstb := hstB.only0 oX
    have rXb : Row wb w0.heap.size 55 [.int .i64 ((last : Int) + 1), .int .i64 fr, .int .i64 tg, .string sb] := by rw [hwb]; exact Row.newAt w1 _ _ hsz1
    have HOK : Hid (OwnK wb base 55 4 (.slice q n c) n (rFlat L)) := Lib.hid ((h.own.only oB (fun k hk hm => by
        obtain rfl : k = B := by simpa using hm
        exact hBq (blkOwn hk))).only0 oX)
    have hX1 := rXb.lt
    have HOb : Hid (Only [B] w0 wb) := Lib.hid (oB.trans0 oX)
    have Hbqlt := Lib.hid hbqlt
    have HBq := Lib.hid hBq
    have Hstb := Lib.hid hstb
    have HrXb := Lib.hid rXb
    have Hlen := Lib.hid hlen
    have Hwb := Lib.hid hwb
    have Hw1 := Lib.hid hw1
    clear h oB hstB oX hstb rXb hbqlt hBq hlen hwb hw1 hbX hsz1
    go_enter Tryd.func59, Tryd.ntmps59
    go_upto_region 5 with (fail)
    rw [← Hw1.out, ← Hwb.out]
    clear c0 c1 f1
    generalize hXe : w0.heap.size = X at *
    have HXe := Lib.hid hXe
    clear hXe
    obtain ⟨o, ho⟩ : ∃ o : Lt, o = ⟨last + 1, fr, tg, none, 0, xs⟩ := ⟨_, rfl⟩
    have hoc : rFlat [o] = [.int .i64 ((last : Int) + 1), .int .i64 fr, .int .i64 tg, .string sb] := by
      rw [ho, ← Hsb.out]
      show [Value.int .i64 ((last + 1 : Nat) : Int), Value.int .i64 fr, Value.int .i64 tg, Value.string ⟨xs.toArray⟩] = _
      rfl
    have Hoc := Lib.hid hoc
    have Ho := Lib.hid ho
    have Hbase : Hid (base ≤ wb.heap.size) := Lib.hid (by omega)
    have nX : X ∉ (B :: blk q) := by
      intro hm
      rcases List.mem_cons.1 hm with h | h
      · exact HBX.out h.symm
      · have := Hbqlt.out X h; omega
    have cx0 := HrXb.out.cell (i := 0) rfl
    have cx1 := HrXb.out.cell (i := 1) rfl
    have cx2 := HrXb.out.cell (i := 2) rfl
    have cx3 := HrXb.out.cell (i := 3) rfl
    have hlq : ∀ x ∈ blk q, x < wb.heap.size := fun x hx => by have := Hbqlt.out x hx; omega
    have hlB : ∀ x ∈ [B], x < wb.heap.size := by simp; omega
    have hB1 : ∀ x ∈ [B], x < wb.heap.size ∧ x ∉ blk q := by simp; exact ⟨by omega, HBq.out⟩
    have hst4 := Hstb.out
    clear hoc ho
    go_wp2_with fail
    have hRr : ∀ a, Only (B :: blk q) a a := fun a => Only.refl _ _
    have hRt : ∀ a b e, Only (B :: blk q) a b → Only (B :: blk q) b e → Only (B :: blk q) a e := fun a b e h h2 => h.trans h2 (fun i hi _ => hi)
    have hRd : Only (B :: blk q) wb wb.drew := (Only.drew _).mono (by simp)
    have hRs : ∀ j w, Dirt [(7, blk q), (10, [B])] j w w := fun j w => Only.refl _ _
    have hC0 : ∀ i ∈ [7, 10], (fun (i : Nat) (a : World) => (i = 7 → Only [] wb a) ∧ (i = 10 → Row a B 50 [.slice q n c, .int .i64 ((last : Int) + 1)])) i wb.drew := fun _ _ => ⟨fun _ => Only.drew _, fun _ => hst4.only0 (Only.drew _)⟩
    -- <<R5
    refine wp_region_rg4 (Only (B :: blk q)) (Dirt [(7, blk q), (10, [B])]) (fun (i : Nat) (a : World) => (i = 7 → Only [] wb a) ∧ (i = 10 → Row a B 50 [.slice q n c, .int .i64 ((last : Int) + 1)])) [7, 10] [[(0, none)], [(0, none)], [(25, some 0)], [(26, some 0)], [(27, some 0)], [(3, none)], [(29, some 0)], [(28, some 2), (30, some 0)], [(24, some 7)], [(32, some 0)], [(33, some 0), (31, some 2)]] [] [none, none, none, none, none, none, none, none, none, none, none, none, none, none, none, none, none, none, none, none, none, none, none, none, some 24, some 25, some 26, some 27, some 28, some 29, some 30, some 31, some 32, some 33, none, none, none, none] (by kernel_rfl) rfl (by kernel_rfl) hRr hRt (fun _ _ => Only.refl _ _) hRd hC0 (by kernel_rfl) (by kernel_rfl) ?_
    -- 0: s24 := move t0
    apply rgd_ev
    · intro a w hR hC hf
      obtain ⟨e0, -⟩ := hf
      replace e0 : a.tmps.getD 0 undef = _ := e0
      refine rg_plain rfl fun K hK => ?_
      go_simp
      exact hK _ _ rfl ⟨hRr _, Only.refl _ _, fun _ _ _ _ h => h⟩
    -- 1: s25 := move t0
    apply rgd_ev
    · intro a w hR hC hf
      obtain ⟨e0, -⟩ := hf
      replace e0 : a.tmps.getD 0 undef = _ := e0
      refine rg_plain rfl fun K hK => ?_
      go_simp
      exact hK _ _ rfl ⟨hRr _, Only.refl _ _, fun _ _ _ _ h => h⟩
    -- 2: s26 := nilCheck t25
    apply rgd_ev
    · intro a w hR hC hf
      obtain ⟨e25, -⟩ := hf
      replace e25 : a.tmps.getD 25 undef = _ := e25
      refine rg_plain rfl fun K hK => ?_
      go_simp
      exact hK _ _ rfl ⟨hRr _, Only.refl _ _, fun _ _ _ _ h => h⟩
    -- 3: s27 := fieldAddr 50 t26 0
    apply rgd_ev
    · intro a w hR hC hf
      obtain ⟨e26, -⟩ := hf
      replace e26 : a.tmps.getD 26 undef = _ := e26
      refine rg_plain rfl fun K hK => ?_
      go_simp
      exact hK _ _ rfl ⟨hRr _, Only.refl _ _, fun _ _ _ _ h => h⟩
    -- 4: s28 := load 48 t27
    apply rgd_ev
    · intro a w hR hC hf
      obtain ⟨e27, -⟩ := hf
      replace e27 : a.tmps.getD 27 undef = _ := e27
      refine rg_plain rfl fun K hK => ?_
      have h4 := ((hC 10 (by simp) (by kernel_rfl)).2 rfl).cell (i := 0) rfl
      go_simp
      exact hK _ _ rfl ⟨hRr _, Only.refl _ _, fun _ _ _ _ h => h⟩
    -- 5: s29 := load 55 t3
    apply rgd_ev
    · intro a w hR hC hf
      obtain ⟨e3, -⟩ := hf
      replace e3 : a.tmps.getD 3 undef = _ := e3
      refine rg_plain rfl fun K hK => ?_
      have h50 := hR.cell cx0 nX
      have h51 := hR.cell cx1 nX
      have h52 := hR.cell cx2 nX
      have h53 := hR.cell cx3 nX
      go_simp
      exact hK _ _ rfl ⟨hRr _, Only.refl _ _, fun _ _ _ _ h => h⟩
    -- 6: s30 := buildSlice 48 1 #[(0, t29)]
    refine ⟨RLtB o wb.heap.size, stands_of (RLtB.stable (by simp)) (two_dirt (Z := fun x => Stable (Only x.2) (RLtB o wb.heap.size)) (fun _ => RLtB.stable hlq) (fun _ => RLtB.stable hlB)), fun a w hR hC hf => ?_, ?_⟩
    · obtain ⟨e29, -⟩ := hf
      replace e29 : a.tmps.getD 29 undef = _ := e29
      refine rg_plain rfl fun K hK => ?_
      have e29' := e29
      rw [Array.getD_eq_getD_getElem?] at e29'
      go_simp
      have oA := Only.alloc w (.cells #[.int .i64 ((last : Int) + 1), .int .i64 fr, .int .i64 tg, .string sb] 55)
      exact hK _ _ ⟨w.heap.size, rfl, hR.size, by rw [Hoc.out]; exact Row.newOf _ _ _ _ rfl⟩ ⟨oA.mono (by simp), oA, fun i _ _ _ hc => ⟨fun e => (hc.1 e).trans0 oA, fun e => (hc.2 e).only0 oA⟩⟩
    -- 7: s31 := call { builtin append, args := #[t28, t30], #[48, 48] }
    refine ⟨RAppN o L base wb.heap.size n (blk q), stands_of RAppN.stable0 (two_dirt (Z := fun x => Stable (Only x.2) (RAppN o L base wb.heap.size n (blk q))) (fun h => by simp at h) (fun _ => RAppN.stable hB1)), fun a w hR hC hf => ?_, ?_⟩
    · obtain ⟨e28, e30, -⟩ := hf
      replace e28 : a.tmps.getD 28 undef = _ := e28
      replace e30 : RLtB o wb.heap.size (a.tmps.getD 30 undef) w := e30
      refine rg_plain rfl fun K hK => ?_
      have hC7 := (hC 7 (by simp) (by kernel_rfl)).1 rfl
      obtain ⟨h, e30, hh, rh⟩ := e30
      obtain ⟨p'', c'', w'', hra, oA, hA, hpA⟩ := rlt_append_at w (c := 1) (m := 1) (q := some ⟨h, 0, none⟩) (rs := [o]) (HOK.out.only0 hC7) (Nat.le_trans Hbase.out hC7.size) rh.rd0 rfl (by simp) (by omega)
      refine rg_append (s := .tmp 28) (x := .tmp 30) rfl e28 e30 hra ?_
      refine hK _ _ ⟨p'', c'', rfl, oA, fun x hx => ?_⟩ ⟨hA.mono (fun x hx => List.mem_cons_of_mem _ hx), hA, fun i _ hne _ hc => ⟨fun e => absurd e hne, fun e => (hc.2 e).only hA HBq.out⟩⟩
      rcases hpA with rfl | ⟨g', rfl, hg'⟩
      · exact .inl hx
      · simp [blk] at hx; subst hx; exact .inr (Nat.le_trans hR.size hg')
    -- 8: s32 := nilCheck t24
    apply rgd_ev
    · intro a w hR hC hf
      obtain ⟨e24, -⟩ := hf
      replace e24 : a.tmps.getD 24 undef = _ := e24
      refine rg_plain rfl fun K hK => ?_
      go_simp
      exact hK _ _ rfl ⟨hRr _, Only.refl _ _, fun _ _ _ _ h => h⟩
    -- 9: s33 := fieldAddr 50 t32 0
    apply rgd_ev
    · intro a w hR hC hf
      obtain ⟨e32, -⟩ := hf
      replace e32 : a.tmps.getD 32 undef = _ := e32
      refine rg_plain rfl fun K hK => ?_
      go_simp
      exact hK _ _ rfl ⟨hRr _, Only.refl _ _, fun _ _ _ _ h => h⟩
    -- 10: sNone := store 48 t33 t31
    refine ⟨RAppZ o L base wb.heap.size n B (blk q) ((last : Int) + 1), stands_of RAppZ.stable0 (two_dirt (Z := fun x => Stable (Only x.2) (RAppZ o L base wb.heap.size n B (blk q) ((last : Int) + 1))) (fun h => Bool.noConfusion (h.symm.trans (by kernel_rfl : _ = true))) (fun h => by simp at h)), fun a w hR hC hf => ?_, ?_⟩
    · obtain ⟨e33, e31, -⟩ := hf
      replace e33 : a.tmps.getD 33 undef = _ := e33
      replace e31 : RAppN o L base wb.heap.size n (blk q) (a.tmps.getD 31 undef) w := e31
      refine rg_plain rfl fun K hK => ?_
      obtain ⟨q', c', e31, ow, hb⟩ := e31
      have rB := (hC 10 (by simp) (by kernel_rfl)).2 rfl
      have h10c := rB.cell (i := 0) rfl
      have h10f := rB.free 0
      go_simp
      have hst : Only [B] w (w.setCell ⟨B, 0, none⟩ (.slice q' (n + 1) c')) := Only.setCell w ⟨B, 0, none⟩ _
      refine hK undef _ ⟨q', c', rB.setCell 0 _, ow.only hst ?_, hb⟩ ⟨hst.mono (by simp), hst, ?_⟩
      · intro x hx hm
        obtain rfl : x = B := by simpa using hm
        rcases hb _ (blkOwn hx) with h | h
        · exact HBq.out h
        · have := hlB x (by simp); omega
      · intro i hi hne ha _
        simp only [List.mem_cons, List.not_mem_nil, or_false] at hi
        rcases hi with rfl | rfl
        · exact Bool.noConfusion (ha.symm.trans (by kernel_rfl : _ = true))
        · exact absurd rfl hne
    intro f5 w5 hR5 hf hz5
    dsimp only [mergeT]
    -- R5>>
    obtain ⟨v10, q', c', rB, ow, hb⟩ := hz5 _ (List.mem_cons_self ..)
    have c1 := rB.cell (i := 1) rfl
    have hsz5 := hR5.size
    have Hfin : Hid (∀ o : Lt, o.n = last + 1 → o.fr = fr → o.to = tg → o.xs = xs → RefAt w5 base B q' (n + 1) c' (last + 1) (L ++ [o])) := Lib.hid (fun o2 e1 e2 e3 e4 => by
      have e : rFlat (L ++ [o2]) = rFlat (L ++ [o]) := by
        rw [rFlat_append, rFlat_append, Hoc.out, ← Hsb.out]
        show _ ++ [Value.int .i64 (o2.n : Int), Value.int .i64 o2.fr, Value.int .i64 o2.to, Value.string ⟨o2.xs.toArray⟩] = _
        rw [e1, e2, e3, e4]
        rfl
      refine ⟨by rw [show ((last + 1 : Nat) : Int) = (last : Int) + 1 by omega]; exact rB, by rw [e]; exact ow, by rw [List.length_append, Hlen.out]; rfl, fun hm => ?_, hbaselo⟩
      rcases hb B hm with h | h
      · exact HBq.out h
      · have := hlB B (by simp); omega)
    have Hpl : Hid (∀ x ∈ blk q', x ∈ blk q ∨ X ≤ x) := Lib.hid fun x hx => (hb x hx).imp id (fun h => by omega)
    have HOend : Hid (Only (B :: blk q) w0 w5) := Lib.hid ((HOb.out.mono (by simp)).trans hR5 (fun i hi _ => hi))
    have hn2 : n < 4096 := by omega
    clear hz5 hR5 rB ow hb hRr hRt hRd hC0 cx0 cx1 cx2 cx3
    go_wp2_with fail
    go_ret2
    exact .inr ⟨hn2, q', c', by rw [show ((last + 1 : Nat) : Int) = (last : Int) + 1 by omega]; rfl, Hfin.out, by rw [HXe.out]; exact Hpl.out, HOend.out⟩
end Go.Proofs.YtlgcclhepegggaaDoor
