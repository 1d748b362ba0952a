/- The walk of bollardlaw14.play: KLose. -/
import Derived.Test.YtlgcclhepegggaaDoorNetPlay3W
import Derived.Test.YtlgcclhepegggaaDoorNetRefLoseW
import Derived.Test.YtlgcclhepegggaaDoorRegDirt
set_option linter.unusedVariables false
set_option maxRecDepth 100000
namespace Go.Proofs.YtlgcclhepegggaaDoor
open Go.RowKit

def LoseN (base B : Nat) (q : Option Addr) (c last : Nat) (M : List Lt) (r : Int) : Value → World → Prop := fun v w => v = .int .i64 r ∧ NetAt w base B q M.length c last M
def LoseR (k base Br last : Nat) (M : List Lt) (r : Int) : Value → World → Prop := fun v w => v = .int .i64 r ∧ ∃ qr' cr', RefAt w base Br qr' M.length cr' last M ∧ ∀ y ∈ blk qr', k ≤ y
theorem LoseN.stable {base B c last : Nat} {q : Option Addr} {M : List Lt} {r : Int} {S : List Nat} (hS : ∀ x ∈ S, x ∉ netD B q M) : Stable (Only S) (LoseN base B q c last M r) := fun _ _ _ h ho => ⟨h.1, h.2.only ho hS⟩
theorem LoseR.stable {k base Br last : Nat} {M : List Lt} {r : Int} {S : List Nat} (hS : ∀ x ∈ S, x < k ∧ x ≠ Br) : Stable (Only S) (LoseR k base Br last M r) := fun _ _ _ ⟨h, q', c', h2, h3⟩ ho => ⟨h, q', c', h2.only ho (fun x hx hm => by
  rcases List.mem_cons.1 hm with e | hm
  · exact (hS x hx).2 e
  · have := h3 x hm; have := (hS x hx).1; omega), h3⟩
section
variable {wz w0 : World} {base B n c last Br cr : Nat} {q qr : Option Addr} {L : List Lt}
set_option maxHeartbeats 8000000 in
theorem play_lose (h : PA w0 base B q n c last L Br qr cr) (wh fr tg no : Int) (bp : Option Addr) (bm bc : Nat) :
    Calls Tryd.prog 21 #[.pointer (some ⟨B, 0, none⟩), .pointer (some ⟨Br, 0, none⟩), .agg #[.int .i64 6, .int .i64 wh, .int .i64 fr, .int .i64 tg, .int .i64 no, .slice bp bm bc]] w0 fun e w' => e = .returned (.bool true) ∧ PlayEnd w0 base B q last L Br qr w' := by
  obtain ⟨wo, hwo⟩ : ∃ wo, wo = w0.alloc (.cells #[.int .i64 6, .int .i64 wh, .int .i64 fr, .int .i64 tg, .int .i64 no, .slice bp bm bc] 29) := ⟨_, rfl⟩
  have oO : Only [] w0 wo := by rw [hwo]; exact Only.alloc _ _
  have rO : Row wo w0.heap.size 29 [.int .i64 6, .int .i64 wh, .int .i64 fr, .int .i64 tg, .int .i64 no, .slice bp bm bc] := by rw [hwo]; exact Row.newOf _ _ _ _ rfl
  have hP := h.only0 oO
  have hn4 := h.n4
  have hin : ∀ x ∈ paD B q L Br qr, x < w0.heap.size := fun x hx => (h.lt x hx).2
  obtain ⟨M, hM⟩ : ∃ M, M = L.filter (keepP tg) := ⟨_, rfl⟩
  have hMs : M.Sublist L := by rw [hM]; exact List.filter_sublist
  have hMl : M.length ≤ n := by have := hMs.length_le; have := hP.net.len; omega
  have hm1 : M.length ≤ 4096 := Nat.le_trans hMl hn4
  have hnl : ∀ w, NetAt w base B q n c last L → Calls Tryd.prog 47 #[.pointer (some ⟨B, 0, none⟩), .int .i64 tg] w fun e w' => ∃ v, e = .returned v ∧ LoseN base B q c last M ((n : Int) - (M.length : Int)) v w' ∧ Only (B :: blk q) w w' := by
    intro w hw
    refine (lose_any w base B q n c last L hw (by omega) tg).mono ?_
    rintro e w' ⟨m, rfl, -, hn, ho⟩
    rw [← hM] at hn
    obtain rfl := hn.len.symm
    exact ⟨_, rfl, ⟨rfl, hn⟩, ho⟩
  have hrl : ∀ w, wo.heap.size ≤ w.heap.size → RefAt w base Br qr n cr last L → Calls Tryd.prog 48 #[.pointer (some ⟨Br, 0, none⟩), .int .i64 tg] w fun e w' => ∃ v, e = .returned v ∧ LoseR wo.heap.size base Br last M ((n : Int) - (M.length : Int)) v w' ∧ Only (Br :: blk qr) w w' := by
    intro w hk hw
    refine (rlose_any w base Br qr n cr last L hw (by omega) tg).mono ?_
    rintro e w' ⟨m, q', c', rfl, hm, hn, hq, ho⟩
    rw [← hM] at hn hm
    subst hm
    exact ⟨_, rfl, ⟨rfl, q', c', hn, fun y hy => Nat.le_trans hk (hq y hy)⟩, ho.mono (by simp)⟩
  have hd1 : ∀ x ∈ Br :: blk qr, x ∉ netD B q M := fun x hx hm => hP.dis x hx (netD_sub hMs hm)
  have hd2 : ∀ x ∈ B :: blk q, x < wo.heap.size ∧ x ≠ Br := fun x hx => ⟨(hP.lt x (List.mem_append_left _ (netD_head hx))).2, fun e => hP.dis Br (by simp) (by rw [← e]; exact netD_head hx)⟩
  have hd3 : ∀ x ∈ B :: blk q, x ∉ Br :: blk qr := fun x hx hm => hP.dis x hm (netD_head hx)
  have hX : w0.heap.size ∉ paD B q L Br qr := fun hm => by have := hin _ hm; omega
  have hr3 : wo.cell? ⟨w0.heap.size, 3, none⟩ = some (.int .i64 tg) := rO.cell (i := 3) rfl
  have hRis := h.rises
  have H := Lib.hid h
  have HP := Lib.hid hP
  have HM := Lib.hid hM
  have HMs := Lib.hid hMs
  have Hd1 := Lib.hid hd1
  have Hd2 := Lib.hid hd2
  have Hd3 := Lib.hid hd3
  have HX := Lib.hid hX
  have Hnl := Lib.hid hnl
  have Hrl := Lib.hid hrl
  have HOo := Lib.hid oO
  have HRo := Lib.hid rO
  have HRis := Lib.hid hRis
  clear h hP hM hMs hd1 hd2 hd3 hnl hrl oO rO hin hRis
  go_enter Tryd.func21, Tryd.ntmps21
  go_wp2_with fail
  rw [← hwo]
  clear hwo
  generalize hXe : w0.heap.size = X at *
  have HXe := Lib.hid hXe
  clear hXe
  have hRr : ∀ a, Only (paD B q L Br qr) a a := fun a => Only.refl _ _
  have hRt : ∀ a b e, Only (paD B q L Br qr) a b → Only (paD B q L Br qr) b e → Only (paD B q L Br qr) a e := fun a b e h h2 => h.trans h2 (fun i hi _ => hi)
  have hRd : Only (paD B q L Br qr) wo wo.drew := (Only.drew _).mono (by simp)
  have hRs : ∀ (k : Nat) w, Dirt [(3, B :: blk q), (7, Br :: blk qr)] k w w := fun _ _ => Only.refl _ _
  have hC0 : ∀ d ∈ [3, 7], (fun (i : Nat) (a : World) => (i = 3 → NetAt a base B q n c last L) ∧ (i = 7 → wo.heap.size ≤ a.heap.size ∧ RefAt a base Br qr n cr last L)) d wo.drew := fun _ _ => ⟨fun _ => HP.out.net.only0 (Only.drew _), fun _ => ⟨(Only.drew wo).size, HP.out.ref.only0 (Only.drew _)⟩⟩
  -- <<R37
  refine wp_region_rg4 (Only (paD B q L Br qr)) (Dirt [(3, B :: blk q), (7, Br :: blk qr)]) (fun (i : Nat) (a : World) => (i = 3 → NetAt a base B q n c last L) ∧ (i = 7 → wo.heap.size ≤ a.heap.size ∧ RefAt a base Br qr n cr last L)) [3, 7] [[(0, none)], [(5, none)], [(239, some 0)], [(238, some 2), (240, some 0)], [(1, none)], [(5, none)], [(243, some 0)], [(242, some 2), (244, some 0)], [(241, some 4), (245, some 0)], [(246, some 0)]] [(6, 0)] [none, none, none, none, none, none, some 6, none, none, none, none, none, none, none, none, none, none, none, none, none, none, none, none, none, none, none, none, none, none, none, none, none, none, none, none, none, none, none, none, none, none, none, none, none, none, none, none, none, none, none, none, none, none, none, none, none, none, none, none, none, none, none, none, none, none, none, none, none, none, none, none, none, none, none, none, none, none, none, none, none, none, none, none, none, none, none, none, none, none, none, none, none, none, none, none, none, none, none, none, none, none, none, none, none, none, none, none, none, none, none, none, none, none, none, none, none, none, none, none, none, none, none, none, none, none, none, none, none, none, none, none, none, none, none, none, none, none, none, none, none, none, none, none, none, none, none, none, none, none, none, none, none, none, none, none, none, none, none, none, none, none, none, none, none, none, none, none, none, none, none, none, none, none, none, none, none, none, none, none, none, none, none, none, none, none, none, none, none, none, none, none, none, none, none, none, none, none, none, none, none, none, none, none, none, none, none, none, none, none, none, none, none, none, none, none, none, none, none, none, none, none, none, none, none, none, none, none, none, none, none, none, none, none, none, none, none, none, none, some 238, some 239, some 240, some 241, some 242, some 243, some 244, some 245, some 246] (by kernel_rfl) rfl (by kernel_rfl) hRr hRt (fun _ _ => Only.refl _ _) hRd hC0 (by kernel_rfl) (by kernel_rfl) ?_
  -- 0: s238 := move t0
  apply rgd_ev
  · intro a w hR hC hf
    obtain ⟨e0, -⟩ := hf
    replace e0 : a.tmps.getD 0 undef = _ := e0
    refine rg_plain rfl fun K hK => ?_
    go_simp
    exact hK _ _ rfl ⟨hRr _, Only.refl _ _, fun _ _ _ _ h => h⟩
  -- 1: s239 := fieldAddr 29 t5 3
  apply rgd_ev
  · intro a w hR hC hf
    obtain ⟨e5, -⟩ := hf
    replace e5 : a.tmps.getD 5 undef = _ := e5
    refine rg_plain rfl fun K hK => ?_
    go_simp
    exact hK _ _ rfl ⟨hRr _, Only.refl _ _, fun _ _ _ _ h => h⟩
  -- 2: s240 := load 3 t239
  apply rgd_ev
  · intro a w hR hC hf
    obtain ⟨e239, -⟩ := hf
    replace e239 : a.tmps.getD 239 undef = _ := e239
    refine rg_plain rfl fun K hK => ?_
    have h2 := hR.cell hr3 HX.out
    go_simp
    exact hK _ _ rfl ⟨hRr _, Only.refl _ _, fun _ _ _ _ h => h⟩
  -- 3: s241 := call { value (Operand.func 47), args := #[t238, t240], #[24, 3] }
  refine ⟨LoseN base B q c last M ((n : Int) - (M.length : Int)), stands_of (LoseN.stable (by simp)) (two_dirt (Z := fun x => Stable (Only x.2) (LoseN base B q c last M ((n : Int) - (M.length : Int)))) (fun h => by simp at h) (fun _ => LoseN.stable Hd1.out)), fun a w hR hC hf => ?_, ?_⟩
  · obtain ⟨e238, e240, -⟩ := hf
    replace e238 : a.tmps.getD 238 undef = _ := e238
    replace e240 : a.tmps.getD 240 undef = _ := e240
    refine rg_plain rfl fun K hK => ?_
    go_simp
    (with_reducible refine (Hnl.out w ((hC 3 (by simp) (by kernel_rfl)).1 rfl)).mono ?_)
    rintro e w' ⟨v, rfl, hv, ho⟩
    exact hK _ _ hv ⟨ho.mono (fun x hx => List.mem_append_left _ (netD_head hx)), ho, fun i _ hne _ hc => ⟨fun e => absurd e hne, fun e => ⟨Nat.le_trans (hc.2 e).1 ho.size, (hc.2 e).2.only ho Hd3.out⟩⟩⟩
  -- 4: s242 := move t1
  apply rgd_ev
  · intro a w hR hC hf
    obtain ⟨e1, -⟩ := hf
    replace e1 : a.tmps.getD 1 undef = _ := e1
    refine rg_plain rfl fun K hK => ?_
    go_simp
    exact hK _ _ rfl ⟨hRr _, Only.refl _ _, fun _ _ _ _ h => h⟩
  -- 5: s243 := fieldAddr 29 t5 3
  apply rgd_ev
  · intro a w hR hC hf
    obtain ⟨e5, -⟩ := hf
    replace e5 : a.tmps.getD 5 undef = _ := e5
    refine rg_plain rfl fun K hK => ?_
    have h2 := hR.cell hr3 HX.out
    go_simp
    exact hK _ _ rfl ⟨hRr _, Only.refl _ _, fun _ _ _ _ h => h⟩
  -- 6: s244 := load 3 t243
  apply rgd_ev
  · intro a w hR hC hf
    obtain ⟨e243, -⟩ := hf
    replace e243 : a.tmps.getD 243 undef = _ := e243
    refine rg_plain rfl fun K hK => ?_
    have h2 := hR.cell hr3 HX.out
    go_simp
    exact hK _ _ rfl ⟨hRr _, Only.refl _ _, fun _ _ _ _ h => h⟩
  -- 7: s245 := call { value (Operand.func 48), args := #[t242, t244], #[47, 3] }
  refine ⟨LoseR wo.heap.size base Br last M ((n : Int) - (M.length : Int)), stands_of (LoseR.stable (by simp)) (two_dirt (Z := fun x => Stable (Only x.2) (LoseR wo.heap.size base Br last M ((n : Int) - (M.length : Int)))) (fun _ => LoseR.stable Hd2.out) (fun h => by simp at h)), fun a w hR hC hf => ?_, ?_⟩
  · obtain ⟨e242, e244, -⟩ := hf
    replace e242 : a.tmps.getD 242 undef = _ := e242
    replace e244 : a.tmps.getD 244 undef = _ := e244
    refine rg_plain rfl fun K hK => ?_
    go_simp
    (with_reducible refine (Hrl.out w ((hC 7 (by simp) (by kernel_rfl)).2 rfl).1 ((hC 7 (by simp) (by kernel_rfl)).2 rfl).2).mono ?_)
    rintro e w' ⟨v, rfl, hv, ho⟩
    exact hK _ _ hv ⟨ho.mono (fun x hx => List.mem_append_right _ hx), ho, fun i _ hne _ hc => ⟨fun e => (hc.1 e).only ho (fun x hx hm => HP.out.dis x hx hm), fun e => absurd e hne⟩⟩
  -- 8: s246 := binOp Bineql 3 t241 t245 3
  apply rgd_ev
  · intro a w hR hC hf
    obtain ⟨e241, e245, -⟩ := hf
    replace e241 : LoseN base B q c last M ((n : Int) - (M.length : Int)) (a.tmps.getD 241 undef) w := e241
    replace e245 : LoseR wo.heap.size base Br last M ((n : Int) - (M.length : Int)) (a.tmps.getD 245 undef) w := e245
    refine rg_plain rfl fun K hK => ?_
    replace e241 := e241.1
    replace e245 := e245.1
    go_simp
    exact hK _ _ rfl ⟨hRr _, Only.refl _ _, fun _ _ _ _ h => h⟩
  -- 9: s6 := assign t246
  apply rgd_ev
  · intro a w hR hC hf
    obtain ⟨e246, -⟩ := hf
    replace e246 : a.tmps.getD 246 undef = _ := e246
    refine rg_plain rfl fun K hK => ?_
    go_simp
    exact hK _ _ rfl ⟨hRr _, Only.refl _ _, fun _ _ _ _ h => h⟩
  intro f37 w37 hR37 hf hz37
  dsimp only [mergeT]
  obtain ⟨e6, -⟩ := hf
  replace e6 : f37 6 = _ := e6
  rw [e6]
  -- R37>>
  obtain ⟨v7, h7a, qr', cr', hrf, hqr⟩ := hz37 _ (List.mem_cons_of_mem _ (List.mem_cons_of_mem _ (List.mem_cons_self ..)))
  obtain ⟨v3, h3a, hnt⟩ := hz37 _ (List.mem_cons_of_mem _ (List.mem_cons_of_mem _ (List.mem_cons_of_mem _ (List.mem_cons_of_mem _ (List.mem_cons_of_mem _ (List.mem_cons_of_mem _ (List.mem_cons_self ..)))))))
  clear hz37
  go_wp2_with fail
  go_ret
  refine ⟨rfl, PlayEnd.of HOo.out (q' := q) (qr' := qr') (L' := M) (c' := c) (cr' := cr') (n' := M.length) (last' := last) ⟨hnt, ?_, hrf, ?_, hm1⟩ (Nat.le_succ _) ?_ hR37 (Only.refl [] _) (by simp) (by simp)⟩
  · rw [HM.out]; exact HRis.out.filter _
  · intro x hx hm
    rcases List.mem_cons.1 hx with rfl | hx
    · exact Hd1.out _ (by simp) hm
    · have h1 := hqr x hx
      have h2 := netD_sub HMs.out hm
      have := (HP.out.lt x (List.mem_append_left _ h2)).2
      omega
  · intro x hx
    rcases List.mem_append.1 hx with hx | hx
    · exact .inl (List.mem_append_left _ (netD_sub HMs.out hx))
    · rcases List.mem_cons.1 hx with rfl | hx
      · exact .inl (List.mem_append_right _ (by simp))
      · exact .inr (hqr x hx)
end
end Go.Proofs.YtlgcclhepegggaaDoor
