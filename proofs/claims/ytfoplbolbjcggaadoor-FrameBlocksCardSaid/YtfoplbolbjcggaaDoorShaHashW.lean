/- The walks of package sha: the hash object. -/
import Derived.Test.YtfoplbolbjcggaaDoorShaDigW
import Derived.Test.YtfoplbolbjcggaaDoorOwnAt
import Derived.Deep.MidRow
set_option linter.unusedVariables false
set_option maxRecDepth 100000
namespace Go.Proofs.YtfoplbolbjcggaaDoor
open Go.RowKit

theorem Row.loadMid {P : Program} {w : World} {g o : Nat} {t ty e : TypeId} {n : Nat} {vs us : List Value} (r : Row w g t vs) (hu : P.underlying ty = some (.array n e)) (hi : (P.info? ty).map (·.size) = some us.length) (ht : (vs.drop o).take us.length = us) :
    (Instr.loadAt ty (.pointer (some ⟨g, o, none⟩))).run P w = .ok (.agg us.toArray) w := by
  simp only [Instr.loadAt, Instr.sureAddr, Sem.run_bind, Sem.run_pure, Result.andThen]
  refine run_loadVar_mid w g o ty us _ (fun j v hv => r.cell ?_) hu rfl hi
  rw [← ht, List.getElem?_take, List.getElem?_drop] at hv
  split at hv
  · exact hv
  · cases hv
theorem Row.storeMid {P : Program} {w : World} {g o : Nat} {t ty : TypeId} {vs us : List Value} (r : Row w g t vs) (hi : (P.info? ty).map (·.size) = some us.length) (hl : o + us.length ≤ vs.length) (h1 : ∀ u ∈ us, u.oneCell' = true) :
    (Instr.storeAt ty (.pointer (some ⟨g, o, none⟩)) (.agg us.toArray)).run P w = .ok () (w.setCells g o us) := by
  simp only [Instr.storeAt, Instr.sureAddr, Sem.run_bind, Sem.run_pure, Result.andThen]
  have := run_storeVar_mid (P := P) w g o ty us.toArray (fun j hj => ⟨by
    have hj' : o + j < vs.length := by simp at hj; omega
    rw [r.cell (List.getElem?_eq_getElem hj')]; rfl, r.free _⟩) (by simpa using hi) (by simpa using h1)
  simpa using this

theorem infoU8s : (Tryd.prog.info? 5).map (fun i => (i.zero, i.size, i.bytes)) = some (some (.int .u8 0), 1, 1) := by kernel_rfl
theorem infoSt : (Tryd.prog.info? 197).map (·.size) = some 8 := by kernel_rfl
/-- the same in a region that draws its order -/
theorem rg_load {P : Program} {o : Oper} {a : Act} {K : Act → World → Prop} {w : World} {x : Operand} {ty : TypeId} {pv v : Value} (ho : o.op = .load ty x) (hx : a.eval x = pv)
    (hr : (Instr.loadAt ty pv).run P w = .ok v w) (h : K (a.put o.dst v) w) : o.wp P a w K (fun _ _ _ => False) := by
  unfold Oper.wp execOp
  simp only [ho, hx, hr, Sem.run_bind, Sem.run_pure, Result.andThen_ok]
  exact h
theorem rg_store {P : Program} {o : Oper} {a : Act} {K : Act → World → Prop} {w w' : World} {x y : Operand} {ty : TypeId} {pv v : Value} (ho : o.op = .store ty x y) (hx : a.eval x = pv) (hy : a.eval y = v)
    (hr : (Instr.storeAt ty pv v).run P w = .ok () w') (h : K (a.put o.dst undef) w') : o.wp P a w K (fun _ _ _ => False) := by
  unfold Oper.wp execOp
  simp only [ho, hx, hy, hr, Sem.run_bind, Sem.run_pure, Result.andThen_ok]
  exact h
/-- the cells of a hash -/
def hrow (s : St) (v : Value) (N : Nat) : List Value := u32s s.l ++ [v, .int .i64 (N : Int)]
theorem hrow_8 (s : St) (v : Value) (N : Nat) : (hrow s v N)[8]? = some v := rfl
theorem hrow_9 (s : St) (v : Value) (N : Nat) : (hrow s v N)[9]? = some (.int .i64 (N : Int)) := rfl
theorem hrow_set8 (s : St) (v u : Value) (N : Nat) : (hrow s v N).set 8 u = hrow s u N := rfl
theorem hrow_set9 (s : St) (v : Value) (N M : Nat) : (hrow s v N).set 9 (.int .i64 (M : Int)) = hrow s v M := rfl
theorem hrow_len (s : St) (v : Value) (N : Nat) : (hrow s v N).length = 10 := rfl
theorem hrow_st (s : St) (v : Value) (N : Nat) : ((hrow s v N).drop 0).take (u32s s.l).length = u32s s.l := rfl
theorem hrow_put (s t : St) (v : Value) (N : Nat) : (hrow s v N).take 0 ++ u32s t.l ++ (hrow s v N).drop (0 + (u32s t.l).length) = hrow t v N := rfl

/-- a hash at the block B: state, what is left, how many bytes it was given; all its blocks are F -/
def HsJ (w : World) (F : List Nat) (B : Nat) (s : St) (left : List UInt8) (N : Nat) : Prop :=
  ∃ p c, F = B :: blk p ∧ Row w B 200 (hrow s (.slice p left.length c) N) ∧ OwnA w 0 5 p left.length c (u8s left) ∧ B ∉ blk p
/-- .. that was given the bytes xs -/
def Hs (w : World) (F : List Nat) (B : Nat) (xs : List UInt8) : Prop := HsJ w F B (digN st0 (xs.length / 64) xs) (xs.drop (64 * (xs.length / 64))) xs.length
theorem HsJ.only {S : List Nat} {w w' : World} {F : List Nat} {B : Nat} {s : St} {left : List UInt8} {N : Nat} (h : HsJ w F B s left N) (ho : Only S w w') (hn : ∀ k ∈ F, k ∉ S) : HsJ w' F B s left N := by
  obtain ⟨p, c, rfl, r, o, hne⟩ := h
  exact ⟨p, c, rfl, r.only ho (hn _ (by simp)), o.only ho (fun k hk => hn k (List.mem_cons_of_mem _ hk)), hne⟩
theorem HsJ.lt {w : World} {F : List Nat} {B : Nat} {s : St} {left : List UInt8} {N : Nat} (h : HsJ w F B s left N) : ∀ k ∈ F, k < w.heap.size := by
  obtain ⟨p, c, rfl, r, o, hne⟩ := h
  intro k hk
  rcases List.mem_cons.1 hk with rfl | hk
  · exact r.lt
  · exact (o.lt k hk).2
theorem HsJ.head {w : World} {F : List Nat} {B : Nat} {s : St} {left : List UInt8} {N : Nat} (h : HsJ w F B s left N) : B ∈ F := by
  obtain ⟨p, c, rfl, _⟩ := h; simp

theorem new_any (w : World) : Calls Tryd.prog 86 #[] w fun e w' => ∃ B F, e = .returned (.pointer (some ⟨B, 0, none⟩)) ∧ Hs w' F B [] ∧ Only [] w w' ∧ (∀ k ∈ F, w.heap.size ≤ k) := by
  go_enter Tryd.func86, Tryd.ntmps86
  go_wp2_with fail
  (with_reducible refine (start_any w).mono ?_)
  rintro e w1 ⟨rfl, h1⟩
  go_wp2_with fail
  go_ret
  refine ⟨w1.heap.size, [w1.heap.size], rfl, ⟨none, 0, rfl, Row.newOf w1 _ _ (hrow st0 (.slice none 0 0) 0) (by rfl), OwnA.nil _ _ _, by simp [blk]⟩, h1.trans0 (Only.alloc _ _), by simpa using h1.size⟩
theorem OwnA.cutp {w : World} {base : Nat} {e : TypeId} {p : Option Addr} {n c : Nat} {vs : List Value} (h : OwnA w base e p n c vs) (k : Nat) : (if c = k then p else Option.map (fun x => (⟨x.block, x.off + k, none⟩ : Addr)) p) = (if c = k then p else p.map (·.add k)) := by
  rcases h.2.2.2 with ⟨rfl, _⟩ | ⟨g, off, us, rfl, _⟩
  · rfl
  · simp [Addr.add_lit]
/-- what is left behind whole blocks -/
theorem dig_step (j : Nat) (xs : List UInt8) (h : 64 ≤ (xs.drop (64 * j)).length) : dig (digN st0 j xs) ((xs.drop (64 * j)).take 64) = digN st0 (j + 1) xs := by
  rw [digN_add j 1]; rfl
theorem left_step (j : Nat) (xs : List UInt8) : (xs.drop (64 * j)).drop 64 = xs.drop (64 * (j + 1)) := by
  rw [List.drop_drop]; congr 1
set_option maxRecDepth 100000 in
set_option maxHeartbeats 20000000 in
theorem write_any (ww : World) (F : List Nat) (B : Nat) (xs bs : List UInt8) (q : Option Addr) (m c : Nat) (hw : Hs ww F B xs) (hr : ∀ w1, Only [B] ww w1 → Rd w1 q (u8s bs)) (hm : bs.length = m) (hq : q = none → m = 0 ∧ c = 0)
    (hbm : m + 64 ≤ 140737488355328) (hb : xs.length + m ≤ 1152921504606846976) :
    Calls Tryd.prog 87 #[.pointer (some ⟨B, 0, none⟩), .slice q m c] ww fun e w' => e = .returned (.tuple #[]) ∧ ∃ F', Hs w' F' B (xs ++ bs) ∧ Only F ww w' ∧ (∀ k ∈ F', k ∈ F ∨ ww.heap.size ≤ k) := by
  unfold Hs at hw
  obtain ⟨p, c0, rfl, r, o, hne⟩ := hw
  have hj : 64 * (xs.length / 64) ≤ xs.length := by omega
  obtain ⟨j, hjj⟩ : ∃ j, j = xs.length / 64 := ⟨_, rfl⟩
  rw [← hjj] at r o hj
  obtain ⟨N, hN⟩ : ∃ N, N = xs.length := ⟨_, rfl⟩
  rw [← hN] at r hb
  obtain ⟨L, hL⟩ : ∃ L, L = xs.drop (64 * j) := ⟨_, rfl⟩
  rw [← hL] at r o
  have hll : L.length < 64 := by rw [hL, List.length_drop]; omega
  obtain ⟨s0, hs0⟩ : ∃ s, s = digN st0 j (xs ++ bs) := ⟨_, rfl⟩
  rw [show digN st0 j xs = s0 by rw [hs0, digN_app _ _ _ _ hj]] at r
  have hLb : L ++ bs = (xs ++ bs).drop (64 * j) := by rw [hL, List.drop_append_of_le_length hj]
  have hNb : N + m = (xs ++ bs).length := by rw [List.length_append, hN, hm]
  obtain ⟨l, hl⟩ : ∃ l, l = L.length := ⟨_, rfl⟩
  rw [← hl] at r o hll
  -- the number
  have r1 := r.setCell 9 (.int .i64 ((N + m : Nat) : Int))
  rw [hrow_set9] at r1
  have o1 : Only [B] ww (ww.setCell ⟨B, 9, none⟩ (.int .i64 ((N + m : Nat) : Int))) := Only.setCell _ ⟨B, 9, none⟩ _
  have oa1 := o.only o1 (fun k hk h => hne (by obtain rfl := List.mem_singleton.1 h; exact hk))
  have hc8 := r.cell (hrow_8 _ _ _)
  have hc9 := r.cell (hrow_9 _ _ _)
  have hf9 := r.free 9
  have hrd := hr _ o1
  obtain ⟨w1, hw1⟩ : ∃ w1, w1 = ww.setCell ⟨B, 9, none⟩ (.int .i64 ((N + m : Nat) : Int)) := ⟨_, rfl⟩
  rw [← hw1] at r1 o1 oa1 hrd
  have hBl := r1.lt
  -- the append
  obtain ⟨p', c', w2, hr2, o2, h2, hp⟩ := append_at (P := Tryd.prog) (n := l) (m := m) (c := c) (bytes := 1) (q := q) (news := u8s bs) (t := 22) (ty := 22) w1 Tryd.underlying22 infoU8s rfl oa1 hrd (by rw [u8s_length, hm]) hq (fun v hv => u8s_one hv) (by omega) (by omega) (Nat.zero_le _)
  have r2 := r1.only h2 hne
  have hc8' := r2.cell (hrow_8 _ _ _)
  have hf8' := r2.free 8
  have r3 := r2.setCell 8 (.slice p' (l + m) c')
  rw [hrow_set8] at r3
  have hne' : B ∉ blk p' := fun h => (hp B h).elim hne (fun h => by omega)
  have o3 : Only [B] w2 (w2.setCell ⟨B, 8, none⟩ (.slice p' (l + m) c')) := Only.setCell _ ⟨B, 8, none⟩ _
  have oa3 := o2.only o3 (fun k hk h => hne' (by obtain rfl := List.mem_singleton.1 h; exact hk))
  rw [← u8s_append] at oa3
  have ho13 : Only (B :: blk p) ww (w2.setCell ⟨B, 8, none⟩ (.slice p' (l + m) c')) := ((o1.mono (by simp)).trans h2 (fun i hi _ => List.mem_cons_of_mem _ hi)).trans o3 (by simp)
  have hF' : ∀ k ∈ B :: blk p', k ∈ B :: blk p ∨ ww.heap.size ≤ k := fun k hk => by
    rcases List.mem_cons.1 hk with rfl | hk
    · exact .inl (by simp)
    · rcases hp k hk with h | h
      · exact .inl (List.mem_cons_of_mem _ h)
      · exact .inr (Nat.le_trans o1.size h)
  have hlen : (L ++ bs).length = l + m := by rw [List.length_append, hl, hm]
  have Hr2 := Lib.hid hr2
  have Hstart := Lib.hid (And.intro r3 (And.intro oa3 (And.intro hne' (And.intro ho13 hF'))))
  have HLb := Lib.hid hLb
  have Hs0 := Lib.hid hs0
  have Hlen := Lib.hid hlen
  have HNb := Lib.hid hNb
  have hc9w : IntKind.i64.wrap ((N : Int) + (m : Int)) = ((N + m : Nat) : Int) := by rw [IntWalk.i64_in ((N : Int) + (m : Int)) (by omega)]; simp
  clear r1 o1 oa1 hrd o2 h2 hp r2 r3 hne' o3 oa3 ho13 hF' hr2 hLb hs0 hlen hNb r o hne hr hL hN hjj hl hq
  subst hw1
  go_enter Tryd.func87, Tryd.ntmps87
  go_wp2_with (first | (at_builtin; refine wpl_append (s := .tmp 17) (x := .tmp 18) rfl rfl rfl rfl Hr2.out ?_))
  generalize w2.setCell ⟨B, 8, none⟩ (.slice p' (l + m) c') = w3 at Hstart ⊢
  clear hc8 hc9 hf9 hc8' hf8' Hr2 hc9w hBl
  obtain ⟨M, hM⟩ : ∃ M, M = N + m := ⟨_, rfl⟩
  have Hb : M ≤ 1152921504606846976 := by omega
  rw [← hM] at Hstart HNb
  clear hM hb
  generalize L ++ bs = L1 at Hstart HLb Hlen
  obtain ⟨Y, hY⟩ : ∃ Y, Y = xs ++ bs := ⟨_, rfl⟩
  rw [← hY] at Hs0 HLb HNb
  have hj' : 64 * j ≤ Y.length := by rw [hY, List.length_append]; omega
  have HY := Lib.hid hY
  clear hY hj hm
  generalize l + m = l1 at Hstart Hlen
  clear hll
  go_loopw [] (fun wr => ∃ (k lk : Nat) (sk : St) (Lk : List UInt8) (pk : Option Addr) (ck : Nat), 64 * k ≤ Y.length ∧ Hid (Lk.length = lk) ∧ Hid (sk = digN st0 k Y) ∧ Hid (Lk = Y.drop (64 * k)) ∧ Hid (Row wr B 200 (hrow sk (.slice pk lk ck) M)) ∧ Hid (OwnA wr 0 5 pk lk ck (u8s Lk)) ∧ B ∉ blk pk ∧ Hid (Only (B :: blk p) ww wr) ∧ Hid (∀ x ∈ B :: blk pk, x ∈ B :: blk p ∨ ww.heap.size ≤ x)) (fun wr => match wr.cell? ⟨B, 8, none⟩ with | some (.slice _ n _) => n | _ => 0)
  case atStart => exact ⟨j, l1, s0, L1, p', c', hj', Hlen, Hs0, HLb, Lib.hid Hstart.out.1, Lib.hid Hstart.out.2.1, Hstart.out.2.2.1, Lib.hid Hstart.out.2.2.2.1, Lib.hid Hstart.out.2.2.2.2⟩
  case round =>
    clear Hstart HLb Hs0 Hlen hj'
    obtain ⟨k, lk, sk, Lk, pk, ck, hk, Hlk, Hsk, HLk, R, O, hnk, Ho, HF⟩ := hrel
    have hc8 := R.out.cell (hrow_8 _ _ _)
    by_cases h64 : 64 ≤ lk
    · have hi1 : (64 : Int) ≤ (lk : Int) := by omega
      have hck : lk ≤ ck := O.out.2.1
      have hi2 : (64 : Int) ≤ (ck : Int) := by omega
      have hck0 : ck ≠ 0 := by omega
      obtain ⟨s1, hs1⟩ : ∃ s1, s1 = dig sk (Lk.take 64) := ⟨_, rfl⟩
      have hdig := fun w h => dig_any sk pk (Lk.take 64) ck w (by rw [List.length_take, Hlk.out]; omega) h
      rw [← hs1] at hdig
      have Hdig := Lib.hid hdig
      have hrdk := O.out.rd.take 64
      rw [u8s_take] at hrdk
      have Hrd : Hid (∀ w, Only [B] wr w → Rd w pk (u8s (Lk.take 64))) := Lib.hid fun w h => hrdk.only h (fun a ha hb => hnk (by obtain rfl := List.mem_singleton.1 hb; rw [ha]; simp [blk]))
      have Hs1 := Lib.hid hs1
      clear hdig hrdk hs1
      go_wp2_with fail
      have hRr : ∀ a, Only [B] a a := fun a => Only.refl _ _
      have hRt : ∀ a b e, Only [B] a b → Only [B] b e → Only [B] a e := fun a b e h h2 => h.trans h2 (fun i hi _ => hi)
      have hRd : Only [B] wr wr.drew := (Only.drew _).mono (by simp)
      have hC0 : ∀ i ∈ [13], (fun (_ : Nat) (a : World) => Row a B 200 (hrow sk (.slice pk lk ck) M)) i wr.drew := fun _ _ => R.out.only0 (Only.drew _)
      -- <<r3
      refine wp_region_rg4 (Only [B]) (Dirt [(13, [B])]) (fun (_ : Nat) (a : World) => Row a B 200 (hrow sk (.slice pk lk ck) M)) [13] [[(0, none)], [(0, none)], [(29, some 0)], [(30, some 0)], [(31, some 0)], [(0, none)], [(33, some 0)], [(34, some 0)], [(35, some 0)], [(36, some 0)], [(32, some 5), (37, some 0)], [(28, some 10)], [(39, some 0)], [(40, some 0), (38, some 2)]] [] [none, none, none, none, none, none, none, none, none, none, none, none, none, none, none, none, none, none, none, none, none, none, none, none, none, none, none, none, some 28, some 29, some 30, some 31, some 32, some 33, some 34, some 35, some 36, some 37, some 38, some 39, some 40, none, none, none, none, none, none, none, none] (by kernel_rfl) rfl (by kernel_rfl) hRr hRt (fun _ _ => Only.refl _ _) hRd hC0 (by kernel_rfl) (by kernel_rfl) ?_
      -- 0: s28 := move t0
      apply rgd_ev
      · intro a w hR hC hf
        obtain ⟨e0, -⟩ := hf
        replace e0 : a.tmps.getD 0 undef = _ := e0
        refine rg_plain rfl fun K hK => ?_
        go_simp
        exact hK _ _ rfl ⟨hRr _, Only.refl _ _, fun _ _ _ _ h => h⟩
      -- 1: s29 := move t0
      apply rgd_ev
      · intro a w hR hC hf
        obtain ⟨e0, -⟩ := hf
        replace e0 : a.tmps.getD 0 undef = _ := e0
        refine rg_plain rfl fun K hK => ?_
        go_simp
        exact hK _ _ rfl ⟨hRr _, Only.refl _ _, fun _ _ _ _ h => h⟩
      -- 2: s30 := nilCheck t29
      apply rgd_ev
      · intro a w hR hC hf
        obtain ⟨e29, -⟩ := hf
        replace e29 : a.tmps.getD 29 undef = _ := e29
        refine rg_plain rfl fun K hK => ?_
        go_simp
        exact hK _ _ rfl ⟨hRr _, Only.refl _ _, fun _ _ _ _ h => h⟩
      -- 3: s31 := fieldAddr 66 t30 0
      apply rgd_ev
      · intro a w hR hC hf
        obtain ⟨e30, -⟩ := hf
        replace e30 : a.tmps.getD 30 undef = _ := e30
        refine rg_plain rfl fun K hK => ?_
        go_simp
        exact hK _ _ rfl ⟨hRr _, Only.refl _ _, fun _ _ _ _ h => h⟩
      -- 4: s32 := load 63 t31
      apply rgd_ev
      · intro a w hR hC hf
        obtain ⟨e31, -⟩ := hf
        replace e31 : a.tmps.getD 31 undef = _ := e31
        refine rg_plain rfl fun K hK => ?_
        have hC4 := hC 13 (by simp) (by kernel_rfl)
        have hl := hC4.loadMid (P := Tryd.prog) (o := 0) (us := u32s sk.l) Tryd.underlying197 infoSt (hrow_st _ _ _)
        exact rg_load (x := .tmp 31) rfl e31 hl (hK _ _ rfl ⟨hRr _, Only.refl _ _, fun _ _ _ _ h => h⟩)
      -- 5: s33 := move t0
      apply rgd_ev
      · intro a w hR hC hf
        obtain ⟨e0, -⟩ := hf
        replace e0 : a.tmps.getD 0 undef = _ := e0
        refine rg_plain rfl fun K hK => ?_
        go_simp
        exact hK _ _ rfl ⟨hRr _, Only.refl _ _, fun _ _ _ _ h => h⟩
      -- 6: s34 := nilCheck t33
      apply rgd_ev
      · intro a w hR hC hf
        obtain ⟨e33, -⟩ := hf
        replace e33 : a.tmps.getD 33 undef = _ := e33
        refine rg_plain rfl fun K hK => ?_
        go_simp
        exact hK _ _ rfl ⟨hRr _, Only.refl _ _, fun _ _ _ _ h => h⟩
      -- 7: s35 := fieldAddr 66 t34 1
      apply rgd_ev
      · intro a w hR hC hf
        obtain ⟨e34, -⟩ := hf
        replace e34 : a.tmps.getD 34 undef = _ := e34
        refine rg_plain rfl fun K hK => ?_
        go_simp
        exact hK _ _ rfl ⟨hRr _, Only.refl _ _, fun _ _ _ _ h => h⟩
      -- 8: s36 := load 22 t35
      apply rgd_ev
      · intro a w hR hC hf
        obtain ⟨e35, -⟩ := hf
        replace e35 : a.tmps.getD 35 undef = _ := e35
        refine rg_plain rfl fun K hK => ?_
        have hl := (hC 13 (by simp) (by kernel_rfl)).cell (hrow_8 _ _ _)
        go_simp
        exact hK _ _ rfl ⟨hRr _, Only.refl _ _, fun _ _ _ _ h => h⟩
      -- 9: s37 := slice 22 t36 none (some (const (64:i64))) none
      apply rgd_ev
      · intro a w hR hC hf
        obtain ⟨e36, -⟩ := hf
        replace e36 : a.tmps.getD 36 undef = _ := e36
        refine rg_plain rfl fun K hK => ?_
        go_simp
        exact hK _ _ rfl ⟨hRr _, Only.refl _ _, fun _ _ _ _ h => h⟩
      -- 10: s38 := call { value (Operand.func 37), args := #[t32, t37], #[63, 22] }
      apply rgd_ev
      · intro a w hR hC hf
        obtain ⟨e32, e37, -⟩ := hf
        replace e32 : a.tmps.getD 32 undef = _ := e32
        replace e37 : a.tmps.getD 37 undef = _ := e37
        refine rg_plain rfl fun K hK => ?_
        go_simp
        (with_reducible refine (Hdig.out w (Hrd.out w hR)).mono ?_)
        rintro e w' ⟨rfl, ho⟩
        exact hK _ _ rfl ⟨ho.mono (by simp), ho, fun i hi hne ha h => h.only0 ho⟩
      -- 11: s39 := nilCheck t28
      apply rgd_ev
      · intro a w hR hC hf
        obtain ⟨e28, -⟩ := hf
        replace e28 : a.tmps.getD 28 undef = _ := e28
        refine rg_plain rfl fun K hK => ?_
        go_simp
        exact hK _ _ rfl ⟨hRr _, Only.refl _ _, fun _ _ _ _ h => h⟩
      -- 12: s40 := fieldAddr 66 t39 0
      apply rgd_ev
      · intro a w hR hC hf
        obtain ⟨e39, -⟩ := hf
        replace e39 : a.tmps.getD 39 undef = _ := e39
        refine rg_plain rfl fun K hK => ?_
        go_simp
        exact hK _ _ rfl ⟨hRr _, Only.refl _ _, fun _ _ _ _ h => h⟩
      -- 13: sNone := store 63 t40 t38
      refine ⟨fun _ a => Row a B 200 (hrow s1 (.slice pk lk ck) M), stands_of (fun _ _ _ h ho => h.only0 ho) (by intro x hx hk; obtain rfl := List.mem_singleton.1 hx; simp at hk), fun a w hR hC hf => ?_, ?_⟩
      · obtain ⟨e40, e38, -⟩ := hf
        replace e40 : a.tmps.getD 40 undef = _ := e40
        replace e38 : a.tmps.getD 38 undef = _ := e38
        refine rg_plain rfl fun K hK => ?_
        have hC13 := hC 13 (by simp) (by kernel_rfl)
        have hst := hC13.storeMid (P := Tryd.prog) (o := 0) (ty := 197) (us := u32s s1.l) infoSt (by rw [hrow_len, u32s_length]; exact (by decide : 0 + 8 ≤ 10)) (fun u hu => u32s_one hu)
        have hoo := Only.setCells B (u32s s1.l) 0 w
        refine rg_store (x := .tmp 40) (y := .tmp 38) rfl e40 e38 hst (hK _ _ ?_ ⟨hoo, hoo, fun i hi hne ha _ => absurd (List.mem_singleton.1 hi) hne⟩)
        exact (by have := Row.setCells (u32s s1.l) 0 hC13 (by rw [hrow_len, u32s_length]; exact (by decide : 0 + 8 ≤ 10)); rw [hrow_put] at this; exact this)
      intro f3 w3 hR3 hf hz3
      dsimp only [mergeT]
      -- r3>>
      obtain ⟨v13, r13⟩ := hz3 _ (List.mem_cons_self ..)
      have hc8' := r13.cell (hrow_8 _ _ _)
      have hf8' := r13.free 8
      go_wp2_with fail
      have hlen3 : lk = Y.length - 64 * k := by rw [← Hlk.out, HLk.out, List.length_drop]
      have hs3 : s1 = digN st0 (k + 1) Y := by rw [Hs1.out, Hsk.out, HLk.out]; exact dig_step k Y (by rw [← HLk.out, Hlk.out]; exact h64)
      have hL3 : Lk.drop 64 = Y.drop (64 * (k + 1)) := by rw [HLk.out]; exact left_step k Y
      obtain ⟨ocut, hblk⟩ := O.out.cut 64 h64 (by omega)
      rw [O.out.cutp 64]
      generalize (if ck = 64 then pk else pk.map (·.add 64)) = pk2 at ocut hblk ⊢
      have hnk2 : B ∉ blk pk2 := by rw [hblk]; exact hnk
      rw [u8s_drop] at ocut
      have r4 := r13.setCell 8 (.slice pk2 (lk - 64) (ck - 64))
      rw [hrow_set8] at r4
      have oset : Only [B] w3 (w3.setCell ⟨B, 8, none⟩ (.slice pk2 (lk - 64) (ck - 64))) := Only.setCell _ ⟨B, 8, none⟩ _
      have oo := (hR3.trans oset (fun i hi _ => hi))
      have ocut2 := ocut.only oo (fun x hx h => hnk2 (by obtain rfl := List.mem_singleton.1 h; exact hx))
      refine ⟨⟨k + 1, lk - 64, s1, Lk.drop 64, pk2, ck - 64, by omega, Lib.hid (by rw [List.length_drop, Hlk.out]), Lib.hid hs3, Lib.hid hL3, Lib.hid r4, Lib.hid ocut2, hnk2, Lib.hid (Ho.out.trans oo (fun i hi _ => by obtain rfl := List.mem_singleton.1 hi; simp)), Lib.hid (by rw [hblk]; exact HF.out)⟩, ?_⟩
      rw [r4.cell (hrow_8 _ _ _), hc8]
      show lk - 64 < lk
      omega
    · have hi1 : ¬ (64 : Int) ≤ (lk : Int) := by omega
      go_wp2_with fail
      (first | go_end0 | ((try simp only [Exit.inBlock, Exit.then]); refine bodyPost_ret (results_none rfl _ _ _) rfl ?_))
      have hlen3 : lk = Y.length - 64 * k := by rw [← Hlk.out, HLk.out, List.length_drop]
      have hkk : k = Y.length / 64 := by omega
      refine ⟨rfl, B :: blk pk, ?_, Ho.out, fun x hx => by have := HF.out x hx; simpa using this⟩
      rw [← HY.out]
      have hr := R.out
      have ho := O.out
      rw [HNb.out, Hsk.out, ← Hlk.out, HLk.out] at hr
      rw [← Hlk.out, HLk.out] at ho
      rw [hkk] at hr ho
      exact ⟨pk, ck, rfl, hr, ho, hnk⟩
end Go.Proofs.YtfoplbolbjcggaaDoor
