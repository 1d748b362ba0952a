/- The walks of rs.Decode, rs.Rebuild, where the numbers are legal. -/
import Derived.Test.YtlgcclhepegggaaDoorRsPiecesW
set_option linter.unusedVariables false
set_option maxRecDepth 100000
namespace Go.Proofs.YtlgcclhepegggaaDoor
open Go.RowKit

def dataOf (k : Nat) (L : List Sh) : List (List UInt8) := (solveS (rowsOf k L k, valsOf L k)).2
def decB (k n : Nat) (L : List Sh) : List UInt8 := (dataOf k L).flatten.take n
/-- what Decode hands back -/
def DecEnd (w0 : World) (k m n : Nat) (L : List Sh) (a : Addr) (e : Ending) (w' : World) : Prop :=
  Only [] w0 w' ∧ ((goodL k m (shardLen k n) L ∧ ∃ q c, e = .returned (.tuple #[.slice q n c, .nilIface]) ∧ Own w' w0.heap.size 5 (.slice q n c) (u8s (decB k n L))) ∨ (¬ goodL k m (shardLen k n) L ∧ e = .returned (.tuple #[.slice none 0 0, ev a])))
theorem flatten_len {Ls : List (List UInt8)} {size : Nat} (h : ∀ l ∈ Ls, l.length = size) : Ls.flatten.length = Ls.length * size := by
  induction Ls with
  | nil => simp
  | cons x r ih =>
    rw [List.flatten_cons, List.length_append, h x (by simp), ih (fun l hl => h l (by simp [hl])), List.length_cons, Nat.add_mul, Nat.one_mul, Nat.add_comm]
theorem shardLen_mul {k n : Nat} (hk : 0 < k) : n ≤ k * shardLen k n := by
  unfold shardLen
  have h1 := Nat.div_add_mod (n + k - 1) k
  have h2 := Nat.mod_lt (n + k - 1) hk
  omega
theorem decB_len {k m n : Nat} {L : List Sh} (hk : 0 < k) (h : goodL k m (shardLen k n) L) : (decB k n L).length = n := by
  have hs := (goodL_shape h).solve
  unfold decB dataOf
  rw [List.length_take, flatten_len hs.ev, hs.v]
  exact Nat.min_eq_left (shardLen_mul hk)

set_option maxHeartbeats 4000000 in
theorem decode_any (k m n nL c : Nat) (p : Option Addr) (L : List Sh) (w0 : World) (a : Addr) (hE : ErrAt w0 1 a) (hl : legal (k : Int) (m : Int) = true) (hn : n ≤ 1024) (hnL : L.length = nL) (hnb : nL ≤ 140737488351232) (hL : Shards w0 p L) :
    Calls Tryd.prog 37 #[.int .i64 (k : Int), .int .i64 (m : Int), .int .i64 (n : Int), .slice p nL c] w0 (DecEnd w0 k m n L a) := by
  obtain ⟨l1, l2, l3⟩ := legal_iff.1 hl
  have hsize := size_ok k m n hl hn w0
  have hp := pieces_any k m (shardLen k n) nL c p L w0 a hE hl (by have := shardLen_le (k := k) hn; omega) hnL hnb hL
  have hmul := shardLen_mul (k := k) (n := n) (by omega)
  have hsl := shardLen_le (k := k) hn
  have hfl : ∀ j, j < k → goodL k m (shardLen k n) L → True := fun _ _ _ => trivial
  unfold DecEnd
  clear hl hnL hL hE hfl
  have Hsh : Hid (goodL k m (shardLen k n) L → (dataOf k L).length = k ∧ ∀ l ∈ dataOf k L, l.length = shardLen k n) := Lib.hid (fun h => ⟨(goodL_shape h).solve.v, (goodL_shape h).solve.ev⟩)
  have HdB : Hid (decB k n L = (dataOf k L).flatten.take n) := Lib.hid rfl
  unfold PiecesEnd at hp
  rw [show (solveS (rowsOf k L k, valsOf L k)).2 = dataOf k L from rfl] at hp
  generalize dataOf k L = Z at *
  generalize decB k n L = DB at *
  generalize shardLen k n = size at *
  generalize goodL k m size L = G at *
  have Hmul := Lib.hid hmul
  clear hmul
  unfold ev at hp ⊢
  go_enter Tryd.func37, Tryd.ntmps37
  go_wp2_with fail
  (with_reducible refine (hsize).mono ?_)
  rintro e w' ⟨rfl, rfl⟩
  go_wp2_with fail
  refine hp.mono ?_
  clear hp hsize
  rintro e w1 ⟨o1, ⟨hG, q, c1, rfl, hZ⟩ | ⟨hG, rfl⟩⟩
  · obtain ⟨hzl, hze⟩ := Hsh.out hG
    have HZ := Lib.hid hZ
    have HG := Lib.hid hG
    have Hzl := Lib.hid hzl
    have Hze := Lib.hid hze
    have HO1 := Lib.hid o1
    clear hZ hG hzl hze o1 Hsh
    go_wp2_with fail
    go_loopw [39, 13] (fun i o wr => ∃ (j : Nat) (q2 : Option Addr) (c2 N : Nat), i = .int .i64 (j : Int) ∧ o = .slice q2 N c2 ∧ j ≤ k ∧ Hid (N = j * size) ∧ Hid (Own wr w1.heap.size 5 (.slice q2 N c2) (u8s (Z.take j).flatten)) ∧ Hid (Only [] w1 wr)) (fun i _ _ => k - (intOf i).toNat)
    case atStart => exact ⟨0, none, 0, 0, rfl, rfl, Nat.zero_le _, Lib.hid (by simp), Lib.hid (Own.nil _ _ _), Lib.hid (Only.refl _ _)⟩
    case round =>
      obtain ⟨j, q2, c2, N, rfl, rfl, hj, HN, Hown, HO2⟩ := hrel
      by_cases hlt : j < k
      · have hji : (j : Int) < (k : Int) := by omega
        obtain ⟨l, hl⟩ : ∃ l, Z[j]? = some l := ⟨_, List.getElem?_eq_getElem (by rw [Hzl.out]; exact hlt)⟩
        obtain ⟨b, off, q3, c3, rfl, hc, hr, hq3, hl3⟩ := (HZ.out.only0 HO2.out) j l hl
        have hll := Hze.out l (List.mem_of_getElem? hl)
        rw [hll] at hc hq3
        have hNb : N ≤ 16 * 1024 := by rw [HN.out]; exact Nat.mul_le_mul (by omega) hsl
        obtain ⟨q4, c4, w5, Hr, own5, o5, -⟩ := append_owned (P := Tryd.prog) (bytes := 1) (c := c3) (q := q3) (m := size) (news := u8s l) (t := 27) (ty := 27) wr Tryd.underlying27 Tryd.infoU8 rfl Hown.out hr (by rw [u8s_length, hll]) hq3 (fun v hv => u8s_one hv) (by omega) (by omega) HO2.out.size
        have hqlt : ∀ x ∈ blk q2, w1.heap.size ≤ x := fun x hx => by
          cases q2 with
          | none => cases hx
          | some a => simp [blk] at hx; subst hx; exact (Hown.out.lt _ rfl).1
        have Ho5 := Lib.hid (HO2.out.transN o5 hqlt)
        have hN5 : N + size = (j + 1) * size := by rw [HN.out, Nat.add_mul, Nat.one_mul]
        have HN5 := Lib.hid hN5
        have Own5 : Hid (Own w5 w1.heap.size 5 (.slice q4 (N + size) c4) (u8s (Z.take (j + 1)).flatten)) := Lib.hid (by
          rw [List.take_add_one, hl]
          rw [show (Z.take j ++ (some l).toList).flatten = (Z.take j).flatten ++ l by simp, u8s_append]; exact own5)
        have HrH := Lib.hid Hr
        clear hl hr hll own5 o5 hqlt hN5 Hr hq3 hl3 Hown
        go_wp2_with (first | (at_builtin; refine wpl_append (s := .tmp 43) (x := .tmp 44) rfl rfl rfl rfl HrH.out ?_))
        exact ⟨⟨j + 1, q4, c4, N + size, by go_num, rfl, by omega, HN5, Own5, Ho5⟩, by simp [intOf]; omega⟩
      · obtain rfl : j = k := by omega
        have hji : ¬ (j : Int) < (j : Int) := by omega
        obtain ⟨rd, hvl, hq0, hle, hle2, -⟩ := Hown.out.view
        have hNn : n ≤ N := by rw [HN.out]; exact Hmul.out
        have hnc : n ≤ c2 := by omega
        have hflat : (Z.take j).flatten.take n = DB := by rw [List.take_of_length_le (l := Z) (by rw [Hzl.out]; exact Nat.le_refl _)]; exact HdB.out.symm
        have hrd : Rd wr q2 (u8s DB) := by
          rw [← hflat, ← u8s_take]; exact rd.take n
        have hdl : DB.length = n := by
          rw [← hflat, List.length_take]
          rw [u8s_length] at hvl
          omega
        obtain ⟨q4, c4, w5, Hr, own5, o5, -⟩ := append_owned (P := Tryd.prog) (bytes := 1) (n := 0) (cap := 0) (p := none) (vs := []) (base := w0.heap.size) (c := c2) (q := q2) (m := n) (news := u8s DB) (t := 27) (ty := 27) wr Tryd.underlying27 Tryd.infoU8 rfl (Own.nil _ _ _) hrd (by rw [u8s_length, hdl]) (fun e => ⟨by have := (hq0 e).1; omega, (hq0 e).2⟩) (fun v hv => u8s_one hv) (by omega) (by omega) (Nat.le_trans HO1.out.size HO2.out.size)
        rw [Nat.zero_add, List.nil_append] at own5
        rw [Nat.zero_add] at Hr
        have Ho5 := Lib.hid ((HO1.out.trans0 HO2.out).trans0 (o5.mono (by simp [blk])))
        have Own5 := Lib.hid own5
        have HrH := Lib.hid Hr
        have hni : (n : Int) ≤ (c2 : Int) := by omega
        clear rd hvl hq0 hflat hrd hdl Hr own5 o5 hle Hown
        go_wp2_with (first | (at_builtin; refine wpl_append (s := .const (.slice none 0 0)) (x := .tmp 49) rfl rfl rfl rfl HrH.out ?_))
        go_ret2
        exact ⟨Ho5.out, .inl ⟨HG.out, q4, c4, rfl, Own5.out⟩⟩
  · have Hg := Lib.hid hG
    have Ho := Lib.hid o1
    clear hG o1
    go_wp2_with fail
    go_ret2
    exact ⟨Ho.out, .inr ⟨Hg.out, rfl⟩⟩

/-- what Rebuild hands back -/
def RebEnd (w0 : World) (k m n number : Nat) (L : List Sh) (a : Addr) (e : Ending) (w' : World) : Prop :=
  Only [] w0 w' ∧ ((goodL k m (shardLen k n) L ∧ ∃ g, e = .returned (.tuple #[.slice (some ⟨g, 0, none⟩) (shardLen k n) (shardLen k n), .nilIface]) ∧ w0.heap.size ≤ g ∧ Row w' g 5 (u8s (combB (rowB k number) (dataOf k L) (shardLen k n)))) ∨ (¬ goodL k m (shardLen k n) L ∧ e = .returned (.tuple #[.slice none 0 0, ev a])))
set_option maxHeartbeats 4000000 in
theorem rebuild_any (k m n nL c number : Nat) (p : Option Addr) (L : List Sh) (w0 : World) (a : Addr) (hE : ErrAt w0 1 a) (hl : legal (k : Int) (m : Int) = true) (hn : n ≤ 1024) (hnum : number < k + m) (hnL : L.length = nL) (hnb : nL ≤ 140737488351232) (hL : Shards w0 p L) :
    Calls Tryd.prog 39 #[.int .i64 (k : Int), .int .i64 (m : Int), .int .i64 (n : Int), .slice p nL c, .int .i64 (number : Int)] w0 (RebEnd w0 k m n number L a) := by
  obtain ⟨l1, l2, l3⟩ := legal_iff.1 hl
  have hcheck := check_ok k m hl w0
  have hsize := size_ok k m n hl hn w0
  have hp := pieces_any k m (shardLen k n) nL c p L w0 a hE hl (by have := shardLen_le (k := k) hn; omega) hnL hnb hL
  have hsl := shardLen_le (k := k) hn
  have t1 : ¬ (n : Int) < 0 := by omega
  have t2 : ¬ (number : Int) < 0 := by omega
  have t3 : ¬ (k : Int) + (m : Int) ≤ (number : Int) := by omega
  unfold RebEnd
  clear hl hnL hL hE
  have Hsh : Hid (goodL k m (shardLen k n) L → (dataOf k L).length = k ∧ ∀ l ∈ dataOf k L, l.length = shardLen k n) := Lib.hid (fun h => ⟨(goodL_shape h).solve.v, (goodL_shape h).solve.ev⟩)
  unfold PiecesEnd at hp
  rw [show (solveS (rowsOf k L k, valsOf L k)).2 = dataOf k L from rfl] at hp
  generalize dataOf k L = Z at *
  generalize shardLen k n = size at *
  generalize goodL k m size L = G at *
  unfold ev at hp ⊢
  go_enter Tryd.func39, Tryd.ntmps39
  go_wp2_with fail
  (with_reducible refine (hcheck).mono ?_)
  rintro e w' ⟨rfl, rfl⟩
  go_wp2_with fail
  (with_reducible refine (hsize).mono ?_)
  rintro e w' ⟨rfl, rfl⟩
  go_wp2_with fail
  refine hp.mono ?_
  clear hp hsize hcheck
  rintro e w1 ⟨o1, ⟨hG, q, c1, rfl, hZ⟩ | ⟨hG, rfl⟩⟩
  · obtain ⟨hzl, hze⟩ := Hsh.out hG
    have HZ := Lib.hid hZ
    have HG := Lib.hid hG
    have Hzl := Lib.hid hzl
    have Hze := Lib.hid hze
    have HO1 := Lib.hid o1
    clear hZ hG hzl hze o1 Hsh
    go_wp2_with fail
    (with_reducible refine (row_any k number (by omega) (by omega) w1).mono ?_)
    rintro e w2 ⟨g1, rfl, hg1, r1, o2⟩
    have HO2 := Lib.hid o2
    have HR1 := Lib.hid r1
    clear r1 o2
    go_wp2_with fail
    (with_reducible refine (combined_any (some ⟨g1, 0, none⟩) q (rowB k number) Z k k k c1 size w2 (rowB_len _ _) Hzl.out (Nat.le_refl _) (by omega) (by omega) Hze.out HR1.out.rd0 (HZ.out.only0 HO2.out)).mono ?_)
    rintro e w3 ⟨g2, rfl, hg2, r2, o3⟩
    rw [List.take_of_length_le (by rw [Hzl.out]; exact Nat.le_refl _)] at r2
    have HR2 := Lib.hid r2
    have HO3 := Lib.hid ((HO1.out.trans0 HO2.out).trans0 o3)
    have Hg2 : Hid (w0.heap.size ≤ g2) := Lib.hid (Nat.le_trans (Nat.le_trans HO1.out.size HO2.out.size) hg2)
    clear r2 o3 hg2 hg1
    go_wp2_with fail
    go_ret2
    exact ⟨HO3.out, .inl ⟨HG.out, g2, rfl, Hg2.out, HR2.out⟩⟩
  · have Hg := Lib.hid hG
    have Ho := Lib.hid o1
    clear hG o1
    go_wp2_with fail
    go_ret2
    exact ⟨Ho.out, .inr ⟨Hg.out, rfl⟩⟩
end Go.Proofs.YtlgcclhepegggaaDoor
