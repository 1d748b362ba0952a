/- What stands between two acts of bollardlaw14.NetCounts. -/
import Derived.Test.YtlgcclhepegggaaDoorNetAliveW
set_option linter.unusedVariables false
set_option maxRecDepth 100000
namespace Go.Proofs.YtlgcclhepegggaaDoor
open Go.RowKit

/-- how many letters of a mark wait -/
def cnt (L : List Lt) (x : Nat) : Nat := L.countP fun o => o.xs == [UInt8.ofNat x]
def cntV (L : List Lt) : List Value := (List.range 256).map fun x => .int .i64 (cnt L x : Int)
theorem cntV_len (L : List Lt) : (cntV L).length = 256 := by simp [cntV]
theorem cnt_le (L : List Lt) (x : Nat) : cnt L x ≤ L.length := List.countP_le_length
theorem cntV_get (L : List Lt) (b : UInt8) : (cntV L)[b.toNat]? = some (.int .i64 (cnt L b.toNat : Int)) := by
  have := b.toNat_lt
  unfold cntV
  rw [List.getElem?_map, List.getElem?_range (by omega)]
  rfl
theorem cntV_set (L M : List Lt) (b : UInt8) (y : Int) (h0 : (cnt M b.toNat : Int) = y) (h : ∀ x, x < 256 → x ≠ b.toNat → cnt M x = cnt L x) : cntV M = (cntV L).set b.toNat (.int .i64 y) := by
  have hb := b.toNat_lt
  apply List.ext_getElem?
  intro x
  by_cases e : x = b.toNat
  · subst e
    rw [cntV_get, List.getElem?_set_self (by rw [cntV_len]; omega), h0]
  · rw [List.getElem?_set_ne (fun h => e h.symm)]
    by_cases hx : x < 256
    · unfold cntV
      rw [List.getElem?_map, List.getElem?_map, List.getElem?_range hx]
      simp only [Option.map_some]
      rw [h x hx e]
    · rw [List.getElem?_eq_none (by rw [cntV_len]; omega), List.getElem?_eq_none (by rw [cntV_len]; omega)]
theorem one_mark (b : UInt8) {x : Nat} (hx : x < 256) : (([b] : List UInt8) == [UInt8.ofNat x]) = decide (x = b.toNat) := by
  by_cases e : x = b.toNat
  · subst e
    simp
  · simp only [e, decide_false]
    apply Bool.eq_false_iff.2
    intro h
    have h := eq_of_beq h
    simp only [List.cons.injEq, and_true] at h
    apply e
    rw [h]
    simp
    omega
theorem cnt_snoc (L : List Lt) (o : Lt) (b : UInt8) (ho : o.xs = [b]) (x : Nat) (hx : x < 256) : cnt (L ++ [o]) x = cnt L x + if x = b.toNat then 1 else 0 := by
  unfold cnt
  rw [List.countP_append, List.countP_singleton, ho, one_mark b hx]
  simp
theorem cntV_snoc (L : List Lt) (o : Lt) (b : UInt8) (ho : o.xs = [b]) : cntV (L ++ [o]) = (cntV L).set b.toNat (.int .i64 ((cnt L b.toNat : Int) + 1)) := by
  have hb := b.toNat_lt
  apply cntV_set
  · rw [cnt_snoc L o b ho _ (by omega), if_pos rfl]; omega
  · intro x hx e; rw [cnt_snoc L o b ho x hx, if_neg e]; rfl
theorem cnt_erase {L : List Lt} {i : Nat} {o : Lt} (b : UInt8) (hi : L[i]? = some o) (ho : o.xs = [b]) (x : Nat) (hx : x < 256) : cnt L x = cnt (L.eraseIdx i) x + if x = b.toNat then 1 else 0 := by
  have hl := (List.getElem?_eq_some_iff.1 hi)
  obtain ⟨hlt, e⟩ := hl
  have h1 : L = L.take i ++ (o :: L.drop (i + 1)) := by
    rw [← e, List.getElem_cons_drop, List.take_append_drop]
  unfold cnt
  rw [List.eraseIdx_eq_take_drop_succ]
  conv => lhs; rw [h1]
  rw [List.countP_append, List.countP_append, List.countP_cons, ho, one_mark b hx]
  simp
  omega
theorem cntV_erase {L : List Lt} {i : Nat} {o : Lt} (b : UInt8) (hi : L[i]? = some o) (ho : o.xs = [b]) : cntV (L.eraseIdx i) = (cntV L).set b.toNat (.int .i64 ((cnt L b.toNat : Int) - 1)) := by
  have hb := b.toNat_lt
  apply cntV_set
  · have := cnt_erase b hi ho b.toNat (by omega); rw [if_pos rfl] at this; omega
  · intro x hx e; have := cnt_erase b hi ho x hx; rw [if_neg e] at this; omega
theorem cnt_pos {L : List Lt} {i : Nat} {o : Lt} (b : UInt8) (hi : L[i]? = some o) (ho : o.xs = [b]) : 1 ≤ cnt L b.toNat := by
  have := cnt_erase b hi ho b.toNat (by have := b.toNat_lt; omega); rw [if_pos rfl] at this; omega
theorem cntV_nil : cntV [] = List.replicate 256 (.int .i64 0) := by
  unfold cntV cnt
  simp only [List.countP_nil]
  rw [List.map_const', List.length_range]
  rfl

/-- a letter of a net whose row has turned -/
theorem NetAt.okAfter {w w' : World} {base B n c last : Nat} {q : Option Addr} {L : List Lt} {o : Lt} (h : NetAt w base B q n c last L) (hm : o ∈ L) (ho : Only (B :: blk q) w w') : o.Ok w' := by
  have hnd := List.nodup_cons.1 h.nd
  refine (h.ok o hm).only ho (fun x hx hmm => ?_)
  have h3 := bbs_mem hm hx
  rcases List.mem_cons.1 hmm with e | e
  · exact hnd.1 (by rw [← e]; exact List.mem_append_right _ h3)
  · exact (List.nodup_append.1 hnd.2).2.2 x e x h3 rfl

/-- what stands between two acts -/
structure CS (w0 : World) (B0 G j : Nat) (w : World) (q : Option Addr) (n c last : Nat) (L : List Lt) (p : Option Addr) (d : Nat) (ms : List UInt8) : Prop where
  net : NetAt w B0 B0 q n c last L
  rises : Rises last L
  mrk : ∀ o ∈ L, o.fr = 1 ∧ o.to = 2 ∧ ∃ b, ms[o.n]? = some b ∧ o.xs = [b]
  own : Own w B0 5 (.slice p (last + 1) d) (u8s ms)
  apart : ∀ x ∈ blk p, x ∉ netD B0 q L ∧ x ≠ G
  left : Row w G 43 (cntV L)
  gap : G ∉ netD B0 q L
  n4 : n ≤ 4096
  lj : last ≤ j
  only : Only [] w0 w
  b0 : w0.heap.size ≤ B0
  b1 : w0.heap.size ≤ G
section
variable {w0 w w' w1 w5 w7 : World} {B0 G j n c last d : Nat} {q p : Option Addr} {L : List Lt} {ms : List UInt8}
theorem ownBlk' {base n c : Nat} {p : Option Addr} {k : Nat} (hk : Value.ownBlock (.slice p n c) = some k) : k ∈ blk p := by
  cases p with
  | none => simp [Value.ownBlock] at hk
  | some a => simp [Value.ownBlock] at hk; simp [blk, hk]
theorem CS.only0 (h : CS w0 B0 G j w q n c last L p d ms) (ho : Only [] w w') : CS w0 B0 G j w' q n c last L p d ms :=
  ⟨h.net.only0 ho, h.rises, h.mrk, h.own.only0 ho, h.apart, h.left.only0 ho, h.gap, h.n4, h.lj, h.only.trans0 ho, h.b0, h.b1⟩
theorem CS.more (h : CS w0 B0 G j w q n c last L p d ms) : CS w0 B0 G (j + 1) w q n c last L p d ms := { h with lj := Nat.le_succ_of_le h.lj }
theorem CS.len (h : CS w0 B0 G j w q n c last L p d ms) : ms.length = last + 1 := by
  have := h.own.view.2.1
  rwa [u8s_length] at this
theorem CS.plt (h : CS w0 B0 G j w q n c last L p d ms) : ∀ x ∈ blk p, B0 ≤ x ∧ x < w.heap.size := fun x hx => by
  cases p with
  | none => cases hx
  | some a => simp [blk] at hx; subst hx; exact h.own.lt _ rfl
theorem CS.netOnly (h : CS w0 B0 G j w q n c last L p d ms) (hO : Only (B0 :: blk q) w w') : Own w' B0 5 (.slice p (last + 1) d) (u8s ms) ∧ Row w' G 43 (cntV L) ∧ Only [] w0 w' := by
  have hin : ∀ x ∈ B0 :: blk q, x ∈ netD B0 q L := fun x hx => by
    rcases List.mem_cons.1 hx with e | e
    · simp [netD, e]
    · simp [netD, e]
  exact ⟨h.own.only hO (fun k hk hm => (h.apart k (ownBlk' (base := 0) hk)).1 (hin k hm)), h.left.only hO (fun hm => h.gap (hin G hm)), h.net.fresh h.b0 h.only hO⟩
theorem CS.find (h : CS w0 B0 G j w q n c last L p d ms) {i k : Nat} {a b : Lt} (hi : L[i]? = some a) (hk : L[k]? = some b) (e : a.n = b.n) : i = k := by
  rcases Nat.lt_trichotomy i k with h1 | h1 | h1
  · have := h.rises.lt hi hk h1; omega
  · exact h1
  · have := h.rises.lt hk hi h1; omega
/-- a letter has been put, its mark has been counted and written down -/
theorem CS.put {c' d' : Nat} {q' p' : Option Addr} {o : Lt} {b : UInt8} (h : CS w0 B0 G j w q n c last L p d ms) (hn : NetAt w' B0 B0 q' (n + 1) c' (last + 1) (L ++ [o])) (hon : o.n = last + 1) (hfr : o.fr = 1) (hto : o.to = 2) (hxs : o.xs = [b])
    (hbb : ∀ x ∈ o.bb, w.heap.size ≤ x) (hq : ∀ x ∈ blk q', x ∈ blk q ∨ w.heap.size ≤ x) (hO : Only (B0 :: blk q) w w') (hn4 : n < 4096)
    (oA : Only [] (w'.setCell ⟨G, b.toNat, none⟩ (.int .i64 ((cnt L b.toNat : Int) + 1))) w5) (own7 : Own w7 B0 5 (.slice p' (last + 1 + 1) d') (u8s ms ++ [.int .u8 (b.toNat : Int)])) (o7 : Only (blk p) w5 w7) (hb7 : p' = p ∨ ∃ g, p' = some ⟨g, 0, none⟩ ∧ w5.heap.size ≤ g) :
    CS w0 B0 G (j + 1) w7 q' (n + 1) c' (last + 1) (L ++ [o]) p' d' (ms ++ [b]) := by
  have hsz := hO.size
  have hszA := oA.size
  have hszs : (w'.setCell ⟨G, b.toNat, none⟩ (.int .i64 ((cnt L b.toNat : Int) + 1))).heap.size = w'.heap.size := by simp [World.setCell]
  have hGlt := h.left.lt
  have hGn : G ∉ netD B0 q' (L ++ [o]) := fun hm => by
    unfold netD at hm
    rcases List.mem_cons.1 hm with e | hm
    · exact h.gap (by simp [netD, e])
    · rcases List.mem_append.1 hm with hm | hm
      · rcases hq G hm with h2 | h2
        · exact h.gap (by simp [netD, h2])
        · omega
      · rw [bbs_append] at hm
        rcases List.mem_append.1 hm with hm | hm
        · exact h.gap (by simp [netD, hm])
        · have := hbb G (by simpa [bbs] using hm)
          omega
  have hp : ∀ x ∈ blk p, x ∉ netD B0 q' (L ++ [o]) := fun x hx hm => by
    have h1 := (h.plt x hx).2
    unfold netD at hm
    rcases List.mem_cons.1 hm with e | hm
    · exact (h.apart x hx).1 (by simp [netD, e])
    · rcases List.mem_append.1 hm with hm | hm
      · rcases hq x hm with h2 | h2
        · exact (h.apart x hx).1 (by simp [netD, h2])
        · omega
      · rw [bbs_append] at hm
        rcases List.mem_append.1 hm with hm | hm
        · exact (h.apart x hx).1 (by simp [netD, hm])
        · have := hbb x (by simpa [bbs] using hm)
          omega
  have oS : Only [G] w' (w'.setCell ⟨G, b.toNat, none⟩ (.int .i64 ((cnt L b.toNat : Int) + 1))) := Only.setCell w' ⟨G, b.toNat, none⟩ _
  have hN1 := (hn.only oS (by simpa using hGn)).only0 oA
  obtain ⟨ow, lf, fr0⟩ := h.netOnly hO
  have hleft := ((lf.setCell b.toNat (.int .i64 ((cnt L b.toNat : Int) + 1))).only0 oA).only o7 (fun hm => (h.apart G hm).2 rfl)
  rw [← cntV_snoc L o b hxs] at hleft
  have hb0 := h.b0
  have hb1 := h.b1
  have hlj := h.lj
  have hml := h.len
  refine ⟨hN1.only o7 hp, h.rises.snoc hon, ?_, ?_, ?_, hleft, hGn, by omega, by omega, ?_, h.b0, h.b1⟩
  · intro x hx
    rcases List.mem_append.1 hx with hx | hx
    · obtain ⟨h1, h2, b2, h3, h4⟩ := h.mrk x hx
      exact ⟨h1, h2, b2, by rw [List.getElem?_append_left (List.getElem?_eq_some_iff.1 h3).1]; exact h3, h4⟩
    · obtain rfl := List.mem_singleton.1 hx
      exact ⟨hfr, hto, b, by rw [hon, ← hml]; simp, hxs⟩
  · rw [u8s_append]
    exact own7
  · rcases hb7 with rfl | ⟨g, rfl, hg⟩
    · exact fun x hx => ⟨hp x hx, (h.apart x hx).2⟩
    · intro x hx
      simp [blk] at hx
      subst hx
      refine ⟨fun hm => ?_, by omega⟩
      have := (hN1.lt _ hm).2
      omega
  · exact ((fr0.transN oS (by simpa using hb1)).trans0 oA).transN o7 (fun x hx => by have := (h.plt x hx).1; omega)
/-- a letter is gone, its mark has been counted -/
theorem CS.gone {i : Nat} (h : CS w0 B0 G j w q n c last L p d ms) (hn : NetAt w' B0 B0 q (n - 1) c last (L.eraseIdx i)) (hleft : Row w' G 43 (cntV (L.eraseIdx i))) (hO : Only (G :: B0 :: blk q) w w') :
    CS w0 B0 G j w' q (n - 1) c last (L.eraseIdx i) p d ms := by
  have hsub : ∀ x ∈ netD B0 q (L.eraseIdx i), x ∈ netD B0 q L := fun x hx => by
    unfold netD at hx ⊢
    rcases List.mem_cons.1 hx with e | hx
    · simp [e]
    · rcases List.mem_append.1 hx with hx | hx
      · simp [hx]
      · exact List.mem_cons_of_mem _ (List.mem_append_right _ (bbs_erase.subset hx))
  have hin : ∀ x ∈ B0 :: blk q, x ∈ netD B0 q L := fun x hx => by
    rcases List.mem_cons.1 hx with e | e
    · simp [netD, e]
    · simp [netD, e]
  have hb0 := h.b0
  have hb1 := h.b1
  refine ⟨hn, h.rises.erase, fun o ho => h.mrk o (List.mem_of_mem_eraseIdx ho), h.own.only hO (fun k hk hm => ?_), fun x hx => ⟨fun hm => (h.apart x hx).1 (hsub x hm), (h.apart x hx).2⟩, hleft, fun hm => h.gap (hsub G hm), by have := h.n4; omega, h.lj, ?_, h.b0, h.b1⟩
  · have h1 := h.apart k (ownBlk' (base := 0) hk)
    rcases List.mem_cons.1 hm with e | hm
    · exact h1.2 e
    · exact h1.1 (hin k hm)
  · refine h.only.transN hO (fun x hx => ?_)
    rcases List.mem_cons.1 hx with e | hx
    · omega
    · have := (h.net.lt x (hin x hx)).1
      omega
end
end Go.Proofs.YtlgcclhepegggaaDoor
