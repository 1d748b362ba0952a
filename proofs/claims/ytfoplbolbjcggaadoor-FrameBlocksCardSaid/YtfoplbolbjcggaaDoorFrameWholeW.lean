/- The walk of bollardlaw06.FrameWhole. -/
import Derived.Test.YtfoplbolbjcggaaDoorPutErrW
import Derived.Test.YtfoplbolbjcggaaDoorBytesW
set_option linter.unusedVariables false
set_option maxRecDepth 100000
namespace Go.Proofs.YtfoplbolbjcggaaDoor
open Go.RowKit Go.Shelf
attribute [local go_sem] Oper.semAt_some

theorem results_cellBool {fn : Func} {a : Tmp} (h : fn.results = #[.cell a 4]) (tmps : Array Value) (w : World) (g : Nat) (b : Bool) (ht : tmps.getD a undef = .pointer (some ⟨g, 0, none⟩)) (hc : w.cell? ⟨g, 0, none⟩ = some (.bool b)) :
    (results fn tmps).run Tryd.prog w = .ok (.bool b) w := by
  rw [Array.getD_eq_getD_getElem?] at ht
  simp [results, h, ht, hc, go_sem]
theorem blks_at {xs : List UInt8} {ys zs : List (Nat × List UInt8)} {x : Nat × List UInt8} (h : blks xs = ys ++ x :: zs) : x = (ys.length, chunk xs ys.length) ∧ ys.length < nblk xs ∧ 32 * ys.length < xs.length := by
  have hl := congrArg List.length h
  rw [blks_length, List.length_append, List.length_cons] at hl
  have hlt : ys.length < nblk xs := by omega
  have hg := blks_get xs hlt
  rw [h, List.getElem?_append_right (Nat.le_refl _)] at hg
  refine ⟨by simpa using hg, hlt, ?_⟩
  unfold nblk at hlt
  omega
theorem take_chunk {xs : List UInt8} {i : Nat} : xs.take (32 * i) ++ chunk xs i = xs.take (32 * (i + 1)) := by
  unfold chunk
  rw [show 32 * (i + 1) = 32 * i + 32 by omega, List.take_add]
structure WholeI (w0 : World) (xs : List UInt8) (X Z R : Nat) (ys : List (Nat × List UInt8)) (D : List Nat) (w : World) (q : Option Addr) (m k : Nat) : Prop where
  d : D = X :: Z :: blk q
  rx : Row w X 22 [.slice q m k]
  rz : Row w Z 4 [.bool (decide (xs.length < 32 * ys.length))]
  rr : Row w R 4 [.bool false]
  own : Own w w0.heap.size 5 (.slice q m k) (u8s (xs.take (32 * ys.length)))
  len : m = min (32 * ys.length) xs.length
  ne : X ∉ blk q ∧ Z ∉ blk q ∧ R ∉ blk q ∧ X ≠ Z ∧ R ≠ X ∧ R ≠ Z
  lo : w0.heap.size ≤ X ∧ w0.heap.size ≤ Z ∧ w0.heap.size ≤ R
  only : Only [] w0 w
theorem WholeI.only' {w0 w w' : World} {xs : List UInt8} {X Z R m k : Nat} {ys : List (Nat × List UInt8)} {D T : List Nat} {q : Option Addr} (h : WholeI w0 xs X Z R ys D w q m k) (ho : Only T w w') (hT : ∀ t ∈ T, t ∉ D ∧ w0.heap.size ≤ t ∧ t ≠ R) : WholeI w0 xs X Z R ys D w' q m k :=
  ⟨h.d, h.rx.only ho (fun hm => (hT X hm).1 (by rw [h.d]; simp)), h.rz.only ho (fun hm => (hT Z hm).1 (by rw [h.d]; simp)), h.rr.only ho (fun hm => (hT R hm).2.2 rfl),
    h.own.only ho (fun x hx hm => (hT x hm).1 (by rw [h.d]; exact List.mem_cons_of_mem _ (List.mem_cons_of_mem _ (ownBlk hx)))), h.len, h.ne, h.lo, h.only.transN ho (fun t ht => (hT t ht).2.1)⟩

set_option maxHeartbeats 16000000 in
theorem frameWhole_any (p : Option Addr) (xs : List UInt8) (n c : Nat) (w0 : World) (hn : xs.length = n) (hb : n ≤ 140737488351232) (hp : p = none → n = 0 ∧ c = 0) (hx : Rd w0 p (u8s xs)) :
    Calls Tryd.prog 4 #[.slice p n c] w0 fun e w' => e = .returned (.bool true) ∧ Only [] w0 w' := by
  obtain ⟨w1, hw1⟩ : ∃ w1, w1 = w0.alloc (.cells #[.bool false] 4) := ⟨_, rfl⟩
  have o1 : Only [] w0 w1 := by rw [hw1]; exact Only.alloc _ _
  have r1 : Row w1 w0.heap.size 4 [.bool false] := by rw [hw1]; exact Row.newOf _ _ _ _ rfl
  have hal := alive06_any w1
  have Hw1 := Lib.hid hw1
  have HO1 := Lib.hid o1
  have HR1 := Lib.hid r1
  have Hx := Lib.hid hx
  have Hn := Lib.hid hn
  have Hp := Lib.hid hp
  clear hw1 o1 r1 hx hn hp
  refine calls_of_marks Tryd.func4 rfl ?_
  simp only [Tryd.ntmps4, List.size_toArray, List.length_cons, List.length_nil, Nat.reduceAdd, Nat.reduceSub, Array.replicate_succ, Array.replicate_zero, List.push_toArray, List.append_toArray, List.nil_append, List.cons_append]
  go_wp2_with fail
  rw [← Hw1.out]
  refine hal.mono ?_
  clear hal
  rintro e w2 ⟨rfl, o2⟩
  have HO2 := Lib.hid (HO1.out.trans0 o2)
  have HR2 := Lib.hid (HR1.out.only0 o2)
  obtain ⟨w3, hw3⟩ : ∃ w3, w3 = w2.alloc (.cells #[] 5) := ⟨_, rfl⟩
  obtain ⟨w4, hw4⟩ : ∃ w4, w4 = w3.alloc (.cells #[.slice (some ⟨w2.heap.size, 0, none⟩) 0 0] 22) := ⟨_, rfl⟩
  obtain ⟨w5, hw5⟩ : ∃ w5, w5 = w4.alloc (.cells #[.bool false] 4) := ⟨_, rfl⟩
  have z3 : w3.heap.size = w2.heap.size + 1 := by rw [hw3]; exact Array.size_push ..
  have z4 : w4.heap.size = w2.heap.size + 1 + 1 := by rw [hw4, ← z3]; exact Array.size_push ..
  have o3 : Only [] w2 w3 := by rw [hw3]; exact Only.alloc _ _
  have o4 : Only [] w3 w4 := by rw [hw4]; exact Only.alloc _ _
  have o5 : Only [] w4 w5 := by rw [hw5]; exact Only.alloc _ _
  have own3 : Own w3 w2.heap.size 5 (.slice (some ⟨w2.heap.size, 0, none⟩) 0 0) [] := by rw [hw3]; exact Own.ofRow (vs := []) (rest := []) (Nat.le_refl _) (Row.new w2 _ []) rfl (by omega)
  have r4 : Row w4 w3.heap.size 22 [.slice (some ⟨w2.heap.size, 0, none⟩) 0 0] := by rw [hw4]; exact Row.newOf _ _ _ _ rfl
  have r5 : Row w5 w4.heap.size 4 [.bool false] := by rw [hw5]; exact Row.newOf _ _ _ _ rfl
  have hs1 := HR1.out.lt
  have hs2 := HO2.out.size
  have hs12 : w0.heap.size < w2.heap.size := HR2.out.lt
  have HI0 : Hid (WholeI w0 xs w3.heap.size w4.heap.size w0.heap.size [] (w3.heap.size :: w4.heap.size :: [w2.heap.size]) w5 (some ⟨w2.heap.size, 0, none⟩) 0 0) := Lib.hid (by
    refine ⟨rfl, r4.only0 o5, by simpa using r5, ((HR2.out.only0 o3).only0 o4).only0 o5, ?_, by simp, by simp [blk]; omega, by omega, ((HO2.out.trans0 o3).trans0 o4).trans0 o5⟩
    rw [show u8s (xs.take (32 * ([] : List (Nat × List UInt8)).length)) = [] by simp [u8s]]
    exact ((own3.only0 o4).only0 o5).weaken hs2)
  have hbk := blocks_any p xs n c w5 Hn.out hb Hp.out (Hx.out.only0 HI0.out.only)
  have hs5 : w4.heap.size < w5.heap.size := r5.lt
  have Hs5 : Hid (w3.heap.size < w5.heap.size ∧ w4.heap.size < w5.heap.size ∧ w2.heap.size < w5.heap.size ∧ w0.heap.size < w5.heap.size) := Lib.hid (by omega)
  generalize hXe : w3.heap.size = X at *
  generalize hZe : w4.heap.size = Z at *
  rw [hw4, hw3] at hw5
  have Hw5 := Lib.hid hw5
  have HzX := Lib.hid z3
  have HzZ := Lib.hid z4
  clear o2 o3 o4 o5 own3 r4 r5 hw3 hw4 hw5 hs1 hs2 hs5 hs12 HR2 HR1
  go_wp2_with fail
  rw [← Hw5.out, ← HzZ.out, ← HzX.out]
  refine hbk.mono ?_
  clear hbk Hw5 HzX HzZ
  rintro e wb ⟨g, pb, kb, rfl, hBk, ob, hlo⟩
  have hseq := blocks_seq hBk (by rw [Hn.out]; omega)
  have HI1 := Lib.hid (HI0.out.only' ob (by simp))
  have Hwb := Lib.hid ob.size
  have Hlo := Lib.hid hlo
  have hcapl : ∀ x ∈ g :: blk pb, x < wb.heap.size := fun x hx => by
    rcases List.mem_cons.1 hx with rfl | hx
    · exact hBk.row.lt
    · exact blkLt hBk.own x hx
  have Hcapl := Lib.hid hcapl
  have Hseq := Lib.hid hseq
  have Hw02 := Lib.hid HO2.out.size
  unfold blkF
  clear hBk ob hlo hcapl hseq HI0 z3 z4
  go_wp2_with fail
  refine wp_rangeD (xs := blks xs) rfl (enters_of Tryd.func44 (by kernel_rfl) rfl) Hseq.out Hcapl.out (by rintro _ _ _ _ ⟨_, _, rfl, -, -⟩; rfl) (fun ys D w => ∃ q m k, WholeI w0 xs X Z w0.heap.size ys D w q m k) (fun _ _ _ _ => False) [X, Z, w2.heap.size] ?hD0 ?hI (fun _ _ _ _ _ _ h => h.elim) ⟨_, _, _, HI1.out⟩ ?round ?done (fun _ _ _ _ h => h.elim)
  case hD0 =>
    intro d hd
    have h1 := Hs5.out
    have h2 := Hwb.out
    have h3 : d < w5.heap.size := by simp at hd; omega
    exact ⟨fun hm => by have := Hlo.out d hm; omega, by omega⟩
  case hI =>
    rintro ys D A B T ⟨q, m, k, h⟩ ho hT
    exact ⟨q, m, k, h.only' ho (fun t ht => ⟨(hT t ht).1, by have := (hT t ht).2; have := Hs5.out; have := Hwb.out; omega, by have := (hT t ht).2; have := Hs5.out; have := Hwb.out; omega⟩)⟩
  case done =>
    rintro D D' ⟨q, m, k, hI⟩ hd hk
    have hc := hI.rx.cell (i := 0) rfl
    have hnl : (blks xs).length = nblk xs := blks_length xs
    have hnb : n ≤ 32 * nblk xs := by unfold nblk; rw [Hn.out]; omega
    have hm : m = n := by rw [hI.len, hnl, Hn.out]; omega
    subst hm
    have hrd := hI.own.view.1
    rw [hnl, List.take_of_length_le (by rw [Hn.out]; exact hnb)] at hrd
    have hsb := sameBytes_any q p xs xs m m k c true D' Hn.out Hn.out hI.own.view.2.2.1 Hp.out hrd (Hx.out.only0 hI.only) (by simp)
    have hrr := hI.rr
    have fr := hrr.free 0
    have cr := hrr.cell (i := 0) rfl
    have oS : Only [w0.heap.size] D' (D'.setCell ⟨w0.heap.size, 0, none⟩ (.bool true)) := Only.setCell D' ⟨w0.heap.size, 0, none⟩ _
    have oP := Only.putObj (D'.setCell ⟨w0.heap.size, 0, none⟩ (.bool true)) wb.heap.size (.deferred none)
    have hk2 : (D'.setCell ⟨w0.heap.size, 0, none⟩ (.bool true)).heap[wb.heap.size]? = some (.deferred (some [])) := (oS.block _ (Array.getElem?_eq_some_iff.1 hk).1 (by simp; have := Hs5.out; have := Hwb.out; omega)).trans hk
    have hrow := (hrr.setCell 0 (.bool true)).only oP (by simp; have := Hs5.out; have := Hwb.out; omega)
    have hO := Lib.hid (((hI.only.transN oS (by simp)).transN oP (by simp; have := Hs5.out; have := Hwb.out; omega)))
    have Hk2 := Lib.hid hk2
    have Hrow := Lib.hid hrow
    clear hI hd hk hrd hrr oS oP hk2 hrow
    go_wp2_with fail
    refine hsb.mono ?_
    clear hsb
    rintro e w' ⟨rfl, rfl⟩
    go_wp2_with fail
    exact mret1 Hk2.out (results_cellBool rfl _ _ _ true rfl (Hrow.out.cell (i := 0) rfl)) ⟨rfl, hO.out⟩
  case round =>
    rintro l ys ⟨ib, cs⟩ zs D A vs G hl1 hl2 hDG hG ⟨q, m, k, hI⟩ hxs ⟨qb, kb2, rfl, rfl, hown⟩
    obtain ⟨hxe, hys, hyn⟩ := blks_at hxs
    obtain ⟨rfl, rfl⟩ : ib = ys.length ∧ cs = chunk xs ys.length := by simpa using hxe
    obtain ⟨i, hi⟩ : ∃ i, ys.length = i := ⟨_, rfl⟩
    rw [hi, Hn.out] at hyn
    have hcl := chunk_length xs ys.length
    rw [Hn.out, hi] at hcl
    dsimp only at hown ⊢
    rw [hi] at hown ⊢
    obtain ⟨mb, hmb⟩ : ∃ mb, (chunk xs i).length = mb := ⟨_, rfl⟩
    rw [hmb] at hown hcl ⊢
    have hm : m = 32 * i := by rw [hI.len, hi, Hn.out]; omega
    have HG := Lib.hid hG
    have HDG := Lib.hid hDG
    have Hown := Lib.hid hown
    have HL := Lib.hid hmb
    have HI := Lib.hid hI
    have Hi := Lib.hid hi
    have Hcl := Lib.hid hcl
    have hs5 := Hs5.out
    have hwb := Hwb.out
    have hmb1 : ¬ (mb : Int) < 1 := by omega
    have hmb2 : ¬ (32 : Int) < (mb : Int) := by omega
    have hmi : ((i : Int) * 32 != (m : Int)) = false := by rw [hm]; simp; omega
    have hil : i ≤ 140737488351232 := by omega
    clear hI hG hDG hown hmb hxs hxe hys hi hcl
    gi_wp2_with fail
    refine ⟨Only.refl _ _, fun A2 o2 hs2 => ?_⟩
    have HI2 := Lib.hid (HI.out.only' o2 (fun t ht => by
      obtain rfl := List.mem_singleton.1 ht
      exact ⟨fun hm => (HDG.out _ (List.mem_append_left _ hm)).1 rfl, by omega, by omega⟩))
    have hown2 := Hown.out.only o2 (fun x hx hm => by
      obtain rfl := List.mem_singleton.1 hm
      exact (HDG.out _ (List.mem_append_right _ (ownBlk hx))).1 rfl)
    have Hown2 := Lib.hid hown2
    have cz := HI2.out.rz.cell (i := 0) rfl
    have fz := HI2.out.rz.free 0
    have cx := HI2.out.rx.cell (i := 0) rfl
    rw [decide_eq_false (by rw [Hi.out, Hn.out]; omega)] at cz
    have oZ : Only [Z] A2 (A2.setCell ⟨Z, 0, none⟩ (.bool (decide ((mb : Int) < 32)))) := Only.setCell A2 ⟨Z, 0, none⟩ _
    obtain ⟨A3, hA3⟩ : ∃ A3, A3 = A2.setCell ⟨Z, 0, none⟩ (.bool (decide ((mb : Int) < 32))) := ⟨_, rfl⟩
    rw [← hA3] at oZ
    have hne := HI2.out.ne
    have rz3 : Row A3 Z 4 [.bool (decide ((mb : Int) < 32))] := by rw [hA3]; exact HI2.out.rz.setCell 0 _
    have rx3 := HI2.out.rx.only oZ (by simp; exact hne.2.2.2.1)
    have rr3 := HI2.out.rr.only oZ (by simp; exact hne.2.2.2.2.2)
    have own3 := HI2.out.own.only oZ (fun x hx hm => by obtain rfl := List.mem_singleton.1 hm; exact hne.2.1 (ownBlk hx))
    rw [Hi.out] at own3
    have hown3 := hown2.only oZ (fun x hx hm => by
      obtain rfl := List.mem_singleton.1 hm
      have h1 := (HG.out _ (ownBlk hx)).1
      rw [HI2.out.d] at h1
      simp at h1)
    have cx3 := rx3.cell (i := 0) rfl
    obtain ⟨q', k', A4, hra, own4, o4, hq4⟩ := append_owned (P := Tryd.prog) (bytes := 1) (c := kb2) (q := qb) (m := mb) (news := u8s (chunk xs i)) (t := 22) (ty := 22) A3 Tryd.underlying22 infoU8o rfl own3 hown3.view.1 (by rw [u8s_length, HL.out]) hown3.view.2.2.1 (fun v hv => u8s_one hv) (by omega) (by omega) (by have := HI2.out.only.size; have := oZ.size; omega)
    rw [← u8s_append, take_chunk] at own4
    have rx4 := rx3.only o4 hne.1
    have rz4 := rz3.only o4 hne.2.1
    have rr4 := rr3.only o4 hne.2.2.1
    have cx4 := rx4.cell (i := 0) rfl
    have fx4 := rx4.free 0
    have oX : Only [X] A4 (A4.setCell ⟨X, 0, none⟩ (.slice q' (m + mb) k')) := Only.setCell A4 ⟨X, 0, none⟩ _
    have hXl := rx3.lt
    have hZl := rz3.lt
    have hRl := rr3.lt
    have hq4' : ∀ x ∈ blk q', x ∈ blk q ∨ A3.heap.size ≤ x := fun x hx => by
      rcases hq4 with rfl | ⟨g', rfl, hg'⟩
      · exact .inl hx
      · simp [blk] at hx; subst hx; exact .inr hg'
    have hnX : X ∉ blk q' := fun hm => (hq4' X hm).elim hne.1 (fun h => by omega)
    have hnZ : Z ∉ blk q' := fun hm => (hq4' Z hm).elim hne.2.1 (fun h => by omega)
    have hnR : w0.heap.size ∉ blk q' := fun hm => (hq4' _ hm).elim hne.2.2.1 (fun h => by omega)
    have hsh : decide ((mb : Int) < 32) = decide (xs.length < 32 * (i + 1)) := by
      have := Hcl.out
      rw [Hn.out]
      by_cases h : (mb : Int) < 32
      · rw [decide_eq_true h, decide_eq_true (by omega)]
      · rw [decide_eq_false h, decide_eq_false (by omega)]
    have hlo := HI2.out.lo
    have HE : Hid (∃ S D', Only S A2 (A4.setCell ⟨X, 0, none⟩ (.slice q' (m + mb) k')) ∧ (∀ s ∈ S, s ∈ D ++ blk qb ∨ A.heap.size ≤ s) ∧ (∀ d ∈ D', (d ∈ D ++ blk qb ∨ A.heap.size ≤ d) ∧ d < (A4.setCell ⟨X, 0, none⟩ (.slice q' (m + mb) k')).heap.size) ∧ ∃ q2 m2 k2, WholeI w0 xs X Z w0.heap.size (ys ++ [(i, chunk xs i)]) D' (A4.setCell ⟨X, 0, none⟩ (.slice q' (m + mb) k')) q2 m2 k2) := Lib.hid (by
      have hD : D = X :: Z :: blk q := HI2.out.d
      have hOall : Only (X :: Z :: blk q) A2 (A4.setCell ⟨X, 0, none⟩ (.slice q' (m + mb) k')) := ((oZ.mono (by simp)).trans o4 (fun i hi _ => by simp [hi])).trans oX (fun i hi _ => by simp at hi; simp [hi])
      have hsz : (A4.setCell ⟨X, 0, none⟩ (.slice q' (m + mb) k')).heap.size = A4.heap.size := by simp [World.setCell]
      have ho4 := o4.size
      have ho3 := oZ.size
      refine ⟨X :: Z :: blk q, X :: Z :: blk q', hOall, fun x hx => .inl (List.mem_append_left _ (by rw [hD]; exact hx)), fun d hd => ?_, q', m + mb, k', ?_⟩
      · rw [hsz]
        simp only [List.mem_cons] at hd
        rcases hd with rfl | rfl | hd
        · exact ⟨.inl (List.mem_append_left _ (by rw [hD]; simp)), by omega⟩
        · exact ⟨.inl (List.mem_append_left _ (by rw [hD]; simp)), by omega⟩
        · refine ⟨?_, blkLt own4 d hd⟩
          rcases hq4' d hd with h | h
          · exact .inl (List.mem_append_left _ (by rw [hD]; simp [h]))
          · exact .inr (by omega)
      · have hl1 : (ys ++ [(i, chunk xs i)]).length = i + 1 := by rw [List.length_append, Hi.out]; rfl
        refine ⟨rfl, rx4.setCell 0 _, ?_, rr4.only oX (by simp; exact hne.2.2.2.2.1), ?_, ?_, ⟨hnX, hnZ, hnR, hne.2.2.2.1, hne.2.2.2.2.1, hne.2.2.2.2.2⟩, hlo, HI2.out.only.transN hOall (fun t ht => ?_)⟩
        · rw [hl1, ← hsh]; exact rz4.only oX (by simp; exact fun e => hne.2.2.2.1 e.symm)
        · rw [hl1]; exact own4.only oX (fun x hx hm => by obtain rfl := List.mem_singleton.1 hm; exact hnX (ownBlk hx))
        · rw [hl1, Hn.out]; have := Hcl.out; omega
        · simp only [List.mem_cons] at ht
          rcases ht with rfl | rfl | ht
          · exact hlo.1
          · exact hlo.2.1
          · exact blkGe HI2.out.own _ ht)
    have Hr := Lib.hid hra
    rw [hA3] at Hr cx3
    clear hown2 oZ rz3 rx3 rr3 own3 hown3 hra own4 o4 hq4 rx4 rz4 rr4 oX hq4' hnX hnZ hnR hsh hlo hA3 hXl hZl hRl hne hm
    gi_wp2_with (first | (gi_at_builtin; refine wpli_append (s := .tmp 35) (x := .tmp 36) (fun _ => trivial) rfl rfl rfl rfl Hr.out ?_))
    exact HE.out
end Go.Proofs.YtfoplbolbjcggaaDoor
