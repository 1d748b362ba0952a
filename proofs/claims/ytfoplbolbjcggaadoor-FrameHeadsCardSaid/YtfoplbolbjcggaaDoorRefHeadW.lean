/- The walk of bollardref06.Head of a good frame. -/
import Derived.Test.YtfoplbolbjcggaaDoorSplitGoodW
import Derived.Test.YtfoplbolbjcggaaDoorRefReaderW
import Derived.Test.YtfoplbolbjcggaaDoorWires
import Derived.Test.YtfoplbolbjcggaaDoorRefInFormW
import Derived.Test.YtfoplbolbjcggaaDoorRegions
import Derived.Deep.DeepCutAuto
import Derived.Deep.Cut
set_option linter.unusedVariables false
set_option maxRecDepth 100000
namespace Go.Proofs.YtfoplbolbjcggaaDoor
open Go.RowKit Go.Shelf

def slen : Value → Nat
  | .slice _ n _ => n
  | _ => 0
def ivs (l : List Nat) : List Value := l.map fun (x : Nat) => Value.int .i64 (x : Int)
theorem ivs_length (l : List Nat) : (ivs l).length = l.length := by simp [ivs]
theorem ivs_one {l : List Nat} {v : Value} (h : v ∈ ivs l) : v.oneCell' = true := by
  obtain ⟨x, _, rfl⟩ := List.mem_map.1 h
  rfl
theorem infoIntR : (Tryd.prog.info? 3).map (fun i => (i.zero, i.size, i.bytes)) = some (some (.int .i64 0), 1, 8) := by kernel_rfl
theorem push_iv {wr : World} {base k m : Nat} {p : Option Addr} (l : List Nat) (x : Nat) (hm : l.length = m) (o : Own wr base 3 (.slice p m k) (ivs l)) (hb : base ≤ wr.heap.size) (hl : m ≤ 1000) :
    ∃ p' k' w2, Hid ((Builtin.append_ #[94, 94] 94 #[.slice p m k, .slice (some ⟨wr.heap.size, 0, none⟩) 1 1]).run Tryd.prog (wr.alloc (.cells #[.int .i64 (x : Int)] 3)) = .ok (.slice p' (m + 1) k') w2) ∧
      Own w2 base 3 (.slice p' (m + 1) k') (ivs (l ++ [x])) ∧ Only (blk p) wr w2 := by
  have on := Only.alloc wr (.cells #[.int .i64 (x : Int)] 3)
  have rn := Row.new wr 3 (ivs [x])
  obtain ⟨p', c', w2, hr, o2, h2, hp⟩ := append_owned (P := Tryd.prog) (n := m) (m := 1) (bytes := 8) (q := some ⟨wr.heap.size, 0, none⟩) (c := 1) (news := ivs [x]) (t := 94) (ty := 94) _ Tryd.underlying94 infoIntR rfl (o.only0 on) rn.rd0 (by rfl) (by simp) (fun v hv => ivs_one hv) (by omega) (by omega) (Nat.le_trans hb on.size)
  refine ⟨p', c', w2, Lib.hid hr, ?_, (on.mono (by simp)).trans h2 (fun i hi _ => hi)⟩
  unfold ivs at o2 ⊢
  rw [List.map_append]
  exact o2

structure RhI (w0 : World) (fs hd : List UInt8) (ns : List Nat) (p : Option Addr) (n c G1 G2 : Nat) (q4 : Option Addr) (L k4 at_ B0 j : Nat) (q : Option Addr) (k : Nat) (w : World) : Prop where
  own : Own w B0 3 (.slice q j k) (ivs (ns.take j))
  r1 : Rf w G1 p n c fs at_
  r2 : Rf w G2 q4 L k4 hd (offs ns j)
  st : Row w w0.heap.size 67 (stCells st0z)
  lo : B0 ≤ w.heap.size
  only : Only [] w0 w

set_option maxHeartbeats 16000000 in
theorem refHead_any (s : Stp) (hs : stOk s) (N : Nat) (hN : N ≤ 1024) (rest fs : List UInt8) (p : Option Addr) (n c : Nat) (w0 : World) (hfs : topB s N ++ rest = fs) (hn : fs.length = n) (hnc : n ≤ c) (hb : n ≤ 140737488351232) (hc63 : c ≤ 9223372036854775807) (hp : p = none → n = 0 ∧ c = 0) (hx : Rd w0 p (u8s fs)) (hpl : ∀ a, p = some a → a.block < w0.heap.size) :
    Calls Tryd.prog 31 #[.slice p n c] w0 fun e w' => e = .returned (.tuple #[stV s, .int .i64 (N : Int), .int .i64 ((topB s N).length : Int), .int .i64 0]) ∧ Only [] w0 w' := by
  have hhl := headB_length hs (n := N) (by omega)
  have hns := headNs_lt hs (n := N) (by omega)
  have htl : (topB s N).length = (headB s N).length + 5 := by
    unfold topB
    rw [List.length_append, sealB_length, nb_lo (by omega)]
    simp; omega
  have hfl : n = (headB s N).length + 5 + rest.length := by rw [← hn, ← hfs, List.length_append, htl]
  have hsay : Says (fs.drop 0) ((headB s N).length + 4) 1 := by
    refine ⟨by omega, ?_, by rw [List.drop_zero]; omega⟩
    rw [List.drop_zero, ← hfs]
    unfold topB
    rw [nb_lo (by omega)]
    rfl
  have hlist : (fs.drop (0 + 1)).take ((headB s N).length + 4) = sealB (headB s N) := by
    rw [← hfs]
    unfold topB
    rw [nb_lo (by omega)]
    show ((sealB (headB s N) ++ rest)).take ((headB s N).length + 4) = _
    exact List.take_left' (sealB_length _)
  rw [htl]
  obtain ⟨w1, hw1⟩ : ∃ w1, w1 = w0.alloc (.cells #[.int .i64 0, .int .i64 0, .int .i64 0, .int .i64 0, .int .i64 0] 67) := ⟨_, rfl⟩
  have o1 : Only [] w0 w1 := by rw [hw1]; exact Only.alloc _ _
  have r1 : Row w1 w0.heap.size 67 (stCells st0z) := by rw [hw1]; exact Row.newOf _ _ _ _ rfl
  obtain ⟨w2, hw2⟩ : ∃ w2, w2 = w1.alloc (.cells #[.slice p n c, .int .i64 0] 126) := ⟨_, rfl⟩
  have o2 : Only [] w1 w2 := by rw [hw2]; exact Only.alloc _ _
  have hR2 : Rf w2 w1.heap.size p n c fs 0 := by
    refine ⟨by rw [hw2]; exact Row.newOf _ _ _ _ rfl, (hx.only0 o1).only0 o2, hn, hnc, hc63, hp, fun _ a ha => ?_, Nat.zero_le _⟩
    have := hpl a ha; have := o1.size; omega
  obtain ⟨L, hL⟩ : ∃ L, L = (headB s N).length := ⟨_, rfl⟩
  rw [← hL] at hsay hlist htl hfl hhl ⊢
  have hG1 : w0.heap.size < w1.heap.size := r1.lt
  have hG1' : w1.heap.size < w2.heap.size := hR2.1.lt
  have hby := rfBy_says w2 w1.heap.size p fs n c 0 (L + 4) 1 256 hR2 hb hsay
  rw [hlist] at hby
  have hG1e : w1.heap.size = w0.heap.size + 1 := by rw [hw1]; simp
  rw [hG1e] at hby hG1'
  clear hG1
  have HG1' : Hid (w0.heap.size + 1 < w2.heap.size) := Lib.hid hG1'
  have HG1e := Lib.hid hG1e
  have HL := Lib.hid hL
  have Hhl := Lib.hid hhl
  have HO2 := Lib.hid (o1.trans0 o2)
  have HR2 := Lib.hid (r1.only0 o2)
  have Hw1 := Lib.hid hw1
  have Hw2 := Lib.hid hw2
  have Hns := Lib.hid hns
  have Hs := Lib.hid hs
  have Hfl := Lib.hid hfl
  clear hsay hlist o1 r1 hw1 o2 hw2 hR2 hL hs hns htl hfs hfl hhl hG1e hG1'
  go_enter Tryd.func31, Tryd.ntmps31
  go_wp2_with fail
  rw [← Hw1.out, ← Hw2.out]
  clear Hw1 Hw2
  refine hby.mono ?_
  clear hby
  rintro e w3 ⟨hcase, o3⟩
  obtain ⟨⟨q3, k3, rfl, own3⟩, hR3⟩ := hcase.yes ⟨by have := Hhl.out; omega, by have := Hfl.out; omega⟩
  clear hcase
  have hv3 := own3.view
  have hO3 : Only [] w0 w3 := HO2.out.transN o3 (fun t ht => by obtain rfl := List.mem_singleton.1 ht; omega)
  have htk : (sealB (headB s N)).take L = headB s N := by unfold sealB; exact List.take_left' HL.out.symm
  have hop := refOpen_long q3 (sealB (headB s N)) (L + 4) k3 true w3 (by rw [sealB_length, ← HL.out]) hv3.2.2.2.1 (by have := Hhl.out; omega) hv3.2.2.2.2.1 hv3.1 (by omega) (by
    rw [Nat.add_sub_cancel, htk]; simp)
  rw [Nat.add_sub_cancel, htk] at hop
  simp only [↓reduceIte] at hop
  have HO3 := Lib.hid hO3
  have HR3 := Lib.hid (HR2.out.only o3 (fun hm => by have := List.mem_singleton.1 hm; omega))
  have HRd3 := Lib.hid hR3
  have hs23 := o3.size
  clear own3 hv3 hR3 o3 hO3 htk
  go_wp2_with fail
  refine hop.mono ?_
  clear hop
  rintro e w4 ⟨⟨q4, k4, rfl, own4⟩, o4⟩
  have hv4 := own4.view
  obtain ⟨w5, hw5⟩ : ∃ w5, w5 = w4.alloc (.cells #[.slice q4 L k4, .int .i64 0] 126) := ⟨_, rfl⟩
  have o5 : Only [] w4 w5 := by rw [hw5]; exact Only.alloc _ _
  have hR5 : Rf w5 w4.heap.size q4 L k4 (headB s N) 0 := by
    refine ⟨by rw [hw5]; exact Row.newOf _ _ _ _ rfl, hv4.1.only0 o5, HL.out.symm, hv4.2.2.2.1, hv4.2.2.2.2.1, hv4.2.2.1, fun _ a ha => ?_, Nat.zero_le _⟩
    have := hv4.2.2.2.2.2 a ha; omega
  have hq4 : ∀ a, q4 = some a → a.block < w4.heap.size := fun a ha => (hv4.2.2.2.2.2 a ha).2
  have hG2e : w5.heap.size = w4.heap.size + 1 := by rw [hw5]; simp
  have hs34 := o4.size
  obtain ⟨w6, hw6⟩ : ∃ w6, w6 = w5.alloc (.cells #[] 3) := ⟨_, rfl⟩
  have o6 : Only [] w5 w6 := by rw [hw6]; exact Only.alloc _ _
  have own6 : Own w6 w5.heap.size 3 (.slice (some ⟨w5.heap.size, 0, none⟩) 0 0) (ivs []) := by rw [hw6]; exact Own.ofRow (vs := []) (rest := []) (Nat.le_refl _) (Row.new w5 _ _) rfl (by omega)
  rw [hG2e] at own6
  have HI0 : Hid (RhI w0 fs (headB s N) (headNs s N) p n c (w0.heap.size + 1) w4.heap.size q4 L k4 (0 + 1 + (L + 4)) (w4.heap.size + 1) 0 (some ⟨w4.heap.size + 1, 0, none⟩) 0 w6) := Lib.hid ⟨own6, ((HRd3.out.only0 o4).only0 o5).only0 o6, hR5.only0 o6, ((HR3.out.only0 o4).only0 o5).only0 o6, by rw [← hG2e]; exact o6.size, ((HO3.out.trans0 o4).trans0 o5).trans0 o6⟩
  have Hw5 := Lib.hid hw5
  have Hw6 := Lib.hid hw6
  have Hq4 := Lib.hid hq4
  obtain ⟨na, hna⟩ := Int.eq_ofNat_of_zero_le Hs.out.n0
  obtain ⟨nbt, hnb⟩ := Int.eq_ofNat_of_zero_le Hs.out.b0
  obtain ⟨nq, hnq⟩ := Int.eq_ofNat_of_zero_le Hs.out.q0
  obtain ⟨nh, hnh⟩ := Int.eq_ofNat_of_zero_le Hs.out.h0
  obtain ⟨nz, hnz⟩ := Int.eq_ofNat_of_zero_le Hs.out.z0
  have Hsv : Hid (stV s = .agg #[.int .i64 (na : Int), .int .i64 (nbt : Int), .int .i64 (nq : Int), .int .i64 (nh : Int), .int .i64 (nz : Int)]) := Lib.hid (by unfold stV; rw [hna, hnb, hnq, hnh, hnz])
  have Hsc : Hid (stCells s = [.int .i64 (na : Int), .int .i64 (nbt : Int), .int .i64 (nq : Int), .int .i64 (nh : Int), .int .i64 (nz : Int)]) := Lib.hid (by unfold stCells; rw [hna, hnb, hnq, hnh, hnz])
  have HNs : Hid (headNs s N = [1, na, nbt, nq, nh, nz, N]) := Lib.hid (by unfold headNs; rw [hna, hnb, hnq, hnh, hnz]; rfl)
  clear hna hnb hnq hnh hnz own4 hv4 o4 o5 hR5 o6 own6 hw5 hw6 hq4 hG2e HRd3 HR3 HO3 HR2 HO2
  go_wp2_with fail
  rw [← Hw5.out, ← Hw6.out]
  clear Hw5 Hw6
  generalize hB0 : w4.heap.size + 1 = B0 at *
  generalize hG2e : w4.heap.size = G2 at *
  generalize hG1e : w0.heap.size + 1 = G1 at *
  have hG12 : G1 < G2 := by have := HG1'.out; omega
  have hX1 : w0.heap.size < G1 := by omega
  have hGB : G2 < B0 := by omega
  clear hB0 hG1e hG2e hs23 hs34
  go_loopw [11] (fun a wr => ∃ (j : Nat) (q : Option Addr) (k : Nat), a = .slice q j k ∧ j ≤ 7 ∧ Hid (RhI w0 fs (headB s N) (headNs s N) p n c G1 G2 q4 L k4 (0 + 1 + (L + 4)) B0 j q k wr)) (fun a _ => 7 - slen a)
  case atStart => exact ⟨0, _, _, rfl, by omega, HI0⟩
  case round =>
    clear HI0
    obtain ⟨j, q, k, rfl, hj, HI⟩ := hrel
    by_cases hlt : j < 7
    · have hji : (j : Int) < 7 := by omega
      obtain ⟨x, hxj⟩ : ∃ x, (headNs s N)[j]? = some x := ⟨_, List.getElem?_eq_getElem (by simpa [headNs] using hlt)⟩
      have hx40 := Hns.out x (List.mem_of_getElem? hxj)
      obtain ⟨hsy, hof, hole⟩ := says_at hxj (by omega)
      have hnm := rfNum_says wr G2 q4 (headB s N) L k4 (offs (headNs s N) j) x (nb x).length 1099511627776 HI.out.r2 (by have := Hhl.out; omega) hsy
      rw [← hof] at hnm
      have Hxj := Lib.hid hxj
      have Hx40 : Hid ((x : Int) ≤ 1099511627776) := Lib.hid (by omega)
      clear hxj hsy hof hole hx40
      go_wp2_with fail
      refine hnm.mono ?_
      clear hnm
      rintro e w7 ⟨hcase, o7⟩
      obtain ⟨rfl, hR7⟩ := hcase.yes Hx40.out
      clear hcase
      have hlo := HI.out.lo
      have hs7 := o7.size
      have own7 := HI.out.own.only o7 (fun k hk hm => by have := (HI.out.own.lt k hk).1; have := List.mem_singleton.1 hm; omega)
      have st7 := HI.out.st.only o7 (fun hm => by have := List.mem_singleton.1 hm; omega)
      have r17 := HI.out.r1.only o7 (fun hm => by have := List.mem_singleton.1 hm; omega) (fun _ a ha hm => by have := hpl a ha; have := List.mem_singleton.1 hm; omega)
      have hO7 := HI.out.only.transN o7 (fun t ht => by have := List.mem_singleton.1 ht; omega)
      obtain ⟨p8, k8, w8, Hr8, own8, o8⟩ := push_iv ((headNs s N).take j) x (by rw [List.length_take]; simp [headNs]; omega) own7 (by omega) (by omega)
      have hge : ∀ t ∈ blk q, B0 ≤ t := fun t ht => blkGe own7 t ht
      have HI8 : Hid (RhI w0 fs (headB s N) (headNs s N) p n c G1 G2 q4 L k4 (0 + 1 + (L + 4)) B0 (j + 1) p8 k8 w8) := Lib.hid ⟨by
          rw [List.take_add_one, Hxj.out]; exact own8, r17.only o8 (fun hm => by have := hge _ hm; omega) (fun _ a ha hm => by have := hge _ hm; have := hpl a ha; omega), hR7.only o8 (fun hm => by have := hge _ hm; omega) (fun _ a ha hm => by have := hge _ hm; have := Hq4.out a ha; omega), st7.only o8 (fun hm => by have := hge _ hm; omega), by have := o8.size; omega, hO7.transN o8 (fun t ht => by have := hge _ ht; omega)⟩
      clear own7 st7 r17 hO7 own8 o8 hge HI hR7 o7 hlo hs7
      go_wp2_with (first | (at_builtin; refine wpl_append (s := .tmp 52) (x := .tmp 54) rfl rfl rfl rfl Hr8.out ?_))
      refine ⟨⟨j + 1, p8, k8, rfl, by omega, HI8⟩, ?_⟩
      show 7 - (j + 1) < 7 - j
      omega
    · obtain rfl : j = 7 := by omega
      have own7 := HI.out.own
      rw [HNs.out, List.take_of_length_le (by simp)] at own7
      obtain ⟨g, rfl, hg1, hg2⟩ := own7.at (by omega)
      have c0 := own7.cellAt (i := 0) rfl
      have c1 := own7.cellAt (i := 1) rfl
      have c2 := own7.cellAt (i := 2) rfl
      have c3 := own7.cellAt (i := 3) rfl
      have c4 := own7.cellAt (i := 4) rfl
      have c5 := own7.cellAt (i := 5) rfl
      have hoff : offs (headNs s N) 7 = L := by rw [HL.out]; rfl
      obtain ⟨wt, hwt⟩ : ∃ wt, wt = (wr.alloc (.cells #[.int .i64 (na : Int), .int .i64 (nbt : Int), .int .i64 (nq : Int), .int .i64 (nh : Int), .int .i64 (nz : Int)] 67)).drew := ⟨_, rfl⟩
      have ot : Only [] wr wt := by rw [hwt]; exact (Only.alloc _ _).trans0 (Only.drew _)
      have rt : Row wt wr.heap.size 67 (stCells s) := by rw [hwt, Hsc.out]; exact (Row.newOf _ _ _ _ rfl).only0 (Only.drew _)
      have Hwt := Lib.hid hwt
      have Hot := Lib.hid ot
      have Hrt := Lib.hid rt
      have Hown7 := Lib.hid own7
      have Hoff := Lib.hid hoff
      have hXt : w0.heap.size < wr.heap.size := HI.out.st.lt
      have hgt : g < wr.heap.size := (own7.lt _ rfl).2
      clear hwt ot rt own7 hoff
      go_wp2_with fail
      go_region
      rw [← Hwt.out]
      clear c0 c1 c2 c3 c4 c5 Hwt
      have c0 := (Hown7.out.only0 Hot.out).cellAt (i := 0) rfl
      have r2t := HI.out.r2.only0 Hot.out
      rw [Hoff.out] at r2t
      have g1 := r2t.1.cell (i := 1) rfl
      have k0 := Hrt.out.cell (i := 0) (v := .int .i64 (na : Int)) (by rw [Hsc.out]; rfl)
      have k1 := Hrt.out.cell (i := 1) (v := .int .i64 (nbt : Int)) (by rw [Hsc.out]; rfl)
      have k2 := Hrt.out.cell (i := 2) (v := .int .i64 (nq : Int)) (by rw [Hsc.out]; rfl)
      have k3' := Hrt.out.cell (i := 3) (v := .int .i64 (nh : Int)) (by rw [Hsc.out]; rfl)
      have k4' := Hrt.out.cell (i := 4) (v := .int .i64 (nz : Int)) (by rw [Hsc.out]; rfl)
      have hif : Calls Tryd.prog 29 #[stV s] wt fun e w' => e = .returned (.bool true) ∧ Only [] wt w' := (refInForm_any s wt).mono (fun e w' h => ⟨by rw [h.1, decide_eq_true Hs.out], h.2⟩)
      rw [Hsv.out] at hif
      clear r2t
      go_wp2_with fail
      refine hif.mono ?_
      clear hif k0 k1 k2 k3' k4' c0 g1
      rintro e wA ⟨rfl, oA⟩
      have HoA := Lib.hid (Hot.out.trans0 oA)
      have HrtA := Lib.hid (Hrt.out.only0 oA)
      have k0 := HrtA.out.cell (i := 0) (v := .int .i64 (na : Int)) (by rw [Hsc.out]; rfl)
      have k1 := HrtA.out.cell (i := 1) (v := .int .i64 (nbt : Int)) (by rw [Hsc.out]; rfl)
      have k2 := HrtA.out.cell (i := 2) (v := .int .i64 (nq : Int)) (by rw [Hsc.out]; rfl)
      have k3' := HrtA.out.cell (i := 3) (v := .int .i64 (nh : Int)) (by rw [Hsc.out]; rfl)
      have k4' := HrtA.out.cell (i := 4) (v := .int .i64 (nz : Int)) (by rw [Hsc.out]; rfl)
      have c6 := (Hown7.out.only0 HoA.out).cellAt (i := 6) rfl
      have a1 := (HI.out.r1.only0 HoA.out).1.cell (i := 1) rfl
      have hN1 : ¬ (1024 : Int) < (N : Int) := by omega
      have HXn : Hid (wr.heap.size ∉ [w0.heap.size]) := Lib.hid (by simp; omega)
      have HGn : Hid (g ∉ [w0.heap.size]) := Lib.hid (by simp; omega)
      have HG1n : Hid (G1 ∉ [w0.heap.size]) := Lib.hid (by simp; omega)
      clear oA
      go_upto_region 18 with (fail)
      have hRr : ∀ a, Only [w0.heap.size] a a := fun a => Only.refl _ _
      have hRt : ∀ a b e, Only [w0.heap.size] a b → Only [w0.heap.size] b e → Only [w0.heap.size] a e := fun a b e h h2 => h.trans h2 (fun i hi _ => hi)
      have hRd : Only [w0.heap.size] wA wA.drew := (Only.drew _).mono (by simp)
      have hC0 : ∀ d ∈ [8], (fun (_ : Nat) (a : World) => Row a w0.heap.size 67 (stCells st0z)) d wA.drew := fun _ _ => (HI.out.st.only0 HoA.out).only0 (Only.drew _)
      -- <<R18
      refine wp_region_rg4 (Only [w0.heap.size]) (Dirt [(8, [w0.heap.size])]) (fun (_ : Nat) (a : World) => Row a w0.heap.size 67 (stCells st0z)) [8] [[(14, none)], [(11, none)], [(99, some 0)], [(100, some 0)], [(6, none)], [(102, some 0)], [(103, some 0)], [(104, some 0)], [(2, none), (98, some 7)], [(101, some 5)], [(105, some 2)], []] [(3, 2), (4, 1), (5, 0)] [none, none, none, some 3, some 4, some 5, none, none, none, none, none, none, none, none, none, none, none, none, none, none, none, none, none, none, none, none, none, none, none, none, none, none, none, none, none, none, none, none, none, none, none, none, none, none, none, none, none, none, none, none, none, none, none, none, none, none, none, none, none, none, none, none, none, none, none, none, none, none, none, none, none, none, none, none, none, none, none, none, none, none, none, none, none, none, none, none, none, none, none, none, none, none, none, none, none, none, none, none, some 98, some 99, some 100, some 101, some 102, some 103, some 104, some 105] (by kernel_rfl) rfl (by kernel_rfl) hRr hRt (fun _ _ => Only.refl _ _) hRd hC0 (by kernel_rfl) (by kernel_rfl) ?_
      -- 0: s98 := load 67 t14
      apply rgd_ev
      · intro a w hR hC hf
        obtain ⟨e14, -⟩ := hf
        replace e14 : a.tmps.getD 14 undef = _ := e14
        refine rg_plain rfl fun K hK => ?_
        have h0 := hR.cell k0 HXn.out
        have h1 := hR.cell k1 HXn.out
        have h2 := hR.cell k2 HXn.out
        have h3 := hR.cell k3' HXn.out
        have h4 := hR.cell k4' HXn.out
        go_simp
        exact hK _ _ rfl ⟨hRr _, Only.refl _ _, fun _ _ _ _ h => h⟩
      -- 1: s99 := move t11
      apply rgd_ev
      · intro a w hR hC hf
        obtain ⟨e11, -⟩ := hf
        replace e11 : a.tmps.getD 11 undef = _ := e11
        refine rg_plain rfl fun K hK => ?_
        go_simp
        exact hK _ _ rfl ⟨hRr _, Only.refl _ _, fun _ _ _ _ h => h⟩
      -- 2: s100 := indexAddr 94 t99 (const (6:i64))
      apply rgd_ev
      · intro a w hR hC hf
        obtain ⟨e99, -⟩ := hf
        replace e99 : a.tmps.getD 99 undef = _ := e99
        refine rg_plain rfl fun K hK => ?_
        go_simp
        exact hK _ _ rfl ⟨hRr _, Only.refl _ _, fun _ _ _ _ h => h⟩
      -- 3: s101 := load 3 t100
      apply rgd_ev
      · intro a w hR hC hf
        obtain ⟨e100, -⟩ := hf
        replace e100 : a.tmps.getD 100 undef = _ := e100
        refine rg_plain rfl fun K hK => ?_
        have h6 := hR.cell c6 HGn.out
        go_simp
        exact hK _ _ rfl ⟨hRr _, Only.refl _ _, fun _ _ _ _ h => h⟩
      -- 4: s102 := move t6
      apply rgd_ev
      · intro a w hR hC hf
        obtain ⟨e6, -⟩ := hf
        replace e6 : a.tmps.getD 6 undef = _ := e6
        refine rg_plain rfl fun K hK => ?_
        go_simp
        exact hK _ _ rfl ⟨hRr _, Only.refl _ _, fun _ _ _ _ h => h⟩
      -- 5: s103 := nilCheck t102
      apply rgd_ev
      · intro a w hR hC hf
        obtain ⟨e102, -⟩ := hf
        replace e102 : a.tmps.getD 102 undef = _ := e102
        refine rg_plain rfl fun K hK => ?_
        go_simp
        exact hK _ _ rfl ⟨hRr _, Only.refl _ _, fun _ _ _ _ h => h⟩
      -- 6: s104 := fieldAddr 126 t103 1
      apply rgd_ev
      · intro a w hR hC hf
        obtain ⟨e103, -⟩ := hf
        replace e103 : a.tmps.getD 103 undef = _ := e103
        refine rg_plain rfl fun K hK => ?_
        go_simp
        exact hK _ _ rfl ⟨hRr _, Only.refl _ _, fun _ _ _ _ h => h⟩
      -- 7: s105 := load 3 t104
      apply rgd_ev
      · intro a w hR hC hf
        obtain ⟨e104, -⟩ := hf
        replace e104 : a.tmps.getD 104 undef = _ := e104
        refine rg_plain rfl fun K hK => ?_
        have h7 := hR.cell a1 HG1n.out
        go_simp
        exact hK _ _ rfl ⟨hRr _, Only.refl _ _, fun _ _ _ _ h => h⟩
      -- 8: sNone := store 67 t2 t98
      refine ⟨SetSt w0.heap.size s, stands_of SetSt.stable (by intro x hx hk; obtain rfl := List.mem_singleton.1 hx; simp at hk), fun a w hR hC hf => ?_, ?_⟩
      · obtain ⟨e2, e98, -⟩ := hf
        replace e2 : a.tmps.getD 2 undef = _ := e2
        replace e98 : a.tmps.getD 98 undef = _ := e98
        refine rg_plain rfl fun K hK => ?_
        have hC10 : Row w w0.heap.size 67 (stCells st0z) := hC 8 (by simp) (by kernel_rfl)
        have hst := hC10.storeSt (s' := s)
        rw [Hsv.out] at hst
        refine rg_store rfl e2 e98 hst ?_
        have o := Only.setRow w w0.heap.size (stCells s).toArray
        exact hK _ _ (hC10.setRow (stCells s)) ⟨o, o, fun i hi hne _ _ => absurd (List.mem_singleton.1 hi) hne⟩
      -- 9: s3 := assign t101
      apply rgd_ev
      · intro a w hR hC hf
        obtain ⟨e101, -⟩ := hf
        replace e101 : a.tmps.getD 101 undef = _ := e101
        refine rg_plain rfl fun K hK => ?_
        go_simp
        exact hK _ _ rfl ⟨hRr _, Only.refl _ _, fun _ _ _ _ h => h⟩
      -- 10: s4 := assign t105
      apply rgd_ev
      · intro a w hR hC hf
        obtain ⟨e105, -⟩ := hf
        replace e105 : a.tmps.getD 105 undef = _ := e105
        refine rg_plain rfl fun K hK => ?_
        go_simp
        exact hK _ _ rfl ⟨hRr _, Only.refl _ _, fun _ _ _ _ h => h⟩
      -- 11: s5 := assign (const (0:i64))
      apply rgd_ev
      · intro a w hR hC hf
        refine rg_plain rfl fun K hK => ?_
        go_simp
        exact hK _ _ rfl ⟨hRr _, Only.refl _ _, fun _ _ _ _ h => h⟩
      intro f w hR hf hz
      dsimp only [mergeT]
      obtain ⟨e3, e4, e5, -⟩ := hf
      replace e3 : f 3 = _ := e3
      rw [e3]
      replace e4 : f 4 = _ := e4
      rw [e4]
      replace e5 : f 5 = _ := e5
      rw [e5]
      -- R18>>
      obtain ⟨v10, hrow⟩ := hz _ (List.mem_cons_of_mem _ (List.mem_cons_of_mem _ (List.mem_cons_of_mem _ (List.mem_cons_self ..))))
      have hrow : Row w w0.heap.size 67 (stCells s) := hrow
      have hO : Only [] w0 w := (HI.out.only.trans0 HoA.out).transN hR (by simp)
      clear hz
      go_wp2_with fail
      refine bodyPost_ret (results_st3 rfl _ _ _ s rfl hrow) rfl ⟨?_, hO⟩
      exact congrArg (fun z => Ending.returned (Value.tuple #[stV s, .int .i64 (N : Int), .int .i64 z, .int .i64 0])) (by omega : (1 + ((L : Int) + 4)) = _)
end Go.Proofs.YtfoplbolbjcggaaDoor
