/- The walk of frame.split of what begins as a frame does. -/
import Derived.Test.YtfoplbolbjcggaaDoorSplitW
import Derived.Test.YtfoplbolbjcggaaDoorRegions
import Derived.Deep.DeepCutAuto
import Derived.Deep.Cut
set_option linter.unusedVariables false
set_option maxRecDepth 100000
namespace Go.Proofs.YtfoplbolbjcggaaDoor
open Go.RowKit Go.Shelf

/-- while the numbers of a head are read -/
structure SpI (w0 : World) (fs hd : List UInt8) (ns : List Nat) (F F2 : List Nat) (B B2 G X pl : Nat) (j : Nat) (w : World) : Prop where
  rd : Rr w F B fs pl
  rh : Rr w F2 B2 hd (offs ns j)
  arr : Row w G 118 ((ns.take j).map (fun x => .int .i64 ((x : Nat) : Int)) ++ List.replicate (7 - j) (.int .i64 0))
  st : Row w X 67 (stCells st0z)
  only : Only [] w0 w
theorem SpI.step {w0 w w' : World} {fs hd : List UInt8} {ns F F2 : List Nat} {B B2 G X pl j : Nat} (h : SpI w0 fs hd ns F F2 B B2 G X pl j w) (ho : Only [] w w') : SpI w0 fs hd ns F F2 B B2 G X pl j w' :=
  ⟨h.rd.only0 ho, h.rh.only0 ho, h.arr.only0 ho, h.st.only0 ho, h.only.trans0 ho⟩
theorem arr_set (ns : List Nat) (j x : Nat) (hl : ns.length = 7) (hx : ns[j]? = some x) :
    (((ns.take j).map (fun x => Value.int .i64 ((x : Nat) : Int)) ++ List.replicate (7 - j) (Value.int .i64 0)).set j (Value.int .i64 (x : Int))) = (ns.take (j + 1)).map (fun x => Value.int .i64 ((x : Nat) : Int)) ++ List.replicate (7 - (j + 1)) (Value.int .i64 0) := by
  have hj : j < 7 := by rw [← hl]; exact (List.getElem?_eq_some_iff.1 hx).1
  have hlen : ((ns.take j).map (fun x => Value.int .i64 ((x : Nat) : Int))).length = j := by rw [List.length_map, List.length_take]; omega
  rw [List.set_append_right _ _ (by omega), hlen, Nat.sub_self, List.take_add_one, hx, show 7 - j = (7 - (j + 1)) + 1 by omega, List.replicate_succ]
  simp
def SetSt (X : Nat) (s : Stp) : Value → World → Prop := fun _ w => Row w X 67 (stCells s)
theorem SetSt.stable {X : Nat} {s : Stp} : Stable (Only []) (SetSt X s) := fun _ _ _ h ho => Row.only0 h ho

set_option maxHeartbeats 16000000 in
theorem split_good (s : Stp) (hs : stOk s) (N : Nat) (hN : N ≤ 1024) (rest : List UInt8) (p : Option Addr) (n c : Nat) (w0 : World) (hn : (topB s N ++ rest).length = n) (hnc : n ≤ c) (hb : n ≤ 140737488351232) (hp : p = none → n = 0 ∧ c = 0) (hx : Rd w0 p (u8s (topB s N ++ rest))) (aB : Addr) (hE : ErrAt w0 3 aB) :
    Calls Tryd.prog 65 #[.slice p n c] w0 fun e w' => ∃ r, e = .returned (.tuple #[stV s, .int .i64 (N : Int), .slice r rest.length (c - (n - rest.length)), .nilIface]) ∧ r ≠ none ∧ (∀ w, Rd w p (u8s (topB s N ++ rest)) → Rd w r (u8s rest)) ∧ Only [] w0 w' := by
  have hhl := headB_length hs (n := N) (by omega)
  have hns := headNs_lt hs (n := N) (by omega)
  obtain ⟨fs, hfs⟩ : ∃ fs, fs = topB s N ++ rest := ⟨_, rfl⟩
  rw [← hfs] at hn hx
  have htl : (topB s N).length = (headB s N).length + 5 := by
    unfold topB
    rw [List.length_append, sealB_length, nb_lo (by omega)]
    simp; omega
  have hfl : n = (headB s N).length + 5 + rest.length := by rw [← hn, hfs, List.length_append, htl]
  have hsay : Says (fs.drop 0) ((headB s N).length + 4) 1 := by
    refine ⟨by omega, ?_, by rw [List.drop_zero]; omega⟩
    rw [List.drop_zero, hfs]
    unfold topB
    rw [nb_lo (by omega)]
    rfl
  have hlist : (fs.drop (0 + 1)).take ((headB s N).length + 4) = sealB (headB s N) := by
    rw [hfs]
    unfold topB
    rw [nb_lo (by omega)]
    show ((sealB (headB s N) ++ rest)).take ((headB s N).length + 4) = _
    exact List.take_left' (sealB_length _)
  have hpn : p ≠ none := fun e => by have := (hp e).1; omega
  have hrest : ∀ m, n - rest.length = m → (if c = m then p else p.map fun x => x.add m) ≠ none ∧ (∀ w, Rd w p (u8s (topB s N ++ rest)) → Rd w (if c = m then p else p.map fun x => x.add m) (u8s rest)) := by
    intro m hm
    have hd : (topB s N ++ rest).drop m = rest := List.drop_left' (by omega)
    by_cases hc : c = m
    · rw [if_pos hc]
      refine ⟨hpn, fun w _ => ?_⟩
      have : rest = [] := List.eq_nil_of_length_eq_zero (by omega)
      rw [this]
      exact Rd.nil _ _
    · rw [if_neg hc]
      refine ⟨fun e => ?_, fun w hw => ?_⟩
      · cases hpp : p with
        | none => exact hpn hpp
        | some a => rw [hpp] at e; cases e
      · have := hw.sub m
        unfold u8s at this ⊢
        rw [← List.map_drop, hd] at this
        exact this
  have hnr := newReader p fs n c
  obtain ⟨w1, hw1⟩ : ∃ w1, w1 = w0.alloc (.cells #[.int .i64 0, .int .i64 0, .int .i64 0, .int .i64 0, .int .i64 0] 67) := ⟨_, rfl⟩
  have o1 : Only [] w0 w1 := by rw [hw1]; exact Only.alloc _ _
  have r1 : Row w1 w0.heap.size 67 (stCells st0z) := by rw [hw1]; exact Row.newOf _ _ _ _ rfl
  replace hnr := hnr w1 hn (by omega) hp (hx.only0 o1)
  obtain ⟨L, hL⟩ : ∃ L, L = (headB s N).length := ⟨_, rfl⟩
  rw [← hL] at hsay hlist htl hfl hhl
  have HL := Lib.hid hL
  have Hsay := Lib.hid hsay
  have Hlist := Lib.hid hlist
  have HE := Lib.hid hE
  have HO1 := Lib.hid o1
  have HR1 := Lib.hid r1
  have Hw1 := Lib.hid hw1
  have Hn := Lib.hid hn
  have Hns := Lib.hid hns
  have Hs := Lib.hid hs
  have Hrest := Lib.hid hrest
  have Hfl := Lib.hid hfl
  clear hsay hlist hE o1 r1 hw1 hn hns htl hfs hL hs hfl hx hrest hpn
  go_enter Tryd.func65, Tryd.ntmps65
  go_wp2_with fail
  rw [← Hw1.out]
  refine hnr.mono ?_
  clear hnr Hw1
  rintro e w2 ⟨B, F, rfl, hR2, o2, hF2⟩
  have HF2 : Hid (∀ k ∈ F, w0.heap.size ≤ k) := Lib.hid (fun k hk => by have := hF2 k hk; have := HO1.out.size; omega)
  have HX2 : Hid (w0.heap.size ∉ F) := Lib.hid (fun hm => by have := hF2 _ hm; have := HR1.out.lt; omega)
  have HO2 := Lib.hid (HO1.out.trans0 o2)
  have HR2 := Lib.hid (HR1.out.only0 o2)
  have hfl := Hfl.out
  have hby := rdBy_yes w2 F B fs 0 (L + 4) 1 256 hR2 (by rw [Hn.out]; exact hb) Hsay.out (by omega) (by rw [Hn.out]; omega)
  rw [Hlist.out] at hby
  clear hfl
  have HBF := Lib.hid hR2.head
  clear hR2 o2 hF2
  go_wp2_with fail
  refine hby.mono ?_
  clear hby
  rintro e w3 ⟨⟨q3, k3, rfl, own3⟩, hR3, o3⟩
  have hv3 := own3.view
  have hO3 : Only [] w0 w3 := HO2.out.transN o3 (fun t ht => by obtain rfl := List.mem_singleton.1 ht; exact HF2.out _ HBF.out)
  have hop := open_good q3 (sealB (headB s N)) (L + 4) k3 w3 (by rw [sealB_length, ← HL.out]) hv3.2.2.2.1 (by omega) hv3.2.2.2.2.1 hv3.2.2.1 hv3.1 (by omega) (by
    rw [Nat.add_sub_cancel]
    have : (sealB (headB s N)).take L = headB s N := by unfold sealB; exact List.take_left' HL.out.symm
    rw [this])
  rw [Nat.add_sub_cancel] at hop
  have htk : (sealB (headB s N)).take L = headB s N := by unfold sealB; exact List.take_left' HL.out.symm
  rw [htk] at hop
  have HO3 := Lib.hid hO3
  have HR3 := Lib.hid (HR2.out.only o3 (fun hm => HX2.out (by rw [List.mem_singleton.1 hm]; exact HBF.out)))
  have HRd3 := Lib.hid hR3
  clear own3 hv3 hR3 o3 hO3 htk
  go_wp2_with fail
  refine hop.mono ?_
  clear hop
  rintro e w4 ⟨q4, k4, rfl, own4, o4⟩
  have hv4 := own4.view
  have hnr := newReader q4 (headB s N) L k4 w4 HL.out.symm (by omega) hv4.2.2.1 hv4.1
  have HO4 := Lib.hid (HO3.out.trans0 o4)
  have HR4 := Lib.hid (HR3.out.only0 o4)
  have HRd4 := Lib.hid (HRd3.out.only0 o4)
  clear own4 hv4 o4
  go_wp2_with fail
  refine hnr.mono ?_
  clear hnr
  rintro e w5 ⟨B2, F2, rfl, hR5, o5, hF5⟩
  obtain ⟨w6, hw6⟩ : ∃ w6, w6 = w5.alloc (.cells #[.int .i64 0, .int .i64 0, .int .i64 0, .int .i64 0, .int .i64 0, .int .i64 0, .int .i64 0] 118) := ⟨_, rfl⟩
  have o6 : Only [] w5 w6 := by rw [hw6]; exact Only.alloc _ _
  have r6 : Row w6 w5.heap.size 118 (List.replicate 7 (.int .i64 0)) := by rw [hw6]; exact Row.newOf _ _ _ _ rfl
  have hFl := HRd4.out.lt
  have hBF2 := hR5.head
  have hF2l := hR5.lt
  have hs5 := o5.size
  have hXl := HR4.out.lt
  have HF5 : Hid (∀ k ∈ F2, w0.heap.size ≤ k ∧ k ∉ F ∧ k ≠ w0.heap.size ∧ k ≠ w5.heap.size) := Lib.hid (fun k hk => by
    have h1 := hF5 k hk
    have h2 := HO4.out.size
    have h3 := hF2l k hk
    exact ⟨by omega, fun hm => by have := hFl k hm; omega, by omega, by omega⟩)
  have HGF : Hid (w5.heap.size ∉ F ∧ w0.heap.size ≠ w5.heap.size ∧ w0.heap.size ≤ w5.heap.size) := Lib.hid ⟨fun hm => by have := hFl _ hm; omega, by omega, by have := HO4.out.size; omega⟩
  have HI0 : Hid (SpI w0 fs (headB s N) (headNs s N) F F2 B B2 w5.heap.size w0.heap.size (0 + 1 + (L + 4)) 0 w6) := Lib.hid ⟨(HRd4.out.only0 o5).only0 o6, hR5.only0 o6, r6, (HR4.out.only0 o5).only0 o6, (HO4.out.trans0 o5).trans0 o6⟩
  have Hw6 := Lib.hid hw6
  have HB2F := Lib.hid hBF2
  clear hR5 o5 hF5 hw6 o6 r6 hFl hBF2 hF2l hs5 hXl HRd4 HR4 HO4 HRd3 HR3 HO3 HO2 HR2 HR1 HO1 Hsay Hlist
  obtain ⟨na, hna⟩ := Int.eq_ofNat_of_zero_le Hs.out.n0
  obtain ⟨nbt, hnb⟩ := Int.eq_ofNat_of_zero_le Hs.out.b0
  obtain ⟨nq, hnq⟩ := Int.eq_ofNat_of_zero_le Hs.out.q0
  obtain ⟨nh, hnh⟩ := Int.eq_ofNat_of_zero_le Hs.out.h0
  obtain ⟨nz, hnz⟩ := Int.eq_ofNat_of_zero_le Hs.out.z0
  have Hsv : Hid (stV s = .agg #[.int .i64 (na : Int), .int .i64 (nbt : Int), .int .i64 (nq : Int), .int .i64 (nh : Int), .int .i64 (nz : Int)]) := Lib.hid (by unfold stV; rw [hna, hnb, hnq, hnh, hnz])
  have Hsc : Hid (stCells s = [.int .i64 (na : Int), .int .i64 (nbt : Int), .int .i64 (nq : Int), .int .i64 (nh : Int), .int .i64 (nz : Int)]) := Lib.hid (by unfold stCells; rw [hna, hnb, hnq, hnh, hnz])
  have HNs : Hid (headNs s N = [1, na, nbt, nq, nh, nz, N]) := Lib.hid (by unfold headNs; rw [hna, hnb, hnq, hnh, hnz]; rfl)
  clear hna hnb hnq hnh hnz
  go_wp2_with fail
  rw [← Hw6.out]
  clear Hw6
  generalize w5.heap.size = G at *
  go_loopw [36] (fun a wr => ∃ (j : Nat), a = .int .i64 (j : Int) ∧ j ≤ 7 ∧ Hid (SpI w0 fs (headB s N) (headNs s N) F F2 B B2 G w0.heap.size (0 + 1 + (L + 4)) j wr)) (fun a _ => 7 - (intOf a).toNat)
  case atStart => exact ⟨0, rfl, by omega, HI0⟩
  case round =>
    clear HI0
    obtain ⟨j, rfl, hj, HI⟩ := hrel
    by_cases hlt : j < 7
    · have hji : (j : Int) < 7 := by omega
      obtain ⟨x, hxj⟩ : ∃ x, (headNs s N)[j]? = some x := ⟨_, List.getElem?_eq_getElem (by simpa [headNs] using hlt)⟩
      have hx40 := Hns.out x (List.mem_of_getElem? hxj)
      obtain ⟨hsy, hof, hole⟩ := says_at hxj (by omega)
      have hnm := rdNum_yes wr F2 B2 (headB s N) (offs (headNs s N) j) x (nb x).length 1099511627776 HI.out.rh (by rw [← HL.out]; omega) hsy (by omega)
      rw [← hof] at hnm
      have Hxj := Lib.hid hxj
      clear hxj hsy hof hole
      go_wp2_with fail
      refine hnm.mono ?_
      clear hnm
      rintro e w7 ⟨rfl, hR7, o7⟩
      have hB2 := HF5.out _ HB2F.out
      have rd7 := HI.out.rd.only o7 (fun k hk hm => by obtain rfl := List.mem_singleton.1 hm; exact hB2.2.1 hk)
      have arr7 := HI.out.arr.only o7 (fun hm => hB2.2.2.2 (List.mem_singleton.1 hm).symm)
      have st7 := HI.out.st.only o7 (fun hm => hB2.2.2.1 (List.mem_singleton.1 hm).symm)
      have hO7 := HI.out.only.transN o7 (fun t ht => by obtain rfl := List.mem_singleton.1 ht; exact hB2.1)
      obtain ⟨w8, hw8⟩ : ∃ w8, w8 = w7.setCell ⟨G, j, none⟩ (.int .i64 (x : Int)) := ⟨_, rfl⟩
      have o8 : Only [G] w7 w8 := by rw [hw8]; exact Only.setCell _ ⟨_, _, none⟩ _
      have HI8 : Hid (SpI w0 fs (headB s N) (headNs s N) F F2 B B2 G w0.heap.size (0 + 1 + (L + 4)) (j + 1) w8) := Lib.hid ⟨rd7.only o8 (fun k hk hm => by obtain rfl := List.mem_singleton.1 hm; exact HGF.out.1 hk), hR7.only o8 (fun k hk hm => (HF5.out k hk).2.2.2 (List.mem_singleton.1 hm)), by
          rw [← arr_set (headNs s N) j x rfl Hxj.out, hw8]; exact arr7.setCell j _, st7.only o8 (fun hm => HGF.out.2.1 (List.mem_singleton.1 hm)), hO7.transN o8 (fun t ht => by obtain rfl := List.mem_singleton.1 ht; exact HGF.out.2.2)⟩
      have cj : ∃ v, w7.cell? ⟨G, j, none⟩ = some v := ⟨_, arr7.cell (List.getElem?_eq_getElem (by simp [headNs]; omega))⟩
      obtain ⟨vj, cj⟩ := cj
      have fj := arr7.free j
      have Hw8 := Lib.hid hw8
      clear hR7 o7 rd7 arr7 st7 hO7 hw8 o8 hB2 HI
      go_wp2_with fail
      rw [← Hw8.out]
      refine ⟨⟨j + 1, by go_num, by omega, HI8⟩, ?_⟩
      show 7 - ((j : Int) + 1).toNat < 7 - ((j : Int)).toNat
      omega
    · obtain rfl : j = 7 := by omega
      have harr : Row wr G 118 [.int .i64 1, .int .i64 (na : Int), .int .i64 (nbt : Int), .int .i64 (nq : Int), .int .i64 (nh : Int), .int .i64 (nz : Int), .int .i64 (N : Int)] := by
        have := HI.out.arr
        rw [HNs.out] at this
        exact this
      have hoff : offs (headNs s N) 7 = L := by rw [HL.out]; rfl
      have hrh := HI.out.rh
      rw [hoff] at hrh
      obtain ⟨wt, hwt⟩ : ∃ wt, wt = wr.alloc (.cells #[.int .i64 (na : Int), .int .i64 (nbt : Int), .int .i64 (nq : Int), .int .i64 (nh : Int), .int .i64 (nz : Int)] 67) := ⟨_, rfl⟩
      have ot : Only [] wr wt := by rw [hwt]; exact Only.alloc _ _
      have rt : Row wt wr.heap.size 67 (stCells s) := by rw [hwt, Hsc.out]; exact Row.newOf _ _ _ _ rfl
      have hArr := Lib.hid (harr.only0 ot)
      have c0 := harr.cell (i := 0) rfl
      have c1 := harr.cell (i := 1) rfl
      have c2 := harr.cell (i := 2) rfl
      have c3 := harr.cell (i := 3) rfl
      have c4 := harr.cell (i := 4) rfl
      have c5 := harr.cell (i := 5) rfl
      have d0 := hArr.out.cell (i := 0) rfl
      have hend : Calls Tryd.prog 94 #[.pointer (some ⟨B2, 0, none⟩)] wt fun e w' => e = .returned .nilIface ∧ Only [] wt w' := by
        have hc := (HE.out.only0 (HI.out.only.trans0 ot)).cell
        refine (rdEnd_any wt F2 B2 (headB s N) L _ (hrh.only0 ot) (by rw [← HL.out]; omega) hc).mono ?_
        rintro e w' ⟨rfl, ho⟩
        exact ⟨by rw [if_pos (by rw [← HL.out]; omega)], ho⟩
      have HIt := Lib.hid (HI.out.step ot)
      have Hrt := Lib.hid rt
      have Hwt := Lib.hid hwt
      have hXt : w0.heap.size < wr.heap.size := HI.out.st.lt
      rw [hwt] at d0
      clear harr hoff hrh ot rt hwt HI
      go_wp2_with fail
      rw [← Hwt.out]
      refine hend.mono ?_
      clear hend
      rintro e w9 ⟨rfl, o9⟩
      have rt9 := Hrt.out.only0 o9
      have k0 := rt9.cell (i := 0) (v := .int .i64 (na : Int)) (by rw [Hsc.out]; rfl)
      have k1 := rt9.cell (i := 1) (v := .int .i64 (nbt : Int)) (by rw [Hsc.out]; rfl)
      have k2 := rt9.cell (i := 2) (v := .int .i64 (nq : Int)) (by rw [Hsc.out]; rfl)
      have k3' := rt9.cell (i := 3) (v := .int .i64 (nh : Int)) (by rw [Hsc.out]; rfl)
      have k4' := rt9.cell (i := 4) (v := .int .i64 (nz : Int)) (by rw [Hsc.out]; rfl)
      have hif : Calls Tryd.prog 55 #[stV s] w9 fun e w' => e = .returned (.bool true) ∧ Only [] w9 w' := (inForm_any s w9).mono (fun e w' h => ⟨by rw [h.1, decide_eq_true Hs.out], h.2⟩)
      rw [Hsv.out] at hif
      have HI9 := Lib.hid (HIt.out.step o9)
      have Hrt9 := Lib.hid rt9
      have HArr9 := Lib.hid (hArr.out.only0 o9)
      clear rt9 o9 c0 c1 c2 c3 c4 c5 d0 HIt Hrt hArr Hwt
      go_wp2_with fail
      refine hif.mono ?_
      clear hif k0 k1 k2 k3' k4'
      rintro e wA ⟨rfl, oA⟩
      have rtA := Hrt9.out.only0 oA
      have k0 := rtA.cell (i := 0) (v := .int .i64 (na : Int)) (by rw [Hsc.out]; rfl)
      have k1 := rtA.cell (i := 1) (v := .int .i64 (nbt : Int)) (by rw [Hsc.out]; rfl)
      have k2 := rtA.cell (i := 2) (v := .int .i64 (nq : Int)) (by rw [Hsc.out]; rfl)
      have k3' := rtA.cell (i := 3) (v := .int .i64 (nh : Int)) (by rw [Hsc.out]; rfl)
      have k4' := rtA.cell (i := 4) (v := .int .i64 (nz : Int)) (by rw [Hsc.out]; rfl)
      have hArrA := HArr9.out.only0 oA
      have c6 := hArrA.cell (i := 6) rfl
      have HIA := Lib.hid (HI9.out.step oA)
      have HrtA := Lib.hid rtA
      have hN1 : ¬ (1024 : Int) < (N : Int) := by omega
      have HXn : Hid (wr.heap.size ∉ [w0.heap.size]) := Lib.hid (by simp; omega)
      have HGn : Hid (G ∉ [w0.heap.size]) := Lib.hid (by simp; exact fun e => HGF.out.2.1 e.symm)
      have HRdw : Hid (Rr wA F B fs (0 + 1 + (L + 4))) := Lib.hid HIA.out.rd
      have HFn : Hid (∀ k ∈ F, k ∉ [w0.heap.size]) := Lib.hid (fun k hk hm => HX2.out (by rw [← List.mem_singleton.1 hm]; exact hk))
      have Hfsb : Hid (fs.length ≤ 140737488351232) := Lib.hid (by rw [Hn.out]; exact hb)
      obtain ⟨at_, hat⟩ : ∃ at_, at_ = L + 5 := ⟨_, rfl⟩
      have Hleft : Hid (fs.length - (0 + 1 + (L + 4)) = n - at_) := Lib.hid (by rw [Hn.out, hat]; omega)
      have hat2 : at_ ≤ n := by rw [hat, Hfl.out]; omega
      have Hsl1 : Hid (IntKind.i64.wrap ((n : Int) - ((n - at_ : Nat) : Int)) = (at_ : Int)) := Lib.hid (by rw [IntWalk.i64_in _ (by omega)]; omega)
      have Hsl2 : Hid ((at_ : Int) ≤ (n : Int)) := Lib.hid (by omega)
      obtain ⟨r, hr⟩ : ∃ r, (if c = at_ then p else p.map fun x => x.add at_) = r := ⟨_, rfl⟩
      have Hr := Lib.hid hr
      clear hr
      have Hat : Hid (n - at_ = rest.length ∧ n - rest.length = at_) := Lib.hid (by rw [hat, Hfl.out]; omega)
      clear oA Hrt9 HI9 HArr9 hArrA rtA hat
      go_upto_region 20 with (fail)
      have hRr : ∀ a, Only [w0.heap.size] a a := fun a => Only.refl _ _
      have hRt : ∀ a b e, Only [w0.heap.size] a b → Only [w0.heap.size] b e → Only [w0.heap.size] a e := fun a b e h h2 => h.trans h2 (fun i hi _ => hi)
      have hRd : Only [w0.heap.size] wA wA.drew := (Only.drew _).mono (by simp)
      have hC0 : ∀ d ∈ [10], (fun (_ : Nat) (a : World) => Row a w0.heap.size 67 (stCells st0z)) d wA.drew := fun _ _ => HIA.out.st.only0 (Only.drew _)
      -- <<R20
      refine wp_region_rg4 (Only [w0.heap.size]) (Dirt [(10, [w0.heap.size])]) (fun (_ : Nat) (a : World) => Row a w0.heap.size 67 (stCells st0z)) [10] [[(13, none)], [(11, none)], [(84, some 0)], [(0, none)], [(0, none)], [(87, some 0)], [(6, none)], [(89, some 0)], [(88, some 2), (90, some 0)], [(86, some 5), (91, some 0)], [(2, none), (83, some 9)], [(85, some 8)], [(92, some 2)], []] [(3, 2), (4, 1), (5, 0)] [none, none, none, some 3, some 4, some 5, none, none, none, none, none, none, none, none, none, none, none, none, none, none, none, none, none, none, none, none, none, none, none, none, none, none, none, none, none, none, none, none, none, none, none, none, none, none, none, none, none, none, none, none, none, none, none, none, none, none, none, none, none, none, none, none, none, none, none, none, none, none, none, none, none, none, none, none, none, none, none, none, none, none, none, none, none, some 83, some 84, some 85, some 86, some 87, some 88, some 89, some 90, some 91, some 92] (by kernel_rfl) rfl (by kernel_rfl) hRr hRt (fun _ _ => Only.refl _ _) hRd hC0 (by kernel_rfl) (by kernel_rfl) ?_
      -- 0: s83 := load 67 t13
      apply rgd_ev
      · intro a w hR hC hf
        obtain ⟨e13, -⟩ := hf
        replace e13 : a.tmps.getD 13 undef = _ := e13
        refine rg_plain rfl fun K hK => ?_
        have h0 := hR.cell k0 HXn.out
        have h1 := hR.cell k1 HXn.out
        have h2 := hR.cell k2 HXn.out
        have h3 := hR.cell k3' HXn.out
        have h4 := hR.cell k4' HXn.out
        go_simp
        exact hK _ _ rfl ⟨hRr _, Only.refl _ _, fun _ _ _ _ h => h⟩
      -- 1: s84 := indexAddr 118 t11 (const (6:i64))
      apply rgd_ev
      · intro a w hR hC hf
        obtain ⟨e11, -⟩ := hf
        replace e11 : a.tmps.getD 11 undef = _ := e11
        refine rg_plain rfl fun K hK => ?_
        go_simp
        exact hK _ _ rfl ⟨hRr _, Only.refl _ _, fun _ _ _ _ h => h⟩
      -- 2: s85 := load 3 t84
      apply rgd_ev
      · intro a w hR hC hf
        obtain ⟨e84, -⟩ := hf
        replace e84 : a.tmps.getD 84 undef = _ := e84
        refine rg_plain rfl fun K hK => ?_
        have h6 := hR.cell c6 HGn.out
        go_simp
        exact hK _ _ rfl ⟨hRr _, Only.refl _ _, fun _ _ _ _ h => h⟩
      -- 3: s86 := move t0
      apply rgd_ev
      · intro a w hR hC hf
        obtain ⟨e0, -⟩ := hf
        replace e0 : a.tmps.getD 0 undef = _ := e0
        refine rg_plain rfl fun K hK => ?_
        go_simp
        exact hK _ _ rfl ⟨hRr _, Only.refl _ _, fun _ _ _ _ h => h⟩
      -- 4: s87 := move t0
      apply rgd_ev
      · intro a w hR hC hf
        obtain ⟨e0, -⟩ := hf
        replace e0 : a.tmps.getD 0 undef = _ := e0
        refine rg_plain rfl fun K hK => ?_
        go_simp
        exact hK _ _ rfl ⟨hRr _, Only.refl _ _, fun _ _ _ _ h => h⟩
      -- 5: s88 := call { builtin len, args := #[t87], #[22] }
      apply rgd_ev
      · intro a w hR hC hf
        obtain ⟨e87, -⟩ := hf
        replace e87 : a.tmps.getD 87 undef = _ := e87
        refine rg_plain rfl fun K hK => ?_
        go_simp
        exact hK _ _ rfl ⟨hRr _, Only.refl _ _, fun _ _ _ _ h => h⟩
      -- 6: s89 := move t6
      apply rgd_ev
      · intro a w hR hC hf
        obtain ⟨e6, -⟩ := hf
        replace e6 : a.tmps.getD 6 undef = _ := e6
        refine rg_plain rfl fun K hK => ?_
        go_simp
        exact hK _ _ rfl ⟨hRr _, Only.refl _ _, fun _ _ _ _ h => h⟩
      -- 7: s90 := call { value (Operand.func 95), args := #[t89], #[168] }
      apply rgd_ev
      · intro a w hR hC hf
        obtain ⟨e89, -⟩ := hf
        replace e89 : a.tmps.getD 89 undef = _ := e89
        refine rg_plain rfl fun K hK => ?_
        go_simp
        (with_reducible refine (rdLeft_any w F B fs (0 + 1 + (L + 4)) (HRdw.out.only hR HFn.out) Hfsb.out).mono ?_)
        rintro e w' ⟨rfl, hd⟩
        rw [Hleft.out]
        exact hK _ _ rfl ⟨hd.only.mono (by simp), hd.only, fun i _ _ _ hc => hc.only0 hd.only⟩
      -- 8: s91 := binOp Binsub 3 t88 t90 3
      apply rgd_ev
      · intro a w hR hC hf
        obtain ⟨e88, e90, -⟩ := hf
        replace e88 : a.tmps.getD 88 undef = _ := e88
        replace e90 : a.tmps.getD 90 undef = _ := e90
        refine rg_plain rfl fun K hK => ?_
        have hs1 := Hsl1.out
        go_simp
        exact hK _ _ rfl ⟨hRr _, Only.refl _ _, fun _ _ _ _ h => h⟩
      -- 9: s92 := slice 22 t86 (some t91) none none
      apply rgd_ev
      · intro a w hR hC hf
        obtain ⟨e86, e91, -⟩ := hf
        replace e86 : a.tmps.getD 86 undef = _ := e86
        replace e91 : a.tmps.getD 91 undef = _ := e91
        refine rg_plain rfl fun K hK => ?_
        have hs2 := Hsl2.out
        have hs4 := Hr.out
        have hs3 : (n : Int) ≤ (c : Int) := by omega
        go_simp
        exact hK _ _ rfl ⟨hRr _, Only.refl _ _, fun _ _ _ _ h => h⟩
      -- 10: sNone := store 67 t2 t83
      refine ⟨SetSt w0.heap.size s, stands_of SetSt.stable (by intro x hx hk; obtain rfl := List.mem_singleton.1 hx; simp at hk), fun a w hR hC hf => ?_, ?_⟩
      · obtain ⟨e2, e83, -⟩ := hf
        replace e2 : a.tmps.getD 2 undef = _ := e2
        replace e83 : a.tmps.getD 83 undef = _ := e83
        refine rg_plain rfl fun K hK => ?_
        have hC10 : Row w w0.heap.size 67 (stCells st0z) := hC 10 (by simp) (by kernel_rfl)
        have hst := hC10.storeSt (s' := s)
        rw [Hsv.out] at hst
        refine rg_store rfl e2 e83 hst ?_
        have o := Only.setRow w w0.heap.size (stCells s).toArray
        exact hK _ _ (hC10.setRow (stCells s)) ⟨o, o, fun i hi hne _ _ => absurd (List.mem_singleton.1 hi) hne⟩
      -- 11: s3 := assign t85
      apply rgd_ev
      · intro a w hR hC hf
        obtain ⟨e85, -⟩ := hf
        replace e85 : a.tmps.getD 85 undef = _ := e85
        refine rg_plain rfl fun K hK => ?_
        go_simp
        exact hK _ _ rfl ⟨hRr _, Only.refl _ _, fun _ _ _ _ h => h⟩
      -- 12: s4 := assign t92
      apply rgd_ev
      · intro a w hR hC hf
        obtain ⟨e92, -⟩ := hf
        replace e92 : a.tmps.getD 92 undef = _ := e92
        refine rg_plain rfl fun K hK => ?_
        go_simp
        exact hK _ _ rfl ⟨hRr _, Only.refl _ _, fun _ _ _ _ h => h⟩
      -- 13: s5 := assign (const Value.nilIface)
      apply rgd_ev
      · intro a w hR hC hf
        refine rg_plain rfl fun K hK => ?_
        go_simp
        exact hK _ _ rfl ⟨hRr _, Only.refl _ _, fun _ _ _ _ h => h⟩
      intro f20 w20 hR20 hf hz20
      dsimp only [mergeT]
      obtain ⟨e3, e4, e5, -⟩ := hf
      replace e3 : f20 3 = _ := e3
      rw [e3]
      replace e4 : f20 4 = _ := e4
      rw [e4]
      replace e5 : f20 5 = _ := e5
      rw [e5]
      -- R20>>
      obtain ⟨v10, hrow⟩ := hz20 _ (List.mem_cons_of_mem _ (List.mem_cons_of_mem _ (List.mem_cons_of_mem _ (List.mem_cons_self ..))))
      have hrow : Row w20 w0.heap.size 67 (stCells s) := hrow
      have hO : Only [] w0 w20 := HIA.out.only.transN hR20 (by simp)
      clear hz20
      go_wp2_with fail
      refine bodyPost_ret (results_st3 rfl _ _ _ s rfl hrow) rfl ?_
      obtain ⟨h1, h2⟩ := Hrest.out at_ Hat.out.2
      rw [Hr.out] at h1 h2
      refine ⟨r, ?_, h1, h2, hO⟩
      rw [← Hat.out.1, Hat.out.1, Hat.out.2, ← Hat.out.1]
      rfl
end Go.Proofs.YtfoplbolbjcggaaDoor
