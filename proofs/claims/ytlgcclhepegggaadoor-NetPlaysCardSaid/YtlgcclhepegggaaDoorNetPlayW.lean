/- The walks of bollardlaw14.play: KSend, KCopy. -/
import Derived.Test.YtlgcclhepegggaaDoorNetBoth
import Derived.Test.YtlgcclhepegggaaDoorBytesW
set_option linter.unusedVariables false
set_option maxRecDepth 100000
namespace Go.Proofs.YtlgcclhepegggaaDoor
open Go.RowKit

theorem u8_xor3 (x : UInt8) : bits .xor .u8 (x.toNat : Int) 3 = ((x ^^^ 3).toNat : Int) := u8_xor_u8 x 3
section
variable (az : List Addr) {wz w0 : World} {base B n c last Br cr : Nat} {q qr : Option Addr} {L : List Lt} {aN aG aF : Addr} (hN : az[1]? = some aN) (hG : az[7]? = some aG) (hF : az[9]? = some aF)
theorem PA.low (h : PA w0 base B q n c last L Br qr cr) (h0 : Only [] wz w0) (hb : wz.heap.size ≤ base) {S : List Nat} {w' : World} (ho : Only S w0 w') (hS : ∀ x ∈ S, x ∈ paD B q L Br qr ∨ w0.heap.size ≤ x) : Only [] wz w' :=
  h0.transN ho (fun x hx => by
    rcases hS x hx with h1 | h1
    · have := (h.lt x h1).1; omega
    · have := h0.size; omega)
set_option maxHeartbeats 8000000 in
theorem play_send (h : PA w0 base B q n c last L Br qr cr) (hE : ErrAll wz az) (h0 : Only [] wz w0) (hb : wz.heap.size ≤ base) (hN : az[1]? = some aN) (hF : az[9]? = some aF) (wh fr tg no : Int) (bp : Option Addr) (bm bc : Nat) (bs : List UInt8) (hl : bs.length = bm) (hlb : bm ≤ 140737488351232) (hbn : bp = none → bm = 0 ∧ bc = 0) (hbr : Rd w0 bp (u8s bs)) (hnb : bs ≠ [] → ∀ a, bp = some a → a.block ∉ paD B q L Br qr) (hlast : last ≤ 1000000000000000000) :
    Calls Tryd.prog 21 #[.pointer (some ⟨B, 0, none⟩), .pointer (some ⟨Br, 0, none⟩), .agg #[.int .i64 1, .int .i64 wh, .int .i64 fr, .int .i64 tg, .int .i64 no, .slice bp bm bc]] w0 fun e w' => e = .returned (.bool true) ∧ PlayEnd w0 base B q last L Br qr w' := by
  obtain ⟨wo, hwo⟩ : ∃ wo, wo = w0.alloc (.cells #[.int .i64 1, .int .i64 wh, .int .i64 fr, .int .i64 tg, .int .i64 no, .slice bp bm bc] 29) := ⟨_, rfl⟩
  have oO : Only [] w0 wo := by rw [hwo]; exact Only.alloc _ _
  have rO : Row wo w0.heap.size 29 [.int .i64 1, .int .i64 wh, .int .i64 fr, .int .i64 tg, .int .i64 no, .slice bp bm bc] := by rw [hwo]; exact Row.newOf _ _ _ _ rfl
  have hby := bytes_any bp bs bm bc wo hl hlb hbn (hbr.only0 oO)
  have H := Lib.hid h
  have HE := Lib.hid hE
  have H0 := Lib.hid h0
  have Hl := Lib.hid hl
  have Hbn := Lib.hid hbn
  have Hbr := Lib.hid (hbr.only0 oO)
  have HOo := Lib.hid oO
  have HRo := Lib.hid rO
  clear h hE h0 hl hbn hbr oO rO
  go_enter Tryd.func21, Tryd.ntmps21
  go_wp2_with fail
  rw [← hwo]
  refine hby.mono ?_
  clear hby hwo
  rintro e w1 ⟨g, rfl, hgw, rG, o1⟩
  have rO1 := HRo.out.only0 o1
  have HO1 := Lib.hid (HOo.out.trans0 o1)
  have HP1 := Lib.hid (H.out.only0 HO1.out)
  have HE1 := Lib.hid (HE.out.only0 (H0.out.trans0 HO1.out))
  have hgnew : w0.heap.size ≤ g := Nat.le_trans HOo.out.size hgw
  have hrd1 : Rd w1 (some ⟨g, 0, none⟩) (u8s bs) := by
    have := rG.rd0.take bm
    rw [u8s_take, List.take_left' Hl.out] at this
    exact this
  have hsb := send_both az hN hF HP1.out HE1.out fr tg (some ⟨g, 0, none⟩) bp bm (bm + 6) bc bs Hl.out hlb (by simp) Hbn.out hrd1 (Hbr.out.only0 o1) (fun _ a ha e => by
    obtain rfl := Option.some.inj ha
    have := (H.out.lt B (by simp [paD, netD])).2
    dsimp only at e
    omega) (fun hx a ha hm => hnb hx a ha (List.mem_append_left _ hm)) hlast
  have hy2 := rO1.cell (i := 2) rfl
  have hy3 := rO1.cell (i := 3) rfl
  have HRo1 := Lib.hid rO1
  have HrG := Lib.hid rG
  have Hbr1 := Lib.hid (Hbr.out.only0 o1)
  have HRlt := Lib.hid rO1.lt
  have HGlt := Lib.hid rG.lt
  have HGX : Hid (w0.heap.size ≠ g) := Lib.hid (by have := HRo.out.lt; omega)
  clear o1 rG rO1 hrd1 hgw HRo Hbr HOo
  go_wp2_with fail
  refine hsb.mono ?_
  clear hsb hy2 hy3
  unfold PutBoth
  rintro e w2 ⟨kv, v, num, q', n', c', last', L', rfl, hnum, hn2, hr2, hq2, o2, hn4, hl2, hrc⟩
  have hin2 : ∀ x ∈ netD B q L, x < w0.heap.size := fun x hx => (H.out.lt x (List.mem_append_left _ hx)).2
  have hinr : ∀ x ∈ Br :: blk qr, x < w0.heap.size := fun x hx => (H.out.lt x (List.mem_append_right _ hx)).2
  have hXn : w0.heap.size ∉ netD B q L := fun hm => by have := hin2 _ hm; omega
  have rO2 := HRo1.out.only o2 hXn
  have rG2 := HrG.out.only o2 (fun hm => by have := hin2 _ hm; omega)
  have rd2 : Rd w2 bp (u8s bs) := Hbr1.out.onlyNe' o2 (fun hx a ha hm => hnb hx a ha (List.mem_append_left _ hm))
  have hy2 := rO2.cell (i := 2) rfl
  have hy3 := rO2.cell (i := 3) rfl
  have hy5 := rO2.cell (i := 5) rfl
  have HN2 := Lib.hid hn2
  have HR2 := Lib.hid hr2
  have HQ2 := Lib.hid hq2
  have HO2 := Lib.hid o2
  have Hnum := Lib.hid hnum
  have HRo2 := Lib.hid rO2
  have HrG2 := Lib.hid rG2
  have Hrd2 := Lib.hid rd2
  have hrc2 := hrc w2 (Only.refl _ _)
  clear hnum hn2 hr2 hq2 o2 rO2 rG2 rd2 hrc HRo1 HrG Hbr1
  go_wp2_with fail
  refine hrc2.mono ?_
  clear hrc2 hy2 hy3 hy5
  rintro e w3 ⟨qr', cr', rfl, hrf, hqr, o3⟩
  obtain ⟨hp3, hg3, hO3⟩ := HP1.out.step HN2.out HR2.out HQ2.out HO2.out hrf hqr o3 hn4 hl2
  have hXr : w0.heap.size ∉ Br :: blk qr := fun hm => by have := hinr _ hm; omega
  have rO3 := HRo2.out.only o3 hXr
  have rG3 := HrG2.out.only o3 (fun hm => by have := hinr _ hm; omega)
  have rd3 : Rd w3 bp (u8s bs) := Hrd2.out.onlyNe' o3 (fun hx a ha hm => hnb hx a ha (List.mem_append_right _ hm))
  have hy5 := rO3.cell (i := 5) rfl
  have hE3 : ErrAll w3 az := HE.out.only0 (H.out.low H0.out hb ((HO1.out.mono (by simp)).trans hO3 (fun i hi _ => hi)) (fun x hx => .inl hx))
  have hnm := num_is Hnum.out w3 hE3
  have HP3 := Lib.hid hp3
  have HG3 := Lib.hid hg3
  have HO3 := Lib.hid hO3
  have HRo3 := Lib.hid rO3
  have HrG3 := Lib.hid rG3
  have Hrd3 := Lib.hid rd3
  have Hinr := Lib.hid hinr
  have Hin2 := Lib.hid hin2
  clear hrf hqr o3 hp3 hg3 hO3 rO3 rG3 rd3 hE3 hXn hXr hinr hin2
  go_wp2_with fail
  refine hnm.mono ?_
  clear hnm hy5
  rintro e w4 ⟨rfl, o4⟩
  have hy5 := (HRo3.out.only0 o4).cell (i := 5) rfl
  have hkp := kept_any g bp bs bm bc bm w4 Hl.out hlb Hbn.out (by omega) (HrG3.out.only0 o4) (Hrd3.out.only0 o4)
  have HP4 := Lib.hid (HP3.out.only0 o4)
  have HO4 := Lib.hid (HO3.out.trans0 o4)
  have HrG4 := Lib.hid (HrG3.out.only0 o4)
  clear o4
  go_wp2_with fail
  refine hkp.mono ?_
  clear hkp
  rintro e w5 ⟨rfl, d5⟩
  have o5 := d5.only
  have HP5 := Lib.hid (HP4.out.only0 o5)
  have HO5 := Lib.hid (HO4.out.trans0 o5)
  have HrG5 := Lib.hid (HrG4.out.only0 o5)
  clear o5 d5 hy5
  go_wp2_with fail
  go_loopw [74] (fun a wr => ∃ (j : Nat) (ys : List UInt8), a = .int .i64 (j : Int) ∧ j ≤ bm ∧ Hid (ys.length = bm) ∧ Hid (Row wr g 5 (u8s (ys ++ marks))) ∧ Hid (Only [g] w5 wr)) (fun a _ => bm - (intOf a).toNat)
  case atStart => exact ⟨0, bs, rfl, Nat.zero_le _, Hl, HrG5, Lib.hid (Only.refl _ _)⟩
  case round =>
    obtain ⟨j, ys, rfl, hj, Hys, Hr, HO⟩ := hrel
    by_cases hlt : j < bm
    · have hji : (j : Int) < (bm : Int) := by omega
      have hjl : j < (ys ++ marks).length := by rw [List.length_append, Hys.out]; omega
      have hcj := Hr.out.bytes hjl
      have hfj := Hr.out.free j
      generalize (ys ++ marks)[j]'hjl = y at hcj
      have hx3 := u8_xor3 y
      have hset : (ys ++ marks).set j (y ^^^ 3) = ys.set j (y ^^^ 3) ++ marks := by rw [List.set_append_left _ _ (by rw [Hys.out]; exact hlt)]
      have Hr2 : Hid (Row (wr.setCell ⟨g, j, none⟩ (.int .u8 ((y ^^^ 3).toNat : Int))) g 5 (u8s (ys.set j (y ^^^ 3) ++ marks))) := Lib.hid (by rw [← hset, ← u8s_set]; exact Hr.out.setCell j _)
      have HO6 : Hid (Only [g] w5 (wr.setCell ⟨g, j, none⟩ (.int .u8 ((y ^^^ 3).toNat : Int)))) := Lib.hid (HO.out.trans (Only.setCell _ ⟨g, j, none⟩ _) (fun i hi _ => hi))
      have Hys2 : Hid ((ys.set j (y ^^^ 3)).length = bm) := Lib.hid (by rw [List.length_set]; exact Hys.out)
      clear hset hjl
      go_wp2_with fail
      refine ⟨⟨j + 1, ys.set j (y ^^^ 3), by go_num, by omega, Hys2, Hr2, HO6⟩, ?_⟩
      show bm - ((j : Int) + 1).toNat < bm - ((j : Int)).toNat
      omega
    · obtain rfl : j = bm := by omega
      have hji : ¬ (j : Int) < (j : Int) := by omega
      go_wp2_with fail
      go_ret
      refine ⟨rfl, PlayEnd.of HO1.out HP5.out hl2 HG3.out HO5.out HO.out (fun x hx hm => ?_) (fun x hx => .inr (by obtain rfl := List.mem_singleton.1 hx; exact hgnew))⟩
      obtain rfl := List.mem_singleton.1 hx
      rcases HG3.out _ hm with h1 | h1
      · have := (H.out.lt _ h1).2; omega
      · have := HGlt.out; omega
set_option maxHeartbeats 8000000 in
theorem play_copy (h : PA w0 base B q n c last L Br qr cr) (hE : ErrAll wz az) (h0 : Only [] wz w0) (hb : wz.heap.size ≤ base) (hG : az[7]? = some aG) (hF : az[9]? = some aF) (wh fr tg no : Int) (bp : Option Addr) (bm bc : Nat) (hlast : last ≤ 1000000000000000000) :
    Calls Tryd.prog 21 #[.pointer (some ⟨B, 0, none⟩), .pointer (some ⟨Br, 0, none⟩), .agg #[.int .i64 4, .int .i64 wh, .int .i64 fr, .int .i64 tg, .int .i64 no, .slice bp bm bc]] w0 fun e w' => e = .returned (.bool true) ∧ PlayEnd w0 base B q last L Br qr w' := by
  obtain ⟨wo, hwo⟩ : ∃ wo, wo = w0.alloc (.cells #[.int .i64 4, .int .i64 wh, .int .i64 fr, .int .i64 tg, .int .i64 no, .slice bp bm bc] 29) := ⟨_, rfl⟩
  have oO : Only [] w0 wo := by rw [hwo]; exact Only.alloc _ _
  have rO : Row wo w0.heap.size 29 [.int .i64 4, .int .i64 wh, .int .i64 fr, .int .i64 tg, .int .i64 no, .slice bp bm bc] := by rw [hwo]; exact Row.newOf _ _ _ _ rfl
  have HP1 := Lib.hid (h.only0 oO)
  have hsb := copy_both az hG hF HP1.out (hE.only0 (h0.trans0 oO)) no hlast
  have H := Lib.hid h
  have HE := Lib.hid hE
  have H0 := Lib.hid h0
  have HOo := Lib.hid oO
  have HRo := Lib.hid rO
  clear h hE h0 oO rO
  go_enter Tryd.func21, Tryd.ntmps21
  go_wp2_with fail
  rw [← hwo]
  refine hsb.mono ?_
  clear hsb hwo
  unfold PutBoth
  rintro e w2 ⟨kv, v, num, q', n', c', last', L', rfl, hnum, hn2, hr2, hq2, o2, hn4, hl2, hrc⟩
  have hin2 : ∀ x ∈ netD B q L, x < w0.heap.size := fun x hx => (H.out.lt x (List.mem_append_left _ hx)).2
  have hXn : w0.heap.size ∉ netD B q L := fun hm => by have := hin2 _ hm; omega
  have rO2 := HRo.out.only o2 hXn
  have hy4 := rO2.cell (i := 4) rfl
  have HN2 := Lib.hid hn2
  have HR2 := Lib.hid hr2
  have HQ2 := Lib.hid hq2
  have HO2 := Lib.hid o2
  have Hnum := Lib.hid hnum
  have hrc2 := hrc w2 (Only.refl _ _)
  clear hnum hn2 hr2 hq2 o2 rO2 hrc
  go_wp2_with fail
  refine hrc2.mono ?_
  clear hrc2 hy4
  rintro e w3 ⟨qr', cr', rfl, hrf, hqr, o3⟩
  obtain ⟨hp3, hg3, hO3⟩ := HP1.out.step HN2.out HR2.out HQ2.out HO2.out hrf hqr o3 hn4 hl2
  have hE3 : ErrAll w3 az := HE.out.only0 (H.out.low H0.out hb ((HOo.out.mono (by simp)).trans hO3 (fun i hi _ => hi)) (fun x hx => .inl hx))
  have hnm := num_is Hnum.out w3 hE3
  have HP3 := Lib.hid hp3
  have HG3 := Lib.hid hg3
  have HO3 := Lib.hid hO3
  clear hrf hqr o3 hp3 hg3 hO3 hE3 hXn hin2
  go_wp2_with fail
  refine hnm.mono ?_
  clear hnm
  rintro e w4 ⟨rfl, o4⟩
  have HO4 := Lib.hid o4
  clear o4
  go_wp2_with fail
  go_ret
  exact ⟨rfl, PlayEnd.of HOo.out HP3.out hl2 HG3.out HO3.out HO4.out (by simp) (by simp)⟩
set_option maxHeartbeats 8000000 in
theorem play_none (h : PA w0 base B q n c last L Br qr cr) (kd wh fr tg no : Int) (bp : Option Addr) (bm bc : Nat) (hk : kd < 1 ∨ 6 < kd) :
    Calls Tryd.prog 21 #[.pointer (some ⟨B, 0, none⟩), .pointer (some ⟨Br, 0, none⟩), .agg #[.int .i64 kd, .int .i64 wh, .int .i64 fr, .int .i64 tg, .int .i64 no, .slice bp bm bc]] w0 fun e w' => e = .returned (.bool true) ∧ PlayEnd w0 base B q last L Br qr w' := by
  have H := Lib.hid h
  have k1 : (kd == 1) = false := by simp; omega
  have k2 : (kd == 2) = false := by simp; omega
  have k3 : (kd == 3) = false := by simp; omega
  have k4 : (kd == 4) = false := by simp; omega
  have k5 : (kd == 5) = false := by simp; omega
  have k6 : (kd == 6) = false := by simp; omega
  clear h hk
  go_enter Tryd.func21, Tryd.ntmps21
  go_wp2_with fail
  go_ret
  exact ⟨rfl, PlayEnd.same H.out (Only.alloc _ _) (by simp)⟩
end
end Go.Proofs.YtlgcclhepegggaaDoor
