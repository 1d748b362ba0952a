/- PlansPk, part 22: MadeW, HealPlansW, HealPlansProof. -/
import Derived.Test.YtfeglnpmpgipiaaPlansPk03
import Derived.Test.YtfeglnpmpgipiaaPlansPk04
import Derived.Test.YtfeglnpmpgipiaaPlansPk11
import Derived.Test.YtfeglnpmpgipiaaPlansPk19
import Derived.Test.YtfeglnpmpgipiaaPlansPk20
import Derived.Test.YtfeglnpmpgipiaaPlansPk21
import Derived.Deep.MidRow
set_option linter.unusedVariables false
set_option maxRecDepth 100000
section
set_option linter.unusedVariables false
set_option maxRecDepth 100000
namespace Go.Proofs.Ytfeglnpmpgipiaa
open Go.RowKit
theorem load_cm {w : World} {bq off i : Nat} {ms : List LCmd} {m : LCmd} (hrd : Rd w (some ⟨bq, off, none⟩) (ms.flatMap lmCells)) (hi : ms[i]? = some m) : (Instr.loadAt 43 (.pointer (some ⟨bq, off + i * 18, none⟩))).run Try.prog w = .ok (lmV m) w :=
 run_loadAt_mid (P := Try.prog) w bq (off + i * 18) 43 (lmCells m) _ (fun j v hv => by
  have := rd_elem lmCells_len hrd hi (r := j) hv; rw [Addr.add_lit, ← Nat.add_assoc] at this
  exact this) Try.underlying43 rfl cmInfo
set_option maxHeartbeats 16000000 in
theorem made22_any (p : Option Addr) (n c : Nat) (ms : List LCmd) (w0 : World) (hn : ms.length = n) (hnb : n ≤ 4611686018427387904) (hx : Rd w0 p (ms.flatMap lmCells)) (hms : CmsAt w0 ms) :
  Calls Try.prog 6 #[.slice p n c] w0 fun e w' => ∃ L, e = .returned (lcV L) ∧ CatAt w' L ∧ CatOk L.cat ∧ Only [] w0 w' := by
 obtain ⟨w1, hw1⟩ : ∃ w1, w1 = w0.alloc (.cells #[.slice none 0 0, .slice none 0 0] 27) := ⟨_, rfl⟩; have o1 : Only [] w0 w1 := (by rw [hw1]; exact Only.alloc _ _); have s1 : w1.heap.size = w0.heap.size + 1 := (by rw [hw1]; simp); have r1 : Row w1 w0.heap.size 27 [.slice none 0 0, .slice none 0 0] := (by rw [hw1]; exact Row.newOf _ _ _ _ rfl); obtain ⟨w2, hw2⟩ : ∃ w2, w2 = w1.alloc (.cells #[.slice none 0 0, .slice none 0 0] 27) := ⟨_, rfl⟩; have o2 : Only [] w1 w2 := (by rw [hw2]; exact Only.alloc _ _); have s2 : w2.heap.size = w0.heap.size + 1 + 1 := (by rw [hw2]; simp [s1]); have r2 : Row w2 (w0.heap.size + 1) 27 [.slice none 0 0, .slice none 0 0] := by rw [← s1, hw2]; exact Row.newOf _ _ _ _ rfl
 have HR1 := Lib.hid (r1.only0 o2); have HO := Lib.hid (o1.trans0 o2); have HS2 := Lib.hid s2; have HI0 : Hid (∃ L, Row w2 (w0.heap.size + 1) 27 (lcCells L) ∧ CatOk L.cat ∧ CatKept w2 L w2) := Lib.hid ⟨⟨[], none, 0, [], none, 0⟩, r2, catOk_nil, CatKept.nil w2 w2⟩; rw [hw1] at hw2; have Hw := Lib.hid hw2; have Hn := Lib.hid hn; have Hx := Lib.hid hx; have HM := Lib.hid hms; obtain ⟨X, hX⟩ : ∃ X, w0.heap.size = X := ⟨_, rfl⟩; have HX := Lib.hid hX; clear hn hx hms r1 r2 o1 o2 s1 s2 hw1 hw2
 go_enter Try.func6, Try.ntmps6
 go_wp2_with fail; rw [← Hw.out]; rw [hX] at HI0 HR1 HS2; clear Hw hX
 go_loopw [4, 10] (fun a b wl => ∃ (i k : Nat), a = .int .i64 (k : Int) ∧ b = .int .i64 (i : Int) ∧ i ≤ n ∧ k ≤ i ∧ Hid (∃ L, Row wl (X + 1) 27 (lcCells L) ∧ CatOk L.cat ∧ CatKept w2 L wl) ∧ Hid (Only [X + 1] w2 wl)) (fun _ b _ => n - (intOf b).toNat)
 case atStart => exact ⟨0, 0, rfl, rfl, Nat.zero_le _, Nat.le_refl _, HI0, Lib.hid (Only.refl _ _)⟩
 case round =>
  clear HI0; obtain ⟨i, k, rfl, rfl, hi, hk, HI, HOl⟩ := hrel; obtain ⟨L, hI⟩ := HI.out; clear HI
  by_cases hlt : i < n
  ·obtain ⟨m, hm⟩ : ∃ m, ms[i]? = some m := ⟨_, List.getElem?_eq_getElem (by rw [Hn.out]; exact hlt)⟩; have hmm := List.mem_of_getElem? hm; have hOwr : Only [] w0 wr := HO.out.transN HOl.out (by simp; rw [HX.out]; omega); have hrd := Hx.out.only0 hOwr; have hne : ms.flatMap lmCells ≠ [] := fun e' => (by have := flat_get lmCells 18 lmCells_len ms _ m 0 hm (by omega); rw [e'] at this; cases this); obtain ⟨bq, off, rfl, -⟩ := hrd.lt hne; have hld := load_cm hrd hm; have Hld := Lib.hid hld; have HmA := Lib.hid ((HM.out.ca m hmm).only0 hOwr); have HmS := Lib.hid (HM.out.sh m hmm); have HII := Lib.hid hI
   have HOw := Lib.hid hOwr; clear hne hrd hld hm hmm hI hOwr; unfold lmV at Hld
   go_upto_region 6 with (first | ((with_reducible show wpList _ _ _ _ _ _); refine wpl_load (ty := 43) (x := .tmp 12) rfl rfl rfl Hld.out ?_))
   obtain ⟨wx, hwx⟩ : ∃ wx, wx = wr.alloc (.cells #[.int .i64 m.x.kind, .int .i64 m.x.id.node, .int .i64 m.x.id.boot, .int .i64 m.x.id.seq, .string (str m.x.bucket), .string (str m.x.key), .int .i64 m.x.upload.node, .int .i64 m.x.upload.boot, .int .i64 m.x.upload.seq, .int .i64 m.x.piece.blob.node, .int .i64 m.x.piece.blob.boot, .int .i64 m.x.piece.blob.seq, .int .i64 m.x.piece.size, .string (str m.x.piece.etag), .int .i64 m.x.part, .slice m.p m.x.parts.length m.c, .int .i64 m.x.time, .int .i64 m.x.days] 43) := ⟨_, rfl⟩; have ox : Only [] wr wx := (by rw [hwx]; exact Only.alloc _ _); have rx : Row wx wr.heap.size 43 (lmCells m) := by rw [hwx]; exact Row.newOf _ _ _ _ rfl
   rw [← hwx]; have hlc := HII.out.1.lt; obtain ⟨B, hB⟩ : ∃ B, wr.heap.size = B := ⟨_, rfl⟩; rw [hB] at rx hlc ⊢; have hinf := inForm10_any m wx (HmA.out.only0 ox) HmS.out; have h6 : (Instr.loadAt 43 (.pointer (some ⟨B, 0, none⟩))).run Try.prog wx = .ok (lmV m) wx := rx.loadSA Try.underlying43 cmInfo; unfold lmV at hinf h6; have H6 := Lib.hid h6; have HRx := Lib.hid rx; have HB := Lib.hid hB; have HOx := Lib.hid ox; have Hlc := Lib.hid hlc; have HZ := HS2.out; have HS2' := Lib.hid HZ; clear hwx h6 rx ox hB hlc HZ
   go_wp2_with (first | ((with_reducible show wpList _ _ _ _ _ _); refine wpl_load (ty := 43) (x := .tmp 6) rfl rfl rfl H6.out ?_))
   (with_reducible refine hinf.mono ?_); clear hinf H6; rintro e w3 ⟨v, rfl, hv, o3⟩; have HO3 := Lib.hid (HOx.out.trans0 o3); have HR3 := Lib.hid (HRx.out.only0 o3); have Hv := Lib.hid hv; clear o3 hv HRx; have hskip : ∀ w, Only [] wr w → Hid (∃ L, Row w (X + 1) 27 (lcCells L) ∧ CatOk L.cat ∧ CatKept w2 L w) ∧ Hid (Only [X + 1] w2 w) := fun w o => ⟨Lib.hid ⟨L, HII.out.1.only0 o, HII.out.2.1, HII.out.2.2.only o (by simp)⟩, Lib.hid (HOl.out.trans0 o)⟩; have Hskip := Lib.hid (hskip w3 HO3.out); clear hskip
   cases v with
   | false =>
    go_wp2_with fail; refine ⟨⟨i + 1, k, rfl, by go_num, by omega, by omega, Hskip.out.1, Hskip.out.2⟩, ?_⟩; show n - ((i : Int) + 1).toNat < n - ((i : Int)).toNat; omega
   | true =>
    by_cases hk3 : (k : Int) < 300
    ·have rc := HII.out.1.only0 HO3.out; have c0 := rc.cell (i := 0) rfl; have c1 := rc.cell (i := 1) rfl; have h6 : (Instr.loadAt 43 (.pointer (some ⟨B, 0, none⟩))).run Try.prog w3 = .ok (lmV m) w3 := HR3.out.loadSA Try.underlying43 cmInfo; have hap := ref11Apply_any L m w3 ((HII.out.2.2.only HO3.out (by simp)).at) ((HmA.out.only0 HO3.out)) (smallR_of HII.out.2.1) (by have := (Hv.out (by trivial)).2; omega) (tickOk_of HII.out.2.1); unfold lmV at h6 hap; unfold lcV at hap; have H6 := Lib.hid h6; have Hrc := Lib.hid rc; clear h6 rc
     go_wp2_with (first | ((with_reducible show wpList _ _ _ _ _ _); refine wpl_load (ty := 43) (x := .tmp 6) rfl rfl rfl H6.out ?_))
     (with_reducible refine hap.mono ?_); clear hap H6 c0 c1; rintro e w4 ⟨L', oc, rfl, hf, he, o4⟩; have r4 := Hrc.out.only0 o4; have c0 := r4.cell (i := 0) rfl; have c1 := r4.cell (i := 1) rfl; have f0 := r4.free 0; have f1 := r4.free 1; have hst : Row ((w4.setCell ⟨X + 1, 0, none⟩ (.slice L'.pb L'.bs.length L'.cb)).setCell ⟨X + 1, 1, none⟩ (.slice L'.pf L'.fs.length L'.cf)) (X + 1) 27 (lcCells L') := r4.set2 _ _; have hso := only_set2 w4 (X + 1) (.slice L'.pb L'.bs.length L'.cb) (.slice L'.pf L'.fs.length L'.cf); have hk2 := CatKept.step (HII.out.2.2.only HO3.out (by simp)) o4 (Nat.le_trans HOl.out.size HO3.out.size) hf
     have HN : Hid (∃ L, Row ((w4.setCell ⟨X + 1, 0, none⟩ (.slice L'.pb L'.bs.length L'.cb)).setCell ⟨X + 1, 1, none⟩ (.slice L'.pf L'.fs.length L'.cf)) (X + 1) 27 (lcCells L) ∧ CatOk L.cat ∧ CatKept w2 L ((w4.setCell ⟨X + 1, 0, none⟩ (.slice L'.pb L'.bs.length L'.cb)).setCell ⟨X + 1, 1, none⟩ (.slice L'.pf L'.fs.length L'.cf))) := Lib.hid ⟨L', hst, step_ok HII.out.2.1 (Hv.out (by trivial)).1 he, hk2.only hso (by simp; rw [HS2'.out]; omega)⟩; have HNO : Hid (Only [X + 1] w2 ((w4.setCell ⟨X + 1, 0, none⟩ (.slice L'.pb L'.bs.length L'.cb)).setCell ⟨X + 1, 1, none⟩ (.slice L'.pf L'.fs.length L'.cf))) := Lib.hid (((HOl.out.trans0 HO3.out).trans0 o4).trans hso (fun i hi _ => hi))
     clear r4 hst hso hk2 hf he o4 Hskip; unfold oucV; go_wp2_with fail; refine ⟨⟨i + 1, k + 1, by go_num, by go_num, by omega, by omega, HN, HNO⟩, ?_⟩; show n - ((i : Int) + 1).toNat < n - ((i : Int)).toNat; omega
    ·have hk3' := decide_eq_false hk3; clear hk3; go_wp2_with fail; refine ⟨⟨i + 1, k, rfl, by go_num, by omega, by omega, Hskip.out.1, Hskip.out.2⟩, ?_⟩; show n - ((i : Int) + 1).toNat < n - ((i : Int)).toNat; omega
  ·obtain rfl : i = n := (by omega); have c0 := hI.1.cell (i := 0) rfl; have c1 := hI.1.cell (i := 1) rfl; have r1 := (HR1.out.only HOl.out (by simp)); have d0 := r1.cell (i := 0) rfl; have d1 := r1.cell (i := 1) rfl; have f0 := r1.free 0; have f1 := r1.free 1; have hst : Row ((wr.setCell ⟨X, 0, none⟩ (.slice L.pb L.bs.length L.cb)).setCell ⟨X, 1, none⟩ (.slice L.pf L.fs.length L.cf)) X 27 (lcCells L) := r1.set2 _ _; have hso := only_set2 wr X (.slice L.pb L.bs.length L.cb) (.slice L.pf L.fs.length L.cf); have Hst := Lib.hid hst; have HF : Hid (CatAt ((wr.setCell ⟨X, 0, none⟩ (.slice L.pb L.bs.length L.cb)).setCell ⟨X, 1, none⟩ (.slice L.pf L.fs.length L.cf)) L ∧ CatOk L.cat ∧ Only [] w0 ((wr.setCell ⟨X, 0, none⟩ (.slice L.pb L.bs.length L.cb)).setCell ⟨X, 1, none⟩ (.slice L.pf L.fs.length L.cf))) := Lib.hid ⟨(hI.2.2.only hso (by simp; rw [HS2.out]; omega)).at, hI.2.1, (HO.out.transN HOl.out (by simp; rw [HX.out]; omega)).transN hso (by simp; rw [HX.out]; exact Nat.le_refl _)⟩
   clear hI r1 hst hso; go_wp2_with fail; exact bodyPost_ret (results_c1 rfl _ _ _ rfl Hst.out Try.underlying27 lcInfo) rfl ⟨L, rfl, HF.out⟩
end Go.Proofs.Ytfeglnpmpgipiaa
end
section
set_option linter.unusedVariables false
set_option maxRecDepth 100000
namespace Go.Proofs.Ytfeglnpmpgipiaa
open Go.RowKit
set_option maxHeartbeats 16000000 in
theorem healPlans_any (p : Option Addr) (n c : Nat) (ms : List LCmd) (pf : Option Addr) (nf cf : Nat) (ids : List Cid) (h : Int) (w0 : World) (hn : ms.length = n) (hnb : n ≤ 4611686018427387904) (hx : Rd w0 p (ms.flatMap lmCells)) (hms : CmsAt w0 ms)
  (hnf : ids.length = nf) (hnfb : nf ≤ 9007199254740992) (hxf : Rd w0 pf (ids.flatMap idCells)) :
  Calls Try.prog 3 #[.slice p n c, .slice pf nf cf, .int .i64 h] w0 fun e w' => e = .returned (.bool true) ∧ Only [] w0 w' := by
 have HX := Lib.hid hx; have HM := Lib.hid hms; have HF := Lib.hid hxf; have Hn := Lib.hid hn; have Hnf := Lib.hid hnf; have Hnb := Lib.hid hnb; have Hnfb := Lib.hid hnfb; clear hx hms hxf hn hnf hnb hnfb
 go_enter Try.func3, Try.ntmps3
 go_wp2_with fail; (with_reducible refine (alive22_any w0).mono ?_); rintro e w1 ⟨rfl, o1⟩; have HO1 := Lib.hid o1; clear o1; go_wp2_with fail; (with_reducible refine (made22_any p n c ms w1 Hn.out Hnb.out (HX.out.only0 HO1.out) ⟨fun m hm => (HM.out.ca m hm).only0 HO1.out, HM.out.sh⟩).mono ?_); rintro e w2 ⟨L, rfl, hA, hOk, o2⟩; have HO2 := Lib.hid (HO1.out.trans0 o2); have hsz2 := o2.size; obtain ⟨w3, hw3⟩ : ∃ w3, w3 = w2.alloc (.cells #[.slice L.pb L.bs.length L.cb, .slice L.pf L.fs.length L.cf] 27) := ⟨_, rfl⟩; have o3 : Only [] w2 w3 := (by rw [hw3]; exact Only.alloc _ _); have r3 : Row w3 w2.heap.size 27 [.slice L.pb L.bs.length L.cb, .slice L.pf L.fs.length L.cf] := by rw [hw3]; exact Row.newOf _ _ _ _ rfl
 have HO3 := Lib.hid (HO2.out.trans0 o3); have HA3 := Lib.hid (hA.only0 o3); have HOk := Lib.hid hOk; have HR3 := Lib.hid r3; have hr := rising_any pf nf cf ids w3 Hnf.out Hnfb.out (HF.out.only0 HO3.out); rw [hw3] at hr; have Hw3 := Lib.hid hw3; clear o2 hA hOk o3 r3 hw3 hsz2; unfold lcV; go_wp2_with fail; (with_reducible refine hr.mono ?_); clear hr; rw [← Hw3.out]; rintro e w4 ⟨q, m, k, rfl, hq, hm4⟩; obtain ⟨ys, hq⟩ := hq; have HO4 := Lib.hid (HO3.out.trans0 hq.2.2); have HR4 := Lib.hid (HR3.out.only0 hq.2.2); have HA4 := Lib.hid (HA3.out.only0 hq.2.2); have HQ := Lib.hid (And.intro hq.rd hq.2.1)
 obtain ⟨w5, hw5⟩ : ∃ w5, w5 = w4.alloc (.cells #[] 31) := ⟨_, rfl⟩; have HI0 : Hid (OutK idCells 31 3 w4 w5 (some ⟨w4.heap.size, 0, none⟩) 0 0 []) := Lib.hid (OutK.start (Only.refl _ _) hw5); have Hw5 := Lib.hid hw5; obtain ⟨X, hX⟩ : ∃ X, w2.heap.size = X := ⟨_, rfl⟩; rw [hX] at HR3 HR4; clear hq hw5; go_wp2_with fail; rw [← Hw5.out]; clear Hw5 Hw3 hX
 go_loopw [8, 28] (fun a b wl => ∃ (i mm kk : Nat) (qq : Option Addr), a = .slice qq mm kk ∧ b = .int .i64 (i : Int) ∧ i ≤ m ∧ mm ≤ i ∧ Hid (∃ us, OutK idCells 31 3 w4 wl qq mm kk us)) (fun _ b _ => m - (intOf b).toNat)
 case atStart => exact ⟨0, 0, 0, _, rfl, rfl, Nat.zero_le _, Nat.le_refl _, Lib.hid ⟨[], HI0.out⟩⟩
 case round =>
  clear HI0; obtain ⟨i, mm, kk, qq, rfl, rfl, hi, hmm, HI⟩ := hrel; obtain ⟨us, hI⟩ := HI.out
  by_cases hlt : i < m
  ·obtain ⟨x, hx⟩ : ∃ x, ys[i]? = some x := ⟨_, List.getElem?_eq_getElem (by rw [HQ.out.2]; exact hlt)⟩; have hrd := HQ.out.1.1.only0 hI.2.2; have hne : ys.flatMap idCells ≠ [] := fun e' => (by have := flat_get idCells 3 idCells_len ys _ x 0 hx (by omega); rw [e'] at this; cases this); obtain ⟨bq, off, rfl, -⟩ := hrd.lt hne; have d0 := rd_elem idCells_len hrd hx (r := 0) rfl; have d1 := rd_elem idCells_len hrd hx (r := 1) rfl; have d2 := rd_elem idCells_len hrd hx (r := 2) rfl; rw [Addr.add_lit, ← Nat.add_assoc] at d0 d1 d2; rw [Nat.add_zero] at d0; clear hrd hne hx; have hz31 : i &&& 31 ≤ 31 := Nat.and_le_right
   have hzb : bits .and .i64 (i : Int) 31 = ((i &&& 31 : Nat) : Int) := i64_and_nat i 31 (by omega) (by omega); obtain ⟨z, hz⟩ : ∃ z, i &&& 31 = z := ⟨_, rfl⟩; rw [hz] at hz31 hzb; have hz64 : (z : Int) ≤ 64 := (by omega); clear hz; obtain ⟨wx, hwx⟩ : ∃ wx, wx = wr.alloc (.cells #[.int .i64 x.node, .int .i64 x.boot, .int .i64 x.seq] 31) := ⟨_, rfl⟩; have ox : Only [] wr wx := (by rw [hwx]; exact Only.alloc _ _); have rx : Row wx wr.heap.size 31 [.int .i64 x.node, .int .i64 x.boot, .int .i64 x.seq] := (by rw [hwx]; exact Row.newOf _ _ _ _ rfl); obtain ⟨bt, hbt⟩ : ∃ bt, (bits .and .i64 (h / 2 ^ z) 1 == 0) = bt := ⟨_, rfl⟩
   have hIx := hI.only0 ox; have Hwx := Lib.hid hwx
   cases bt with
   | false =>
    have HN : Hid (∃ us, OutK idCells 31 3 w4 wx qq mm kk us) := Lib.hid ⟨us, hIx⟩; clear hI hIx rx ox hwx; go_wp2_with fail; rw [← Hwx.out]; refine ⟨⟨i + 1, mm, kk, qq, rfl, by go_num, by omega, by omega, HN⟩, ?_⟩; show m - ((i : Int) + 1).toNat < m - ((i : Int)).toNat; omega
   | true =>
    obtain ⟨q', k', w7, Hap, hO2, -, -⟩ := hIx.push (P := Try.prog) (t := 23) Try.underlying23 Try.infoId rfl (by omega) (by omega) idCells_len idCells_one x (by omega); have HN : Hid (∃ us, OutK idCells 31 3 w4 w7 q' (mm + 1) k' us) := Lib.hid ⟨_, hO2⟩; have e0 := rx.cell (i := 0) rfl; have e1 := rx.cell (i := 1) rfl; have e2 := rx.cell (i := 2) rfl; clear hI hIx rx ox hwx hO2; unfold idCells at Hap
    go_upto_region 10 with (fail)
    rw [← Hwx.out]; clear Hwx
    go_wp2_with (first | (at_builtin; refine wpl_append (s := .tmp 39) (x := .tmp 41) rfl rfl rfl rfl Hap.out ?_))
    refine ⟨⟨i + 1, mm + 1, k', q', rfl, by go_num, by omega, by omega, HN⟩, ?_⟩; show m - ((i : Int) + 1).toNat < m - ((i : Int)).toNat; omega
  ·obtain rfl : i = m := (by omega); have HU := Lib.hid hI; have hQw : Hid (Rd wr q (ys.flatMap idCells) ∧ (q = none → i = 0 ∧ k = 0)) := Lib.hid ⟨HQ.out.1.1.only0 hI.2.2, HQ.out.1.2.1⟩; have HA := Lib.hid (HA4.out.only0 hI.2.2); have HR := Lib.hid (HR4.out.only0 hI.2.2); have HOr := Lib.hid (HO4.out.trans0 hI.2.2); obtain ⟨PS, hPS⟩ : ∃ PS, catPcs L.cat = PS := ⟨_, rfl⟩; obtain ⟨PL, hPL⟩ : ∃ PL, missL us PS = PL := ⟨_, rfl⟩; obtain ⟨SL, hSL⟩ : ∃ SL, spareL L.fs PS ys = SL := ⟨_, rfl⟩; obtain ⟨M, hM⟩ : ∃ M, PL.length = M := ⟨_, rfl⟩; obtain ⟨G, hG⟩ : ∃ G, SL.length = G := ⟨_, rfl⟩; have hpsb : PS.length ≤ 36864 := by rw [← hPS]; exact pcs_le HOk.out
   have hMb : M ≤ 36864 := by rw [← hM, ← hPL]; have := missL_len us PS; omega
   have hGb : G ≤ 401 := by
    rw [← hG, ← hSL, ← spare_doc (fs := L.fs) HOk.out.fs PS ys]; have h1 := spareR_len (fs := L.fs) HOk.out.fs PS ys ys.length; rw [List.take_length] at h1; have := HQ.out.2; omega
   have hsub : ∀ p ∈ PL, p.blob ∉ SL := fun p hp hc => by
    rw [← hPL] at hp; rw [← hSL] at hc; exact spare_named hc (List.mem_map_of_mem ((missL_inv us PS).1 p hp).1)
   have hsub2 : ∀ p ∈ PS, p.blob ∉ SL := fun p hp hc => by
    rw [← hSL] at hc; exact spare_named hc (List.mem_map_of_mem hp)
   have HPS := Lib.hid hPS; have HPL := Lib.hid hPL; have HSL := Lib.hid hSL; have HML := Lib.hid hM; have HGL := Lib.hid hG; have HSub := Lib.hid hsub; have HSub2 := Lib.hid hsub2; have Hpsb := Lib.hid hpsb; have Hml := Lib.hid HQ.out.2; clear hI hPS hPL hSL hM hG hsub hsub2 HI hpsb; have hm0 := hm4
   go_upto_region 12 with (fail)
   refine wp_region_rg2 (Only []) [[(7, none)], [], [(8, none)], [(45, some 1), (46, some 0)], [(44, some 3), (47, some 0)], [(48, some 0)]] [(11, 0)] [none, none, none, none, none, none, none, none, none, none, none, some 11, none, none, none, none, none, none, none, none, none, none, none, none, none, none, none, none, none, none, none, none, none, none, none, none, none, none, none, none, none, none, none, none, some 44, some 45, some 46, some 47, some 48, none, none, none, none, none, none, none, none, none, none, none, none, none, none, none, none, none, none, none, none, none, none, none, none, none, none, none, none, none, none, none, none, none, none, none, none, none, none, none, none, none, none, none, none, none, none, none, none, none, none, none, none, none, none, none, none, none, none, none, none, none, none, none, none, none, none, none, none, none, none, none, none, none, none] (by kernel_rfl) rfl (by kernel_rfl) (fun _ => Only.refl _ _) (fun _ _ _ h k => h.trans0 k) (Only.drew _) (by kernel_rfl) ?_
   apply rg_ev
   ·intro a w hR hf; obtain ⟨e7, -⟩ := hf; replace e7 : a.tmps.getD 7 undef = _ := e7; refine rg_plain rfl fun K hK => ?_; have rc := HR.out.only0 hR; have c0 := rc.cell (i := 0) rfl; have c1 := rc.cell (i := 1) rfl; go_simp; exact hK _ _ rfl (Only.refl _ _)
   refine ⟨Sl0K 31 3 wr.heap.size, Sl0K.stable, fun a w hR hf => ?_, ?_⟩
   ·refine rg_plain rfl fun K hK => ?_; go_simp; exact hK _ _ ⟨_, rfl, OwnK.new (K := 3) (n := 0) [] hR.size rfl (by omega)⟩ (Only.alloc _ _)
   apply rg_ev
   ·intro a w hR hf; obtain ⟨e8, -⟩ := hf; replace e8 : a.tmps.getD 8 undef = _ := e8; refine rg_plain rfl fun K hK => ?_; go_simp; exact hK _ _ rfl (Only.refl _ _)
   refine ⟨SlK idCells 31 3 wr.heap.size mm us, SlK.stable, fun a w hR hf => ?_, ?_⟩
   ·obtain ⟨e45, e46, -⟩ := hf; replace e45 : Sl0K 31 3 wr.heap.size (a.tmps.getD 45 undef) w := e45; replace e46 : a.tmps.getD 46 undef = _ := e46; refine rg_plain rfl fun K hK => ?_; obtain ⟨v', w', hra, hS, hA0⟩ := Sl0K.run (P := Try.prog) (t := 23) Try.underlying23 Try.infoId rfl (by omega) (by omega) idCells_len idCells_one (news := us) (r := mm) e45 hR.size (HU.out.rd.1.only0 hR) (HU.out.2.1) (HU.out.rd.2.1) (by omega); refine rg_append (s := .tmp 45) (x := .tmp 46) rfl rfl e46 hra ?_; exact hK _ _ hS hA0
   refine ⟨SlK pcCells 36 5 wr.heap.size M PL, SlK.stable, fun a w hR hf => ?_, ?_⟩
   ·obtain ⟨e44, e47, -⟩ := hf; replace e44 : a.tmps.getD 44 undef = _ := e44; replace e47 : SlK idCells 31 3 wr.heap.size mm us (a.tmps.getD 47 undef) w := e47; refine rg_plain rfl fun K hK => ?_; obtain ⟨q2, c2, e47v, -, hrd2, hq2⟩ := SlK.rd e47; have hc := missing_any L q2 mm c2 us w (HA.out.only0 hR) (small_of HOk.out) (by rw [HPS.out]; have := Hpsb.out; omega) HU.out.2.1 (by omega) hrd2; unfold lcV at hc; rw [HPS.out] at hc; go_simp; (with_reducible refine hc.mono ?_); rw [HPL.out]; rintro e w' ⟨q3, m3, k3, rfl, hown, hlen, o⟩; obtain rfl := hlen.symm.trans HML.out; exact hK _ _ ⟨q3, k3, rfl, hlen, hown.weaken hR.size⟩ o
   refine ⟨SlK pcCells 36 5 wr.heap.size M PL, SlK.stable, fun a w hR hf => ?_, ?_⟩
   ·obtain ⟨e48, -⟩ := hf; replace e48 : SlK pcCells 36 5 wr.heap.size M PL (a.tmps.getD 48 undef) w := e48; refine rg_plain rfl fun K hK => ?_; generalize hv48 : a.tmps.getD 48 undef = v48 at e48; go_simp; exact hK _ _ e48 (Only.refl _ _)
   intro f12 w12 hR12 hf; dsimp only [mergeT]; obtain ⟨e11, -⟩ := hf; replace e11 : SlK pcCells 36 5 wr.heap.size M PL (f12 11) w12 := e11; obtain ⟨qa, ka, ha, hla, hwa⟩ := e11; rw [ha]; have Hwa := Lib.hid hwa; have H12 := Lib.hid hR12; clear ha hla hwa hR12
   go_upto_region 13 with (fail)
   refine wp_region_rg2 (Only []) [[(7, none)], [], [(1, none)], [(50, some 1), (51, some 0)], [(49, some 3), (52, some 0)], [(53, some 0)]] [(12, 0)] [none, none, none, none, none, none, none, none, none, none, none, none, some 12, none, none, none, none, none, none, none, none, none, none, none, none, none, none, none, none, none, none, none, none, none, none, none, none, none, none, none, none, none, none, none, none, none, none, none, none, some 49, some 50, some 51, some 52, some 53, none, none, none, none, none, none, none, none, none, none, none, none, none, none, none, none, none, none, none, none, none, none, none, none, none, none, none, none, none, none, none, none, none, none, none, none, none, none, none, none, none, none, none, none, none, none, none, none, none, none, none, none, none, none, none, none, none, none, none, none, none, none, none, none, none, none, none, none, none] (by kernel_rfl) rfl (by kernel_rfl) (fun _ => Only.refl _ _) (fun _ _ _ h k => h.trans0 k) (Only.drew _) (by kernel_rfl) ?_
   apply rg_ev
   ·intro a w hR hf; obtain ⟨e7, -⟩ := hf; replace e7 : a.tmps.getD 7 undef = _ := e7; refine rg_plain rfl fun K hK => ?_; have rc := HR.out.only0 ((H12.out).trans0 hR); have c0 := rc.cell (i := 0) rfl; have c1 := rc.cell (i := 1) rfl; go_simp; exact hK _ _ rfl (Only.refl _ _)
   refine ⟨Sl0K 31 3 w12.heap.size, Sl0K.stable, fun a w hR hf => ?_, ?_⟩
   ·refine rg_plain rfl fun K hK => ?_; go_simp; exact hK _ _ ⟨_, rfl, OwnK.new (K := 3) (n := 0) [] hR.size rfl (by omega)⟩ (Only.alloc _ _)
   apply rg_ev
   ·intro a w hR hf; obtain ⟨e1, -⟩ := hf; replace e1 : a.tmps.getD 1 undef = _ := e1; refine rg_plain rfl fun K hK => ?_; go_simp; exact hK _ _ rfl (Only.refl _ _)
   refine ⟨SlK idCells 31 3 w12.heap.size i ys, SlK.stable, fun a w hR hf => ?_, ?_⟩
   ·obtain ⟨e50, e51, -⟩ := hf; replace e50 : Sl0K 31 3 w12.heap.size (a.tmps.getD 50 undef) w := e50; replace e51 : a.tmps.getD 51 undef = _ := e51; refine rg_plain rfl fun K hK => ?_; obtain ⟨v', w', hra, hS, hA0⟩ := Sl0K.run (P := Try.prog) (t := 23) Try.underlying23 Try.infoId rfl (by omega) (by omega) idCells_len idCells_one (news := ys) (r := i) e50 hR.size (hQw.out.1.only0 (H12.out.trans0 hR)) (Hml.out) (hQw.out.2) (by omega); refine rg_append (s := .tmp 50) (x := .tmp 51) rfl rfl e51 hra ?_; exact hK _ _ hS hA0
   refine ⟨SlK idCells 31 3 w12.heap.size G SL, SlK.stable, fun a w hR hf => ?_, ?_⟩
   ·obtain ⟨e49, e52, -⟩ := hf; replace e49 : a.tmps.getD 49 undef = _ := e49; replace e52 : SlK idCells 31 3 w12.heap.size i ys (a.tmps.getD 52 undef) w := e52; refine rg_plain rfl fun K hK => ?_; obtain ⟨q2, c2, e52v, -, hrd2, hq2⟩ := SlK.rd e52; have hc := spare_any L q2 i c2 ys w (HA.out.only0 (H12.out.trans0 hR)) (small_of HOk.out) HOk.out.fs Hml.out (by omega) hq2 hrd2; unfold lcV at hc; rw [HPS.out] at hc; go_simp; (with_reducible refine hc.mono ?_); rw [HSL.out]; rintro e w' ⟨q3, m3, k3, rfl, hown, hlen, o⟩; obtain rfl := hlen.symm.trans HGL.out; exact hK _ _ ⟨q3, k3, rfl, hlen, hown.weaken hR.size⟩ o
   refine ⟨SlK idCells 31 3 w12.heap.size G SL, SlK.stable, fun a w hR hf => ?_, ?_⟩
   ·obtain ⟨e53, -⟩ := hf; replace e53 : SlK idCells 31 3 w12.heap.size G SL (a.tmps.getD 53 undef) w := e53; refine rg_plain rfl fun K hK => ?_; generalize hv53 : a.tmps.getD 53 undef = v53 at e53; go_simp; exact hK _ _ e53 (Only.refl _ _)
   intro f13 w13 hR13 hf; dsimp only [mergeT]; obtain ⟨e12, -⟩ := hf; replace e12 : SlK idCells 31 3 w12.heap.size G SL (f13 12) w13 := e12; obtain ⟨qs, ks, hs, hls, hws⟩ := e12; rw [hs]; have Hws := Lib.hid hws; have H13 := Lib.hid hR13; have HO13 := Lib.hid (H12.out.trans0 hR13); clear hs hls hws hR13; have rc := HR.out.only0 HO13.out; have c0 := rc.cell (i := 0) rfl; have c1 := rc.cell (i := 1) rfl; have hwant := ref22Missing_any L qq mm kk us w13 (HA.out.only0 HO13.out) (small_of HOk.out) (by rw [HPS.out]; have := Hpsb.out; omega) HU.out.2.1 (by omega) (HU.out.rd.1.only0 HO13.out); unfold lcV at hwant
   rw [HPS.out, HPL.out] at hwant; clear rc; go_wp2_with fail; (with_reducible refine hwant.mono ?_); clear hwant c0 c1; rintro e w14 ⟨qb, mb, kb, rfl, hwb⟩; obtain rfl := hwb.2.1.symm.trans HML.out; have Hwb := Lib.hid hwb; have HO14 := Lib.hid (HO13.out.trans0 hwb.2.2); clear hwb; have rc := HR.out.only0 HO14.out; have c0 := rc.cell (i := 0) rfl; have c1 := rc.cell (i := 1) rfl; have hgone := ref22Spare_any L q i k ys w14 (HA.out.only0 HO14.out) (small_of HOk.out) (by rw [HPS.out]; have := Hpsb.out; omega) HOk.out.fs (by have : L.fs.length ≤ 16 := HOk.out.flen; omega) Hml.out (by omega) (hQw.out.1.only0 HO14.out)
   unfold lcV at hgone; rw [HPS.out, spare_doc (fs := L.fs) HOk.out.fs PS ys, HSL.out] at hgone; clear rc; go_wp2_with fail; (with_reducible refine hgone.mono ?_); clear hgone c0 c1; rintro e w15 ⟨qg, mg, kg, rfl, hwg⟩; obtain rfl := hwg.2.1.symm.trans HGL.out; have Hwg := Lib.hid hwg; have H15 := Lib.hid (HO14.out.trans0 hwg.2.2); have H1315 := Lib.hid (Hwb.out.2.2.trans0 hwg.2.2); clear hwg; have HWA := Lib.hid (Hwa.out.only0 (H13.out.trans0 H1315.out)); have HWS := Lib.hid (Hws.out.only0 H1315.out); have HWB := Lib.hid (Hwb.out.1.only0 Hwg.out.2.2); have HWG := Lib.hid Hwg.out.1; go_wp2_with fail
   go_loopw [74] (fun a wl => ∃ (j : Nat), a = .int .i64 (j : Int) ∧ j ≤ mb ∧ Hid (Only [] w15 wl)) (fun a _ => mb - (intOf a).toNat)
   case atStart => exact ⟨0, rfl, Nat.zero_le _, Lib.hid (Only.refl _ _)⟩
   case round =>
    obtain ⟨j, rfl, hj, HOl⟩ := hrel
    by_cases hlt : j < mb
    ·obtain ⟨x, hx⟩ : ∃ x, PL[j]? = some x := ⟨_, List.getElem?_eq_getElem (by rw [HML.out]; exact hlt)⟩; obtain ⟨ga, hga, -, -⟩ := HWA.out.at (by omega); obtain ⟨gb, hgb, -, -⟩ := HWB.out.at (by omega); have hra := (HWA.out.only0 HOl.out).view.2.2.1; have hrb := (HWB.out.only0 HOl.out).view.2.2.1; subst hga hgb; have a0 := rd_elem pcCells_len hra hx (r := 0) rfl; have a1 := rd_elem pcCells_len hra hx (r := 1) rfl; have a2 := rd_elem pcCells_len hra hx (r := 2) rfl; have a3 := rd_elem pcCells_len hra hx (r := 3) rfl; have a4 := rd_elem pcCells_len hra hx (r := 4) rfl; rw [Addr.add_lit, Nat.zero_add] at a0 a1 a2 a3 a4
     rw [Nat.add_zero] at a0; have b0 := rd_elem pcCells_len hrb hx (r := 0) rfl; have b1 := rd_elem pcCells_len hrb hx (r := 1) rfl; have b2 := rd_elem pcCells_len hrb hx (r := 2) rfl; have b3 := rd_elem pcCells_len hrb hx (r := 3) rfl; have b4 := rd_elem pcCells_len hrb hx (r := 4) rfl; rw [Addr.add_lit, Nat.zero_add] at b0 b1 b2 b3 b4; rw [Nat.add_zero] at b0; have Ha := Lib.hid (And.intro a0 (And.intro a1 (And.intro a2 (And.intro a3 a4)))); have Hb := Lib.hid (And.intro b0 (And.intro b1 (And.intro b2 (And.intro b3 b4)))); have Hin : Hid (decide (x.blob ∈ SL) = false) := Lib.hid (decide_eq_false (HSub.out x (List.mem_of_getElem? hx)))
     have Hji : Hid ((j : Int) < (mb : Int)) := Lib.hid (by omega); have Hjl := Lib.hid hlt; clear hx hra hrb a0 a1 a2 a3 a4 b0 b1 b2 b3 b4
     go_upto_region 21 with (fail)
     refine wp_region_rg2 (Only []) [[(11, none)], [(15, none)], [(77, some 1), (78, some 0)], [(79, some 0)], [(13, none)], [(15, none)], [(81, some 1), (82, some 0)], [(83, some 0)], [(80, some 4), (84, some 0)], [(85, some 0)], [(86, some 0), (12, none)], [(86, some 1), (13, none)], [(86, some 2), (15, none)], [(86, some 3), (88, some 1), (89, some 0)], [(86, some 4), (90, some 0)], [(86, some 5), (91, some 0)], [(86, some 6), (87, some 5), (92, some 0)], [(86, some 7), (93, some 0)]] [(94, 0)] [none, none, none, none, none, none, none, none, none, none, none, none, none, none, none, none, none, none, none, none, none, none, none, none, none, none, none, none, none, none, none, none, none, none, none, none, none, none, none, none, none, none, none, none, none, none, none, none, none, none, none, none, none, none, none, none, none, none, none, none, none, none, none, none, none, none, none, none, none, none, none, none, none, none, none, none, none, some 77, some 78, some 79, some 80, some 81, some 82, some 83, some 84, some 85, some 86, some 87, some 88, some 89, some 90, some 91, some 92, some 93, some 94, none, none, none, none, none, none, none, none, none, none, none, none, none, none, none, none, none, none, none, none, none, none, none, none, none, none, none, none] (by kernel_rfl) rfl (by kernel_rfl) (fun _ => Only.refl _ _) (fun _ _ _ h k => h.trans0 k) (Only.drew _) (by kernel_rfl) ?_
     apply rg_ev
     ·intro a w hR hf; obtain ⟨e11, -⟩ := hf; replace e11 : a.tmps.getD 11 undef = _ := e11; refine rg_plain rfl fun K hK => ?_; go_simp; exact hK _ _ rfl (Only.refl _ _)
     apply rg_ev
     ·intro a w hR hf; obtain ⟨e15, -⟩ := hf; replace e15 : a.tmps.getD 15 undef = _ := e15; refine rg_plain rfl fun K hK => ?_; go_simp; exact hK _ _ rfl (Only.refl _ _)
     apply rg_ev
     ·intro a w hR hf; obtain ⟨e77, e78, -⟩ := hf; replace e77 : a.tmps.getD 77 undef = _ := e77; replace e78 : a.tmps.getD 78 undef = _ := e78; refine rg_plain rfl fun K hK => ?_; have hji := Hji.out; have hjl := Hjl.out; go_simp; exact hK _ _ rfl (Only.refl _ _)
     apply rg_ev
     ·intro a w hR hf; obtain ⟨e79, -⟩ := hf; replace e79 : a.tmps.getD 79 undef = _ := e79; refine rg_plain rfl fun K hK => ?_; have a0 := hR.cell Ha.out.1 (by simp); have a1 := hR.cell Ha.out.2.1 (by simp); have a2 := hR.cell Ha.out.2.2.1 (by simp); have a3 := hR.cell Ha.out.2.2.2.1 (by simp); have a4 := hR.cell Ha.out.2.2.2.2 (by simp); go_simp; exact hK _ _ rfl (Only.refl _ _)
     apply rg_ev
     ·intro a w hR hf; obtain ⟨e13, -⟩ := hf; replace e13 : a.tmps.getD 13 undef = _ := e13; refine rg_plain rfl fun K hK => ?_; go_simp; exact hK _ _ rfl (Only.refl _ _)
     apply rg_ev
     ·intro a w hR hf; obtain ⟨e15, -⟩ := hf; replace e15 : a.tmps.getD 15 undef = _ := e15; refine rg_plain rfl fun K hK => ?_; go_simp; exact hK _ _ rfl (Only.refl _ _)
     apply rg_ev
     ·intro a w hR hf; obtain ⟨e81, e82, -⟩ := hf; replace e81 : a.tmps.getD 81 undef = _ := e81; replace e82 : a.tmps.getD 82 undef = _ := e82; refine rg_plain rfl fun K hK => ?_; have hji := Hji.out; have hjl := Hjl.out; go_simp; exact hK _ _ rfl (Only.refl _ _)
     apply rg_ev
     ·intro a w hR hf; obtain ⟨e83, -⟩ := hf; replace e83 : a.tmps.getD 83 undef = _ := e83; refine rg_plain rfl fun K hK => ?_; have b0 := hR.cell Hb.out.1 (by simp); have b1 := hR.cell Hb.out.2.1 (by simp); have b2 := hR.cell Hb.out.2.2.1 (by simp); have b3 := hR.cell Hb.out.2.2.2.1 (by simp); have b4 := hR.cell Hb.out.2.2.2.2 (by simp); go_simp; exact hK _ _ rfl (Only.refl _ _)
     refine ⟨EV (.bool false), EV.stable _, fun a w hR hf => ?_, ?_⟩
     ·obtain ⟨e80, e84, -⟩ := hf; replace e80 : a.tmps.getD 80 undef = _ := e80; replace e84 : a.tmps.getD 84 undef = _ := e84; refine rg_plain rfl fun K hK => ?_; have q := eqPc x x; unfold pcV at q; simp only [decide_true] at q; go_simp; exact hK _ _ rfl (Only.refl _ _)
     refine ⟨EV (.bool false), EV.stable _, fun a w hR hf => ?_, ?_⟩
     ·obtain ⟨e85, -⟩ := hf; replace e85 : EV (.bool false) (a.tmps.getD 85 undef) w := e85; refine rg_plain rfl fun K hK => ?_; generalize hv85 : a.tmps.getD 85 undef = v85 at e85; go_simp; exact hK _ _ e85 (Only.refl _ _)
     apply rg_ev
     ·intro a w hR hf; obtain ⟨e86, e12, -⟩ := hf; replace e86 : EV (.bool false) (a.tmps.getD 86 undef) w := e86; replace e12 : a.tmps.getD 12 undef = _ := e12; refine rg_want rfl rfl e86 fun K hK => ?_; clear e86; go_simp; exact hK _ _ rfl (Only.refl _ _)
     apply rg_ev
     ·intro a w hR hf; obtain ⟨e86, e13, -⟩ := hf; replace e86 : EV (.bool false) (a.tmps.getD 86 undef) w := e86; replace e13 : a.tmps.getD 13 undef = _ := e13; refine rg_want rfl rfl e86 fun K hK => ?_; clear e86; go_simp; exact hK _ _ rfl (Only.refl _ _)
     apply rg_ev
     ·intro a w hR hf; obtain ⟨e86, e15, -⟩ := hf; replace e86 : EV (.bool false) (a.tmps.getD 86 undef) w := e86; replace e15 : a.tmps.getD 15 undef = _ := e15; refine rg_want rfl rfl e86 fun K hK => ?_; clear e86; go_simp; exact hK _ _ rfl (Only.refl _ _)
     apply rg_ev
     ·intro a w hR hf; obtain ⟨e86, e88, e89, -⟩ := hf; replace e86 : EV (.bool false) (a.tmps.getD 86 undef) w := e86; replace e88 : a.tmps.getD 88 undef = _ := e88; replace e89 : a.tmps.getD 89 undef = _ := e89; refine rg_want rfl rfl e86 fun K hK => ?_; clear e86; have hji := Hji.out; have hjl := Hjl.out; go_simp; exact hK _ _ rfl (Only.refl _ _)
     apply rg_ev
     ·intro a w hR hf; obtain ⟨e86, e90, -⟩ := hf; replace e86 : EV (.bool false) (a.tmps.getD 86 undef) w := e86; replace e90 : a.tmps.getD 90 undef = _ := e90; refine rg_want rfl rfl e86 fun K hK => ?_; clear e86; go_simp; exact hK _ _ rfl (Only.refl _ _)
     apply rg_ev
     ·intro a w hR hf; obtain ⟨e86, e91, -⟩ := hf; replace e86 : EV (.bool false) (a.tmps.getD 86 undef) w := e86; replace e91 : a.tmps.getD 91 undef = _ := e91; refine rg_want rfl rfl e86 fun K hK => ?_; clear e86; have b0 := hR.cell Hb.out.1 (by simp); have b1 := hR.cell Hb.out.2.1 (by simp); have b2 := hR.cell Hb.out.2.2.1 (by simp); go_simp; exact hK _ _ rfl (Only.refl _ _)
     refine ⟨EV (.bool false), EV.stable _, fun a w hR hf => ?_, ?_⟩
     ·obtain ⟨e86, e87, e92, -⟩ := hf; replace e86 : EV (.bool false) (a.tmps.getD 86 undef) w := e86; replace e87 : a.tmps.getD 87 undef = _ := e87; replace e92 : a.tmps.getD 92 undef = _ := e92; refine rg_want rfl rfl e86 fun K hK => ?_; clear e86; go_simp; have hle := in22_any qs mg ks SL x.blob w HGL.out (by omega) ((HWS.out.only0 (HOl.out.trans0 hR)).view.2.2.1); rw [Hin.out] at hle; unfold idV at hle; (with_reducible refine hle.mono ?_); rintro e w' ⟨rfl, o⟩; exact hK _ _ rfl o
     refine ⟨EV (.bool false), EV.stable _, fun a w hR hf => ?_, ?_⟩
     ·obtain ⟨e86, e93, -⟩ := hf; replace e86 : EV (.bool false) (a.tmps.getD 86 undef) w := e86; replace e93 : EV (.bool false) (a.tmps.getD 93 undef) w := e93; refine rg_plain rfl fun K hK => ?_; have e86q : a.tmps.getD 86 undef = .bool false := e86; have e93q : a.tmps.getD 93 undef = .bool false := e93; rw [Array.getD_eq_getD_getElem?] at e86q e93q; go_simp; exact hK _ _ rfl (Only.refl _ _)
     intro f21 w21 hR21 hf; dsimp only [mergeT]; obtain ⟨e94, -⟩ := hf; replace e94 : EV (.bool false) (f21 94) w21 := e94; have e94q : f21 94 = .bool false := e94; rw [e94q]; clear e94 e94q; have HN := Lib.hid (HOl.out.trans0 hR21); clear hR21 HOl; go_wp2_with fail; refine ⟨⟨j + 1, by go_num, by omega, HN⟩, ?_⟩; show mb - ((j : Int) + 1).toNat < mb - ((j : Int)).toNat; omega
    ·obtain rfl : j = mb := (by omega); go_wp2_with fail
     go_loopw [98] (fun a wl => ∃ (t : Nat), a = .int .i64 (t : Int) ∧ t ≤ mg ∧ Hid (Only [] w15 wl)) (fun a _ => mg - (intOf a).toNat)
     case atStart => exact ⟨0, rfl, Nat.zero_le _, HOl⟩
     case round =>
      clear HOl; obtain ⟨t, rfl, ht, HOl⟩ := hrel
      by_cases hlt : t < mg
      ·obtain ⟨x, hx⟩ : ∃ x, SL[t]? = some x := ⟨_, List.getElem?_eq_getElem (by rw [HGL.out]; exact hlt)⟩; obtain ⟨ga, hga, -, -⟩ := HWS.out.at (by omega); obtain ⟨gb, hgb, -, -⟩ := HWG.out.at (by omega); have hra := (HWS.out.only0 HOl.out).view.2.2.1; have hrb := (HWG.out.only0 HOl.out).view.2.2.1; subst hga hgb; have a0 := rd_elem idCells_len hra hx (r := 0) rfl; have a1 := rd_elem idCells_len hra hx (r := 1) rfl; have a2 := rd_elem idCells_len hra hx (r := 2) rfl; rw [Addr.add_lit, Nat.zero_add] at a0 a1 a2; rw [Nat.add_zero] at a0; have b0 := rd_elem idCells_len hrb hx (r := 0) rfl; have b1 := rd_elem idCells_len hrb hx (r := 1) rfl
       have b2 := rd_elem idCells_len hrb hx (r := 2) rfl; rw [Addr.add_lit, Nat.zero_add] at b0 b1 b2; rw [Nat.add_zero] at b0; have Ha := Lib.hid (And.intro a0 (And.intro a1 a2)); have Hb := Lib.hid (And.intro b0 (And.intro b1 b2)); have Hji : Hid ((t : Int) < (mg : Int)) := Lib.hid (by omega); have Hjl := Lib.hid hlt; clear hx hra hrb a0 a1 a2 b0 b1 b2
       go_upto_region 27 with (fail)
       refine wp_region_rg2 (Only []) [[(12, none)], [(16, none)], [(101, some 1), (102, some 0)], [(103, some 0)], [(14, none)], [(16, none)], [(105, some 1), (106, some 0)], [(107, some 0)], [(104, some 4), (108, some 0)]] [(109, 0)] [none, none, none, none, none, none, none, none, none, none, none, none, none, none, none, none, none, none, none, none, none, none, none, none, none, none, none, none, none, none, none, none, none, none, none, none, none, none, none, none, none, none, none, none, none, none, none, none, none, none, none, none, none, none, none, none, none, none, none, none, none, none, none, none, none, none, none, none, none, none, none, none, none, none, none, none, none, none, none, none, none, none, none, none, none, none, none, none, none, none, none, none, none, none, none, none, none, none, none, none, none, some 101, some 102, some 103, some 104, some 105, some 106, some 107, some 108, some 109, none, none, none, none, none, none, none, none, none, none, none, none, none] (by kernel_rfl) rfl (by kernel_rfl) (fun _ => Only.refl _ _) (fun _ _ _ h k => h.trans0 k) (Only.drew _) (by kernel_rfl) ?_
       apply rg_ev
       ·intro a w hR hf; obtain ⟨e12, -⟩ := hf; replace e12 : a.tmps.getD 12 undef = _ := e12; refine rg_plain rfl fun K hK => ?_; go_simp; exact hK _ _ rfl (Only.refl _ _)
       apply rg_ev
       ·intro a w hR hf; obtain ⟨e16, -⟩ := hf; replace e16 : a.tmps.getD 16 undef = _ := e16; refine rg_plain rfl fun K hK => ?_; go_simp; exact hK _ _ rfl (Only.refl _ _)
       apply rg_ev
       ·intro a w hR hf; obtain ⟨e101, e102, -⟩ := hf; replace e101 : a.tmps.getD 101 undef = _ := e101; replace e102 : a.tmps.getD 102 undef = _ := e102; refine rg_plain rfl fun K hK => ?_; have hji := Hji.out; have hjl := Hjl.out; go_simp; exact hK _ _ rfl (Only.refl _ _)
       apply rg_ev
       ·intro a w hR hf; obtain ⟨e103, -⟩ := hf; replace e103 : a.tmps.getD 103 undef = _ := e103; refine rg_plain rfl fun K hK => ?_; have a0 := hR.cell Ha.out.1 (by simp); have a1 := hR.cell Ha.out.2.1 (by simp); have a2 := hR.cell Ha.out.2.2 (by simp); go_simp; exact hK _ _ rfl (Only.refl _ _)
       apply rg_ev
       ·intro a w hR hf; obtain ⟨e14, -⟩ := hf; replace e14 : a.tmps.getD 14 undef = _ := e14; refine rg_plain rfl fun K hK => ?_; go_simp; exact hK _ _ rfl (Only.refl _ _)
       apply rg_ev
       ·intro a w hR hf; obtain ⟨e16, -⟩ := hf; replace e16 : a.tmps.getD 16 undef = _ := e16; refine rg_plain rfl fun K hK => ?_; go_simp; exact hK _ _ rfl (Only.refl _ _)
       apply rg_ev
       ·intro a w hR hf; obtain ⟨e105, e106, -⟩ := hf; replace e105 : a.tmps.getD 105 undef = _ := e105; replace e106 : a.tmps.getD 106 undef = _ := e106; refine rg_plain rfl fun K hK => ?_; have hji := Hji.out; have hjl := Hjl.out; go_simp; exact hK _ _ rfl (Only.refl _ _)
       apply rg_ev
       ·intro a w hR hf; obtain ⟨e107, -⟩ := hf; replace e107 : a.tmps.getD 107 undef = _ := e107; refine rg_plain rfl fun K hK => ?_; have b0 := hR.cell Hb.out.1 (by simp); have b1 := hR.cell Hb.out.2.1 (by simp); have b2 := hR.cell Hb.out.2.2 (by simp); go_simp; exact hK _ _ rfl (Only.refl _ _)
       refine ⟨EV (.bool false), EV.stable _, fun a w hR hf => ?_, ?_⟩
       ·obtain ⟨e104, e108, -⟩ := hf; replace e104 : a.tmps.getD 104 undef = _ := e104; replace e108 : a.tmps.getD 108 undef = _ := e108; refine rg_plain rfl fun K hK => ?_; have q := eqId x x; unfold idV at q; simp only [decide_true] at q; go_simp; exact hK _ _ rfl (Only.refl _ _)
       intro f27 w27 hR27 hf; dsimp only [mergeT]; obtain ⟨e109, -⟩ := hf; replace e109 : EV (.bool false) (f27 109) w27 := e109; have e109q : f27 109 = .bool false := e109; rw [e109q]; clear e109 e109q; have HN := Lib.hid (HOl.out.trans0 hR27); clear hR27 HOl; go_wp2_with fail; refine ⟨⟨t + 1, by go_num, by omega, HN⟩, ?_⟩; show mg - ((t : Int) + 1).toNat < mg - ((t : Int)).toNat; omega
      ·obtain rfl : t = mg := (by omega); have HOz := Lib.hid (H15.out.trans0 HOl.out); have rc := HR.out.only0 HOz.out; have c0 := rc.cell (i := 0) rfl; have c1 := rc.cell (i := 1) rfl; have hbl := ref11Blobs_any L wr (HA.out.only0 HOz.out) (small_of HOk.out) (by rw [HPS.out]; have := Hpsb.out; omega); unfold lcV at hbl; rw [HPS.out] at hbl; clear rc; go_wp2_with fail; (with_reducible refine hbl.mono ?_); clear hbl c0 c1; rintro e w20 ⟨qp, mp, kp, rfl, hwp⟩; have HWP := Lib.hid hwp.1; have Hmp := Lib.hid hwp.2.1; have H20 := Lib.hid (HOz.out.trans0 hwp.2.2); have HS20 := Lib.hid (HWS.out.only0 (HOl.out.trans0 hwp.2.2))
       have hmpb : mp ≤ 36864 := (by rw [← hwp.2.1]; exact Hpsb.out); clear hwp; go_wp2_with fail
       go_loopw [114] (fun a wl => ∃ (u : Nat), a = .int .i64 (u : Int) ∧ u ≤ mp ∧ Hid (Only [] w20 wl)) (fun a _ => mp - (intOf a).toNat)
       case atStart => exact ⟨0, rfl, Nat.zero_le _, Lib.hid (Only.refl _ _)⟩
       case round =>
        clear HOl; obtain ⟨u, rfl, hu, HOl⟩ := hrel
        by_cases hlt : u < mp
        ·obtain ⟨x, hx⟩ : ∃ x, PS[u]? = some x := ⟨_, List.getElem?_eq_getElem (by rw [Hmp.out]; exact hlt)⟩; obtain ⟨ga, hga, -, -⟩ := HWP.out.at (by omega); have hra := (HWP.out.only0 HOl.out).view.2.2.1; subst hga; have a0 := rd_elem pcCells_len hra hx (r := 0) rfl; have a1 := rd_elem pcCells_len hra hx (r := 1) rfl; have a2 := rd_elem pcCells_len hra hx (r := 2) rfl; have a3 := rd_elem pcCells_len hra hx (r := 3) rfl; have a4 := rd_elem pcCells_len hra hx (r := 4) rfl; rw [Addr.add_lit, Nat.zero_add] at a0 a1 a2 a3 a4; rw [Nat.add_zero] at a0; obtain ⟨wy, hwy⟩ : ∃ wy, wy = wr.alloc (.cells #[.int .i64 x.blob.node, .int .i64 x.blob.boot, .int .i64 x.blob.seq, .int .i64 x.size, .string (str x.etag)] 36) := ⟨_, rfl⟩
         have oy : Only [] wr wy := (by rw [hwy]; exact Only.alloc _ _); have ry : Row wy wr.heap.size 36 [.int .i64 x.blob.node, .int .i64 x.blob.boot, .int .i64 x.blob.seq, .int .i64 x.size, .string (str x.etag)] := (by rw [hwy]; exact Row.newOf _ _ _ _ rfl); have e0 := ry.cell (i := 0) rfl; have e1 := ry.cell (i := 1) rfl; have e2 := ry.cell (i := 2) rfl; have hin := in22_any qs t ks SL x.blob wy HGL.out (by omega) ((HS20.out.only0 (HOl.out.trans0 oy)).view.2.2.1); rw [decide_eq_false (HSub2.out x (List.mem_of_getElem? hx))] at hin; unfold idV at hin; have HN := Lib.hid (HOl.out.trans0 oy); rw [hwy] at hin e0 e1 e2
         have Hwy := Lib.hid hwy; clear hx hra oy ry hwy HOl; go_wp2_with fail; (with_reducible refine hin.mono ?_); clear hin e0 e1 e2 a0 a1 a2 a3 a4; rw [← Hwy.out]; rintro e w21 ⟨rfl, o21⟩; have HN2 := Lib.hid (HN.out.trans0 o21); clear o21 HN; go_wp2_with fail; refine ⟨⟨u + 1, by go_num, by omega, HN2⟩, ?_⟩; show mp - ((u : Int) + 1).toNat < mp - ((u : Int)).toNat; omega
        ·obtain rfl : u = mp := (by omega); go_wp2_with fail
         go_ret
         exact ⟨rfl, HOr.out.trans0 (H20.out.trans0 HOl.out)⟩
end Go.Proofs.Ytfeglnpmpgipiaa
end
section
set_option linter.unusedVariables false
set_option maxRecDepth 100000
namespace Go.Proofs.Ytfeglnpmpgipiaa
open Go.ChangeShapes Go.WideShapes Go.ChangeAt Go.RowKit
theorem healPlans_contract (H : Type) (enc : TypeId × Value → H) (W : World) (base : Nat) (args : Array Value) (ds gs : List (DataW H)) (before : List MemPlace)
  (hval0 : ∀ (j : Nat) t v, Try.f3.params[j]? = some t → args[j]? = some v → Value.okWide Try.prog W .any base t v)
  (hW : DataW.Whole enc Try.prog Try.f3.params.toList Rows.healPlansSpec.vars false W args.toList ds gs before)
  (hsz0 : (DataW.weightsEach Try.prog (Try.f3.params.toList ++ Rows.healPlansSpec.plain.varTypes Try.prog) (ds ++ gs)).all (· ≤ reachBytes) = true) :
  Calls Try.prog 3 args W fun e W' => ∃ v, e = .returned v ∧ Rows.healPlansSpec.post enc Try.prog Try.f3 false true false false W args v W' := by
 have hval : ∀ (j : Nat) t v, Try.f3.params[j]? = some t → args[j]? = some v → Value.okWide Try.prog W .any base t v := hval0; have hW' := hW; obtain ⟨p, q, hA0, hV, rfl, hfz, hnd⟩ := hW; have hA : DataW.TrodAll enc Try.prog W 0 (fun _ => true) true Try.f3.params.toList args.toList ds p := hA0; rw [Try.params3] at hA hval hsz0; obtain ⟨v0, vs0, d0, ds0, pp0, q0, hargs, rfl, rfl, h0, r0⟩ := trodAll_cons hA; obtain ⟨v1, vs1, d1, ds1, pp1, q1, rfl, rfl, rfl, h1, r1⟩ := trodAll_cons r0; obtain ⟨v2, vs2, d2, ds2, pp2, q2, rfl, rfl, rfl, h2, r2⟩ := trodAll_cons r1; obtain ⟨rfl, rfl, rfl⟩ := trodAll_nil r2
 obtain rfl : args = #[v0, v1, v2] := (by cases args; simp_all); obtain ⟨rfl, rfl⟩ := trodVars_none hV; have fit0 := fits_arg hsz0 (j := 0) rfl rfl; have fit1 := fits_arg hsz0 (j := 1) rfl rfl; obtain ⟨fu0, t0⟩ := arg_slice Try.underlying22 (hval 0 _ v0 rfl rfl) h0; obtain ⟨p0, n0, k0, os0, rfl, l0, b0, g0, z0, wt0, acts0⟩ := open_cmds t0 fit0; obtain ⟨fu1, t1⟩ := arg_slice Try.underlying23 (hval 1 _ v1 rfl rfl) h1; obtain ⟨p1, n1, k1, os1, rfl, l1, b1, g1, z1, wt1, acts1⟩ := open_ids t1 fit1; obtain ⟨fu2, t2⟩ := arg_int Try.underlying3 (hval 2 _ v2 rfl rfl) h2; obtain ⟨a2, rfl, b2⟩ := open_i64 Try.underlying3 t2
 refine (healPlans_any p0 n0 k0 os0 p1 n1 k1 os1 a2 W l0 (by have hr : reachBytes ≤ 140737488355328 := (by decide); omega) acts0.1 acts0.2 l1 (by have hr : reachBytes ≤ 140737488355328 := (by decide); omega) acts1).mono fun e W' ⟨he, ho⟩ => ⟨_, he, ?_⟩; exact law_post laidOut (by kernel_rfl) rfl rfl Try.underlying4 hW' rfl rfl rfl ho.below
set_option maxRecDepth 100000 in
theorem healPlans_lifted (os : Os) (started : os.Started) (H : Type) (enc : TypeId × Value → H) :
  ReturnsInHanded {} Try.checked os 3 .any (Rows.healPlansSpec.pre6 enc Try.prog Try.f3 Rows.healPlansRow.domain false) (Rows.healPlansSpec.post enc Try.prog Try.f3 false true false false) := by
 refine returnsInHanded_of_change_sized (C := Try.checked) own started (by kernel_rfl) Try.func3
  (ChangeSpec.witness6 (enc := enc) (C := Try.checked) false ⟨#[], #[.slice none 0 0, .slice none 0 0, .int .i64 0], []⟩ 8 (by kernel_rfl) (by kernel_rfl) (by kernel_rfl) (by kernel_rfl)) ?_
 intro W base args ds gs before hval hW _ hsz _; exact healPlans_contract H enc W base args ds gs before hval hW hsz
theorem healPlans_proved : Rows.HealPlansSaid :=
 OpenClaim.holds_of_wide 3 Try.f3 rfl rfl rfl rfl rfl rfl rfl ⟨rfl, rfl, rfl, rfl, rfl⟩ rfl rfl rfl rfl rfl (by kernel_rfl) Try.func3 (by kernel_rfl)
  (of_decide_eq_true (by kernel_rfl)) (by unfold Func.isWrapper; first | (rw [if_pos (by decide +kernel)]; kernel_rfl) | (rw [if_neg (by decide +kernel)]; exact ⟨rfl, rfl⟩))
  (fun os started H enc _ => healPlans_lifted os started H enc)
end Go.Proofs.Ytfeglnpmpgipiaa
end
