/- EndsPk, part 22: MadeW, HealEndsW, HealEndsProof. -/
import Derived.Test.YtfeglnpmpgipiaaEndsPk02
import Derived.Test.YtfeglnpmpgipiaaEndsPk07
import Derived.Test.YtfeglnpmpgipiaaEndsPk10
import Derived.Test.YtfeglnpmpgipiaaEndsPk19
import Derived.Test.YtfeglnpmpgipiaaEndsPk20
import Derived.Test.YtfeglnpmpgipiaaEndsPk21
import Derived.Deep.MidRow
set_option linter.unusedVariables false
set_option maxRecDepth 100000
section
set_option linter.unusedVariables false
set_option maxRecDepth 100000
namespace Go.Proofs.Ytfeglnpmpgipiaa
open Go.RowKit
theorem load_cm {w : World} {bq off i : Nat} {ms : List LCmd} {m : LCmd} (hrd : Rd w (some ⟨bq, off, none⟩) (ms.flatMap lmCells)) (hi : ms[i]? = some m) : (Instr.loadAt 43 (.pointer (some ⟨bq, off + i * 18, none⟩))).run Try.prog w = .ok (lmV m) w :=
 run_loadAt_mid (P := Try.prog) w bq (off + i * 18) 43 (lmCells m) _ (fun j v hv => by
  have := rd_elem lmCells_len hrd hi (r := j) hv; rw [Addr.add_lit, ← Nat.add_assoc] at this
  exact this) Try.underlying43 rfl cmInfo
set_option maxHeartbeats 16000000 in
theorem made22_any (p : Option Addr) (n c : Nat) (ms : List LCmd) (w0 : World) (hn : ms.length = n) (hnb : n ≤ 4611686018427387904) (hx : Rd w0 p (ms.flatMap lmCells)) (hms : CmsAt w0 ms) :
  Calls Try.prog 6 #[.slice p n c] w0 fun e w' => ∃ L, e = .returned (lcV L) ∧ CatAt w' L ∧ CatOk L.cat ∧ Only [] w0 w' := by
 obtain ⟨w1, hw1⟩ : ∃ w1, w1 = w0.alloc (.cells #[.slice none 0 0, .slice none 0 0] 27) := ⟨_, rfl⟩; have o1 : Only [] w0 w1 := (by rw [hw1]; exact Only.alloc _ _); have s1 : w1.heap.size = w0.heap.size + 1 := (by rw [hw1]; simp); have r1 : Row w1 w0.heap.size 27 [.slice none 0 0, .slice none 0 0] := (by rw [hw1]; exact Row.newOf _ _ _ _ rfl); obtain ⟨w2, hw2⟩ : ∃ w2, w2 = w1.alloc (.cells #[.slice none 0 0, .slice none 0 0] 27) := ⟨_, rfl⟩; have o2 : Only [] w1 w2 := (by rw [hw2]; exact Only.alloc _ _); have s2 : w2.heap.size = w0.heap.size + 1 + 1 := (by rw [hw2]; simp [s1]); have r2 : Row w2 (w0.heap.size + 1) 27 [.slice none 0 0, .slice none 0 0] := by rw [← s1, hw2]; exact Row.newOf _ _ _ _ rfl
 have HR1 := Lib.hid (r1.only0 o2); have HO := Lib.hid (o1.trans0 o2); have HS2 := Lib.hid s2; have HI0 : Hid (∃ L, Row w2 (w0.heap.size + 1) 27 (lcCells L) ∧ CatOk L.cat ∧ CatKept w2 L w2) := Lib.hid ⟨⟨[], none, 0, [], none, 0⟩, r2, catOk_nil, CatKept.nil w2 w2⟩; rw [hw1] at hw2; have Hw := Lib.hid hw2; have Hn := Lib.hid hn; have Hx := Lib.hid hx; have HM := Lib.hid hms; obtain ⟨X, hX⟩ : ∃ X, w0.heap.size = X := ⟨_, rfl⟩; have HX := Lib.hid hX; clear hn hx hms r1 r2 o1 o2 s1 s2 hw1 hw2
 go_enter Try.func6, Try.ntmps6
 go_wp2_with fail; rw [← Hw.out]; rw [hX] at HI0 HR1 HS2; clear Hw hX
 go_loopw [4, 10] (fun a b wl => ∃ (i k : Nat), a = .int .i64 (k : Int) ∧ b = .int .i64 (i : Int) ∧ i ≤ n ∧ k ≤ i ∧ Hid (∃ L, Row wl (X + 1) 27 (lcCells L) ∧ CatOk L.cat ∧ CatKept w2 L wl) ∧ Hid (Only [X + 1] w2 wl)) (fun _ b _ => n - (intOf b).toNat)
 case atStart => exact ⟨0, 0, rfl, rfl, Nat.zero_le _, Nat.le_refl _, HI0, Lib.hid (Only.refl _ _)⟩
 case round =>
  clear HI0; obtain ⟨i, k, rfl, rfl, hi, hk, HI, HOl⟩ := hrel; obtain ⟨L, hI⟩ := HI.out; clear HI
  by_cases hlt : i < n
  ·obtain ⟨m, hm⟩ : ∃ m, ms[i]? = some m := ⟨_, List.getElem?_eq_getElem (by rw [Hn.out]; exact hlt)⟩; have hmm := List.mem_of_getElem? hm; have hOwr : Only [] w0 wr := HO.out.transN HOl.out (by simp; rw [HX.out]; omega); have hrd := Hx.out.only0 hOwr; have hne : ms.flatMap lmCells ≠ [] := fun e' => (by have := flat_get lmCells 18 lmCells_len ms _ m 0 hm (by omega); rw [e'] at this; cases this); obtain ⟨bq, off, rfl, -⟩ := hrd.lt hne; have hld := load_cm hrd hm; have Hld := Lib.hid hld; have HmA := Lib.hid ((HM.out.ca m hmm).only0 hOwr); have HmS := Lib.hid (HM.out.sh m hmm); have HII := Lib.hid hI
   have HOw := Lib.hid hOwr; clear hne hrd hld hm hmm hI hOwr; unfold lmV at Hld
   go_upto_region 6 with (first | ((with_reducible show wpList _ _ _ _ _ _); refine wpl_load (ty := 43) (x := .tmp 12) rfl rfl rfl Hld.out ?_))
   obtain ⟨wx, hwx⟩ : ∃ wx, wx = wr.alloc (.cells #[.int .i64 m.x.kind, .int .i64 m.x.id.node, .int .i64 m.x.id.boot, .int .i64 m.x.id.seq, .string (str m.x.bucket), .string (str m.x.key), .int .i64 m.x.upload.node, .int .i64 m.x.upload.boot, .int .i64 m.x.upload.seq, .int .i64 m.x.piece.blob.node, .int .i64 m.x.piece.blob.boot, .int .i64 m.x.piece.blob.seq, .int .i64 m.x.piece.size, .string (str m.x.piece.etag), .int .i64 m.x.part, .slice m.p m.x.parts.length m.c, .int .i64 m.x.time, .int .i64 m.x.days] 43) := ⟨_, rfl⟩; have ox : Only [] wr wx := (by rw [hwx]; exact Only.alloc _ _); have rx : Row wx wr.heap.size 43 (lmCells m) := by rw [hwx]; exact Row.newOf _ _ _ _ rfl
   rw [← hwx]; have hlc := HII.out.1.lt; obtain ⟨B, hB⟩ : ∃ B, wr.heap.size = B := ⟨_, rfl⟩; rw [hB] at rx hlc ⊢; have hinf := inForm10_any m wx (HmA.out.only0 ox) HmS.out; have h6 : (Instr.loadAt 43 (.pointer (some ⟨B, 0, none⟩))).run Try.prog wx = .ok (lmV m) wx := rx.loadSA Try.underlying43 cmInfo; unfold lmV at hinf h6; have H6 := Lib.hid h6; have HRx := Lib.hid rx; have HB := Lib.hid hB; have HOx := Lib.hid ox; have Hlc := Lib.hid hlc; have HZ := HS2.out; have HS2' := Lib.hid HZ; clear hwx h6 rx ox hB hlc HZ
   go_wp2_with (first | ((with_reducible show wpList _ _ _ _ _ _); refine wpl_load (ty := 43) (x := .tmp 6) rfl rfl rfl H6.out ?_))
   (with_reducible refine hinf.mono ?_); clear hinf H6; rintro e w3 ⟨v, rfl, hv, o3⟩; have HO3 := Lib.hid (HOx.out.trans0 o3); have HR3 := Lib.hid (HRx.out.only0 o3); have Hv := Lib.hid hv; clear o3 hv HRx; have hskip : ∀ w, Only [] wr w → Hid (∃ L, Row w (X + 1) 27 (lcCells L) ∧ CatOk L.cat ∧ CatKept w2 L w) ∧ Hid (Only [X + 1] w2 w) := fun w o => ⟨Lib.hid ⟨L, HII.out.1.only0 o, HII.out.2.1, HII.out.2.2.only o (by simp)⟩, Lib.hid (HOl.out.trans0 o)⟩; have Hskip := Lib.hid (hskip w3 HO3.out); clear hskip
   cases v with
   | false =>
    go_wp2_with fail; refine ⟨⟨i + 1, k, rfl, by go_num, by omega, by omega, Hskip.out.1, Hskip.out.2⟩, ?_⟩; show n - ((i : Int) + 1).toNat < n - ((i : Int)).toNat; omega
   | true =>
    by_cases hk3 : (k : Int) < 300
    ·have rc := HII.out.1.only0 HO3.out; have c0 := rc.cell (i := 0) rfl; have c1 := rc.cell (i := 1) rfl; have h6 : (Instr.loadAt 43 (.pointer (some ⟨B, 0, none⟩))).run Try.prog w3 = .ok (lmV m) w3 := HR3.out.loadSA Try.underlying43 cmInfo; have hap := ref11Apply_any L m w3 ((HII.out.2.2.only HO3.out (by simp)).at) ((HmA.out.only0 HO3.out)) (smallR_of HII.out.2.1) (by have := (Hv.out (by trivial)).2; omega) (tickOk_of HII.out.2.1); unfold lmV at h6 hap; unfold lcV at hap; have H6 := Lib.hid h6; have Hrc := Lib.hid rc; clear h6 rc
     go_wp2_with (first | ((with_reducible show wpList _ _ _ _ _ _); refine wpl_load (ty := 43) (x := .tmp 6) rfl rfl rfl H6.out ?_))
     (with_reducible refine hap.mono ?_); clear hap H6 c0 c1; rintro e w4 ⟨L', oc, rfl, hf, he, o4⟩; have r4 := Hrc.out.only0 o4; have c0 := r4.cell (i := 0) rfl; have c1 := r4.cell (i := 1) rfl; have f0 := r4.free 0; have f1 := r4.free 1; have hst : Row ((w4.setCell ⟨X + 1, 0, none⟩ (.slice L'.pb L'.bs.length L'.cb)).setCell ⟨X + 1, 1, none⟩ (.slice L'.pf L'.fs.length L'.cf)) (X + 1) 27 (lcCells L') := r4.set2 _ _; have hso := only_set2 w4 (X + 1) (.slice L'.pb L'.bs.length L'.cb) (.slice L'.pf L'.fs.length L'.cf); have hk2 := CatKept.step (HII.out.2.2.only HO3.out (by simp)) o4 (Nat.le_trans HOl.out.size HO3.out.size) hf
     have HN : Hid (∃ L, Row ((w4.setCell ⟨X + 1, 0, none⟩ (.slice L'.pb L'.bs.length L'.cb)).setCell ⟨X + 1, 1, none⟩ (.slice L'.pf L'.fs.length L'.cf)) (X + 1) 27 (lcCells L) ∧ CatOk L.cat ∧ CatKept w2 L ((w4.setCell ⟨X + 1, 0, none⟩ (.slice L'.pb L'.bs.length L'.cb)).setCell ⟨X + 1, 1, none⟩ (.slice L'.pf L'.fs.length L'.cf))) := Lib.hid ⟨L', hst, step_ok HII.out.2.1 (Hv.out (by trivial)).1 he, hk2.only hso (by simp; rw [HS2'.out]; omega)⟩; have HNO : Hid (Only [X + 1] w2 ((w4.setCell ⟨X + 1, 0, none⟩ (.slice L'.pb L'.bs.length L'.cb)).setCell ⟨X + 1, 1, none⟩ (.slice L'.pf L'.fs.length L'.cf))) := Lib.hid (((HOl.out.trans0 HO3.out).trans0 o4).trans hso (fun i hi _ => hi))
     clear r4 hst hso hk2 hf he o4 Hskip; unfold oucV; go_wp2_with fail; refine ⟨⟨i + 1, k + 1, by go_num, by go_num, by omega, by omega, HN, HNO⟩, ?_⟩; show n - ((i : Int) + 1).toNat < n - ((i : Int)).toNat; omega
    ·have hk3' := decide_eq_false hk3; clear hk3; go_wp2_with fail; refine ⟨⟨i + 1, k, rfl, by go_num, by omega, by omega, Hskip.out.1, Hskip.out.2⟩, ?_⟩; show n - ((i : Int) + 1).toNat < n - ((i : Int)).toNat; omega
  ·obtain rfl : i = n := (by omega); have c0 := hI.1.cell (i := 0) rfl; have c1 := hI.1.cell (i := 1) rfl; have r1 := (HR1.out.only HOl.out (by simp)); have d0 := r1.cell (i := 0) rfl; have d1 := r1.cell (i := 1) rfl; have f0 := r1.free 0; have f1 := r1.free 1; have hst : Row ((wr.setCell ⟨X, 0, none⟩ (.slice L.pb L.bs.length L.cb)).setCell ⟨X, 1, none⟩ (.slice L.pf L.fs.length L.cf)) X 27 (lcCells L) := r1.set2 _ _; have hso := only_set2 wr X (.slice L.pb L.bs.length L.cb) (.slice L.pf L.fs.length L.cf); have Hst := Lib.hid hst; have HF : Hid (CatAt ((wr.setCell ⟨X, 0, none⟩ (.slice L.pb L.bs.length L.cb)).setCell ⟨X, 1, none⟩ (.slice L.pf L.fs.length L.cf)) L ∧ CatOk L.cat ∧ Only [] w0 ((wr.setCell ⟨X, 0, none⟩ (.slice L.pb L.bs.length L.cb)).setCell ⟨X, 1, none⟩ (.slice L.pf L.fs.length L.cf))) := Lib.hid ⟨(hI.2.2.only hso (by simp; rw [HS2.out]; omega)).at, hI.2.1, (HO.out.transN HOl.out (by simp; rw [HX.out]; omega)).transN hso (by simp; rw [HX.out]; exact Nat.le_refl _)⟩
   clear hI r1 hst hso; go_wp2_with fail; exact bodyPost_ret (results_c1 rfl _ _ _ rfl Hst.out Try.underlying27 lcInfo) rfl ⟨L, rfl, HF.out⟩
end Go.Proofs.Ytfeglnpmpgipiaa
end
section
set_option linter.unusedVariables false
set_option maxRecDepth 100000
namespace Go.Proofs.Ytfeglnpmpgipiaa
open Go.RowKit
theorem left_mem {fs : List Cid} {ps : List Pc} {ys : List Cid} {x : Cid} (hx : x ∈ ys) : x ∉ spareL fs ps ys ↔ mayGo fs ps x = false := by
 unfold spareL; rw [List.mem_filter]
 simp [hx]
theorem left_eq {fs : List Cid} {ps : List Pc} {ys : List Cid} : (ys.filter fun x => !decide (x ∈ spareL fs ps ys)) = ys.filter fun x => !mayGo fs ps x := by
 refine List.filter_congr fun x hx => ?_; have := left_mem (fs := fs) (ps := ps) hx
 by_cases hc : mayGo fs ps x = true
 ·rw [hc]; have h2 : x ∈ spareL fs ps ys := by unfold spareL; exact List.mem_filter.2 ⟨hx, hc⟩
  simp [h2]
 ·have h0 : mayGo fs ps x = false := (by simpa using hc); rw [h0, decide_eq_false (this.2 h0)]
theorem left_len (fs : List Cid) (ps : List Pc) : ∀ ys : List Cid, (ys.filter fun x => !mayGo fs ps x).length + (spareL fs ps ys).length = ys.length
 | [] => rfl
 | y :: ys => by
  have ih := left_len fs ps ys; unfold spareL at ih ⊢; rw [List.filter_cons, List.filter_cons, List.length_cons]
  cases mayGo fs ps y <;> simp <;> omega
theorem left_done (fs : List Cid) (ps : List Pc) (ys : List Cid) : spareL fs ps (ys.filter fun x => !mayGo fs ps x) = [] := by
 unfold spareL; rw [List.filter_filter]; refine List.filter_eq_nil_iff.2 fun x _ => ?_
 cases mayGo fs ps x <;> simp
set_option maxHeartbeats 16000000 in
theorem healEnds_any (p : Option Addr) (n c : Nat) (ms : List LCmd) (pf : Option Addr) (nf cf : Nat) (ids : List Cid) (w0 : World) (hn : ms.length = n) (hnb : n ≤ 4611686018427387904) (hx : Rd w0 p (ms.flatMap lmCells)) (hms : CmsAt w0 ms)
  (hnf : ids.length = nf) (hnfb : nf ≤ 9007199254740992) (hxf : Rd w0 pf (ids.flatMap idCells)) :
  Calls Try.prog 4 #[.slice p n c, .slice pf nf cf] w0 fun e w' => e = .returned (.bool true) ∧ Only [] w0 w' := by
 have HX := Lib.hid hx; have HM := Lib.hid hms; have HF := Lib.hid hxf; have Hn := Lib.hid hn; have Hnf := Lib.hid hnf; have Hnb := Lib.hid hnb; have Hnfb := Lib.hid hnfb; clear hx hms hxf hn hnf hnb hnfb
 go_enter Try.func4, Try.ntmps4
 go_wp2_with fail; (with_reducible refine (alive22_any w0).mono ?_); rintro e w1 ⟨rfl, o1⟩; have HO1 := Lib.hid o1; clear o1; go_wp2_with fail; (with_reducible refine (made22_any p n c ms w1 Hn.out Hnb.out (HX.out.only0 HO1.out) ⟨fun m hm => (HM.out.ca m hm).only0 HO1.out, HM.out.sh⟩).mono ?_); rintro e w2 ⟨L, rfl, hA, hOk, o2⟩; have HO2 := Lib.hid (HO1.out.trans0 o2); have hsz2 := o2.size; obtain ⟨w3, hw3⟩ : ∃ w3, w3 = w2.alloc (.cells #[.slice L.pb L.bs.length L.cb, .slice L.pf L.fs.length L.cf] 27) := ⟨_, rfl⟩; have o3 : Only [] w2 w3 := (by rw [hw3]; exact Only.alloc _ _); have r3 : Row w3 w2.heap.size 27 [.slice L.pb L.bs.length L.cb, .slice L.pf L.fs.length L.cf] := by rw [hw3]; exact Row.newOf _ _ _ _ rfl
 have HO3 := Lib.hid (HO2.out.trans0 o3); have HA3 := Lib.hid (hA.only0 o3); have HOk := Lib.hid hOk; have HR3 := Lib.hid r3; have hr := rising_any pf nf cf ids w3 Hnf.out Hnfb.out (HF.out.only0 HO3.out); rw [hw3] at hr; have Hw3 := Lib.hid hw3; clear o2 hA hOk o3 r3 hw3 hsz2; unfold lcV; go_wp2_with fail; (with_reducible refine hr.mono ?_); clear hr; rw [← Hw3.out]; rintro e w4 ⟨q, m, k, rfl, hq, hm4⟩; obtain ⟨ys, hq⟩ := hq; have HO4 := Lib.hid (HO3.out.trans0 hq.2.2); have HR4 := Lib.hid (HR3.out.only0 hq.2.2); have HA4 := Lib.hid (HA3.out.only0 hq.2.2); have HQ := Lib.hid (And.intro hq.rd hq.2.1)
 have Hqs := Lib.hid hq.2.2.size; obtain ⟨X, hX⟩ : ∃ X, w2.heap.size = X := ⟨_, rfl⟩; rw [hX] at HR3 HR4; clear hq; obtain ⟨w5, hw5⟩ : ∃ w5, w5 = w4.alloc (.cells #[] 31) := ⟨_, rfl⟩; have hI5 : OutK idCells 31 3 w4 w5 (some ⟨w4.heap.size, 0, none⟩) 0 0 [] := OutK.start (Only.refl _ _) hw5; obtain ⟨q6, k6, w6, Hap, hI6, -, -⟩ := hI5.app (P := Try.prog) (t := 23) Try.underlying23 Try.infoId rfl (by omega) (by omega) idCells_len idCells_one (news := ys) (HQ.out.1.1.only0 hI5.2.2) HQ.out.2 HQ.out.1.2.1 (by omega); rw [Nat.zero_add] at Hap hI6; rw [List.nil_append] at hI6; rw [hw5] at Hap; have HR6 := Lib.hid (HR4.out.only0 hI6.2.2)
 have HA6 := Lib.hid (HA4.out.only0 hI6.2.2); have HQ6 := Lib.hid (HQ.out.1.1.only0 hI6.2.2); have HO6 := Lib.hid (HO4.out.trans0 hI6.2.2); have HQb : Hid (∀ z ∈ blk q6, z < w6.heap.size) := Lib.hid (fun z hz => (hI6.blk z hz).2); have HI6 := Lib.hid hI6; have Hml := Lib.hid HQ.out.2; have HQn := Lib.hid HQ.out.1.2.1; obtain ⟨PS, hPS⟩ : ∃ PS, catPcs L.cat = PS := ⟨_, rfl⟩; obtain ⟨MS, hMS⟩ : ∃ MS, missL ys PS = MS := ⟨_, rfl⟩; obtain ⟨M, hM⟩ : ∃ M, MS.length = M := ⟨_, rfl⟩; have hpsb : PS.length ≤ 36864 := (by rw [← hPS]; exact pcs_le HOk.out); have hMb : M ≤ 36864 := by rw [← hM, ← hMS]; have := missL_len ys PS; omega
 have HPS := Lib.hid hPS; have HMS := Lib.hid hMS; have HML := Lib.hid hM; have Hpsb := Lib.hid hpsb; clear hPS hMS hM hpsb hI5 hI6 hw5; have rc := HR6.out; have c0 := rc.cell (i := 0) rfl; have c1 := rc.cell (i := 1) rfl; have hmiss := missing_any L q m k ys w6 HA6.out (small_of HOk.out) (by rw [HPS.out]; have := Hpsb.out; omega) Hml.out (by omega) HQ6.out; unfold lcV at hmiss; rw [HPS.out, HMS.out] at hmiss; clear rc
 go_wp2_with (first | (at_builtin; refine wpl_append (s := .tmp 23) (x := .tmp 24) rfl rfl rfl rfl Hap.out ?_))
 (with_reducible refine hmiss.mono ?_); clear hmiss c0 c1 Hap hX; rintro e w7 ⟨qm, mm, km, rfl, hown, hlen, o7⟩; obtain rfl := hlen.symm.trans HML.out; have HMo := Lib.hid hown; have HO7 := Lib.hid o7; have HI7 := Lib.hid (HI6.out.only0 o7); clear hown hlen o7; go_wp2_with fail
 go_loopw [6, 30] (fun a b wl => ∃ (i kk : Nat) (qq : Option Addr), a = .slice qq (m + i) kk ∧ b = .int .i64 (i : Int) ∧ i ≤ mm ∧ Hid (OutK idCells 31 3 w4 wl qq (m + i) kk (ys ++ (MS.take i).map (·.blob))) ∧ Hid (∀ z ∈ blk qq, z < w6.heap.size ∨ w7.heap.size ≤ z) ∧ Hid (OwnK wl w6.heap.size 36 5 (.slice qm mm km) mm (MS.flatMap pcCells)) ∧ Hid (w7.heap.size ≤ wl.heap.size)) (fun _ b _ => mm - (intOf b).toNat)
 case atStart => exact ⟨0, k6, q6, rfl, rfl, Nat.zero_le _, Lib.hid (by simpa using HI7.out), Lib.hid (fun z hz => .inl (HQb.out z hz)), HMo, Lib.hid (Nat.le_refl _)⟩
 case round =>
  clear HI7; obtain ⟨i, kk, qq, rfl, rfl, hi, HI, HB, HMw, HSz⟩ := hrel
  by_cases hlt : i < mm
  ·obtain ⟨x, hx⟩ : ∃ x, MS[i]? = some x := ⟨_, List.getElem?_eq_getElem (by rw [HML.out]; exact hlt)⟩; obtain ⟨ga, hga, -, -⟩ := HMw.out.at (by omega); have hra := HMw.out.view.2.2.1; subst hga; have a0 := rd_elem pcCells_len hra hx (r := 0) rfl; have a1 := rd_elem pcCells_len hra hx (r := 1) rfl; have a2 := rd_elem pcCells_len hra hx (r := 2) rfl; have a3 := rd_elem pcCells_len hra hx (r := 3) rfl; have a4 := rd_elem pcCells_len hra hx (r := 4) rfl; rw [Addr.add_lit, Nat.zero_add] at a0 a1 a2 a3 a4; rw [Nat.add_zero] at a0; obtain ⟨wx, hwx⟩ : ∃ wx, wx = wr.alloc (.cells #[.int .i64 x.blob.node, .int .i64 x.blob.boot, .int .i64 x.blob.seq, .int .i64 x.size, .string (str x.etag)] 36) := ⟨_, rfl⟩
   have owx : Only [] wr wx := (by rw [hwx]; exact Only.alloc _ _); have rwx : Row wx wr.heap.size 36 [.int .i64 x.blob.node, .int .i64 x.blob.boot, .int .i64 x.blob.seq, .int .i64 x.size, .string (str x.etag)] := (by rw [hwx]; exact Row.newOf _ _ _ _ rfl); have hIx := HI.out.only0 owx
   have hnot : x.blob ∉ ys ++ (MS.take i).map (·.blob) := fun hc => by
    have hinv := missL_inv ys PS; rw [HMS.out] at hinv
    rcases List.mem_append.1 hc with hc | hc
    ·exact (hinv.1 x (List.mem_of_getElem? hx)).2 hc
    ·have hn := hinv.2.1; have e : MS.map (·.blob) = (MS.take i).map (·.blob) ++ (MS.drop i).map (·.blob) := (by rw [← List.map_append, List.take_append_drop]); rw [e] at hn; refine (List.nodup_append.1 hn).2.2 _ hc x.blob (List.mem_map.2 ⟨x, ?_, rfl⟩) rfl; exact List.mem_of_getElem? (i := 0) (by rw [List.getElem?_drop, Nat.add_zero]; exact hx)
   have hin := in22_any qq (m + i) kk (ys ++ (MS.take i).map (·.blob)) x.blob wx hIx.2.1 (by omega) hIx.rd.1; rw [decide_eq_false hnot] at hin; unfold idV at hin; have e0 := rwx.cell (i := 0) rfl; have e1 := rwx.cell (i := 1) rfl; have e2 := rwx.cell (i := 2) rfl; rw [hwx] at hin e0 e1 e2; have Hwx := Lib.hid hwx; have HIx := Lib.hid hIx; have Hrx := Lib.hid rwx; have Hox := Lib.hid owx; have Htk : Hid ((MS.take (i + 1)).map (·.blob) = (MS.take i).map (·.blob) ++ [x.blob]) := Lib.hid (by rw [List.take_add_one, hx]; simp); clear hx hra hIx owx rwx hwx hnot; go_wp2_with fail; with_reducible refine hin.mono ?_
   clear hin e0 e1 e2 a0 a1 a2 a3 a4; rw [← Hwx.out]; clear Hwx; rintro e wy ⟨rfl, oy⟩; have hIy := HIx.out.only0 oy; have ry := Hrx.out.only0 oy; have e0 := ry.cell (i := 0) rfl; have e1 := ry.cell (i := 1) rfl; have e2 := ry.cell (i := 2) rfl; obtain ⟨q', k', wz, Hap, hO2, oq, hq'⟩ := hIy.push (P := Try.prog) (t := 23) Try.underlying23 Try.infoId rfl (by omega) (by omega) idCells_len idCells_one x.blob (by omega); have HN : Hid (OutK idCells 31 3 w4 wz q' (m + (i + 1)) k' (ys ++ (MS.take (i + 1)).map (·.blob))) := Lib.hid (by rw [Htk.out, ← List.append_assoc]; exact hO2); have HNb : Hid (∀ z ∈ blk q', z < w6.heap.size ∨ w7.heap.size ≤ z) := Lib.hid (fun z hz => (hq' z hz).elim (HB.out z) (fun h => .inr (Nat.le_trans HSz.out (Nat.le_trans Hox.out.size (Nat.le_trans oy.size h)))))
   have HNm : Hid (OwnK wz w6.heap.size 36 5 (.slice (some ⟨ga, 0, none⟩) mm km) mm (MS.flatMap pcCells)) := Lib.hid (((HMw.out.only0 Hox.out).only0 oy).onlyB oq (fun z hz hc => by have h1 := ownIn HMo.out z hz; have h2 := HB.out z hc; omega)); have HNs : Hid (w7.heap.size ≤ wz.heap.size) := Lib.hid (Nat.le_trans HSz.out (Nat.le_trans Hox.out.size (Nat.le_trans oy.size oq.size))); rw [Nat.add_assoc] at Hap; unfold idCells at Hap; clear hIy ry hO2 oq hq' oy HI HIx Hrx HB HMw HSz Hox
   go_wp2_with (first | (at_builtin; refine wpl_append (s := .tmp 38) (x := .tmp 41) rfl rfl rfl rfl Hap.out ?_))
   refine ⟨⟨i + 1, k', q', rfl, by go_num, by omega, HN, HNb, HNm, HNs⟩, ?_⟩; show mm - ((i : Int) + 1).toNat < mm - ((i : Int)).toNat; omega
  ·obtain rfl : i = mm := by omega
   have hIe : OutK idCells 31 3 w4 wr qq (m + i) kk (ys ++ (missL ys PS).map (·.blob)) := by
    have := HI.out; rw [List.take_of_length_le (by rw [HML.out]; exact Nat.le_refl _)] at this; rw [HMS.out]; exact this
   have oe := hIe.2.2; have HRe := Lib.hid (HR4.out.only0 oe); have HAe := Lib.hid (HA4.out.only0 oe); have HQe := Lib.hid (HQ.out.1.1.only0 oe); have HOe := Lib.hid (HO4.out.trans0 oe); have c0 := HRe.out.cell (i := 0) rfl; have c1 := HRe.out.cell (i := 1) rfl; have hmiss := missing_any L qq (m + i) kk (ys ++ (missL ys PS).map (·.blob)) wr HAe.out (small_of HOk.out) (by rw [HPS.out]; have := Hpsb.out; omega) hIe.2.1 (by omega) hIe.rd.1; unfold lcV at hmiss; rw [HPS.out, missL_done] at hmiss; clear hIe oe; go_wp2_with fail; (with_reducible refine hmiss.mono ?_); clear hmiss c0 c1; rintro e w9 ⟨qz, mz, kz, rfl, -, hz0, o9⟩
   obtain rfl : 0 = mz := hz0; obtain ⟨SL, hSL⟩ : ∃ SL, spareL L.fs PS ys = SL := ⟨_, rfl⟩; obtain ⟨G, hG⟩ : ∃ G, SL.length = G := ⟨_, rfl⟩
   have hGb : G ≤ m := by
    rw [← hG, ← hSL, ← Hml.out]; unfold spareL; exact List.length_filter_le _ _
   have HSL := Lib.hid hSL; have HGL := Lib.hid hG; have HR9 := Lib.hid (HRe.out.only0 o9); have HA9 := Lib.hid (HAe.out.only0 o9); have HQ9 := Lib.hid (HQe.out.only0 o9); have HO9 := Lib.hid (HOe.out.trans0 o9); have c0 := HR9.out.cell (i := 0) rfl; have c1 := HR9.out.cell (i := 1) rfl; have hsp := spare_any L q m k ys w9 HA9.out (small_of HOk.out) HOk.out.fs Hml.out (by omega) HQn.out HQ9.out; unfold lcV at hsp; rw [HPS.out, HSL.out] at hsp; clear o9 hSL hG; go_wp2_with fail; (with_reducible refine hsp.mono ?_); clear hsp c0 c1; rintro e wA ⟨qs, ms', ks, rfl, howns, hlens, oA⟩; obtain rfl := hlens.symm.trans HGL.out
   have HS := Lib.hid howns; have HRA := Lib.hid (HR9.out.only0 oA); have HAA := Lib.hid (HA9.out.only0 oA); have HQA := Lib.hid (HQ9.out.only0 oA); have HOA := Lib.hid (HO9.out.trans0 oA); clear howns hlens oA HI HB HMw HSz; obtain ⟨wB, hwB⟩ : ∃ wB, wB = wA.alloc (.cells #[] 31) := ⟨_, rfl⟩; have HIB : Hid (OutK idCells 31 3 wA wB (some ⟨wA.heap.size, 0, none⟩) 0 0 []) := Lib.hid (OutK.start (Only.refl _ _) hwB); have HwB := Lib.hid hwB; clear hwB; go_wp2_with fail; rw [← HwB.out]; clear HwB
   go_loopw [10, 55] (fun a b wl => ∃ (j m2 k2 : Nat) (q2 : Option Addr), a = .slice q2 m2 k2 ∧ b = .int .i64 (j : Int) ∧ j ≤ m ∧ m2 ≤ j ∧ Hid (OutK idCells 31 3 wA wl q2 m2 k2 ((ys.take j).filter fun y => !decide (y ∈ SL)))) (fun _ b _ => m - (intOf b).toNat)
   case atStart => exact ⟨0, 0, 0, _, rfl, rfl, Nat.zero_le _, Nat.le_refl _, HIB⟩
   case round =>
    clear HIB; obtain ⟨j, m2, k2, q2, rfl, rfl, hj, hm2, HI⟩ := hrel
    by_cases hlt : j < m
    ·obtain ⟨x, hx⟩ : ∃ x, ys[j]? = some x := ⟨_, List.getElem?_eq_getElem (by rw [Hml.out]; exact hlt)⟩; have hra := HQA.out.only0 HI.out.2.2; have hne : ys.flatMap idCells ≠ [] := fun e' => (by have := flat_get idCells 3 idCells_len ys _ x 0 hx (by omega); rw [e'] at this; cases this); obtain ⟨bq, off, rfl, -⟩ := hra.lt hne; have a0 := rd_elem idCells_len hra hx (r := 0) rfl; have a1 := rd_elem idCells_len hra hx (r := 1) rfl; have a2 := rd_elem idCells_len hra hx (r := 2) rfl; rw [Addr.add_lit, ← Nat.add_assoc] at a0 a1 a2; rw [Nat.add_zero] at a0; obtain ⟨wx, hwx⟩ : ∃ wx, wx = wr.alloc (.cells #[.int .i64 x.node, .int .i64 x.boot, .int .i64 x.seq] 31) := ⟨_, rfl⟩
     have owx : Only [] wr wx := (by rw [hwx]; exact Only.alloc _ _); have rwx : Row wx wr.heap.size 31 [.int .i64 x.node, .int .i64 x.boot, .int .i64 x.seq] := (by rw [hwx]; exact Row.newOf _ _ _ _ rfl); have hIx := HI.out.only0 owx; have hin := in22_any qs ms' ks SL x wx HGL.out (by omega) ((HS.out.only0 hIx.2.2).view.2.2.1); unfold idV at hin; have e0 := rwx.cell (i := 0) rfl; have e1 := rwx.cell (i := 1) rfl; have e2 := rwx.cell (i := 2) rfl; rw [hwx] at hin e0 e1 e2; have Hwx := Lib.hid hwx; have HIx := Lib.hid hIx; have Hrx := Lib.hid rwx
     have Htk : Hid ((ys.take (j + 1)).filter (fun y => !decide (y ∈ SL)) = (ys.take j).filter (fun y => !decide (y ∈ SL)) ++ (if x ∈ SL then [] else [x])) := Lib.hid (by
      rw [List.take_add_one, hx, Option.toList_some, List.filter_append]
      by_cases hc : x ∈ SL <;> simp [hc])
     clear hx hra hne hIx owx rwx hwx; go_wp2_with fail; (with_reducible refine hin.mono ?_); clear hin e0 e1 e2 a0 a1 a2; rw [← Hwx.out]; clear Hwx; rintro e wy ⟨rfl, oy⟩; have hIy := HIx.out.only0 oy; have ry := Hrx.out.only0 oy
     by_cases hc : x ∈ SL
     ·rw [decide_eq_true hc]; have HN : Hid (OutK idCells 31 3 wA wy q2 m2 k2 ((ys.take (j + 1)).filter fun y => !decide (y ∈ SL))) := Lib.hid (by rw [Htk.out, if_pos hc, List.append_nil]; exact hIy); clear hIy ry oy HI HIx Hrx hc; go_wp2_with fail; refine ⟨⟨j + 1, m2, k2, q2, rfl, by go_num, by omega, by omega, HN⟩, ?_⟩; show m - ((j : Int) + 1).toNat < m - ((j : Int)).toNat; omega
     ·rw [decide_eq_false hc]; have e0 := ry.cell (i := 0) rfl; have e1 := ry.cell (i := 1) rfl; have e2 := ry.cell (i := 2) rfl; obtain ⟨q', k', wz, Hap, hO2, oq, hq'⟩ := hIy.push (P := Try.prog) (t := 23) Try.underlying23 Try.infoId rfl (by omega) (by omega) idCells_len idCells_one x (by omega); have HN : Hid (OutK idCells 31 3 wA wz q' (m2 + 1) k' ((ys.take (j + 1)).filter fun y => !decide (y ∈ SL))) := Lib.hid (by rw [Htk.out, if_neg hc]; exact hO2); unfold idCells at Hap; clear hIy ry hO2 oq hq' oy HI HIx Hrx hc
      go_wp2_with (first | (at_builtin; refine wpl_append (s := .tmp 63) (x := .tmp 65) rfl rfl rfl rfl Hap.out ?_))
      refine ⟨⟨j + 1, m2 + 1, k', q', rfl, by go_num, by omega, by omega, HN⟩, ?_⟩; show m - ((j : Int) + 1).toNat < m - ((j : Int)).toNat; omega
    ·obtain rfl : j = m := (by omega); obtain ⟨LF, hLF⟩ : ∃ LF, (ys.filter fun x => !mayGo L.fs PS x) = LF := ⟨_, rfl⟩
     have hLw : OutK idCells 31 3 wA wr q2 m2 k2 LF := by
      have := HI.out; rw [List.take_of_length_le (by rw [Hml.out]; exact Nat.le_refl _)] at this; rw [← hLF, ← left_eq (fs := L.fs) (ps := PS), HSL.out]; exact this
     have HLF := Lib.hid hLF
     have hlen2 : m2 + ms' = j := by
      have h1 := left_len L.fs PS ys; rw [hLF, HSL.out, HGL.out, hLw.2.1, Hml.out] at h1; exact h1
     have Hl2 := Lib.hid hlen2; have Hm2b := Lib.hid hm2; have HLX : Hid (∃ wC, OutK idCells 31 3 wA wC q2 m2 k2 LF ∧ Only [] wC wr) := Lib.hid ⟨wr, hLw, Only.refl _ _⟩; clear hLF hLw hlen2 HI; go_wp2_with fail
     go_loopw [70] (fun b wl => ∃ (t : Nat), b = .int .i64 (t : Int) ∧ t ≤ ms' ∧ Hid (OutK idCells 31 3 wA wl q2 m2 k2 LF)) (fun b _ => ms' - (intOf b).toNat)
     case atStart => exact ⟨0, rfl, Nat.zero_le _, Lib.hid (by obtain ⟨wC, h1, h2⟩ := HLX.out; exact h1.only0 h2)⟩
     case round =>
      clear HLX; obtain ⟨t, rfl, ht, HL⟩ := hrel
      by_cases hlt : t < ms'
      ·obtain ⟨x, hx⟩ : ∃ x, SL[t]? = some x := ⟨_, List.getElem?_eq_getElem (by rw [HGL.out]; exact hlt)⟩; obtain ⟨ga, hga, -, -⟩ := HS.out.at (by omega); have hra := (HS.out.only0 HL.out.2.2).view.2.2.1; subst hga; have a0 := rd_elem idCells_len hra hx (r := 0) rfl; have a1 := rd_elem idCells_len hra hx (r := 1) rfl; have a2 := rd_elem idCells_len hra hx (r := 2) rfl; rw [Addr.add_lit, Nat.zero_add] at a0 a1 a2; rw [Nat.add_zero] at a0; obtain ⟨wx, hwx⟩ : ∃ wx, wx = wr.alloc (.cells #[.int .i64 x.node, .int .i64 x.boot, .int .i64 x.seq] 31) := ⟨_, rfl⟩; have owx : Only [] wr wx := by rw [hwx]; exact Only.alloc _ _
       have rwx : Row wx wr.heap.size 31 [.int .i64 x.node, .int .i64 x.boot, .int .i64 x.seq] := (by rw [hwx]; exact Row.newOf _ _ _ _ rfl); have hLx := HL.out.only0 owx
       have hmem : x ∈ ys := by
        have := List.mem_of_getElem? hx; rw [← HSL.out] at this; exact (List.mem_filter.1 this).1
       have hin := in22_any q j k ys x wx Hml.out (by omega) (HQA.out.only0 hLx.2.2); rw [decide_eq_true hmem] at hin; unfold idV at hin; have e0 := rwx.cell (i := 0) rfl; have e1 := rwx.cell (i := 1) rfl; have e2 := rwx.cell (i := 2) rfl; rw [hwx] at hin e0 e1 e2; have Hwx := Lib.hid hwx; have HLx := Lib.hid hLx; clear hx hra hLx owx rwx hwx hmem; go_wp2_with fail; (with_reducible refine hin.mono ?_); clear hin e0 e1 e2 a0 a1 a2; rw [← Hwx.out]; clear Hwx; rintro e wy ⟨rfl, oy⟩; have HN := Lib.hid (HLx.out.only0 oy); clear oy HLx HL; go_wp2_with fail; refine ⟨⟨t + 1, by go_num, by omega, HN⟩, ?_⟩; show ms' - ((t : Int) + 1).toNat < ms' - ((t : Int)).toNat
       omega
      ·obtain rfl : t = ms' := (by omega); have oL := HL.out.2.2; have HRl := Lib.hid (HRA.out.only0 oL); have HAl := Lib.hid (HAA.out.only0 oL); have HOl := Lib.hid (HOA.out.trans0 oL); have c0 := HRl.out.cell (i := 0) rfl; have c1 := HRl.out.cell (i := 1) rfl; have hbl := ref11Blobs_any L wr HAl.out (small_of HOk.out) (by rw [HPS.out]; have := Hpsb.out; omega); unfold lcV at hbl; rw [HPS.out] at hbl; clear oL; go_wp2_with fail; (with_reducible refine hbl.mono ?_); clear hbl c0 c1; rintro e wD ⟨qp, mp, kp, rfl, hwp⟩; have HWP := Lib.hid hwp.1; have Hmp := Lib.hid hwp.2.1; have HLD := Lib.hid (HL.out.only0 hwp.2.2)
       have hmpb : mp ≤ 36864 := (by rw [← hwp.2.1]; exact Hpsb.out); have HOD := Lib.hid hwp.2.2; clear hwp; go_wp2_with fail
       go_loopw [82] (fun b wl => ∃ (u : Nat), b = .int .i64 (u : Int) ∧ u ≤ mp ∧ Hid (Only [] wD wl)) (fun b _ => mp - (intOf b).toNat)
       case atStart => exact ⟨0, rfl, Nat.zero_le _, Lib.hid (Only.refl _ _)⟩
       case round =>
        obtain ⟨u, rfl, hu, HOw⟩ := hrel
        by_cases hlt : u < mp
        ·obtain ⟨x, hx⟩ : ∃ x, PS[u]? = some x := ⟨_, List.getElem?_eq_getElem (by rw [Hmp.out]; exact hlt)⟩; obtain ⟨ga, hga, -, -⟩ := HWP.out.at (by omega); have hra := (HWP.out.only0 HOw.out).view.2.2.1; subst hga; have a0 := rd_elem pcCells_len hra hx (r := 0) rfl; have a1 := rd_elem pcCells_len hra hx (r := 1) rfl; have a2 := rd_elem pcCells_len hra hx (r := 2) rfl; have a3 := rd_elem pcCells_len hra hx (r := 3) rfl; have a4 := rd_elem pcCells_len hra hx (r := 4) rfl; rw [Addr.add_lit, Nat.zero_add] at a0 a1 a2 a3 a4; rw [Nat.add_zero] at a0; obtain ⟨wx, hwx⟩ : ∃ wx, wx = wr.alloc (.cells #[.int .i64 x.blob.node, .int .i64 x.blob.boot, .int .i64 x.blob.seq, .int .i64 x.size, .string (str x.etag)] 36) := ⟨_, rfl⟩
         have owx : Only [] wr wx := (by rw [hwx]; exact Only.alloc _ _); have rwx : Row wx wr.heap.size 36 [.int .i64 x.blob.node, .int .i64 x.blob.boot, .int .i64 x.blob.seq, .int .i64 x.size, .string (str x.etag)] := (by rw [hwx]; exact Row.newOf _ _ _ _ rfl); obtain ⟨bx, hbx⟩ : ∃ bx, decide (x.blob ∈ ys) = bx := ⟨_, rfl⟩
         have hbl2 : decide (x.blob ∈ LF) = bx := by
          rw [← hbx, ← HLF.out]; refine decide_eq_decide.2 ?_; rw [List.mem_filter]; refine ⟨fun h => h.1, fun h => ⟨h, ?_⟩⟩; have hns : x.blob ∉ spareL L.fs PS ys := fun hc => spare_named hc (List.mem_map_of_mem (List.mem_of_getElem? hx)); rw [(left_mem h).1 hns]; rfl
         have Hbx := Lib.hid hbx; have Hbl2 := Lib.hid hbl2; have Hwx := Lib.hid hwx; have Hrx := Lib.hid rwx; have HOx := Lib.hid (HOw.out.trans0 owx); clear hx hra hbx hbl2 hwx rwx owx HOw
         go_upto_region 32 with (fail)
         rw [← Hwx.out]; clear Hwx a0 a1 a2 a3 a4; refine wp_region_rg2 (Only []) [[(1, none)], [(16, none)], [(87, some 0)], [(86, some 2), (88, some 0)], [(10, none)], [(16, none)], [(91, some 0)], [(90, some 2), (92, some 0)], [(89, some 4), (93, some 0)]] [(94, 0)] [none, none, none, none, none, none, none, none, none, none, none, none, none, none, none, none, none, none, none, none, none, none, none, none, none, none, none, none, none, none, none, none, none, none, none, none, none, none, none, none, none, none, none, none, none, none, none, none, none, none, none, none, none, none, none, none, none, none, none, none, none, none, none, none, none, none, none, none, none, none, none, none, none, none, none, none, none, none, none, none, none, none, none, none, none, none, some 86, some 87, some 88, some 89, some 90, some 91, some 92, some 93, some 94, none, none, none, none, none, none, none, none, none, none, none, none, none, none, none, none] (by kernel_rfl) rfl (by kernel_rfl) (fun _ => Only.refl _ _) (fun _ _ _ h k => h.trans0 k) (Only.drew _) (by kernel_rfl) ?_
         apply rg_ev
         ·intro a w hR hf; obtain ⟨e1, -⟩ := hf; replace e1 : a.tmps.getD 1 undef = _ := e1; refine rg_plain rfl fun K hK => ?_; go_simp; exact hK _ _ rfl (Only.refl _ _)
         apply rg_ev
         ·intro a w hR hf; obtain ⟨e16, -⟩ := hf; replace e16 : a.tmps.getD 16 undef = _ := e16; refine rg_plain rfl fun K hK => ?_; go_simp; exact hK _ _ rfl (Only.refl _ _)
         apply rg_ev
         ·intro a w hR hf; obtain ⟨e87, -⟩ := hf; replace e87 : a.tmps.getD 87 undef = _ := e87; refine rg_plain rfl fun K hK => ?_; have rz := Hrx.out.only0 hR; have z0 := rz.cell (i := 0) rfl; have z1 := rz.cell (i := 1) rfl; have z2 := rz.cell (i := 2) rfl; go_simp; exact hK _ _ rfl (Only.refl _ _)
         refine ⟨EV (.bool bx), EV.stable _, fun a w hR hf => ?_, ?_⟩
         ·obtain ⟨e86, e88, -⟩ := hf; replace e86 : a.tmps.getD 86 undef = _ := e86; replace e88 : a.tmps.getD 88 undef = _ := e88; refine rg_plain rfl fun K hK => ?_; go_simp; have hle := in22_any q j k ys x.blob w Hml.out (by omega) (HQA.out.only0 ((HLD.out.2.2.trans0 HOx.out).trans0 hR)); rw [Hbx.out] at hle; unfold idV at hle; (with_reducible refine hle.mono ?_); rintro e w' ⟨rfl, o⟩; exact hK _ _ rfl o
         apply rg_ev
         ·intro a w hR hf; obtain ⟨e10, -⟩ := hf; replace e10 : a.tmps.getD 10 undef = _ := e10; refine rg_plain rfl fun K hK => ?_; go_simp; exact hK _ _ rfl (Only.refl _ _)
         apply rg_ev
         ·intro a w hR hf; obtain ⟨e16, -⟩ := hf; replace e16 : a.tmps.getD 16 undef = _ := e16; refine rg_plain rfl fun K hK => ?_; go_simp; exact hK _ _ rfl (Only.refl _ _)
         apply rg_ev
         ·intro a w hR hf; obtain ⟨e91, -⟩ := hf; replace e91 : a.tmps.getD 91 undef = _ := e91; refine rg_plain rfl fun K hK => ?_; have rz := Hrx.out.only0 hR; have z0 := rz.cell (i := 0) rfl; have z1 := rz.cell (i := 1) rfl; have z2 := rz.cell (i := 2) rfl; go_simp; exact hK _ _ rfl (Only.refl _ _)
         refine ⟨EV (.bool bx), EV.stable _, fun a w hR hf => ?_, ?_⟩
         ·obtain ⟨e90, e92, -⟩ := hf; replace e90 : a.tmps.getD 90 undef = _ := e90; replace e92 : a.tmps.getD 92 undef = _ := e92; refine rg_plain rfl fun K hK => ?_; go_simp; have hle := in22_any q2 m2 k2 LF x.blob w HLD.out.2.1 (by have := Hm2b.out; omega) ((HLD.out.only0 (HOx.out.trans0 hR)).rd.1); rw [Hbl2.out] at hle; unfold idV at hle; (with_reducible refine hle.mono ?_); rintro e w' ⟨rfl, o⟩; exact hK _ _ rfl o
         refine ⟨EV (.bool false), EV.stable _, fun a w hR hf => ?_, ?_⟩
         ·obtain ⟨e89, e93, -⟩ := hf; replace e89 : EV (.bool bx) (a.tmps.getD 89 undef) w := e89; replace e93 : EV (.bool bx) (a.tmps.getD 93 undef) w := e93; refine rg_plain rfl fun K hK => ?_; have e89q : a.tmps.getD 89 undef = .bool bx := e89; have e93q : a.tmps.getD 93 undef = .bool bx := e93; rw [Array.getD_eq_getD_getElem?] at e89q e93q; go_simp; exact hK _ _ (by cases bx <;> rfl) (Only.refl _ _)
         intro f32 w32 hR32 hf; dsimp only [mergeT]; obtain ⟨e94, -⟩ := hf; replace e94 : EV (.bool false) (f32 94) w32 := e94; have e94q : f32 94 = .bool false := e94; rw [e94q]; clear e94 e94q; have HN := Lib.hid (HOx.out.trans0 hR32); clear hR32 HOx; go_wp2_with fail; refine ⟨⟨u + 1, by go_num, by omega, HN⟩, ?_⟩; show mp - ((u : Int) + 1).toNat < mp - ((u : Int)).toNat; omega
        ·obtain rfl : u = mp := (by omega); have oz := HOD.out.trans0 HOw.out; have HRz := Lib.hid (HRl.out.only0 oz); have HAz := Lib.hid (HAl.out.only0 oz); have HOz := Lib.hid (HOl.out.trans0 oz); have hLz := HLD.out.only0 HOw.out; have c0 := HRz.out.cell (i := 0) rfl; have c1 := HRz.out.cell (i := 1) rfl; have hsp := spare_any L q2 m2 k2 LF wr HAz.out (small_of HOk.out) HOk.out.fs hLz.2.1 (by have := Hm2b.out; omega) hLz.rd.2.1 hLz.rd.1; unfold lcV at hsp; rw [HPS.out, ← HLF.out, left_done] at hsp; have q1 : ((m2 : Int) + (t : Int) == (j : Int)) = true := beq_iff_eq.2 (by have := Hl2.out; omega); have hm2c := Hm2b.out
         clear oz hLz; go_wp2_with fail; (with_reducible refine hsp.mono ?_); clear hsp c0 c1; rintro e wE ⟨qz2, mz2, kz2, rfl, -, hz0, oE⟩; obtain rfl : 0 = mz2 := hz0; have HE := Lib.hid (HOz.out.trans0 oE); clear oE; go_wp2_with fail
         go_ret
         exact ⟨rfl, HE.out⟩
end Go.Proofs.Ytfeglnpmpgipiaa
end
section
set_option linter.unusedVariables false
set_option maxRecDepth 100000
namespace Go.Proofs.Ytfeglnpmpgipiaa
open Go.ChangeShapes Go.WideShapes Go.ChangeAt Go.RowKit
theorem healEnds_contract (H : Type) (enc : TypeId × Value → H) (W : World) (base : Nat) (args : Array Value) (ds gs : List (DataW H)) (before : List MemPlace)
  (hval0 : ∀ (j : Nat) t v, Try.f4.params[j]? = some t → args[j]? = some v → Value.okWide Try.prog W .any base t v)
  (hW : DataW.Whole enc Try.prog Try.f4.params.toList Rows.healEndsSpec.vars false W args.toList ds gs before)
  (hsz0 : (DataW.weightsEach Try.prog (Try.f4.params.toList ++ Rows.healEndsSpec.plain.varTypes Try.prog) (ds ++ gs)).all (· ≤ reachBytes) = true) :
  Calls Try.prog 4 args W fun e W' => ∃ v, e = .returned v ∧ Rows.healEndsSpec.post enc Try.prog Try.f4 false true false false W args v W' := by
 have hval : ∀ (j : Nat) t v, Try.f4.params[j]? = some t → args[j]? = some v → Value.okWide Try.prog W .any base t v := hval0; have hW' := hW; obtain ⟨p, q, hA0, hV, rfl, hfz, hnd⟩ := hW; have hA : DataW.TrodAll enc Try.prog W 0 (fun _ => true) true Try.f4.params.toList args.toList ds p := hA0; rw [Try.params4] at hA hval hsz0; obtain ⟨v0, vs0, d0, ds0, pp0, q0, hargs, rfl, rfl, h0, r0⟩ := trodAll_cons hA; obtain ⟨v1, vs1, d1, ds1, pp1, q1, rfl, rfl, rfl, h1, r1⟩ := trodAll_cons r0; obtain ⟨rfl, rfl, rfl⟩ := trodAll_nil r1; obtain rfl : args = #[v0, v1] := (by cases args; simp_all); obtain ⟨rfl, rfl⟩ := trodVars_none hV
 have fit0 := fits_arg hsz0 (j := 0) rfl rfl; have fit1 := fits_arg hsz0 (j := 1) rfl rfl; obtain ⟨fu0, t0⟩ := arg_slice Try.underlying22 (hval 0 _ v0 rfl rfl) h0; obtain ⟨p0, n0, k0, os0, rfl, l0, b0, g0, z0, wt0, acts0⟩ := open_cmds t0 fit0; obtain ⟨fu1, t1⟩ := arg_slice Try.underlying23 (hval 1 _ v1 rfl rfl) h1; obtain ⟨p1, n1, k1, os1, rfl, l1, b1, g1, z1, wt1, acts1⟩ := open_ids t1 fit1; refine (healEnds_any p0 n0 k0 os0 p1 n1 k1 os1 W l0 (by have hr : reachBytes ≤ 140737488355328 := (by decide); omega) acts0.1 acts0.2 l1 (by have hr : reachBytes ≤ 140737488355328 := (by decide); omega) acts1).mono fun e W' ⟨he, ho⟩ => ⟨_, he, ?_⟩
 exact law_post laidOut (by kernel_rfl) rfl rfl Try.underlying4 hW' rfl rfl rfl ho.below
set_option maxRecDepth 100000 in
theorem healEnds_lifted (os : Os) (started : os.Started) (H : Type) (enc : TypeId × Value → H) :
  ReturnsInHanded {} Try.checked os 4 .any (Rows.healEndsSpec.pre6 enc Try.prog Try.f4 Rows.healEndsRow.domain false) (Rows.healEndsSpec.post enc Try.prog Try.f4 false true false false) := by
 refine returnsInHanded_of_change_sized (C := Try.checked) own started (by kernel_rfl) Try.func4
  (ChangeSpec.witness6 (enc := enc) (C := Try.checked) false ⟨#[], #[.slice none 0 0, .slice none 0 0], []⟩ 8 (by kernel_rfl) (by kernel_rfl) (by kernel_rfl) (by kernel_rfl)) ?_
 intro W base args ds gs before hval hW _ hsz _; exact healEnds_contract H enc W base args ds gs before hval hW hsz
theorem healEnds_proved : Rows.HealEndsSaid :=
 OpenClaim.holds_of_wide 4 Try.f4 rfl rfl rfl rfl rfl rfl rfl ⟨rfl, rfl, rfl, rfl, rfl⟩ rfl rfl rfl rfl rfl (by kernel_rfl) Try.func4 (by kernel_rfl)
  (of_decide_eq_true (by kernel_rfl)) (by unfold Func.isWrapper; first | (rw [if_pos (by decide +kernel)]; kernel_rfl) | (rw [if_neg (by decide +kernel)]; exact ⟨rfl, rfl⟩))
  (fun os started H enc _ => healEnds_lifted os started H enc)
end Go.Proofs.Ytfeglnpmpgipiaa
end
