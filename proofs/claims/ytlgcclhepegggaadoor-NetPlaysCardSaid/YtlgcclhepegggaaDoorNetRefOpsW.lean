/- The walks of (*bollardref14.Net).Send, Copy, Deliver. -/
import Derived.Test.YtlgcclhepegggaaDoorNetRefPutW
import Derived.Test.YtlgcclhepegggaaDoorStepLaw
import Derived.Test.YtlgcclhepegggaaDoorFresh
import Derived.BigRegion
import Derived.Deep.RegionWith
import Derived.Deep.DeepCutAuto
import Derived.Deep.Cut
set_option linter.unusedVariables false
set_option maxRecDepth 100000
namespace Go.Proofs.YtlgcclhepegggaaDoor
open Go.RowKit

set_option maxHeartbeats 4000000 in
theorem rsend_ok (w0 : World) (base B : Nat) (q : Option Addr) (n c last : Nat) (L : List Lt) (h : RefAt w0 base B q n c last L) (fr tg : Int) (hgood : GoodNo fr tg) (bq : Option Addr) (l bc : Nat) (xs : List UInt8) (hl : xs.length = l) (hbn : bq = none → l = 0 ∧ bc = 0) (hbr : Rd w0 bq (u8s xs)) (hlast : last ≤ 1000000000000000000) :
    Calls Tryd.prog 44 #[.pointer (some ⟨B, 0, none⟩), .int .i64 fr, .int .i64 tg, .slice bq l bc] w0 (RPutEnd w0 base B q n c last L fr tg xs) := by
  have hp := rput_any w0 base B q n c last L h 0 fr tg xs hlast
  have hcv := conv_bytes (P := Tryd.prog) (src := 27) (dst := 9) w0 Tryd.underlying27 Tryd.underlying5 Tryd.underlying9 (c := bc) (n := l) hbr hl hbn
  obtain ⟨⟨g1, g2⟩, g3, g4⟩ := hgood
  have k1 : ¬ fr < 0 := by omega
  have k2 : ¬ 15 < fr := by omega
  have k3 : ¬ tg < 0 := by omega
  have k4 : ¬ 15 < tg := by omega
  clear h hl hbn hbr
  unfold RPutEnd at *
  go_enter Tryd.func44, Tryd.ntmps44
  go_wp2_with fail
  refine hp.mono ?_
  clear hp hcv
  rintro e w1 (⟨h1, rfl, h2⟩ | ⟨h1, q', c', rfl, h2⟩)
  · have H2 := Lib.hid h2
    clear h2
    go_wp2_with fail
    go_ret2
    exact .inl ⟨h1, rfl, H2.out⟩
  · have H2 := Lib.hid h2
    clear h2
    go_wp2_with fail
    go_ret2
    exact .inr ⟨h1, q', c', rfl, H2.out⟩
set_option maxHeartbeats 4000000 in
theorem rsend_bad (w0 : World) (B : Nat) (fr tg : Int) (hbad : ¬ GoodNo fr tg) (bq : Option Addr) (l bc : Nat) :
    Calls Tryd.prog 44 #[.pointer (some ⟨B, 0, none⟩), .int .i64 fr, .int .i64 tg, .slice bq l bc] w0 fun e w' => e = .returned (.tuple #[.int .i64 0, .int .i64 2]) ∧ Only [] w0 w' := by
  have hb : fr < 0 ∨ (¬ fr < 0 ∧ 15 < fr) ∨ (¬ fr < 0 ∧ ¬ 15 < fr ∧ tg < 0) ∨ (¬ fr < 0 ∧ ¬ 15 < fr ∧ ¬ tg < 0 ∧ 15 < tg) := by
    unfold GoodNo at hbad
    omega
  clear hbad
  rcases hb with k1 | ⟨k1, k2⟩ | ⟨k1, k2, k3⟩ | ⟨k1, k2, k3, k4⟩
  all_goals
    go_enter Tryd.func44, Tryd.ntmps44
    go_wp2_with fail
    go_ret2
    exact ⟨rfl, Only.refl _ _⟩
/-- what Copy hands back -/
def RCopyEnd (w0 : World) (base B : Nat) (q : Option Addr) (n c last : Nat) (L : List Lt) (x : Int) (e : Ending) (w' : World) : Prop :=
  (e = .returned (.tuple #[.int .i64 0, .int .i64 8]) ∧ (∀ o ∈ L, (o.n : Int) ≠ x) ∧ Only [] w0 w') ∨ (∃ (i : Nat) (o : Lt), L[i]? = some o ∧ (o.n : Int) = x ∧ RPutEnd w0 base B q n c last L o.fr o.to o.xs e w')
theorem RPutEnd.of {w0 w1 : World} {base B n c last : Nat} {q : Option Addr} {L : List Lt} {fr tg : Int} {xs : List UInt8} {e : Ending} {w' : World} (ho : Only [] w0 w1) (h : RPutEnd w1 base B q n c last L fr tg xs e w') : RPutEnd w0 base B q n c last L fr tg xs e w' := by
  have hs := ho.size
  rcases h with ⟨h1, h2, h3⟩ | ⟨h1, q', c', h2, h3, h6, h7⟩
  · exact .inl ⟨h1, h2, ho.trans0 h3⟩
  · exact .inr ⟨h1, q', c', h2, h3, fun x hx => (h6 x hx).imp id (fun h => by omega), (ho.mono (by simp)).trans h7 (fun i hi _ => hi)⟩
set_option maxHeartbeats 4000000 in
theorem rcopy_any (w0 : World) (base B : Nat) (q : Option Addr) (n c last : Nat) (L : List Lt) (h : RefAt w0 base B q n c last L) (hn : n ≤ 1000000) (x : Int) (hlast : last ≤ 1000000000000000000) :
    Calls Tryd.prog 46 #[.pointer (some ⟨B, 0, none⟩), .int .i64 x] w0 (RCopyEnd w0 base B q n c last L x) := by
  have hf := rfind_any w0 base B q n c last L h hn x
  have H := Lib.hid h
  clear h
  unfold RCopyEnd
  go_enter Tryd.func46, Tryd.ntmps46
  go_wp2_with fail
  refine hf.mono ?_
  clear hf
  rintro e w1 ⟨o1, ⟨i, o, rfl, ho, hx⟩ | ⟨rfl, hno⟩⟩
  · have hnet := H.out.only0 o1
    obtain ⟨g, rfl, c0, c1, c2, c3⟩ := hnet.cell ho
    have cB := hnet.st.cell (i := 0) rfl
    have hi := (List.getElem?_eq_some_iff.1 ho).1
    have hln := hnet.len
    have hp := rput_any w1 base B (some ⟨g, 0, none⟩) n c last L hnet (o.n : Int) o.fr o.to o.xs hlast
    have hii : (i : Int) < (n : Int) := by omega
    have hi0 : ¬ (i : Int) < 0 := by omega
    unfold rStr at c3
    have Ho := Lib.hid ho
    have Hx := Lib.hid hx
    have HO := Lib.hid o1
    clear ho hx hnet o1 hln
    have hpe : ∀ e w', RPutEnd w1 base B (some ⟨g, 0, none⟩) n c last L o.fr o.to o.xs e w' → RPutEnd w0 base B (some ⟨g, 0, none⟩) n c last L o.fr o.to o.xs e w' := fun e w' h => h.of HO.out
    have Hpe := Lib.hid hpe
    clear hpe
    go_wp2_with fail
    refine hp.mono ?_
    clear hp
    rintro e w2 h2
    have H2 := Lib.hid (Hpe.out e w2 h2)
    unfold RPutEnd at h2
    rcases h2 with ⟨h1, rfl, -⟩ | ⟨h1, q', c', rfl, -⟩
    · skip
      go_wp2_with fail
      go_ret2
      exact .inr ⟨i, o, Ho.out, Hx.out, H2.out⟩
    · skip
      go_wp2_with fail
      go_ret2
      exact .inr ⟨i, o, Ho.out, Hx.out, H2.out⟩
  · have Hno := Lib.hid hno
    have HO := Lib.hid o1
    clear hno o1
    go_wp2_with fail
    go_ret2
    exact .inl ⟨rfl, Hno.out, HO.out⟩

theorem rlt_fresh {base : Nat} (w : World) {m c : Nat} {p q : Option Addr} {rs : List Lt} (hown : OwnK w base 55 4 (.slice p 0 0) 0 (rFlat [])) (hbase : base ≤ w.heap.size) (hr : Rd w q (rFlat rs)) (hm : rs.length = m) (hq : q = none → m = 0 ∧ c = 0) (hb : m * 40 ≤ 140737488355328) :
    ∃ p' cap' w', (Builtin.append_ #[48, 48] 48 #[.slice p 0 0, .slice q m c]).run Tryd.prog w = .ok (.slice p' m cap') w' ∧ OwnK w' base 55 4 (.slice p' m cap') m (rFlat rs) ∧ Only [] w w' := by
  obtain ⟨p', cap', w', h1, h2, h3, -⟩ := rlt_append_at w (c := c) hown hbase hr hm hq (by omega)
  rw [Nat.zero_add] at h1 h2
  rw [List.nil_append] at h2
  exact ⟨p', cap', w', h1, h2, appendK_only0 (P := Tryd.prog) w Tryd.underlying48 Tryd.infoRLt rfl (by omega) hown hr (by rw [rFlat_length, hm]) hq (fun u hu => rFlat_one hu) hb (by omega) h1⟩

def rV (o : Lt) : Value := .agg #[.int .i64 (o.n : Int), .int .i64 o.fr, .int .i64 o.to, .string ⟨o.xs.toArray⟩]
def rV0 : Value := .agg #[.int .i64 0, .int .i64 0, .int .i64 0, .string ⟨#[]⟩]
/-- what Deliver hands back -/
def RDelEnd (w0 : World) (base B : Nat) (q : Option Addr) (n c last : Nat) (L : List Lt) (x : Int) (e : Ending) (w' : World) : Prop :=
  (e = .returned (.tuple #[rV0, .int .i64 8]) ∧ (∀ o ∈ L, (o.n : Int) ≠ x) ∧ Only [] w0 w') ∨ (∃ (i : Nat) (o : Lt), e = .returned (.tuple #[rV o, .int .i64 0]) ∧ L[i]? = some o ∧ (o.n : Int) = x ∧ ∃ q' c', RefAt w' base B q' (n - 1) c' last (L.eraseIdx i) ∧ (∀ y ∈ blk q', w0.heap.size ≤ y) ∧ Only [B] w0 w')
set_option maxHeartbeats 16000000 in
theorem rdeliver_any (w0 : World) (base B : Nat) (q : Option Addr) (n c last : Nat) (L : List Lt) (h : RefAt w0 base B q n c last L) (hn : n ≤ 1000000) (x : Int) :
    Calls Tryd.prog 45 #[.pointer (some ⟨B, 0, none⟩), .int .i64 x] w0 (RDelEnd w0 base B q n c last L x) := by
  obtain ⟨w1, hw1⟩ : ∃ w1, w1 = w0.alloc (.cells #[.int .i64 0, .int .i64 0, .int .i64 0, .string ⟨#[]⟩] 55) := ⟨_, rfl⟩
  have o1 : Only [] w0 w1 := by rw [hw1]; exact Only.alloc _ _
  have rX : Row w1 w0.heap.size 55 [.int .i64 0, .int .i64 0, .int .i64 0, .string ⟨#[]⟩] := by rw [hw1]; exact Row.newOf _ _ _ _ rfl
  have hf := rfind_any w1 base B q n c last L (h.only0 o1) hn x
  have H := Lib.hid (h.only0 o1)
  have HBw := Lib.hid h.st.lt
  have H0 := Lib.hid h
  have HrX := Lib.hid rX
  have HO1 := Lib.hid o1
  clear h rX o1
  unfold RDelEnd rV rV0
  go_enter Tryd.func45, Tryd.ntmps45
  go_wp2_with fail
  rw [← hw1]
  refine hf.mono ?_
  clear hf
  rintro e w2 ⟨o2, ⟨i, o, rfl, ho, hx⟩ | ⟨rfl, hno⟩⟩
  · have hnet := H.out.only0 o2
    obtain ⟨g, rfl, c0, c1, c2, c3⟩ := hnet.cell ho
    have cB := hnet.st.cell (i := 0) rfl
    have hi := (List.getElem?_eq_some_iff.1 ho).1
    have hln := hnet.len
    have hii : (i : Int) < (n : Int) := by omega
    have hi0 : ¬ (i : Int) < 0 := by omega
    unfold rStr at c3
    have Ho := Lib.hid ho
    have Hx := Lib.hid hx
    have HNet := Lib.hid hnet
    have HO2 := Lib.hid (HO1.out.trans0 o2)
    have HX := Lib.hid (HrX.out.only0 o2)
    generalize hsb : (⟨o.xs.toArray⟩ : ByteArray) = sb at *
    have Hsb := Lib.hid hsb
    clear ho hx hnet o2 hln hw1 hsb
    go_upto_region 5 with (fail)
    obtain ⟨we, hwe⟩ : ∃ we, we = w2.alloc (.cells #[.int .i64 (o.n : Int), .int .i64 o.fr, .int .i64 o.to, .string sb] 55) := ⟨_, rfl⟩
    have oE : Only [] w2 we := by rw [hwe]; exact Only.alloc _ _
    have rL : Row we w2.heap.size 55 [.int .i64 (o.n : Int), .int .i64 o.fr, .int .i64 o.to, .string sb] := by rw [hwe]; exact Row.newOf _ _ _ _ rfl
    have hnE := HNet.out.only0 oE
    have hXE := HX.out.only0 oE
    rw [← hwe]
    have HnE := Lib.hid hnE
    have HXE := Lib.hid hXE
    have HX2 := Lib.hid HX.out.lt
    have HrL := Lib.hid rL
    have HOE := Lib.hid (HO2.out.trans0 oE)
    clear hwe oE rL c0 c1 c2 c3 cB HNet hXE
    have cB := hnE.st.cell (i := 0) rfl
    have hnc := hnE.own.view.2.2.2.2.1
    have hgl := (hnE.blk_lt g (by simp [blk])).2
    have hBlt := hnE.st.lt
    have hnd := hnE.nd
    have hgB : ¬ B = g := fun e => hnd (by rw [e]; simp [blk])
    clear hnE hnd
    go_cut [] (fun wx => ∃ q' c', Hid (RefAt wx base B q' (n - 1) c' last (L.eraseIdx i)) ∧ Hid (∀ y ∈ blk q', we.heap.size ≤ y) ∧ Hid (Only [B] we wx))
    case first =>
      obtain ⟨wd, hwd⟩ : ∃ wd, wd = (we.alloc (.cells #[] 55)).drew := ⟨_, rfl⟩
      have oD : Only [] we wd := by rw [hwd]; exact (Only.alloc _ _).trans0 (Only.drew _)
      have ownD : OwnK wd we.heap.size 55 4 (.slice (some ⟨we.heap.size, 0, none⟩) 0 0) 0 (rFlat []) := by rw [hwd]; exact (OwnK.new (n := 0) [] (Nat.le_refl _) rfl (by omega)).only0 (Only.drew _)
      have hrd1 : Rd wd (some ⟨g, 0, none⟩) (rFlat (L.take i)) := by
        have h1 := (HnE.out.own.view.2.2.1.only0 oD).take (i * 4)
        rwa [rFlat_take] at h1
      obtain ⟨p1, c1, wA, hr1, own1, o1⟩ := rlt_fresh wd (c := c) (m := i) (q := some ⟨g, 0, none⟩) (rs := L.take i) ownD oD.size hrd1 (by rw [List.length_take, HnE.out.len]; omega) (by simp) (by omega)
      have Hr1 := Lib.hid hr1
      have cBA := o1.cell (oD.cell cB (by simp)) (by simp)
      have hwi := IntWalk.i64_in ((i : Int) + 1) (by omega)
      have hi1 : (i : Int) ≤ (c : Int) := by omega
      have hi2 : (i : Int) + 1 ≤ (n : Int) := by omega
      have hi3 : (0 : Int) ≤ (i : Int) + 1 := by omega
      obtain ⟨qs, hqs⟩ : ∃ qs, qs = (if c = i + 1 then some ⟨g, 0, none⟩ else some ⟨g, (i + 1) * 4, none⟩ : Option Addr) := ⟨_, rfl⟩
      have hqn : qs ≠ none := by rw [hqs]; split <;> simp
      have hrd2 : Rd wA qs (rFlat (L.drop (i + 1))) := by
        have h1 := (HnE.out.own.view.2.2.1.only0 oD).only0 o1
        by_cases e : c = i + 1
        · rw [List.drop_of_length_le (by rw [HnE.out.len]; omega)]
          exact Rd.nil _ _
        · rw [hqs, if_neg e]
          have := h1.drop ((i + 1) * 4)
          rw [rFlat_drop] at this
          simpa using this
      have hszA := o1.size
      have hszD := oD.size
      obtain ⟨p2, c2, wB, hr2, own2, o2, hp2⟩ := rlt_append_at wA (c := c - (i + 1)) (m := n - (i + 1)) (q := qs) (rs := L.drop (i + 1)) own1 (by omega) hrd2 (by rw [List.length_drop, HnE.out.len]) (fun e => absurd e hqn) (by omega)
      have hp1 : ∀ x ∈ blk p1, we.heap.size ≤ x := fun x hx => (own1.view.2.2.2.2.2.2 x hx).1
      have hoB : Only [] we wB := (oD.trans0 o1).transN o2 (fun x hx => hp1 x hx)
      have hstB := HnE.out.st.only0 hoB
      have cBB := hstB.cell (i := 0) rfl
      have fBB := hstB.free 0
      have hni : i + (n - (i + 1)) = n - 1 := by omega
      have hp2n : ∀ y ∈ blk p2, we.heap.size ≤ y := fun y hy => (own2.view.2.2.2.2.2.2 y hy).1
      have hst : Only [B] wB (wB.setCell ⟨B, 0, none⟩ (.slice p2 (n - 1) c2)) := Only.setCell wB ⟨B, 0, none⟩ _
      have hera : L.take i ++ L.drop (i + 1) = L.eraseIdx i := (List.eraseIdx_eq_take_drop_succ ..).symm
      rw [hni, hera] at own2
      have HF1 : Hid (RefAt (wB.setCell ⟨B, 0, none⟩ (.slice p2 (n - 1) c2)) base B p2 (n - 1) c2 last (L.eraseIdx i)) := Lib.hid (by
        refine ⟨hstB.setCell 0 _, (own2.only hst (fun k hk hm => ?_)).weaken ?_, by rw [List.length_eraseIdx_of_lt (by rw [HnE.out.len]; omega), HnE.out.len], fun hm => ?_, HnE.out.lo⟩
        · have h1 := hp2n k (blkOwn hk)
          have h2 : k = B := by simpa using hm
          omega
        · have := HnE.out.lo
          omega
        · have := hp2n B hm
          omega)
      have HF2 := Lib.hid hp2n
      have HF3 : Hid (Only [B] we (wB.setCell ⟨B, 0, none⟩ (.slice p2 (n - 1) c2))) := Lib.hid ((hoB.mono (by simp)).trans hst (by simp))
      rw [hni] at hr2
      rw [hqs] at hr2
      rw [hwd] at Hr1
      have Hr2 := Lib.hid hr2
      clear hr1 hr2 hera hni hstB hoB own2 o2 hp2 hrd2 hqn hqs own1 o1 oD ownD hrd1 hwd hst hp1 hp2n
      go_region_law (first | (refine step_append_run rfl (.tmp 22) (.tmp 28) rfl rfl rfl Hr1.out ?_) | (refine step_append_run rfl (.tmp 29) (.tmp 36) rfl rfl rfl Hr2.out ?_))
      all_goals go_wp2_with fail
      all_goals go_meet
      all_goals exact ⟨p2, c2, HF1, HF2, HF3⟩
    case rest =>
    obtain ⟨q', c', HF1, HF2, HF3⟩ := hcut
    have rL := HrL.out.only HF3.out (by have := HBw.out; have := HX2.out; simp; omega)
    have rX := HXE.out.only HF3.out (by have := HBw.out; have := HXE.out.lt; simp; omega)
    have HE2 := Lib.hid hBlt
    have HXlt := Lib.hid HXE.out.lt
    have y0 := rL.cell (i := 0) rfl
    have y1 := rL.cell (i := 1) rfl
    have y2 := rL.cell (i := 2) rfl
    have y3 := rL.cell (i := 3) rfl
    have x0 := rX.cell (i := 0) rfl
    have x1 := rX.cell (i := 1) rfl
    have x2 := rX.cell (i := 2) rfl
    have x3 := rX.cell (i := 3) rfl
    have f0 := rX.free 0
    have f1 := rX.free 1
    have f2 := rX.free 2
    have f3 := rX.free 3
    have hXe : w0.heap.size = w0.heap.size := rfl
    clear rL rX hXe hBlt hgl
    go_wp2_with fail
    have hres : Tryd.f45.results = #[.cell 4 55, .tmp 5] := rfl
    refine bodyPost_ret (v := .tuple #[.agg #[.int .i64 (o.n : Int), .int .i64 o.fr, .int .i64 o.to, .string sb], .int .i64 0]) ?_ rfl ?_
    · simp only [results, hres]
      go_simp
    · have oX : Only [w0.heap.size] wc ((((wc.setCell ⟨w0.heap.size, 0, none⟩ (.int .i64 (o.n : Int))).setCell ⟨w0.heap.size, 1, none⟩ (.int .i64 o.fr)).setCell ⟨w0.heap.size, 2, none⟩ (.int .i64 o.to)).setCell ⟨w0.heap.size, 3, none⟩ (.string sb)) :=
        (((Only.setCell wc ⟨w0.heap.size, 0, none⟩ _).trans (Only.setCell _ ⟨w0.heap.size, 1, none⟩ _) (fun i hi _ => hi)).trans (Only.setCell _ ⟨w0.heap.size, 2, none⟩ _) (fun i hi _ => hi)).trans (Only.setCell _ ⟨w0.heap.size, 3, none⟩ _) (fun i hi _ => hi)
      have hle : w0.heap.size ≤ we.heap.size := HOE.out.size
      have hO6 : Only [B] w0 _ := ((HOE.out.mono (by simp)).trans HF3.out (fun i hi _ => hi)).trans oX (fun i hi hl => absurd hl (by have h1 : i = w0.heap.size := (by simpa using hi); omega))
      refine .inr ⟨i, o, by rw [← Hsb.out], Ho.out, Hx.out, q', c', HF1.out.only oX (fun x hx hm => ?_), fun y hy => Nat.le_trans hle (HF2.out y hy), hO6⟩
      have h1 : x = w0.heap.size := by simpa using hx
      have h2 := HXlt.out
      rcases List.mem_cons.1 hm with e | e
      · have := HBw.out; omega
      · have := HF2.out x e
        omega
  · have hX := HrX.out.only0 o2
    have x0 := hX.cell (i := 0) rfl
    have x1 := hX.cell (i := 1) rfl
    have x2 := hX.cell (i := 2) rfl
    have x3 := hX.cell (i := 3) rfl
    have f0 := hX.free 0
    have f1 := hX.free 1
    have f2 := hX.free 2
    have f3 := hX.free 3
    have Hno := Lib.hid hno
    have HO := Lib.hid (HO1.out.trans0 o2)
    have hXs : w0.heap.size ≤ w0.heap.size := Nat.le_refl _
    clear hno o2 hX H HrX HO1 hw1 hXs
    go_wp2_with fail
    have hres : Tryd.f45.results = #[.cell 4 55, .tmp 5] := rfl
    refine bodyPost_ret (v := .tuple #[.agg #[.int .i64 0, .int .i64 0, .int .i64 0, .string ⟨#[]⟩], .int .i64 8]) ?_ rfl ?_
    · simp only [results, hres]
      go_simp
    · refine .inl ⟨rfl, Hno.out, HO.out.transN (S := []) (T := [w0.heap.size]) ?_ (by simp)⟩
      exact (((Only.setCell w2 ⟨w0.heap.size, 0, none⟩ _).trans (Only.setCell _ ⟨w0.heap.size, 1, none⟩ _) (fun i hi _ => hi)).trans (Only.setCell _ ⟨w0.heap.size, 2, none⟩ _) (fun i hi _ => hi)).trans (Only.setCell _ ⟨w0.heap.size, 3, none⟩ _) (fun i hi _ => hi)
end Go.Proofs.YtlgcclhepegggaaDoor
