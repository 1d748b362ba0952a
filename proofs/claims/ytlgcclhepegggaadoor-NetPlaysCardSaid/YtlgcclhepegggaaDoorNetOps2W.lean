/- The walks of (*net.Net).Deliver, Drop, Waiting. -/
import Derived.Test.YtlgcclhepegggaaDoorNetOpsW
set_option linter.unusedVariables false
set_option maxRecDepth 100000
namespace Go.Proofs.YtlgcclhepegggaaDoor
open Go.RowKit

def ltV (o : Lt) : Value := .agg #[.int .i64 (o.n : Int), .int .i64 o.fr, .int .i64 o.to, .slice o.q o.xs.length o.c]
def ltV0 : Value := .agg #[.int .i64 0, .int .i64 0, .int .i64 0, .slice none 0 0]
/-- what Deliver hands back -/
def DelEnd (w0 : World) (base B : Nat) (q : Option Addr) (n c last : Nat) (L : List Lt) (x : Int) (aG : Addr) (e : Ending) (w' : World) : Prop :=
  (e = .returned (.tuple #[ltV0, ev aG]) ∧ (∀ o ∈ L, (o.n : Int) ≠ x) ∧ Only [] w0 w') ∨ (∃ (i : Nat) (o : Lt), e = .returned (.tuple #[ltV o, .nilIface]) ∧ L[i]? = some o ∧ (o.n : Int) = x ∧ NetAt w' base B q (n - 1) c last (L.eraseIdx i) ∧ Only (B :: blk q) w0 w')
theorem bbs_erase : ∀ {L : List Lt} {i : Nat}, (bbs (L.eraseIdx i)).Sublist (bbs L)
  | [], i => by simp [bbs]
  | o :: L, 0 => by
    show (bbs L).Sublist (bbs (o :: L))
    unfold bbs; rw [List.flatMap_cons]
    exact List.sublist_append_right _ _
  | o :: L, i + 1 => by
    have := bbs_erase (L := L) (i := i)
    unfold bbs at *
    rw [List.eraseIdx_cons_succ, List.flatMap_cons, List.flatMap_cons]
    exact List.Sublist.append (List.Sublist.refl _) this
/-- a net whose row has lost a letter -/
theorem NetAt.erased {w w' : World} {base B n c last i : Nat} {q : Option Addr} {L : List Lt} (h : NetAt w base B q n c last L) (hi : i < n) (hst : Row w' B 89 [.slice q (n - 1) c, .int .i64 (last : Int)]) (hown : OwnK w' base 37 4 (.slice q (n - 1) c) (n - 1) (ltFlat (L.eraseIdx i))) (ho : Only (B :: blk q) w w') : NetAt w' base B q (n - 1) c last (L.eraseIdx i) := by
  have hsub : (B :: (blk q ++ bbs (L.eraseIdx i))).Sublist (B :: (blk q ++ bbs L)) := (List.Sublist.append (List.Sublist.refl _) bbs_erase).cons_cons _
  have hnd := List.nodup_cons.1 h.nd
  refine ⟨hst, hown, fun o ho2 => ?_, ?_, List.Nodup.sublist hsub h.nd, h.lo.1, fun x hx => h.lo.2 x (bbs_erase.subset hx)⟩
  · have hm := List.mem_of_mem_eraseIdx ho2
    refine (h.ok o hm).only ho (fun x hx hmm => ?_)
    have h3 := bbs_mem hm hx
    rcases List.mem_cons.1 hmm with e | e
    · exact hnd.1 (by rw [← e]; exact List.mem_append_right _ h3)
    · exact (List.nodup_append.1 hnd.2).2.2 x e x h3 rfl
  · rw [List.length_eraseIdx_of_lt (by rw [h.len]; exact hi), h.len]
set_option maxHeartbeats 4000000 in
theorem deliver_any (w0 : World) (base B : Nat) (q : Option Addr) (n c last : Nat) (L : List Lt) (h : NetAt w0 base B q n c last L) (hr : Rises last L) (hn : n ≤ 1000000) (x : Int) (aG : Addr) (eG : ErrAt w0 2 aG) :
    Calls Tryd.prog 17 #[.pointer (some ⟨B, 0, none⟩), .int .i64 x] w0 (DelEnd w0 base B q n c last L x aG) := by
  obtain ⟨w1, hw1⟩ : ∃ w1, w1 = w0.alloc (.cells #[.int .i64 0, .int .i64 0, .int .i64 0, .slice none 0 0] 37) := ⟨_, rfl⟩
  have o1 : Only [] w0 w1 := by rw [hw1]; exact Only.alloc _ _
  have rX : Row w1 w0.heap.size 37 [.int .i64 0, .int .i64 0, .int .i64 0, .slice none 0 0] := by rw [hw1]; exact Row.newOf _ _ _ _ rfl
  have hf := find_any x w1 base B q n c last L (h.only0 o1) hr hn aG (eG.only0 o1)
  have H := Lib.hid (h.only0 o1)
  have HBw := Lib.hid h.st.lt
  have H0 := Lib.hid h
  have Hblk := Lib.hid h.blk_lt
  have HrX := Lib.hid rX
  have HO1 := Lib.hid o1
  clear h hr eG rX o1
  unfold DelEnd ltV ltV0
  unfold ev at *
  go_enter Tryd.func17, Tryd.ntmps17
  go_wp2_with fail
  rw [← hw1]
  refine hf.mono ?_
  clear hf
  rintro e w2 ⟨o2, ⟨i, o, rfl, hi, ho, hx⟩ | ⟨rfl, hno⟩⟩
  · have hX := HrX.out.only0 o2
    have hnet := H.out.only0 o2
    obtain ⟨g, rfl, c0, c1, c2, c3⟩ := hnet.cell ho
    have cB := hnet.st.cell (i := 0) rfl
    have hii : (i : Int) < (n : Int) := by omega
    have Ho := Lib.hid ho
    have Hx := Lib.hid hx
    have HNet := Lib.hid hnet
    have HX := Lib.hid hX
    have HO2 := Lib.hid (HO1.out.trans0 o2)
    obtain ⟨w3, hw3⟩ : ∃ w3, w3 = w2.alloc (.cells #[.int .i64 (o.n : Int), .int .i64 o.fr, .int .i64 o.to, .slice o.q o.xs.length o.c] 37) := ⟨_, rfl⟩
    have o3 : Only [] w2 w3 := by rw [hw3]; exact Only.alloc _ _
    have cB3 := o3.cell cB (by simp)
    rw [hw3] at cB3
    have rL : Row w3 w2.heap.size 37 [.int .i64 (o.n : Int), .int .i64 o.fr, .int .i64 o.to, .slice o.q o.xs.length o.c] := by rw [hw3]; exact Row.newOf _ _ _ _ rfl
    have hdel := delete_any w3 base n c i (some ⟨g, 0, none⟩) L (hnet.only0 o3).own hnet.len hi hn
    have HL := Lib.hid rL
    have HO3 := Lib.hid o3
    have hgB : B ≠ g := fun e => (List.nodup_cons.1 hnet.nd).1 (List.mem_append_left _ (by rw [e]; simp [blk]))
    have HgB := Lib.hid hgB
    have hltB := hnet.st.lt
    have hltg := (hnet.blk_lt g (by simp [blk])).2
    have hX2 := hX.lt
    have hw0s : w0.heap.size ≤ w2.heap.size := HO2.out.size
    have hBX : B ≠ w0.heap.size := by have := HBw.out; omega
    clear ho hx hnet o2 H HrX HO1 hw1 o3 rL hgB
    go_wp2_with fail
    rw [← hw3]
    refine hdel.mono ?_
    clear hdel
    rintro e w4 ⟨rfl, own4, o4⟩
    have hgb : blk (some (⟨g, 0, none⟩ : Addr)) = [g] := rfl
    rw [hgb] at o4
    have hnet3 := HNet.out.only0 HO3.out
    have hgw : g < w0.heap.size := (Hblk.out g (by simp [blk])).2
    have rB4 := hnet3.st.only o4 (by simpa using HgB.out)
    have rY4 := HL.out.only o4 (by simp; omega)
    have rX4 := (HX.out.only0 HO3.out).only o4 (by simp; omega)
    have hBY : B ≠ w2.heap.size := by have := HBw.out; omega
    have hXY : w0.heap.size ≠ w2.heap.size := by omega
    have cB4 := rB4.cell (i := 0) rfl
    have fB4 := rB4.free 0
    have y0 := rY4.cell (i := 0) rfl
    have y1 := rY4.cell (i := 1) rfl
    have y2 := rY4.cell (i := 2) rfl
    have y3 := rY4.cell (i := 3) rfl
    have x0 := rX4.cell (i := 0) rfl
    have x1 := rX4.cell (i := 1) rfl
    have x2 := rX4.cell (i := 2) rfl
    have x3 := rX4.cell (i := 3) rfl
    have f0 := rX4.free 0
    have f1 := rX4.free 1
    have f2 := rX4.free 2
    have f3 := rX4.free 3
    have rB5 := rB4.setCell 0 (.slice (some ⟨g, 0, none⟩) (n - 1) c)
    have oB5 : Only [B] w4 (w4.setCell ⟨B, 0, none⟩ (.slice (some ⟨g, 0, none⟩) (n - 1) c)) := Only.setCell w4 ⟨B, 0, none⟩ _
    have own5 := own4.only oB5 (fun k hk hm => by
      have h1 : k = B := by simpa using hm
      simp [Value.ownBlock] at hk
      exact HgB.out (by rw [← h1, ← hk]))
    have HO5 : Hid (Only (B :: [g]) w0 (w4.setCell ⟨B, 0, none⟩ (.slice (some ⟨g, 0, none⟩) (n - 1) c))) := Lib.hid ((((HO2.out.trans0 HO3.out).mono (by simp)).trans o4 (by simp)).trans oB5 (by simp))
    have Hw0s := Lib.hid hw0s
    have HrB5 := Lib.hid rB5
    have Hown5 := Lib.hid own5
    obtain ⟨w5, hw5⟩ : ∃ w5, w5 = w4.setCell ⟨B, 0, none⟩ (.slice (some ⟨g, 0, none⟩) (n - 1) c) := ⟨_, rfl⟩
    rw [← hw5] at HrB5 Hown5 HO5
    have Hw5 := Lib.hid hw5
    have hXe : w0.heap.size = w0.heap.size := rfl
    clear own4 o4 rB4 rY4 rX4 rB5 oB5 own5 hw3 cB3 hX hltB hltg hX2 hw0s hw5 hXe
    have hB1 : ¬ B = w2.heap.size := hBY
    go_wp2_with fail
    have hres : Tryd.f17.results = #[.cell 4 37, .tmp 5] := rfl
    refine bodyPost_ret (v := .tuple #[.agg #[.int .i64 (o.n : Int), .int .i64 o.fr, .int .i64 o.to, .slice o.q o.xs.length o.c], .nilIface]) ?_ rfl ?_
    · simp only [results, hres]
      go_simp
    · rw [← Hw5.out]
      have oX : Only [w0.heap.size] w5 ((((w5.setCell ⟨w0.heap.size, 0, none⟩ (.int .i64 (o.n : Int))).setCell ⟨w0.heap.size, 1, none⟩ (.int .i64 o.fr)).setCell ⟨w0.heap.size, 2, none⟩ (.int .i64 o.to)).setCell ⟨w0.heap.size, 3, none⟩ (.slice o.q o.xs.length o.c)) :=
        (((Only.setCell w5 ⟨w0.heap.size, 0, none⟩ _).trans (Only.setCell _ ⟨w0.heap.size, 1, none⟩ _) (fun i hi _ => hi)).trans (Only.setCell _ ⟨w0.heap.size, 2, none⟩ _) (fun i hi _ => hi)).trans (Only.setCell _ ⟨w0.heap.size, 3, none⟩ _) (fun i hi _ => hi)
      have hO6 := HO5.out.trans oX (fun i hi hl => absurd hl (by have h1 : i = w0.heap.size := (by simpa using hi); omega))
      refine .inr ⟨i, o, rfl, Ho.out, Hx.out, NetAt.erased H0.out hi (HrB5.out.only oX (by simpa using hBX)) (Hown5.out.only oX (fun k hk hm => ?_)) hO6, hO6⟩
      have h1 : k = w0.heap.size := by simpa using hm
      simp [Value.ownBlock] at hk
      omega
  · have hX := HrX.out.only0 o2
    have x0 := hX.cell (i := 0) rfl
    have x1 := hX.cell (i := 1) rfl
    have x2 := hX.cell (i := 2) rfl
    have x3 := hX.cell (i := 3) rfl
    have f0 := hX.free 0
    have f1 := hX.free 1
    have f2 := hX.free 2
    have f3 := hX.free 3
    have Hno := Lib.hid hno
    have HO := Lib.hid (HO1.out.trans0 o2)
    have hXs : w0.heap.size ≤ w0.heap.size := Nat.le_refl _
    clear hno o2 hX H HrX HO1 hw1 hXs
    go_wp2_with fail
    have hres : Tryd.f17.results = #[.cell 4 37, .tmp 5] := rfl
    refine bodyPost_ret (v := .tuple #[.agg #[.int .i64 0, .int .i64 0, .int .i64 0, .slice none 0 0], .iface 127 (.pointer (some aG))]) ?_ rfl ?_
    · simp only [results, hres]
      go_simp
    · refine .inl ⟨rfl, Hno.out, HO.out.transN (S := []) (T := [w0.heap.size]) ?_ (by simp)⟩
      exact (((Only.setCell w2 ⟨w0.heap.size, 0, none⟩ _).trans (Only.setCell _ ⟨w0.heap.size, 1, none⟩ _) (fun i hi _ => hi)).trans (Only.setCell _ ⟨w0.heap.size, 2, none⟩ _) (fun i hi _ => hi)).trans (Only.setCell _ ⟨w0.heap.size, 3, none⟩ _) (fun i hi _ => hi)

set_option maxHeartbeats 4000000 in
theorem drop_any (w0 : World) (base B : Nat) (q : Option Addr) (n c last : Nat) (L : List Lt) (h : NetAt w0 base B q n c last L) (hr : Rises last L) (hn : n ≤ 1000000) (x : Int) (aG : Addr) (eG : ErrAt w0 2 aG) :
    Calls Tryd.prog 16 #[.pointer (some ⟨B, 0, none⟩), .int .i64 x] w0 fun e w' => (e = .returned (ev aG) ∧ (∀ o ∈ L, (o.n : Int) ≠ x) ∧ Only [] w0 w') ∨ (∃ (i : Nat) (o : Lt), e = .returned .nilIface ∧ L[i]? = some o ∧ (o.n : Int) = x ∧ NetAt w' base B q (n - 1) c last (L.eraseIdx i) ∧ Only (B :: blk q) w0 w') := by
  have hd := deliver_any w0 base B q n c last L h hr hn x aG eG
  clear h hr eG
  unfold DelEnd ltV ltV0 at hd
  unfold ev at *
  go_enter Tryd.func16, Tryd.ntmps16
  go_wp2_with fail
  refine hd.mono ?_
  clear hd
  rintro e w1 (⟨rfl, hno, o1⟩ | ⟨i, o, rfl, ho, hx, hnet, o1⟩)
  · have Hno := Lib.hid hno
    have HO := Lib.hid (o1.trans0 (Only.alloc w1 (.cells #[.int .i64 0, .int .i64 0, .int .i64 0, .slice none 0 0] 37)))
    clear hno o1
    go_wp2_with fail
    go_ret
    exact .inl ⟨rfl, Hno.out, HO.out⟩
  · have oA := Only.alloc w1 (.cells #[.int .i64 (o.n : Int), .int .i64 o.fr, .int .i64 o.to, .slice o.q o.xs.length o.c] 37)
    have Ho := Lib.hid ho
    have Hx := Lib.hid hx
    have HNet := Lib.hid (hnet.only0 oA)
    have HO := Lib.hid (o1.trans0 oA)
    clear ho hx hnet o1 oA
    go_wp2_with fail
    go_ret
    exact .inr ⟨i, o, rfl, Ho.out, Hx.out, HNet.out, HO.out⟩

def numsV (L : List Lt) : List Value := L.map fun o => .int .i64 (o.n : Int)
theorem Tryd.infoI64 : (Tryd.prog.info? 3).map (fun i => (i.zero, i.size, i.bytes)) = some (some (.int .i64 0), 1, 8) := by kernel_rfl
set_option maxHeartbeats 4000000 in
theorem waiting_any (w0 : World) (base B : Nat) (q : Option Addr) (n c last : Nat) (L : List Lt) (h : NetAt w0 base B q n c last L) (hn : n ≤ 1000000) :
    Calls Tryd.prog 19 #[.pointer (some ⟨B, 0, none⟩)] w0 fun e w' => ∃ p d, e = .returned (.slice p n d) ∧ Own w' w0.heap.size 3 (.slice p n d) (numsV L) ∧ Only [] w0 w' := by
  have cB := h.st.cell (i := 0) rfl
  have H := Lib.hid h
  clear h
  go_enter Tryd.func19, Tryd.ntmps19
  go_wp2_with fail
  clear cB
  go_loopw [11, 3] (fun a o wr => ∃ (j : Nat) (p : Option Addr) (d : Nat), a = .int .i64 (j : Int) ∧ o = .slice p j d ∧ j ≤ n ∧ Hid (Own wr w0.heap.size 3 (.slice p j d) (numsV (L.take j))) ∧ Hid (Only [] w0 wr)) (fun a _ _ => n - (intOf a).toNat)
  case atStart => exact ⟨0, none, 0, rfl, rfl, Nat.zero_le _, Lib.hid (by rw [List.take_zero]; exact Own.nil _ _ _), Lib.hid (Only.refl _ _)⟩
  case round =>
    obtain ⟨j, p, d, rfl, rfl, hj, Hown, HO⟩ := hrel
    by_cases hlt : j < n
    · have hji : (j : Int) < (n : Int) := by omega
      obtain ⟨o, ho⟩ : ∃ o, L[j]? = some o := ⟨_, List.getElem?_eq_getElem (by rw [H.out.len]; exact hlt)⟩
      obtain ⟨g, rfl, c0, c1, c2, c3⟩ := (H.out.only0 HO.out).cell ho
      obtain ⟨w1, hw1⟩ : ∃ w1, w1 = (wr.alloc (.cells #[.int .i64 (o.n : Int), .int .i64 o.fr, .int .i64 o.to, .slice o.q o.xs.length o.c] 37)).alloc (.cells #[.int .i64 (o.n : Int)] 3) := ⟨_, rfl⟩
      have oA : Only [] wr w1 := by rw [hw1]; exact (Only.alloc _ _).trans0 (Only.alloc _ _)
      obtain ⟨w2, hw2⟩ : ∃ w2, w2 = wr.alloc (.cells #[.int .i64 (o.n : Int), .int .i64 o.fr, .int .i64 o.to, .slice o.q o.xs.length o.c] 37) := ⟨_, rfl⟩
      have rA : Row w1 w2.heap.size 3 [.int .i64 (o.n : Int)] := by rw [hw1, ← hw2]; exact Row.newOf _ _ _ _ rfl
      have hw2s : w2.heap.size = wr.heap.size + 1 := by rw [hw2]; exact Array.size_push ..
      rw [hw2s] at rA
      obtain ⟨p', d', w5, hr, own5, o5, hb5⟩ := append_owned (P := Tryd.prog) (bytes := 8) (c := 1) (q := some ⟨wr.heap.size + 1, 0, none⟩) (m := 1) (news := [.int .i64 (o.n : Int)]) (t := 26) (ty := 26) w1 Tryd.underlying26 Tryd.infoI64 rfl (Hown.out.only0 oA) rA.rd0 rfl (by simp) (fun v hv => by obtain rfl := List.mem_singleton.1 hv; rfl) (by omega) (by omega) (Nat.le_trans HO.out.size oA.size)
      rw [hw1] at hr
      have Hr := Lib.hid hr
      have Own5 : Hid (Own w5 w0.heap.size 3 (.slice p' (j + 1) d') (numsV (L.take (j + 1)))) := Lib.hid (by
        rw [List.take_add_one, ho]
        unfold numsV at own5 ⊢
        rw [List.map_append]
        exact own5)
      have HO5 : Hid (Only [] w0 w5) := Lib.hid ((HO.out.trans0 oA).transN o5 (fun x hx => by
        cases p with
        | none => cases hx
        | some a => simp [blk] at hx; subst hx; exact (Hown.out.lt _ rfl).1))
      clear ho oA hw1 hw2 rA hw2s hr own5 o5 hb5 Hown HO
      go_wp2_with (first | (at_builtin; refine wpl_append (s := .tmp 15) (x := .tmp 18) rfl rfl rfl rfl Hr.out ?_))
      refine ⟨⟨j + 1, p', d', by go_num, rfl, by omega, Own5, HO5⟩, ?_⟩
      show n - ((j : Int) + 1).toNat < n - ((j : Int)).toNat
      omega
    · obtain rfl : j = n := by omega
      have hji : ¬ (j : Int) < (j : Int) := by omega
      have hown := Hown.out
      rw [List.take_of_length_le (by rw [H.out.len]; exact Nat.le_refl _)] at hown
      have HOwn := Lib.hid hown
      clear hown Hown
      go_wp2_with fail
      go_ret
      exact ⟨p, d, rfl, HOwn.out, HO.out⟩
end Go.Proofs.YtlgcclhepegggaaDoor
