/- A strings.Builder that a call has made itself: WriteByte walked here (NoEscape stands in place in this translation: the shelf's own contract does not fit), String by the shelf's contract. -/
import Derived.Shelf.Strings.Builder1
import Derived.Test.YtfoplbolbjcggaaDoorProg
import Derived.Test.YtfoplbolbjcggaaDoorOwn
set_option linter.unusedVariables false
set_option maxRecDepth 100000
namespace Go.Proofs.YtfoplbolbjcggaaDoor
open Go.RowKit

theorem sizeBuilder : (Tryd.prog.info? 152).map (·.size) = some 2 := by kernel_rfl
theorem liesBuilder : liesAt Tryd.prog Tryd.prog.depth 152 (2 / Tryd.prog.cellsOf 152) 0 152 1 = true := by kernel_rfl
theorem infoByte : (Tryd.prog.info? 5).map (fun i => (i.zero, i.size, i.bytes)) = some (some (.int .u8 0), 1, 1) := by kernel_rfl

theorem copyCheck_used (b : Nat) (w : World) (h0 : w.cell? ⟨b, 0, none⟩ = some (.pointer (some ⟨b, 0, none⟩))) :
    Calls Tryd.prog 110 #[.pointer (some ⟨b, 0, none⟩)] w fun e w' => e = .returned (.tuple #[]) ∧ w' = w := by
  obtain ⟨j, hj, _⟩ := Option.map_eq_some_iff.1 sizeBuilder
  go_enter Tryd.func110, Tryd.ntmps110
  go_wp2_with fail
  rw [Lib.run_neq_ptr_same w _ Tryd.underlying150 hj]
  go_wp2_with fail
  (first | go_end0 | ((try simp only [Exit.inBlock, Exit.then]); refine bodyPost_ret (results_none rfl _ _ _) rfl ?_))
  exact ⟨rfl, rfl⟩
theorem copyCheck_fresh (b : Nat) (w : World) (h0 : w.cell? ⟨b, 0, none⟩ = some (.pointer none)) (hsh : w.shape? b = some (152, 2)) (hfz : w.frozen? ⟨b, 0, none⟩ = false) :
    Calls Tryd.prog 110 #[.pointer (some ⟨b, 0, none⟩)] w fun e w' => e = .returned (.tuple #[]) ∧ w' = w.setCell ⟨b, 0, none⟩ (.pointer (some ⟨b, 0, none⟩)) := by
  obtain ⟨j, hj, hjs⟩ := Option.map_eq_some_iff.1 sizeBuilder
  go_enter Tryd.func110, Tryd.ntmps110
  go_wp2_with fail
  rw [Lib.run_to_unsafe w ⟨b, 0, none⟩ Tryd.underlying150 Tryd.underlying223 hj (by rw [hjs]; decide) hsh (Nat.zero_lt_succ 1)]
  simp only [Result.andThen]
  rw [Oper.upon_value]
  go_wp2_with fail
  rw [run_callFunc_extern Tryd.func130 (by kernel_rfl) (by kernel_rfl) (by kernel_rfl) (e := Extern.AbiNoEscape.same) (by kernel_rfl)]
  rw [Lib.run_noEscape]
  simp only [Result.andThen]
  rw [Oper.upon_value]
  go_wp2_with fail
  rw [Lib.run_from_unsafe w ⟨b, 0, none⟩ Tryd.underlying223 Tryd.underlying150 hj hsh liesBuilder]
  simp only [Result.andThen]
  rw [Oper.upon_value]
  go_wp2_with fail
  (first | go_end0 | ((try simp only [Exit.inBlock, Exit.then]); refine bodyPost_ret (results_none rfl _ _ _) rfl ?_))
  exact ⟨rfl, rfl⟩
theorem copyCheck_any (B b : Nat) (bs : List Value) (w : World) (h : Lib.IsBuilder 152 5 B b bs w) :
    Calls Tryd.prog 110 #[.pointer (some ⟨b, 0, none⟩)] w fun e w' => e = .returned (.tuple #[]) ∧ Lib.BuilderAt 152 5 B b (.pointer (some ⟨b, 0, none⟩)) bs w' ∧ Only [b] w w' := by
  rcases h with h | h
  · refine (copyCheck_fresh b w h.cell0 h.shape h.frozen0).mono ?_
    rintro e w' ⟨rfl, rfl⟩
    exact ⟨rfl, h.used _, Only.setCell _ ⟨b, 0, none⟩ _⟩
  · refine (copyCheck_used b w h.cell0).mono ?_
    rintro e w' ⟨rfl, rfl⟩
    exact ⟨rfl, h, Only.refl _ _⟩
/-- a builder, its cells told: the object's row, the bytes' slice -/
theorem writeByte_any (B b : Nat) (bs : List UInt8) (x : UInt8) (ww : World) (h : Lib.IsBuilder 152 5 B b (u8s bs) ww) (hb : bs.length + 1 ≤ 140737488355328) (hB : B ≤ ww.heap.size) :
    Calls Tryd.prog 79 #[.pointer (some ⟨b, 0, none⟩), .int .u8 (x.toNat : Int)] ww fun e w' => e = .returned .nilIface ∧ Lib.IsBuilder 152 5 B b (u8s (bs ++ [x])) w' ∧ Below B ww w' := by
  have hcc := copyCheck_any B b (u8s bs) ww h
  go_enter Tryd.func79, Tryd.ntmps79
  go_wp2_with fail
  refine hcc.mono ?_
  rintro e w1 ⟨rfl, h1, ho1⟩
  obtain ⟨hBb, v, hbk, hown, hne⟩ := h1
  have r1 : Row w1 b 152 [.pointer (some ⟨b, 0, none⟩), v] := hbk
  have own1 : Own w1 B 5 v (u8s bs) := hown
  obtain ⟨p, c, rfl, hrd, hlc, hc, hnil, hpb⟩ := own1.rd
  rw [u8s_length] at own1 hne hlc r1
  have hc1 := r1.cell (i := 1) rfl
  have hpb' : b ∉ blk p := by
    cases p with
    | none => simp [blk]
    | some a => simp [blk]; intro e; apply hne; simp [Value.ownBlock, e]
  have on := Only.alloc w1 (.cells #[.int .u8 (x.toNat : Int)] 5)
  have rn := Row.new w1 5 (u8s [x])
  obtain ⟨p', c', w2, hr, o2, h2, hp⟩ := append_owned (P := Tryd.prog) (n := bs.length) (m := 1) (bytes := 1) (q := some ⟨w1.heap.size, 0, none⟩) (c := 1) (news := u8s [x]) (t := 22) (ty := 22) _ Tryd.underlying22 infoByte rfl (own1.only0 on) rn.rd0 (by rfl) (by simp) (fun v hv => u8s_one hv) (by omega) (by omega) (by have := on.size; have := ho1.size; omega)
  have r2 := (r1.only0 on).only h2 hpb'
  have hc1' := r2.cell (i := 1) rfl
  have hf1' := r2.free 1
  have r3 := r2.setCell 1 (.slice p' (bs.length + 1) c')
  have o3 : Only [b] w2 (w2.setCell ⟨b, 1, none⟩ (.slice p' (bs.length + 1) c')) := Only.setCell _ ⟨b, 1, none⟩ _
  have hbl := r1.lt
  have hpb2 : b ∉ blk p' := by
    rcases hp with rfl | ⟨g, rfl, hg⟩
    · exact hpb'
    · have := on.size; simp [blk]; omega
  have own3 : Own (w2.setCell ⟨b, 1, none⟩ (.slice p' (bs.length + 1) c')) B 5 (.slice p' (bs.length + 1) c') (u8s bs ++ u8s [x]) := o2.only o3 (fun k hk h => by
    obtain rfl := List.mem_singleton.1 h
    cases p' with
    | none => simp [Value.ownBlock] at hk
    | some a => simp [Value.ownBlock] at hk; exact hpb2 (by simp [blk, hk]))
  have hfin : Lib.IsBuilder 152 5 B b (u8s (bs ++ [x])) (w2.setCell ⟨b, 1, none⟩ (.slice p' (bs.length + 1) c')) := by
    right
    refine ⟨hBb, .slice p' (bs.length + 1) c', r3, by rw [u8s_append]; exact own3, fun h => ?_⟩
    cases p' with
    | none => simp [Value.ownBlock] at h
    | some a => simp [Value.ownBlock] at h; exact hpb2 (by simp [blk, h])
  have hbel : Below B ww (w2.setCell ⟨b, 1, none⟩ (.slice p' (bs.length + 1) c')) := by
    have hall : Only (b :: blk p) ww (w2.setCell ⟨b, 1, none⟩ (.slice p' (bs.length + 1) c')) :=
      ((ho1.mono (by simp)).trans ((on.mono (by simp)).trans h2 (fun i hi _ => List.mem_cons_of_mem b hi)) (fun i hi _ => hi)).trans o3 (by simp)
    refine hall.belowOf hB (fun k hk => ?_)
    rcases List.mem_cons.1 hk with rfl | hk
    · exact hBb
    · cases p with
      | none => simp [blk] at hk
      | some a => simp [blk] at hk; subst hk; exact hpb a rfl
  have Hr := Lib.hid hr
  have Hfin := Lib.hid hfin
  have Hbel := Lib.hid hbel
  clear hr hfin hbel own3 o3 r3 r2 o2 h2 hp on rn own1 r1 hown hbk hcc h ho1 hne hrd
  go_wp2_with (first | (at_builtin; refine wpl_append (s := .tmp 11) (x := .tmp 13) rfl rfl rfl rfl Hr.out ?_))
  go_ret
  exact ⟨rfl, Hfin.out, Hbel.out⟩
/-- the shelf's numbers -/
def renString : Go.Shelf.Ren := ⟨fun | 169 => 80 | n => n, fun | 70 => 150 | 9 => 9 | 0 => 0 | 72 => 152 | 37 => 22 | 127 => 195 | 3 => 3 | 5 => 5 | n => n, fun | n => n⟩
theorem laysString : Go.Proofs.Lays.n169 Tryd.prog renString := {
  mixed := by kernel_rfl
  f169 := Tryd.func80.trans (congrArg some (by kernel_rfl))
  t0 := Tryd.underlying0
  a0 := Tryd.isAgg0
  z0 := Tryd.sizeOf0
  v0 := Tryd.zeroValue0
  t3 := Tryd.underlying3
  a3 := Tryd.isAgg3
  z3 := Tryd.sizeOf3
  v3 := Tryd.zeroValue3
  t9 := Tryd.underlying9
  a9 := Tryd.isAgg9
  z9 := Tryd.sizeOf9
  v9 := Tryd.zeroValue9
  t37 := Tryd.underlying22
  a37 := Tryd.isAgg22
  z37 := Tryd.sizeOf22
  v37 := Tryd.zeroValue22
  t70 := Tryd.underlying150
  a70 := Tryd.isAgg150
  z70 := Tryd.sizeOf150
  v70 := Tryd.zeroValue150
  t72 := Tryd.underlying152
  a72 := Tryd.isAgg152
  z72 := Tryd.sizeOf152
  v72 := Tryd.zeroValue152
  t127 := Tryd.underlying195
  a127 := Tryd.isAgg195
  z127 := Tryd.sizeOf195
  v127 := Tryd.zeroValue195 }
theorem laysBuilder : Builder.Extra Tryd.prog renString := {
  sizeBuilder := by kernel_rfl
  liesBuilder := by kernel_rfl
  t5 := Tryd.underlying5
  a5 := Tryd.isAgg5
  z5 := Tryd.sizeOf5
  v5 := Tryd.zeroValue5
  infoByte := by kernel_rfl
  cellsByte := by kernel_rfl
  sizeByte := by kernel_rfl
  neB5 := by decide }
theorem string_any (B b : Nat) (l : List UInt8) (w : World) (h : Lib.IsBuilder 152 5 B b (u8s l) w) (hB : B ≤ w.heap.size) :
    Calls Tryd.prog 80 #[.pointer (some ⟨b, 0, none⟩)] w fun e w' => e = .returned (.string ⟨l.toArray⟩) ∧ Below B w w' := Any.Builder_String_any laysString laysBuilder B b l w h hB
end Go.Proofs.YtfoplbolbjcggaaDoor
