/- A strings.Builder that a call has made itself: WriteByte walked here (NoEscape stands in place in this translation: the shelf's own contract does not fit), String by the shelf's contract. -/
import Derived.Shelf.Strings.Builder1
import Derived.Test.YtmddehbfimpjdaaProg
import Derived.Test.YtmddehbfimpjdaaOwn
set_option linter.unusedVariables false
namespace Go.Proofs.Ytmddehbfimpjdaa
open Go.RowKit

theorem sizeBuilder : (Try.prog.info? 71).map (·.size) = some 2 := by kernel_rfl
theorem liesBuilder : liesAt Try.prog Try.prog.depth 71 (2 / Try.prog.cellsOf 71) 0 71 1 = true := by kernel_rfl
theorem infoByte : (Try.prog.info? 5).map (fun i => (i.zero, i.size, i.bytes)) = some (some (.int .u8 0), 1, 1) := by kernel_rfl

theorem copyCheck_used (b : Nat) (w : World) (h0 : w.cell? ⟨b, 0, none⟩ = some (.pointer (some ⟨b, 0, none⟩))) :
    Calls Try.prog 46 #[.pointer (some ⟨b, 0, none⟩)] w fun e w' => e = .returned (.tuple #[]) ∧ w' = w := by
  obtain ⟨j, hj, _⟩ := Option.map_eq_some_iff.1 sizeBuilder
  go_enter Try.func46, Try.ntmps46
  go_wp2_with fail
  rw [Lib.run_neq_ptr_same w _ Try.underlying69 hj]
  go_wp2_with fail
  (first | go_end0 | ((try simp only [Exit.inBlock, Exit.then]); refine bodyPost_ret (results_none rfl _ _ _) rfl ?_))
  exact ⟨rfl, rfl⟩
theorem copyCheck_fresh (b : Nat) (w : World) (h0 : w.cell? ⟨b, 0, none⟩ = some (.pointer none)) (hsh : w.shape? b = some (71, 2)) (hfz : w.frozen? ⟨b, 0, none⟩ = false) :
    Calls Try.prog 46 #[.pointer (some ⟨b, 0, none⟩)] w fun e w' => e = .returned (.tuple #[]) ∧ w' = w.setCell ⟨b, 0, none⟩ (.pointer (some ⟨b, 0, none⟩)) := by
  obtain ⟨j, hj, hjs⟩ := Option.map_eq_some_iff.1 sizeBuilder
  go_enter Try.func46, Try.ntmps46
  go_wp2_with fail
  rw [Lib.run_to_unsafe w ⟨b, 0, none⟩ Try.underlying69 Try.underlying85 hj (by rw [hjs]; decide) hsh (Nat.zero_lt_succ 1)]
  simp only [Result.andThen]
  rw [Oper.upon_value]
  go_wp2_with fail
  rw [run_callFunc_extern Try.func49 (by kernel_rfl) (by kernel_rfl) (by kernel_rfl) (e := Extern.AbiNoEscape.same) (by kernel_rfl)]
  rw [Lib.run_noEscape]
  simp only [Result.andThen]
  rw [Oper.upon_value]
  go_wp2_with fail
  rw [Lib.run_from_unsafe w ⟨b, 0, none⟩ Try.underlying85 Try.underlying69 hj hsh liesBuilder]
  simp only [Result.andThen]
  rw [Oper.upon_value]
  go_wp2_with fail
  (first | go_end0 | ((try simp only [Exit.inBlock, Exit.then]); refine bodyPost_ret (results_none rfl _ _ _) rfl ?_))
  exact ⟨rfl, rfl⟩
theorem copyCheck_any (B b : Nat) (bs : List Value) (w : World) (h : Lib.IsBuilder 71 5 B b bs w) :
    Calls Try.prog 46 #[.pointer (some ⟨b, 0, none⟩)] w fun e w' => e = .returned (.tuple #[]) ∧ Lib.BuilderAt 71 5 B b (.pointer (some ⟨b, 0, none⟩)) bs w' ∧ Only [b] w w' := by
  rcases h with h | h
  · refine (copyCheck_fresh b w h.cell0 h.shape h.frozen0).mono ?_
    rintro e w' ⟨rfl, rfl⟩
    exact ⟨rfl, h.used _, Only.setCell _ ⟨b, 0, none⟩ _⟩
  · refine (copyCheck_used b w h.cell0).mono ?_
    rintro e w' ⟨rfl, rfl⟩
    exact ⟨rfl, h, Only.refl _ _⟩
/-- a builder, its cells told: the object's row, the bytes' slice -/
theorem writeByte_any (B b : Nat) (bs : List UInt8) (x : UInt8) (ww : World) (h : Lib.IsBuilder 71 5 B b (u8s bs) ww) (hb : bs.length + 1 ≤ 140737488355328) (hB : B ≤ ww.heap.size) :
    Calls Try.prog 38 #[.pointer (some ⟨b, 0, none⟩), .int .u8 (x.toNat : Int)] ww fun e w' => e = .returned .nilIface ∧ Lib.IsBuilder 71 5 B b (u8s (bs ++ [x])) w' ∧ Below B ww w' := by
  have hcc := copyCheck_any B b (u8s bs) ww h
  go_enter Try.func38, Try.ntmps38
  go_wp2_with fail
  refine hcc.mono ?_
  rintro e w1 ⟨rfl, h1, ho1⟩
  obtain ⟨hBb, v, hbk, hown, hne⟩ := h1
  have r1 : Row w1 b 71 [.pointer (some ⟨b, 0, none⟩), v] := hbk
  have own1 : Own w1 B 5 v (u8s bs) := hown
  obtain ⟨p, c, rfl, hrd, hlc, hc, hnil, hpb⟩ := own1.rd
  rw [u8s_length] at own1 hne hlc r1
  have hc1 := r1.cell (i := 1) rfl
  have hpb' : b ∉ blk p := by
    cases p with
    | none => simp [blk]
    | some a => simp [blk]; intro e; apply hne; simp [Value.ownBlock, e]
  have on := Only.alloc w1 (.cells #[.int .u8 (x.toNat : Int)] 5)
  have rn := Row.new w1 5 (u8s [x])
  obtain ⟨p', c', w2, hr, o2, h2, hp⟩ := append_owned (P := Try.prog) (n := bs.length) (m := 1) (bytes := 1) (q := some ⟨w1.heap.size, 0, none⟩) (c := 1) (news := u8s [x]) (t := 22) (ty := 22) _ Try.underlying22 infoByte rfl (own1.only0 on) rn.rd0 (by rfl) (by simp) (fun v hv => u8s_one hv) (by omega) (by omega) (by have := on.size; have := ho1.size; omega)
  have r2 := (r1.only0 on).only h2 hpb'
  have hc1' := r2.cell (i := 1) rfl
  have hf1' := r2.free 1
  have r3 := r2.setCell 1 (.slice p' (bs.length + 1) c')
  have o3 : Only [b] w2 (w2.setCell ⟨b, 1, none⟩ (.slice p' (bs.length + 1) c')) := Only.setCell _ ⟨b, 1, none⟩ _
  have hbl := r1.lt
  have hpb2 : b ∉ blk p' := by
    rcases hp with rfl | ⟨g, rfl, hg⟩
    · exact hpb'
    · have := on.size; simp [blk]; omega
  have own3 : Own (w2.setCell ⟨b, 1, none⟩ (.slice p' (bs.length + 1) c')) B 5 (.slice p' (bs.length + 1) c') (u8s bs ++ u8s [x]) := o2.only o3 (fun k hk h => by
    obtain rfl := List.mem_singleton.1 h
    cases p' with
    | none => simp [Value.ownBlock] at hk
    | some a => simp [Value.ownBlock] at hk; exact hpb2 (by simp [blk, hk]))
  have hfin : Lib.IsBuilder 71 5 B b (u8s (bs ++ [x])) (w2.setCell ⟨b, 1, none⟩ (.slice p' (bs.length + 1) c')) := by
    right
    refine ⟨hBb, .slice p' (bs.length + 1) c', r3, by rw [u8s_append]; exact own3, fun h => ?_⟩
    cases p' with
    | none => simp [Value.ownBlock] at h
    | some a => simp [Value.ownBlock] at h; exact hpb2 (by simp [blk, h])
  have hbel : Below B ww (w2.setCell ⟨b, 1, none⟩ (.slice p' (bs.length + 1) c')) := by
    have hall : Only (b :: blk p) ww (w2.setCell ⟨b, 1, none⟩ (.slice p' (bs.length + 1) c')) :=
      ((ho1.mono (by simp)).trans ((on.mono (by simp)).trans h2 (fun i hi _ => List.mem_cons_of_mem b hi)) (fun i hi _ => hi)).trans o3 (by simp)
    refine hall.belowOf hB (fun k hk => ?_)
    rcases List.mem_cons.1 hk with rfl | hk
    · exact hBb
    · cases p with
      | none => simp [blk] at hk
      | some a => simp [blk] at hk; subst hk; exact hpb a rfl
  have Hr := Lib.hid hr
  have Hfin := Lib.hid hfin
  have Hbel := Lib.hid hbel
  clear hr hfin hbel own3 o3 r3 r2 o2 h2 hp on rn own1 r1 hown hbk hcc h ho1 hne hrd
  go_wp2_with (first | (at_builtin; refine wpl_append (s := .tmp 11) (x := .tmp 13) rfl rfl rfl rfl Hr.out ?_))
  go_ret
  exact ⟨rfl, Hfin.out, Hbel.out⟩
/-- the shelf's numbers -/
def renString : Go.Shelf.Ren := ⟨fun | 169 => 39 | n => n, fun | 70 => 69 | 9 => 9 | 0 => 0 | 72 => 71 | 37 => 22 | 127 => 83 | 3 => 3 | 5 => 5 | n => n, fun | n => n⟩
theorem laysString : Go.Proofs.Lays.n169 Try.prog renString := {
  mixed := by kernel_rfl
  f169 := Try.func39.trans (congrArg some (by kernel_rfl))
  t0 := Try.underlying0
  a0 := Try.isAgg0
  z0 := Try.sizeOf0
  v0 := Try.zeroValue0
  t3 := Try.underlying3
  a3 := Try.isAgg3
  z3 := Try.sizeOf3
  v3 := Try.zeroValue3
  t9 := Try.underlying9
  a9 := Try.isAgg9
  z9 := Try.sizeOf9
  v9 := Try.zeroValue9
  t37 := Try.underlying22
  a37 := Try.isAgg22
  z37 := Try.sizeOf22
  v37 := Try.zeroValue22
  t70 := Try.underlying69
  a70 := Try.isAgg69
  z70 := Try.sizeOf69
  v70 := Try.zeroValue69
  t72 := Try.underlying71
  a72 := Try.isAgg71
  z72 := Try.sizeOf71
  v72 := Try.zeroValue71
  t127 := Try.underlying83
  a127 := Try.isAgg83
  z127 := Try.sizeOf83
  v127 := Try.zeroValue83 }
theorem laysBuilder : Builder.Extra Try.prog renString := {
  sizeBuilder := by kernel_rfl
  liesBuilder := by kernel_rfl
  t5 := Try.underlying5
  a5 := Try.isAgg5
  z5 := Try.sizeOf5
  v5 := Try.zeroValue5
  infoByte := by kernel_rfl
  cellsByte := by kernel_rfl
  sizeByte := by kernel_rfl
  neB5 := by decide }
theorem string_any (B b : Nat) (l : List UInt8) (w : World) (h : Lib.IsBuilder 71 5 B b (u8s l) w) (hB : B ≤ w.heap.size) :
    Calls Try.prog 39 #[.pointer (some ⟨b, 0, none⟩)] w fun e w' => e = .returned (.string ⟨l.toArray⟩) ∧ Below B w w' := Any.Builder_String_any laysString laysBuilder B b l w h hB
end Go.Proofs.Ytmddehbfimpjdaa
