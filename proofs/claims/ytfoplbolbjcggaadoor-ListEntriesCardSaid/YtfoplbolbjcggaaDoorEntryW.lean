/- The walk of list.entry. -/
import Derived.Test.YtfoplbolbjcggaaDoorStrsW
import Derived.Deep.DeepCutAuto
import Derived.Deep.Cut
set_option linter.unusedVariables false
set_option maxRecDepth 100000
namespace Go.Proofs.YtfoplbolbjcggaaDoor
open Go.RowKit

theorem str_cut (a b : Bs) (J : Nat) : str (a ++ b.take J) = str a ++ (str b).extract 0 J := by
  apply ByteArray.ext
  rw [ByteArray.data_append, ByteArray.data_extract]
  apply Array.ext'
  simp [str]
def en0 : En := ⟨[], false, 0, [], 0⟩
theorem enInfo : (Tryd.prog.info? 61).map (·.size) = some 5 := by kernel_rfl
theorem Row.storeEn {w : World} {g : Nat} {e e' : En} (r : Row w g 61 (enCells e)) : (Instr.storeAt 61 (.pointer (some ⟨g, 0, none⟩)) (enV e')).run Tryd.prog w = .ok () (w.setRow g (enCells e').toArray) :=
  r.storeAt (us := enCells e') enInfo rfl (by simp [enCells, Value.oneCell'])
def entAns (pf dl : Bs) (o : Ob) : Value := match entOf pf dl o with
  | some e => .tuple #[enV e, .bool true]
  | none => .tuple #[enV en0, .bool false]
set_option maxHeartbeats 8000000 in
theorem entry_any (o : Ob) (pf dl : Bs) (m : Int) (w0 : World) (hk : o.key.length ≤ 4294967280) (hpl : pf.length ≤ 140737488351232) (hdl : dl.length ≤ 140737488351232) (hm : w0.cell? ⟨18, 0, none⟩ = some (.int .i64 m)) :
    Calls Tryd.prog 53 #[obV o, .string (str pf), .string (str dl)] w0 fun e w' => e = .returned (entAns pf dl o) ∧ Only [] w0 w' := by
  obtain ⟨w1, hw1⟩ : ∃ w1, w1 = w0.alloc (.cells #[.string (str o.key), .int .i64 o.size, .string (str o.etag), .int .i64 (o.time : Int), .slice none 0 0] 59) := ⟨_, rfl⟩
  obtain ⟨w2, hw2⟩ : ∃ w2, w2 = w1.alloc (.cells #[.string ⟨#[]⟩, .bool false, .int .i64 0, .string ⟨#[]⟩, .int .i64 0] 61) := ⟨_, rfl⟩
  have o1 : Only [] w0 w1 := by rw [hw1]; exact Only.alloc _ _
  have o2 : Only [] w1 w2 := by rw [hw2]; exact Only.alloc _ _
  have s1 : w1.heap.size = w0.heap.size + 1 := by rw [hw1]; simp
  have r1 : Row w2 w0.heap.size 59 (obCells o) := by
    have : Row w1 w0.heap.size 59 (obCells o) := by rw [hw1]; exact Row.newOf _ _ _ _ rfl
    exact this.only0 o2
  have r2 : Row w2 (w0.heap.size + 1) 61 (enCells en0) := by rw [← s1, hw2]; exact Row.newOf _ _ _ _ rfl
  have hcut := cutPrefix_any o.key pf w2
  have hix := fun (s : Bs) (hs : s.length ≤ 4294967280) => index_any s dl m w2 hs (((o1.trans0 o2)).cell hm (by simp))
  have c0 := r1.cell (i := 0) rfl
  have c1 := r1.cell (i := 1) rfl
  have c2 := r1.cell (i := 2) rfl
  have c3 := r1.cell (i := 3) rfl
  have HO2 := Lib.hid (o1.trans0 o2)
  have HR2 := Lib.hid r2
  have Hw1 := Lib.hid hw1
  have Hw2 := Lib.hid hw2
  have Hix := Lib.hid hix
  have HK := Lib.hid hk
  unfold obV
  clear o1 o2 s1 r1 r2 hw1 hw2 hm hix hk
  go_enter Tryd.func53, Tryd.ntmps53
  go_wp2_with fail
  rw [← Hw1.out, ← Hw2.out]
  clear Hw1 Hw2
  refine hcut.mono ?_
  clear hcut
  rintro e w' ⟨rfl, hw'⟩
  rw [hw']
  clear hw'
  by_cases hp : pf <+: o.key
  · have hb : Lib.hasPrefix o.key pf = true := by unfold Lib.hasPrefix; exact List.isPrefixOf_iff_prefix.2 hp
    have ht : Lib.trimPrefix o.key pf = o.key.drop pf.length := by unfold Lib.trimPrefix; rw [hb, if_pos rfl]
    rw [hb, ht]
    obtain ⟨rs, hrs⟩ : ∃ rs, o.key.drop pf.length = rs := ⟨_, rfl⟩
    have hrl : rs.length ≤ 4294967280 := by rw [← hrs, List.length_drop]; have := HK.out; omega
    have hidx := Hix.out rs hrl
    rw [hrs]
    go_wp2_with fail
    refine hidx.mono ?_
    clear hidx
    rintro e w' ⟨rfl, hw'⟩
    rw [hw']
    clear hw'
    have Hfin : Hid (∀ e', (Instr.storeAt 61 (.pointer (some ⟨w0.heap.size + 1, 0, none⟩)) (enV e')).run Tryd.prog w2 = .ok () (w2.setRow (w0.heap.size + 1) (enCells e').toArray) ∧ Row (w2.setRow (w0.heap.size + 1) (enCells e').toArray) (w0.heap.size + 1) 61 (enCells e') ∧ Only [] w0 (w2.setRow (w0.heap.size + 1) (enCells e').toArray)) := Lib.hid fun e' =>
      ⟨HR2.out.storeEn, HR2.out.setRow (enCells e'), HO2.out.transN (Only.setRow w2 (w0.heap.size + 1) (enCells e').toArray) (by simp)⟩
    have Hrs := Lib.hid hrs
    have Hp := Lib.hid hp
    by_cases hd : dl = []
    · have hde : (str dl).toList = [] := by rw [hd, str_toList]
      have He : Hid (entOf pf dl o = some (enK o)) := Lib.hid (by
        unfold entOf comm
        rw [if_pos hp, if_neg (fun h => h.1 hd)])
      obtain ⟨hst, hrow, hO⟩ := Hfin.out (enK o)
      have Hst := Lib.hid hst
      have Hrow := Lib.hid hrow
      have HO := Lib.hid hO
      clear hst hrow hO hd hp hb ht
      go_wp2_with (first | ((with_reducible show wpList _ _ _ _ _ _); refine wpl_store (ty := 61) (x := .tmp 6) (y := .tmp 47) rfl rfl rfl rfl Hst.out ?_))
      refine bodyPost_ret (results_c2 rfl _ _ _ rfl Hrow.out Tryd.underlying61 enInfo) rfl ⟨?_, HO.out⟩
      unfold entAns
      rw [He.out]
      rfl
    · have hde : ¬ (str dl).toList = [] := by rw [str_toList]; exact hd
      have hde2 : (str dl).toList.isEmpty = false := by rw [str_toList]; cases dl with | nil => exact absurd rfl hd | cons x l => rfl
      by_cases hi : 0 ≤ Lib.index rs dl
      · obtain ⟨i, hie⟩ := Int.eq_ofNat_of_zero_le hi
        have hc : comm pf dl o.key = some (pf ++ rs.take (i + dl.length)) := by
          unfold comm
          rw [hrs, hie, if_pos ⟨hd, by omega⟩]
          rfl
        have hJ : i + dl.length ≤ rs.length := by
          obtain ⟨_, i', h1, h2, h3, _⟩ := (comm_some hp).1 hc
          rw [hrs] at h1 h2 h3
          have := Lib.index_first (by omega) h2 h3
          rw [hie] at this
          have : i = i' := by omega
          omega
        have He : Hid (entOf pf dl o = some (enC (pf ++ rs.take (i + dl.length)))) := Lib.hid (by
          unfold entOf
          rw [if_pos hp, hc])
        obtain ⟨hst, hrow, hO⟩ := Hfin.out (enC (pf ++ rs.take (i + dl.length)))
        obtain ⟨J, hJe⟩ : ∃ J, i + dl.length = J := ⟨_, rfl⟩
        have hname : str (pf ++ rs.take J) = str pf ++ (str rs).extract 0 J := str_cut pf rs J
        rw [hJe] at hst hrow hO hJ He
        unfold enV enC at hst
        rw [hname] at hst
        have Hst := Lib.hid hst
        have Hrow := Lib.hid hrow
        have HO := Lib.hid hO
        rw [hie]
        have hdsz : (str dl).size = dl.length := str_size dl
        have hrsz : (str rs).size = rs.length := str_size rs
        have hpsz : (str pf).size = pf.length := str_size pf
        have hwr : wrap64 ((i : Int) + (dl.length : Int)) = (J : Int) := by unfold wrap64; omega
        have hJ1 : (J : Int) ≤ (rs.length : Int) := by omega
        have hJ2 : ¬ 9223372036854775807 < pf.length + J := by omega
        clear hst hrow hO hie hi hd hc hJe hname hJ hp hb ht
        go_wp2_with (first | ((with_reducible show wpList _ _ _ _ _ _); refine wpl_store (ty := 61) (x := .tmp 6) (y := .tmp 38) rfl rfl rfl rfl Hst.out ?_))
        refine bodyPost_ret (results_c2 rfl _ _ _ rfl Hrow.out Tryd.underlying61 enInfo) rfl ⟨?_, HO.out⟩
        unfold entAns
        rw [He.out]
        rfl
      · have He : Hid (entOf pf dl o = some (enK o)) := Lib.hid (by
          unfold entOf comm
          rw [if_pos hp, if_neg (fun h => hi (by rw [← hrs]; exact h.2))])
        obtain ⟨hst, hrow, hO⟩ := Hfin.out (enK o)
        have Hst := Lib.hid hst
        have Hrow := Lib.hid hrow
        have HO := Lib.hid hO
        have hi' : Lib.index rs dl < 0 := by omega
        generalize Lib.index rs dl = ix at *
        clear hst hrow hO hd hp hb ht
        go_wp2_with (first | ((with_reducible show wpList _ _ _ _ _ _); refine wpl_store (ty := 61) (x := .tmp 6) (y := .tmp 47) rfl rfl rfl rfl Hst.out ?_))
        refine bodyPost_ret (results_c2 rfl _ _ _ rfl Hrow.out Tryd.underlying61 enInfo) rfl ⟨?_, HO.out⟩
        unfold entAns
        rw [He.out]
        rfl
  · have hb : Lib.hasPrefix o.key pf = false := by unfold Lib.hasPrefix; cases h : pf.isPrefixOf o.key with | false => rfl | true => exact absurd (List.isPrefixOf_iff_prefix.1 h) hp
    have ht : Lib.trimPrefix o.key pf = o.key := by unfold Lib.trimPrefix; rw [hb]; rfl
    rw [hb, ht]
    have he : entOf pf dl o = none := by unfold entOf; rw [if_neg hp]
    have hst := HR2.out.storeEn (e' := en0)
    have hrow := HR2.out.setRow (enCells en0)
    have hO : Only [] w0 (w2.setRow (w0.heap.size + 1) (enCells en0).toArray) := HO2.out.transN (Only.setRow w2 (w0.heap.size + 1) (enCells en0).toArray) (by simp)
    have Hst := Lib.hid hst
    have Hrow := Lib.hid hrow
    have HO := Lib.hid hO
    have He := Lib.hid he
    clear hst hrow hO he
    go_wp2_with (first | ((with_reducible show wpList _ _ _ _ _ _); refine wpl_store (ty := 61) (x := .tmp 6) (y := .tmp 20) rfl rfl rfl rfl Hst.out ?_))
    refine bodyPost_ret (results_c2 rfl _ _ _ rfl Hrow.out Tryd.underlying61 enInfo) rfl ⟨?_, HO.out⟩
    unfold entAns
    rw [He.out]
    rfl
end Go.Proofs.YtfoplbolbjcggaaDoor
