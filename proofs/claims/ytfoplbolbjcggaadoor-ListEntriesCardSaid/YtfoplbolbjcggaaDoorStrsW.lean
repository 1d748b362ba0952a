/- strings.Index and strings.CutPrefix by the shelf's contracts. -/
import Derived.Shelf.Strings.Search3
import Derived.Shelf.Small.Wraps
import Derived.Test.YtfoplbolbjcggaaDoorListBase
set_option linter.unusedVariables false
set_option maxRecDepth 100000
namespace Go.Proofs.YtfoplbolbjcggaaDoor
open Go.RowKit

def renIndex : Go.Shelf.Ren := ⟨fun | 143 => 83 | 217 => 109 | 219 => 112 | 224 => 133 | 225 => 132 | 266 => 129 | 267 => 134 | 314 => 146 | n => n, fun | 3 => 3 | 4 => 4 | 5 => 5 | 9 => 9 | 46 => 149 | 51 => 160 | 146 => 240 | n => n, fun | 1 => 18 | n => n⟩
theorem laysIndex : Go.Proofs.Lays.n143 Tryd.prog renIndex := {
  mixed := by kernel_rfl
  f143 := Tryd.func83.trans (congrArg some (by kernel_rfl))
  f217 := Tryd.func109.trans (congrArg some (by kernel_rfl))
  f219 := Tryd.func112.trans (congrArg some (by kernel_rfl))
  f224 := Tryd.func133.trans (congrArg some (by kernel_rfl))
  f225 := Tryd.func132.trans (congrArg some (by kernel_rfl))
  f266 := Tryd.func129.trans (congrArg some (by kernel_rfl))
  f267 := Tryd.func134.trans (congrArg some (by kernel_rfl))
  f314 := Tryd.func146.trans (congrArg some (by kernel_rfl))
  t3 := Tryd.underlying3
  a3 := Tryd.isAgg3
  z3 := Tryd.sizeOf3
  v3 := Tryd.zeroValue3
  t4 := Tryd.underlying4
  a4 := Tryd.isAgg4
  z4 := Tryd.sizeOf4
  v4 := Tryd.zeroValue4
  t5 := Tryd.underlying5
  a5 := Tryd.isAgg5
  z5 := Tryd.sizeOf5
  v5 := Tryd.zeroValue5
  t9 := Tryd.underlying9
  a9 := Tryd.isAgg9
  z9 := Tryd.sizeOf9
  v9 := Tryd.zeroValue9
  t46 := Tryd.underlying149
  a46 := Tryd.isAgg149
  z46 := Tryd.sizeOf149
  v46 := Tryd.zeroValue149
  t51 := Tryd.underlying160
  a51 := Tryd.isAgg160
  z51 := Tryd.sizeOf160
  v51 := Tryd.zeroValue160
  t146 := Tryd.underlying240
  a146 := Tryd.isAgg240
  z146 := Tryd.sizeOf240
  v146 := Tryd.zeroValue240
  g1 := by kernel_rfl
}
def renCut : Go.Shelf.Ren := ⟨fun | 103 => 82 | 206 => 131 | 210 => 111 | n => n, fun | 3 => 3 | 4 => 4 | 9 => 9 | 24 => 109 | n => n, fun n => n⟩
theorem laysCut : Go.Proofs.Lays.n103 Tryd.prog renCut := {
  mixed := by kernel_rfl
  f103 := Tryd.func82.trans (congrArg some (by kernel_rfl))
  f206 := Tryd.func131.trans (congrArg some (by kernel_rfl))
  f210 := Tryd.func111.trans (congrArg some (by kernel_rfl))
  t3 := Tryd.underlying3
  a3 := Tryd.isAgg3
  z3 := Tryd.sizeOf3
  v3 := Tryd.zeroValue3
  t4 := Tryd.underlying4
  a4 := Tryd.isAgg4
  z4 := Tryd.sizeOf4
  v4 := Tryd.zeroValue4
  t9 := Tryd.underlying9
  a9 := Tryd.isAgg9
  z9 := Tryd.sizeOf9
  v9 := Tryd.zeroValue9
  t24 := Tryd.underlying109
  a24 := Tryd.isAgg109
  z24 := Tryd.sizeOf109
  v24 := Tryd.zeroValue109
}

theorem index_any (s sub : Bs) (m : Int) (w : World) (hs : s.length ≤ 4294967280) (hm : w.cell? ⟨18, 0, none⟩ = some (.int .i64 m)) :
    Calls Tryd.prog 83 #[.string (str s), .string (str sub)] w fun e w' => e = .returned (.int .i64 (Lib.index s sub)) ∧ w' = w :=
  Any.strings_Index laysIndex (str s) (str sub) m w (by rw [str_size]; omega) hm
theorem cutPrefix_any (s p : Bs) (w : World) :
    Calls Tryd.prog 82 #[.string (str s), .string (str p)] w fun e w' => e = .returned (.tuple #[.string (str (Lib.trimPrefix s p)), .bool (Lib.hasPrefix s p)]) ∧ w' = w :=
  Any.strings_CutPrefix laysCut (str s) (str p) w
end Go.Proofs.YtfoplbolbjcggaaDoor
