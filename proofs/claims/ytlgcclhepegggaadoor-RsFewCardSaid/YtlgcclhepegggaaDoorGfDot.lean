/- The walks of gf.Add, gf.Dot and their like. -/
import Derived.Test.YtlgcclhepegggaaDoorGfMul
import Derived.Deep.QuietTactic
import Derived.BigQuiet
namespace Go.Proofs.YtlgcclhepegggaaDoor
open Go.RowKit

end Go.Proofs.YtlgcclhepegggaaDoor
