/- Contracts of functions of this seat, at the level of values: each holds for all arguments that it names. -/
import Derived.Test.YthbfemghbckipaaGreatVtPatE
set_option maxRecDepth 100000
namespace Go.Vt.Tryz
open Go.Proofs

theorem alive_runs : run 7 [] [] = some (.one (.d (.bool true)), []) := by kernel_rfl

theorem vc_alive : VC Tryz.prog 7 [] [] fun r h' => r = .one (.d (.bool true)) ∧ h' = [] := run_tells _ _ _ _ _ alive_runs

end Go.Vt.Tryz
