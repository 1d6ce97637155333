/- Law 10's awake is true. -/
import Derived.Test.YtojlcoebbgafhaaRelC
import Derived.Test.YtojlcoebbgafhaaRF20
namespace Go.Proofs.Ytojlcoebbgafhaa
open Go.RowKit
set_option linter.unusedVariables false
set_option linter.unusedSimpArgs false
open PR
open Go.Proofs.YtojlcoebbgafhaaW.PrintWords Go.Proofs.YtojlcoebbgafhaaW.PrintLast Go.Proofs.YtojlcoebbgafhaaW.PrintMore
set_option maxRecDepth 1000000 in
theorem rel_awake : slipwaylaw10_awake.f 100 = some true := by kernel_rfl
theorem rel_awake_k (k : Nat) (h : 100 ≤ k) : slipwaylaw10_awake.f k = some true := at_rounds (fun k => slipwaylaw10_awake.mono k) h rel_awake
end Go.Proofs.Ytojlcoebbgafhaa
