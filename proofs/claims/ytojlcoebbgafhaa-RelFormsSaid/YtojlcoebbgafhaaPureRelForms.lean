/- RelForms, plain. -/
import Derived.Test.YtojlcoebbgafhaaE2
import Derived.Test.YtojlcoebbgafhaaRF6
namespace Go.Proofs.Ytojlcoebbgafhaa.Pure
open Go.RowKit Go.Proofs.Ytojlcoebbgafhaa Go.Proofs.Ytojlcoebbgafhaa.PR Go.Proofs.YtojlcoebbgafhaaW.PrintWords Go.Proofs.YtojlcoebbgafhaaW.PrintLast
set_option maxRecDepth 1000000 in
theorem RelForms : slipwaylaw10_RelForms.Pure := by
  intro a0 _
  refine ⟨200, ?_⟩
  have h := and_i64 a0 7 (by decide)
  have e : slipwaylaw10_RelForms.f 200 a0 = slipwaylaw10_RelForms.f 200 a0 := rfl
  unfold slipwaylaw10_RelForms.f at e ⊢
  clear e
  generalize Go.bits .and .i64 a0 7 = c at h ⊢
  have : c = 0 ∨ c = 1 ∨ c = 2 ∨ c = 3 ∨ c = 4 ∨ c = 5 ∨ c = 6 ∨ c = 7 := by have := h.1; have := h.2; omega
  rcases this with rfl | rfl | rfl | rfl | rfl | rfl | rfl | rfl <;> (refine Eq.trans (b := some true) ?_ rfl; kernel_rfl)
end Go.Proofs.Ytojlcoebbgafhaa.Pure
