/- RelBounds, plain. -/
import Derived.Test.YtojlcoebbgafhaaPRelBounds
namespace Go.Proofs.Ytojlcoebbgafhaa.Pure
open Go.RowKit Go.Proofs.Ytojlcoebbgafhaa Go.Proofs.Ytojlcoebbgafhaa.PR Go.Proofs.YtojlcoebbgafhaaW.PrintWords Go.Proofs.YtojlcoebbgafhaaW.PrintLast
theorem RelBounds : slipwaylaw10_RelBounds.Pure := by
  intro a0 a1 _ _
  have h : 0 ≤ Go.bits .and .i64 a0 7 ∧ Go.bits .and .i64 a0 7 ≤ 7 := and_i64 a0 7 (by decide)
  obtain ⟨n, hn⟩ := Int.eq_ofNat_of_zero_le h.1
  have h2 : n ≤ 7 := by have := h.2; rw [hn] at this; omega
  refine ⟨1000 + (508 + n) + 1, ?_⟩
  unfold slipwaylaw10_RelBounds.f
  have hw : wrap64 (Go.bits .and .i64 a0 7 + 508) = ((508 + n : Nat) : Int) := by rw [hn]; unfold wrap64; omega
  rw [hw]
  have := loop0 (508 + n) (Go.bits .and .i64 a1 63) (by omega) (508 + n) 0 1000 (by omega)
  exact this.trans (j1_ends (508 + n) _ (by omega) (by omega) 1000 (by omega))
end Go.Proofs.Ytojlcoebbgafhaa.Pure
