/- Law 10's awake is true. -/
import Derived.Test.YtojlcoebbgafhaaRelQ
import Derived.Test.YtojlcoebbgafhaaRF20
namespace Go.Proofs.Ytojlcoebbgafhaa
open Go.RowKit
set_option linter.unusedVariables false
set_option linter.unusedSimpArgs false
open PR
open Go.Proofs.YtojlcoebbgafhaaW.PrintWords Go.Proofs.YtojlcoebbgafhaaW.PrintLast Go.Proofs.YtojlcoebbgafhaaW.PrintMore
set_option maxRecDepth 1000000 in
theorem rel_awake : slipwaylaw10_awake.f 100 = some true := by kernel_rfl
theorem rel_awake_k (k : Nat) (h : 100 ≤ k) : slipwaylaw10_awake.f k = some true := at_rounds (fun k => slipwaylaw10_awake.mono k) h rel_awake
theorem entry0 (n : Nat) (out : List S46) (p : Int) : entryP n out 0 p = some out := if_pos rfl
theorem row_zero (n : Nat) (page : Int) (out : List S46) : rowP n page [0] out = some out := by
  simp only [rowP]
  rw [show (0 : Int) / 4096 = 0 from rfl, entry0]; rfl
def padV (vs : List Int) : List Int := if vs.length % 2 = 0 then vs else vs ++ [0]
theorem padV_even (vs : List Int) : (padV vs).length % 2 = 0 := by
  unfold padV; split
  · assumption
  · rw [List.length_append]; simp; omega
theorem padV_len (vs : List Int) : (padV vs).length ≤ vs.length + 1 := by
  unfold padV; split
  · omega
  · simp
theorem padV_in (vs : List Int) (h : ∀ v ∈ vs, 0 ≤ v ∧ v < 65536) : ∀ v ∈ padV vs, 0 ≤ v ∧ v < 65536 := by
  unfold padV; split
  · exact h
  · intro v hv
    rcases List.mem_append.1 hv with hv | hv
    · exact h v hv
    · obtain rfl := List.mem_singleton.1 hv; omega
end Go.Proofs.Ytojlcoebbgafhaa
