/- Contracts told to the printed texts: package rel. -/
import Derived.Test.YtojlcoebbgafhaaRelA
import Derived.Test.YtojlcoebbgafhaaE1R
namespace Go.Proofs.Ytojlcoebbgafhaa.PR
open Go.RowKit Go.Proofs.Ytojlcoebbgafhaa Go.Proofs.YtojlcoebbgafhaaW.PrintWords Go.Proofs.YtojlcoebbgafhaaW.PrintLast Go.Proofs.YtojlcoebbgafhaaW.PrintMore
set_option linter.unusedVariables false
def rel_Parse.f (l0 : List Int) (a1_0 a1_1 : Int) : Option (List S46 × Int) :=
  if bytesB l0 = true then if l0.length ≤ 140737488355328 then some ((parseP l0 a1_0 a1_1).getD [], errOf (parseP l0 a1_0 a1_1)) else none else none
theorem rel_Parse.calls (A0 : Option Addr) (c0 : Nat) (l0 : List Int) (a1_0 a1_1 : Int) (r1 : List S46) (r2 : Int) (w : World) (hr0 : Kd.C (Kd.int .u8) w A0 l0.length l0) (hc0 : l0.length ≤ c0) (h : rel_Parse.f l0 a1_0 a1_1 = some (r1, r2)) :
    Calls Try.prog 19 #[.slice A0 l0.length c0, .agg #[.int .i64 a1_0, .int .i64 a1_1]] w fun e w' => ∃ v0_ : Value, e = .returned (.tuple #[v0_, .int .i64 r2]) ∧ Kd.R k46 46 w' w.heap.size (fun _ => True) v0_ r1 ∧ Below w.heap.size w w' := by
  unfold rel_Parse.f at h
  split at h
  · rename_i hb
    split at h
    · rename_i hl
      obtain ⟨rfl, rfl⟩ := Prod.mk.inj (Option.some.inj h)
      refine (Parse_calls A0 l0.length c0 l0 w hl hc0 (reads_of hr0) ((bytesB_iff l0).1 hb) a1_0 a1_1).mono ?_
      rintro e w' ⟨v, rfl, hR, hB⟩
      exact ⟨v, rfl, hR, hB⟩
    · cases h
  · cases h
def rel_Apply.f (l0 : List Int) (l1 : List S46) (a2 : Int) : Option (List Int) :=
  if bytesB l0 = true then if l0.length ≤ 140737488355328 ∧ l1.length ≤ 4398046511104 ∧ 0 ≤ a2 ∧ a2 < 18446744073709551616 then some (applyP l0 (sitesP l1) a2) else none else none
theorem rel_Apply.calls (A0 : Option Addr) (c0 : Nat) (l0 : List Int) (A1 : Option Addr) (c1 : Nat) (l1 : List S46) (a2 : Int) (r : List Int) (w : World) (hr0 : Kd.C (Kd.int .u8) w A0 l0.length l0) (hc0 : l0.length ≤ c0) (hr1 : Kd.C k46 w A1 l1.length l1) (hc1 : l1.length ≤ c1) (h : rel_Apply.f l0 l1 a2 = some r) :
    Calls Try.prog 26 #[.slice A0 l0.length c0, .slice A1 l1.length c1, .int .u64 a2] w fun e w' => ∃ v0_ : Value, e = .returned (v0_) ∧ Kd.R (Kd.int .u8) 5 w' w.heap.size (fun _ => True) v0_ r ∧ Below w.heap.size w w' := by
  unfold rel_Apply.f at h
  split at h
  · rename_i hb
    split at h
    · rename_i hl
      obtain rfl := Option.some.inj h
      refine (Apply_calls A0 l0.length c0 l0 A1 c1 l1 a2 w hl.1 hc0 (reads_of hr0) ((bytesB_iff l0).1 hb) hr1 hc1 hl.2.1 hl.2.2.1 hl.2.2.2).mono ?_
      rintro e w' ⟨v, rfl, hown, hB⟩
      refine ⟨v, rfl, ?_, hB⟩
      exact Kd.R_of_own (h1 := fun _ => rfl) (enc := Value.int .u8) (by rw [applyP_len]; exact hown) (fun _ _ => trivial)
    · cases h
  · cases h
end Go.Proofs.Ytojlcoebbgafhaa.PR
