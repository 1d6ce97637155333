/- The law AluCarries holds: for any four numbers (every input) it returns true and its arguments read as before; no condition. -/
import Derived.Test.YtcmpcejbephaeaaRows
import Derived.Test.YtcmpcejbephaeaaAluLaws
import Derived.Test.YtcmpcejbephaeaaAluPure
import Derived.WalkKit
import Derived.ProofKit
import Derived.OpenShut
import Derived.ShutString
import Derived.ChangeOld
import Derived.Below
import Derived.Lib.SmallJoins
namespace Go.Proofs.Ytcmpcejbephaeaa
open Go.ChangeShapes Go.WideShapes Go.ChangeAt Go.RowKit
open Go.ChangeMaps (open_string shut_string)
set_option linter.unusedVariables false
theorem row_own : ownKnob Try.prog.godebug = none := by kernel_rfl
theorem row_laidOut : laidOutB Try.prog = true := by kernel_rfl
theorem AluCarries_walk (a : Int) (ha : 0 ≤ a ∧ a < 18446744073709551616) (b : Int) (hb : 0 ≤ b ∧ b < 18446744073709551616) (c : Int) (hc : 0 ≤ c ∧ c < 18446744073709551616) (d : Int) (hd : 0 ≤ d ∧ d < 18446744073709551616) (w : World) :
    Calls Try.prog 10 #[.int .u64 a, .int .u64 b, .int .u64 c, .int .u64 d] w fun e w' => e = .returned (.bool true) ∧ Below w.heap.size w w' := by
  have h1 : addV a c = (a + c) % 18446744073709551616 := by unfold addV; rw [wrapU]
  have h2 : addV b d = (b + d) % 18446744073709551616 := by unfold addV; rw [wrapU]
  cases hc : addC a c with
  | true =>
    have h3 : addV (addV b d) 1 = (addV b d + 1) % 18446744073709551616 := by unfold addV; rw [wrapU, wrapU]
    have h4 : subV (addV (addV b d) 1) d = (addV (addV b d) 1 - d) % 18446744073709551616 := by unfold subV; rw [wrapU]
    have h5 : subV (subV (addV (addV b d) 1) d) 1 = (subV (addV (addV b d) 1) d - 1) % 18446744073709551616 := by unfold subV; rw [wrapU, wrapU]
    have hc1 : addV a c < a := by have := hc; unfold addC at this; simpa [addV] using this
    have hs : subC (addV a c) c = true := by unfold subC; simp; omega
    exact carries_tt a b c d (addV a c) (addV b d) (addV (addV b d) 1) (subV (addV a c) c) (subV (addV (addV b d) 1) d) (subV (subV (addV (addV b d) 1) d) 1) _ _ true _ _ _ _ _ _ _ _ _ _ _ true _ _ _ _ _ _ _ true _ w
      (Lib.hid (by show tellR (addV a c) (addC a c) (addO a c) = _; rw [hc]; rfl)) (Lib.hid rfl) (Lib.hid rfl) (Lib.hid (by show tellR (subV (addV a c) c) (subC (addV a c) c) (subO (addV a c) c) = _; rw [hs]; rfl)) (Lib.hid rfl) (Lib.hid rfl)
      (by rw [sub_add a c ha]; simp) (by rw [beq_iff_eq]; omega) (by simpa using hc1) hs
  | false =>
    have h4 : subV (addV b d) d = (addV b d - d) % 18446744073709551616 := by unfold subV; rw [wrapU]
    have hc1 : ¬ addV a c < a := by have := hc; unfold addC at this; simpa [addV] using this
    have hs : subC (addV a c) c = false := by unfold subC; simp; omega
    exact carries_ff a b c d (addV a c) (addV b d) 0 (subV (addV a c) c) (subV (addV b d) d) 0 _ _ false _ _ _ _ _ false false false false _ _ false _ _ _ _ _ false false false false w
      (Lib.hid (by show tellR (addV a c) (addC a c) (addO a c) = _; rw [hc]; rfl)) (Lib.hid rfl) (Lib.hid (by show tellR (subV (addV a c) c) (subC (addV a c) c) (subO (addV a c) c) = _; rw [hs]; rfl)) (Lib.hid rfl)
      (by rw [sub_add a c ha]; simp) (by rw [beq_iff_eq]; omega) (by simpa using hc1) hs
set_option maxRecDepth 100000 in
theorem AluCarries_lifted (os : Os) (started : os.Started) (H : Type) (enc : TypeId × Value → H) :
    ReturnsInHanded {} Try.checked os 10 .any (Rows.aluCarriesSpec.pre6 enc Try.prog Try.f10 Rows.aluCarriesRow.domain false) (Rows.aluCarriesSpec.post enc Try.prog Try.f10 false true false false) := by
  refine returnsInHanded_of_change (C := Try.checked) row_own started (by kernel_rfl) Try.func10
    (ChangeSpec.witness6 (enc := enc) (C := Try.checked) false ⟨#[], #[.int .u64 0, .int .u64 0, .int .u64 0, .int .u64 0], []⟩ 8 (by kernel_rfl) (by kernel_rfl) (by kernel_rfl) (by kernel_rfl)) ?_
  intro W base args ds gs before hval0 hW hcnd _
  have hval : ∀ (j : Nat) t v, Try.f10.params[j]? = some t → args[j]? = some v → Value.okWide Try.prog W .any base t v := hval0
  have hW' := hW
  obtain ⟨p, q, hA0, hV, rfl, hfz, hnd⟩ := hW
  have hA : DataW.TrodAll enc Try.prog W 0 (fun _ => true) true Try.f10.params.toList args.toList ds p := hA0
  rw [Try.params10] at hA hval
  obtain ⟨v0, vs0, d0, ds0, p0, q0, hargs, rfl, rfl, h0, r0⟩ := trodAll_cons hA
  obtain ⟨v1, vs1, d1, ds1, p1, q1, rfl, rfl, rfl, h1, r1⟩ := trodAll_cons r0
  obtain ⟨v2, vs2, d2, ds2, p2, q2, rfl, rfl, rfl, h2, r2⟩ := trodAll_cons r1
  obtain ⟨v3, vs3, d3, ds3, p3, q3, rfl, rfl, rfl, h3, r3⟩ := trodAll_cons r2
  obtain ⟨rfl, rfl, rfl⟩ := trodAll_nil r3
  obtain rfl : args = #[v0, v1, v2, v3] := by cases args; simp_all
  obtain ⟨rfl, rfl⟩ := trodVars_none hV
  have k0 := h0
  have lt0 : ∀ x ∈ p0, x.block < W.heap.size := by obtain ⟨m, hm⟩ := k0; exact DataW.trod_lt m _ _ _ hm
  obtain ⟨a0, rfl, rfl, rfl, w0⟩ := open_int Try.underlying27 (hval 0 27 v0 rfl rfl) h0
  have k1 := h1
  have lt1 : ∀ x ∈ p1, x.block < W.heap.size := by obtain ⟨m, hm⟩ := k1; exact DataW.trod_lt m _ _ _ hm
  obtain ⟨a1, rfl, rfl, rfl, w1⟩ := open_int Try.underlying27 (hval 1 27 v1 rfl rfl) h1
  have k2 := h2
  have lt2 : ∀ x ∈ p2, x.block < W.heap.size := by obtain ⟨m, hm⟩ := k2; exact DataW.trod_lt m _ _ _ hm
  obtain ⟨a2, rfl, rfl, rfl, w2⟩ := open_int Try.underlying27 (hval 2 27 v2 rfl rfl) h2
  have k3 := h3
  have lt3 : ∀ x ∈ p3, x.block < W.heap.size := by obtain ⟨m, hm⟩ := k3; exact DataW.trod_lt m _ _ _ hm
  obtain ⟨a3, rfl, rfl, rfl, w3⟩ := open_int Try.underlying27 (hval 3 27 v3 rfl rfl) h3
  clear hA0 hval0
  refine (AluCarries_walk a0 (wf_u64 w0) a1 (wf_u64 w1) a2 (wf_u64 w2) a3 (wf_u64 w3) W).mono fun e W' ⟨he, bel⟩ => ?_
  subst he
  exact ⟨_, rfl, _, _, _, [], _, [], hW', trodAll_mk1 (shut_bool Try.underlying4 _), (trodAll_cons_mk (Below.trod row_laidOut (by kernel_rfl) (of_decide_eq_true (by kernel_rfl)) k0 bel lt0) (trodAll_cons_mk (Below.trod row_laidOut (by kernel_rfl) (of_decide_eq_true (by kernel_rfl)) k1 bel lt1) (trodAll_cons_mk (Below.trod row_laidOut (by kernel_rfl) (of_decide_eq_true (by kernel_rfl)) k2 bel lt2) (trodAll_cons_mk (Below.trod row_laidOut (by kernel_rfl) (of_decide_eq_true (by kernel_rfl)) k3 bel lt3) trodAll_mk0)))), rfl, bel.frame _, fun h => by cases h⟩
theorem AluCarries_over : Rows.aluCarriesRow.holds Try.pinned (OpenSpec.ofChange Rows.aluCarriesSpec) :=
  OpenClaim.holds_of_wide 10 Try.f10 rfl rfl rfl rfl rfl rfl rfl ⟨rfl, rfl, rfl, rfl, rfl⟩ rfl rfl rfl rfl rfl (by kernel_rfl) Try.func10 (by kernel_rfl)
    (of_decide_eq_true (by kernel_rfl)) (by unfold Func.isWrapper; first | (rw [if_pos (by decide +kernel)]; kernel_rfl) | (rw [if_neg (by decide +kernel)]; exact ⟨rfl, rfl⟩))
    (fun os started H enc _ => AluCarries_lifted os started H enc)
theorem AluCarries_holds : Rows.AluCarriesSaid := AluCarries_over

#print axioms AluCarries_holds
end Go.Proofs.Ytcmpcejbephaeaa
