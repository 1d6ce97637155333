/- The law AluOrders holds: for any two numbers (every input) it returns true and its arguments read as before; no condition. -/
import Derived.Test.YtcmpcejbephaeaaRows
import Derived.Test.YtcmpcejbephaeaaAluLaws
import Derived.Test.YtcmpcejbephaeaaAluPure
import Derived.WalkKit
import Derived.ProofKit
import Derived.OpenShut
import Derived.ShutString
import Derived.ChangeOld
import Derived.Below
import Derived.Lib.SmallJoins
namespace Go.Proofs.Ytcmpcejbephaeaa
open Go.ChangeShapes Go.WideShapes Go.ChangeAt Go.RowKit
open Go.ChangeMaps (open_string shut_string)
set_option linter.unusedVariables false
theorem row_own : ownKnob Try.prog.godebug = none := by kernel_rfl
theorem row_laidOut : laidOutB Try.prog = true := by kernel_rfl
theorem AluOrders_walk (a : Int) (ha : 0 ≤ a ∧ a < 18446744073709551616) (b : Int) (hb : 0 ≤ b ∧ b < 18446744073709551616) (w : World) :
    Calls Try.prog 14 #[.int .u64 a, .int .u64 b] w fun e w' => e = .returned (.bool true) ∧ Below w.heap.size w w' := by
  cases hz : (subV a b == 0) with
  | false =>
    cases hl : subC a b <;> cases hg : (hiB (subV a b) != subO a b) <;> cases hn : hiB (subV a b)
    · exact orders_0 a b a (subV a b == 0) (hiB (subV a b)) (subC a b) (subO a b) w (Lib.hid rfl) (Lib.hid hz) (Lib.hid (by show (!(subV a b == 0)) = _; rw [hz]; rfl)) (Lib.hid hl) (Lib.hid (by show (!(subC a b)) = _; rw [hl]; rfl)) (Lib.hid hg) (Lib.hid (by show (hiB (subV a b) == subO a b) = _; cases h1 : hiB (subV a b) <;> cases h2 : subO a b <;> rw [h1, h2] at hg <;> first | rfl | (exact absurd hg (by decide)))) (Lib.hid hn) (Lib.hid (by show (!(hiB (subV a b))) = _; rw [hn]; rfl)) (Lib.hid rfl) ((sub_zero a b ha hb).symm.trans hz) (by rw [bne, ← sub_zero a b ha hb, hz]; rfl) hl (by have := hl; unfold subC at this; simp at this ⊢; omega) ((less_eq a b ha hb).symm.trans hg) (by have := (less_eq a b ha hb).symm.trans hg; simp at this ⊢; omega) ((sgn_eq _ (subV_lt a b)).trans hn) ((nsgn_eq _ (subV_lt a b)).trans (by rw [hn]; rfl))
    · exact orders_4 a b a (subV a b == 0) (hiB (subV a b)) (subC a b) (subO a b) w (Lib.hid rfl) (Lib.hid hz) (Lib.hid (by show (!(subV a b == 0)) = _; rw [hz]; rfl)) (Lib.hid hl) (Lib.hid (by show (!(subC a b)) = _; rw [hl]; rfl)) (Lib.hid hg) (Lib.hid (by show (hiB (subV a b) == subO a b) = _; cases h1 : hiB (subV a b) <;> cases h2 : subO a b <;> rw [h1, h2] at hg <;> first | rfl | (exact absurd hg (by decide)))) (Lib.hid hn) (Lib.hid (by show (!(hiB (subV a b))) = _; rw [hn]; rfl)) (Lib.hid rfl) ((sub_zero a b ha hb).symm.trans hz) (by rw [bne, ← sub_zero a b ha hb, hz]; rfl) hl (by have := hl; unfold subC at this; simp at this ⊢; omega) ((less_eq a b ha hb).symm.trans hg) (by have := (less_eq a b ha hb).symm.trans hg; simp at this ⊢; omega) ((sgn_eq _ (subV_lt a b)).trans hn) ((nsgn_eq _ (subV_lt a b)).trans (by rw [hn]; rfl))
    · exact orders_2 a b a (subV a b == 0) (hiB (subV a b)) (subC a b) (subO a b) w (Lib.hid rfl) (Lib.hid hz) (Lib.hid (by show (!(subV a b == 0)) = _; rw [hz]; rfl)) (Lib.hid hl) (Lib.hid (by show (!(subC a b)) = _; rw [hl]; rfl)) (Lib.hid hg) (Lib.hid (by show (hiB (subV a b) == subO a b) = _; cases h1 : hiB (subV a b) <;> cases h2 : subO a b <;> rw [h1, h2] at hg <;> first | rfl | (exact absurd hg (by decide)))) (Lib.hid hn) (Lib.hid (by show (!(hiB (subV a b))) = _; rw [hn]; rfl)) (Lib.hid rfl) ((sub_zero a b ha hb).symm.trans hz) (by rw [bne, ← sub_zero a b ha hb, hz]; rfl) hl (by have := hl; unfold subC at this; simp at this ⊢; omega) ((less_eq a b ha hb).symm.trans hg) (by have := (less_eq a b ha hb).symm.trans hg; simp at this ⊢; omega) ((sgn_eq _ (subV_lt a b)).trans hn) ((nsgn_eq _ (subV_lt a b)).trans (by rw [hn]; rfl))
    · exact orders_6 a b a (subV a b == 0) (hiB (subV a b)) (subC a b) (subO a b) w (Lib.hid rfl) (Lib.hid hz) (Lib.hid (by show (!(subV a b == 0)) = _; rw [hz]; rfl)) (Lib.hid hl) (Lib.hid (by show (!(subC a b)) = _; rw [hl]; rfl)) (Lib.hid hg) (Lib.hid (by show (hiB (subV a b) == subO a b) = _; cases h1 : hiB (subV a b) <;> cases h2 : subO a b <;> rw [h1, h2] at hg <;> first | rfl | (exact absurd hg (by decide)))) (Lib.hid hn) (Lib.hid (by show (!(hiB (subV a b))) = _; rw [hn]; rfl)) (Lib.hid rfl) ((sub_zero a b ha hb).symm.trans hz) (by rw [bne, ← sub_zero a b ha hb, hz]; rfl) hl (by have := hl; unfold subC at this; simp at this ⊢; omega) ((less_eq a b ha hb).symm.trans hg) (by have := (less_eq a b ha hb).symm.trans hg; simp at this ⊢; omega) ((sgn_eq _ (subV_lt a b)).trans hn) ((nsgn_eq _ (subV_lt a b)).trans (by rw [hn]; rfl))
    · exact orders_1 a b a (subV a b == 0) (hiB (subV a b)) (subC a b) (subO a b) w (Lib.hid rfl) (Lib.hid hz) (Lib.hid (by show (!(subV a b == 0)) = _; rw [hz]; rfl)) (Lib.hid hl) (Lib.hid (by show (!(subC a b)) = _; rw [hl]; rfl)) (Lib.hid hg) (Lib.hid (by show (hiB (subV a b) == subO a b) = _; cases h1 : hiB (subV a b) <;> cases h2 : subO a b <;> rw [h1, h2] at hg <;> first | rfl | (exact absurd hg (by decide)))) (Lib.hid hn) (Lib.hid (by show (!(hiB (subV a b))) = _; rw [hn]; rfl)) (Lib.hid rfl) ((sub_zero a b ha hb).symm.trans hz) (by rw [bne, ← sub_zero a b ha hb, hz]; rfl) hl (by have := hl; unfold subC at this; simp at this ⊢; omega) ((less_eq a b ha hb).symm.trans hg) (by have := (less_eq a b ha hb).symm.trans hg; simp at this ⊢; omega) ((sgn_eq _ (subV_lt a b)).trans hn) ((nsgn_eq _ (subV_lt a b)).trans (by rw [hn]; rfl))
    · exact orders_5 a b a (subV a b == 0) (hiB (subV a b)) (subC a b) (subO a b) w (Lib.hid rfl) (Lib.hid hz) (Lib.hid (by show (!(subV a b == 0)) = _; rw [hz]; rfl)) (Lib.hid hl) (Lib.hid (by show (!(subC a b)) = _; rw [hl]; rfl)) (Lib.hid hg) (Lib.hid (by show (hiB (subV a b) == subO a b) = _; cases h1 : hiB (subV a b) <;> cases h2 : subO a b <;> rw [h1, h2] at hg <;> first | rfl | (exact absurd hg (by decide)))) (Lib.hid hn) (Lib.hid (by show (!(hiB (subV a b))) = _; rw [hn]; rfl)) (Lib.hid rfl) ((sub_zero a b ha hb).symm.trans hz) (by rw [bne, ← sub_zero a b ha hb, hz]; rfl) hl (by have := hl; unfold subC at this; simp at this ⊢; omega) ((less_eq a b ha hb).symm.trans hg) (by have := (less_eq a b ha hb).symm.trans hg; simp at this ⊢; omega) ((sgn_eq _ (subV_lt a b)).trans hn) ((nsgn_eq _ (subV_lt a b)).trans (by rw [hn]; rfl))
    · exact orders_3 a b a (subV a b == 0) (hiB (subV a b)) (subC a b) (subO a b) w (Lib.hid rfl) (Lib.hid hz) (Lib.hid (by show (!(subV a b == 0)) = _; rw [hz]; rfl)) (Lib.hid hl) (Lib.hid (by show (!(subC a b)) = _; rw [hl]; rfl)) (Lib.hid hg) (Lib.hid (by show (hiB (subV a b) == subO a b) = _; cases h1 : hiB (subV a b) <;> cases h2 : subO a b <;> rw [h1, h2] at hg <;> first | rfl | (exact absurd hg (by decide)))) (Lib.hid hn) (Lib.hid (by show (!(hiB (subV a b))) = _; rw [hn]; rfl)) (Lib.hid rfl) ((sub_zero a b ha hb).symm.trans hz) (by rw [bne, ← sub_zero a b ha hb, hz]; rfl) hl (by have := hl; unfold subC at this; simp at this ⊢; omega) ((less_eq a b ha hb).symm.trans hg) (by have := (less_eq a b ha hb).symm.trans hg; simp at this ⊢; omega) ((sgn_eq _ (subV_lt a b)).trans hn) ((nsgn_eq _ (subV_lt a b)).trans (by rw [hn]; rfl))
    · exact orders_7 a b a (subV a b == 0) (hiB (subV a b)) (subC a b) (subO a b) w (Lib.hid rfl) (Lib.hid hz) (Lib.hid (by show (!(subV a b == 0)) = _; rw [hz]; rfl)) (Lib.hid hl) (Lib.hid (by show (!(subC a b)) = _; rw [hl]; rfl)) (Lib.hid hg) (Lib.hid (by show (hiB (subV a b) == subO a b) = _; cases h1 : hiB (subV a b) <;> cases h2 : subO a b <;> rw [h1, h2] at hg <;> first | rfl | (exact absurd hg (by decide)))) (Lib.hid hn) (Lib.hid (by show (!(hiB (subV a b))) = _; rw [hn]; rfl)) (Lib.hid rfl) ((sub_zero a b ha hb).symm.trans hz) (by rw [bne, ← sub_zero a b ha hb, hz]; rfl) hl (by have := hl; unfold subC at this; simp at this ⊢; omega) ((less_eq a b ha hb).symm.trans hg) (by have := (less_eq a b ha hb).symm.trans hg; simp at this ⊢; omega) ((sgn_eq _ (subV_lt a b)).trans hn) ((nsgn_eq _ (subV_lt a b)).trans (by rw [hn]; rfl))
  | true =>
    have hab : a = b := by have := (sub_zero a b ha hb).symm.trans hz; simpa using this
    have hl : subC a b = false := by unfold subC; simp; omega
    have hn : hiB (subV a b) = false := by rw [beq_iff_eq.1 hz]; decide
    have hg : (hiB (subV a b) != subO a b) = false := by rw [less_eq a b ha hb]; subst hab; simp
    exact orders_8 a b a (subV a b == 0) (hiB (subV a b)) (subC a b) (subO a b) w (Lib.hid rfl) (Lib.hid hz) (Lib.hid (by show (!(subV a b == 0)) = _; rw [hz]; rfl)) (Lib.hid hl) (Lib.hid (by show (!(subC a b)) = _; rw [hl]; rfl)) (Lib.hid hg) (Lib.hid (by show (hiB (subV a b) == subO a b) = _; cases h1 : hiB (subV a b) <;> cases h2 : subO a b <;> rw [h1, h2] at hg <;> first | rfl | (exact absurd hg (by decide)))) (Lib.hid hn) (Lib.hid (by show (!(hiB (subV a b))) = _; rw [hn]; rfl)) (Lib.hid rfl) ((sub_zero a b ha hb).symm.trans hz) (by rw [bne, ← sub_zero a b ha hb, hz]; rfl) hl (by have := hl; unfold subC at this; simp at this ⊢; omega) ((less_eq a b ha hb).symm.trans hg) (by have := (less_eq a b ha hb).symm.trans hg; simp at this ⊢; omega) ((sgn_eq _ (subV_lt a b)).trans hn) ((nsgn_eq _ (subV_lt a b)).trans (by rw [hn]; rfl))
set_option maxRecDepth 100000 in
theorem AluOrders_lifted (os : Os) (started : os.Started) (H : Type) (enc : TypeId × Value → H) :
    ReturnsInHanded {} Try.checked os 14 .any (Rows.aluOrdersSpec.pre6 enc Try.prog Try.f14 Rows.aluOrdersRow.domain false) (Rows.aluOrdersSpec.post enc Try.prog Try.f14 false true false false) := by
  refine returnsInHanded_of_change (C := Try.checked) row_own started (by kernel_rfl) Try.func14
    (ChangeSpec.witness6 (enc := enc) (C := Try.checked) false ⟨#[], #[.int .u64 0, .int .u64 0], []⟩ 8 (by kernel_rfl) (by kernel_rfl) (by kernel_rfl) (by kernel_rfl)) ?_
  intro W base args ds gs before hval0 hW hcnd _
  have hval : ∀ (j : Nat) t v, Try.f14.params[j]? = some t → args[j]? = some v → Value.okWide Try.prog W .any base t v := hval0
  have hW' := hW
  obtain ⟨p, q, hA0, hV, rfl, hfz, hnd⟩ := hW
  have hA : DataW.TrodAll enc Try.prog W 0 (fun _ => true) true Try.f14.params.toList args.toList ds p := hA0
  rw [Try.params14] at hA hval
  obtain ⟨v0, vs0, d0, ds0, p0, q0, hargs, rfl, rfl, h0, r0⟩ := trodAll_cons hA
  obtain ⟨v1, vs1, d1, ds1, p1, q1, rfl, rfl, rfl, h1, r1⟩ := trodAll_cons r0
  obtain ⟨rfl, rfl, rfl⟩ := trodAll_nil r1
  obtain rfl : args = #[v0, v1] := by cases args; simp_all
  obtain ⟨rfl, rfl⟩ := trodVars_none hV
  have k0 := h0
  have lt0 : ∀ x ∈ p0, x.block < W.heap.size := by obtain ⟨m, hm⟩ := k0; exact DataW.trod_lt m _ _ _ hm
  obtain ⟨a0, rfl, rfl, rfl, w0⟩ := open_int Try.underlying27 (hval 0 27 v0 rfl rfl) h0
  have k1 := h1
  have lt1 : ∀ x ∈ p1, x.block < W.heap.size := by obtain ⟨m, hm⟩ := k1; exact DataW.trod_lt m _ _ _ hm
  obtain ⟨a1, rfl, rfl, rfl, w1⟩ := open_int Try.underlying27 (hval 1 27 v1 rfl rfl) h1
  clear hA0 hval0
  refine (AluOrders_walk a0 (wf_u64 w0) a1 (wf_u64 w1) W).mono fun e W' ⟨he, bel⟩ => ?_
  subst he
  exact ⟨_, rfl, _, _, _, [], _, [], hW', trodAll_mk1 (shut_bool Try.underlying4 _), (trodAll_cons_mk (Below.trod row_laidOut (by kernel_rfl) (of_decide_eq_true (by kernel_rfl)) k0 bel lt0) (trodAll_cons_mk (Below.trod row_laidOut (by kernel_rfl) (of_decide_eq_true (by kernel_rfl)) k1 bel lt1) trodAll_mk0)), rfl, bel.frame _, fun h => by cases h⟩
theorem AluOrders_over : Rows.aluOrdersRow.holds Try.pinned (OpenSpec.ofChange Rows.aluOrdersSpec) :=
  OpenClaim.holds_of_wide 14 Try.f14 rfl rfl rfl rfl rfl rfl rfl ⟨rfl, rfl, rfl, rfl, rfl⟩ rfl rfl rfl rfl rfl (by kernel_rfl) Try.func14 (by kernel_rfl)
    (of_decide_eq_true (by kernel_rfl)) (by unfold Func.isWrapper; first | (rw [if_pos (by decide +kernel)]; kernel_rfl) | (rw [if_neg (by decide +kernel)]; exact ⟨rfl, rfl⟩))
    (fun os started H enc _ => AluOrders_lifted os started H enc)
theorem AluOrders_holds : Rows.AluOrdersSaid := AluOrders_over

#print axioms AluOrders_holds
end Go.Proofs.Ytcmpcejbephaeaa
