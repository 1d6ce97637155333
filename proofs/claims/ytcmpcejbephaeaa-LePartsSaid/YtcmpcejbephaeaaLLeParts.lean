/- The law LeParts holds: for any row and any place (every input) it returns true and its arguments read as before; no condition. -/
import Derived.Test.YtcmpcejbephaeaaLeAll
import Derived.Test.YtcmpcejbephaeaaRowKit
namespace Go.Proofs.Ytcmpcejbephaeaa
open Go.ChangeShapes Go.WideShapes Go.ChangeAt Go.RowKit
open Go.ChangeMaps (open_string shut_string)
set_option linter.unusedVariables false
set_option linter.unusedSimpArgs false
open Go.Proofs.YtcmpcejbephaeaaW.PrintWords
set_option maxHeartbeats 1600000 in
theorem LeParts_walk (A : Option Addr) (n c : Nat) (xs : List Int) (p : Int) (w : World) (hr : ReadsInt w .u8 A n xs) (hc : n ≤ c) (hm : c ≤ maxLen) (hb : Bytes xs) (hp : -9223372036854775808 ≤ p ∧ p ≤ 9223372036854775807) :
    Calls Try.prog 4 #[.slice A n c, .int .i64 p] w fun e w' => e = .returned (.bool true) ∧ Below w.heap.size w w' := by
  by_cases h8 : n < 8
  · go_enter Try.func4, Try.ntmps4
    go_wp2_with fail
    refine (le_awake _).mono ?_
    rintro e w1 ⟨rfl, hbl⟩
    go_wp2
    go_ret
    exact ⟨rfl, hbl⟩
  by_cases h300 : 300 < n
  · have d1 : decide (n < 8) = false := decide_eq_false h8
    go_enter Try.func4, Try.ntmps4
    go_wp2_with fail
    refine (le_awake _).mono ?_
    rintro e w1 ⟨rfl, hbl⟩
    go_wp2
    go_ret
    exact ⟨rfl, hbl⟩
  obtain ⟨q, hq1, hq2⟩ := place_of p (n - 7) (by omega)
  have hq : (bits .and .i64 p 65535).tmod ((n : Int) - 7) = q := by rw [← hq2]; congr 1; omega
  have d1 : decide ((n : Int) < 8) = false := decide_eq_false (by omega)
  have d2 : decide ((300 : Int) < n) = false := decide_eq_false (by omega)
  have b1 : (q : Int) ≤ 292 := by omega
  have b2 : (n : Int) ≤ 300 := by omega
  have b3 : 8 ≤ (n : Int) := by omega
  have i8 : inB n q 8 = true := decide_eq_true (by omega)
  have i4 : inB n q 4 = true := decide_eq_true (by omega)
  have i44 : inB n ((q : Int) + 4) 4 = true := decide_eq_true (by omega)
  have i62 : inB n ((q : Int) + 6) 2 = true := decide_eq_true (by omega)
  have v4 := numV_lt xs q 4 hb (by decide) 4 rfl
  have v44 := numV_lt xs ((q : Int) + 4) 4 hb (by decide) 4 rfl
  have u1 : 0 ≤ numV xs q 4 := v4.1
  have u2 : numV xs q 4 < 4294967296 := by have := v4.2; simpa using this
  have u3 : 0 ≤ numV xs ((q : Int) + 4) 4 := v44.1
  have u4 : numV xs ((q : Int) + 4) 4 < 4294967296 := by have := v44.2; simpa using this
  have hl : (xs.length : Int) = n := by rw [hr.1]
  have f1 : (numV xs q 8 == bits .or .u64 (numV xs q 4) (numV xs ((q : Int) + 4) 4 * 4294967296)) = true := by
    rw [beq_iff_eq, or_high _ _ u1 u2 u3 u4]
    have := numV_split xs q 4 4 (by omega) (by omega)
    simp at this
    omega
  have f2 : (numV xs ((q : Int) + 6) 2 == numV xs ((q : Int) + 4) 4 / 65536) = true := by
    rw [beq_iff_eq]
    have := numV_split xs ((q : Int) + 4) 2 2 (by omega) (by omega)
    have h2 := numV_lt xs ((q : Int) + 4) 2 hb (by decide) 2 rfl
    simp [Int.add_assoc] at this h2
    omega
  have HR := Aside0.mk hr
  have HY := Aside0.mk hb
  clear hq1 hq2 h8 h300 v4 v44 hr hb hl
  go_enter Try.func4, Try.ntmps4
  go_wp2_with fail
  refine (U64_at A n c xs _ _ HR.out hc HY.out).mono ?_
  rintro e w1 ⟨rfl, rfl⟩
  go_wp2_with fail
  refine (U32_at A n c xs _ _ HR.out hc HY.out).mono ?_
  rintro e w1 ⟨rfl, rfl⟩
  go_wp2_with fail
  refine (U32_at A n c xs _ _ HR.out hc HY.out).mono ?_
  rintro e w1 ⟨rfl, rfl⟩
  go_wp2_with fail
  refine (U16_at A n c xs _ _ HR.out hc HY.out).mono ?_
  rintro e w1 ⟨rfl, rfl⟩
  go_wp2_with fail
  refine (le_awake _).mono ?_
  rintro e w1 ⟨rfl, hbl⟩
  go_wp2
  go_ret
  exact ⟨rfl, hbl⟩
set_option maxRecDepth 100000 in
theorem LeParts_lifted (os : Os) (started : os.Started) (H : Type) (enc : TypeId × Value → H) :
    ReturnsInHanded {} Try.checked os 4 .any (Rows.lePartsSpec.pre6 enc Try.prog Try.f4 Rows.lePartsRow.domain false) (Rows.lePartsSpec.post enc Try.prog Try.f4 false true false false) := by
  refine returnsInHanded_of_change (C := Try.checked) row_own started (by kernel_rfl) Try.func4
    (ChangeSpec.witness6 (enc := enc) (C := Try.checked) false ⟨#[], #[.slice none 0 0, .int .i64 0], []⟩ 8 (by kernel_rfl) (by kernel_rfl) (by kernel_rfl) (by kernel_rfl)) ?_
  intro W base args ds gs before hval0 hW hcnd _
  have hval : ∀ (j : Nat) t v, Try.f4.params[j]? = some t → args[j]? = some v → Value.okWide Try.prog W .any base t v := hval0
  have hW' := hW
  obtain ⟨p, q, hA0, hV, rfl, hfz, hnd⟩ := hW
  have hA : DataW.TrodAll enc Try.prog W 0 (fun _ => true) true Try.f4.params.toList args.toList ds p := hA0
  rw [Try.params4] at hA hval
  obtain ⟨v0, vs0, d0, ds0, p0, q0, hargs, rfl, rfl, h0, r0⟩ := trodAll_cons hA
  obtain ⟨v1, vs1, d1, ds1, p1, q1, rfl, rfl, rfl, h1, r1⟩ := trodAll_cons r0
  obtain ⟨rfl, rfl, rfl⟩ := trodAll_nil r1
  obtain rfl : args = #[v0, v1] := by cases args; simp_all
  obtain ⟨rfl, rfl⟩ := trodVars_none hV
  have k0 := h0
  have lt0 : ∀ x ∈ p0, x.block < W.heap.size := by obtain ⟨m, hm⟩ := k0; exact DataW.trod_lt m _ _ _ hm
  obtain ⟨a0, len0, cap0, rfl⟩ := okWide_slice Try.underlying22 (hval 0 22 v0 rfl rfl)
  obtain ⟨x0, w0⟩ := open_bytes h0
  have k1 := h1
  have lt1 : ∀ x ∈ p1, x.block < W.heap.size := by obtain ⟨m, hm⟩ := k1; exact DataW.trod_lt m _ _ _ hm
  obtain ⟨a1, rfl, rfl, rfl, w1⟩ := open_int Try.underlying3 (hval 1 3 v1 rfl rfl) h1
  clear hA0 hval0
  refine (LeParts_walk a0 len0 cap0 x0 a1 W w0.1 w0.2.1 w0.2.2.1 w0.2.2.2 (wf_i64' w1)).mono fun e W' ⟨he, bel⟩ => ?_
  subst he
  exact ⟨_, rfl, _, _, _, [], _, [], hW', trodAll_mk1 (shut_bool Try.underlying4 _), (trodAll_cons_mk (Below.trod row_laidOut (by kernel_rfl) (of_decide_eq_true (by kernel_rfl)) k0 bel lt0) (trodAll_cons_mk (Below.trod row_laidOut (by kernel_rfl) (of_decide_eq_true (by kernel_rfl)) k1 bel lt1) trodAll_mk0)), rfl, bel.frame _, fun h => by cases h⟩
theorem LeParts_over : Rows.lePartsRow.holds Try.pinned (OpenSpec.ofChange Rows.lePartsSpec) :=
  OpenClaim.holds_of_wide 4 Try.f4 rfl rfl rfl rfl rfl rfl rfl ⟨rfl, rfl, rfl, rfl, rfl⟩ rfl rfl rfl rfl rfl (by kernel_rfl) Try.func4 (by kernel_rfl)
    (of_decide_eq_true (by kernel_rfl)) (by unfold Func.isWrapper; first | (rw [if_pos (by decide +kernel)]; kernel_rfl) | (rw [if_neg (by decide +kernel)]; exact ⟨rfl, rfl⟩))
    (fun os started H enc _ => LeParts_lifted os started H enc)
theorem LeParts_holds : Rows.LePartsSaid := LeParts_over

#print axioms LeParts_holds
end Go.Proofs.Ytcmpcejbephaeaa
