/- The law LeReads holds: for any bytes, any place and any bound (every input) it returns true and its arguments read as before; no condition. -/
import Derived.Test.YtcmpcejbephaeaaRef1
import Derived.Test.YtcmpcejbephaeaaRowKit
namespace Go.Proofs.Ytcmpcejbephaeaa
open Go.ChangeShapes Go.WideShapes Go.ChangeAt Go.RowKit
open Go.ChangeMaps (open_string shut_string)
set_option linter.unusedVariables false
set_option linter.unusedSimpArgs false
open Go.Proofs.YtcmpcejbephaeaaW.PrintWords
set_option maxHeartbeats 4000000 in
set_option maxRecDepth 100000 in
theorem LeReads_walk (A : Option Addr) (n c : Nat) (xs : List Int) (p most : Int) (w : World) (hr : ReadsInt w .u8 A n xs) (hc : n ≤ c) (hm : c ≤ maxLen) (hb : Bytes xs) :
    Calls Try.prog 5 #[.slice A n c, .int .i64 p, .int .i64 most] w fun e w' => e = .returned (.bool true) ∧ Below w.heap.size w w' := by
  by_cases h1 : 300 < n
  · have d1 : decide ((300 : Int) < n) = true := decide_eq_true (by omega)
    go_enter Try.func5, Try.ntmps5
    go_wp2_with fail
    refine (le_awake _).mono ?_
    rintro e w1 ⟨rfl, hbl⟩
    go_wp2
    go_ret
    exact ⟨rfl, hbl⟩
  have d1 : decide ((300 : Int) < n) = false := decide_eq_false (by omega)
  have hn : (n : Int) ≤ 300 := by omega
  have HX := Lib.hid hr.1
  have HR := Aside0.mk hr
  have HY := Aside0.mk hb
  have HS := Lib.hid (bytesOf_strOf xs hb)
  have hcv := fun cc => str_of_read (c := cc) hr
  have hsz := Lib.hid (show ((strOfNums xs).size : Int) ≤ 9223372036854775000 by rw [strOf_size, hr.1]; omega)
  clear hr hb h1
  generalize strOfNums xs = s at *
  go_enter Try.func5, Try.ntmps5
  go_wp2
  go_loop [1, 2, 8] (fun x y i => ∃ (k : Nat) (p q : Int), k ≤ 2 ∧ i = .int .i64 k ∧ x = .int .i64 p ∧ y = .int .i64 q) (fun _ _ i => 2 - (intOf i).toNat)
  case atStart => exact ⟨0, p, most, by omega, rfl, rfl, rfl⟩
  case round =>
  obtain ⟨k, p, q, hk, rfl, rfl, rfl⟩ := hrel
  by_cases hlt : k < 2
  · have l2 := numV_lt xs p 2 HY.out (by decide) 2 rfl
    have l4 := numV_lt xs p 4 HY.out (by decide) 4 rfl
    have b1 : 0 ≤ numV xs p 2 := l2.1
    have b2 : numV xs p 2 < 65536 := by have := l2.2; simpa using this
    have b3 : 0 ≤ numV xs p 4 := l4.1
    have b4 : numV xs p 4 < 4294967296 := by have := l4.2; simpa using this
    have hn1 : ((n : Int) + 1 == 0) = false := by rw [beq_eq_false_iff_ne]; omega
    clear l2 l4
    go_wp2_with fail
    refine (U16_at A n c xs p _ HR.out hc HY.out).mono ?_
    rintro e w1 ⟨rfl, rfl⟩
    go_wp2_with fail
    refine (U32_at A n c xs p _ HR.out hc HY.out).mono ?_
    rintro e w1 ⟨rfl, rfl⟩
    go_wp2_with fail
    refine (U64_at A n c xs p _ HR.out hc HY.out).mono ?_
    rintro e w1 ⟨rfl, rfl⟩
    go_wp2_with fail
    refine (Num_calls s xs HS.out p 2 _ (by have := hsz.out; omega) (by decide) (by decide)).mono ?_
    rw [HX.out]
    rintro e w1 ⟨rfl, rfl⟩
    go_wp2_with fail
    refine (Num_calls s xs HS.out p 4 _ (by have := hsz.out; omega) (by decide) (by decide)).mono ?_
    rw [HX.out]
    rintro e w1 ⟨rfl, rfl⟩
    go_wp2_with fail
    refine (Num_calls s xs HS.out p 8 _ (by have := hsz.out; omega) (by decide) (by decide)).mono ?_
    rw [HX.out]
    rintro e w1 ⟨rfl, rfl⟩
    go_wp2_with fail
    refine (Text_at A n c xs p q _ HR.out hc HY.out).mono ?_
    rintro e w1 ⟨rfl, rfl⟩
    go_wp2_with fail
    refine (rText_calls s xs HS.out p q _ (by have := hsz.out; omega)).mono ?_
    rintro e w1 ⟨rfl, rfl⟩
    go_wp2
    go_round
    case rel => exact ⟨k + 1, _, _, by omega, by go_num, rfl, rfl⟩
    case measure => simp [intOf]; omega
  go_wp2_with fail
  refine (le_awake _).mono ?_
  rintro e w1 ⟨rfl, hbl⟩
  go_wp2
  go_ret
  exact ⟨rfl, hbl⟩
set_option maxRecDepth 100000 in
theorem LeReads_lifted (os : Os) (started : os.Started) (H : Type) (enc : TypeId × Value → H) :
    ReturnsInHanded {} Try.checked os 5 .any (Rows.leReadsSpec.pre6 enc Try.prog Try.f5 Rows.leReadsRow.domain false) (Rows.leReadsSpec.post enc Try.prog Try.f5 false true false false) := by
  refine returnsInHanded_of_change (C := Try.checked) row_own started (by kernel_rfl) Try.func5
    (ChangeSpec.witness6 (enc := enc) (C := Try.checked) false ⟨#[], #[.slice none 0 0, .int .i64 0, .int .i64 0], []⟩ 8 (by kernel_rfl) (by kernel_rfl) (by kernel_rfl) (by kernel_rfl)) ?_
  intro W base args ds gs before hval0 hW hcnd _
  have hval : ∀ (j : Nat) t v, Try.f5.params[j]? = some t → args[j]? = some v → Value.okWide Try.prog W .any base t v := hval0
  have hW' := hW
  obtain ⟨p, q, hA0, hV, rfl, hfz, hnd⟩ := hW
  have hA : DataW.TrodAll enc Try.prog W 0 (fun _ => true) true Try.f5.params.toList args.toList ds p := hA0
  rw [Try.params5] at hA hval
  obtain ⟨v0, vs0, d0, ds0, p0, q0, hargs, rfl, rfl, h0, r0⟩ := trodAll_cons hA
  obtain ⟨v1, vs1, d1, ds1, p1, q1, rfl, rfl, rfl, h1, r1⟩ := trodAll_cons r0
  obtain ⟨v2, vs2, d2, ds2, p2, q2, rfl, rfl, rfl, h2, r2⟩ := trodAll_cons r1
  obtain ⟨rfl, rfl, rfl⟩ := trodAll_nil r2
  obtain rfl : args = #[v0, v1, v2] := by cases args; simp_all
  obtain ⟨rfl, rfl⟩ := trodVars_none hV
  have k0 := h0
  have lt0 : ∀ x ∈ p0, x.block < W.heap.size := by obtain ⟨m, hm⟩ := k0; exact DataW.trod_lt m _ _ _ hm
  obtain ⟨a0, len0, cap0, rfl⟩ := okWide_slice Try.underlying22 (hval 0 22 v0 rfl rfl)
  obtain ⟨x0, w0⟩ := open_bytes h0
  have k1 := h1
  have lt1 : ∀ x ∈ p1, x.block < W.heap.size := by obtain ⟨m, hm⟩ := k1; exact DataW.trod_lt m _ _ _ hm
  obtain ⟨a1, rfl, rfl, rfl, w1⟩ := open_int Try.underlying3 (hval 1 3 v1 rfl rfl) h1
  have k2 := h2
  have lt2 : ∀ x ∈ p2, x.block < W.heap.size := by obtain ⟨m, hm⟩ := k2; exact DataW.trod_lt m _ _ _ hm
  obtain ⟨a2, rfl, rfl, rfl, w2⟩ := open_int Try.underlying3 (hval 2 3 v2 rfl rfl) h2
  clear hA0 hval0
  refine (LeReads_walk a0 len0 cap0 x0 a1 a2 W w0.1 w0.2.1 w0.2.2.1 w0.2.2.2).mono fun e W' ⟨he, bel⟩ => ?_
  subst he
  exact ⟨_, rfl, _, _, _, [], _, [], hW', trodAll_mk1 (shut_bool Try.underlying4 _), (trodAll_cons_mk (Below.trod row_laidOut (by kernel_rfl) (of_decide_eq_true (by kernel_rfl)) k0 bel lt0) (trodAll_cons_mk (Below.trod row_laidOut (by kernel_rfl) (of_decide_eq_true (by kernel_rfl)) k1 bel lt1) (trodAll_cons_mk (Below.trod row_laidOut (by kernel_rfl) (of_decide_eq_true (by kernel_rfl)) k2 bel lt2) trodAll_mk0))), rfl, bel.frame _, fun h => by cases h⟩
theorem LeReads_over : Rows.leReadsRow.holds Try.pinned (OpenSpec.ofChange Rows.leReadsSpec) :=
  OpenClaim.holds_of_wide 5 Try.f5 rfl rfl rfl rfl rfl rfl rfl ⟨rfl, rfl, rfl, rfl, rfl⟩ rfl rfl rfl rfl rfl (by kernel_rfl) Try.func5 (by kernel_rfl)
    (of_decide_eq_true (by kernel_rfl)) (by unfold Func.isWrapper; first | (rw [if_pos (by decide +kernel)]; kernel_rfl) | (rw [if_neg (by decide +kernel)]; exact ⟨rfl, rfl⟩))
    (fun os started H enc _ => LeReads_lifted os started H enc)
theorem LeReads_holds : Rows.LeReadsSaid := LeReads_over

#print axioms LeReads_holds
end Go.Proofs.Ytcmpcejbephaeaa
