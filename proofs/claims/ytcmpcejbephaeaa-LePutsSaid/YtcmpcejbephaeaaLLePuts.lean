/- The law LePuts holds: for any row, any place and any number (every input) it returns true and its arguments read as before; no condition. -/
import Derived.Test.YtcmpcejbephaeaaRef1
import Derived.Test.YtcmpcejbephaeaaRowKit
namespace Go.Proofs.Ytcmpcejbephaeaa
open Go.ChangeShapes Go.WideShapes Go.ChangeAt Go.RowKit
open Go.ChangeMaps (open_string shut_string)
set_option linter.unusedVariables false
set_option linter.unusedSimpArgs false
open Go.Proofs.YtcmpcejbephaeaaW.PrintWords
theorem Put_any (base l cap : Nat) (A : Option Addr) (xs : List Int) (hl : xs.length = l) (p n v : Int) (w : World) (HO : w.ownsRow base 5 1 (.slice A l cap) l (nums .u8 xs)) (hl9 : l ≤ 9223372036854775807) (hv0 : 0 ≤ v) (hv1 : v < 18446744073709551616) :
    Calls Try.prog 23 #[.slice A l cap, .int .i64 p, .int .i64 n, .int .u64 v] w fun e w' => e = .returned (.bool (putB l p n)) ∧ w'.ownsRow base 5 1 (.slice A l cap) l (nums .u8 (putV xs p n v)) ∧ w.grownBy w' (Value.slice A l cap).ownBlock := by
  rcases Nat.eq_zero_or_pos l with h0 | h0
  · have e : putB l p n = false := decide_eq_false (by omega)
    refine (Put_out A cap l p n v w hl9 e).mono ?_
    rintro e' w' ⟨rfl, rfl⟩
    refine ⟨by rw [e], ?_, grown_of_below (Below.refl _ _) _⟩
    unfold putV
    rw [hl, e, if_neg (by decide)]
    exact HO
  · obtain ⟨g, cap', he, _, _⟩ := HO.form h0
    simp only [Value.slice.injEq] at he
    obtain ⟨rfl, _, rfl⟩ := he
    exact Put_at base g cap l xs hl p n v w HO hv0 hv1
set_option maxHeartbeats 4000000 in
set_option maxRecDepth 100000 in
theorem LePuts_walk (A : Option Addr) (n c : Nat) (xs : List Int) (p m v : Int) (w : World) (hr : ReadsInt w .u8 A n xs) (hc : n ≤ c) (hm : c ≤ maxLen) (hb : Bytes xs) (hv0 : 0 ≤ v) (hv1 : v < 18446744073709551616) :
    Calls Try.prog 6 #[.slice A n c, .int .i64 p, .int .i64 m, .int .u64 v] w fun e w' => e = .returned (.bool true) ∧ Below w.heap.size w w' := by
  by_cases h1 : 300 < n
  · have d1 : decide ((300 : Int) < n) = true := decide_eq_true (by omega)
    go_enter Try.func6, Try.ntmps6
    go_wp2_with fail
    refine (le_awake _).mono ?_
    rintro e w1 ⟨rfl, hbl⟩
    go_wp2
    go_ret
    exact ⟨rfl, hbl⟩
  have d1 : decide ((300 : Int) < n) = false := decide_eq_false (by omega)
  have hn : (n : Int) ≤ 300 := by omega
  have HX := Lib.hid hr.1
  have HR := Aside0.mk hr
  have HY := Aside0.mk hb
  obtain ⟨s, hs0⟩ : ∃ s, s = strOfNums xs := ⟨_, rfl⟩
  have HS : Hid (bytesOf s = xs) := Lib.hid (by rw [hs0]; exact bytesOf_strOf xs hb)
  have hsz := Lib.hid (show (s.size : Int) ≤ 9223372036854775000 by rw [hs0, strOf_size, hr.1]; omega)
  have HS0 := Lib.hid hs0
  clear hr hb h1 hs0
  go_enter Try.func6, Try.ntmps6
  go_wp2
  go_loopw [1, 2, 9] (fun x y i wr => ∃ (k : Nat) (p q : Int), k ≤ 2 ∧ i = .int .i64 k ∧ x = .int .i64 p ∧ y = .int .i64 q ∧ Below w.heap.size w wr) (fun _ _ i _ => 2 - (intOf i).toNat)
  case atStart => exact ⟨0, p, m, by omega, rfl, rfl, rfl, Below.refl _ _⟩
  case round =>
  obtain ⟨k, p, q, hk, rfl, rfl, rfl, hbw⟩ := hrel
  have HB := Aside0.mk hbw
  have HRr := Aside0.mk (HR.out.below hbw)
  clear hbw
  by_cases hlt : k < 2
  · have hn1 : ((n : Int) + 1 == 0) = false := by rw [beq_eq_false_iff_ne]; omega
    have hcv : ∀ (w' : World) (hb : Below wr.heap.size wr w') cc, (convert 22 9 (.slice A n cc)).run Try.prog w' = .ok (.string s) w' := fun w' hb cc => by rw [HS0.out]; exact str_of_read (HRr.out.below hb)
    have HC := Lib.hid hcv
    clear hcv
    have HO0 := Aside0.mk (own_lit wr wr.heap.size 5 .u8 [] (Nat.le_refl _) (by decide))
    have HB0 : Aside0 (Below wr.heap.size wr (wr.alloc (.cells #[] 5))) := ⟨(Below.refl _ _).alloc (Nat.le_refl _) _⟩
    have HR0 := Aside0.mk (HRr.out.below HB0.out)
    go_wp2_with (at_builtin; refine print_append_row (w0 := wr) wr.heap.size rfl (.tmp 21) (.tmp 22) 22 5 .u8 1 rfl Try.underlying22 info_u8 (by decide) _ [] xs A n c rfl rfl HO0.out HR0.out HB0.out HB0.out.size (by simp; omega) ?_; intro v1 w1 ho hb hg hat; rw [List.nil_append, HX.out] at ho; have hsc := HC.out w1 hb; obtain ⟨A1, c1, rfl⟩ := own_slice ho; have HO1 := Aside0.mk ho; have HB1 := Aside0.mk hb; clear ho hb hg hat)
    refine (rPut_calls s xs HS.out p q v _ hsz.out hv0 hv1).mono ?_
    rw [HX.out]
    rintro e w2 ⟨rfl, hb2⟩
    have HO2 := Aside0.mk (pw_own_below HO1.out hb2)
    have HB2 := Aside0.mk (HB1.out.trans (hb2.mono HB1.out.size))
    clear hb2 hsc
    go_wp2
    go_region_with (first
      | (go_at_call 23; refine (Put_any wr.heap.size n c1 A1 xs HX.out p q v w2.drew HO2.out (by omega) hv0 hv1).mono ?_; rintro e w3 ⟨rfl, ho3, hg3⟩; have k5 := own_str ho3; have HB3 := Aside0.mk (HB2.out.drew.grown hg3 HB2.out.size (own_base HO2.out)); clear ho3 hg3)
      | (go_at_call 24; refine (Bytes_calls v q _ hv0 hv1).mono ?_; rintro e w4 ⟨v4, rfl, ho4, hb4⟩; have k6 := own_str ho4; have HO4 := Aside0.mk ho4; have HB4 := Aside0.mk (HB3.out.trans (hb4.mono HB3.out.size)); clear ho4 hb4)
      | (go_at_call 25; refine (rBytes_calls v q _ hv0 hv1).mono ?_; rintro e w5 ⟨rfl, hb5⟩; have k7 := own_str (pw_own_below HO4.out hb5); have HB5 := Aside0.mk (HB4.out.trans (hb5.mono HB4.out.size)); clear hb5))
    all_goals
      go_wp2
      go_roundw
      case rel => exact ⟨k + 1, _, _, by omega, by go_num, rfl, rfl, HB.out.trans (HB5.out.mono HB.out.size)⟩
      case measure => simp [intOf]; omega
  go_wp2_with fail
  refine (le_awake _).mono ?_
  rintro e w1 ⟨rfl, hbl⟩
  go_wp2
  go_ret
  exact ⟨rfl, HB.out.trans (hbl.mono HB.out.size)⟩
set_option maxRecDepth 100000 in
theorem LePuts_lifted (os : Os) (started : os.Started) (H : Type) (enc : TypeId × Value → H) :
    ReturnsInHanded {} Try.checked os 6 .any (Rows.lePutsSpec.pre6 enc Try.prog Try.f6 Rows.lePutsRow.domain false) (Rows.lePutsSpec.post enc Try.prog Try.f6 false true false false) := by
  refine returnsInHanded_of_change (C := Try.checked) row_own started (by kernel_rfl) Try.func6
    (ChangeSpec.witness6 (enc := enc) (C := Try.checked) false ⟨#[], #[.slice none 0 0, .int .i64 0, .int .i64 0, .int .u64 0], []⟩ 8 (by kernel_rfl) (by kernel_rfl) (by kernel_rfl) (by kernel_rfl)) ?_
  intro W base args ds gs before hval0 hW hcnd _
  have hval : ∀ (j : Nat) t v, Try.f6.params[j]? = some t → args[j]? = some v → Value.okWide Try.prog W .any base t v := hval0
  have hW' := hW
  obtain ⟨p, q, hA0, hV, rfl, hfz, hnd⟩ := hW
  have hA : DataW.TrodAll enc Try.prog W 0 (fun _ => true) true Try.f6.params.toList args.toList ds p := hA0
  rw [Try.params6] at hA hval
  obtain ⟨v0, vs0, d0, ds0, p0, q0, hargs, rfl, rfl, h0, r0⟩ := trodAll_cons hA
  obtain ⟨v1, vs1, d1, ds1, p1, q1, rfl, rfl, rfl, h1, r1⟩ := trodAll_cons r0
  obtain ⟨v2, vs2, d2, ds2, p2, q2, rfl, rfl, rfl, h2, r2⟩ := trodAll_cons r1
  obtain ⟨v3, vs3, d3, ds3, p3, q3, rfl, rfl, rfl, h3, r3⟩ := trodAll_cons r2
  obtain ⟨rfl, rfl, rfl⟩ := trodAll_nil r3
  obtain rfl : args = #[v0, v1, v2, v3] := by cases args; simp_all
  obtain ⟨rfl, rfl⟩ := trodVars_none hV
  have k0 := h0
  have lt0 : ∀ x ∈ p0, x.block < W.heap.size := by obtain ⟨m, hm⟩ := k0; exact DataW.trod_lt m _ _ _ hm
  obtain ⟨a0, len0, cap0, rfl⟩ := okWide_slice Try.underlying22 (hval 0 22 v0 rfl rfl)
  obtain ⟨x0, w0⟩ := open_bytes h0
  have k1 := h1
  have lt1 : ∀ x ∈ p1, x.block < W.heap.size := by obtain ⟨m, hm⟩ := k1; exact DataW.trod_lt m _ _ _ hm
  obtain ⟨a1, rfl, rfl, rfl, w1⟩ := open_int Try.underlying3 (hval 1 3 v1 rfl rfl) h1
  have k2 := h2
  have lt2 : ∀ x ∈ p2, x.block < W.heap.size := by obtain ⟨m, hm⟩ := k2; exact DataW.trod_lt m _ _ _ hm
  obtain ⟨a2, rfl, rfl, rfl, w2⟩ := open_int Try.underlying3 (hval 2 3 v2 rfl rfl) h2
  have k3 := h3
  have lt3 : ∀ x ∈ p3, x.block < W.heap.size := by obtain ⟨m, hm⟩ := k3; exact DataW.trod_lt m _ _ _ hm
  obtain ⟨a3, rfl, rfl, rfl, w3⟩ := open_int Try.underlying27 (hval 3 27 v3 rfl rfl) h3
  clear hA0 hval0
  refine (LePuts_walk a0 len0 cap0 x0 a1 a2 a3 W w0.1 w0.2.1 w0.2.2.1 w0.2.2.2 (wf_u64' w3).1 (wf_u64' w3).2).mono fun e W' ⟨he, bel⟩ => ?_
  subst he
  exact ⟨_, rfl, _, _, _, [], _, [], hW', trodAll_mk1 (shut_bool Try.underlying4 _), (trodAll_cons_mk (Below.trod row_laidOut (by kernel_rfl) (of_decide_eq_true (by kernel_rfl)) k0 bel lt0) (trodAll_cons_mk (Below.trod row_laidOut (by kernel_rfl) (of_decide_eq_true (by kernel_rfl)) k1 bel lt1) (trodAll_cons_mk (Below.trod row_laidOut (by kernel_rfl) (of_decide_eq_true (by kernel_rfl)) k2 bel lt2) (trodAll_cons_mk (Below.trod row_laidOut (by kernel_rfl) (of_decide_eq_true (by kernel_rfl)) k3 bel lt3) trodAll_mk0)))), rfl, bel.frame _, fun h => by cases h⟩
theorem LePuts_over : Rows.lePutsRow.holds Try.pinned (OpenSpec.ofChange Rows.lePutsSpec) :=
  OpenClaim.holds_of_wide 6 Try.f6 rfl rfl rfl rfl rfl rfl rfl ⟨rfl, rfl, rfl, rfl, rfl⟩ rfl rfl rfl rfl rfl (by kernel_rfl) Try.func6 (by kernel_rfl)
    (of_decide_eq_true (by kernel_rfl)) (by unfold Func.isWrapper; first | (rw [if_pos (by decide +kernel)]; kernel_rfl) | (rw [if_neg (by decide +kernel)]; exact ⟨rfl, rfl⟩))
    (fun os started H enc _ => LePuts_lifted os started H enc)
theorem LePuts_holds : Rows.LePutsSaid := LePuts_over

#print axioms LePuts_holds
end Go.Proofs.Ytcmpcejbephaeaa
