/- The law LeBack holds: for any row, any place and any number (every input) it returns true and its arguments read as before; no condition. -/
import Derived.Test.YtcmpcejbephaeaaLeAll
import Derived.Test.YtcmpcejbephaeaaRowKit
import Derived.Deep.RegionHeld3
namespace Go.Proofs.Ytcmpcejbephaeaa
open Go.ChangeShapes Go.WideShapes Go.ChangeAt Go.RowKit
open Go.ChangeMaps (open_string shut_string)
set_option linter.unusedVariables false
set_option linter.unusedSimpArgs false
open Go.Proofs.YtcmpcejbephaeaaW.PrintWords
theorem own_reads' {w : World} {base n c : Nat} {e : TypeId} {k : IntKind} {A : Option Addr} {xs : List Int} (h : w.ownsRow base e 1 (.slice A n c) n (nums k xs)) : ReadsInt w k A n xs ∧ n ≤ c := by
  obtain ⟨A', c', he, hr⟩ := own_reads h
  simp only [Value.slice.injEq] at he
  obtain ⟨rfl, _, rfl⟩ := he
  exact ⟨hr, own_le h⟩
/-- what stays true of the world in the last statement -/
abbrev KB (w : World) (g n cap c c3 c4 c5 M1 M2 M3 M4 M5 : Nat) (A A3 A4 A5 : Option Addr) (s1 s2 s3 : ByteArray) (xs ys : List Int) (w' : World) : Prop :=
  (convert 22 9 (.slice (some ⟨g, 0, none⟩) M1 cap)).run Try.prog w' = .ok (.string s1) w' ∧
  (convert 22 9 (.slice A M2 c)).run Try.prog w' = .ok (.string s1) w' ∧
  (convert 22 9 (.slice A3 M3 c3)).run Try.prog w' = .ok (.string s2) w' ∧
  (convert 22 9 (.slice A4 M4 c4)).run Try.prog w' = .ok (.string s2) w' ∧
  (convert 22 9 (.slice A5 M5 c5)).run Try.prog w' = .ok (.string s3) w' ∧
  ReadsInt w' .u8 (some ⟨g, 0, none⟩) n ys ∧ ReadsInt w' .u8 A n xs ∧ Below w.heap.size w w'
set_option maxHeartbeats 4000000 in
set_option maxRecDepth 100000 in
theorem LeBack_walk (A : Option Addr) (n c : Nat) (xs : List Int) (p v : Int) (w : World) (hr : ReadsInt w .u8 A n xs) (hc : n ≤ c) (hm : c ≤ maxLen) (hb : Bytes xs) (hv0 : 0 ≤ v) (hv1 : v < 18446744073709551616) :
    Calls Try.prog 8 #[.slice A n c, .int .i64 p, .int .u64 v] w fun e w' => e = .returned (.bool true) ∧ Below w.heap.size w w' := by
  by_cases h1 : n < 16
  · have d1 : decide ((n : Int) < 16) = true := decide_eq_true (by omega)
    go_enter Try.func8, Try.ntmps8
    go_wp2_with fail
    refine (le_awake _).mono ?_
    rintro e w1 ⟨rfl, hbl⟩
    go_wp2
    go_ret
    exact ⟨rfl, hbl⟩
  have d1 : decide ((n : Int) < 16) = false := decide_eq_false (by omega)
  by_cases h2 : 300 < n
  · have d2 : decide ((300 : Int) < n) = true := decide_eq_true (by omega)
    go_enter Try.func8, Try.ntmps8
    go_wp2_with fail
    refine (le_awake _).mono ?_
    rintro e w1 ⟨rfl, hbl⟩
    go_wp2
    go_ret
    exact ⟨rfl, hbl⟩
  have d2 : decide ((300 : Int) < n) = false := decide_eq_false (by omega)
  obtain ⟨q, hq1, hq2⟩ := place_of p (n - 7) (by omega)
  have hq : (bits .and .i64 p 65535).tmod ((n : Int) - 7) = q := by rw [← hq2]; congr 1; omega
  have b1 : (q : Int) ≤ 292 := by omega
  have b2 : (n : Int) ≤ 300 := by omega
  have b3 : 16 ≤ (n : Int) := by omega
  have hxl : xs.length = n := hr.1
  have HR := Aside0.mk hr
  have HY := Aside0.mk hb
  have HX := Lib.hid hxl
  have HQ := Lib.hid hq1
  clear hr hb hxl hq1 hq2 h1 h2
  have HO0 := Aside0.mk (own_lit w w.heap.size 5 .u8 [] (Nat.le_refl _) (by decide))
  have HB0 : Aside0 (Below w.heap.size w (w.alloc (.cells #[] 5))) := ⟨(Below.refl _ _).alloc (Nat.le_refl _) _⟩
  have HR0 := Aside0.mk (HR.out.below ((Below.refl _ _).alloc (Nat.le_refl _) (.cells #[] 5)))
  go_enter Try.func8, Try.ntmps8
  go_wp2_with (at_builtin; refine print_append_row (w0 := w) w.heap.size rfl (.tmp 24) (.tmp 25) 22 5 .u8 1 rfl Try.underlying22 info_u8 (by decide) _ [] xs A n c rfl rfl HO0.out HR0.out HB0.out HB0.out.size (by simp; omega) ?_; intro v1 w1 ho hb hg hat; rw [List.nil_append, HX.out] at ho; have hb1 := hb; obtain ⟨g, cap, rfl, hgb, hgl⟩ := ho.form (by omega); have HO1 := Aside0.mk ho; have HB1 := Aside0.mk hb; clear ho hb hg hat)
  refine (Put_at w.heap.size g cap n xs HX.out _ _ v _ HO1.out hv0 hv1).mono ?_
  have hq8 : q + 8 ≤ xs.length := by have := HQ.out; have := HX.out; omega
  have P1 : putB n q 8 = true := decide_eq_true (by have := HQ.out; omega)
  have P2 : putV xs q 8 v = putL xs q 8 v := by
    unfold putV
    rw [HX.out, if_pos P1]
  have PL : (putL xs q 8 v).length = n := by
    rw [putL_len xs q 8 v (by rw [HX.out]; exact P1), HX.out]
  rw [P1, P2]
  rintro e w2 ⟨rfl, ho, hg⟩
  have HB2 := Aside0.mk (HB1.out.grown hg HB1.out.size (fun k hk => by cases hk; exact hgb))
  have HR2 := Aside0.mk (own_reads' ho).1
  have hcap := (own_reads' ho).2
  have HRb := Aside0.mk (HR.out.below HB2.out)
  have HY2 : Aside0 (Bytes (putL xs q 8 v)) := ⟨by rw [← P2]; exact putV_bytes xs q 8 v HY.out⟩
  have hS1 : (putL xs q 8 v).take q = xs.take q := put_take xs q 8 v hq8
  have hS2 : (putL xs q 8 v).drop (q + 8) = xs.drop (q + 8) := put_drop xs q 8 v hq8
  have hv8 : numV (putL xs q 8 v) q 8 = v := by
    rw [numV_in _ _ _ (by rw [PL]; have := HQ.out; omega)]
    have := seg_put xs q 8 v hq8 8 (by omega)
    simp only [Int.cast_ofNat_Int] at this
    rw [this, List.take_of_length_le (by rw [leB_len]; omega), leV_leB v hv0]
    omega
  have hv4 : numV (putL xs q 8 v) q 4 = v % 4294967296 := by
    rw [numV_in _ _ _ (by rw [PL]; have := HQ.out; omega)]
    have := seg_put xs q 8 v hq8 4 (by omega)
    simp only [Int.cast_ofNat_Int] at this
    rw [this, leB_take _ _ _ (by omega), leV_leB v hv0]
    omega
  have hv2 : numV (putL xs q 8 v) q 2 = v % 65536 := by
    rw [numV_in _ _ _ (by rw [PL]; have := HQ.out; omega)]
    have := seg_put xs q 8 v hq8 2 (by omega)
    simp only [Int.cast_ofNat_Int] at this
    rw [this, leB_take _ _ _ (by omega), leV_leB v hv0]
    omega
  have hsg : seg (putL xs q 8 v) q 8 = leB v 8 := by
    have := seg_put xs q 8 v hq8 8 (by omega)
    simp only [Int.cast_ofNat_Int] at this
    rw [this, List.take_of_length_le (by rw [leB_len]; omega)]
  clear P2 ho hg
  generalize putL xs q 8 v = ys at *
  have hQn : (q : Int) + 8 ≤ n := by have := HQ.out; omega
  have i8 : inB n q 8 = true := decide_eq_true (by omega)
  have i4 : inB n q 4 = true := decide_eq_true (by omega)
  have i2 : inB n q 2 = true := decide_eq_true (by omega)
  obtain ⟨x4, hx4⟩ : ∃ x4, x4 = v % 4294967296 := ⟨_, rfl⟩
  obtain ⟨x2, hx2⟩ : ∃ x2, x2 = v % 65536 := ⟨_, rfl⟩
  have a4 : bits .and .u64 v 4294967295 = x4 := by rw [hx4]; exact bits_mask .u64 64 (by decide) (fun n p q => by rw [IntKind.wrap_u64]; omega) 32 (by decide) v hv0 (by simpa using hv1)
  have a2 : bits .and .u64 v 65535 = x2 := by rw [hx2]; exact bits_mask .u64 64 (by decide) (fun n p q => by rw [IntKind.wrap_u64]; omega) 16 (by decide) v hv0 (by simpa using hv1)
  have x40 : 0 ≤ x4 := by omega
  have x41 : x4 < 4294967296 := by omega
  have x20 : 0 ≤ x2 := by omega
  have x21 : x2 < 65536 := by omega
  rw [← hx4] at hv4
  rw [← hx2] at hv2
  obtain ⟨M1, cutc1, conc1, _⟩ := take_at (some ⟨g, 0, none⟩) n cap ys PL hcap q (by omega) (by omega)
  obtain ⟨M2, cutb1, conb1, _⟩ := take_at A n c xs HX.out hc q (by omega) (by omega)
  obtain ⟨A3, M3, c3, cutc2, conc2, _⟩ := cut_at (some ⟨g, 0, none⟩) n cap ys PL hcap ((q : Int) + 8) (by omega) (by omega)
  obtain ⟨A4, M4, c4, cutb2, conb2, _⟩ := cut_at A n c xs HX.out hc ((q : Int) + 8) (by omega) (by omega)
  obtain ⟨A5, M5, c5, cutc3, conc3, _⟩ := mid_at (some ⟨g, 0, none⟩) n cap ys PL hcap q 8 (by omega) (by omega) (by omega)
  rw [Int.toNat_natCast, hS1] at conc1
  rw [Int.toNat_natCast] at conb1
  rw [show ((q : Int) + 8).toNat = q + 8 by omega] at conc2 conb2
  rw [hS2] at conc2
  rw [hsg] at conc3
  generalize strOfNums (xs.take q) = s1 at conc1 conb1
  generalize strOfNums (xs.drop (q + 8)) = s2 at conc2 conb2
  generalize hS3 : strOfNums (leB v 8) = s3 at conc3
  have HS4 := Lib.hid hS3
  have HK : Hid (∀ w', ReadsInt w' .u8 (some ⟨g, 0, none⟩) n ys → ReadsInt w' .u8 A n xs → Below w.heap.size w w' → KB w g n cap c c3 c4 c5 M1 M2 M3 M4 M5 A A3 A4 A5 s1 s2 s3 xs ys w') := Lib.hid fun w' r1 r2 b => ⟨(conc1 _ r1).2 _, (conb1 _ r2).2 _, (conc2 _ r1).2 _, (conb2 _ r2).2 _, (conc3 _ r1).2 _, r1, r2, b⟩
  clear hS3 conc1 conb1 conc2 conb2 conc3 hS1 hS2 hsg hx4 hx2 hq8 P1 PL
  go_wp2_with fail
  refine (U64_at _ n cap ys _ _ HR2.out hcap HY2.out).mono ?_
  rintro e w3 ⟨rfl, rfl⟩
  go_wp2_with fail
  refine (U32_at _ n cap ys _ _ HR2.out hcap HY2.out).mono ?_
  rintro e w3 ⟨rfl, rfl⟩
  go_wp2_with fail
  refine (U16_at _ n cap ys _ _ HR2.out hcap HY2.out).mono ?_
  rintro e w3 ⟨rfl, rfl⟩
  go_wp2
  have wx4 : IntKind.i64.wrap x4 = x4 := by rw [IntKind.wrap_i64]; omega
  have wx2 : IntKind.i64.wrap x2 = x2 := by rw [IntKind.wrap_i64]; omega
  have wq8 : IntKind.i64.wrap ((q : Int) + 8) = (q : Int) + 8 := by rw [IntKind.wrap_i64]; omega
  have hk0 := HK.out w2.drew HR2.out HRb.out HB2.out.drew
  simp only [List.append_eq, List.cons_append, List.nil_append]
  go_region_held (fun w' => (convert 22 9 (.slice (some ⟨g, 0, none⟩) M1 cap)).run Try.prog w' = .ok (.string s1) w' ∧
    (convert 22 9 (.slice A M2 c)).run Try.prog w' = .ok (.string s1) w' ∧
    (convert 22 9 (.slice A3 M3 c3)).run Try.prog w' = .ok (.string s2) w' ∧
    (convert 22 9 (.slice A4 M4 c4)).run Try.prog w' = .ok (.string s2) w' ∧
    (convert 22 9 (.slice A5 M5 c5)).run Try.prog w' = .ok (.string s3) w' ∧
    ReadsInt w' .u8 (some ⟨g, 0, none⟩) n ys ∧ ReadsInt w' .u8 A n xs ∧ Below w.heap.size w w') (first | assumption | go_keep) (first
    | (go_at_call 24; refine (Bytes8_calls v 8 _ hv0 hv1 (by decide) (by decide)).mono ?_; rintro e w3 ⟨v3, rfl, HO3, hb3⟩; have k6 := own_str HO3; simp only [show Int.toNat 8 = 8 from rfl] at k6; rw [HS4.out] at k6; have hold : KB w g n cap c c3 c4 c5 M1 M2 M3 M4 M5 A A3 A4 A5 s1 s2 s3 xs ys _ := (by assumption); have hk1 := HK.out w3 (hold.2.2.2.2.2.1.below hb3) (hold.2.2.2.2.2.2.1.below hb3) (hold.2.2.2.2.2.2.2.trans (hb3.mono hold.2.2.2.2.2.2.2.size)))
    | (go_at_call 15; refine (le_awake _).mono ?_; rintro e w3 ⟨rfl, hb3⟩; have hold : KB w g n cap c c3 c4 c5 M1 M2 M3 M4 M5 A A3 A4 A5 s1 s2 s3 xs ys _ := (by assumption); have hk1 := HK.out w3 (hold.2.2.2.2.2.1.below hb3) (hold.2.2.2.2.2.2.1.below hb3) (hold.2.2.2.2.2.2.2.trans (hb3.mono hold.2.2.2.2.2.2.2.size))))
  all_goals
    go_wp2
    have hold : KB w g n cap c c3 c4 c5 M1 M2 M3 M4 M5 A A3 A4 A5 s1 s2 s3 xs ys _ := (by assumption)
    go_ret
    exact ⟨rfl, hold.2.2.2.2.2.2.2⟩
set_option maxRecDepth 100000 in
theorem LeBack_lifted (os : Os) (started : os.Started) (H : Type) (enc : TypeId × Value → H) :
    ReturnsInHanded {} Try.checked os 8 .any (Rows.leBackSpec.pre6 enc Try.prog Try.f8 Rows.leBackRow.domain false) (Rows.leBackSpec.post enc Try.prog Try.f8 false true false false) := by
  refine returnsInHanded_of_change (C := Try.checked) row_own started (by kernel_rfl) Try.func8
    (ChangeSpec.witness6 (enc := enc) (C := Try.checked) false ⟨#[], #[.slice none 0 0, .int .i64 0, .int .u64 0], []⟩ 8 (by kernel_rfl) (by kernel_rfl) (by kernel_rfl) (by kernel_rfl)) ?_
  intro W base args ds gs before hval0 hW hcnd _
  have hval : ∀ (j : Nat) t v, Try.f8.params[j]? = some t → args[j]? = some v → Value.okWide Try.prog W .any base t v := hval0
  have hW' := hW
  obtain ⟨p, q, hA0, hV, rfl, hfz, hnd⟩ := hW
  have hA : DataW.TrodAll enc Try.prog W 0 (fun _ => true) true Try.f8.params.toList args.toList ds p := hA0
  rw [Try.params8] at hA hval
  obtain ⟨v0, vs0, d0, ds0, p0, q0, hargs, rfl, rfl, h0, r0⟩ := trodAll_cons hA
  obtain ⟨v1, vs1, d1, ds1, p1, q1, rfl, rfl, rfl, h1, r1⟩ := trodAll_cons r0
  obtain ⟨v2, vs2, d2, ds2, p2, q2, rfl, rfl, rfl, h2, r2⟩ := trodAll_cons r1
  obtain ⟨rfl, rfl, rfl⟩ := trodAll_nil r2
  obtain rfl : args = #[v0, v1, v2] := by cases args; simp_all
  obtain ⟨rfl, rfl⟩ := trodVars_none hV
  have k0 := h0
  have lt0 : ∀ x ∈ p0, x.block < W.heap.size := by obtain ⟨m, hm⟩ := k0; exact DataW.trod_lt m _ _ _ hm
  obtain ⟨a0, len0, cap0, rfl⟩ := okWide_slice Try.underlying22 (hval 0 22 v0 rfl rfl)
  obtain ⟨x0, w0⟩ := open_bytes h0
  have k1 := h1
  have lt1 : ∀ x ∈ p1, x.block < W.heap.size := by obtain ⟨m, hm⟩ := k1; exact DataW.trod_lt m _ _ _ hm
  obtain ⟨a1, rfl, rfl, rfl, w1⟩ := open_int Try.underlying3 (hval 1 3 v1 rfl rfl) h1
  have k2 := h2
  have lt2 : ∀ x ∈ p2, x.block < W.heap.size := by obtain ⟨m, hm⟩ := k2; exact DataW.trod_lt m _ _ _ hm
  obtain ⟨a2, rfl, rfl, rfl, w2⟩ := open_int Try.underlying27 (hval 2 27 v2 rfl rfl) h2
  clear hA0 hval0
  refine (LeBack_walk a0 len0 cap0 x0 a1 a2 W w0.1 w0.2.1 w0.2.2.1 w0.2.2.2 (wf_u64' w2).1 (wf_u64' w2).2).mono fun e W' ⟨he, bel⟩ => ?_
  subst he
  exact ⟨_, rfl, _, _, _, [], _, [], hW', trodAll_mk1 (shut_bool Try.underlying4 _), (trodAll_cons_mk (Below.trod row_laidOut (by kernel_rfl) (of_decide_eq_true (by kernel_rfl)) k0 bel lt0) (trodAll_cons_mk (Below.trod row_laidOut (by kernel_rfl) (of_decide_eq_true (by kernel_rfl)) k1 bel lt1) (trodAll_cons_mk (Below.trod row_laidOut (by kernel_rfl) (of_decide_eq_true (by kernel_rfl)) k2 bel lt2) trodAll_mk0))), rfl, bel.frame _, fun h => by cases h⟩
theorem LeBack_over : Rows.leBackRow.holds Try.pinned (OpenSpec.ofChange Rows.leBackSpec) :=
  OpenClaim.holds_of_wide 8 Try.f8 rfl rfl rfl rfl rfl rfl rfl ⟨rfl, rfl, rfl, rfl, rfl⟩ rfl rfl rfl rfl rfl (by kernel_rfl) Try.func8 (by kernel_rfl)
    (of_decide_eq_true (by kernel_rfl)) (by unfold Func.isWrapper; first | (rw [if_pos (by decide +kernel)]; kernel_rfl) | (rw [if_neg (by decide +kernel)]; exact ⟨rfl, rfl⟩))
    (fun os started H enc _ => LeBack_lifted os started H enc)
theorem LeBack_holds : Rows.LeBackSaid := LeBack_over

#print axioms LeBack_holds
end Go.Proofs.Ytcmpcejbephaeaa
