/- The law RoomGaps holds: for any gaps and any number (every input) it returns true and its arguments read as before; no condition. -/
import Derived.Test.YtdagfddhdnfbkaaRoomGapsP
import Derived.Test.YtdagfddhdnfbkaaRowNum
namespace Go.Proofs.Ytdagfddhdnfbkaa
open Go.ChangeShapes Go.WideShapes Go.ChangeAt Go.RowKit
open Go.ChangeMaps (open_string shut_string)
set_option linter.unusedVariables false
set_option linter.unusedSimpArgs false
open Go.Proofs.YtdagfddhdnfbkaaW.PrintWords
set_option maxHeartbeats 1600000 in
set_option maxRecDepth 100000 in
theorem RoomGaps_walk (A : Option Addr) (n c : Nat) (xs : List Int) (a1 : Int) (w : World) (hr : ReadsInt w .i64 A n xs) (hc : n ≤ c) (hm : c ≤ maxLen) :
    Calls Try.prog 3 #[.slice A n c, .int .i64 a1] w fun e w' => e = .returned (.bool true) ∧ Below w.heap.size w w' := by
  obtain ⟨y, hy, y0, y1⟩ : ∃ y : Int, bits .and .i64 a1 31 = y ∧ 0 ≤ y ∧ y ≤ 31 := ⟨_, rfl, and_i64 a1 31 (by decide)⟩
  have HR := Aside0.mk hr
  have HL := Aside0.mk hr.1
  have hn9 := hr.2.1
  clear hr
  go_enter Try.func3, Try.ntmps3
  go_wp2_with fail
  refine (OnNew 1024 w).mono ?_
  rintro e w1 ⟨bm, rfl, HO⟩
  have HO1 := Aside0.mk HO
  clear HO
  go_wp2
  go_loopw [6, 7, 8] (fun av wv iv wr => ∃ (k : Nat) (M : AMem) (a want : Int), k ≤ 12 ∧ k ≤ n ∧ iv = .int .i64 k ∧ av = .int .u64 a ∧ wv = .int .u64 want ∧ Aside0 (GapInv (y + 1) k M a want) ∧ Aside0 (On w wr bm M)) (fun _ _ i _ => n - (intOf i).toNat)
  case atStart => exact ⟨0, newM 1024, 65536, 0, by omega, by omega, rfl, rfl, rfl, ⟨gap_start _⟩, HO1⟩
  case round =>
  clear HO1
  obtain ⟨k, M, a, want, hk, hkn, rfl, rfl, rfl, HG, HO⟩ := hrel
  obtain ⟨b1, b2, b3, b4⟩ : 65536 ≤ a ∧ a ≤ 3300000 ∧ 0 ≤ want ∧ want ≤ a := by
    obtain ⟨A, rfl, hA, -, -, -, h⟩ := HG.out
    rcases h with ⟨rfl, -⟩ | ⟨W, rfl, h1, h2, -⟩ <;> omega
  by_cases hlt : k < n ∧ k < 12
  · obtain ⟨h1, h2⟩ := hlt
    obtain ⟨ad, rfl, hcell⟩ := (HR.out.below HO.out.out).2.2 (by omega)
    have hc := hcell k h1
    clear hcell
    generalize xs.getD k 0 = x at hc
    obtain ⟨g, hg, g0, g3⟩ : ∃ g : Int, bits .and .i64 x 3 = g ∧ 0 ≤ g ∧ g ≤ 3 := ⟨_, rfl, and_i64 x 3 (by decide)⟩
    obtain ⟨s1, s2⟩ := gap_step HG.out h2 (by omega) (by omega) g0 g3
    have S1 := Aside0.mk s1
    have S2 := Aside0.mk s2
    clear s1 s2
    have HM := Aside0.mk (OnMap HO.out (a + g * 65536) 16 1 (by omega))
    rw [S1.out] at HM
    by_cases hz : want = 0
    · subst hz
      by_cases hng : y + 1 ≤ 16 * g
      · have d0 : decide (y + 1 ≤ 16 * g) = true := decide_eq_true hng
        rw [if_pos ⟨rfl, hng⟩] at S2
        clear hng
        go_wp2_with fail
        refine HM.out.mono ?_
        rintro e w2 ⟨rfl, HO'⟩
        have HO2 := Aside0.mk HO'
        clear HO' HM HO
        go_wp2
        go_roundw
        case rel => exact ⟨k + 1, _, _, _, by omega, by omega, by go_num, rfl, rfl, S2, HO2⟩
        case measure => simp [intOf]; omega
      · have d0 : decide (y + 1 ≤ 16 * g) = false := decide_eq_false hng
        rw [if_neg (fun h => hng h.2)] at S2
        clear hng
        go_wp2_with fail
        refine HM.out.mono ?_
        rintro e w2 ⟨rfl, HO'⟩
        have HO2 := Aside0.mk HO'
        clear HO' HM HO
        go_wp2
        go_roundw
        case rel => exact ⟨k + 1, _, _, _, by omega, by omega, by go_num, rfl, rfl, S2, HO2⟩
        case measure => simp [intOf]; omega
    · have d0 : (want == 0) = false := by rw [beq_eq_false_iff_ne]; exact hz
      rw [if_neg (fun h => hz h.1)] at S2
      go_wp2_with fail
      refine HM.out.mono ?_
      rintro e w2 ⟨rfl, HO'⟩
      have HO2 := Aside0.mk HO'
      clear HO' HM HO
      go_wp2
      go_roundw
      case rel => exact ⟨k + 1, _, _, _, by omega, by omega, by go_num, rfl, rfl, S2, HO2⟩
      case measure => simp [intOf]; omega
  obtain ⟨W, hW, heq, hok, hsm⟩ := gap_end HG.out hk (show 1 ≤ y + 1 by omega) (by omega)
  have HF := Aside0.mk fun a ok h => FindIs.first (n := y + 1) (a := a) (ok := ok) h W hW hok hsm
  have hB : isB M (65536 + W * 65536) (y + 1) = true := by unfold okF at hok; rw [Bool.and_eq_true] at hok; exact hok.1
  have HE := Aside0.mk hB
  have HQ := Aside0.mk heq
  clear hsm hok heq hB
  have d9 : (decide ((k : Int) < n) && decide ((k : Int) < 12)) = false := by
    rw [Bool.and_eq_false_iff, decide_eq_false_iff_not, decide_eq_false_iff_not]; omega
  by_cases hkn' : (k : Int) < n
  · have e1 : decide ((k : Int) < n) = true := decide_eq_true hkn'
    have e2 : decide ((k : Int) < 12) = false := decide_eq_false (by omega)
    clear d9 hlt
    by_cases hz : want = 0
    · subst hz
      go_wp2_with fail
      refine (OnFind HO.out (y + 1)).mono ?_
      rintro e w2 ⟨x, ok, rfl, HFI, HO'⟩
      obtain ⟨hx, rfl⟩ := HF.out _ _ HFI
      have HQ' := HQ.out
      rw [if_pos trivial] at HQ'
      have hxa : x = a := by rw [hx, HQ']
      subst hxa
      have HE' := HE.out
      rw [← HQ'] at HE'
      have HI := Aside0.mk (OnIs HO' x (y + 1) (by omega) (by omega))
      rw [HE'] at HI
      clear HF HE HQ HQ' HFI HO' HE' HO HG hx
      go_wp2_with fail
      refine HI.out.mono ?_
      rintro e w3 ⟨rfl, HO3⟩
      have HB3 := Aside0.mk HO3.out
      clear HO3 HI
      go_wp2_with fail
      refine (awake4_calls _).mono ?_
      rintro e w4 ⟨rfl, hb⟩
      have HB4 := Aside0.mk (HB3.out.trans (hb.mono HB3.out.size))
      clear hb HB3
      go_wp2
      go_ret
      exact ⟨rfl, HB4.out⟩
    · have d0 : (want == 0) = false := by rw [beq_eq_false_iff_ne]; exact hz
      go_wp2_with fail
      refine (OnFind HO.out (y + 1)).mono ?_
      rintro e w2 ⟨x, ok, rfl, HFI, HO'⟩
      obtain ⟨hx, rfl⟩ := HF.out _ _ HFI
      have HQ' := HQ.out
      rw [if_neg hz] at HQ'
      have hxa : x = want := by rw [hx, HQ']
      subst hxa
      have HE' := HE.out
      rw [← HQ'] at HE'
      have HI := Aside0.mk (OnIs HO' x (y + 1) (by omega) (by omega))
      rw [HE'] at HI
      clear HF HE HQ HQ' HFI HO' HE' HO HG hx
      go_wp2_with fail
      refine HI.out.mono ?_
      rintro e w3 ⟨rfl, HO3⟩
      have HB3 := Aside0.mk HO3.out
      clear HO3 HI
      go_wp2_with fail
      refine (awake4_calls _).mono ?_
      rintro e w4 ⟨rfl, hb⟩
      have HB4 := Aside0.mk (HB3.out.trans (hb.mono HB3.out.size))
      clear hb HB3
      go_wp2
      go_ret
      exact ⟨rfl, HB4.out⟩
  · have e1 : decide ((k : Int) < n) = false := decide_eq_false hkn'
    clear d9 hlt
    by_cases hz : want = 0
    · subst hz
      go_wp2_with fail
      refine (OnFind HO.out (y + 1)).mono ?_
      rintro e w2 ⟨x, ok, rfl, HFI, HO'⟩
      obtain ⟨hx, rfl⟩ := HF.out _ _ HFI
      have HQ' := HQ.out
      rw [if_pos trivial] at HQ'
      have hxa : x = a := by rw [hx, HQ']
      subst hxa
      have HE' := HE.out
      rw [← HQ'] at HE'
      have HI := Aside0.mk (OnIs HO' x (y + 1) (by omega) (by omega))
      rw [HE'] at HI
      clear HF HE HQ HQ' HFI HO' HE' HO HG hx
      go_wp2_with fail
      refine HI.out.mono ?_
      rintro e w3 ⟨rfl, HO3⟩
      have HB3 := Aside0.mk HO3.out
      clear HO3 HI
      go_wp2_with fail
      refine (awake4_calls _).mono ?_
      rintro e w4 ⟨rfl, hb⟩
      have HB4 := Aside0.mk (HB3.out.trans (hb.mono HB3.out.size))
      clear hb HB3
      go_wp2
      go_ret
      exact ⟨rfl, HB4.out⟩
    · have d0 : (want == 0) = false := by rw [beq_eq_false_iff_ne]; exact hz
      go_wp2_with fail
      refine (OnFind HO.out (y + 1)).mono ?_
      rintro e w2 ⟨x, ok, rfl, HFI, HO'⟩
      obtain ⟨hx, rfl⟩ := HF.out _ _ HFI
      have HQ' := HQ.out
      rw [if_neg hz] at HQ'
      have hxa : x = want := by rw [hx, HQ']
      subst hxa
      have HE' := HE.out
      rw [← HQ'] at HE'
      have HI := Aside0.mk (OnIs HO' x (y + 1) (by omega) (by omega))
      rw [HE'] at HI
      clear HF HE HQ HQ' HFI HO' HE' HO HG hx
      go_wp2_with fail
      refine HI.out.mono ?_
      rintro e w3 ⟨rfl, HO3⟩
      have HB3 := Aside0.mk HO3.out
      clear HO3 HI
      go_wp2_with fail
      refine (awake4_calls _).mono ?_
      rintro e w4 ⟨rfl, hb⟩
      have HB4 := Aside0.mk (HB3.out.trans (hb.mono HB3.out.size))
      clear hb HB3
      go_wp2
      go_ret
      exact ⟨rfl, HB4.out⟩
set_option maxRecDepth 100000 in
theorem RoomGaps_lifted (os : Os) (started : os.Started) (H : Type) (enc : TypeId × Value → H) :
    ReturnsInHanded {} Try.checked os 3 .any (Rows.roomGapsSpec.pre6 enc Try.prog Try.f3 Rows.roomGapsRow.domain false) (Rows.roomGapsSpec.post enc Try.prog Try.f3 false true false false) := by
  refine returnsInHanded_of_change (C := Try.checked) row_own started (by kernel_rfl) Try.func3
    (ChangeSpec.witness6 (enc := enc) (C := Try.checked) false ⟨#[], #[.slice none 0 0, .int .i64 0], []⟩ 8 (by kernel_rfl) (by kernel_rfl) (by kernel_rfl) (by kernel_rfl)) ?_
  intro W base args ds gs before hval0 hW hcnd _
  have hval : ∀ (j : Nat) t v, Try.f3.params[j]? = some t → args[j]? = some v → Value.okWide Try.prog W .any base t v := hval0
  have hW' := hW
  obtain ⟨p, q, hA0, hV, rfl, hfz, hnd⟩ := hW
  have hA : DataW.TrodAll enc Try.prog W 0 (fun _ => true) true Try.f3.params.toList args.toList ds p := hA0
  rw [Try.params3] at hA hval
  obtain ⟨v0, vs0, d0, ds0, p0, q0, hargs, rfl, rfl, h0, r0⟩ := trodAll_cons hA
  obtain ⟨v1, vs1, d1, ds1, p1, q1, rfl, rfl, rfl, h1, r1⟩ := trodAll_cons r0
  obtain ⟨rfl, rfl, rfl⟩ := trodAll_nil r1
  obtain rfl : args = #[v0, v1] := by cases args; simp_all
  obtain ⟨rfl, rfl⟩ := trodVars_none hV
  have k0 := h0
  have lt0 : ∀ x ∈ p0, x.block < W.heap.size := by obtain ⟨m, hm⟩ := k0; exact DataW.trod_lt m _ _ _ hm
  obtain ⟨a0, len0, cap0, rfl⟩ := okWide_slice Try.underlying22 (hval 0 22 v0 rfl rfl)
  obtain ⟨x0, w0⟩ := open_i64s h0
  have k1 := h1
  have lt1 : ∀ x ∈ p1, x.block < W.heap.size := by obtain ⟨m, hm⟩ := k1; exact DataW.trod_lt m _ _ _ hm
  obtain ⟨a1, rfl, rfl, rfl, w1⟩ := open_int Try.underlying3 (hval 1 3 v1 rfl rfl) h1
  clear hA0 hval0
  refine (RoomGaps_walk a0 len0 cap0 x0 a1 W w0.1 w0.2.1 w0.2.2.1).mono fun e W' ⟨he, bel⟩ => ?_
  subst he
  exact ⟨_, rfl, _, _, _, [], _, [], hW', trodAll_mk1 (shut_bool Try.underlying4 _), (trodAll_cons_mk (Below.trod row_laidOut (by kernel_rfl) (of_decide_eq_true (by kernel_rfl)) k0 bel lt0) (trodAll_cons_mk (Below.trod row_laidOut (by kernel_rfl) (of_decide_eq_true (by kernel_rfl)) k1 bel lt1) trodAll_mk0)), rfl, bel.frame _, fun h => by cases h⟩
theorem RoomGaps_over : Rows.roomGapsRow.holds Try.pinned (OpenSpec.ofChange Rows.roomGapsSpec) :=
  OpenClaim.holds_of_wide 3 Try.f3 rfl rfl rfl rfl rfl rfl rfl ⟨rfl, rfl, rfl, rfl, rfl⟩ rfl rfl rfl rfl rfl (by kernel_rfl) Try.func3 (by kernel_rfl)
    (of_decide_eq_true (by kernel_rfl)) (by unfold Func.isWrapper; first | (rw [if_pos (by decide +kernel)]; kernel_rfl) | (rw [if_neg (by decide +kernel)]; exact ⟨rfl, rfl⟩))
    (fun os started H enc _ => RoomGaps_lifted os started H enc)
theorem RoomGaps_holds : Rows.RoomGapsSaid := RoomGaps_over

end Go.Proofs.Ytdagfddhdnfbkaa
