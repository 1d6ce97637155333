/- The law RoomFills holds: for any number and any places gone (every input) it returns true and its arguments read as before; no condition. -/
import Derived.Test.YtdagfddhdnfbkaaRoomFillsP
import Derived.Test.YtdagfddhdnfbkaaRowNum
namespace Go.Proofs.Ytdagfddhdnfbkaa
open Go.ChangeShapes Go.WideShapes Go.ChangeAt Go.RowKit
open Go.ChangeMaps (open_string shut_string)
set_option linter.unusedVariables false
set_option linter.unusedSimpArgs false
open Go.Proofs.YtdagfddhdnfbkaaW.PrintWords
theorem own_cell3 {W : World} {b c3 : Nat} {e : TypeId} {ad3 : Addr} {U j : Nat} (h : W.ownsRow b e 1 (.slice (some ad3) 3 c3) 3 (nums .u64 (rowF U 3))) (hj : j ≤ 2) : W.cell? (ad3.add j) = some (.int .u64 (placeF U j)) := by
  obtain ⟨A', c', e9, hR⟩ := own_reads h
  cases e9
  obtain ⟨a, e8, hcell3⟩ := hR.2.2 (by decide)
  cases e8
  rw [hcell3 j (by omega), rowF3 U j hj]
set_option maxHeartbeats 800000 in
set_option maxRecDepth 100000 in
theorem RoomFills_walk (a0 : Int) (A : Option Addr) (n c : Nat) (xs : List Int) (w : World) (hr : ReadsInt w .i64 A n xs) (hc : n ≤ c) (hm : c ≤ maxLen) :
    Calls Try.prog 5 #[.int .i64 a0, .slice A n c] w fun e w' => e = .returned (.bool true) ∧ Below w.heap.size w w' := by
  obtain ⟨y, hy, y0, y1⟩ : ∃ y : Int, bits .and .i64 a0 63 = y ∧ 0 ≤ y ∧ y ≤ 63 := ⟨_, rfl, and_i64 a0 63 (by decide)⟩
  obtain ⟨U, hU1, hU2, hU3, hU4⟩ : ∃ U : Nat, y + 200 ≤ 16 * U ∧ 16 * (U : Int) < y + 200 + 16 ∧ 13 ≤ U ∧ U ≤ 17 := ⟨((y + 215) / 16).toNat, by omega, by omega, by omega, by omega⟩
  have HR := Aside0.mk hr
  have hn9 := hr.2.1
  clear hr
  go_enter Try.func5, Try.ntmps5
  go_wp2_with fail
  refine (OnNew 1024 w).mono ?_
  rintro e w1 ⟨bm, rfl, HO⟩
  have HO1 := Aside0.mk HO
  clear HO
  go_wp2
  go_loopw [6, 7, 8] (fun lv av iv wr => ∃ (k : Nat) (M : AMem), k ≤ 2 ∧ iv = .int .i64 k ∧ lv = .int .u64 (lastF U k) ∧ Aside0 (wr.ownsRow w.heap.size 25 1 av (rowF U k).length (nums .u64 (rowF U k))) ∧ Aside0 (Fill (y + 200) U k k M) ∧ Aside0 (On w wr bm M)) (fun _ _ i _ => 3 - (intOf i).toNat)
  case atStart => exact ⟨0, newM 1024, by omega, rfl, rfl, ⟨own_nil _ _ _ _⟩, ⟨fill_start _ _⟩, HO1⟩
  case round =>
  clear HO1
  obtain ⟨k, M, hk, rfl, rfl, HW, HF, HO⟩ := hrel
  obtain ⟨b1, b2, b3, b4⟩ := place_lt U k hU3 hU4 hk
  go_wp2_with fail
  refine (OnFindK HO.out (y + 200)).mono ?_
  rintro e w2 ⟨x, ok, rfl, HFI, HO', HK⟩
  obtain ⟨hx, rfl, hok⟩ := fill_find HF.out (by omega) (by omega) (by omega) (by omega) (by omega) (Nat.le_refl _) HFI hk
  have hx' : x = placeF U k := hx
  subst hx'
  obtain ⟨m1, m2⟩ := fill_map HF.out (by omega) (by omega) (by omega) (by omega) (Nat.le_refl _) hk (hx ▸ hok)
  rw [← hx] at m1 m2
  rw [if_neg (by omega)] at m2
  have HW2 := Aside0.mk (HK _ _ _ _ _ _ (by decide) (by decide) HW.out)
  have HM := Aside0.mk (OnMapK HO' (placeF U k) (y + 200) 1 (by omega))
  rw [m1] at HM
  have HF2 := Aside0.mk m2
  clear HW HK HFI HO' m1 m2 hok HF HO hx
  obtain ⟨pk, hpk⟩ : ∃ pk : Int, placeF U k = pk := ⟨_, rfl⟩
  obtain ⟨lk, hlk⟩ : ∃ lk : Int, lastF U k = lk := ⟨_, rfl⟩
  rw [hpk] at b1 b2 b3 HM HF2 ⊢
  rw [hlk] at b3 b4 ⊢
  have HPK := Aside0.mk hpk
  clear hpk hlk
  have d0 : decide (pk ≤ lk) = false := decide_eq_false (by omega)
  go_wp2_with fail
  refine HM.out.mono ?_
  rintro e w3 ⟨rfl, HO3, HK3⟩
  have HW3 := Aside0.mk (HK3 _ _ _ _ _ _ (by decide) (by decide) HW2.out)
  have HO4 := Aside0.mk HO3
  have HB4 := Aside0.mk HO3.out
  clear HM HK3 HW2 HO3
  have HE : Aside0 (rowF U k ++ [pk] = rowF U (k + 1)) := ⟨by rw [← HPK.out]; rfl⟩
  have hl9 := Aside0.mk (rowF_len U k)
  have HL : Aside0 (lastF U (k + 1) = pk) := ⟨HPK.out⟩
  by_cases hlt : k < 2
  · have d2 : decide (2 ≤ (k : Int)) = false := decide_eq_false (by omega)
    go_wp2_with (at_builtin; refine print_append_num (w0 := w) w.heap.size rfl (.tmp 53) (.tmp 55) 33 25 .u64 8 rfl Try.underlying33 info_u64 (by decide) _ (rowF U k) _ rfl rfl HW3.out HB4.out HB4.out.size (by rw [hl9.out]; omega) ?_; intro v1 w5 hown hb hg hat; have HO5 := Aside0.mk (HO4.out.append (by decide) (by decide) HW3.out hb hg); rw [HE.out] at hown; have HW5 := Aside0.mk hown; clear hown hb hg hat HW3 HO4 HB4)
    go_roundw
    case rel => exact ⟨k + 1, _, by omega, by go_num, by rw [HL.out], HW5, HF2, HO5⟩
    case measure => simp [intOf]; omega
  obtain rfl : k = 2 := by omega
  go_wp2_with (at_builtin; refine print_append_num (w0 := w) w.heap.size rfl (.tmp 53) (.tmp 55) 33 25 .u64 8 rfl Try.underlying33 info_u64 (by decide) _ (rowF U 2) _ rfl rfl HW3.out HB4.out HB4.out.size (by rw [hl9.out]; omega) ?_; intro v1 w5 hown hb hg hat; have HO5 := Aside0.mk (HO4.out.append (by decide) (by decide) HW3.out hb hg); rw [HE.out, rowF_len] at hown; have HW5 := Aside0.mk hown; obtain ⟨A3, c3, rfl, -⟩ := own_reads hown; clear hown hb hg hat HW3 HO4 HB4)
  go_loopw [11] (fun iv wr => ∃ (t : Nat) (M : AMem), t ≤ 3 ∧ t ≤ n ∧ iv = .int .i64 t ∧ Aside0 (Fill (y + 200) U 3 3 M) ∧ Aside0 (On w wr bm M) ∧ Aside0 (wr.ownsRow w.heap.size 25 1 (.slice A3 3 c3) 3 (nums .u64 (rowF U 3)))) (fun i _ => 3 - (intOf i).toNat)
  case atStart => exact ⟨0, _, by omega, by omega, rfl, HF2, HO5, HW5⟩
  case round =>
  clear HF2 HO5 HW5 HE HL hl9 HPK b1 b2 b3 b4 d0 hlt
  obtain ⟨t, M, ht, htn, rfl, HF, HO, HW⟩ := hrel
  by_cases hlt : t < n ∧ t < 3
  · obtain ⟨h1, h2⟩ := hlt
    obtain ⟨ad, rfl, hcell⟩ := (HR.out.below HO.out.out).2.2 (by omega)
    have hc1 := hcell t h1
    clear hcell
    generalize xs.getD t 0 = x at hc1
    obtain ⟨j, hj, hq⟩ : ∃ j : Nat, j ≤ 2 ∧ (bits .and .i64 x 255).tmod 3 = j := by
      obtain ⟨z, hz, z0, z1⟩ : ∃ z : Int, bits .and .i64 x 255 = z ∧ 0 ≤ z ∧ z ≤ 255 := ⟨_, rfl, and_i64 x 255 (by decide)⟩
      exact ⟨(z % 3).toNat, by omega, by rw [hz, Int.tmod_eq_emod_of_nonneg z0]; omega⟩
    obtain ⟨ad3, rfl⟩ : ∃ ad3, A3 = some ad3 := by
      obtain ⟨A', c', e9, hR⟩ := own_reads HW.out
      cases e9
      obtain ⟨a, e8, -⟩ := hR.2.2 (by decide)
      exact ⟨a, e8⟩
    obtain ⟨b1, b2, -, -⟩ := place_lt U j hU3 hU4 hj
    obtain ⟨u1, u2⟩ := fill_un HF.out (by omega) (by omega) (by omega) (by omega) hj
    have u1' : thereM M (placeF U j) (y + 200) = true := u1
    have HU := Aside0.mk (OnUnmapK HO.out (placeF U j) (y + 200) (by omega))
    rw [u1'] at HU
    have HF1 : Aside0 (Fill (y + 200) U 3 j (unM M (placeF U j) (y + 200))) := ⟨u2⟩
    have hc3 := own_cell3 HW.out hj
    have HP : Aside0 (placeF U j = 65536 + ((U * j : Nat) : Int) * 65536) := ⟨rfl⟩
    generalize placeF U j = pk at HU HF1 hc3 HP b1 b2 u1'
    clear u1 u2 u1' HO
    have h1' : (t : Int) < n := by omega
    go_wp2_with fail
    refine HU.out.mono ?_
    rintro e w2 ⟨rfl, HO1, HK1⟩
    have HW1 := Aside0.mk (HK1 _ _ _ _ _ _ (by decide) (by decide) HW.out)
    have HFd := Aside0.mk (OnFindK HO1 (y + 200))
    clear HU HK1 HO1
    go_wp2_with fail
    refine HFd.out.mono ?_
    rintro e w3 ⟨z, ok, rfl, HFI, HO2, HK2⟩
    obtain ⟨hz, rfl, hok⟩ := fill_find HF1.out (by omega) (by omega) (by omega) (by omega) (by omega) (by omega) HFI hj
    obtain rfl : z = pk := by rw [hz, HP.out]
    obtain ⟨m1, m2⟩ := fill_map HF1.out (by omega) (by omega) (by omega) (by omega) (by omega) hj (by rw [← HP.out]; exact hok)
    rw [← HP.out] at m1 m2
    rw [if_pos (by omega)] at m2
    have HW3 := Aside0.mk (HK2 _ _ _ _ _ _ (by decide) (by decide) HW1.out)
    have hc4 : w3.cell? (ad3.add j) = some (.int .u64 z) := (own_cell3 HW3.out hj).trans (by rw [show placeF U j = z from HP.out.symm])
    have HM := Aside0.mk (OnMapK HO2 z (y + 200) 1 (by omega))
    rw [m1] at HM
    have HF2 := Aside0.mk m2
    clear HFd HFI HO2 HK2 HW1 m1 m2 hok hz HF1 HP HW HF
    go_wp2_with fail
    refine HM.out.mono ?_
    rintro e w4 ⟨rfl, HO4, HK4⟩
    have HW4 := Aside0.mk (HK4 _ _ _ _ _ _ (by decide) (by decide) HW3.out)
    have HO4' := Aside0.mk HO4
    clear HO4 HK4 HW3 HM
    go_wp2
    go_roundw
    case rel => exact ⟨t + 1, _, by omega, by omega, by go_num, HF2, HO4', HW4⟩
    case measure => simp [intOf]; omega
  have H5 := Aside0.mk (OnFindK HO.out 1025)
  clear HW HF HR hU1 hU2 hU3 hU4
  have d9 : (decide ((t : Int) < n) && decide ((t : Int) < 3)) = false := by
    rw [Bool.and_eq_false_iff, decide_eq_false_iff_not, decide_eq_false_iff_not]; omega
  by_cases hkn' : (t : Int) < n
  · have e1 : decide ((t : Int) < n) = true := decide_eq_true hkn'
    have e2 : decide ((t : Int) < 3) = false := decide_eq_false (by omega)
    clear d9 hlt
    go_wp2_with fail
    refine H5.out.mono ?_
    rintro e w2 ⟨x, ok, rfl, HFI, HO', -⟩
    obtain rfl := find_none HFI (by omega)
    have H6 := Aside0.mk (OnFindK HO' 0)
    clear H5 HFI HO'
    go_wp2_with fail
    refine H6.out.mono ?_
    rintro e w3 ⟨x2, ok, rfl, HFI, HO', -⟩
    obtain rfl := find_none HFI (by omega)
    have HB3 := Aside0.mk HO'.out
    clear HFI HO' H6
    go_wp2_with fail
    refine (awake4_calls _).mono ?_
    rintro e w4 ⟨rfl, hb⟩
    have HB4 := Aside0.mk (HB3.out.trans (hb.mono HB3.out.size))
    clear hb HB3
    go_wp2
    go_ret
    exact ⟨rfl, HB4.out⟩
  · have e1 : decide ((t : Int) < n) = false := decide_eq_false hkn'
    clear d9 hlt
    go_wp2_with fail
    refine H5.out.mono ?_
    rintro e w2 ⟨x, ok, rfl, HFI, HO', -⟩
    obtain rfl := find_none HFI (by omega)
    have H6 := Aside0.mk (OnFindK HO' 0)
    clear H5 HFI HO'
    go_wp2_with fail
    refine H6.out.mono ?_
    rintro e w3 ⟨x2, ok, rfl, HFI, HO', -⟩
    obtain rfl := find_none HFI (by omega)
    have HB3 := Aside0.mk HO'.out
    clear HFI HO' H6
    go_wp2_with fail
    refine (awake4_calls _).mono ?_
    rintro e w4 ⟨rfl, hb⟩
    have HB4 := Aside0.mk (HB3.out.trans (hb.mono HB3.out.size))
    clear hb HB3
    go_wp2
    go_ret
    exact ⟨rfl, HB4.out⟩
set_option maxRecDepth 100000 in
theorem RoomFills_lifted (os : Os) (started : os.Started) (H : Type) (enc : TypeId × Value → H) :
    ReturnsInHanded {} Try.checked os 5 .any (Rows.roomFillsSpec.pre6 enc Try.prog Try.f5 Rows.roomFillsRow.domain false) (Rows.roomFillsSpec.post enc Try.prog Try.f5 false true false false) := by
  refine returnsInHanded_of_change (C := Try.checked) row_own started (by kernel_rfl) Try.func5
    (ChangeSpec.witness6 (enc := enc) (C := Try.checked) false ⟨#[], #[.int .i64 0, .slice none 0 0], []⟩ 8 (by kernel_rfl) (by kernel_rfl) (by kernel_rfl) (by kernel_rfl)) ?_
  intro W base args ds gs before hval0 hW hcnd _
  have hval : ∀ (j : Nat) t v, Try.f5.params[j]? = some t → args[j]? = some v → Value.okWide Try.prog W .any base t v := hval0
  have hW' := hW
  obtain ⟨p, q, hA0, hV, rfl, hfz, hnd⟩ := hW
  have hA : DataW.TrodAll enc Try.prog W 0 (fun _ => true) true Try.f5.params.toList args.toList ds p := hA0
  rw [Try.params5] at hA hval
  obtain ⟨v0, vs0, d0, ds0, p0, q0, hargs, rfl, rfl, h0, r0⟩ := trodAll_cons hA
  obtain ⟨v1, vs1, d1, ds1, p1, q1, rfl, rfl, rfl, h1, r1⟩ := trodAll_cons r0
  obtain ⟨rfl, rfl, rfl⟩ := trodAll_nil r1
  obtain rfl : args = #[v0, v1] := by cases args; simp_all
  obtain ⟨rfl, rfl⟩ := trodVars_none hV
  have k0 := h0
  have lt0 : ∀ x ∈ p0, x.block < W.heap.size := by obtain ⟨m, hm⟩ := k0; exact DataW.trod_lt m _ _ _ hm
  obtain ⟨a0, rfl, rfl, rfl, w0⟩ := open_int Try.underlying3 (hval 0 3 v0 rfl rfl) h0
  have k1 := h1
  have lt1 : ∀ x ∈ p1, x.block < W.heap.size := by obtain ⟨m, hm⟩ := k1; exact DataW.trod_lt m _ _ _ hm
  obtain ⟨a1, len1, cap1, rfl⟩ := okWide_slice Try.underlying22 (hval 1 22 v1 rfl rfl)
  obtain ⟨x1, w1⟩ := open_i64s h1
  clear hA0 hval0
  refine (RoomFills_walk a0 a1 len1 cap1 x1 W w1.1 w1.2.1 w1.2.2.1).mono fun e W' ⟨he, bel⟩ => ?_
  subst he
  exact ⟨_, rfl, _, _, _, [], _, [], hW', trodAll_mk1 (shut_bool Try.underlying4 _), (trodAll_cons_mk (Below.trod row_laidOut (by kernel_rfl) (of_decide_eq_true (by kernel_rfl)) k0 bel lt0) (trodAll_cons_mk (Below.trod row_laidOut (by kernel_rfl) (of_decide_eq_true (by kernel_rfl)) k1 bel lt1) trodAll_mk0)), rfl, bel.frame _, fun h => by cases h⟩
theorem RoomFills_over : Rows.roomFillsRow.holds Try.pinned (OpenSpec.ofChange Rows.roomFillsSpec) :=
  OpenClaim.holds_of_wide 5 Try.f5 rfl rfl rfl rfl rfl rfl rfl ⟨rfl, rfl, rfl, rfl, rfl⟩ rfl rfl rfl rfl rfl (by kernel_rfl) Try.func5 (by kernel_rfl)
    (of_decide_eq_true (by kernel_rfl)) (by unfold Func.isWrapper; first | (rw [if_pos (by decide +kernel)]; kernel_rfl) | (rw [if_neg (by decide +kernel)]; exact ⟨rfl, rfl⟩))
    (fun os started H enc _ => RoomFills_lifted os started H enc)
theorem RoomFills_holds : Rows.RoomFillsSaid := RoomFills_over

end Go.Proofs.Ytdagfddhdnfbkaa
