/- The law VmemFull holds: for any number (every input) it returns true and its argument reads as before; no condition. -/
import Derived.Test.YtdagfddhdnfbkaaVmemAw
import Derived.Test.YtdagfddhdnfbkaaRowNum
namespace Go.Proofs.Ytdagfddhdnfbkaa
open Go.ChangeShapes Go.WideShapes Go.ChangeAt Go.RowKit
open Go.ChangeMaps (open_string shut_string)
set_option linter.unusedVariables false
set_option linter.unusedSimpArgs false
open Go.Proofs.YtdagfddhdnfbkaaW.PrintWords
/-- what is said of a memory of y pages: M0 empty, M1 with all its pages -/
structure FullSays (y : Int) (M1 : AMem) : Prop where
  c0 : mapCode (newM y) 0 (y + 1) 1 = 13
  n0 : (newM y).most - (newM y).cnt = y
  c1 : 0 < y → mapCode (newM y) 0 y 1 = 0 ∧ mapM (newM y) 0 y 1 = M1
  z1 : y = 0 → newM y = M1
  n1 : M1.most - M1.cnt = 0
  c2 : mapCode M1 140737488351232 1 1 = 13
  c3 : mapCode M1 140737488355328 1 1 = 1
  f4 : askF M1 140737488355328 1 1 2 = (1, 140737488355328)
  m4 : askM M1 140737488355328 1 1 2 = M1
  f5 : askF M1 18446744073709551615 2 1 2 = (1, 18446744073709551615)
  m5 : askM M1 18446744073709551615 2 1 2 = M1
  c6 : mapCode M1 1 1 1 = 1
  c7 : mapCode M1 1048576 0 1 = 1
  c8 : mapCode M1 1048576 1 16 = 1
theorem full_says (y : Int) (h0 : 0 ≤ y) (h1 : y < 40) : ∃ M1, FullSays y M1 := by
  have hany : ∀ p N, anyP (newM y) p N = false := fun p N => anyM_false.2 fun k hk => rfl
  have hmost : (newM y).most = y := by show min (max y 0) 1024 = y; omega
  have hcnt : (newM y).cnt = 0 := rfl
  have c0 : mapCode (newM y) 0 (y + 1) 1 = 13 := mapC_full (may_ok (by omega)) (by decide) (hany _ _) (by rw [hmost, hcnt]; omega)
  have n0 : (newM y).most - (newM y).cnt = y := by rw [hmost, hcnt]; omega
  obtain ⟨M1, h1, h2, h3, h4⟩ : ∃ M1 : AMem, (0 < y → mapCode (newM y) 0 y 1 = 0 ∧ mapM (newM y) 0 y 1 = M1) ∧ (y = 0 → newM y = M1) ∧ M1.most - M1.cnt = 0 ∧ ∀ q, 163840 ≤ q → M1.pg q = none := by
    by_cases hy : 0 < y
    · have c1 : mapCode (newM y) 0 y 1 = 0 := mapC_ok (may_ok (by omega)) (by decide) (hany _ _) (by rw [hmost, hcnt]; omega)
      refine ⟨_, fun _ => ⟨c1, mapM_is c1⟩, fun h => by omega, ?_, fun q hq => ?_⟩
      · show (newM y).most - (((newM y).cnt + y.toNat : Nat) : Int) = 0
        rw [hmost, hcnt]; omega
      · show (if q ∈ rowL 0 y.toNat then _ else (newM y).pg q) = none
        rw [if_neg]
        · rfl
        · rw [rowL_mem]; rintro ⟨k, hk, e⟩; omega
    · exact ⟨newM y, fun h => absurd h hy, fun _ => rfl, by rw [n0]; omega, fun _ _ => rfl⟩
  have b4 : baseV 140737488355328 = 140737488355328 := by decide
  have b5 : baseV 18446744073709551615 = 18446744073709547520 := by decide
  have g4 : M1.pg (baseV 140737488355328) = none := by rw [b4]; exact h4 _ (by decide)
  have g5 : M1.pg (baseV 18446744073709551615) = none := by rw [b5]; exact h4 _ (by decide)
  have f4 := askF_first (M := M1) (p := 140737488355328) (n := 1) (prot := 1) (kind := 2) (k := 1) (by decide) (by decide) (by decide) (by decide) (askK_none g4) (by decide)
  have f5 := askF_first (M := M1) (p := 18446744073709551615) (n := 2) (prot := 1) (kind := 2) (k := 1) (by decide) (by decide) (by decide) (by decide) (askK_none g5) (by decide)
  refine ⟨M1, c0, n0, h1, h2, h3, ?_, ?_, f4.1, by rw [f4.2, clearG_none g4], f5.1, by rw [f5.2, clearG_none g5], ?_, ?_, ?_⟩
  · refine mapC_full (may_ok (by decide)) (by decide) (anyM_false.2 fun k hk => ?_) (by omega)
    obtain rfl : k = 0 := by simp at hk; omega
    exact h4 _ (by decide)
  · exact mapC_bad fun h => may_bad (by decide) h.1
  · exact mapC_bad fun h => may_bad (by decide) h.1
  · exact mapC_bad fun h => may_bad (by decide) h.1
  · exact mapC_bad fun h => absurd h.2.1 (by decide)
set_option maxHeartbeats 1600000 in
set_option maxRecDepth 100000 in
theorem VmemFull_walk (a0 : Int) (w : World) :
    Calls Try.prog 6 #[.int .i64 a0] w fun e w' => e = .returned (.bool true) ∧ Below w.heap.size w w' := by
  obtain ⟨z, hz, z0, z1⟩ : ∃ z : Int, bits .and .i64 a0 255 = z ∧ 0 ≤ z ∧ z ≤ 255 := ⟨_, rfl, and_i64 a0 255 (by decide)⟩
  obtain ⟨y, hy, y0, y1⟩ : ∃ y : Int, z % 40 = y ∧ 0 ≤ y ∧ y < 40 := ⟨_, rfl, by omega, by omega⟩
  obtain ⟨M1, hsays⟩ := full_says y y0 y1
  have H := Aside0.mk hsays
  clear hsays
  have hu := Try.underlying45
  go_enter Try.func6, Try.ntmps6
  go_wp2_with fail
  refine (OnNew y w).mono ?_
  rintro e w1 ⟨bm, rfl, HO⟩
  have HO1 := Aside0.mk HO
  clear HO hz
  have HF1 := Aside0.mk (OnFree HO1.out)
  rw [H.out.n0] at HF1
  go_wp2_with fail
  refine HF1.out.mono ?_
  rintro e w2 ⟨rfl, HO, -⟩
  have HO2 := Aside0.mk HO
  clear HO HO1 HF1
  go_wp2_with fail
  refine (OnMapNo HO2.out 0 (y + 1) 1 13 (by decide) H.out.c0 (by decide)).mono ?_
  rintro e w3 ⟨rfl, hb⟩
  have HO3' := Aside0.mk (HO2.out.below hb)
  clear hb HO2
  by_cases hyp : 0 < y
  · have dy : decide (0 < y) = true := decide_eq_true hyp
    obtain ⟨e1, e2⟩ := H.out.c1 hyp
    have HM := Aside0.mk (OnMapK HO3'.out 0 y 1 (by decide))
    rw [e1, e2] at HM
    clear e1 e2 HO3' hyp
    go_wp2_with fail
    refine HM.out.mono ?_
    rintro e w33 ⟨rfl, HO, -⟩
    have HO3 := Aside0.mk HO
    clear HO HM
    have HF3 := Aside0.mk (OnFree HO3.out)
    rw [H.out.n1] at HF3
    go_wp2_with fail
    refine HF3.out.mono ?_
    rintro e w4 ⟨rfl, HO, -⟩
    have HO4 := Aside0.mk HO
    clear HO HO3 HF3
    go_wp2_with fail
    refine (OnMapNo HO4.out 140737488351232 1 1 13 (by decide) H.out.c2 (by decide)).mono ?_
    rintro e w5 ⟨rfl, hb⟩
    have HO5 := Aside0.mk (HO4.out.below hb)
    clear hb HO4
    go_wp2_with fail
    refine (OnMapNo HO5.out 140737488355328 1 1 1 (by decide) H.out.c3 (by decide)).mono ?_
    rintro e w6 ⟨rfl, hb⟩
    have HO6 := Aside0.mk (HO5.out.below hb)
    clear hb HO5
    go_wp2_with fail
    refine (OnRead (M := M1) HO6.out 140737488355328 1 (by decide) (by decide)).mono ?_
    rw [show max (1 : Int) 0 = 1 from by decide, H.out.f4, H.out.m4]
    rintro e w7 ⟨v1, rfl, -, HO, -⟩
    have HO7 := Aside0.mk HO
    have hs := Sits.add (Sits.nil w7) (cs := #[.int .i64 1, .int .u64 140737488355328]) (t := 45) (by decide) (by decide)
    have HS7 := Aside0.mk hs
    clear HO HO6 hs
    go_wp2_with fail
    refine (OnRead (M := M1) (HO7.out.alloc_ _) 18446744073709551615 2 (by decide) (by decide)).mono ?_
    rw [show max (2 : Int) 0 = 2 from by decide, H.out.f5, H.out.m5]
    rintro e w8 ⟨v2, rfl, -, HO, HK⟩
    have HO8 := Aside0.mk (HO.alloc_ (.cells #[.int .i64 1, .int .u64 18446744073709551615] 45))
    have hs := Sits.add (HS7.out.keep HK) (cs := #[.int .i64 1, .int .u64 18446744073709551615]) (t := 45) (by decide) (by decide)
    have HS8 := Aside0.mk hs
    clear HO HO7 HS7 HK hs
    go_wp2_with fail
    refine (OnNew 5000 _).mono ?_
    rintro e w9 ⟨bk, rfl, HOK⟩
    have HOK9 := Aside0.mk HOK
    have HO9 := Aside0.mk (HO8.out.below HOK.out)
    have HS9 := Aside0.mk (HS8.out.below HOK.out)
    clear HOK HO8 HS8
    have b7 := HS9.out.blk w7.heap.size _ _ (.tail _ (.head _))
    have b8 := HS9.out.blk w8.heap.size _ _ (.head _)
    have c70 := blk_cell b7 0
    have c71 := blk_cell b7 1
    have c80 := blk_cell b8 0
    simp only [List.getElem?_toArray, List.getElem?_cons_zero, List.getElem?_cons_succ] at c70 c71 c80
    clear b7 b8
    go_wp2_with fail
    refine (OnMapNo HO9.out 1 1 1 1 (by decide) H.out.c6 (by decide)).mono ?_
    rintro e w10 ⟨rfl, hb⟩
    have HO10 := Aside0.mk (HO9.out.below hb)
    have HOK10 := Aside0.mk (HOK9.out.below hb)
    clear hb HO9 HOK9
    go_wp2_with fail
    refine (OnMapNo HO10.out 1048576 0 1 1 (by decide) H.out.c7 (by decide)).mono ?_
    rintro e w11 ⟨rfl, hb⟩
    have HO11 := Aside0.mk (HO10.out.below hb)
    have HOK11 := Aside0.mk (HOK10.out.below hb)
    clear hb HO10 HOK10
    go_wp2_with fail
    refine (OnMapNo HO11.out 1048576 1 16 1 (by decide) H.out.c8 (by decide)).mono ?_
    rintro e w12 ⟨rfl, hb⟩
    have HO12 := Aside0.mk (HO11.out.below hb)
    have HOK12 := Aside0.mk (HOK11.out.below hb)
    clear hb HO11 HOK11
    have HFK := Aside0.mk (OnFree HOK12.out)
    rw [show (newM 5000).most - (newM 5000).cnt = 1024 from by decide] at HFK
    go_wp2_with fail
    refine HFK.out.mono ?_
    rintro e w13 ⟨rfl, -, m13, rfl⟩
    have HO13 := Aside0.mk (HO12.out.drew m13)
    clear HFK HO12 HOK12
    go_wp2_with fail
    refine (awake3_calls _).mono ?_
    rintro e w14 ⟨rfl, hb⟩
    have HB := Aside0.mk (HO13.out.below hb).out
    clear hb HO13
    go_wp2
    go_ret
    exact ⟨rfl, HB.out⟩
  · have dy : decide (0 < y) = false := decide_eq_false hyp
    have hz0 := H.out.z1 (by omega)
    rw [hz0] at HO3'
    have HO3 := HO3'
    clear HO3' hz0 hyp
    have HF3 := Aside0.mk (OnFree HO3.out)
    rw [H.out.n1] at HF3
    go_wp2_with fail
    refine HF3.out.mono ?_
    rintro e w4 ⟨rfl, HO, -⟩
    have HO4 := Aside0.mk HO
    clear HO HO3 HF3
    go_wp2_with fail
    refine (OnMapNo HO4.out 140737488351232 1 1 13 (by decide) H.out.c2 (by decide)).mono ?_
    rintro e w5 ⟨rfl, hb⟩
    have HO5 := Aside0.mk (HO4.out.below hb)
    clear hb HO4
    go_wp2_with fail
    refine (OnMapNo HO5.out 140737488355328 1 1 1 (by decide) H.out.c3 (by decide)).mono ?_
    rintro e w6 ⟨rfl, hb⟩
    have HO6 := Aside0.mk (HO5.out.below hb)
    clear hb HO5
    go_wp2_with fail
    refine (OnRead (M := M1) HO6.out 140737488355328 1 (by decide) (by decide)).mono ?_
    rw [show max (1 : Int) 0 = 1 from by decide, H.out.f4, H.out.m4]
    rintro e w7 ⟨v1, rfl, -, HO, -⟩
    have HO7 := Aside0.mk HO
    have hs := Sits.add (Sits.nil w7) (cs := #[.int .i64 1, .int .u64 140737488355328]) (t := 45) (by decide) (by decide)
    have HS7 := Aside0.mk hs
    clear HO HO6 hs
    go_wp2_with fail
    refine (OnRead (M := M1) (HO7.out.alloc_ _) 18446744073709551615 2 (by decide) (by decide)).mono ?_
    rw [show max (2 : Int) 0 = 2 from by decide, H.out.f5, H.out.m5]
    rintro e w8 ⟨v2, rfl, -, HO, HK⟩
    have HO8 := Aside0.mk (HO.alloc_ (.cells #[.int .i64 1, .int .u64 18446744073709551615] 45))
    have hs := Sits.add (HS7.out.keep HK) (cs := #[.int .i64 1, .int .u64 18446744073709551615]) (t := 45) (by decide) (by decide)
    have HS8 := Aside0.mk hs
    clear HO HO7 HS7 HK hs
    go_wp2_with fail
    refine (OnNew 5000 _).mono ?_
    rintro e w9 ⟨bk, rfl, HOK⟩
    have HOK9 := Aside0.mk HOK
    have HO9 := Aside0.mk (HO8.out.below HOK.out)
    have HS9 := Aside0.mk (HS8.out.below HOK.out)
    clear HOK HO8 HS8
    have b7 := HS9.out.blk w7.heap.size _ _ (.tail _ (.head _))
    have b8 := HS9.out.blk w8.heap.size _ _ (.head _)
    have c70 := blk_cell b7 0
    have c71 := blk_cell b7 1
    have c80 := blk_cell b8 0
    simp only [List.getElem?_toArray, List.getElem?_cons_zero, List.getElem?_cons_succ] at c70 c71 c80
    clear b7 b8
    go_wp2_with fail
    refine (OnMapNo HO9.out 1 1 1 1 (by decide) H.out.c6 (by decide)).mono ?_
    rintro e w10 ⟨rfl, hb⟩
    have HO10 := Aside0.mk (HO9.out.below hb)
    have HOK10 := Aside0.mk (HOK9.out.below hb)
    clear hb HO9 HOK9
    go_wp2_with fail
    refine (OnMapNo HO10.out 1048576 0 1 1 (by decide) H.out.c7 (by decide)).mono ?_
    rintro e w11 ⟨rfl, hb⟩
    have HO11 := Aside0.mk (HO10.out.below hb)
    have HOK11 := Aside0.mk (HOK10.out.below hb)
    clear hb HO10 HOK10
    go_wp2_with fail
    refine (OnMapNo HO11.out 1048576 1 16 1 (by decide) H.out.c8 (by decide)).mono ?_
    rintro e w12 ⟨rfl, hb⟩
    have HO12 := Aside0.mk (HO11.out.below hb)
    have HOK12 := Aside0.mk (HOK11.out.below hb)
    clear hb HO11 HOK11
    have HFK := Aside0.mk (OnFree HOK12.out)
    rw [show (newM 5000).most - (newM 5000).cnt = 1024 from by decide] at HFK
    go_wp2_with fail
    refine HFK.out.mono ?_
    rintro e w13 ⟨rfl, -, m13, rfl⟩
    have HO13 := Aside0.mk (HO12.out.drew m13)
    clear HFK HO12 HOK12
    go_wp2_with fail
    refine (awake3_calls _).mono ?_
    rintro e w14 ⟨rfl, hb⟩
    have HB := Aside0.mk (HO13.out.below hb).out
    clear hb HO13
    go_wp2
    go_ret
    exact ⟨rfl, HB.out⟩
set_option maxRecDepth 100000 in
theorem VmemFull_lifted (os : Os) (started : os.Started) (H : Type) (enc : TypeId × Value → H) :
    ReturnsInHanded {} Try.checked os 6 .any (Rows.vmemFullSpec.pre6 enc Try.prog Try.f6 Rows.vmemFullRow.domain false) (Rows.vmemFullSpec.post enc Try.prog Try.f6 false true false false) := by
  refine returnsInHanded_of_change (C := Try.checked) row_own started (by kernel_rfl) Try.func6
    (ChangeSpec.witness6 (enc := enc) (C := Try.checked) false ⟨#[], #[.int .i64 0], []⟩ 8 (by kernel_rfl) (by kernel_rfl) (by kernel_rfl) (by kernel_rfl)) ?_
  intro W base args ds gs before hval0 hW hcnd _
  have hval : ∀ (j : Nat) t v, Try.f6.params[j]? = some t → args[j]? = some v → Value.okWide Try.prog W .any base t v := hval0
  have hW' := hW
  obtain ⟨p, q, hA0, hV, rfl, hfz, hnd⟩ := hW
  have hA : DataW.TrodAll enc Try.prog W 0 (fun _ => true) true Try.f6.params.toList args.toList ds p := hA0
  rw [Try.params6] at hA hval
  obtain ⟨v0, vs0, d0, ds0, p0, q0, hargs, rfl, rfl, h0, r0⟩ := trodAll_cons hA
  obtain ⟨rfl, rfl, rfl⟩ := trodAll_nil r0
  obtain rfl : args = #[v0] := by cases args; simp_all
  obtain ⟨rfl, rfl⟩ := trodVars_none hV
  have k0 := h0
  have lt0 : ∀ x ∈ p0, x.block < W.heap.size := by obtain ⟨m, hm⟩ := k0; exact DataW.trod_lt m _ _ _ hm
  obtain ⟨a0, rfl, rfl, rfl, w0⟩ := open_int Try.underlying3 (hval 0 3 v0 rfl rfl) h0
  clear hA0 hval0
  refine (VmemFull_walk a0 W).mono fun e W' ⟨he, bel⟩ => ?_
  subst he
  exact ⟨_, rfl, _, _, _, [], _, [], hW', trodAll_mk1 (shut_bool Try.underlying4 _), (trodAll_cons_mk (Below.trod row_laidOut (by kernel_rfl) (of_decide_eq_true (by kernel_rfl)) k0 bel lt0) trodAll_mk0), rfl, bel.frame _, fun h => by cases h⟩
theorem VmemFull_over : Rows.vmemFullRow.holds Try.pinned (OpenSpec.ofChange Rows.vmemFullSpec) :=
  OpenClaim.holds_of_wide 6 Try.f6 rfl rfl rfl rfl rfl rfl rfl ⟨rfl, rfl, rfl, rfl, rfl⟩ rfl rfl rfl rfl rfl (by kernel_rfl) Try.func6 (by kernel_rfl)
    (of_decide_eq_true (by kernel_rfl)) (by unfold Func.isWrapper; first | (rw [if_pos (by decide +kernel)]; kernel_rfl) | (rw [if_neg (by decide +kernel)]; exact ⟨rfl, rfl⟩))
    (fun os started H enc _ => VmemFull_lifted os started H enc)
theorem VmemFull_holds : Rows.VmemFullSaid := VmemFull_over

end Go.Proofs.Ytdagfddhdnfbkaa
