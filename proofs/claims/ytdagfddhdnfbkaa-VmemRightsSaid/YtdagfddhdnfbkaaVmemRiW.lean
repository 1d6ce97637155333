/- The law VmemRights: its walk. -/
import Derived.Test.YtdagfddhdnfbkaaVmemRiP
import Derived.Test.YtdagfddhdnfbkaaRowNum
namespace Go.Proofs.Ytdagfddhdnfbkaa
open Go.ChangeShapes Go.WideShapes Go.ChangeAt Go.RowKit
open Go.ChangeMaps (open_string shut_string)
set_option linter.unusedVariables false
set_option linter.unusedSimpArgs false
open Go.Proofs.YtdagfddhdnfbkaaW.PrintWords
set_option maxHeartbeats 800000 in
theorem may_closure (g4 g5 g10 g11 : Nat) (fb sb : Bool) (A B right : Int) (w : World) (h4 : w.cell? ⟨g4, 0, none⟩ = some (.int .i64 A)) (h5 : w.cell? ⟨g5, 0, none⟩ = some (.int .i64 B)) (h10 : w.cell? ⟨g10, 0, none⟩ = some (.bool fb)) (h11 : w.cell? ⟨g11, 0, none⟩ = some (.bool sb)) :
    Calls Try.prog 27 #[.int .i64 right, .pointer (some ⟨g10, 0, none⟩), .pointer (some ⟨g4, 0, none⟩), .pointer (some ⟨g11, 0, none⟩), .pointer (some ⟨g5, 0, none⟩)] w fun e w' => e = .returned (.bool (mayX fb sb A B right)) ∧ w = w' := by
  unfold mayX
  cases fb with
  | false =>
    cases sb with
    | false =>
      go_enter Try.func27, Try.ntmps27
      go_wp2
      go_ret
      exact ⟨rfl, rfl⟩
    | true =>
      go_enter Try.func27, Try.ntmps27
      go_wp2
      go_ret
      exact ⟨rfl, rfl⟩
  | true =>
    cases hA : (bits .and .i64 A right != 0) with
    | false =>
      go_enter Try.func27, Try.ntmps27
      go_wp2
      go_ret
      exact ⟨rfl, rfl⟩
    | true =>
      cases sb with
      | false =>
        go_enter Try.func27, Try.ntmps27
        go_wp2
        go_ret
        exact ⟨rfl, rfl⟩
      | true =>
        go_enter Try.func27, Try.ntmps27
        go_wp2
        go_ret
        exact ⟨rfl, rfl⟩
theorem On.base {w0 w1 w : World} {bm : Nat} {M : AMem} (h : On w1 w bm M) (hb : Below w0.heap.size w0 w1) : On w0 w bm M := by
  obtain ⟨F, h1, h2, h3⟩ := h
  exact ⟨F, h1, fun b hF => Nat.le_trans hb.size (h2 b hF), hb.trans (h3.mono hb.size)⟩
theorem rights_base (w : World) (u v : Value) (t : TypeId) : Below w.heap.size w ((w.alloc (.cells #[u] t)).alloc (.cells #[v] t)).drew :=
  ((Below.alloc (Below.refl _ _) (Nat.le_refl _) _).alloc (by simp) _).drew
set_option maxHeartbeats 1600000 in
set_option maxRecDepth 100000 in
theorem VmemRights_few (a0 a1 a2 : Int) (A : Option Addr) (n c : Nat) (xs : List Int) (w : World) (hr : ReadsInt w .u8 A n xs) (hn : n = 0 ∨ 200 < n) :
    Calls Try.prog 8 #[.int .i64 a0, .int .i64 a1, .int .i64 a2, .slice A n c] w fun e w' => e = .returned (.bool true) ∧ Below w.heap.size w w' := by
  have hn63 := hr.2.1
  clear hr
  rcases hn with rfl | hn
  · go_enter Try.func8, Try.ntmps8
    go_wp2
    go_region
    go_wp2_with fail
    refine (OnNew 2 _).mono ?_
    rintro e w1 ⟨bm, rfl, HO⟩
    have HO1 := Aside0.mk (HO.base (rights_base w _ _ _))
    clear HO
    go_wp2_with fail
    refine (awake3_calls _).mono ?_
    rintro e w2 ⟨rfl, hb⟩
    have HB := Aside0.mk (HO1.out.below hb).out
    clear hb HO1
    go_wp2
    go_ret
    exact ⟨rfl, HB.out⟩
  · have d0 : (n == 0) = false := by rw [beq_eq_false_iff_ne]; omega
    have d1 : decide (200 < n) = true := decide_eq_true hn
    go_enter Try.func8, Try.ntmps8
    go_wp2
    go_region
    go_wp2_with fail
    refine (OnNew 2 _).mono ?_
    rintro e w1 ⟨bm, rfl, HO⟩
    have HO1 := Aside0.mk (HO.base (rights_base w _ _ _))
    clear HO
    go_wp2_with fail
    refine (awake3_calls _).mono ?_
    rintro e w2 ⟨rfl, hb⟩
    have HB := Aside0.mk (HO1.out.below hb).out
    clear hb HO1
    go_wp2
    go_ret
    exact ⟨rfl, HB.out⟩
set_option maxHeartbeats 6400000 in
set_option maxRecDepth 100000 in
theorem VmemRights_many (a0 a1 a2 : Int) (A : Option Addr) (n c : Nat) (xs : List Int) (w : World) (hr : ReadsInt w .u8 A n xs) (hnc : n ≤ c) (hby : Bytes xs) (hn : 1 ≤ n) (hn2 : n ≤ 200) :
    Calls Try.prog 8 #[.int .i64 a0, .int .i64 a1, .int .i64 a2, .slice A n c] w fun e w' => e = .returned (.bool true) ∧ Below w.heap.size w w' := by
  have hu := Try.underlying45
  have HR := Aside0.mk hr
  have HBY := Aside0.mk hby
  obtain ⟨pa, hpa, pa0, pa7⟩ : ∃ z : Int, bits .and .i64 a0 7 = z ∧ 0 ≤ z ∧ z ≤ 7 := ⟨_, rfl, and_i64 a0 7 (by decide)⟩
  obtain ⟨pb, hpb, pb0, pb7⟩ : ∃ z : Int, bits .and .i64 a1 7 = z ∧ 0 ≤ z ∧ z ≤ 7 := ⟨_, rfl, and_i64 a1 7 (by decide)⟩
  obtain ⟨q, hq1, hq⟩ := place_of a2 (8192 - n) (by omega)
  rw [show ((8192 - n : Nat) : Int) = 8192 - (n : Int) from by omega] at hq
  obtain ⟨s1, s2, s3⟩ := two_says pa pb pa0 pa7 pb0 pb7
  have S1 := Aside0.mk s1
  have S2 := Aside0.mk s2
  have S3 := Aside0.mk s3
  have RM := Aside0.mk (two_rm pa pb)
  have d0 : (n == 0) = false := by rw [beq_eq_false_iff_ne]; omega
  have d1 : decide (200 < n) = false := decide_eq_false (by omega)
  have d3 : ((n : Int) == 0) = false := by rw [beq_eq_false_iff_ne]; omega
  have d4 : decide (200 < (n : Int)) = false := decide_eq_false (by omega)
  have d2 : (8192 - (n : Int) == 0) = false := by rw [beq_eq_false_iff_ne]; omega
  clear hr hby s1 s2 s3
  go_enter Try.func8, Try.ntmps8
  go_wp2
  go_region
  go_wp2_with fail
  refine (OnNew 2 _).mono ?_
  rintro e w1 ⟨bm, rfl, HO⟩
  have HO1 := Aside0.mk (HO.base (rights_base w _ _ _))
  have hs := Sits.add (Sits.add (Sits.nil w) (cs := #[.int .i64 pa]) (t := 3) (by decide) (by decide)) (cs := #[.int .i64 pb]) (t := 3) (by decide) (by decide)
  rw [World.size_alloc] at hs
  have hs1 := Sits.below (w := ((w.alloc (.cells #[.int .i64 pa] 3)).alloc (.cells #[.int .i64 pb] 3)).drew) hs HO.out
  have HS1 := Aside0.mk hs1
  have b4 := hs1.blk w.heap.size _ _ (.tail _ (.head _))
  have c4 := blk_cell b4 0
  simp only [List.getElem?_toArray, List.getElem?_cons_zero] at c4
  clear HO hs hs1 b4
  have HM := Aside0.mk (OnMapK HO1.out 8192 1 pa (by decide))
  rw [S1.out] at HM
  go_wp2_with fail
  refine HM.out.mono ?_
  rintro e w2 ⟨rfl, HO, HK⟩
  have HO2 := Aside0.mk HO
  have HS2 := Aside0.mk (HS1.out.keep HK)
  have b5 := HS2.out.blk (w.heap.size + 1) _ _ (.head _)
  have c5 := blk_cell b5 0
  simp only [List.getElem?_toArray, List.getElem?_cons_zero] at c5
  have HM2 := Aside0.mk (OnMapK HO 12288 1 pb (by decide))
  rw [S2.out, S3.out] at HM2
  clear HO HO1 HS1 HK HM c4 b5
  go_wp2_with fail
  refine HM2.out.mono ?_
  rintro e w3 ⟨rfl, HO, HK⟩
  have HO3 := Aside0.mk HO
  have HS3 := Aside0.mk (HS2.out.keep HK)
  clear HO HK HM2 HO2 HS2 c5 S1 S2 S3
  obtain ⟨M2, W, a1', a4', hsays⟩ := rights_says pa pb (by omega) (by omega) q n xs HR.out.1 hn hn2 (by omega)
  obtain ⟨fb, hfb⟩ : ∃ b : Bool, decide ((q : Int) < 4096) = b := ⟨_, rfl⟩
  obtain ⟨sb, hsb⟩ : ∃ b : Bool, decide (4096 < (q : Int) + n) = b := ⟨_, rfl⟩
  have c43 := blk_cell (HS3.out.blk w.heap.size _ _ (.tail _ (.head _))) 0
  have hz3 := blk_lt (HS3.out.blk w.heap.size _ _ (.tail _ (.head _)))
  simp only [List.getElem?_toArray, List.getElem?_cons_zero] at c43
  obtain ⟨wA, hwA⟩ : ∃ b : Bool, (bits .and .i64 pa 2 != 0) = b := ⟨_, rfl⟩
  obtain ⟨mw, hmw⟩ : ∃ b : Bool, mayX fb sb pa pb 2 = b := ⟨_, rfl⟩
  obtain ⟨mr, hmr⟩ : ∃ b : Bool, mayX fb sb pa pb 1 = b := ⟨_, rfl⟩
  obtain ⟨mx, hmx⟩ : ∃ b : Bool, mayX fb sb pa pb 4 = b := ⟨_, rfl⟩
  have hfa := hsays.f2
  rw [hfb, hsb, hwA, hmw] at hfa
  have FA := Aside0.mk hfa
  rw [hfb, hsb, hmw, hmr, hmx] at hsays
  have H := Aside0.mk hsays
  have MW := Aside0.mk hmw
  have MR := Aside0.mk hmr
  have MX := Aside0.mk hmx
  clear hsays hfa hmw hmr hmx
  obtain ⟨wh, hwh⟩ : ∃ x : Int, (if (fb && wA) = true then 12288 else 8192 + (q : Int)) = x := ⟨_, rfl⟩
  have HWH := Aside0.mk hwh
  clear hwh
  go_upto_region 11 with (fail)
  go_cut [76] (fun s76 wx => s76 = .bool (fb && wA) ∧ wx = (w3.alloc (.cells #[.bool fb] 4)).alloc (.cells #[.bool sb] 4))
  case first =>
    cases fb with
    | false =>
      go_wp2
      go_meet
      exact ⟨rfl, rfl⟩
    | true =>
      go_wp2
      go_meet
      exact ⟨rfl, rfl⟩
  case rest =>
    obtain ⟨rfl, rfl⟩ := hcut
    go_upto_if 76 with (fail)
    go_cut [13] (fun s13 wx => s13 = .int .u64 wh ∧ wx = (w3.alloc (.cells #[.bool fb] 4)).alloc (.cells #[.bool sb] 4))
    case first =>
      cases hc9 : (fb && wA) with
      | false =>
        have e9 := HWH.out
        rw [hc9, if_neg (by decide)] at e9
        go_wp2
        go_meet
        exact ⟨by rw [e9], rfl⟩
      | true =>
        have e9 := HWH.out
        rw [hc9, if_pos rfl] at e9
        go_wp2
        go_meet
        exact ⟨by rw [e9], rfl⟩
    case rest =>
      obtain ⟨rfl, rfl⟩ := hcut
      have HW := Aside0.mk (OnWriteArg (M := twoM pa pb) ((HO3.out.alloc_ (.cells #[.bool fb] 4)).alloc_ (.cells #[.bool sb] 4)) (8192 + (q : Int)) xs A n c HR.out hnc HBY.out (by omega) (by omega))
      rw [FA.out, HWH.out, H.out.m2] at HW
      have hs := Sits.add (Sits.add HS3.out (cs := #[.bool fb]) (t := 4) (by decide) (by decide)) (cs := #[.bool sb]) (t := 4) (by decide) (by decide)
      rw [World.size_alloc] at hs
      have HS5 := Aside0.mk hs
      clear hs HO3 HS3 c43 hz3 FA HWH
      cases mw with
      | true =>
        rw [if_pos rfl] at HW
        go_wp2_with fail
        refine HW.out.mono ?_
        rintro e w4 ⟨rfl, HO, HK⟩
        have HO4 := Aside0.mk HO
        have hs := Sits.add (HS5.out.keep HK) (cs := #[.int .i64 0, .int .u64 0]) (t := 45) (by decide) (by decide)
        have HS6 := Aside0.mk hs
        clear HO HK HW HS5 hs
        go_wp2
        obtain ⟨w6, hw6⟩ : ∃ w6, w4.alloc (.cells #[.int .i64 0, .int .u64 0] 45) = w6 := ⟨_, rfl⟩
        rw [hw6] at HS6 ⊢
        have HO6 : Aside0 (On w w6 bm M2) := ⟨hw6 ▸ HO4.out.alloc_ _⟩
        clear hw6 HO4
        have cA := blk_cell (HS6.out.blk w.heap.size _ _ (.tail _ (.tail _ (.tail _ (.tail _ (.head _)))))) 0
        have cB := blk_cell (HS6.out.blk (w.heap.size + 1) _ _ (.tail _ (.tail _ (.tail _ (.head _))))) 0
        have cF := blk_cell (HS6.out.blk w3.heap.size _ _ (.tail _ (.tail _ (.head _)))) 0
        have cS := blk_cell (HS6.out.blk (w3.heap.size + 1) _ _ (.tail _ (.head _))) 0
        have cK := blk_cell (HS6.out.blk w4.heap.size _ _ (.head _)) 0
        have cK1 := blk_cell (HS6.out.blk w4.heap.size _ _ (.head _)) 1
        simp only [List.getElem?_toArray, List.getElem?_cons_zero, List.getElem?_cons_succ] at cA cB cF cS cK cK1
        have eg : ∀ args w, (callFunc 27 args).run Try.prog w = .ok (.enter 27 args) w := fun _ _ => rfl
        have hm2 := fun m => quiet_left (n := m) (may_closure w.heap.size (w.heap.size + 1) w3.heap.size (w3.heap.size + 1) fb sb pa pb 2 (w6.drewN m) cA cB cF cS)
        rw [MW.out] at hm2
        go_quiet ((go_at_call 27; exact hm2 _))
        clear hm2 cA cB cF cS cK cK1
        have hmk := print_make (P := Try.prog) 43 5 .u8 1 Try.underlying43 (by kernel_rfl) (by decide) n (by omega)
        have hz7 : ((w6.drewN nq).alloc (.cells (madeCells #[Value.int .u8 0] n) 5)).ownsRow w.heap.size 5 1 (.slice (some ⟨w6.heap.size, 0, none⟩) n n) n (nums .u8 (List.replicate n 0)) := own_made (w6.drewN nq) w.heap.size 5 .u8 n (by have := HO6.out.out.size; simp; omega) (by omega)
        have ho7 := (HO6.out.drew nq).alloc_ (.cells (madeCells #[Value.int .u8 0] n) 5)
        have hs7 := (HS6.out.drewN_ nq).alloc_ (.cells (madeCells #[Value.int .u8 0] n) 5)
        obtain ⟨w7, hw7⟩ : ∃ w7, (w6.drewN nq).alloc (.cells (madeCells #[Value.int .u8 0] n) 5) = w7 := ⟨_, rfl⟩
        rw [hw7] at hz7 ho7 hs7
        have HZ7 := Aside0.mk hz7
        have HO7 := Aside0.mk ho7
        have HS7 := Aside0.mk hs7
        have HW7 := Aside0.mk hw7
        clear hz7 ho7 hs7 hw7 HO6 HS6
        have cA7 := blk_cell (HS7.out.blk w.heap.size _ _ (.tail _ (.tail _ (.tail _ (.tail _ (.head _)))))) 0
        have cB7 := blk_cell (HS7.out.blk (w.heap.size + 1) _ _ (.tail _ (.tail _ (.tail _ (.head _))))) 0
        have cF7 := blk_cell (HS7.out.blk w3.heap.size _ _ (.tail _ (.tail _ (.head _)))) 0
        have cS7 := blk_cell (HS7.out.blk (w3.heap.size + 1) _ _ (.tail _ (.head _))) 0
        simp only [List.getElem?_toArray, List.getElem?_cons_zero, List.getElem?_cons_succ] at cA7 cB7 cF7 cS7
        have hm7 := may_closure w.heap.size (w.heap.size + 1) w3.heap.size (w3.heap.size + 1) fb sb pa pb 2 w7 cA7 cB7 cF7 cS7
        rw [MW.out] at hm7
        have HM7 := Aside0.mk hm7
        clear hm7 cA7 cB7 cF7 cS7
        go_wp2_with fail
        rw [HW7.out]
        refine HM7.out.mono ?_
        rintro e w77 ⟨rfl, rfl⟩
        clear hmk HW7 HM7
        have HP := OnPeek HO7.out (8192 + (q : Int)) n (by omega) (by omega)
        rw [H.out.pk, H.out.pl] at HP
        have HP7 := Aside0.mk HP
        clear HP
        go_wp2_with fail
        refine HP7.out.mono ?_
        rintro e w8 ⟨vx, rfl, hx, HO, HB⟩
        have HX8 := Aside0.mk (own_weaken hx (base' := w.heap.size) HO7.out.out.size)
        have HO8 := Aside0.mk HO
        have HS8 := Aside0.mk (HS7.out.below HB)
        have HZ8 := Aside0.mk (own_below HZ7.out HB)
        clear hx HO HB HP7 HO7 HS7 HZ7
        have HQ := OnRead HO8.out (8192 + (q : Int)) n (by omega) (by omega)
        rw [H.out.f1, H.out.m1, H.out.r1] at HQ
        have HQ8 := Aside0.mk HQ
        clear HQ
        cases mr with
        | false =>
          rw [if_neg (show ¬ (false = true) by decide), if_neg (show ¬ (false = true) by decide)] at HQ8
          go_wp2_with fail
          refine HQ8.out.mono ?_
          rintro e w9 ⟨vy, rfl, hy, HO, HK⟩
          have HY9 := Aside0.mk (own_weaken hy (base' := w.heap.size) HO8.out.out.size)
          have HX9 := Aside0.mk (HK.own (by decide) (by decide) HX8.out)
          have HZ9 := Aside0.mk (HK.own (by decide) (by decide) HZ8.out)
          have HO9 := Aside0.mk HO
          have HS9 := Aside0.mk (Sits.add (HS8.out.keep HK) (cs := #[.int .i64 2, .int .u64 a1']) (t := 45) (by decide) (by decide))
          clear hy HO HK HQ8 HO8 HS8 HX8 HZ8
          have HQ := OnFetch (HO9.out.alloc_ (.cells #[.int .i64 2, .int .u64 a1'] 45)) (8192 + (q : Int)) n (by omega) (by omega)
          rw [H.out.f4, H.out.m4, H.out.r4] at HQ
          have HQ9 := Aside0.mk HQ
          clear HQ
          cases mx with
          | false =>
            rw [if_neg (show ¬ (false = true) by decide), if_neg (show ¬ (false = true) by decide)] at HQ9
            go_wp2_with fail
            refine HQ9.out.mono ?_
            rintro e w10 ⟨vz, rfl, hz, HO, HK⟩
            have HV10 := own_weaken hz (base' := w.heap.size) (by have := HO9.out.out.size; simp; omega)
            have HY10 := HK.own (by decide) (by decide) (HY9.out.alloc _)
            have HX10 := HK.own (by decide) (by decide) (HX9.out.alloc _)
            have HZ10 := HK.own (by decide) (by decide) (HZ9.out.alloc _)
            have hs10 := Sits.add (HS9.out.keep HK) (cs := #[.int .i64 4, .int .u64 a4']) (t := 45) (by decide) (by decide)
            have HO10 := HO.alloc_ (.cells #[.int .i64 4, .int .u64 a4'] 45)
            have kV := HV10.alloc (.cells #[.int .i64 4, .int .u64 a4'] 45)
            have kY := HY10.alloc (.cells #[.int .i64 4, .int .u64 a4'] 45)
            have kX := HX10.alloc (.cells #[.int .i64 4, .int .u64 a4'] 45)
            have kZ := HZ10.alloc (.cells #[.int .i64 4, .int .u64 a4'] 45)
            clear hz HO HK HQ9 HO9 HS9 HY9 HX9 HZ9 HV10 HY10 HX10 HZ10
            have HS11 := Aside0.mk hs10
            have HO11 := Aside0.mk HO10
            have KV := Aside0.mk kV
            have KY := Aside0.mk kY
            have KX := Aside0.mk kX
            have KZ := Aside0.mk kZ
            clear hs10 HO10 kV kY kX kZ
            go_wp2
            obtain ⟨w11, hw11⟩ : ∃ w11, w10.alloc (.cells #[.int .i64 4, .int .u64 a4'] 45) = w11 := ⟨_, rfl⟩
            rw [hw11] at HS11 HO11 KV KY KX KZ ⊢
            clear hw11
            have cA1 := blk_cell (HS11.out.blk w.heap.size _ _ (.tail _ (.tail _ (.tail _ (.tail _ (.tail _ (.tail _ (.head _)))))))) 0
            have cB1 := blk_cell (HS11.out.blk (w.heap.size + 1) _ _ (.tail _ (.tail _ (.tail _ (.tail _ (.tail _ (.head _))))))) 0
            have cF1 := blk_cell (HS11.out.blk w3.heap.size _ _ (.tail _ (.tail _ (.tail _ (.tail _ (.head _)))))) 0
            have cS1 := blk_cell (HS11.out.blk (w3.heap.size + 1) _ _ (.tail _ (.tail _ (.tail _ (.head _))))) 0
            have cK1 := blk_cell (HS11.out.blk w4.heap.size _ _ (.tail _ (.tail _ (.head _)))) 0
            have cG1 := blk_cell (HS11.out.blk w9.heap.size _ _ (.tail _ (.head _))) 0
            have cH1 := blk_cell (HS11.out.blk w10.heap.size _ _ (.head _)) 0
            simp only [List.getElem?_toArray, List.getElem?_cons_zero, List.getElem?_cons_succ] at cA1 cB1 cF1 cS1 cK1 cG1 cH1
            have hm1 := fun m => quiet_left (n := m) (may_closure w.heap.size (w.heap.size + 1) w3.heap.size (w3.heap.size + 1) fb sb pa pb 1 (w11.drewN m) cA1 cB1 cF1 cS1)
            rw [MR.out] at hm1
            have hm4 := fun m => quiet_left (n := m) (may_closure w.heap.size (w.heap.size + 1) w3.heap.size (w3.heap.size + 1) fb sb pa pb 4 (w11.drewN m) cA1 cB1 cF1 cS1)
            rw [MX.out] at hm4
            have gX := fun m => own_string (w := w11.drewN m) Try.underlying43 Try.underlying5 Try.underlying9 KX.out
            have gY := fun m => own_string (w := w11.drewN m) Try.underlying43 Try.underlying5 Try.underlying9 KY.out
            have gV := fun m => own_string (w := w11.drewN m) Try.underlying43 Try.underlying5 Try.underlying9 KV.out
            have gZ := fun m => string_of_reads (w := w11.drewN m) (c := c) Try.underlying43 Try.underlying5 Try.underlying9 (HR.out.below (HO11.out.drew m).out)
            rw [← H.out.wy rfl] at gZ
            generalize strOfNums W = s at gX gY gV gZ
            go_quiet ((first | (go_at_call_of 27 (Value.int .i64 1); exact hm1 _) | (go_at_call_of 27 (Value.int .i64 4); exact hm4 _)))
            clear hm1 hm4 cA1 cB1 cF1 cS1 cK1
            go_wp2_with fail
            refine (awake3_calls _).mono ?_
            rintro e w12 ⟨rfl, hb⟩
            have HBZ := Aside0.mk ((HO11.out.drew _).below hb).out
            clear hb
            go_wp2
            go_ret
            exact ⟨rfl, HBZ.out⟩
          | true =>
            rw [if_pos rfl, if_pos rfl] at HQ9
            go_wp2_with fail
            refine HQ9.out.mono ?_
            rintro e w10 ⟨vz, rfl, hz, HO, HK⟩
            have HV10 := own_weaken hz (base' := w.heap.size) (by have := HO9.out.out.size; simp; omega)
            have HY10 := HK.own (by decide) (by decide) (HY9.out.alloc _)
            have HX10 := HK.own (by decide) (by decide) (HX9.out.alloc _)
            have HZ10 := HK.own (by decide) (by decide) (HZ9.out.alloc _)
            have hs10 := Sits.add (HS9.out.keep HK) (cs := #[.int .i64 0, .int .u64 0]) (t := 45) (by decide) (by decide)
            have HO10 := HO.alloc_ (.cells #[.int .i64 0, .int .u64 0] 45)
            have kV := HV10.alloc (.cells #[.int .i64 0, .int .u64 0] 45)
            have kY := HY10.alloc (.cells #[.int .i64 0, .int .u64 0] 45)
            have kX := HX10.alloc (.cells #[.int .i64 0, .int .u64 0] 45)
            have kZ := HZ10.alloc (.cells #[.int .i64 0, .int .u64 0] 45)
            clear hz HO HK HQ9 HO9 HS9 HY9 HX9 HZ9 HV10 HY10 HX10 HZ10
            have HS11 := Aside0.mk hs10
            have HO11 := Aside0.mk HO10
            have KV := Aside0.mk kV
            have KY := Aside0.mk kY
            have KX := Aside0.mk kX
            have KZ := Aside0.mk kZ
            clear hs10 HO10 kV kY kX kZ
            go_wp2
            obtain ⟨w11, hw11⟩ : ∃ w11, w10.alloc (.cells #[.int .i64 0, .int .u64 0] 45) = w11 := ⟨_, rfl⟩
            rw [hw11] at HS11 HO11 KV KY KX KZ ⊢
            clear hw11
            have cA1 := blk_cell (HS11.out.blk w.heap.size _ _ (.tail _ (.tail _ (.tail _ (.tail _ (.tail _ (.tail _ (.head _)))))))) 0
            have cB1 := blk_cell (HS11.out.blk (w.heap.size + 1) _ _ (.tail _ (.tail _ (.tail _ (.tail _ (.tail _ (.head _))))))) 0
            have cF1 := blk_cell (HS11.out.blk w3.heap.size _ _ (.tail _ (.tail _ (.tail _ (.tail _ (.head _)))))) 0
            have cS1 := blk_cell (HS11.out.blk (w3.heap.size + 1) _ _ (.tail _ (.tail _ (.tail _ (.head _))))) 0
            have cK1 := blk_cell (HS11.out.blk w4.heap.size _ _ (.tail _ (.tail _ (.head _)))) 0
            have cG1 := blk_cell (HS11.out.blk w9.heap.size _ _ (.tail _ (.head _))) 0
            have cH1 := blk_cell (HS11.out.blk w10.heap.size _ _ (.head _)) 0
            simp only [List.getElem?_toArray, List.getElem?_cons_zero, List.getElem?_cons_succ] at cA1 cB1 cF1 cS1 cK1 cG1 cH1
            have hm1 := fun m => quiet_left (n := m) (may_closure w.heap.size (w.heap.size + 1) w3.heap.size (w3.heap.size + 1) fb sb pa pb 1 (w11.drewN m) cA1 cB1 cF1 cS1)
            rw [MR.out] at hm1
            have hm4 := fun m => quiet_left (n := m) (may_closure w.heap.size (w.heap.size + 1) w3.heap.size (w3.heap.size + 1) fb sb pa pb 4 (w11.drewN m) cA1 cB1 cF1 cS1)
            rw [MX.out] at hm4
            have gX := fun m => own_string (w := w11.drewN m) Try.underlying43 Try.underlying5 Try.underlying9 KX.out
            have gY := fun m => own_string (w := w11.drewN m) Try.underlying43 Try.underlying5 Try.underlying9 KY.out
            have gV := fun m => own_string (w := w11.drewN m) Try.underlying43 Try.underlying5 Try.underlying9 KV.out
            have gZ := fun m => string_of_reads (w := w11.drewN m) (c := c) Try.underlying43 Try.underlying5 Try.underlying9 (HR.out.below (HO11.out.drew m).out)
            rw [← H.out.wy rfl] at gZ
            generalize strOfNums W = s at gX gY gV gZ
            go_quiet ((first | (go_at_call_of 27 (Value.int .i64 1); exact hm1 _) | (go_at_call_of 27 (Value.int .i64 4); exact hm4 _)))
            clear hm1 hm4 cA1 cB1 cF1 cS1 cK1
            go_wp2_with fail
            refine (awake3_calls _).mono ?_
            rintro e w12 ⟨rfl, hb⟩
            have HBZ := Aside0.mk ((HO11.out.drew _).below hb).out
            clear hb
            go_wp2
            go_ret
            exact ⟨rfl, HBZ.out⟩
        | true =>
          rw [if_pos rfl, if_pos rfl] at HQ8
          go_wp2_with fail
          refine HQ8.out.mono ?_
          rintro e w9 ⟨vy, rfl, hy, HO, HK⟩
          have HY9 := Aside0.mk (own_weaken hy (base' := w.heap.size) HO8.out.out.size)
          have HX9 := Aside0.mk (HK.own (by decide) (by decide) HX8.out)
          have HZ9 := Aside0.mk (HK.own (by decide) (by decide) HZ8.out)
          have HO9 := Aside0.mk HO
          have HS9 := Aside0.mk (Sits.add (HS8.out.keep HK) (cs := #[.int .i64 0, .int .u64 0]) (t := 45) (by decide) (by decide))
          clear hy HO HK HQ8 HO8 HS8 HX8 HZ8
          have HQ := OnFetch (HO9.out.alloc_ (.cells #[.int .i64 0, .int .u64 0] 45)) (8192 + (q : Int)) n (by omega) (by omega)
          rw [H.out.f4, H.out.m4, H.out.r4] at HQ
          have HQ9 := Aside0.mk HQ
          clear HQ
          cases mx with
          | false =>
            rw [if_neg (show ¬ (false = true) by decide), if_neg (show ¬ (false = true) by decide)] at HQ9
            go_wp2_with fail
            refine HQ9.out.mono ?_
            rintro e w10 ⟨vz, rfl, hz, HO, HK⟩
            have HV10 := own_weaken hz (base' := w.heap.size) (by have := HO9.out.out.size; simp; omega)
            have HY10 := HK.own (by decide) (by decide) (HY9.out.alloc _)
            have HX10 := HK.own (by decide) (by decide) (HX9.out.alloc _)
            have HZ10 := HK.own (by decide) (by decide) (HZ9.out.alloc _)
            have hs10 := Sits.add (HS9.out.keep HK) (cs := #[.int .i64 4, .int .u64 a4']) (t := 45) (by decide) (by decide)
            have HO10 := HO.alloc_ (.cells #[.int .i64 4, .int .u64 a4'] 45)
            have kV := HV10.alloc (.cells #[.int .i64 4, .int .u64 a4'] 45)
            have kY := HY10.alloc (.cells #[.int .i64 4, .int .u64 a4'] 45)
            have kX := HX10.alloc (.cells #[.int .i64 4, .int .u64 a4'] 45)
            have kZ := HZ10.alloc (.cells #[.int .i64 4, .int .u64 a4'] 45)
            clear hz HO HK HQ9 HO9 HS9 HY9 HX9 HZ9 HV10 HY10 HX10 HZ10
            have HS11 := Aside0.mk hs10
            have HO11 := Aside0.mk HO10
            have KV := Aside0.mk kV
            have KY := Aside0.mk kY
            have KX := Aside0.mk kX
            have KZ := Aside0.mk kZ
            clear hs10 HO10 kV kY kX kZ
            go_wp2
            obtain ⟨w11, hw11⟩ : ∃ w11, w10.alloc (.cells #[.int .i64 4, .int .u64 a4'] 45) = w11 := ⟨_, rfl⟩
            rw [hw11] at HS11 HO11 KV KY KX KZ ⊢
            clear hw11
            have cA1 := blk_cell (HS11.out.blk w.heap.size _ _ (.tail _ (.tail _ (.tail _ (.tail _ (.tail _ (.tail _ (.head _)))))))) 0
            have cB1 := blk_cell (HS11.out.blk (w.heap.size + 1) _ _ (.tail _ (.tail _ (.tail _ (.tail _ (.tail _ (.head _))))))) 0
            have cF1 := blk_cell (HS11.out.blk w3.heap.size _ _ (.tail _ (.tail _ (.tail _ (.tail _ (.head _)))))) 0
            have cS1 := blk_cell (HS11.out.blk (w3.heap.size + 1) _ _ (.tail _ (.tail _ (.tail _ (.head _))))) 0
            have cK1 := blk_cell (HS11.out.blk w4.heap.size _ _ (.tail _ (.tail _ (.head _)))) 0
            have cG1 := blk_cell (HS11.out.blk w9.heap.size _ _ (.tail _ (.head _))) 0
            have cH1 := blk_cell (HS11.out.blk w10.heap.size _ _ (.head _)) 0
            simp only [List.getElem?_toArray, List.getElem?_cons_zero, List.getElem?_cons_succ] at cA1 cB1 cF1 cS1 cK1 cG1 cH1
            have hm1 := fun m => quiet_left (n := m) (may_closure w.heap.size (w.heap.size + 1) w3.heap.size (w3.heap.size + 1) fb sb pa pb 1 (w11.drewN m) cA1 cB1 cF1 cS1)
            rw [MR.out] at hm1
            have hm4 := fun m => quiet_left (n := m) (may_closure w.heap.size (w.heap.size + 1) w3.heap.size (w3.heap.size + 1) fb sb pa pb 4 (w11.drewN m) cA1 cB1 cF1 cS1)
            rw [MX.out] at hm4
            have gX := fun m => own_string (w := w11.drewN m) Try.underlying43 Try.underlying5 Try.underlying9 KX.out
            have gY := fun m => own_string (w := w11.drewN m) Try.underlying43 Try.underlying5 Try.underlying9 KY.out
            have gV := fun m => own_string (w := w11.drewN m) Try.underlying43 Try.underlying5 Try.underlying9 KV.out
            have gZ := fun m => string_of_reads (w := w11.drewN m) (c := c) Try.underlying43 Try.underlying5 Try.underlying9 (HR.out.below (HO11.out.drew m).out)
            rw [← H.out.wy rfl] at gZ
            generalize strOfNums W = s at gX gY gV gZ
            go_quiet ((first | (go_at_call_of 27 (Value.int .i64 1); exact hm1 _) | (go_at_call_of 27 (Value.int .i64 4); exact hm4 _)))
            clear hm1 hm4 cA1 cB1 cF1 cS1 cK1
            go_wp2_with fail
            refine (awake3_calls _).mono ?_
            rintro e w12 ⟨rfl, hb⟩
            have HBZ := Aside0.mk ((HO11.out.drew _).below hb).out
            clear hb
            go_wp2
            go_ret
            exact ⟨rfl, HBZ.out⟩
          | true =>
            rw [if_pos rfl, if_pos rfl] at HQ9
            go_wp2_with fail
            refine HQ9.out.mono ?_
            rintro e w10 ⟨vz, rfl, hz, HO, HK⟩
            have HV10 := own_weaken hz (base' := w.heap.size) (by have := HO9.out.out.size; simp; omega)
            have HY10 := HK.own (by decide) (by decide) (HY9.out.alloc _)
            have HX10 := HK.own (by decide) (by decide) (HX9.out.alloc _)
            have HZ10 := HK.own (by decide) (by decide) (HZ9.out.alloc _)
            have hs10 := Sits.add (HS9.out.keep HK) (cs := #[.int .i64 0, .int .u64 0]) (t := 45) (by decide) (by decide)
            have HO10 := HO.alloc_ (.cells #[.int .i64 0, .int .u64 0] 45)
            have kV := HV10.alloc (.cells #[.int .i64 0, .int .u64 0] 45)
            have kY := HY10.alloc (.cells #[.int .i64 0, .int .u64 0] 45)
            have kX := HX10.alloc (.cells #[.int .i64 0, .int .u64 0] 45)
            have kZ := HZ10.alloc (.cells #[.int .i64 0, .int .u64 0] 45)
            clear hz HO HK HQ9 HO9 HS9 HY9 HX9 HZ9 HV10 HY10 HX10 HZ10
            have HS11 := Aside0.mk hs10
            have HO11 := Aside0.mk HO10
            have KV := Aside0.mk kV
            have KY := Aside0.mk kY
            have KX := Aside0.mk kX
            have KZ := Aside0.mk kZ
            clear hs10 HO10 kV kY kX kZ
            go_wp2
            obtain ⟨w11, hw11⟩ : ∃ w11, w10.alloc (.cells #[.int .i64 0, .int .u64 0] 45) = w11 := ⟨_, rfl⟩
            rw [hw11] at HS11 HO11 KV KY KX KZ ⊢
            clear hw11
            have cA1 := blk_cell (HS11.out.blk w.heap.size _ _ (.tail _ (.tail _ (.tail _ (.tail _ (.tail _ (.tail _ (.head _)))))))) 0
            have cB1 := blk_cell (HS11.out.blk (w.heap.size + 1) _ _ (.tail _ (.tail _ (.tail _ (.tail _ (.tail _ (.head _))))))) 0
            have cF1 := blk_cell (HS11.out.blk w3.heap.size _ _ (.tail _ (.tail _ (.tail _ (.tail _ (.head _)))))) 0
            have cS1 := blk_cell (HS11.out.blk (w3.heap.size + 1) _ _ (.tail _ (.tail _ (.tail _ (.head _))))) 0
            have cK1 := blk_cell (HS11.out.blk w4.heap.size _ _ (.tail _ (.tail _ (.head _)))) 0
            have cG1 := blk_cell (HS11.out.blk w9.heap.size _ _ (.tail _ (.head _))) 0
            have cH1 := blk_cell (HS11.out.blk w10.heap.size _ _ (.head _)) 0
            simp only [List.getElem?_toArray, List.getElem?_cons_zero, List.getElem?_cons_succ] at cA1 cB1 cF1 cS1 cK1 cG1 cH1
            have hm1 := fun m => quiet_left (n := m) (may_closure w.heap.size (w.heap.size + 1) w3.heap.size (w3.heap.size + 1) fb sb pa pb 1 (w11.drewN m) cA1 cB1 cF1 cS1)
            rw [MR.out] at hm1
            have hm4 := fun m => quiet_left (n := m) (may_closure w.heap.size (w.heap.size + 1) w3.heap.size (w3.heap.size + 1) fb sb pa pb 4 (w11.drewN m) cA1 cB1 cF1 cS1)
            rw [MX.out] at hm4
            have gX := fun m => own_string (w := w11.drewN m) Try.underlying43 Try.underlying5 Try.underlying9 KX.out
            have gY := fun m => own_string (w := w11.drewN m) Try.underlying43 Try.underlying5 Try.underlying9 KY.out
            have gV := fun m => own_string (w := w11.drewN m) Try.underlying43 Try.underlying5 Try.underlying9 KV.out
            have gZ := fun m => string_of_reads (w := w11.drewN m) (c := c) Try.underlying43 Try.underlying5 Try.underlying9 (HR.out.below (HO11.out.drew m).out)
            rw [← H.out.wy rfl] at gZ
            generalize strOfNums W = s at gX gY gV gZ
            go_quiet ((first | (go_at_call_of 27 (Value.int .i64 1); exact hm1 _) | (go_at_call_of 27 (Value.int .i64 4); exact hm4 _)))
            clear hm1 hm4 cA1 cB1 cF1 cS1 cK1
            go_wp2_with fail
            refine (awake3_calls _).mono ?_
            rintro e w12 ⟨rfl, hb⟩
            have HBZ := Aside0.mk ((HO11.out.drew _).below hb).out
            clear hb
            go_wp2
            go_ret
            exact ⟨rfl, HBZ.out⟩
      | false =>
        rw [if_neg (show ¬ (false = true) by decide)] at HW
        go_wp2_with fail
        refine HW.out.mono ?_
        rintro e w4 ⟨rfl, HO, HK⟩
        have HO4 := Aside0.mk HO
        have hs := Sits.add (HS5.out.keep HK) (cs := #[.int .i64 3, .int .u64 wh]) (t := 45) (by decide) (by decide)
        have HS6 := Aside0.mk hs
        clear HO HK HW HS5 hs
        go_wp2
        obtain ⟨w6, hw6⟩ : ∃ w6, w4.alloc (.cells #[.int .i64 3, .int .u64 wh] 45) = w6 := ⟨_, rfl⟩
        rw [hw6] at HS6 ⊢
        have HO6 : Aside0 (On w w6 bm M2) := ⟨hw6 ▸ HO4.out.alloc_ _⟩
        clear hw6 HO4
        have cA := blk_cell (HS6.out.blk w.heap.size _ _ (.tail _ (.tail _ (.tail _ (.tail _ (.head _)))))) 0
        have cB := blk_cell (HS6.out.blk (w.heap.size + 1) _ _ (.tail _ (.tail _ (.tail _ (.head _))))) 0
        have cF := blk_cell (HS6.out.blk w3.heap.size _ _ (.tail _ (.tail _ (.head _)))) 0
        have cS := blk_cell (HS6.out.blk (w3.heap.size + 1) _ _ (.tail _ (.head _))) 0
        have cK := blk_cell (HS6.out.blk w4.heap.size _ _ (.head _)) 0
        have cK1 := blk_cell (HS6.out.blk w4.heap.size _ _ (.head _)) 1
        simp only [List.getElem?_toArray, List.getElem?_cons_zero, List.getElem?_cons_succ] at cA cB cF cS cK cK1
        have eg : ∀ args w, (callFunc 27 args).run Try.prog w = .ok (.enter 27 args) w := fun _ _ => rfl
        have hm2 := fun m => quiet_left (n := m) (may_closure w.heap.size (w.heap.size + 1) w3.heap.size (w3.heap.size + 1) fb sb pa pb 2 (w6.drewN m) cA cB cF cS)
        rw [MW.out] at hm2
        go_quiet ((go_at_call 27; exact hm2 _))
        clear hm2 cA cB cF cS cK cK1
        have hmk := print_make (P := Try.prog) 43 5 .u8 1 Try.underlying43 (by kernel_rfl) (by decide) n (by omega)
        have hz7 : ((w6.drewN nq).alloc (.cells (madeCells #[Value.int .u8 0] n) 5)).ownsRow w.heap.size 5 1 (.slice (some ⟨w6.heap.size, 0, none⟩) n n) n (nums .u8 (List.replicate n 0)) := own_made (w6.drewN nq) w.heap.size 5 .u8 n (by have := HO6.out.out.size; simp; omega) (by omega)
        have ho7 := (HO6.out.drew nq).alloc_ (.cells (madeCells #[Value.int .u8 0] n) 5)
        have hs7 := (HS6.out.drewN_ nq).alloc_ (.cells (madeCells #[Value.int .u8 0] n) 5)
        obtain ⟨w7, hw7⟩ : ∃ w7, (w6.drewN nq).alloc (.cells (madeCells #[Value.int .u8 0] n) 5) = w7 := ⟨_, rfl⟩
        rw [hw7] at hz7 ho7 hs7
        have HZ7 := Aside0.mk hz7
        have HO7 := Aside0.mk ho7
        have HS7 := Aside0.mk hs7
        have HW7 := Aside0.mk hw7
        clear hz7 ho7 hs7 hw7 HO6 HS6
        have cA7 := blk_cell (HS7.out.blk w.heap.size _ _ (.tail _ (.tail _ (.tail _ (.tail _ (.head _)))))) 0
        have cB7 := blk_cell (HS7.out.blk (w.heap.size + 1) _ _ (.tail _ (.tail _ (.tail _ (.head _))))) 0
        have cF7 := blk_cell (HS7.out.blk w3.heap.size _ _ (.tail _ (.tail _ (.head _)))) 0
        have cS7 := blk_cell (HS7.out.blk (w3.heap.size + 1) _ _ (.tail _ (.head _))) 0
        simp only [List.getElem?_toArray, List.getElem?_cons_zero, List.getElem?_cons_succ] at cA7 cB7 cF7 cS7
        have hm7 := may_closure w.heap.size (w.heap.size + 1) w3.heap.size (w3.heap.size + 1) fb sb pa pb 2 w7 cA7 cB7 cF7 cS7
        rw [MW.out] at hm7
        have HM7 := Aside0.mk hm7
        clear hm7 cA7 cB7 cF7 cS7
        go_wp2_with fail
        rw [HW7.out]
        refine HM7.out.mono ?_
        rintro e w77 ⟨rfl, rfl⟩
        clear hmk HW7 HM7
        have HP := OnPeek HO7.out (8192 + (q : Int)) n (by omega) (by omega)
        rw [H.out.pk, H.out.pl] at HP
        have HP7 := Aside0.mk HP
        clear HP
        go_wp2_with fail
        refine HP7.out.mono ?_
        rintro e w8 ⟨vx, rfl, hx, HO, HB⟩
        have HX8 := Aside0.mk (own_weaken hx (base' := w.heap.size) HO7.out.out.size)
        have HO8 := Aside0.mk HO
        have HS8 := Aside0.mk (HS7.out.below HB)
        have HZ8 := Aside0.mk (own_below HZ7.out HB)
        clear hx HO HB HP7 HO7 HS7 HZ7
        have HQ := OnRead HO8.out (8192 + (q : Int)) n (by omega) (by omega)
        rw [H.out.f1, H.out.m1, H.out.r1] at HQ
        have HQ8 := Aside0.mk HQ
        clear HQ
        cases mr with
        | false =>
          rw [if_neg (show ¬ (false = true) by decide), if_neg (show ¬ (false = true) by decide)] at HQ8
          go_wp2_with fail
          refine HQ8.out.mono ?_
          rintro e w9 ⟨vy, rfl, hy, HO, HK⟩
          have HY9 := Aside0.mk (own_weaken hy (base' := w.heap.size) HO8.out.out.size)
          have HX9 := Aside0.mk (HK.own (by decide) (by decide) HX8.out)
          have HZ9 := Aside0.mk (HK.own (by decide) (by decide) HZ8.out)
          have HO9 := Aside0.mk HO
          have HS9 := Aside0.mk (Sits.add (HS8.out.keep HK) (cs := #[.int .i64 2, .int .u64 a1']) (t := 45) (by decide) (by decide))
          clear hy HO HK HQ8 HO8 HS8 HX8 HZ8
          have HQ := OnFetch (HO9.out.alloc_ (.cells #[.int .i64 2, .int .u64 a1'] 45)) (8192 + (q : Int)) n (by omega) (by omega)
          rw [H.out.f4, H.out.m4, H.out.r4] at HQ
          have HQ9 := Aside0.mk HQ
          clear HQ
          cases mx with
          | false =>
            rw [if_neg (show ¬ (false = true) by decide), if_neg (show ¬ (false = true) by decide)] at HQ9
            go_wp2_with fail
            refine HQ9.out.mono ?_
            rintro e w10 ⟨vz, rfl, hz, HO, HK⟩
            have HV10 := own_weaken hz (base' := w.heap.size) (by have := HO9.out.out.size; simp; omega)
            have HY10 := HK.own (by decide) (by decide) (HY9.out.alloc _)
            have HX10 := HK.own (by decide) (by decide) (HX9.out.alloc _)
            have HZ10 := HK.own (by decide) (by decide) (HZ9.out.alloc _)
            have hs10 := Sits.add (HS9.out.keep HK) (cs := #[.int .i64 4, .int .u64 a4']) (t := 45) (by decide) (by decide)
            have HO10 := HO.alloc_ (.cells #[.int .i64 4, .int .u64 a4'] 45)
            have kV := HV10.alloc (.cells #[.int .i64 4, .int .u64 a4'] 45)
            have kY := HY10.alloc (.cells #[.int .i64 4, .int .u64 a4'] 45)
            have kX := HX10.alloc (.cells #[.int .i64 4, .int .u64 a4'] 45)
            have kZ := HZ10.alloc (.cells #[.int .i64 4, .int .u64 a4'] 45)
            clear hz HO HK HQ9 HO9 HS9 HY9 HX9 HZ9 HV10 HY10 HX10 HZ10
            have HS11 := Aside0.mk hs10
            have HO11 := Aside0.mk HO10
            have KV := Aside0.mk kV
            have KY := Aside0.mk kY
            have KX := Aside0.mk kX
            have KZ := Aside0.mk kZ
            clear hs10 HO10 kV kY kX kZ
            go_wp2
            obtain ⟨w11, hw11⟩ : ∃ w11, w10.alloc (.cells #[.int .i64 4, .int .u64 a4'] 45) = w11 := ⟨_, rfl⟩
            rw [hw11] at HS11 HO11 KV KY KX KZ ⊢
            clear hw11
            have cA1 := blk_cell (HS11.out.blk w.heap.size _ _ (.tail _ (.tail _ (.tail _ (.tail _ (.tail _ (.tail _ (.head _)))))))) 0
            have cB1 := blk_cell (HS11.out.blk (w.heap.size + 1) _ _ (.tail _ (.tail _ (.tail _ (.tail _ (.tail _ (.head _))))))) 0
            have cF1 := blk_cell (HS11.out.blk w3.heap.size _ _ (.tail _ (.tail _ (.tail _ (.tail _ (.head _)))))) 0
            have cS1 := blk_cell (HS11.out.blk (w3.heap.size + 1) _ _ (.tail _ (.tail _ (.tail _ (.head _))))) 0
            have cK1 := blk_cell (HS11.out.blk w4.heap.size _ _ (.tail _ (.tail _ (.head _)))) 0
            have cG1 := blk_cell (HS11.out.blk w9.heap.size _ _ (.tail _ (.head _))) 0
            have cH1 := blk_cell (HS11.out.blk w10.heap.size _ _ (.head _)) 0
            simp only [List.getElem?_toArray, List.getElem?_cons_zero, List.getElem?_cons_succ] at cA1 cB1 cF1 cS1 cK1 cG1 cH1
            have hm1 := fun m => quiet_left (n := m) (may_closure w.heap.size (w.heap.size + 1) w3.heap.size (w3.heap.size + 1) fb sb pa pb 1 (w11.drewN m) cA1 cB1 cF1 cS1)
            rw [MR.out] at hm1
            have hm4 := fun m => quiet_left (n := m) (may_closure w.heap.size (w.heap.size + 1) w3.heap.size (w3.heap.size + 1) fb sb pa pb 4 (w11.drewN m) cA1 cB1 cF1 cS1)
            rw [MX.out] at hm4
            have gX := fun m => own_string (w := w11.drewN m) Try.underlying43 Try.underlying5 Try.underlying9 KX.out
            have gY := fun m => own_string (w := w11.drewN m) Try.underlying43 Try.underlying5 Try.underlying9 KY.out
            have gV := fun m => own_string (w := w11.drewN m) Try.underlying43 Try.underlying5 Try.underlying9 KV.out
            have gZ := fun m => own_string (w := w11.drewN m) Try.underlying43 Try.underlying5 Try.underlying9 KZ.out
            rw [← show W = List.replicate n 0 from H.out.wn rfl] at gZ
            generalize strOfNums W = s at gX gY gV gZ
            go_quiet ((first | (go_at_call_of 27 (Value.int .i64 1); exact hm1 _) | (go_at_call_of 27 (Value.int .i64 4); exact hm4 _)))
            clear hm1 hm4 cA1 cB1 cF1 cS1 cK1
            go_wp2_with fail
            refine (awake3_calls _).mono ?_
            rintro e w12 ⟨rfl, hb⟩
            have HBZ := Aside0.mk ((HO11.out.drew _).below hb).out
            clear hb
            go_wp2
            go_ret
            exact ⟨rfl, HBZ.out⟩
          | true =>
            rw [if_pos rfl, if_pos rfl] at HQ9
            go_wp2_with fail
            refine HQ9.out.mono ?_
            rintro e w10 ⟨vz, rfl, hz, HO, HK⟩
            have HV10 := own_weaken hz (base' := w.heap.size) (by have := HO9.out.out.size; simp; omega)
            have HY10 := HK.own (by decide) (by decide) (HY9.out.alloc _)
            have HX10 := HK.own (by decide) (by decide) (HX9.out.alloc _)
            have HZ10 := HK.own (by decide) (by decide) (HZ9.out.alloc _)
            have hs10 := Sits.add (HS9.out.keep HK) (cs := #[.int .i64 0, .int .u64 0]) (t := 45) (by decide) (by decide)
            have HO10 := HO.alloc_ (.cells #[.int .i64 0, .int .u64 0] 45)
            have kV := HV10.alloc (.cells #[.int .i64 0, .int .u64 0] 45)
            have kY := HY10.alloc (.cells #[.int .i64 0, .int .u64 0] 45)
            have kX := HX10.alloc (.cells #[.int .i64 0, .int .u64 0] 45)
            have kZ := HZ10.alloc (.cells #[.int .i64 0, .int .u64 0] 45)
            clear hz HO HK HQ9 HO9 HS9 HY9 HX9 HZ9 HV10 HY10 HX10 HZ10
            have HS11 := Aside0.mk hs10
            have HO11 := Aside0.mk HO10
            have KV := Aside0.mk kV
            have KY := Aside0.mk kY
            have KX := Aside0.mk kX
            have KZ := Aside0.mk kZ
            clear hs10 HO10 kV kY kX kZ
            go_wp2
            obtain ⟨w11, hw11⟩ : ∃ w11, w10.alloc (.cells #[.int .i64 0, .int .u64 0] 45) = w11 := ⟨_, rfl⟩
            rw [hw11] at HS11 HO11 KV KY KX KZ ⊢
            clear hw11
            have cA1 := blk_cell (HS11.out.blk w.heap.size _ _ (.tail _ (.tail _ (.tail _ (.tail _ (.tail _ (.tail _ (.head _)))))))) 0
            have cB1 := blk_cell (HS11.out.blk (w.heap.size + 1) _ _ (.tail _ (.tail _ (.tail _ (.tail _ (.tail _ (.head _))))))) 0
            have cF1 := blk_cell (HS11.out.blk w3.heap.size _ _ (.tail _ (.tail _ (.tail _ (.tail _ (.head _)))))) 0
            have cS1 := blk_cell (HS11.out.blk (w3.heap.size + 1) _ _ (.tail _ (.tail _ (.tail _ (.head _))))) 0
            have cK1 := blk_cell (HS11.out.blk w4.heap.size _ _ (.tail _ (.tail _ (.head _)))) 0
            have cG1 := blk_cell (HS11.out.blk w9.heap.size _ _ (.tail _ (.head _))) 0
            have cH1 := blk_cell (HS11.out.blk w10.heap.size _ _ (.head _)) 0
            simp only [List.getElem?_toArray, List.getElem?_cons_zero, List.getElem?_cons_succ] at cA1 cB1 cF1 cS1 cK1 cG1 cH1
            have hm1 := fun m => quiet_left (n := m) (may_closure w.heap.size (w.heap.size + 1) w3.heap.size (w3.heap.size + 1) fb sb pa pb 1 (w11.drewN m) cA1 cB1 cF1 cS1)
            rw [MR.out] at hm1
            have hm4 := fun m => quiet_left (n := m) (may_closure w.heap.size (w.heap.size + 1) w3.heap.size (w3.heap.size + 1) fb sb pa pb 4 (w11.drewN m) cA1 cB1 cF1 cS1)
            rw [MX.out] at hm4
            have gX := fun m => own_string (w := w11.drewN m) Try.underlying43 Try.underlying5 Try.underlying9 KX.out
            have gY := fun m => own_string (w := w11.drewN m) Try.underlying43 Try.underlying5 Try.underlying9 KY.out
            have gV := fun m => own_string (w := w11.drewN m) Try.underlying43 Try.underlying5 Try.underlying9 KV.out
            have gZ := fun m => own_string (w := w11.drewN m) Try.underlying43 Try.underlying5 Try.underlying9 KZ.out
            rw [← show W = List.replicate n 0 from H.out.wn rfl] at gZ
            generalize strOfNums W = s at gX gY gV gZ
            go_quiet ((first | (go_at_call_of 27 (Value.int .i64 1); exact hm1 _) | (go_at_call_of 27 (Value.int .i64 4); exact hm4 _)))
            clear hm1 hm4 cA1 cB1 cF1 cS1 cK1
            go_wp2_with fail
            refine (awake3_calls _).mono ?_
            rintro e w12 ⟨rfl, hb⟩
            have HBZ := Aside0.mk ((HO11.out.drew _).below hb).out
            clear hb
            go_wp2
            go_ret
            exact ⟨rfl, HBZ.out⟩
        | true =>
          rw [if_pos rfl, if_pos rfl] at HQ8
          go_wp2_with fail
          refine HQ8.out.mono ?_
          rintro e w9 ⟨vy, rfl, hy, HO, HK⟩
          have HY9 := Aside0.mk (own_weaken hy (base' := w.heap.size) HO8.out.out.size)
          have HX9 := Aside0.mk (HK.own (by decide) (by decide) HX8.out)
          have HZ9 := Aside0.mk (HK.own (by decide) (by decide) HZ8.out)
          have HO9 := Aside0.mk HO
          have HS9 := Aside0.mk (Sits.add (HS8.out.keep HK) (cs := #[.int .i64 0, .int .u64 0]) (t := 45) (by decide) (by decide))
          clear hy HO HK HQ8 HO8 HS8 HX8 HZ8
          have HQ := OnFetch (HO9.out.alloc_ (.cells #[.int .i64 0, .int .u64 0] 45)) (8192 + (q : Int)) n (by omega) (by omega)
          rw [H.out.f4, H.out.m4, H.out.r4] at HQ
          have HQ9 := Aside0.mk HQ
          clear HQ
          cases mx with
          | false =>
            rw [if_neg (show ¬ (false = true) by decide), if_neg (show ¬ (false = true) by decide)] at HQ9
            go_wp2_with fail
            refine HQ9.out.mono ?_
            rintro e w10 ⟨vz, rfl, hz, HO, HK⟩
            have HV10 := own_weaken hz (base' := w.heap.size) (by have := HO9.out.out.size; simp; omega)
            have HY10 := HK.own (by decide) (by decide) (HY9.out.alloc _)
            have HX10 := HK.own (by decide) (by decide) (HX9.out.alloc _)
            have HZ10 := HK.own (by decide) (by decide) (HZ9.out.alloc _)
            have hs10 := Sits.add (HS9.out.keep HK) (cs := #[.int .i64 4, .int .u64 a4']) (t := 45) (by decide) (by decide)
            have HO10 := HO.alloc_ (.cells #[.int .i64 4, .int .u64 a4'] 45)
            have kV := HV10.alloc (.cells #[.int .i64 4, .int .u64 a4'] 45)
            have kY := HY10.alloc (.cells #[.int .i64 4, .int .u64 a4'] 45)
            have kX := HX10.alloc (.cells #[.int .i64 4, .int .u64 a4'] 45)
            have kZ := HZ10.alloc (.cells #[.int .i64 4, .int .u64 a4'] 45)
            clear hz HO HK HQ9 HO9 HS9 HY9 HX9 HZ9 HV10 HY10 HX10 HZ10
            have HS11 := Aside0.mk hs10
            have HO11 := Aside0.mk HO10
            have KV := Aside0.mk kV
            have KY := Aside0.mk kY
            have KX := Aside0.mk kX
            have KZ := Aside0.mk kZ
            clear hs10 HO10 kV kY kX kZ
            go_wp2
            obtain ⟨w11, hw11⟩ : ∃ w11, w10.alloc (.cells #[.int .i64 4, .int .u64 a4'] 45) = w11 := ⟨_, rfl⟩
            rw [hw11] at HS11 HO11 KV KY KX KZ ⊢
            clear hw11
            have cA1 := blk_cell (HS11.out.blk w.heap.size _ _ (.tail _ (.tail _ (.tail _ (.tail _ (.tail _ (.tail _ (.head _)))))))) 0
            have cB1 := blk_cell (HS11.out.blk (w.heap.size + 1) _ _ (.tail _ (.tail _ (.tail _ (.tail _ (.tail _ (.head _))))))) 0
            have cF1 := blk_cell (HS11.out.blk w3.heap.size _ _ (.tail _ (.tail _ (.tail _ (.tail _ (.head _)))))) 0
            have cS1 := blk_cell (HS11.out.blk (w3.heap.size + 1) _ _ (.tail _ (.tail _ (.tail _ (.head _))))) 0
            have cK1 := blk_cell (HS11.out.blk w4.heap.size _ _ (.tail _ (.tail _ (.head _)))) 0
            have cG1 := blk_cell (HS11.out.blk w9.heap.size _ _ (.tail _ (.head _))) 0
            have cH1 := blk_cell (HS11.out.blk w10.heap.size _ _ (.head _)) 0
            simp only [List.getElem?_toArray, List.getElem?_cons_zero, List.getElem?_cons_succ] at cA1 cB1 cF1 cS1 cK1 cG1 cH1
            have hm1 := fun m => quiet_left (n := m) (may_closure w.heap.size (w.heap.size + 1) w3.heap.size (w3.heap.size + 1) fb sb pa pb 1 (w11.drewN m) cA1 cB1 cF1 cS1)
            rw [MR.out] at hm1
            have hm4 := fun m => quiet_left (n := m) (may_closure w.heap.size (w.heap.size + 1) w3.heap.size (w3.heap.size + 1) fb sb pa pb 4 (w11.drewN m) cA1 cB1 cF1 cS1)
            rw [MX.out] at hm4
            have gX := fun m => own_string (w := w11.drewN m) Try.underlying43 Try.underlying5 Try.underlying9 KX.out
            have gY := fun m => own_string (w := w11.drewN m) Try.underlying43 Try.underlying5 Try.underlying9 KY.out
            have gV := fun m => own_string (w := w11.drewN m) Try.underlying43 Try.underlying5 Try.underlying9 KV.out
            have gZ := fun m => own_string (w := w11.drewN m) Try.underlying43 Try.underlying5 Try.underlying9 KZ.out
            rw [← show W = List.replicate n 0 from H.out.wn rfl] at gZ
            generalize strOfNums W = s at gX gY gV gZ
            go_quiet ((first | (go_at_call_of 27 (Value.int .i64 1); exact hm1 _) | (go_at_call_of 27 (Value.int .i64 4); exact hm4 _)))
            clear hm1 hm4 cA1 cB1 cF1 cS1 cK1
            go_wp2_with fail
            refine (awake3_calls _).mono ?_
            rintro e w12 ⟨rfl, hb⟩
            have HBZ := Aside0.mk ((HO11.out.drew _).below hb).out
            clear hb
            go_wp2
            go_ret
            exact ⟨rfl, HBZ.out⟩
          | true =>
            rw [if_pos rfl, if_pos rfl] at HQ9
            go_wp2_with fail
            refine HQ9.out.mono ?_
            rintro e w10 ⟨vz, rfl, hz, HO, HK⟩
            have HV10 := own_weaken hz (base' := w.heap.size) (by have := HO9.out.out.size; simp; omega)
            have HY10 := HK.own (by decide) (by decide) (HY9.out.alloc _)
            have HX10 := HK.own (by decide) (by decide) (HX9.out.alloc _)
            have HZ10 := HK.own (by decide) (by decide) (HZ9.out.alloc _)
            have hs10 := Sits.add (HS9.out.keep HK) (cs := #[.int .i64 0, .int .u64 0]) (t := 45) (by decide) (by decide)
            have HO10 := HO.alloc_ (.cells #[.int .i64 0, .int .u64 0] 45)
            have kV := HV10.alloc (.cells #[.int .i64 0, .int .u64 0] 45)
            have kY := HY10.alloc (.cells #[.int .i64 0, .int .u64 0] 45)
            have kX := HX10.alloc (.cells #[.int .i64 0, .int .u64 0] 45)
            have kZ := HZ10.alloc (.cells #[.int .i64 0, .int .u64 0] 45)
            clear hz HO HK HQ9 HO9 HS9 HY9 HX9 HZ9 HV10 HY10 HX10 HZ10
            have HS11 := Aside0.mk hs10
            have HO11 := Aside0.mk HO10
            have KV := Aside0.mk kV
            have KY := Aside0.mk kY
            have KX := Aside0.mk kX
            have KZ := Aside0.mk kZ
            clear hs10 HO10 kV kY kX kZ
            go_wp2
            obtain ⟨w11, hw11⟩ : ∃ w11, w10.alloc (.cells #[.int .i64 0, .int .u64 0] 45) = w11 := ⟨_, rfl⟩
            rw [hw11] at HS11 HO11 KV KY KX KZ ⊢
            clear hw11
            have cA1 := blk_cell (HS11.out.blk w.heap.size _ _ (.tail _ (.tail _ (.tail _ (.tail _ (.tail _ (.tail _ (.head _)))))))) 0
            have cB1 := blk_cell (HS11.out.blk (w.heap.size + 1) _ _ (.tail _ (.tail _ (.tail _ (.tail _ (.tail _ (.head _))))))) 0
            have cF1 := blk_cell (HS11.out.blk w3.heap.size _ _ (.tail _ (.tail _ (.tail _ (.tail _ (.head _)))))) 0
            have cS1 := blk_cell (HS11.out.blk (w3.heap.size + 1) _ _ (.tail _ (.tail _ (.tail _ (.head _))))) 0
            have cK1 := blk_cell (HS11.out.blk w4.heap.size _ _ (.tail _ (.tail _ (.head _)))) 0
            have cG1 := blk_cell (HS11.out.blk w9.heap.size _ _ (.tail _ (.head _))) 0
            have cH1 := blk_cell (HS11.out.blk w10.heap.size _ _ (.head _)) 0
            simp only [List.getElem?_toArray, List.getElem?_cons_zero, List.getElem?_cons_succ] at cA1 cB1 cF1 cS1 cK1 cG1 cH1
            have hm1 := fun m => quiet_left (n := m) (may_closure w.heap.size (w.heap.size + 1) w3.heap.size (w3.heap.size + 1) fb sb pa pb 1 (w11.drewN m) cA1 cB1 cF1 cS1)
            rw [MR.out] at hm1
            have hm4 := fun m => quiet_left (n := m) (may_closure w.heap.size (w.heap.size + 1) w3.heap.size (w3.heap.size + 1) fb sb pa pb 4 (w11.drewN m) cA1 cB1 cF1 cS1)
            rw [MX.out] at hm4
            have gX := fun m => own_string (w := w11.drewN m) Try.underlying43 Try.underlying5 Try.underlying9 KX.out
            have gY := fun m => own_string (w := w11.drewN m) Try.underlying43 Try.underlying5 Try.underlying9 KY.out
            have gV := fun m => own_string (w := w11.drewN m) Try.underlying43 Try.underlying5 Try.underlying9 KV.out
            have gZ := fun m => own_string (w := w11.drewN m) Try.underlying43 Try.underlying5 Try.underlying9 KZ.out
            rw [← show W = List.replicate n 0 from H.out.wn rfl] at gZ
            generalize strOfNums W = s at gX gY gV gZ
            go_quiet ((first | (go_at_call_of 27 (Value.int .i64 1); exact hm1 _) | (go_at_call_of 27 (Value.int .i64 4); exact hm4 _)))
            clear hm1 hm4 cA1 cB1 cF1 cS1 cK1
            go_wp2_with fail
            refine (awake3_calls _).mono ?_
            rintro e w12 ⟨rfl, hb⟩
            have HBZ := Aside0.mk ((HO11.out.drew _).below hb).out
            clear hb
            go_wp2
            go_ret
            exact ⟨rfl, HBZ.out⟩
theorem VmemRights_walk (a0 a1 a2 : Int) (A : Option Addr) (n c : Nat) (xs : List Int) (w : World) (hr : ReadsInt w .u8 A n xs) (hnc : n ≤ c) (hby : Bytes xs) :
    Calls Try.prog 8 #[.int .i64 a0, .int .i64 a1, .int .i64 a2, .slice A n c] w fun e w' => e = .returned (.bool true) ∧ Below w.heap.size w w' := by
  by_cases h : n = 0 ∨ 200 < n
  · exact VmemRights_few a0 a1 a2 A n c xs w hr h
  · exact VmemRights_many a0 a1 a2 A n c xs w hr hnc hby (by omega) (by omega)
end Go.Proofs.Ytdagfddhdnfbkaa
