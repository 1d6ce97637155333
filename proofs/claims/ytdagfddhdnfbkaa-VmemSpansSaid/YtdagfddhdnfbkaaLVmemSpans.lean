/- The law VmemSpans holds: for any place, any bytes, with a page missing or not (every input) it returns true and its arguments read as before; no condition. -/
import Derived.Test.YtdagfddhdnfbkaaVmemSpP
import Derived.Test.YtdagfddhdnfbkaaRowNum
namespace Go.Proofs.Ytdagfddhdnfbkaa
open Go.ChangeShapes Go.WideShapes Go.ChangeAt Go.RowKit
open Go.ChangeMaps (open_string shut_string)
set_option linter.unusedVariables false
set_option linter.unusedSimpArgs false
open Go.Proofs.YtdagfddhdnfbkaaW.PrintWords
set_option maxHeartbeats 1600000 in
set_option maxRecDepth 100000 in
theorem VmemSpans_long (a0 : Int) (A : Option Addr) (n c : Nat) (xs : List Int) (gap : Bool) (w : World) (hr : ReadsInt w .u8 A n xs) (hn : 9000 < n) :
    Calls Try.prog 9 #[.int .i64 a0, .slice A n c, .bool gap] w fun e w' => e = .returned (.bool true) ∧ Below w.heap.size w w' := by
  have hn63 := hr.2.1
  clear hr
  go_enter Try.func9, Try.ntmps9
  go_wp2_with fail
  refine (OnNew 3 w).mono ?_
  rintro e w1 ⟨bm, rfl, HO⟩
  have HO1 := Aside0.mk HO
  clear HO
  go_wp2_with fail
  refine (awake3_calls _).mono ?_
  rintro e w2 ⟨rfl, hb⟩
  have HB := Aside0.mk (HO1.out.below hb).out
  clear hb HO1
  go_wp2
  go_ret
  exact ⟨rfl, HB.out⟩
set_option maxHeartbeats 3200000 in
set_option maxRecDepth 100000 in
theorem VmemSpans_short (a0 : Int) (A : Option Addr) (n c : Nat) (xs : List Int) (gap : Bool) (w : World) (hr : ReadsInt w .u8 A n xs) (hnc : n ≤ c) (hby : Bytes xs) (hn : n ≤ 9000) :
    Calls Try.prog 9 #[.int .i64 a0, .slice A n c, .bool gap] w fun e w' => e = .returned (.bool true) ∧ Below w.heap.size w w' := by
  have HR := Aside0.mk hr
  have HBY := Aside0.mk hby
  obtain ⟨q, hq1, hq⟩ := place_of a0 (12289 - n) (by omega)
  rw [show ((12289 - n : Nat) : Int) = 12289 - (n : Int) from by omega] at hq
  obtain ⟨M2, L, hsays⟩ := span_says gap q xs (by rw [hr.1]; omega) (by rw [hr.1]; exact hn)
  have HXL := Aside0.mk hr.1
  have H := Aside0.mk hsays
  have d2 : (12289 - (n : Int) == 0) = false := by rw [beq_eq_false_iff_ne]; omega
  have sm := span_map
  clear hr hby hsays
  go_enter Try.func9, Try.ntmps9
  go_wp2_with fail
  refine (OnNew 3 w).mono ?_
  rintro e w1 ⟨bm, rfl, HO⟩
  have HO1 := Aside0.mk HO
  clear HO
  have HM := Aside0.mk (OnMapK HO1.out 4096 3 0 (by decide))
  rw [sm.1, sm.2] at HM
  clear sm
  go_wp2_with fail
  refine HM.out.mono ?_
  rintro e w2 ⟨rfl, HO, -⟩
  have HO2 := Aside0.mk HO
  clear HO HM HO1
  have hun := span_un
  cases gap with
  | false =>
    obtain ⟨w3, rfl⟩ : ∃ w3, w3 = w2 := ⟨_, rfl⟩
    have HO3 := HO2
    clear HO2 hun
    obtain ⟨okb, hok⟩ : ∃ b : Bool, okS false q n = b := ⟨_, rfl⟩
    have HOK := Aside0.mk hok
    clear hok
    go_upto_region 7 with (fail)
    obtain ⟨wo, hwo⟩ : ∃ wo : World, wo = w3 := ⟨_, rfl⟩
    go_cut [8] (fun s8 wx => s8 = .bool okb ∧ wx = w3)
    case first =>
      have hk := HOK.out
      unfold okS at hk
      clear H HOK HR HBY hwo
      by_cases n0 : n = 0
      · subst n0
        rw [show decide (0 = 0) = true from rfl] at hk
        obtain rfl : okb = true := by rw [← hk]; rfl
        clear hk
        go_wp2
        go_meet
        exact ⟨rfl, rfl⟩
      · have e1 : (n == 0) = false := by rw [beq_eq_false_iff_ne]; exact n0
        have e2 : ((n : Int) == 0) = false := by rw [beq_eq_false_iff_ne]; omega
        rw [decide_eq_false n0] at hk
        obtain rfl : okb = true := by rw [← hk]; rfl
        clear hk
        go_wp2
        go_meet
        exact ⟨rfl, rfl⟩
    case rest =>
      obtain ⟨rfl, rfl⟩ := hcut
      clear hwo
      have HP := OnPokeArg HO3.out (4096 + (q : Int)) xs A n c HR.out hnc HBY.out (by omega) (by omega)
      rw [← HXL.out, H.out.pk, H.out.m2, HXL.out, HOK.out] at HP
      have HP3 := Aside0.mk HP
      clear HP
      go_wp2_with fail
      refine HP3.out.mono ?_
      rintro e w4 ⟨rfl, HO, -⟩
      have HO4 := Aside0.mk HO
      clear HO HP3 HO3
      go_wp2
      go_loopw [9] (fun iv wr => ∃ i : Nat, i ≤ 3 ∧ iv = .int .i64 i ∧ Aside0 (On w wr bm M2)) (fun iv _ => 3 - (intOf iv).toNat)
      case atStart => exact ⟨0, by omega, rfl, HO4⟩
      case round =>
      clear HO4
      obtain ⟨i, hi, rfl, HO⟩ := hrel
      by_cases hlt : i < 3
      · have hp := OnPeek HO.out (4096 * ((i : Int) + 1)) 4096 (by omega) (by omega)
        rw [H.out.pb i hlt, H.out.pl i hlt] at hp
        have hlen := H.out.len i hlt
        have hval := Aside0.mk (H.out.val i · hlt)
        have HP := Aside0.mk hp
        clear hp HO
        rw [if_neg (fun h => by cases h.1)] at hlen
        have hb9 : (!(false && decide (i = 1))) = true := rfl
        rw [hb9] at HP
        go_wp2_with fail
        refine HP.out.mono ?_
        rintro e w5 ⟨vx, rfl, hx, HO, HB⟩
        have HO5 := Aside0.mk HO
        rw [hlen] at hx
        obtain ⟨A5, c5, rfl, -⟩ := own_reads hx
        have HX5 := Aside0.mk hx
        clear hx HO HB HP hb9
        go_wp2
        go_loop [12] (fun kv => ∃ k : Nat, k ≤ 4096 ∧ kv = .int .i64 k) (fun kv => 4096 - (intOf kv).toNat)
        case atStart => exact ⟨0, by omega, rfl⟩
        case round =>
        obtain ⟨k, hk, rfl⟩ := hrel
        by_cases hkl : k < 4096
        · obtain ⟨ad5, rfl, hcell5⟩ := (own_reads' HX5.out).2.2 (by omega)
          have hcx := hcell5 k hkl
          rw [hval.out k (by rintro ⟨h, -⟩; cases h) hkl] at hcx
          unfold wantS at hcx
          rw [HXL.out, HOK.out] at hcx
          clear hcell5
          by_cases hP : okb = true ∧ q ≤ 4096 * i + k ∧ 4096 * i + k < q + n
          · rw [if_pos hP] at hcx
            obtain ⟨rfl, hP1, hP2⟩ := hP
            obtain ⟨ad, rfl, hcell⟩ := (HR.out.below HO5.out.out).2.2 (by omega)
            obtain ⟨jj, hjj⟩ : ∃ jj : Nat, 4096 * i + k - q = jj := ⟨_, rfl⟩
            have hcb := hcell jj (by omega)
            rw [hjj] at hcx
            have ej : 4096 * (i : Int) + k - q = (jj : Int) := by omega
            have hjn : jj < n := by omega
            generalize xs.getD jj 0 = u at hcx hcb
            clear hcell hjj hP1 hP2
            go_wp2
            go_round
            case rel => exact ⟨k + 1, by omega, by go_num⟩
            case measure => simp [intOf]; omega
          · rw [if_neg hP] at hcx
            cases okb with
            | false =>
              clear hP
              go_wp2
              go_round
              case rel => exact ⟨k + 1, by omega, by go_num⟩
              case measure => simp [intOf]; omega
            | true =>
              by_cases h1 : q ≤ 4096 * i + k
              · have h2 : ¬ 4096 * i + k < q + n := fun h => hP ⟨rfl, h1, h⟩
                have f1 : decide (0 ≤ 4096 * (i : Int) + k - q) = true := decide_eq_true (by omega)
                have f2 : decide (4096 * (i : Int) + k - q < n) = false := decide_eq_false (by omega)
                clear hP
                go_wp2
                go_round
                case rel => exact ⟨k + 1, by omega, by go_num⟩
                case measure => simp [intOf]; omega
              · have f1 : decide (0 ≤ 4096 * (i : Int) + k - q) = false := decide_eq_false (by omega)
                clear hP
                go_wp2
                go_round
                case rel => exact ⟨k + 1, by omega, by go_num⟩
                case measure => simp [intOf]; omega
        obtain rfl : k = 4096 := by omega
        go_wp2
        go_roundw
        case rel => exact ⟨i + 1, by omega, by go_num, HO5⟩
        case measure => simp [intOf]; omega
      · obtain rfl : i = 3 := by omega
        clear hlt hi
        go_wp2_with fail
        refine (awake3_calls _).mono ?_
        rintro e w9 ⟨rfl, hb⟩
        have HBZ := Aside0.mk (HO.out.below hb).out
        clear hb HO
        go_wp2
        go_ret
        exact ⟨rfl, HBZ.out⟩
  | true =>
    have HU := Aside0.mk (OnUnmapK HO2.out 8192 1 (by decide))
    rw [hun.1, hun.2] at HU
    clear hun
    go_wp2_with fail
    refine HU.out.mono ?_
    rintro e w3 ⟨rfl, HO, -⟩
    have HO3 := Aside0.mk HO
    clear HO HU HO2
    obtain ⟨okb, hok⟩ : ∃ b : Bool, okS true q n = b := ⟨_, rfl⟩
    have HOK := Aside0.mk hok
    clear hok
    go_upto_region 7 with (fail)
    obtain ⟨wo, hwo⟩ : ∃ wo : World, wo = w3 := ⟨_, rfl⟩
    go_cut [8] (fun s8 wx => s8 = .bool okb ∧ wx = w3)
    case first =>
      have hk := HOK.out
      unfold okS at hk
      clear H HOK HR HBY hwo
      by_cases n0 : n = 0
      · subst n0
        rw [show decide (0 = 0) = true from rfl] at hk
        obtain rfl : okb = true := by rw [← hk]; rfl
        clear hk
        go_wp2
        go_meet
        exact ⟨rfl, rfl⟩
      · have e1 : (n == 0) = false := by rw [beq_eq_false_iff_ne]; exact n0
        have e2 : ((n : Int) == 0) = false := by rw [beq_eq_false_iff_ne]; omega
        rw [decide_eq_false n0] at hk
        by_cases n1 : q + n ≤ 4096
        · have e3 : decide ((q : Int) + n ≤ 4096) = true := decide_eq_true (by omega)
          rw [decide_eq_true n1] at hk
          obtain rfl : okb = true := by rw [← hk]; rfl
          clear hk
          go_wp2
          go_meet
          exact ⟨rfl, rfl⟩
        · have e3 : decide ((q : Int) + n ≤ 4096) = false := decide_eq_false (by omega)
          rw [decide_eq_false n1] at hk
          have e4 : decide (8192 ≤ (q : Int)) = okb := by
            rw [← hk]
            by_cases h : 8192 ≤ q
            · rw [decide_eq_true h, decide_eq_true (by omega)]; rfl
            · rw [decide_eq_false h, decide_eq_false (by omega)]; rfl
          have e5 : decide (8192 ≤ q) = okb := by rw [← hk]; rfl
          clear hk
          go_wp2
          go_meet
          exact ⟨rfl, rfl⟩
    case rest =>
      obtain ⟨rfl, rfl⟩ := hcut
      clear hwo
      have HP := OnPokeArg HO3.out (4096 + (q : Int)) xs A n c HR.out hnc HBY.out (by omega) (by omega)
      rw [← HXL.out, H.out.pk, H.out.m2, HXL.out, HOK.out] at HP
      have HP3 := Aside0.mk HP
      clear HP
      go_wp2_with fail
      refine HP3.out.mono ?_
      rintro e w4 ⟨rfl, HO, -⟩
      have HO4 := Aside0.mk HO
      clear HO HP3 HO3
      go_wp2
      go_loopw [9] (fun iv wr => ∃ i : Nat, i ≤ 3 ∧ iv = .int .i64 i ∧ Aside0 (On w wr bm M2)) (fun iv _ => 3 - (intOf iv).toNat)
      case atStart => exact ⟨0, by omega, rfl, HO4⟩
      case round =>
      clear HO4
      obtain ⟨i, hi, rfl, HO⟩ := hrel
      by_cases hlt : i < 3
      · have hp := OnPeek HO.out (4096 * ((i : Int) + 1)) 4096 (by omega) (by omega)
        rw [H.out.pb i hlt, H.out.pl i hlt] at hp
        have hlen := H.out.len i hlt
        have hval := Aside0.mk (H.out.val i · hlt)
        have HP := Aside0.mk hp
        clear hp HO
        by_cases h1 : i = 1
        · subst h1
          rw [if_pos ⟨rfl, rfl⟩] at hlen
          have hb9 : (!(true && decide (1 = 1))) = false := rfl
          rw [hb9] at HP
          go_wp2_with fail
          refine HP.out.mono ?_
          rintro e w5 ⟨vx, rfl, hx, HO, HB⟩
          have HO5 := Aside0.mk HO
          rw [hlen] at hx
          obtain ⟨A5, c5, rfl, -⟩ := own_reads hx
          have HX5 := Aside0.mk hx
          clear hx HO HB HP hb9
          go_wp2
          go_loop [12] (fun kv => ∃ k : Nat, k ≤ 0 ∧ kv = .int .i64 k) (fun kv => 0 - (intOf kv).toNat)
          case atStart => exact ⟨0, by omega, rfl⟩
          case round =>
          obtain ⟨k, hk, rfl⟩ := hrel
          
          obtain rfl : k = 0 := by omega
          go_wp2
          go_roundw
          case rel => exact ⟨2, by omega, by first | rfl | go_num, HO5⟩
          case measure => first | (simp [intOf]; done) | (simp [intOf]; omega)
        · rw [if_neg (fun h => h1 h.2)] at hlen
          have hb9 : (!(true && decide (i = 1))) = true := by rw [decide_eq_false h1]; rfl
          have g1 : (i == 1) = false := by rw [beq_eq_false_iff_ne]; exact h1
          have g2 : ((i : Int) == 1) = false := by rw [beq_eq_false_iff_ne]; omega
          rw [hb9] at HP
          go_wp2_with fail
          refine HP.out.mono ?_
          rintro e w5 ⟨vx, rfl, hx, HO, HB⟩
          have HO5 := Aside0.mk HO
          rw [hlen] at hx
          obtain ⟨A5, c5, rfl, -⟩ := own_reads hx
          have HX5 := Aside0.mk hx
          clear hx HO HB HP hb9
          go_wp2
          go_loop [12] (fun kv => ∃ k : Nat, k ≤ 4096 ∧ kv = .int .i64 k) (fun kv => 4096 - (intOf kv).toNat)
          case atStart => exact ⟨0, by omega, rfl⟩
          case round =>
          obtain ⟨k, hk, rfl⟩ := hrel
          by_cases hkl : k < 4096
          · obtain ⟨ad5, rfl, hcell5⟩ := (own_reads' HX5.out).2.2 (by omega)
            have hcx := hcell5 k hkl
            rw [hval.out k (by rintro ⟨-, h⟩; exact h1 h) hkl] at hcx
            unfold wantS at hcx
            rw [HXL.out, HOK.out] at hcx
            clear hcell5
            by_cases hP : okb = true ∧ q ≤ 4096 * i + k ∧ 4096 * i + k < q + n
            · rw [if_pos hP] at hcx
              obtain ⟨rfl, hP1, hP2⟩ := hP
              obtain ⟨ad, rfl, hcell⟩ := (HR.out.below HO5.out.out).2.2 (by omega)
              obtain ⟨jj, hjj⟩ : ∃ jj : Nat, 4096 * i + k - q = jj := ⟨_, rfl⟩
              have hcb := hcell jj (by omega)
              rw [hjj] at hcx
              have ej : 4096 * (i : Int) + k - q = (jj : Int) := by omega
              have hjn : jj < n := by omega
              generalize xs.getD jj 0 = u at hcx hcb
              clear hcell hjj hP1 hP2
              go_wp2
              go_round
              case rel => exact ⟨k + 1, by omega, by go_num⟩
              case measure => simp [intOf]; omega
            · rw [if_neg hP] at hcx
              cases okb with
              | false =>
                clear hP
                go_wp2
                go_round
                case rel => exact ⟨k + 1, by omega, by go_num⟩
                case measure => simp [intOf]; omega
              | true =>
                by_cases h1 : q ≤ 4096 * i + k
                · have h2 : ¬ 4096 * i + k < q + n := fun h => hP ⟨rfl, h1, h⟩
                  have f1 : decide (0 ≤ 4096 * (i : Int) + k - q) = true := decide_eq_true (by omega)
                  have f2 : decide (4096 * (i : Int) + k - q < n) = false := decide_eq_false (by omega)
                  clear hP
                  go_wp2
                  go_round
                  case rel => exact ⟨k + 1, by omega, by go_num⟩
                  case measure => simp [intOf]; omega
                · have f1 : decide (0 ≤ 4096 * (i : Int) + k - q) = false := decide_eq_false (by omega)
                  clear hP
                  go_wp2
                  go_round
                  case rel => exact ⟨k + 1, by omega, by go_num⟩
                  case measure => simp [intOf]; omega
          obtain rfl : k = 4096 := by omega
          go_wp2
          go_roundw
          case rel => exact ⟨i + 1, by omega, by go_num, HO5⟩
          case measure => simp [intOf]; omega
      · obtain rfl : i = 3 := by omega
        clear hlt hi
        go_wp2_with fail
        refine (awake3_calls _).mono ?_
        rintro e w9 ⟨rfl, hb⟩
        have HBZ := Aside0.mk (HO.out.below hb).out
        clear hb HO
        go_wp2
        go_ret
        exact ⟨rfl, HBZ.out⟩
theorem VmemSpans_walk (a0 : Int) (A : Option Addr) (n c : Nat) (xs : List Int) (gap : Bool) (w : World) (hr : ReadsInt w .u8 A n xs) (hnc : n ≤ c) (hby : Bytes xs) :
    Calls Try.prog 9 #[.int .i64 a0, .slice A n c, .bool gap] w fun e w' => e = .returned (.bool true) ∧ Below w.heap.size w w' := by
  by_cases h : 9000 < n
  · exact VmemSpans_long a0 A n c xs gap w hr h
  · exact VmemSpans_short a0 A n c xs gap w hr hnc hby (by omega)
set_option maxRecDepth 100000 in
theorem VmemSpans_lifted (os : Os) (started : os.Started) (H : Type) (enc : TypeId × Value → H) :
    ReturnsInHanded {} Try.checked os 9 .any (Rows.vmemSpansSpec.pre6 enc Try.prog Try.f9 Rows.vmemSpansRow.domain false) (Rows.vmemSpansSpec.post enc Try.prog Try.f9 false true false false) := by
  refine returnsInHanded_of_change (C := Try.checked) row_own started (by kernel_rfl) Try.func9
    (ChangeSpec.witness6 (enc := enc) (C := Try.checked) false ⟨#[], #[.int .i64 0, .slice none 0 0, .bool false], []⟩ 8 (by kernel_rfl) (by kernel_rfl) (by kernel_rfl) (by kernel_rfl)) ?_
  intro W base args ds gs before hval0 hW hcnd _
  have hval : ∀ (j : Nat) t v, Try.f9.params[j]? = some t → args[j]? = some v → Value.okWide Try.prog W .any base t v := hval0
  have hW' := hW
  obtain ⟨p, q, hA0, hV, rfl, hfz, hnd⟩ := hW
  have hA : DataW.TrodAll enc Try.prog W 0 (fun _ => true) true Try.f9.params.toList args.toList ds p := hA0
  rw [Try.params9] at hA hval
  obtain ⟨v0, vs0, d0, ds0, p0, q0, hargs, rfl, rfl, h0, r0⟩ := trodAll_cons hA
  obtain ⟨v1, vs1, d1, ds1, p1, q1, rfl, rfl, rfl, h1, r1⟩ := trodAll_cons r0
  obtain ⟨v2, vs2, d2, ds2, p2, q2, rfl, rfl, rfl, h2, r2⟩ := trodAll_cons r1
  obtain ⟨rfl, rfl, rfl⟩ := trodAll_nil r2
  obtain rfl : args = #[v0, v1, v2] := by cases args; simp_all
  obtain ⟨rfl, rfl⟩ := trodVars_none hV
  have k0 := h0
  have lt0 : ∀ x ∈ p0, x.block < W.heap.size := by obtain ⟨m, hm⟩ := k0; exact DataW.trod_lt m _ _ _ hm
  obtain ⟨a0, rfl, rfl, rfl, w0⟩ := open_int Try.underlying3 (hval 0 3 v0 rfl rfl) h0
  have k1 := h1
  have lt1 : ∀ x ∈ p1, x.block < W.heap.size := by obtain ⟨m, hm⟩ := k1; exact DataW.trod_lt m _ _ _ hm
  obtain ⟨a1, len1, cap1, rfl⟩ := okWide_slice Try.underlying43 (hval 1 43 v1 rfl rfl)
  obtain ⟨x1, w1⟩ := open_bytes h1
  have k2 := h2
  have lt2 : ∀ x ∈ p2, x.block < W.heap.size := by obtain ⟨m, hm⟩ := k2; exact DataW.trod_lt m _ _ _ hm
  obtain ⟨a2, rfl, rfl, rfl⟩ := open_bool Try.underlying4 (hval 2 4 v2 rfl rfl) h2
  clear hA0 hval0
  refine (VmemSpans_walk a0 a1 len1 cap1 x1 a2 W w1.1 w1.2.1 w1.2.2.2).mono fun e W' ⟨he, bel⟩ => ?_
  subst he
  exact ⟨_, rfl, _, _, _, [], _, [], hW', trodAll_mk1 (shut_bool Try.underlying4 _), (trodAll_cons_mk (Below.trod row_laidOut (by kernel_rfl) (of_decide_eq_true (by kernel_rfl)) k0 bel lt0) (trodAll_cons_mk (Below.trod row_laidOut (by kernel_rfl) (of_decide_eq_true (by kernel_rfl)) k1 bel lt1) (trodAll_cons_mk (Below.trod row_laidOut (by kernel_rfl) (of_decide_eq_true (by kernel_rfl)) k2 bel lt2) trodAll_mk0))), rfl, bel.frame _, fun h => by cases h⟩
theorem VmemSpans_over : Rows.vmemSpansRow.holds Try.pinned (OpenSpec.ofChange Rows.vmemSpansSpec) :=
  OpenClaim.holds_of_wide 9 Try.f9 rfl rfl rfl rfl rfl rfl rfl ⟨rfl, rfl, rfl, rfl, rfl⟩ rfl rfl rfl rfl rfl (by kernel_rfl) Try.func9 (by kernel_rfl)
    (of_decide_eq_true (by kernel_rfl)) (by unfold Func.isWrapper; first | (rw [if_pos (by decide +kernel)]; kernel_rfl) | (rw [if_neg (by decide +kernel)]; exact ⟨rfl, rfl⟩))
    (fun os started H enc _ => VmemSpans_lifted os started H enc)
theorem VmemSpans_holds : Rows.VmemSpansSaid := VmemSpans_over

end Go.Proofs.Ytdagfddhdnfbkaa
