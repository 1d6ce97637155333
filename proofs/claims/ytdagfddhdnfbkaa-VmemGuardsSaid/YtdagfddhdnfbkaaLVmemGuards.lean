/- The law VmemGuards holds: for any numbers (every input) it returns true and its arguments read as before; no condition. -/
import Derived.Test.YtdagfddhdnfbkaaVmemGuP
import Derived.Test.YtdagfddhdnfbkaaRowNum
namespace Go.Proofs.Ytdagfddhdnfbkaa
open Go.ChangeShapes Go.WideShapes Go.ChangeAt Go.RowKit
open Go.ChangeMaps (open_string shut_string)
set_option linter.unusedVariables false
set_option linter.unusedSimpArgs false
open Go.Proofs.YtdagfddhdnfbkaaW.PrintWords
def prF (x : Int) : Nat → Int := fun j => if bits .and .i64 (x / 2 ^ j) 1 = 1 then 15 else 7
theorem prF_or (x : Int) (j : Nat) : prF x j = 7 ∨ prF x j = 15 := by unfold prF; split <;> simp
theorem prF_yes {x : Int} {j : Nat} (h : (bits .and .i64 (x / 2 ^ j) 1 == 1) = true) : prF x j = 15 := if_pos (by simpa using h)
theorem prF_no {x : Int} {j : Nat} (h : (bits .and .i64 (x / 2 ^ j) 1 == 1) = false) : prF x j = 7 := if_neg (by simpa using h)
theorem cg_next (x : Int) (a d : Nat) : (cg (prF x) a (d + 1) : Int) = cg (prF x) a d + bits .and .i64 (x / 2 ^ (a + d)) 1 := by
  obtain ⟨h0, h1⟩ := and_i64 (x / 2 ^ (a + d)) 1 (by decide)
  have h0' : 0 ≤ bits .and .i64 (x / 2 ^ (a + d)) 1 := h0
  have h1' : bits .and .i64 (x / 2 ^ (a + d)) 1 ≤ 1 := h1
  simp only [cg]
  unfold prF
  by_cases h : bits .and .i64 (x / 2 ^ (a + d)) 1 = 1
  · rw [if_pos h, if_pos rfl, h]; rfl
  · rw [if_neg h, if_neg (by decide)]; omega
set_option maxHeartbeats 1600000 in
set_option maxRecDepth 100000 in
theorem VmemGuards_walk (a0 a1 a2 a3 : Int) (w : World) :
    Calls Try.prog 7 #[.int .i64 a0, .int .i64 a1, .int .i64 a2, .int .i64 a3] w fun e w' => e = .returned (.bool true) ∧ Below w.heap.size w w' := by
  have hu := Try.underlying45
  obtain ⟨x1, hx1, x10, x11⟩ : ∃ z : Int, bits .and .i64 a1 65535 = z ∧ 0 ≤ z ∧ z ≤ 65535 := ⟨_, rfl, and_i64 a1 65535 (by decide)⟩
  obtain ⟨x2, hx2, x20, x21⟩ : ∃ z : Int, bits .and .i64 a2 65535 = z ∧ 0 ≤ z ∧ z ≤ 65535 := ⟨_, rfl, and_i64 a2 65535 (by decide)⟩
  obtain ⟨p, hp, p0, p1⟩ : ∃ y : Int, x1 % 12288 = y ∧ 0 ≤ y ∧ y < 12288 := ⟨_, rfl, by omega, by omega⟩
  obtain ⟨n, hn, n0, n1⟩ : ∃ y : Int, x2.tmod (12288 - p) = y ∧ 0 ≤ y ∧ y < 12288 - p := by
    refine ⟨_, rfl, ?_, ?_⟩
    · exact Int.tmod_nonneg _ x20
    · rw [Int.tmod_eq_emod_of_nonneg x20]; exact Int.emod_lt_of_pos _ (by omega)
  obtain ⟨a, ha⟩ : ∃ a : Nat, p / 4096 = (a : Int) := ⟨(p / 4096).toNat, by omega⟩
  obtain ⟨b, hb⟩ : ∃ b : Nat, (p + (n + 1) - 1) / 4096 = (b : Int) := ⟨((p + (n + 1) - 1) / 4096).toNat, by omega⟩
  have hab : a ≤ b ∧ b ≤ 2 := by omega
  have HAB : Aside0 ((a : Int) = p / 4096 ∧ (b : Int) = (p + (n + 1) - 1) / 4096) := ⟨ha.symm, hb.symm⟩
  have dz : (12288 - p == 0) = false := by rw [beq_eq_false_iff_ne]; omega
  go_enter Try.func7, Try.ntmps7
  go_wp2_with fail
  refine (OnNew 3 w).mono ?_
  rintro e w1 ⟨bm, rfl, HO⟩
  have HO1 := Aside0.mk HO
  clear HO
  go_wp2
  go_loopw [10] (fun iv wr => ∃ (k : Nat) (M : AMem), k ≤ 3 ∧ iv = .int .i64 k ∧ Aside0 (Gm (prF a0) k M) ∧ Aside0 (On w wr bm M)) (fun iv _ => 3 - (intOf iv).toNat)
  case atStart => exact ⟨0, _, by omega, rfl, ⟨gm_start _⟩, HO1⟩
  case round =>
  clear HO1
  obtain ⟨k, M, hk, rfl, HG, HO⟩ := hrel
  by_cases hlt : k < 3
  · obtain ⟨e1, e2⟩ := gm_map HG.out hlt (by rcases prF_or a0 k with h | h <;> rw [h] <;> decide)
    have HM := Aside0.mk (OnMapK HO.out (4096 * ((k : Int) + 1)) 1 (prF a0 k) (by omega))
    rw [e1] at HM
    have HG2 := Aside0.mk e2
    clear e1 e2 HG HO
    cases hq : (bits .and .i64 (a0 / 2 ^ k) 1 == 1) with
    | true =>
      rw [prF_yes hq] at HM HG2
      go_wp2_with fail
      refine HM.out.mono ?_
      rintro e w2 ⟨rfl, HO, -⟩
      have HO2 := Aside0.mk HO
      clear HO HM
      go_wp2
      go_roundw
      case rel => exact ⟨k + 1, _, by omega, by go_num, HG2, HO2⟩
      case measure => simp [intOf]; omega
    | false =>
      rw [prF_no hq] at HM HG2
      go_wp2_with fail
      refine HM.out.mono ?_
      rintro e w2 ⟨rfl, HO, -⟩
      have HO2 := Aside0.mk HO
      clear HO HM
      go_wp2
      go_roundw
      case rel => exact ⟨k + 1, _, by omega, by go_num, HG2, HO2⟩
      case measure => simp [intOf]; omega
  obtain rfl : k = 3 := by omega
  clear hlt hk
  obtain ⟨wo, rfl⟩ : ∃ wo : World, wo = wr := ⟨_, rfl⟩
  go_wp2
  go_loopw [12, 13] (fun lv iv wr => ∃ d : Nat, a + d ≤ b + 1 ∧ iv = .int .i64 ((a + d : Nat) : Int) ∧ lv = .int .i64 (cg (prF a0) a d : Int) ∧ wr = wo) (fun _ iv _ => 4 - (intOf iv).toNat)
  case atStart => exact ⟨0, by omega, by rw [ha]; rfl, rfl, rfl⟩
  case round =>
  obtain ⟨d, hd, rfl, rfl, rfl⟩ := hrel
  by_cases hlt : a + d ≤ b
  · have hnx := Aside0.mk (cg_next a0 a d)
    have hcl := cg_le (prF a0) a d
    obtain ⟨g, hg, g0, g1⟩ : ∃ z : Int, bits .and .i64 (a0 / 2 ^ (a + d)) 1 = z ∧ 0 ≤ z ∧ z ≤ 1 := ⟨_, rfl, and_i64 (a0 / 2 ^ (a + d)) 1 (by decide)⟩
    rw [hg] at hnx
    generalize cg (prF a0) a d = c at *
    obtain ⟨i, hi⟩ : ∃ i : Nat, a + d = i := ⟨_, rfl⟩
    have HI := Aside0.mk hi
    rw [hi] at hlt hg ⊢
    clear hi
    go_wp2
    go_roundw
    case rel => exact ⟨d + 1, by have := HI.out; omega, congrArg (Value.int .i64) (by have := HI.out; omega), congrArg (Value.int .i64) hnx.out.symm, by trivial⟩
    case measure => simp [intOf]; omega
  have hdb : a + d = b + 1 := by omega
  have HD := Aside0.mk hdb
  have hcl := cg_le (prF a0) a d
  obtain ⟨L, hL⟩ : ∃ L : Nat, cg (prF a0) a d = L := ⟨_, rfl⟩
  have HL := Aside0.mk hL
  rw [hL] at hcl ⊢
  have hd3 : d ≤ 3 := by omega
  obtain ⟨s13, hs13⟩ : ∃ s : Int, ((a + d : Nat) : Int) = s := ⟨_, rfl⟩
  rw [hs13]
  have hs14 : (b : Int) < s13 := by omega
  clear hs13 hlt hd hL hdb
  go_wp2
  rw [hp]
  rw [show ((3 : Nat) : Int) = 3 from rfl]
  clear hp ha hb hn hx1 hx2
  go_loopw [14] (fun iv wr => ∃ (i : Nat) (pr : Nat → Int) (M : AMem), i ≤ L + 1 ∧ iv = .int .i64 i ∧ Aside0 (i ≤ L → cg pr a d + i = L) ∧ Aside0 (∀ j, pr j = 7 ∨ pr j = 15) ∧ Aside0 (Gm pr 3 M) ∧ Aside0 (On w wr bm M)) (fun iv _ => 5 - (intOf iv).toNat)
  case atStart => exact ⟨0, _, _, by omega, rfl, ⟨fun _ => HL.out⟩, ⟨prF_or a0⟩, HG, HO⟩
  case round =>
  clear HG HO HL
  obtain ⟨i, pr, M, hi, rfl, HC, HP, HG, HO⟩ := hrel
  by_cases hlt : i ≤ L
  · have hcc := HC.out hlt
    have HGE := Aside0.mk HO.out.out.size
    by_cases hq0 : bits .and .i64 a3 3 = 0
    · have HST := Aside0.mk (gm_step HG.out HP.out 1 2 (by decide) p (n + 1) p0 (by omega) (by omega) a d HAB.out.1 (by have := HAB.out.2; have := HD.out; omega))
      have HR := Aside0.mk (OnRead (HO.out.alloc_ (.cells #[.int .i64 0, .int .u64 0] 45)) (4096 + p) (n + 1) (by omega) (by omega))
      rw [show max (n + 1) 0 = n + 1 from by omega] at HR
      by_cases hil : i < L
      · obtain ⟨e5, pr', g1, g2, g3⟩ := HST.out.1 (by omega)
        have HG2 := Aside0.mk g1
        have HP2 := Aside0.mk g2
        have HC2 : Aside0 (i + 1 ≤ L → cg pr' a d + (i + 1) = L) := ⟨fun _ => by omega⟩
        obtain ⟨⟨fk, fa⟩, hf⟩ : ∃ f, askF M (4096 + p) (n + 1) 1 2 = f := ⟨_, rfl⟩
        rw [hf] at HR e5
        obtain rfl : fk = 5 := e5
        have d1 : decide (i < L) = true := decide_eq_true hil
        have d2 : (i == L) = false := by rw [beq_eq_false_iff_ne]; omega
        have d3 : ((i : Int) == (L : Int)) = false := by rw [beq_eq_false_iff_ne]; omega
        clear g1 g2 g3 hcc hf hil
        go_wp2_with fail
        refine HR.out.mono ?_
        rintro e w2 ⟨v1, rfl, -, HO1, HK⟩
        have hblk := HK _ _ _ (by decide) (by decide) (blk_new wr _)
        have hc8 := blk_cell hblk 0
        have hc9 := blk_cell hblk 1
        have hf8 := blk_frozen hblk 0
        have hf9 := blk_frozen hblk 1
        simp at hc8 hc9
        have HO2 := Aside0.mk fun u v => On.store2 HO1 hblk (by decide) (by decide) HGE.out u v
        clear HK HO1 hblk HR HO HG HC HST
        go_wp2
        go_roundw
        case rel => exact ⟨i + 1, _, _, by omega, by go_num, HC2, HP2, HG2, ⟨HO2.out _ _⟩⟩
        case measure => simp [intOf]; omega
      · obtain ⟨e5, e6⟩ := HST.out.2 (by omega)
        rw [e5, e6] at HR
        have HG2 := HG
        have hil' : i = L := by omega
        have HC2 : Aside0 (i + 1 ≤ L → cg pr a d + (i + 1) = L) := ⟨fun h => by omega⟩
        have d1 : decide (i < L) = false := decide_eq_false hil
        have d2 : (i == L) = true := by rw [beq_iff_eq]; omega
        have d3 : ((i : Int) == (L : Int)) = true := by rw [beq_iff_eq]; omega
        clear hil hil' e5 e6 hcc
        go_wp2_with fail
        refine HR.out.mono ?_
        rintro e w2 ⟨v1, rfl, -, HO1, HK⟩
        have hblk := HK _ _ _ (by decide) (by decide) (blk_new wr _)
        have hc8 := blk_cell hblk 0
        have hc9 := blk_cell hblk 1
        have hf8 := blk_frozen hblk 0
        have hf9 := blk_frozen hblk 1
        simp at hc8 hc9
        have HO2 := Aside0.mk fun u v => On.store2 HO1 hblk (by decide) (by decide) HGE.out u v
        clear HK HO1 hblk HR HO HG HC HST
        go_wp2
        go_roundw
        case rel => exact ⟨i + 1, _, _, by omega, by go_num, HC2, HP, HG2, ⟨HO2.out _ _⟩⟩
        case measure => simp [intOf]; omega
    by_cases hq1 : bits .and .i64 a3 3 = 1
    · have HST := Aside0.mk (gm_step HG.out HP.out 4 4 (by decide) p (n + 1) p0 (by omega) (by omega) a d HAB.out.1 (by have := HAB.out.2; have := HD.out; omega))
      have HR := Aside0.mk (OnFetch (HO.out.alloc_ (.cells #[.int .i64 0, .int .u64 0] 45)) (4096 + p) (n + 1) (by omega) (by omega))
      rw [show max (n + 1) 0 = n + 1 from by omega] at HR
      by_cases hil : i < L
      · obtain ⟨e5, pr', g1, g2, g3⟩ := HST.out.1 (by omega)
        have HG2 := Aside0.mk g1
        have HP2 := Aside0.mk g2
        have HC2 : Aside0 (i + 1 ≤ L → cg pr' a d + (i + 1) = L) := ⟨fun _ => by omega⟩
        obtain ⟨⟨fk, fa⟩, hf⟩ : ∃ f, askF M (4096 + p) (n + 1) 4 4 = f := ⟨_, rfl⟩
        rw [hf] at HR e5
        obtain rfl : fk = 5 := e5
        have d1 : decide (i < L) = true := decide_eq_true hil
        have d2 : (i == L) = false := by rw [beq_eq_false_iff_ne]; omega
        have d3 : ((i : Int) == (L : Int)) = false := by rw [beq_eq_false_iff_ne]; omega
        clear g1 g2 g3 hcc hf hil
        go_wp2_with fail
        refine HR.out.mono ?_
        rintro e w2 ⟨v1, rfl, -, HO1, HK⟩
        have hblk := HK _ _ _ (by decide) (by decide) (blk_new wr _)
        have hc8 := blk_cell hblk 0
        have hc9 := blk_cell hblk 1
        have hf8 := blk_frozen hblk 0
        have hf9 := blk_frozen hblk 1
        simp at hc8 hc9
        have HO2 := Aside0.mk fun u v => On.store2 HO1 hblk (by decide) (by decide) HGE.out u v
        clear HK HO1 hblk HR HO HG HC HST
        go_wp2
        go_roundw
        case rel => exact ⟨i + 1, _, _, by omega, by go_num, HC2, HP2, HG2, ⟨HO2.out _ _⟩⟩
        case measure => simp [intOf]; omega
      · obtain ⟨e5, e6⟩ := HST.out.2 (by omega)
        rw [e5, e6] at HR
        have HG2 := HG
        have hil' : i = L := by omega
        have HC2 : Aside0 (i + 1 ≤ L → cg pr a d + (i + 1) = L) := ⟨fun h => by omega⟩
        have d1 : decide (i < L) = false := decide_eq_false hil
        have d2 : (i == L) = true := by rw [beq_iff_eq]; omega
        have d3 : ((i : Int) == (L : Int)) = true := by rw [beq_iff_eq]; omega
        clear hil hil' e5 e6 hcc
        go_wp2_with fail
        refine HR.out.mono ?_
        rintro e w2 ⟨v1, rfl, -, HO1, HK⟩
        have hblk := HK _ _ _ (by decide) (by decide) (blk_new wr _)
        have hc8 := blk_cell hblk 0
        have hc9 := blk_cell hblk 1
        have hf8 := blk_frozen hblk 0
        have hf9 := blk_frozen hblk 1
        simp at hc8 hc9
        have HO2 := Aside0.mk fun u v => On.store2 HO1 hblk (by decide) (by decide) HGE.out u v
        clear HK HO1 hblk HR HO HG HC HST
        go_wp2
        go_roundw
        case rel => exact ⟨i + 1, _, _, by omega, by go_num, HC2, HP, HG2, ⟨HO2.out _ _⟩⟩
        case measure => simp [intOf]; omega
    · have dq0 : (bits .and .i64 a3 3 == 0) = false := by rw [beq_eq_false_iff_ne]; exact hq0
      have dq1 : (bits .and .i64 a3 3 == 1) = false := by rw [beq_eq_false_iff_ne]; exact hq1
      clear hq0 hq1
      have HST := Aside0.mk (gm_step HG.out HP.out 2 3 (by decide) p (n + 1) p0 (by omega) (by omega) a d HAB.out.1 (by have := HAB.out.2; have := HD.out; omega))
      obtain ⟨N, hN⟩ : ∃ N : Nat, (N : Int) = n + 1 := ⟨(n + 1).toNat, by omega⟩
      have hmk := print_make (P := Try.prog) 43 5 .u8 1 Try.underlying43 (by kernel_rfl) (by decide) N (by omega)
      have hown := own_made (wr.alloc (.cells #[.int .i64 0, .int .u64 0] 45)) w.heap.size 5 .u8 N (by have := HGE.out; simp; omega) (by omega)
      have HR := OnWriteOwn ((HO.out.alloc_ (.cells #[.int .i64 0, .int .u64 0] 45)).alloc_ _) (4096 + p) (List.replicate N 0) _ _ _ _ hown (bytes_zeros N) (by omega) (by omega)
      unfold writeM at HR
      rw [List.length_replicate, hN, World.size_alloc] at HR
      have HR := Aside0.mk HR
      rw [hN] at hmk
      clear hown
      generalize madeCells #[Value.int .u8 0] N = MC at hmk HR
      by_cases hil : i < L
      · obtain ⟨e5, pr', g1, g2, g3⟩ := HST.out.1 (by omega)
        have HG2 := Aside0.mk g1
        have HP2 := Aside0.mk g2
        have HC2 : Aside0 (i + 1 ≤ L → cg pr' a d + (i + 1) = L) := ⟨fun _ => by omega⟩
        obtain ⟨⟨fk, fa⟩, hf⟩ : ∃ f, askF M (4096 + p) (n + 1) 2 3 = f := ⟨_, rfl⟩
        rw [hf] at HR e5
        obtain rfl : fk = 5 := e5
        rw [if_neg (show ¬ ((5 : Int), fa).1 = 0 from fun h => by cases h)] at HR
        have d1 : decide (i < L) = true := decide_eq_true hil
        have d2 : (i == L) = false := by rw [beq_eq_false_iff_ne]; omega
        have d3 : ((i : Int) == (L : Int)) = false := by rw [beq_eq_false_iff_ne]; omega
        clear g1 g2 g3 hcc hf hil hN
        go_wp2_with fail
        refine HR.out.mono ?_
        rintro e w2 ⟨rfl, HO1, HK⟩
        have hblk := HK _ _ _ (by decide) (by decide) (blk_alloc (blk_new wr _) _)
        have hc8 := blk_cell hblk 0
        have hc9 := blk_cell hblk 1
        have hf8 := blk_frozen hblk 0
        have hf9 := blk_frozen hblk 1
        simp at hc8 hc9
        have HO2 := Aside0.mk fun u v => On.store2 HO1 hblk (by decide) (by decide) HGE.out u v
        clear HK HO1 hblk HR HO HG HC HST
        go_wp2
        go_roundw
        case rel => exact ⟨i + 1, _, _, by omega, by go_num, HC2, HP2, HG2, ⟨HO2.out _ _⟩⟩
        case measure => simp [intOf]; omega
      · obtain ⟨e5, e6⟩ := HST.out.2 (by omega)
        rw [e5, if_pos rfl] at HR
        have HG2 := Aside0.mk (gm_put HG.out (4096 + p) (List.replicate N 0))
        have hil' : i = L := by omega
        have HC2 : Aside0 (i + 1 ≤ L → cg pr a d + (i + 1) = L) := ⟨fun h => by omega⟩
        have d1 : decide (i < L) = false := decide_eq_false hil
        have d2 : (i == L) = true := by rw [beq_iff_eq]; omega
        have d3 : ((i : Int) == (L : Int)) = true := by rw [beq_iff_eq]; omega
        clear hil hil' e5 e6 hcc hN
        go_wp2_with fail
        refine HR.out.mono ?_
        rintro e w2 ⟨rfl, HO1, HK⟩
        have hblk := HK _ _ _ (by decide) (by decide) (blk_alloc (blk_new wr _) _)
        have hc8 := blk_cell hblk 0
        have hc9 := blk_cell hblk 1
        have hf8 := blk_frozen hblk 0
        have hf9 := blk_frozen hblk 1
        simp at hc8 hc9
        have HO2 := Aside0.mk fun u v => On.store2 HO1 hblk (by decide) (by decide) HGE.out u v
        clear HK HO1 hblk HR HO HG HC HST
        go_wp2
        go_roundw
        case rel => exact ⟨i + 1, _, _, by omega, by go_num, HC2, HP, HG2, ⟨HO2.out _ _⟩⟩
        case measure => simp [intOf]; omega
  obtain rfl : i = L + 1 := by omega
  clear hlt hi HC HP HG
  go_wp2_with fail
  refine (awake3_calls _).mono ?_
  rintro e w4 ⟨rfl, hb⟩
  have HB4 := Aside0.mk (HO.out.below hb).out
  clear hb HO
  go_wp2
  go_ret
  exact ⟨rfl, HB4.out⟩
set_option maxRecDepth 100000 in
theorem VmemGuards_lifted (os : Os) (started : os.Started) (H : Type) (enc : TypeId × Value → H) :
    ReturnsInHanded {} Try.checked os 7 .any (Rows.vmemGuardsSpec.pre6 enc Try.prog Try.f7 Rows.vmemGuardsRow.domain false) (Rows.vmemGuardsSpec.post enc Try.prog Try.f7 false true false false) := by
  refine returnsInHanded_of_change (C := Try.checked) row_own started (by kernel_rfl) Try.func7
    (ChangeSpec.witness6 (enc := enc) (C := Try.checked) false ⟨#[], #[.int .i64 0, .int .i64 0, .int .i64 0, .int .i64 0], []⟩ 8 (by kernel_rfl) (by kernel_rfl) (by kernel_rfl) (by kernel_rfl)) ?_
  intro W base args ds gs before hval0 hW hcnd _
  have hval : ∀ (j : Nat) t v, Try.f7.params[j]? = some t → args[j]? = some v → Value.okWide Try.prog W .any base t v := hval0
  have hW' := hW
  obtain ⟨p, q, hA0, hV, rfl, hfz, hnd⟩ := hW
  have hA : DataW.TrodAll enc Try.prog W 0 (fun _ => true) true Try.f7.params.toList args.toList ds p := hA0
  rw [Try.params7] at hA hval
  obtain ⟨v0, vs0, d0, ds0, p0, q0, hargs, rfl, rfl, h0, r0⟩ := trodAll_cons hA
  obtain ⟨v1, vs1, d1, ds1, p1, q1, rfl, rfl, rfl, h1, r1⟩ := trodAll_cons r0
  obtain ⟨v2, vs2, d2, ds2, p2, q2, rfl, rfl, rfl, h2, r2⟩ := trodAll_cons r1
  obtain ⟨v3, vs3, d3, ds3, p3, q3, rfl, rfl, rfl, h3, r3⟩ := trodAll_cons r2
  obtain ⟨rfl, rfl, rfl⟩ := trodAll_nil r3
  obtain rfl : args = #[v0, v1, v2, v3] := by cases args; simp_all
  obtain ⟨rfl, rfl⟩ := trodVars_none hV
  have k0 := h0
  have lt0 : ∀ x ∈ p0, x.block < W.heap.size := by obtain ⟨m, hm⟩ := k0; exact DataW.trod_lt m _ _ _ hm
  obtain ⟨a0, rfl, rfl, rfl, w0⟩ := open_int Try.underlying3 (hval 0 3 v0 rfl rfl) h0
  have k1 := h1
  have lt1 : ∀ x ∈ p1, x.block < W.heap.size := by obtain ⟨m, hm⟩ := k1; exact DataW.trod_lt m _ _ _ hm
  obtain ⟨a1, rfl, rfl, rfl, w1⟩ := open_int Try.underlying3 (hval 1 3 v1 rfl rfl) h1
  have k2 := h2
  have lt2 : ∀ x ∈ p2, x.block < W.heap.size := by obtain ⟨m, hm⟩ := k2; exact DataW.trod_lt m _ _ _ hm
  obtain ⟨a2, rfl, rfl, rfl, w2⟩ := open_int Try.underlying3 (hval 2 3 v2 rfl rfl) h2
  have k3 := h3
  have lt3 : ∀ x ∈ p3, x.block < W.heap.size := by obtain ⟨m, hm⟩ := k3; exact DataW.trod_lt m _ _ _ hm
  obtain ⟨a3, rfl, rfl, rfl, w3⟩ := open_int Try.underlying3 (hval 3 3 v3 rfl rfl) h3
  clear hA0 hval0
  refine (VmemGuards_walk a0 a1 a2 a3 W).mono fun e W' ⟨he, bel⟩ => ?_
  subst he
  exact ⟨_, rfl, _, _, _, [], _, [], hW', trodAll_mk1 (shut_bool Try.underlying4 _), (trodAll_cons_mk (Below.trod row_laidOut (by kernel_rfl) (of_decide_eq_true (by kernel_rfl)) k0 bel lt0) (trodAll_cons_mk (Below.trod row_laidOut (by kernel_rfl) (of_decide_eq_true (by kernel_rfl)) k1 bel lt1) (trodAll_cons_mk (Below.trod row_laidOut (by kernel_rfl) (of_decide_eq_true (by kernel_rfl)) k2 bel lt2) (trodAll_cons_mk (Below.trod row_laidOut (by kernel_rfl) (of_decide_eq_true (by kernel_rfl)) k3 bel lt3) trodAll_mk0)))), rfl, bel.frame _, fun h => by cases h⟩
theorem VmemGuards_over : Rows.vmemGuardsRow.holds Try.pinned (OpenSpec.ofChange Rows.vmemGuardsSpec) :=
  OpenClaim.holds_of_wide 7 Try.f7 rfl rfl rfl rfl rfl rfl rfl ⟨rfl, rfl, rfl, rfl, rfl⟩ rfl rfl rfl rfl rfl (by kernel_rfl) Try.func7 (by kernel_rfl)
    (of_decide_eq_true (by kernel_rfl)) (by unfold Func.isWrapper; first | (rw [if_pos (by decide +kernel)]; kernel_rfl) | (rw [if_neg (by decide +kernel)]; exact ⟨rfl, rfl⟩))
    (fun os started H enc _ => VmemGuards_lifted os started H enc)
theorem VmemGuards_holds : Rows.VmemGuardsSaid := VmemGuards_over

end Go.Proofs.Ytdagfddhdnfbkaa
