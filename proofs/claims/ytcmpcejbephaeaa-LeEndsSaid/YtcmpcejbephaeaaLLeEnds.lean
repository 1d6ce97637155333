/- The law LeEnds holds: for any number (every input) it returns true and its argument reads as before; no condition. -/
import Derived.Test.YtcmpcejbephaeaaLeAll
import Derived.Test.YtcmpcejbephaeaaRowKit
namespace Go.Proofs.Ytcmpcejbephaeaa
open Go.ChangeShapes Go.WideShapes Go.ChangeAt Go.RowKit
open Go.ChangeMaps (open_string shut_string)
set_option linter.unusedVariables false
set_option linter.unusedSimpArgs false
open Go.Proofs.YtcmpcejbephaeaaW.PrintWords
def zeros (m : Nat) : List Int := List.replicate m 0
theorem zeros_len (m : Nat) : (zeros m).length = m := by simp [zeros]
theorem zeros_bytes (m : Nat) : Bytes (zeros m) := by intro x hx; simp [zeros] at hx; omega
theorem leB_zero (k : Nat) : leB 0 k = zeros k := by
  induction k with
  | zero => rfl
  | succ k ih => simp [leB, ih, zeros, List.replicate_succ']
theorem putV_zeros (m : Nat) (p n : Int) : putV (zeros m) p n 0 = zeros m := by
  unfold putV
  split
  · rename_i h
    have h := of_decide_eq_true h
    rw [zeros_len] at h
    unfold putL
    rw [leB_zero]
    simp only [zeros, List.take_replicate, List.drop_replicate, List.replicate_append_replicate]
    congr 1
    omega
  · rfl
theorem own_reads' {w : World} {base n c : Nat} {e : TypeId} {k : IntKind} {A : Option Addr} {xs : List Int} (h : w.ownsRow base e 1 (.slice A n c) n (nums k xs)) : ReadsInt w k A n xs ∧ n ≤ c := by
  obtain ⟨A', c', he, hr⟩ := own_reads h
  simp only [Value.slice.injEq] at he
  obtain ⟨rfl, _, rfl⟩ := he
  exact ⟨hr, own_le h⟩
def ZRow (w : World) (g m : Nat) : Prop := w.ownsRow g 5 1 (.slice (some ⟨g, 0, none⟩) m m) m (nums .u8 (zeros m))
theorem HRd {g m : Nat} (w : World) (h : ZRow w g m) : ReadsInt w .u8 (some ⟨g, 0, none⟩) m (zeros m) := (own_reads' h).1
theorem putz (g m : Nat) (t n : Int) (w : World) (h : ZRow w g m) :
    Calls Try.prog 23 #[.slice (some ⟨g, 0, none⟩) m m, .int .i64 t, .int .i64 n, .int .u64 0] w fun e w' => e = .returned (.bool (putB m t n)) ∧ ZRow w' g m ∧ w.grownBy w' (some g) := by
  have h' : w.ownsRow g 5 1 (.slice (some ⟨g, 0, none⟩) (zeros m).length m) (zeros m).length (nums .u8 (zeros m)) := by rw [zeros_len]; exact h
  have := Put_calls g g m (zeros m) t n 0 w h' (by decide) (by decide)
  rw [zeros_len] at this
  refine this.mono ?_
  rintro e w' ⟨he, ho, hg⟩
  rw [putV_zeros, zeros_len] at ho
  rw [zeros_len] at he
  exact ⟨he, ho, hg⟩
set_option maxHeartbeats 4000000 in
set_option maxRecDepth 100000 in
theorem LeEnds_walk (n : Int) (w : World) :
    Calls Try.prog 7 #[.int .i64 n] w fun e w' => e = .returned (.bool true) ∧ Below w.heap.size w w' := by
  have h0 := and_i64 n 255 (by decide)
  obtain ⟨m, hm, hq⟩ : ∃ m : Nat, m < 40 ∧ (bits .and .i64 n 255).tmod 40 = m := by
    have h1 : 0 ≤ bits .and .i64 n 255 := h0.1
    exact ⟨((bits .and .i64 n 255) % 40).toNat, by omega, by rw [Int.tmod_eq_emod_of_nonneg h1]; omega⟩
  have hmk := print_make (P := Try.prog) 22 5 .u8 1 Try.underlying22 info_u8 (by decide) m (by omega)
  have hown := Lib.hid (own_made w w.heap.size 5 .u8 m (Nat.le_refl _) (by omega))
  have hm' : (m : Int) ≤ 39 := by omega
  clear h0
  go_enter Try.func7, Try.ntmps7
  go_wp2
  go_loopw [4] (fun i wr => ∃ t : Int, -3 ≤ t ∧ t ≤ m + 4 ∧ i = .int .i64 t ∧ ZRow wr w.heap.size m ∧ Below w.heap.size w wr) (fun i _ => ((m : Int) + 4 - intOf i).toNat)
  case atStart => exact ⟨-3, by omega, by omega, rfl, hown.out, (Below.refl _ _).alloc (Nat.le_refl _) _⟩
  case round =>
  clear hown hmk hq
  obtain ⟨t, t1, t2, rfl, ho, hb⟩ := hrel
  have HO := Aside0.mk ho
  have HB := Aside0.mk hb
  clear ho hb
  by_cases hlt : (m : Int) + 3 < t
  · have dL : decide (t ≤ (m : Int) + 3) = false := decide_eq_false (by omega)
    go_wp2_with fail
    refine (le_awake _).mono ?_
    rintro e w1 ⟨rfl, hbl⟩
    go_wp2
    go_ret
    exact ⟨rfl, HB.out.trans (hbl.mono HB.out.size)⟩
  have dL : decide (t ≤ (m : Int) + 3) = true := decide_eq_true (by omega)
  have hc : t < 0 ∨ (0 ≤ t ∧ (m : Int) < t + 2) ∨ (0 ≤ t ∧ t + 2 ≤ m ∧ (m : Int) < t + 4) ∨ (0 ≤ t ∧ t + 4 ≤ m ∧ (m : Int) < t + 8) ∨ (0 ≤ t ∧ t + 8 ≤ (m : Int)) := by omega
  rcases hc with hc | hc | hc | hc | hc
  · have dS : decide (0 ≤ t) = false := decide_eq_false (by omega)
    have i2 : inB m t 2 = false := decide_eq_false (by omega)
    have i4 : inB m t 4 = false := decide_eq_false (by omega)
    have i8 : inB m t 8 = false := decide_eq_false (by omega)
    have p8 : putB m t 8 = false := decide_eq_false (by omega)
    have p0 : putB m t 0 = false := decide_eq_false (by omega)
    have p9 : putB m t 9 = false := decide_eq_false (by omega)
    clear hc
    go_wp2_with fail
    refine (U16_at _ m m (zeros m) t _ (HRd _ HO.out) (Nat.le_refl _) (zeros_bytes m)).mono ?_
    rintro e w1 ⟨rfl, rfl⟩
    go_wp2_with fail
    refine (U32_at _ m m (zeros m) t _ (HRd _ HO.out) (Nat.le_refl _) (zeros_bytes m)).mono ?_
    rintro e w1 ⟨rfl, rfl⟩
    go_wp2_with fail
    refine (U64_at _ m m (zeros m) t _ (HRd _ HO.out) (Nat.le_refl _) (zeros_bytes m)).mono ?_
    rintro e w1 ⟨rfl, rfl⟩
    go_wp2_with fail
    refine (putz w.heap.size m t 8 _ HO.out).mono ?_
    rw [p8]
    rintro e w1 ⟨rfl, ho1, hg1⟩
    have HO1 := Aside0.mk ho1
    have HB1 := Aside0.mk (HB.out.grown hg1 HB.out.size (fun k hk => by cases hk; exact Nat.le_refl _))
    clear ho1 hg1
    go_wp2_with fail
    refine (putz w.heap.size m t 0 _ HO1.out).mono ?_
    rw [p0]
    rintro e w2 ⟨rfl, ho2, hg2⟩
    have HO2 := Aside0.mk ho2
    have HB2 := Aside0.mk (HB1.out.grown hg2 HB1.out.size (fun k hk => by cases hk; exact Nat.le_refl _))
    clear ho2 hg2
    go_wp2_with fail
    refine (putz w.heap.size m t 9 _ HO2.out).mono ?_
    rw [p9]
    rintro e w3 ⟨rfl, ho3, hg3⟩
    have HO3 := Aside0.mk ho3
    have HB3 := Aside0.mk (HB2.out.grown hg3 HB2.out.size (fun k hk => by cases hk; exact Nat.le_refl _))
    clear ho3 hg3
    go_wp2
    go_roundw
    case rel => exact ⟨t + 1, by omega, by omega, rfl, HO3.out, HB3.out⟩
    case measure => simp [intOf]; omega
  · have dS : decide (0 ≤ t) = true := decide_eq_true (by omega)
    have dD2 : decide (t + 2 ≤ (m : Int)) = false := decide_eq_false (by omega)
    have dD4 : decide (t + 4 ≤ (m : Int)) = false := decide_eq_false (by omega)
    have dD8 : decide (t + 8 ≤ (m : Int)) = false := decide_eq_false (by omega)
    have i2 : inB m t 2 = false := decide_eq_false (by omega)
    have i4 : inB m t 4 = false := decide_eq_false (by omega)
    have i8 : inB m t 8 = false := decide_eq_false (by omega)
    have p8 : putB m t 8 = false := decide_eq_false (by omega)
    have p0 : putB m t 0 = false := decide_eq_false (by omega)
    have p9 : putB m t 9 = false := decide_eq_false (by omega)
    clear hc
    go_wp2_with fail
    refine (U16_at _ m m (zeros m) t _ (HRd _ HO.out) (Nat.le_refl _) (zeros_bytes m)).mono ?_
    rintro e w1 ⟨rfl, rfl⟩
    go_wp2_with fail
    refine (U32_at _ m m (zeros m) t _ (HRd _ HO.out) (Nat.le_refl _) (zeros_bytes m)).mono ?_
    rintro e w1 ⟨rfl, rfl⟩
    go_wp2_with fail
    refine (U64_at _ m m (zeros m) t _ (HRd _ HO.out) (Nat.le_refl _) (zeros_bytes m)).mono ?_
    rintro e w1 ⟨rfl, rfl⟩
    go_wp2_with fail
    refine (putz w.heap.size m t 8 _ HO.out).mono ?_
    rw [p8]
    rintro e w1 ⟨rfl, ho1, hg1⟩
    have HO1 := Aside0.mk ho1
    have HB1 := Aside0.mk (HB.out.grown hg1 HB.out.size (fun k hk => by cases hk; exact Nat.le_refl _))
    clear ho1 hg1
    go_wp2_with fail
    refine (putz w.heap.size m t 0 _ HO1.out).mono ?_
    rw [p0]
    rintro e w2 ⟨rfl, ho2, hg2⟩
    have HO2 := Aside0.mk ho2
    have HB2 := Aside0.mk (HB1.out.grown hg2 HB1.out.size (fun k hk => by cases hk; exact Nat.le_refl _))
    clear ho2 hg2
    go_wp2_with fail
    refine (putz w.heap.size m t 9 _ HO2.out).mono ?_
    rw [p9]
    rintro e w3 ⟨rfl, ho3, hg3⟩
    have HO3 := Aside0.mk ho3
    have HB3 := Aside0.mk (HB2.out.grown hg3 HB2.out.size (fun k hk => by cases hk; exact Nat.le_refl _))
    clear ho3 hg3
    go_wp2
    go_roundw
    case rel => exact ⟨t + 1, by omega, by omega, rfl, HO3.out, HB3.out⟩
    case measure => simp [intOf]; omega
  · have dS : decide (0 ≤ t) = true := decide_eq_true (by omega)
    have dD2 : decide (t + 2 ≤ (m : Int)) = true := decide_eq_true (by omega)
    have dD4 : decide (t + 4 ≤ (m : Int)) = false := decide_eq_false (by omega)
    have dD8 : decide (t + 8 ≤ (m : Int)) = false := decide_eq_false (by omega)
    have i2 : inB m t 2 = true := decide_eq_true (by omega)
    have i4 : inB m t 4 = false := decide_eq_false (by omega)
    have i8 : inB m t 8 = false := decide_eq_false (by omega)
    have p8 : putB m t 8 = false := decide_eq_false (by omega)
    have p0 : putB m t 0 = false := decide_eq_false (by omega)
    have p9 : putB m t 9 = false := decide_eq_false (by omega)
    clear hc
    go_wp2_with fail
    refine (U16_at _ m m (zeros m) t _ (HRd _ HO.out) (Nat.le_refl _) (zeros_bytes m)).mono ?_
    rintro e w1 ⟨rfl, rfl⟩
    go_wp2_with fail
    refine (U32_at _ m m (zeros m) t _ (HRd _ HO.out) (Nat.le_refl _) (zeros_bytes m)).mono ?_
    rintro e w1 ⟨rfl, rfl⟩
    go_wp2_with fail
    refine (U64_at _ m m (zeros m) t _ (HRd _ HO.out) (Nat.le_refl _) (zeros_bytes m)).mono ?_
    rintro e w1 ⟨rfl, rfl⟩
    go_wp2_with fail
    refine (putz w.heap.size m t 8 _ HO.out).mono ?_
    rw [p8]
    rintro e w1 ⟨rfl, ho1, hg1⟩
    have HO1 := Aside0.mk ho1
    have HB1 := Aside0.mk (HB.out.grown hg1 HB.out.size (fun k hk => by cases hk; exact Nat.le_refl _))
    clear ho1 hg1
    go_wp2_with fail
    refine (putz w.heap.size m t 0 _ HO1.out).mono ?_
    rw [p0]
    rintro e w2 ⟨rfl, ho2, hg2⟩
    have HO2 := Aside0.mk ho2
    have HB2 := Aside0.mk (HB1.out.grown hg2 HB1.out.size (fun k hk => by cases hk; exact Nat.le_refl _))
    clear ho2 hg2
    go_wp2_with fail
    refine (putz w.heap.size m t 9 _ HO2.out).mono ?_
    rw [p9]
    rintro e w3 ⟨rfl, ho3, hg3⟩
    have HO3 := Aside0.mk ho3
    have HB3 := Aside0.mk (HB2.out.grown hg3 HB2.out.size (fun k hk => by cases hk; exact Nat.le_refl _))
    clear ho3 hg3
    go_wp2
    go_roundw
    case rel => exact ⟨t + 1, by omega, by omega, rfl, HO3.out, HB3.out⟩
    case measure => simp [intOf]; omega
  · have dS : decide (0 ≤ t) = true := decide_eq_true (by omega)
    have dD2 : decide (t + 2 ≤ (m : Int)) = true := decide_eq_true (by omega)
    have dD4 : decide (t + 4 ≤ (m : Int)) = true := decide_eq_true (by omega)
    have dD8 : decide (t + 8 ≤ (m : Int)) = false := decide_eq_false (by omega)
    have i2 : inB m t 2 = true := decide_eq_true (by omega)
    have i4 : inB m t 4 = true := decide_eq_true (by omega)
    have i8 : inB m t 8 = false := decide_eq_false (by omega)
    have p8 : putB m t 8 = false := decide_eq_false (by omega)
    have p0 : putB m t 0 = false := decide_eq_false (by omega)
    have p9 : putB m t 9 = false := decide_eq_false (by omega)
    clear hc
    go_wp2_with fail
    refine (U16_at _ m m (zeros m) t _ (HRd _ HO.out) (Nat.le_refl _) (zeros_bytes m)).mono ?_
    rintro e w1 ⟨rfl, rfl⟩
    go_wp2_with fail
    refine (U32_at _ m m (zeros m) t _ (HRd _ HO.out) (Nat.le_refl _) (zeros_bytes m)).mono ?_
    rintro e w1 ⟨rfl, rfl⟩
    go_wp2_with fail
    refine (U64_at _ m m (zeros m) t _ (HRd _ HO.out) (Nat.le_refl _) (zeros_bytes m)).mono ?_
    rintro e w1 ⟨rfl, rfl⟩
    go_wp2_with fail
    refine (putz w.heap.size m t 8 _ HO.out).mono ?_
    rw [p8]
    rintro e w1 ⟨rfl, ho1, hg1⟩
    have HO1 := Aside0.mk ho1
    have HB1 := Aside0.mk (HB.out.grown hg1 HB.out.size (fun k hk => by cases hk; exact Nat.le_refl _))
    clear ho1 hg1
    go_wp2_with fail
    refine (putz w.heap.size m t 0 _ HO1.out).mono ?_
    rw [p0]
    rintro e w2 ⟨rfl, ho2, hg2⟩
    have HO2 := Aside0.mk ho2
    have HB2 := Aside0.mk (HB1.out.grown hg2 HB1.out.size (fun k hk => by cases hk; exact Nat.le_refl _))
    clear ho2 hg2
    go_wp2_with fail
    refine (putz w.heap.size m t 9 _ HO2.out).mono ?_
    rw [p9]
    rintro e w3 ⟨rfl, ho3, hg3⟩
    have HO3 := Aside0.mk ho3
    have HB3 := Aside0.mk (HB2.out.grown hg3 HB2.out.size (fun k hk => by cases hk; exact Nat.le_refl _))
    clear ho3 hg3
    go_wp2
    go_roundw
    case rel => exact ⟨t + 1, by omega, by omega, rfl, HO3.out, HB3.out⟩
    case measure => simp [intOf]; omega
  · have dS : decide (0 ≤ t) = true := decide_eq_true (by omega)
    have dD2 : decide (t + 2 ≤ (m : Int)) = true := decide_eq_true (by omega)
    have dD4 : decide (t + 4 ≤ (m : Int)) = true := decide_eq_true (by omega)
    have dD8 : decide (t + 8 ≤ (m : Int)) = true := decide_eq_true (by omega)
    have i2 : inB m t 2 = true := decide_eq_true (by omega)
    have i4 : inB m t 4 = true := decide_eq_true (by omega)
    have i8 : inB m t 8 = true := decide_eq_true (by omega)
    have p8 : putB m t 8 = true := decide_eq_true (by omega)
    have p0 : putB m t 0 = false := decide_eq_false (by omega)
    have p9 : putB m t 9 = false := decide_eq_false (by omega)
    clear hc
    go_wp2_with fail
    refine (U16_at _ m m (zeros m) t _ (HRd _ HO.out) (Nat.le_refl _) (zeros_bytes m)).mono ?_
    rintro e w1 ⟨rfl, rfl⟩
    go_wp2_with fail
    refine (U32_at _ m m (zeros m) t _ (HRd _ HO.out) (Nat.le_refl _) (zeros_bytes m)).mono ?_
    rintro e w1 ⟨rfl, rfl⟩
    go_wp2_with fail
    refine (U64_at _ m m (zeros m) t _ (HRd _ HO.out) (Nat.le_refl _) (zeros_bytes m)).mono ?_
    rintro e w1 ⟨rfl, rfl⟩
    go_wp2_with fail
    refine (putz w.heap.size m t 8 _ HO.out).mono ?_
    rw [p8]
    rintro e w1 ⟨rfl, ho1, hg1⟩
    have HO1 := Aside0.mk ho1
    have HB1 := Aside0.mk (HB.out.grown hg1 HB.out.size (fun k hk => by cases hk; exact Nat.le_refl _))
    clear ho1 hg1
    go_wp2_with fail
    refine (putz w.heap.size m t 0 _ HO1.out).mono ?_
    rw [p0]
    rintro e w2 ⟨rfl, ho2, hg2⟩
    have HO2 := Aside0.mk ho2
    have HB2 := Aside0.mk (HB1.out.grown hg2 HB1.out.size (fun k hk => by cases hk; exact Nat.le_refl _))
    clear ho2 hg2
    go_wp2_with fail
    refine (putz w.heap.size m t 9 _ HO2.out).mono ?_
    rw [p9]
    rintro e w3 ⟨rfl, ho3, hg3⟩
    have HO3 := Aside0.mk ho3
    have HB3 := Aside0.mk (HB2.out.grown hg3 HB2.out.size (fun k hk => by cases hk; exact Nat.le_refl _))
    clear ho3 hg3
    go_wp2
    go_roundw
    case rel => exact ⟨t + 1, by omega, by omega, rfl, HO3.out, HB3.out⟩
    case measure => simp [intOf]; omega

set_option maxRecDepth 100000 in
theorem LeEnds_lifted (os : Os) (started : os.Started) (H : Type) (enc : TypeId × Value → H) :
    ReturnsInHanded {} Try.checked os 7 .any (Rows.leEndsSpec.pre6 enc Try.prog Try.f7 Rows.leEndsRow.domain false) (Rows.leEndsSpec.post enc Try.prog Try.f7 false true false false) := by
  refine returnsInHanded_of_change (C := Try.checked) row_own started (by kernel_rfl) Try.func7
    (ChangeSpec.witness6 (enc := enc) (C := Try.checked) false ⟨#[], #[.int .i64 0], []⟩ 8 (by kernel_rfl) (by kernel_rfl) (by kernel_rfl) (by kernel_rfl)) ?_
  intro W base args ds gs before hval0 hW hcnd _
  have hval : ∀ (j : Nat) t v, Try.f7.params[j]? = some t → args[j]? = some v → Value.okWide Try.prog W .any base t v := hval0
  have hW' := hW
  obtain ⟨p, q, hA0, hV, rfl, hfz, hnd⟩ := hW
  have hA : DataW.TrodAll enc Try.prog W 0 (fun _ => true) true Try.f7.params.toList args.toList ds p := hA0
  rw [Try.params7] at hA hval
  obtain ⟨v0, vs0, d0, ds0, p0, q0, hargs, rfl, rfl, h0, r0⟩ := trodAll_cons hA
  obtain ⟨rfl, rfl, rfl⟩ := trodAll_nil r0
  obtain rfl : args = #[v0] := by cases args; simp_all
  obtain ⟨rfl, rfl⟩ := trodVars_none hV
  have k0 := h0
  have lt0 : ∀ x ∈ p0, x.block < W.heap.size := by obtain ⟨m, hm⟩ := k0; exact DataW.trod_lt m _ _ _ hm
  obtain ⟨a0, rfl, rfl, rfl, w0⟩ := open_int Try.underlying3 (hval 0 3 v0 rfl rfl) h0
  clear hA0 hval0
  refine (LeEnds_walk a0 W).mono fun e W' ⟨he, bel⟩ => ?_
  subst he
  exact ⟨_, rfl, _, _, _, [], _, [], hW', trodAll_mk1 (shut_bool Try.underlying4 _), (trodAll_cons_mk (Below.trod row_laidOut (by kernel_rfl) (of_decide_eq_true (by kernel_rfl)) k0 bel lt0) trodAll_mk0), rfl, bel.frame _, fun h => by cases h⟩
theorem LeEnds_over : Rows.leEndsRow.holds Try.pinned (OpenSpec.ofChange Rows.leEndsSpec) :=
  OpenClaim.holds_of_wide 7 Try.f7 rfl rfl rfl rfl rfl rfl rfl ⟨rfl, rfl, rfl, rfl, rfl⟩ rfl rfl rfl rfl rfl (by kernel_rfl) Try.func7 (by kernel_rfl)
    (of_decide_eq_true (by kernel_rfl)) (by unfold Func.isWrapper; first | (rw [if_pos (by decide +kernel)]; kernel_rfl) | (rw [if_neg (by decide +kernel)]; exact ⟨rfl, rfl⟩))
    (fun os started H enc _ => LeEnds_lifted os started H enc)
theorem LeEnds_holds : Rows.LeEndsSaid := LeEnds_over

#print axioms LeEnds_holds
end Go.Proofs.Ytcmpcejbephaeaa
