-- Written by wip/xprint.py: a function and the proof of its contract.
import Derived.Test.YtojlcoebbgafhaaR0
import Derived.Test.YtojlcoebbgafhaaRF22
import Derived.Test.YtojlcoebbgafhaaRF20
import Derived.Test.YtojlcoebbgafhaaRF25
import Derived.Test.YtojlcoebbgafhaaRF28
import Derived.Test.YtojlcoebbgafhaaE2
namespace Go.Proofs.Ytojlcoebbgafhaa.PR
open Go.RowKit Go.Proofs.YtojlcoebbgafhaaW.PrintWords Go.Proofs.YtojlcoebbgafhaaW.PrintLast Go.Proofs.YtojlcoebbgafhaaW.PrintMore
attribute [local go_sem] max2_int min2_int max_two min_two max_three min_three max_four min_four   -- for this text's walks alone
set_option linter.unusedVariables false
set_option linter.unusedSimpArgs false

/-! ### slipwaylaw10_RelBack: function 9 -/
def slipwaylaw10_RelBack.j0 : Nat → Int → List (S46) → Bool → Option (Bool)
  | 0, _, _, _ => none
  | k + 1, x1, x5, x34 => if x34 = true then (some false) else (if (x5.length : Int) = 0 then ((slipwaylaw10_awake.f k).bind fun t115 => (some t115)) else ((some (([] : List (S46)) : List (S46))).bind fun y116 => (if y116.length + x5.length < 8796093022208 then ((some (y116 ++ x5 : List (S46))).bind fun y119 => (if 0 ≤ (Int.tmod (Go.bits .and .i64 x1 255) (x5.length : Int)) then (if (Int.tmod (Go.bits .and .i64 x1 255) (x5.length : Int)) < (x5.length : Int) then ((some (([(⟨3, wrap64 (((rd_T46 x5 (Int.tmod (Go.bits .and .i64 x1 255) (x5.length : Int))).f1) + 3)⟩ : S46)] : List (S46)) : List (S46))).bind fun y123 => (if y119.length + y123.length < 8796093022208 then ((slipwaylaw10_Made.f k (y119 ++ y123) 10020).bind fun bt129 => ((rel_Parse.f bt129.1 bt129.2.1 bt129.2.2).bind fun bt134 => (if bt134.2 = 9 then ((slipwaylaw10_awake.f k).bind fun t138 => (some t138)) else (some false)))) else (none))) else (none)) else (none))) else (none))))
def slipwaylaw10_RelBack.f (k : Nat) (l0 : List (S46)) (a1 : Int) : Option (Bool) := (slipwaylaw10_Apart.f k l0 10000).bind fun t101 => ((slipwaylaw10_Made.f k t101 10000).bind fun bt104 => ((rel_Parse.f bt104.1 bt104.2.1 bt104.2.2).bind fun bt110 => (if bt110.2 = 0 then ((slipwayref1_SameRels.f k bt110.1 t101).bind fun t114 => (slipwaylaw10_RelBack.j0 k a1 t101 (!t114))) else (slipwaylaw10_RelBack.j0 k a1 t101 true))))
theorem slipwaylaw10_RelBack.mono_l : ∀ k, (∀ y0 y1 y2, LeO (slipwaylaw10_RelBack.j0 k y0 y1 y2) (slipwaylaw10_RelBack.j0 (k + 1) y0 y1 y2))
  | 0 => fun _ _ _ r h => by simp [slipwaylaw10_RelBack.j0] at h
  | k + 1 => by
    have ih0 := slipwaylaw10_RelBack.mono_l k
    · intro y0 y1 y2
      unfold slipwaylaw10_RelBack.j0
      repeat' first
      | (with_reducible exact ih0 _ _ _)
      | (with_reducible exact slipwaylaw10_Apart.mono _ _ _)
      | (with_reducible exact slipwaylaw10_Made.mono _ _ _)
      | (with_reducible exact slipwaylaw10_awake.mono _)
      | (with_reducible exact slipwayref1_SameRels.mono _ _ _)
      | (with_reducible exact LeO.refl _)
      | (with_reducible exact LeO.none _)
      | (with_reducible refine LeO.ite ?_ ?_)
      | (with_reducible refine LeO.bind ?_ (fun _ => ?_))
      | exact ih0 _ _ _
      | exact slipwaylaw10_Apart.mono _ _ _
      | exact slipwaylaw10_Made.mono _ _ _
      | exact slipwaylaw10_awake.mono _
      | exact slipwayref1_SameRels.mono _ _ _
      | exact LeO.none _
      | refine LeO.ite ?_ ?_
      | refine LeO.bind ?_ (fun _ => ?_)
theorem slipwaylaw10_RelBack.mono : ∀ a0 a1 k, LeO (slipwaylaw10_RelBack.f k a0 a1) (slipwaylaw10_RelBack.f (k + 1) a0 a1) := by
  intro a0 a1 k
  have ih0 := slipwaylaw10_RelBack.mono_l k
  unfold slipwaylaw10_RelBack.f
  repeat' first
      | (with_reducible exact ih0 _ _ _)
      | (with_reducible exact slipwaylaw10_Apart.mono _ _ _)
      | (with_reducible exact slipwaylaw10_Made.mono _ _ _)
      | (with_reducible exact slipwaylaw10_awake.mono _)
      | (with_reducible exact slipwayref1_SameRels.mono _ _ _)
      | (with_reducible exact LeO.refl _)
      | (with_reducible exact LeO.none _)
      | (with_reducible refine LeO.ite ?_ ?_)
      | (with_reducible refine LeO.bind ?_ (fun _ => ?_))
      | exact ih0 _ _ _
      | exact slipwaylaw10_Apart.mono _ _ _
      | exact slipwaylaw10_Made.mono _ _ _
      | exact slipwaylaw10_awake.mono _
      | exact slipwayref1_SameRels.mono _ _ _
      | exact LeO.none _
      | refine LeO.ite ?_ ?_
      | refine LeO.bind ?_ (fun _ => ?_)
def slipwaylaw10_RelBack.T9 : Bool × List (List Nat × List Nat) := (true, [([], []), ([], []), ([0, 1], [0, 1]), ([], []), ([], []), ([3, 4], [3, 4]), ([5], [5]), ([6], [6]), ([7], [7]), ([8], [8]), ([9], [9]), ([2, 10, 2], [2, 10]), ([11, 11, 0, 1, 2, 3, 4, 5, 6, 7, 8, 9, 10, 11], [11])])
def slipwaylaw10_RelBack.B9 : List Nat := [0, 0, 3, 0, 0, 24, 56, 120, 248, 504, 1016, 2047, 4095]
theorem slipwaylaw10_RelBack.tab9 : rtab .any (opsOf Try.f9 9) = slipwaylaw10_RelBack.T9 := by kernel_rfl
theorem slipwaylaw10_RelBack.bits9 : waitsOk slipwaylaw10_RelBack.T9.2 slipwaylaw10_RelBack.B9 = true := by kernel_rfl
set_option maxHeartbeats 8000000 in
set_option maxRecDepth 100000 in
theorem slipwaylaw10_RelBack.calls (k : Nat) (A0 : Option Addr) (c0 : Nat) (l0 : List (S46)) (a1 : Int) (r : Bool) (w : World) (hr0 : Kd.C k46 w A0 l0.length l0) (hc0 : l0.length ≤ c0) (h : slipwaylaw10_RelBack.f k l0 a1 = some r) :
    Calls Try.prog 9 #[.slice A0 l0.length c0, .int .i64 a1] w fun e w' => e = .returned (.bool r) ∧ Below w.heap.size w w' := by
  have hu32 := Try.underlying32
  have hu46 := Try.underlying46
  have HR0 := Aside0.mk hr0
  have HC0 := Aside0.mk hc0
  clear hr0 hc0
  have HB := Aside0.mk (Below.refl w.heap.size w)
  have H : ((slipwaylaw10_Apart.f k l0 10000).bind fun t101 => ((slipwaylaw10_Made.f k t101 10000).bind fun bt104 => ((rel_Parse.f bt104.1 bt104.2.1 bt104.2.2).bind fun bt110 => (if bt110.2 = 0 then ((slipwayref1_SameRels.f k bt110.1 t101).bind fun t114 => (slipwaylaw10_RelBack.j0 k a1 t101 (!t114))) else (slipwaylaw10_RelBack.j0 k a1 t101 true))))) = some r := h
  clear h
  replace H := Option.bind_eq_some_iff.mp H
  obtain ⟨t101, A30, H⟩ := H
  replace H : ((slipwaylaw10_Made.f k t101 10000).bind fun bt104 => ((rel_Parse.f bt104.1 bt104.2.1 bt104.2.2).bind fun bt110 => (if bt110.2 = 0 then ((slipwayref1_SameRels.f k bt110.1 t101).bind fun t114 => (slipwaylaw10_RelBack.j0 k a1 t101 (!t114))) else (slipwaylaw10_RelBack.j0 k a1 t101 true)))) = some r := H
  have A3 := Aside0.mk A30
  clear A30
  replace H := Option.bind_eq_some_iff.mp H
  obtain ⟨⟨t104, t107, t108⟩, A40, H⟩ := H
  replace H : ((rel_Parse.f t104 t107 t108).bind fun bt110 => (if bt110.2 = 0 then ((slipwayref1_SameRels.f k bt110.1 t101).bind fun t114 => (slipwaylaw10_RelBack.j0 k a1 t101 (!t114))) else (slipwaylaw10_RelBack.j0 k a1 t101 true))) = some r := H
  have A4 := Aside0.mk A40
  clear A40
  replace H := Option.bind_eq_some_iff.mp H
  obtain ⟨⟨t110, t113⟩, A50, H⟩ := H
  replace H : (if t113 = 0 then ((slipwayref1_SameRels.f k t110 t101).bind fun t114 => (slipwaylaw10_RelBack.j0 k a1 t101 (!t114))) else (slipwaylaw10_RelBack.j0 k a1 t101 true)) = some r := H
  have A5 := Aside0.mk A50
  clear A50
  have HC6 := Aside0.mk H
  clear H
  go_enter Try.func9, Try.ntmps9
  go_upto_region 4 with (first | ((with_reducible refine gate_callee (f := 28) rfl ?_); refine goesL_ (some 15) rfl rfl Try.func28 (by kernel_rfl) rfl #[.slice A0 l0.length c0, .int .i64 10000] rfl (by (try simp only [List.map_toArray, List.map_cons, List.map_nil]); first | done | rfl | (simp only [List.length_drop, List.length_take]; rfl)) ?_; (with_reducible refine (slipwaylaw10_Apart.calls k _ _ l0 10000 t101 _ ?side1 ?side2 A3.out).mono ?_); (case side1 => repeat (first | exact HR0.out | (with_reducible refine Kd.C_alloc ?_ _) | (with_reducible refine Kd.C_drewN ?_ _) | (with_reducible refine Kd.C_drew ?_))); (case side2 => exact HC0.out); rintro e w7 ⟨v102, rfl, ho0, hb⟩; refine ⟨_, rfl, ?_⟩; have n0_ := Aside0.mk (Kd.R_lower ho0 (below_size (by repeat (first | (with_reducible first | exact HB.out | apply below_alloc | apply pw_below_drewN | apply below_drew1) | exact HB.out)))); have n1_ := Aside0.mk (below_step (by repeat (first | (with_reducible first | exact HB.out | apply below_alloc | apply pw_below_drewN | apply below_drew1) | exact HB.out)) hb); clear HB; have HO103 := n0_; have HB := n1_; clear n0_ n1_; (try clear hb); (try clear hb2); (try clear hk); (try clear hi); (try clear ho0); obtain ⟨Ao8, co8, eo8⟩ := Kd.R_slice HO103.out; subst eo8) | ((with_reducible refine gate_callee (f := 22) rfl ?_); refine goesL_ (some 18) rfl rfl Try.func22 (by kernel_rfl) rfl #[.slice Ao8 t101.length co8, .int .i64 10000] rfl (by (try simp only [List.map_toArray, List.map_cons, List.map_nil]); first | done | rfl | (simp only [List.length_drop, List.length_take]; rfl)) ?_; (with_reducible refine (slipwaylaw10_Made.calls k _ _ t101 10000 t104 t107 t108 _ ?side1 ?side2 A4.out).mono ?_); (case side1 => repeat (first | exact (Kd.R_reads' HO103.out).2.2 | (with_reducible refine Kd.C_alloc ?_ _) | (with_reducible refine Kd.C_drewN ?_ _) | (with_reducible refine Kd.C_drew ?_))); (case side2 => exact (Kd.R_reads' HO103.out).2.1); rintro e w9 ⟨v105, rfl, ho0, hb⟩; refine ⟨_, rfl, ?_⟩; have n0_ := Aside0.mk (Kd.R_below (by (with_reducible repeat (first | apply Kd.R_alloc | apply Kd.R_drewN | apply Kd.R_drew)); exact HO103.out) hb); have n1_ := Aside0.mk (Kd.R_lower ho0 (below_size (by repeat (first | (with_reducible first | exact HB.out | apply below_alloc | apply pw_below_drewN | apply below_drew1) | exact HB.out)))); have n2_ := Aside0.mk (below_step (by repeat (first | (with_reducible first | exact HB.out | apply below_alloc | apply pw_below_drewN | apply below_drew1) | exact HB.out)) hb); clear HO103; clear HB; have HO103 := n0_; have HO106 := n1_; have HB := n2_; clear n0_ n1_ n2_; (try clear hb); (try clear hb2); (try clear hk); (try clear hi); (try clear ho0)) | ((with_reducible refine gate_dst (N := 7) rfl ?_); refine box_event ?hg (N := 7) ?hd (cs := #[.int .i64 0, .int .i64 0]) (t := 32) ?hr ?_; (case hd => rfl); (case hg => rfl); (case hr => first | (go_simp; done) | (go_simp; rfl)); intro gb109 hg w10 hbox hb; have n0_ := Aside0.mk (Kd.R_below (by (with_reducible repeat (first | apply Kd.R_alloc | apply Kd.R_drewN | apply Kd.R_drew)); exact HO103.out) hb); have n1_ := Aside0.mk (Kd.R_below (by (with_reducible repeat (first | apply Kd.R_alloc | apply Kd.R_drewN | apply Kd.R_drew)); exact HO106.out) hb); have n2_ := Aside0.mk (below_step (by repeat (first | (with_reducible first | exact HB.out | apply below_alloc | apply pw_below_drewN | apply below_drew1) | exact HB.out)) hb); have n3_ := Aside0.mk (hbox); have n4_ := Aside0.mk ((by rw [hg]; exact (below_size (by repeat (first | (with_reducible first | exact HB.out | apply below_alloc | apply pw_below_drewN | apply below_drew1) | exact HB.out))) : w.heap.size ≤ gb109)); have n5_ := Aside0.mk ((by rw [hg]; exact (below_size (by repeat (first | (with_reducible first | exact HB.out | apply below_alloc | apply pw_below_drewN | apply below_drew1) | exact HB.out))) : w.heap.size ≤ gb109)); clear HO103; clear HO106; clear HB; have HO103 := n0_; have HO106 := n1_; have HB := n2_; have BK109 := n3_; have GW109 := n4_; have GE109 := n5_; clear n0_ n1_ n2_ n3_ n4_ n5_; clear hb hbox hg; have hcz11_0 : w10.cell? ⟨gb109, 0, none⟩ = some (.int .i64 0) := (blk_cell BK109.out 0).trans rfl; have hcz11_1 : w10.cell? ⟨gb109, 1, none⟩ = some (.int .i64 0) := (blk_cell BK109.out 1).trans rfl; have hfz11_0 := blk_frozen BK109.out 0; have hfz11_1 := blk_frozen BK109.out 1; obtain ⟨Ao12, co12, eo12⟩ := Kd.R_slice HO106.out; subst eo12) | ((with_reducible refine gate_callee (f := 19) rfl ?_); refine goesL_ (some 24) rfl rfl Try.func19 (by kernel_rfl) rfl #[.slice Ao12 t104.length co12, .agg #[.int .i64 t107, .int .i64 t108]] rfl (by (try simp only [List.map_toArray, List.map_cons, List.map_nil]); first | done | rfl | (simp only [List.length_drop, List.length_take]; rfl)) ?_; (with_reducible refine (rel_Parse.calls _ _ t104 t107 t108 t110 t113 _ ?side1 ?side2 A5.out).mono ?_); (case side1 => refine (Kd.R_reads' (e := 5) (base := w.heap.size) (ok := fun k_ => True) (n := t104.length) (c := co12) ?_).2.2; exact (by (with_reducible repeat (first | apply Kd.R_alloc | apply Kd.R_drewN | apply Kd.R_drew)); exact (Kd.R_mono (Kd.R_far (p := ⟨gb109, 1, none⟩) (Kd.R_far (p := ⟨gb109, 0, none⟩) (Kd.R_types HO106.out BK109.out (by decide)) (fun _ hk => hk.2) (.int .i64 t107)) (fun _ hk => hk.2) (.int .i64 t108)) (fun _ h_ => h_.1)))); (case side2 => exact (Kd.R_reads' HO106.out).2.1); rintro e w13 ⟨v111, rfl, ho0, hb⟩; refine ⟨_, rfl, ?_⟩; have n0_ := Aside0.mk (Kd.R_elder' (by (with_reducible repeat (first | apply Kd.R_alloc | apply Kd.R_drewN | apply Kd.R_drew)); exact (Kd.R_mono (Kd.R_far (p := ⟨gb109, 1, none⟩) (Kd.R_far (p := ⟨gb109, 0, none⟩) (Kd.R_types HO103.out BK109.out (by decide)) (fun _ hk => hk.2) (.int .i64 t107)) (fun _ hk => hk.2) (.int .i64 t108)) (fun _ h_ => h_.1))) (Kd.R_base ho0) hb); have n1_ := Aside0.mk (Kd.R_below (by (with_reducible repeat (first | apply Kd.R_alloc | apply Kd.R_drewN | apply Kd.R_drew)); exact (Kd.R_mono (Kd.R_far (p := ⟨gb109, 1, none⟩) (Kd.R_far (p := ⟨gb109, 0, none⟩) (Kd.R_types HO106.out BK109.out (by decide)) (fun _ hk => hk.2) (.int .i64 t107)) (fun _ hk => hk.2) (.int .i64 t108)) (fun _ h_ => h_.1))) hb); have n2_ := Aside0.mk (Kd.R_lower (Kd.R_new' ho0 (Kd.R_lt (by (with_reducible repeat (first | apply Kd.R_alloc | apply Kd.R_drewN | apply Kd.R_drew)); exact (Kd.R_mono (Kd.R_far (p := ⟨gb109, 1, none⟩) (Kd.R_far (p := ⟨gb109, 0, none⟩) (Kd.R_types HO103.out BK109.out (by decide)) (fun _ hk => hk.2) (.int .i64 t107)) (fun _ hk => hk.2) (.int .i64 t108)) (fun _ h_ => h_.1))))) (below_size (by repeat (first | (with_reducible first | exact HB.out | apply below_alloc | apply pw_below_drewN | apply below_drew1 | refine below_set ?_ GE109.out) | exact HB.out)))); have n3_ := Aside0.mk (blk_below (g := gb109) (o := .cells #[.int .i64 t107, .int .i64 t108] 32 (0, 0)) (by (with_reducible repeat (first | refine blk_drewN ?_ _ | refine blk_drew ?_ | refine blk_alloc ?_ _)); refine blk_put (cs := #[.int .i64 t107, .int .i64 0]) ?_ 1 _ rfl; (with_reducible repeat (first | refine blk_drewN ?_ _ | refine blk_drew ?_ | refine blk_alloc ?_ _)); refine blk_put (cs := #[.int .i64 0, .int .i64 0]) ?_ 0 _ rfl; (with_reducible repeat (first | refine blk_drewN ?_ _ | refine blk_drew ?_ | refine blk_alloc ?_ _)); exact BK109.out) hb); have n4_ := Aside0.mk (below_step (by repeat (first | (with_reducible first | exact HB.out | apply below_alloc | apply pw_below_drewN | apply below_drew1 | refine below_set ?_ GE109.out) | exact HB.out)) hb); clear HO103; clear HO106; clear BK109; clear HB; have HO103 := n0_; have HO106 := n1_; have HO112 := n2_; have BK109 := n3_; have HB := n4_; clear n0_ n1_ n2_ n3_ n4_; (try clear hb); (try clear hb2); (try clear hk); (try clear hi); (try clear ho0)))
  (try simp only [Act.put, List.setIfInBounds_toArray, List.set_cons_zero, List.set_cons_succ])
  go_cut [34] (fun v34 wc => ∃ (kq : Nat) (x34_5 : Bool), v34 = .bool x34_5 ∧ Aside0 (slipwaylaw10_RelBack.j0 kq a1 t101 x34_5 = some r) ∧ Aside0 (kq ≤ k) ∧ Aside0 (Kd.R k46 46 wc w.heap.size (fun _ => True) (.slice Ao8 t101.length co8) t101) ∧ Aside0 (wc.heap[gb109]? = some (.cells #[.int .i64 t107, .int .i64 t108] 32 (0, 0))) ∧ Aside0 (Below w.heap.size w wc))
  case first =>
    have H := HC6.out
    clear HC6
    by_cases c14 : t113 = 0
    · rw [if_pos c14] at H
      have c14b0 : (t113 == 0) = true := beq_iff_eq.mpr c14
      have c14b1 : (t113 != 0) = false := bne_eq_false_iff_eq.mpr c14
      clear c14
      (first | rw [c14b0] | (simp only [i64_w, i32_w]; rw [c14b0]) | skip)
      replace H := Option.bind_eq_some_iff.mp H
      obtain ⟨t114, A150, H⟩ := H
      replace H : (slipwaylaw10_RelBack.j0 k a1 t101 (!t114)) = some r := H
      have A15 := Aside0.mk A150
      clear A150
      have H' := Aside0.mk H
      clear H
      obtain ⟨Ao16, co16, eo16⟩ := Kd.R_slice HO112.out
      subst eo16
      go_wp2_with (first | (go_at_call 25; (with_reducible refine (slipwayref1_SameRels.calls k _ _ t110 _ _ t101 t114 _ ?side1 ?side2 ?side3 ?side4 A15.out).mono ?_); (case side1 => repeat (first | exact (Kd.R_reads' HO112.out).2.2 | (with_reducible refine Kd.C_alloc ?_ _) | (with_reducible refine Kd.C_drewN ?_ _) | (with_reducible refine Kd.C_drew ?_))); (case side2 => exact (Kd.R_reads' HO112.out).2.1); (case side3 => repeat (first | exact (Kd.R_reads' HO103.out).2.2 | (with_reducible refine Kd.C_alloc ?_ _) | (with_reducible refine Kd.C_drewN ?_ _) | (with_reducible refine Kd.C_drew ?_))); (case side4 => exact (Kd.R_reads' HO103.out).2.1); rintro e w' ⟨rfl, ⟨nd, rfl⟩⟩))
      go_meet
      case rel => exact ⟨_, (!t114), (by first | rfl | (simp; done) | (simp [*]; done)), H', ⟨by first | omega | exact Nat.le_refl _⟩, ⟨by (with_reducible repeat (first | apply Kd.R_alloc | apply Kd.R_drewN | apply Kd.R_drew)); exact Kd.R_mono HO103.out (fun _ hk => trivial)⟩, ⟨by (with_reducible repeat (first | refine blk_drewN ?_ _ | refine blk_drew ?_ | refine blk_alloc ?_ _)); exact BK109.out⟩, ⟨by repeat (first | (with_reducible first | exact HB.out | apply below_alloc | apply pw_below_drewN | apply below_drew1 | refine below_set ?_ GE109.out) | exact HB.out)⟩⟩
    · rw [if_neg c14] at H
      have c14b0 : (t113 == 0) = false := beq_eq_false_iff_ne.mpr c14
      have c14b1 : (t113 != 0) = true := bne_iff_ne.mpr c14
      (first | rw [c14b0] | (simp only [i64_w, i32_w]; rw [c14b0]) | skip)
      have H' := Aside0.mk H
      clear H
      go_wp2
      go_meet
      case rel => exact ⟨_, (true), (by first | rfl | (simp; done) | (simp [*]; done)), H', ⟨by first | omega | exact Nat.le_refl _⟩, ⟨by (with_reducible repeat (first | apply Kd.R_alloc | apply Kd.R_drewN | apply Kd.R_drew)); exact Kd.R_mono HO103.out (fun _ hk => trivial)⟩, ⟨by (with_reducible repeat (first | refine blk_drewN ?_ _ | refine blk_drew ?_ | refine blk_alloc ?_ _)); exact BK109.out⟩, ⟨by repeat (first | (with_reducible first | exact HB.out | apply below_alloc | apply pw_below_drewN | apply below_drew1 | refine below_set ?_ GE109.out) | exact HB.out)⟩⟩
  case rest =>
    clear HC6
    try clear c1
    try clear c2
    try clear p2
    try clear c9
    try clear c14
    try clear c14b0
    try clear c14b1
    try clear hcz11_0
    try clear hcz11_1
    try clear hfz11_0
    try clear hfz11_1
    obtain ⟨kq, x34_5, rfl, HA, HJ5, HO_5, BK109, HB⟩ := hcut
    cases kq with
    | zero => exact absurd HA.out (by simp [slipwaylaw10_RelBack.j0])
    | succ kj5 =>
      have H := HA.out
      clear HA
      simp only [slipwaylaw10_RelBack.j0] at H
      by_cases c17 : x34_5 = true
      · subst c17
        have H1 : (some false) = some r := by rw [if_pos rfl] at H; exact H
        clear H
        have H := H1
        clear H1
        obtain rfl := Option.some.inj H
        go_wp2
        go_ret
        exact ⟨by first | rfl | (simp [errW_none, errW_some] <;> rfl) | (simp [*, errW_none, errW_some] <;> rfl), by repeat (first | (with_reducible first | exact HB.out | apply below_alloc | apply pw_below_drewN | apply below_drew1 | refine below_set ?_ GE109.out) | exact HB.out)⟩
      · replace c17 := Bool.eq_false_iff.mpr c17
        subst c17
        have H1 : (if (t101.length : Int) = 0 then ((slipwaylaw10_awake.f kj5).bind fun t115 => (some t115)) else ((some (([] : List (S46)) : List (S46))).bind fun y116 => (if y116.length + t101.length < 8796093022208 then ((some (y116 ++ t101 : List (S46))).bind fun y119 => (if 0 ≤ (Int.tmod (Go.bits .and .i64 a1 255) (t101.length : Int)) then (if (Int.tmod (Go.bits .and .i64 a1 255) (t101.length : Int)) < (t101.length : Int) then ((some (([(⟨3, wrap64 (((rd_T46 t101 (Int.tmod (Go.bits .and .i64 a1 255) (t101.length : Int))).f1) + 3)⟩ : S46)] : List (S46)) : List (S46))).bind fun y123 => (if y119.length + y123.length < 8796093022208 then ((slipwaylaw10_Made.f kj5 (y119 ++ y123) 10020).bind fun bt129 => ((rel_Parse.f bt129.1 bt129.2.1 bt129.2.2).bind fun bt134 => (if bt134.2 = 9 then ((slipwaylaw10_awake.f kj5).bind fun t138 => (some t138)) else (some false)))) else (none))) else (none)) else (none))) else (none)))) = some r := by rw [if_neg (show ¬ (false = true) by decide)] at H; exact H
        clear H
        have H := H1
        clear H1
        by_cases c18 : (t101.length : Int) = 0
        · rw [if_pos c18] at H
          have c18b0 : ((t101.length : Int) == 0) = true := beq_iff_eq.mpr c18
          have c18b1 : ((t101.length : Int) != 0) = false := bne_eq_false_iff_eq.mpr c18
          clear c18
          replace H := Option.bind_eq_some_iff.mp H
          obtain ⟨t115, A190, H⟩ := H
          replace H : (some t115) = some r := H
          have A19 := Aside0.mk A190
          clear A190
          obtain rfl := Option.some.inj H
          go_wp2_with (first | ((with_reducible refine gate_callee (f := 20) rfl ?_); refine goesL_ (some 38) rfl rfl Try.func20 (by kernel_rfl) rfl #[] rfl (by (try simp only [List.map_toArray, List.map_cons, List.map_nil]); first | done | rfl | (simp only [List.length_drop, List.length_take]; rfl)) ?_; (with_reducible refine (slipwaylaw10_awake.calls kj5  t115 _ A19.out).mono ?_); rintro e w20 ⟨rfl, hb⟩; refine ⟨_, rfl, ?_⟩; have n0_ := Aside0.mk (Kd.R_below (by (with_reducible repeat (first | apply Kd.R_alloc | apply Kd.R_drewN | apply Kd.R_drew)); exact HO_5.out) hb); have n1_ := Aside0.mk (blk_below (g := gb109) (o := .cells #[.int .i64 t107, .int .i64 t108] 32 (0, 0)) (by (with_reducible repeat (first | refine blk_drewN ?_ _ | refine blk_drew ?_ | refine blk_alloc ?_ _)); exact BK109.out) hb); have n2_ := Aside0.mk (below_step (by repeat (first | (with_reducible first | exact HB.out | apply below_alloc | apply pw_below_drewN | apply below_drew1 | refine below_set ?_ GE109.out) | exact HB.out)) hb); clear HO_5; clear BK109; clear HB; have HO_5 := n0_; have BK109 := n1_; have HB := n2_; clear n0_ n1_ n2_; (try clear hb); (try clear hb2); (try clear hk); (try clear hi)))
          go_ret
          exact ⟨by first | rfl | (simp [errW_none, errW_some] <;> rfl) | (simp [*, errW_none, errW_some] <;> rfl), by repeat (first | (with_reducible first | exact HB.out | apply below_alloc | apply pw_below_drewN | apply below_drew1 | refine below_set ?_ GE109.out) | exact HB.out)⟩
        · rw [if_neg c18] at H
          have c18b0 : ((t101.length : Int) == 0) = false := beq_eq_false_iff_ne.mpr c18
          have c18b1 : ((t101.length : Int) != 0) = true := bne_iff_ne.mpr c18
          have c18b2 : ¬ (t101 = []) := fun h_ => c18 (by rw [h_]; rfl)
          obtain ⟨y116, hy116⟩ : ∃ y_ : List (S46), y_ = (([] : List (S46))) := ⟨_, rfl⟩
          replace H : (if y116.length + t101.length < 8796093022208 then ((some (y116 ++ t101 : List (S46))).bind fun y119 => (if 0 ≤ (Int.tmod (Go.bits .and .i64 a1 255) (t101.length : Int)) then (if (Int.tmod (Go.bits .and .i64 a1 255) (t101.length : Int)) < (t101.length : Int) then ((some (([(⟨3, wrap64 (((rd_T46 t101 (Int.tmod (Go.bits .and .i64 a1 255) (t101.length : Int))).f1) + 3)⟩ : S46)] : List (S46)) : List (S46))).bind fun y123 => (if y119.length + y123.length < 8796093022208 then ((slipwaylaw10_Made.f kj5 (y119 ++ y123) 10020).bind fun bt129 => ((rel_Parse.f bt129.1 bt129.2.1 bt129.2.2).bind fun bt134 => (if bt134.2 = 9 then ((slipwaylaw10_awake.f kj5).bind fun t138 => (some t138)) else (some false)))) else (none))) else (none)) else (none))) else (none)) = some r := by first | (rw [hy116]; with_reducible exact H) | (have H2_ := (Option.bind_some _ _).symm.trans H; rw [hy116]; with_reducible exact H2_) | (have H2_ := (Option.bind_some _ _).symm.trans H; with_reducible exact H2_) | with_reducible exact H | (rw [hy116]; exact H) | exact H
          have Ny116 := Aside0.mk hy116
          clear hy116
          by_cases c21 : y116.length + t101.length < 8796093022208
          · rw [if_pos c21] at H
            have LMc21 := Aside0.mk c21
            clear c21
            obtain ⟨y119, hy119⟩ : ∃ y_ : List (S46), y_ = (y116 ++ t101) := ⟨_, rfl⟩
            replace H : (if 0 ≤ (Int.tmod (Go.bits .and .i64 a1 255) (t101.length : Int)) then (if (Int.tmod (Go.bits .and .i64 a1 255) (t101.length : Int)) < (t101.length : Int) then ((some (([(⟨3, wrap64 (((rd_T46 t101 (Int.tmod (Go.bits .and .i64 a1 255) (t101.length : Int))).f1) + 3)⟩ : S46)] : List (S46)) : List (S46))).bind fun y123 => (if y119.length + y123.length < 8796093022208 then ((slipwaylaw10_Made.f kj5 (y119 ++ y123) 10020).bind fun bt129 => ((rel_Parse.f bt129.1 bt129.2.1 bt129.2.2).bind fun bt134 => (if bt134.2 = 9 then ((slipwaylaw10_awake.f kj5).bind fun t138 => (some t138)) else (some false)))) else (none))) else (none)) else (none)) = some r := by first | (rw [hy119]; with_reducible exact H) | (have H2_ := (Option.bind_some _ _).symm.trans H; rw [hy119]; with_reducible exact H2_) | (have H2_ := (Option.bind_some _ _).symm.trans H; with_reducible exact H2_) | with_reducible exact H | (rw [hy119]; exact H) | exact H
            have Ny119 := Aside0.mk hy119
            clear hy119
            obtain ⟨ji22, hji22⟩ : ∃ j_ : Int, (Int.tmod (Go.bits .and .i64 a1 255) (t101.length : Int)) = j_ := ⟨_, rfl⟩
            replace H : (if 0 ≤ (ji22) then (if (ji22) < (t101.length : Int) then ((some (([(⟨3, wrap64 (((rd_T46 t101 (ji22)).f1) + 3)⟩ : S46)] : List (S46)) : List (S46))).bind fun y123 => (if y119.length + y123.length < 8796093022208 then ((slipwaylaw10_Made.f kj5 (y119 ++ y123) 10020).bind fun bt129 => ((rel_Parse.f bt129.1 bt129.2.1 bt129.2.2).bind fun bt134 => (if bt134.2 = 9 then ((slipwaylaw10_awake.f kj5).bind fun t138 => (some t138)) else (some false)))) else (none))) else (none)) else (none)) = some r := by first | (rw [hji22] at H; exact H) | (simp only [hji22] at H ⊢; exact H)
            by_cases c23 : 0 ≤ (ji22)
            · rw [if_pos c23] at H
              have c23b0 : decide (0 ≤ (ji22)) = true := decide_eq_true c23
              clear c23
              by_cases c24 : (ji22) < (t101.length : Int)
              · rw [if_pos c24] at H
                have c24b0 : decide ((ji22) < (t101.length : Int)) = true := decide_eq_true c24
                clear c24
                obtain ⟨y123, hy123⟩ : ∃ y_ : List (S46), y_ = (([(⟨3, wrap64 (((rd_T46 t101 (ji22)).f1) + 3)⟩ : S46)] : List (S46))) := ⟨_, rfl⟩
                replace H : (if y119.length + y123.length < 8796093022208 then ((slipwaylaw10_Made.f kj5 (y119 ++ y123) 10020).bind fun bt129 => ((rel_Parse.f bt129.1 bt129.2.1 bt129.2.2).bind fun bt134 => (if bt134.2 = 9 then ((slipwaylaw10_awake.f kj5).bind fun t138 => (some t138)) else (some false)))) else (none)) = some r := by first | (rw [hy123]; with_reducible exact H) | (have H2_ := (Option.bind_some _ _).symm.trans H; rw [hy123]; with_reducible exact H2_) | (have H2_ := (Option.bind_some _ _).symm.trans H; with_reducible exact H2_) | with_reducible exact H | (rw [hy123]; exact H) | exact H
                have Ny123 := Aside0.mk hy123
                clear hy123
                by_cases c25 : y119.length + y123.length < 8796093022208
                · rw [if_pos c25] at H
                  have LMc25 := Aside0.mk c25
                  clear c25
                  obtain ⟨y126, hy126⟩ : ∃ y_ : List (S46), y_ = (y119 ++ y123) := ⟨_, rfl⟩
                  replace H : ((slipwaylaw10_Made.f kj5 y126 10020).bind fun bt129 => ((rel_Parse.f bt129.1 bt129.2.1 bt129.2.2).bind fun bt134 => (if bt134.2 = 9 then ((slipwaylaw10_awake.f kj5).bind fun t138 => (some t138)) else (some false)))) = some r := by first | (rw [hy126]; with_reducible exact H) | (have H2_ := (Option.bind_some _ _).symm.trans H; rw [hy126]; with_reducible exact H2_) | (have H2_ := (Option.bind_some _ _).symm.trans H; with_reducible exact H2_) | with_reducible exact H | (rw [hy126]; exact H) | exact H
                  have Ny126 := Aside0.mk hy126
                  clear hy126
                  replace H := Option.bind_eq_some_iff.mp H
                  obtain ⟨⟨t129, t132, t133⟩, A260, H⟩ := H
                  replace H : ((rel_Parse.f t129 t132 t133).bind fun bt134 => (if bt134.2 = 9 then ((slipwaylaw10_awake.f kj5).bind fun t138 => (some t138)) else (some false))) = some r := H
                  have A26 := Aside0.mk A260
                  clear A260
                  replace H := Option.bind_eq_some_iff.mp H
                  obtain ⟨⟨t134, t137⟩, A270, H⟩ := H
                  replace H : (if t137 = 9 then ((slipwaylaw10_awake.f kj5).bind fun t138 => (some t138)) else (some false)) = some r := H
                  have A27 := Aside0.mk A270
                  clear A270
                  by_cases c28 : t137 = 9
                  · rw [if_pos c28] at H
                    have c28b0 : (t137 == 9) = true := beq_iff_eq.mpr c28
                    have c28b1 : (t137 != 9) = false := bne_eq_false_iff_eq.mpr c28
                    clear c28
                    replace H := Option.bind_eq_some_iff.mp H
                    obtain ⟨t138, A290, H⟩ := H
                    replace H : (some t138) = some r := H
                    have A29 := Aside0.mk A290
                    clear A290
                    obtain rfl := Option.some.inj H
                    try go_wp2
                    have n0_ := Aside0.mk (Kd.R_drew HO_5.out)
                    have n1_ := Aside0.mk (blk_drew BK109.out)
                    have n2_ := Aside0.mk (below_drew1 HB.out)
                    clear HO_5
                    clear BK109
                    clear HB
                    have HO_5 := n0_
                    have BK109 := n1_
                    have HB := n2_
                    clear n0_ n1_ n2_
                    have p122 : 0 ≤ ((ji22) : Int) := of_decide_eq_true (by first | (with_reducible assumption) | assumption)
                    have q122 : (ji22) < (t101.length : Int) := of_decide_eq_true (by first | (with_reducible assumption) | assumption)
                    obtain ⟨ad122, e122, hx122_0, hx122_1⟩ := at_T46 (Kd.R_reads' HO_5.out).2.2 (ji22) p122 q122
                    cases e122
                    replace p122 := eq_true p122
                    replace q122 := eq_true q122
                    refine start_ (n := 13) (S := fun w' => w'.cell? (ad122.add (((ji22)).toNat * 2)) = some (.int .i64 ((rd_T46 t101 (ji22)).f0)) ∧ w'.cell? ⟨(ad122.add (((ji22)).toNat * 2)).block, (ad122.add (((ji22)).toNat * 2)).off + 1, none⟩ = some (.int .i64 ((rd_T46 t101 (ji22)).f1))) (ds := []) #[false, false, false, false, false, false, false, false, false, false, false, false, false] (by kernel_rfl) rfl rfl ⟨hx122_0, hx122_1⟩ (fun hHeld => ?_); refine with_tabW slipwaylaw10_RelBack.tab9 slipwaylaw10_RelBack.bits9 (fun HT_ HW_ => ?_)
                    generalize wc.drew = w30 at HO_5 BK109 HB hx122_0 hx122_1 hHeld ⊢
                    refine pure_ (i := 1) (N := some 45) (v := ?_) (a' := ?_) #[false, true, false, false, false, false, false, false, false, false, false, false, false] rfl rfl (any_of HT_.out (by kernel_rfl)) (fun _ _ _ h => h) (Or.inl ⟨by rfl, ?_⟩) ?_ ?_
                    rotate_left
                    · intro w'
                      go_simp
                      with_reducible rfl
                    rotate_left
                    · simp only [Act.put, List.setIfInBounds_toArray, List.set_cons_zero, List.set_cons_succ, i64_w, i32_w]
                      rfl
                    refine pure_ (i := 3) (N := some 47) (v := ?_) (a' := ?_) #[false, true, false, true, false, false, false, false, false, false, false, false, false] rfl rfl (any_of HT_.out (by kernel_rfl)) (fun _ _ _ h => h) (Or.inl ⟨by rfl, ?_⟩) ?_ ?_
                    rotate_left
                    · intro w'
                      go_simp
                      with_reducible rfl
                    rotate_left
                    · simp only [Act.put, List.setIfInBounds_toArray, List.set_cons_zero, List.set_cons_succ, i64_w, i32_w]
                      rfl
                    refine pure_ (i := 4) (N := some 48) (v := ?_) (a' := ?_) #[false, true, false, true, true, false, false, false, false, false, false, false, false] rfl rfl (any_of HT_.out (by kernel_rfl)) (fun _ _ _ h => h) (Or.inl ⟨by rfl, ?_⟩) ?_ ?_
                    rotate_left
                    · intro w'
                      go_simp
                      with_reducible rfl
                    rotate_left
                    · simp only [Act.put, List.setIfInBounds_toArray, List.set_cons_zero, List.set_cons_succ, i64_w, i32_w]
                      rfl
                    refine pure_ (i := 5) (N := some 49) (v := ?_) (a' := ?_) #[false, true, false, true, true, true, false, false, false, false, false, false, false] rfl rfl (any_of HT_.out (by kernel_rfl)) (fun _ _ _ h => h) (Or.inl ⟨by rfl, ?_⟩) ?_ ?_
                    rotate_left
                    · intro w'
                      go_simp
                      with_reducible rfl
                    rotate_left
                    · simp only [Act.put, List.setIfInBounds_toArray, List.set_cons_zero, List.set_cons_succ, i64_w, i32_w]
                      rfl
                    refine pure_ (i := 6) (N := some 50) (v := ?_) (a' := ?_) #[false, true, false, true, true, true, true, false, false, false, false, false, false] rfl rfl (any_of HT_.out (by kernel_rfl)) (fun _ _ _ h => h) (Or.inl ⟨by rfl, ?_⟩) ?_ ?_
                    rotate_left
                    · intro w'
                      go_simp
                      with_reducible rfl
                    rotate_left
                    · simp only [Act.put, List.setIfInBounds_toArray, List.set_cons_zero, List.set_cons_succ, i64_w, i32_w]
                      rfl
                    refine take_ (i := 7) (N := some 51) (v := ?_) (a' := ?_) #[false, true, false, true, true, true, true, true, false, false, false, false, false] rfl rfl (take_ofW HT_.out HW_.out (by kernel_rfl)) (fun _ _ _ h => h) (Or.inl ⟨by rfl, ?_⟩) hHeld ?_ ?_
                    rotate_left
                    · rintro w' ⟨s0, s1⟩
                      go_simp
                      with_reducible rfl
                    rotate_left
                    · simp only [Act.put, List.setIfInBounds_toArray, List.set_cons_zero, List.set_cons_succ, i64_w, i32_w]
                      rfl
                    refine pure_ (i := 8) (N := some 52) (v := ?_) (a' := ?_) #[false, true, false, true, true, true, true, true, true, false, false, false, false] rfl rfl (any_of HT_.out (by kernel_rfl)) (fun _ _ _ h => h) (Or.inl ⟨by rfl, ?_⟩) ?_ ?_
                    rotate_left
                    · intro w'
                      go_simp
                      with_reducible rfl
                    rotate_left
                    · simp only [Act.put, List.setIfInBounds_toArray, List.set_cons_zero, List.set_cons_succ, i64_w, i32_w]
                      rfl
                    refine pure_ (i := 9) (N := some 53) (v := ?_) (a' := ?_) #[false, true, false, true, true, true, true, true, true, true, false, false, false] rfl rfl (any_of HT_.out (by kernel_rfl)) (fun _ _ _ h => h) (Or.inl ⟨by rfl, ?_⟩) ?_ ?_
                    rotate_left
                    · intro w'
                      go_simp
                      with_reducible rfl
                    rotate_left
                    · simp only [Act.put, List.setIfInBounds_toArray, List.set_cons_zero, List.set_cons_succ, i64_w, i32_w]
                      rfl
                    refine join_ (σ := Value × Value × Value) 2 #[true, true, true, true, true, true, true, true, true, true, true, false, false] (fun s_ => [(44, s_.1), (46, s_.2.1), (54, s_.2.2)]) (fun s_ w' => (w'.cell? (ad122.add (((ji22)).toNat * 2)) = some (.int .i64 ((rd_T46 t101 (ji22)).f0)) ∧ w'.cell? ⟨(ad122.add (((ji22)).toNat * 2)).block, (ad122.add (((ji22)).toNat * 2)).off + 1, none⟩ = some (.int .i64 ((rd_T46 t101 (ji22)).f1))) ∧ (Kd.R k46 46 w' w.heap.size (fun k_ => some k_ ≠ (s_.2.2 : Value).ownBlock ∧ some k_ ≠ (.slice (some ad122) t101.length co8 : Value).ownBlock) s_.2.1 y119) ∧ (Kd.R k46 46 w' w.heap.size (fun k_ => some k_ ≠ (s_.2.1 : Value).ownBlock ∧ some k_ ≠ (.slice (some ad122) t101.length co8 : Value).ownBlock) s_.2.2 y123) ∧ (Kd.R k46 46 w' w.heap.size (fun k_ => some k_ ≠ (s_.2.1 : Value).ownBlock ∧ some k_ ≠ (s_.2.2 : Value).ownBlock) (.slice (some ad122) t101.length co8) t101) ∧ (w'.heap[gb109]? = some (.cells #[.int .i64 t107, .int .i64 t108] 32 (0, 0))) ∧ (Below w.heap.size w w')) ?_ ?_
                    rotate_left
                    · intro hCont
                      refine two_ (i := 0) (j := 10) (Ni := some 44) (Nj := some 54) #[true, true, false, true, true, true, true, true, true, true, false, false, false] #[false, true, false, true, true, true, true, true, true, true, true, false, false] rfl rfl rfl rfl (two_of HT_.out (by kernel_rfl)) (by decide) (by decide) (fun K hK => ?_) (fun K hK => ?_)
                      · skip
                        refine Kd.R_lit_step k46 _ 46 ?hg (N := 44) ?hd (xs := ([] : List (S46))) (inner := []) (ok := fun _ => True) (okp := fun _ => True) ?hr ?hp (fun _ hk => hk) trivial (Below.refl _ _) (Nat.le_refl _) (by simp) ?_; (case hd => rfl); (case hg => rfl); (case hr => first | (go_simp; done) | (go_simp; rfl)); (case hp => exact (Reps.none _ _))
                        intro v117 w31 ho32 hb hg_ hnew_
                        have HS0_ := (hb.cell (World.block_lt_of_cell? _ _ (hHeld.1))).trans (hHeld.1)
                        have HS1_ := (hb.cell (World.block_lt_of_cell? _ _ (hHeld.2))).trans (hHeld.2)
                        clear hg_ hnew_
                        (first | rw [← Ny116.out] at ho32 | (simp only [Int.reduceToNat] at ho32; rw [← Ny116.out] at ho32))
                        have n0_ := Aside0.mk (Kd.R_elder' (by (with_reducible repeat (first | apply Kd.R_alloc | apply Kd.R_drewN | apply Kd.R_drew)); exact HO_5.out) (Kd.R_base ho32) hb)
                        have n1_ := Aside0.mk (Kd.R_lower (Kd.R_new' ho32 (Kd.R_lt (by (with_reducible repeat (first | apply Kd.R_alloc | apply Kd.R_drewN | apply Kd.R_drew)); exact HO_5.out))) (below_size (by repeat (first | (with_reducible first | exact HB.out | apply below_alloc | apply pw_below_drewN | apply below_drew1 | refine below_set ?_ GE109.out) | exact HB.out))))
                        have n2_ := Aside0.mk (blk_below (g := gb109) (o := .cells #[.int .i64 t107, .int .i64 t108] 32 (0, 0)) (by (with_reducible repeat (first | refine blk_drewN ?_ _ | refine blk_drew ?_ | refine blk_alloc ?_ _)); exact BK109.out) hb)
                        have n3_ := Aside0.mk (below_step (by repeat (first | (with_reducible first | exact HB.out | apply below_alloc | apply pw_below_drewN | apply below_drew1 | refine below_set ?_ GE109.out) | exact HB.out)) hb)
                        clear HO_5
                        clear BK109
                        clear HB
                        have HO_5 := n0_
                        have HO118 := n1_
                        have BK109 := n2_
                        have HB := n3_
                        clear n0_ n1_ n2_ n3_
                        clear hb ho32
                        refine hK.out _ _ ⟨HS0_, HS1_⟩ (fun hHeld => ?_)
                        clear hK K
                        refine norm_ (a' := ?_) ?_ ?_
                        rotate_left
                        · show Act.put _ (some 44) _ = _
                          simp only [Act.put, List.setIfInBounds_toArray, List.set_cons_zero, List.set_cons_succ, i64_w, i32_w]
                          rfl
                        refine two_ (i := 2) (j := 10) (Ni := some 46) (Nj := some 54) #[true, true, true, true, true, true, true, true, true, true, false, false, false] #[true, true, false, true, true, true, true, true, true, true, true, false, false] rfl rfl rfl rfl (two_of HT_.out (by kernel_rfl)) (by decide) (by decide) (fun K hK => ?_) (fun K hK => ?_)
                        · skip
                          refine Kd.R_append_rows_step k46 (w0 := w) w.heap.size (by rfl) (.tmp 44) (.tmp 45) 42 46 (.agg #[(.int .i64 0), (.int .i64 0)]) 16 rfl Try.underlying42 info46 rfl (by decide) (by omega) v117 y116 t101 _ _ _ (fun k_ => some k_ ≠ (.slice (some ad122) t101.length co8 : Value).ownBlock) (fun _ => False) rfl rfl ?aO ?aR (fun _ _ h => h) (fun _ h => h.elim) ?aF ?aB ?aS ?aL ?_
                          (case aR => repeat (first | exact (Kd.R_reads' HO_5.out).2.2 | (with_reducible refine Kd.C_alloc ?_ _) | (with_reducible refine Kd.C_drewN ?_ _) | (with_reducible refine Kd.C_drew ?_)))
                          (case aB => exact (by repeat (first | (with_reducible first | exact HB.out | apply below_alloc | apply pw_below_drewN | apply below_drew1 | refine below_set ?_ GE109.out) | exact HB.out)))
                          (case aF => exact (fun k_ hk => Kd.fresh' (Kd.R_lt (by (with_reducible repeat (first | apply Kd.R_alloc | apply Kd.R_drewN | apply Kd.R_drew)); exact HO_5.out)) k_ hk))
                          (case aO => exact (by (with_reducible repeat (first | apply Kd.R_alloc | apply Kd.R_drewN | apply Kd.R_drew)); exact Kd.R_mono HO118.out (fun _ hk => hk.2)))
                          (case aS => exact (below_size (by repeat (first | (with_reducible first | exact HB.out | apply below_alloc | apply pw_below_drewN | apply below_drew1 | refine below_set ?_ GE109.out) | exact HB.out))))
                          (case aL => have := LMc21.out; omega)
                          intro v120 w33 ho hb hg hat
                          have HS0_ := cell_grown hg (hHeld.1) (by first | (rw [add_block]; exact (fun e_ => by have h_ := HO118.out.1 _ e_.symm; first | exact h_ rfl | exact h_.1 rfl | exact h_.2 rfl | exact h_.1.1 rfl | exact h_.1.2 rfl | exact h_.2.1 rfl | exact h_.2.2 rfl)) | (show some (Addr.add _ _).block ≠ _; rw [add_block]; exact (fun e_ => by have h_ := HO118.out.1 _ e_.symm; first | exact h_ rfl | exact h_.1 rfl | exact h_.2 rfl | exact h_.1.1 rfl | exact h_.1.2 rfl | exact h_.2.1 rfl | exact h_.2.2 rfl)) | exact (fun e_ => by have h_ := HO118.out.1 _ e_.symm; first | exact h_ rfl | exact h_.1 rfl | exact h_.2 rfl | exact h_.1.1 rfl | exact h_.1.2 rfl | exact h_.2.1 rfl | exact h_.2.2 rfl))
                          have HS1_ := cell_grown hg (hHeld.2) (by first | (rw [add_block]; exact (fun e_ => by have h_ := HO118.out.1 _ e_.symm; first | exact h_ rfl | exact h_.1 rfl | exact h_.2 rfl | exact h_.1.1 rfl | exact h_.1.2 rfl | exact h_.2.1 rfl | exact h_.2.2 rfl)) | (show some (Addr.add _ _).block ≠ _; rw [add_block]; exact (fun e_ => by have h_ := HO118.out.1 _ e_.symm; first | exact h_ rfl | exact h_.1 rfl | exact h_.2 rfl | exact h_.1.1 rfl | exact h_.1.2 rfl | exact h_.2.1 rfl | exact h_.2.2 rfl)) | exact (fun e_ => by have h_ := HO118.out.1 _ e_.symm; first | exact h_ rfl | exact h_.1 rfl | exact h_.2 rfl | exact h_.1.1 rfl | exact h_.1.2 rfl | exact h_.2.1 rfl | exact h_.2.2 rfl))
                          rw [← Ny119.out] at ho
                          have n0_ := Aside0.mk (Kd.R_after (ok := (fun _ => True)) (by (with_reducible repeat (first | apply Kd.R_alloc | apply Kd.R_drewN | apply Kd.R_drew)); exact HO_5.out) hg hat)
                          have n1_ := Aside0.mk (blk_grown (g := gb109) (o := .cells #[.int .i64 t107, .int .i64 t108] 32 (0, 0)) (by (with_reducible repeat (first | refine blk_drewN ?_ _ | refine blk_drew ?_ | refine blk_alloc ?_ _)); exact BK109.out) hg (Kd.R_ne HO118.out BK109.out (by decide)))
                          have n2_ := Aside0.mk (hb)
                          have n3_ := Aside0.mk (ho)
                          clear HO_5
                          clear BK109
                          clear HB
                          clear HO118
                          have HO_5 := n0_
                          have BK109 := n1_
                          have HB := n2_
                          have HO121 := n3_
                          clear n0_ n1_ n2_ n3_
                          clear ho hb hg hat
                          refine hK.out _ _ ⟨HS0_, HS1_⟩ (fun hHeld => ?_)
                          clear hK K
                          refine norm_ (a' := ?_) ?_ ?_
                          rotate_left
                          · show Act.put _ (some 46) _ = _
                            simp only [Act.put, List.setIfInBounds_toArray, List.set_cons_zero, List.set_cons_succ, i64_w, i32_w]
                            rfl
                          refine one_ (i := 10) (N := some 54) #[true, true, true, true, true, true, true, true, true, true, true, false, false] rfl rfl (one_of HT_.out (by kernel_rfl)) (by decide) (fun K hK => ?_)
                          refine Kd.R_lit_step k46 _ 46 ?hg (N := 54) ?hd (xs := ([(⟨3, wrap64 (((rd_T46 t101 (ji22)).f1) + 3)⟩ : S46)] : List (S46))) (inner := [.int .i64 3, .int .i64 (wrap64 (((rd_T46 t101 (ji22)).f1) + 3))]) (ok := fun _ => True) (okp := fun _ => True) ?hr ?hp (fun _ hk => hk) trivial (Below.refl _ _) (Nat.le_refl _) (by simp) ?_; (case hd => rfl); (case hg => rfl); (case hr => first | (go_simp; done) | (go_simp; rfl)); (case hp => exact (Reps.c2 (show Kd.M k46 _ _ _ (⟨3, wrap64 (((rd_T46 t101 (ji22)).f1) + 3)⟩ : S46) [.int .i64 3, .int .i64 (wrap64 (((rd_T46 t101 (ji22)).f1) + 3))] from (k46_mkM _ _ _ (⟨3, wrap64 (((rd_T46 t101 (ji22)).f1) + 3)⟩ : S46) )) (Reps.none _ _)))
                          intro v124 w34 ho35 hb hg_ hnew_
                          have HS0_ := (hb.cell (World.block_lt_of_cell? _ _ (hHeld.1))).trans (hHeld.1)
                          have HS1_ := (hb.cell (World.block_lt_of_cell? _ _ (hHeld.2))).trans (hHeld.2)
                          clear hg_ hnew_
                          (first | rw [← Ny123.out] at ho35 | (simp only [Int.reduceToNat] at ho35; rw [← Ny123.out] at ho35))
                          have n0_ := Aside0.mk (Kd.R_elder' (by (with_reducible repeat (first | apply Kd.R_alloc | apply Kd.R_drewN | apply Kd.R_drew)); exact HO_5.out) (Kd.R_base ho35) hb)
                          have n1_ := Aside0.mk (Kd.R_elder' (by (with_reducible repeat (first | apply Kd.R_alloc | apply Kd.R_drewN | apply Kd.R_drew)); exact HO121.out) (Kd.R_base ho35) hb)
                          have n2_ := Aside0.mk (Kd.R_lower (Kd.R_new' (Kd.R_new' ho35 (Kd.R_lt (by (with_reducible repeat (first | apply Kd.R_alloc | apply Kd.R_drewN | apply Kd.R_drew)); exact HO_5.out))) (Kd.R_lt (by (with_reducible repeat (first | apply Kd.R_alloc | apply Kd.R_drewN | apply Kd.R_drew)); exact HO121.out))) (below_size (by repeat (first | (with_reducible first | exact HB.out | apply below_alloc | apply pw_below_drewN | apply below_drew1 | refine below_set ?_ GE109.out) | exact HB.out))))
                          have n3_ := Aside0.mk (blk_below (g := gb109) (o := .cells #[.int .i64 t107, .int .i64 t108] 32 (0, 0)) (by (with_reducible repeat (first | refine blk_drewN ?_ _ | refine blk_drew ?_ | refine blk_alloc ?_ _)); exact BK109.out) hb)
                          have n4_ := Aside0.mk (below_step (by repeat (first | (with_reducible first | exact HB.out | apply below_alloc | apply pw_below_drewN | apply below_drew1 | refine below_set ?_ GE109.out) | exact HB.out)) hb)
                          clear HO_5
                          clear HO121
                          clear BK109
                          clear HB
                          have HO_5 := n0_
                          have HO121 := n1_
                          have HO125 := n2_
                          have BK109 := n3_
                          have HB := n4_
                          clear n0_ n1_ n2_ n3_ n4_
                          clear hb ho35
                          refine hK.out _ _ ⟨HS0_, HS1_⟩ (fun hHeld => ?_)
                          clear hK K
                          refine norm_ (a' := ?_) ?_ ?_
                          rotate_left
                          · show Act.put _ (some 54) _ = _
                            simp only [Act.put, List.setIfInBounds_toArray, List.set_cons_zero, List.set_cons_succ, i64_w, i32_w]
                            rfl
                          exact norm_ (by simp only [putAll, Act.put, List.setIfInBounds_toArray, List.set_cons_zero, List.set_cons_succ]) (hCont (v117, v120, v124) _ ⟨hHeld, (by (with_reducible repeat (first | apply Kd.R_alloc | apply Kd.R_drewN | apply Kd.R_drew)); exact Kd.R_mono HO121.out (fun _ hk => ⟨hk.2, hk.1⟩)), (by (with_reducible repeat (first | apply Kd.R_alloc | apply Kd.R_drewN | apply Kd.R_drew)); exact Kd.R_mono HO125.out (fun _ hk => ⟨hk.2, hk.1.2⟩)), (by (with_reducible repeat (first | apply Kd.R_alloc | apply Kd.R_drewN | apply Kd.R_drew)); exact Kd.R_mono HO_5.out (fun _ hk => ⟨hk.1.2, hk.2⟩)), (by (with_reducible repeat (first | refine blk_drewN ?_ _ | refine blk_drew ?_ | refine blk_alloc ?_ _)); exact BK109.out), (by repeat (first | (with_reducible first | exact HB.out | apply below_alloc | apply pw_below_drewN | apply below_drew1 | refine below_set ?_ GE109.out) | exact HB.out))⟩)
                        · skip
                          refine Kd.R_lit_step k46 _ 46 ?hg (N := 54) ?hd (xs := ([(⟨3, wrap64 (((rd_T46 t101 (ji22)).f1) + 3)⟩ : S46)] : List (S46))) (inner := [.int .i64 3, .int .i64 (wrap64 (((rd_T46 t101 (ji22)).f1) + 3))]) (ok := fun _ => True) (okp := fun _ => True) ?hr ?hp (fun _ hk => hk) trivial (Below.refl _ _) (Nat.le_refl _) (by simp) ?_; (case hd => rfl); (case hg => rfl); (case hr => first | (go_simp; done) | (go_simp; rfl)); (case hp => exact (Reps.c2 (show Kd.M k46 _ _ _ (⟨3, wrap64 (((rd_T46 t101 (ji22)).f1) + 3)⟩ : S46) [.int .i64 3, .int .i64 (wrap64 (((rd_T46 t101 (ji22)).f1) + 3))] from (k46_mkM _ _ _ (⟨3, wrap64 (((rd_T46 t101 (ji22)).f1) + 3)⟩ : S46) )) (Reps.none _ _)))
                          intro v124 w33 ho34 hb hg_ hnew_
                          have HS0_ := (hb.cell (World.block_lt_of_cell? _ _ (hHeld.1))).trans (hHeld.1)
                          have HS1_ := (hb.cell (World.block_lt_of_cell? _ _ (hHeld.2))).trans (hHeld.2)
                          clear hg_ hnew_
                          (first | rw [← Ny123.out] at ho34 | (simp only [Int.reduceToNat] at ho34; rw [← Ny123.out] at ho34))
                          have n0_ := Aside0.mk (Kd.R_elder' (by (with_reducible repeat (first | apply Kd.R_alloc | apply Kd.R_drewN | apply Kd.R_drew)); exact HO_5.out) (Kd.R_base ho34) hb)
                          have n1_ := Aside0.mk (Kd.R_elder' (by (with_reducible repeat (first | apply Kd.R_alloc | apply Kd.R_drewN | apply Kd.R_drew)); exact HO118.out) (Kd.R_base ho34) hb)
                          have n2_ := Aside0.mk (Kd.R_lower (Kd.R_new' (Kd.R_new' ho34 (Kd.R_lt (by (with_reducible repeat (first | apply Kd.R_alloc | apply Kd.R_drewN | apply Kd.R_drew)); exact HO_5.out))) (Kd.R_lt (by (with_reducible repeat (first | apply Kd.R_alloc | apply Kd.R_drewN | apply Kd.R_drew)); exact HO118.out))) (below_size (by repeat (first | (with_reducible first | exact HB.out | apply below_alloc | apply pw_below_drewN | apply below_drew1 | refine below_set ?_ GE109.out) | exact HB.out))))
                          have n3_ := Aside0.mk (blk_below (g := gb109) (o := .cells #[.int .i64 t107, .int .i64 t108] 32 (0, 0)) (by (with_reducible repeat (first | refine blk_drewN ?_ _ | refine blk_drew ?_ | refine blk_alloc ?_ _)); exact BK109.out) hb)
                          have n4_ := Aside0.mk (below_step (by repeat (first | (with_reducible first | exact HB.out | apply below_alloc | apply pw_below_drewN | apply below_drew1 | refine below_set ?_ GE109.out) | exact HB.out)) hb)
                          clear HO_5
                          clear HO118
                          clear BK109
                          clear HB
                          have HO_5 := n0_
                          have HO118 := n1_
                          have HO125 := n2_
                          have BK109 := n3_
                          have HB := n4_
                          clear n0_ n1_ n2_ n3_ n4_
                          clear hb ho34
                          refine hK.out _ _ ⟨HS0_, HS1_⟩ (fun hHeld => ?_)
                          clear hK K
                          refine norm_ (a' := ?_) ?_ ?_
                          rotate_left
                          · show Act.put _ (some 54) _ = _
                            simp only [Act.put, List.setIfInBounds_toArray, List.set_cons_zero, List.set_cons_succ, i64_w, i32_w]
                            rfl
                          refine one_ (i := 2) (N := some 46) #[true, true, true, true, true, true, true, true, true, true, true, false, false] rfl rfl (one_of HT_.out (by kernel_rfl)) (by decide) (fun K hK => ?_)
                          refine Kd.R_append_rows_step k46 (w0 := w) w.heap.size (by rfl) (.tmp 44) (.tmp 45) 42 46 (.agg #[(.int .i64 0), (.int .i64 0)]) 16 rfl Try.underlying42 info46 rfl (by decide) (by omega) v117 y116 t101 _ _ _ (fun k_ => some k_ ≠ (.slice (some ad122) t101.length co8 : Value).ownBlock ∧ some k_ ≠ (v124 : Value).ownBlock) (fun _ => False) rfl rfl ?aO ?aR (fun _ _ h => h) (fun _ h => h.elim) ?aF ?aB ?aS ?aL ?_
                          (case aR => repeat (first | exact (Kd.R_reads' HO_5.out).2.2 | (with_reducible refine Kd.C_alloc ?_ _) | (with_reducible refine Kd.C_drewN ?_ _) | (with_reducible refine Kd.C_drew ?_)))
                          (case aB => exact (by repeat (first | (with_reducible first | exact HB.out | apply below_alloc | apply pw_below_drewN | apply below_drew1 | refine below_set ?_ GE109.out) | exact HB.out)))
                          (case aF => exact (fun k_ hk => ⟨Kd.fresh' (Kd.R_lt (by (with_reducible repeat (first | apply Kd.R_alloc | apply Kd.R_drewN | apply Kd.R_drew)); exact HO_5.out)) k_ hk, Kd.fresh' (Kd.R_lt (by (with_reducible repeat (first | apply Kd.R_alloc | apply Kd.R_drewN | apply Kd.R_drew)); exact HO125.out)) k_ hk⟩))
                          (case aO => exact (by (with_reducible repeat (first | apply Kd.R_alloc | apply Kd.R_drewN | apply Kd.R_drew)); exact Kd.R_mono HO118.out (fun _ hk => ⟨hk.1.2, hk.2⟩)))
                          (case aS => exact (below_size (by repeat (first | (with_reducible first | exact HB.out | apply below_alloc | apply pw_below_drewN | apply below_drew1 | refine below_set ?_ GE109.out) | exact HB.out))))
                          (case aL => have := LMc21.out; omega)
                          intro v120 w35 ho hb hg hat
                          have HS0_ := cell_grown hg (hHeld.1) (by first | (rw [add_block]; exact (fun e_ => by have h_ := HO118.out.1 _ e_.symm; first | exact h_ rfl | exact h_.1 rfl | exact h_.2 rfl | exact h_.1.1 rfl | exact h_.1.2 rfl | exact h_.2.1 rfl | exact h_.2.2 rfl)) | (show some (Addr.add _ _).block ≠ _; rw [add_block]; exact (fun e_ => by have h_ := HO118.out.1 _ e_.symm; first | exact h_ rfl | exact h_.1 rfl | exact h_.2 rfl | exact h_.1.1 rfl | exact h_.1.2 rfl | exact h_.2.1 rfl | exact h_.2.2 rfl)) | exact (fun e_ => by have h_ := HO118.out.1 _ e_.symm; first | exact h_ rfl | exact h_.1 rfl | exact h_.2 rfl | exact h_.1.1 rfl | exact h_.1.2 rfl | exact h_.2.1 rfl | exact h_.2.2 rfl))
                          have HS1_ := cell_grown hg (hHeld.2) (by first | (rw [add_block]; exact (fun e_ => by have h_ := HO118.out.1 _ e_.symm; first | exact h_ rfl | exact h_.1 rfl | exact h_.2 rfl | exact h_.1.1 rfl | exact h_.1.2 rfl | exact h_.2.1 rfl | exact h_.2.2 rfl)) | (show some (Addr.add _ _).block ≠ _; rw [add_block]; exact (fun e_ => by have h_ := HO118.out.1 _ e_.symm; first | exact h_ rfl | exact h_.1 rfl | exact h_.2 rfl | exact h_.1.1 rfl | exact h_.1.2 rfl | exact h_.2.1 rfl | exact h_.2.2 rfl)) | exact (fun e_ => by have h_ := HO118.out.1 _ e_.symm; first | exact h_ rfl | exact h_.1 rfl | exact h_.2 rfl | exact h_.1.1 rfl | exact h_.1.2 rfl | exact h_.2.1 rfl | exact h_.2.2 rfl))
                          rw [← Ny119.out] at ho
                          have n0_ := Aside0.mk (Kd.R_after (ok := (fun k_ => some k_ ≠ (v124 : Value).ownBlock)) (by (with_reducible repeat (first | apply Kd.R_alloc | apply Kd.R_drewN | apply Kd.R_drew)); exact Kd.R_mono HO_5.out (fun _ hk => ⟨hk.2, hk.1.2⟩)) hg hat)
                          have n1_ := Aside0.mk (blk_grown (g := gb109) (o := .cells #[.int .i64 t107, .int .i64 t108] 32 (0, 0)) (by (with_reducible repeat (first | refine blk_drewN ?_ _ | refine blk_drew ?_ | refine blk_alloc ?_ _)); exact BK109.out) hg (Kd.R_ne HO118.out BK109.out (by decide)))
                          have n2_ := Aside0.mk (Kd.R_after (ok := (fun k_ => some k_ ≠ (.slice (some ad122) t101.length co8 : Value).ownBlock)) (by (with_reducible repeat (first | apply Kd.R_alloc | apply Kd.R_drewN | apply Kd.R_drew)); exact Kd.R_mono HO125.out (fun _ hk => ⟨hk.1.2, hk.2⟩)) hg hat)
                          have n3_ := Aside0.mk (hb)
                          have n4_ := Aside0.mk (ho)
                          clear HO_5
                          clear BK109
                          clear HO125
                          clear HB
                          clear HO118
                          have HO_5 := n0_
                          have BK109 := n1_
                          have HO125 := n2_
                          have HB := n3_
                          have HO121 := n4_
                          clear n0_ n1_ n2_ n3_ n4_
                          clear ho hb hg hat
                          refine hK.out _ _ ⟨HS0_, HS1_⟩ (fun hHeld => ?_)
                          clear hK K
                          refine norm_ (a' := ?_) ?_ ?_
                          rotate_left
                          · show Act.put _ (some 46) _ = _
                            simp only [Act.put, List.setIfInBounds_toArray, List.set_cons_zero, List.set_cons_succ, i64_w, i32_w]
                            rfl
                          exact norm_ (by simp only [putAll, Act.put, List.setIfInBounds_toArray, List.set_cons_zero, List.set_cons_succ]) (hCont (v117, v120, v124) _ ⟨hHeld, (by (with_reducible repeat (first | apply Kd.R_alloc | apply Kd.R_drewN | apply Kd.R_drew)); exact Kd.R_mono HO121.out (fun _ hk => ⟨hk.2, hk.1⟩)), (by (with_reducible repeat (first | apply Kd.R_alloc | apply Kd.R_drewN | apply Kd.R_drew)); exact Kd.R_mono HO125.out (fun _ hk => ⟨hk.2, hk.1⟩)), (by (with_reducible repeat (first | apply Kd.R_alloc | apply Kd.R_drewN | apply Kd.R_drew)); exact Kd.R_mono HO_5.out (fun _ hk => ⟨hk.2, hk.1⟩)), (by (with_reducible repeat (first | refine blk_drewN ?_ _ | refine blk_drew ?_ | refine blk_alloc ?_ _)); exact BK109.out), (by repeat (first | (with_reducible first | exact HB.out | apply below_alloc | apply pw_below_drewN | apply below_drew1 | refine below_set ?_ GE109.out) | exact HB.out))⟩)
                      · skip
                        refine Kd.R_lit_step k46 _ 46 ?hg (N := 54) ?hd (xs := ([(⟨3, wrap64 (((rd_T46 t101 (ji22)).f1) + 3)⟩ : S46)] : List (S46))) (inner := [.int .i64 3, .int .i64 (wrap64 (((rd_T46 t101 (ji22)).f1) + 3))]) (ok := fun _ => True) (okp := fun _ => True) ?hr ?hp (fun _ hk => hk) trivial (Below.refl _ _) (Nat.le_refl _) (by simp) ?_; (case hd => rfl); (case hg => rfl); (case hr => first | (go_simp; done) | (go_simp; rfl)); (case hp => exact (Reps.c2 (show Kd.M k46 _ _ _ (⟨3, wrap64 (((rd_T46 t101 (ji22)).f1) + 3)⟩ : S46) [.int .i64 3, .int .i64 (wrap64 (((rd_T46 t101 (ji22)).f1) + 3))] from (k46_mkM _ _ _ (⟨3, wrap64 (((rd_T46 t101 (ji22)).f1) + 3)⟩ : S46) )) (Reps.none _ _)))
                        intro v124 w31 ho32 hb hg_ hnew_
                        have HS0_ := (hb.cell (World.block_lt_of_cell? _ _ (hHeld.1))).trans (hHeld.1)
                        have HS1_ := (hb.cell (World.block_lt_of_cell? _ _ (hHeld.2))).trans (hHeld.2)
                        clear hg_ hnew_
                        (first | rw [← Ny123.out] at ho32 | (simp only [Int.reduceToNat] at ho32; rw [← Ny123.out] at ho32))
                        have n0_ := Aside0.mk (Kd.R_elder' (by (with_reducible repeat (first | apply Kd.R_alloc | apply Kd.R_drewN | apply Kd.R_drew)); exact HO_5.out) (Kd.R_base ho32) hb)
                        have n1_ := Aside0.mk (Kd.R_lower (Kd.R_new' ho32 (Kd.R_lt (by (with_reducible repeat (first | apply Kd.R_alloc | apply Kd.R_drewN | apply Kd.R_drew)); exact HO_5.out))) (below_size (by repeat (first | (with_reducible first | exact HB.out | apply below_alloc | apply pw_below_drewN | apply below_drew1 | refine below_set ?_ GE109.out) | exact HB.out))))
                        have n2_ := Aside0.mk (blk_below (g := gb109) (o := .cells #[.int .i64 t107, .int .i64 t108] 32 (0, 0)) (by (with_reducible repeat (first | refine blk_drewN ?_ _ | refine blk_drew ?_ | refine blk_alloc ?_ _)); exact BK109.out) hb)
                        have n3_ := Aside0.mk (below_step (by repeat (first | (with_reducible first | exact HB.out | apply below_alloc | apply pw_below_drewN | apply below_drew1 | refine below_set ?_ GE109.out) | exact HB.out)) hb)
                        clear HO_5
                        clear BK109
                        clear HB
                        have HO_5 := n0_
                        have HO125 := n1_
                        have BK109 := n2_
                        have HB := n3_
                        clear n0_ n1_ n2_ n3_
                        clear hb ho32
                        refine hK.out _ _ ⟨HS0_, HS1_⟩ (fun hHeld => ?_)
                        clear hK K
                        refine norm_ (a' := ?_) ?_ ?_
                        rotate_left
                        · show Act.put _ (some 54) _ = _
                          simp only [Act.put, List.setIfInBounds_toArray, List.set_cons_zero, List.set_cons_succ, i64_w, i32_w]
                          rfl
                        refine one_ (i := 0) (N := some 44) #[true, true, false, true, true, true, true, true, true, true, true, false, false] rfl rfl (one_of HT_.out (by kernel_rfl)) (by decide) (fun K hK => ?_)
                        refine Kd.R_lit_step k46 _ 46 ?hg (N := 44) ?hd (xs := ([] : List (S46))) (inner := []) (ok := fun _ => True) (okp := fun _ => True) ?hr ?hp (fun _ hk => hk) trivial (Below.refl _ _) (Nat.le_refl _) (by simp) ?_; (case hd => rfl); (case hg => rfl); (case hr => first | (go_simp; done) | (go_simp; rfl)); (case hp => exact (Reps.none _ _))
                        intro v117 w33 ho34 hb hg_ hnew_
                        have HS0_ := (hb.cell (World.block_lt_of_cell? _ _ (hHeld.1))).trans (hHeld.1)
                        have HS1_ := (hb.cell (World.block_lt_of_cell? _ _ (hHeld.2))).trans (hHeld.2)
                        clear hg_ hnew_
                        (first | rw [← Ny116.out] at ho34 | (simp only [Int.reduceToNat] at ho34; rw [← Ny116.out] at ho34))
                        have n0_ := Aside0.mk (Kd.R_elder' (by (with_reducible repeat (first | apply Kd.R_alloc | apply Kd.R_drewN | apply Kd.R_drew)); exact HO_5.out) (Kd.R_base ho34) hb)
                        have n1_ := Aside0.mk (Kd.R_elder' (by (with_reducible repeat (first | apply Kd.R_alloc | apply Kd.R_drewN | apply Kd.R_drew)); exact HO125.out) (Kd.R_base ho34) hb)
                        have n2_ := Aside0.mk (Kd.R_lower (Kd.R_new' (Kd.R_new' ho34 (Kd.R_lt (by (with_reducible repeat (first | apply Kd.R_alloc | apply Kd.R_drewN | apply Kd.R_drew)); exact HO_5.out))) (Kd.R_lt (by (with_reducible repeat (first | apply Kd.R_alloc | apply Kd.R_drewN | apply Kd.R_drew)); exact HO125.out))) (below_size (by repeat (first | (with_reducible first | exact HB.out | apply below_alloc | apply pw_below_drewN | apply below_drew1 | refine below_set ?_ GE109.out) | exact HB.out))))
                        have n3_ := Aside0.mk (blk_below (g := gb109) (o := .cells #[.int .i64 t107, .int .i64 t108] 32 (0, 0)) (by (with_reducible repeat (first | refine blk_drewN ?_ _ | refine blk_drew ?_ | refine blk_alloc ?_ _)); exact BK109.out) hb)
                        have n4_ := Aside0.mk (below_step (by repeat (first | (with_reducible first | exact HB.out | apply below_alloc | apply pw_below_drewN | apply below_drew1 | refine below_set ?_ GE109.out) | exact HB.out)) hb)
                        clear HO_5
                        clear HO125
                        clear BK109
                        clear HB
                        have HO_5 := n0_
                        have HO125 := n1_
                        have HO118 := n2_
                        have BK109 := n3_
                        have HB := n4_
                        clear n0_ n1_ n2_ n3_ n4_
                        clear hb ho34
                        refine hK.out _ _ ⟨HS0_, HS1_⟩ (fun hHeld => ?_)
                        clear hK K
                        refine norm_ (a' := ?_) ?_ ?_
                        rotate_left
                        · show Act.put _ (some 44) _ = _
                          simp only [Act.put, List.setIfInBounds_toArray, List.set_cons_zero, List.set_cons_succ, i64_w, i32_w]
                          rfl
                        refine one_ (i := 2) (N := some 46) #[true, true, true, true, true, true, true, true, true, true, true, false, false] rfl rfl (one_of HT_.out (by kernel_rfl)) (by decide) (fun K hK => ?_)
                        refine Kd.R_append_rows_step k46 (w0 := w) w.heap.size (by rfl) (.tmp 44) (.tmp 45) 42 46 (.agg #[(.int .i64 0), (.int .i64 0)]) 16 rfl Try.underlying42 info46 rfl (by decide) (by omega) v117 y116 t101 _ _ _ (fun k_ => some k_ ≠ (.slice (some ad122) t101.length co8 : Value).ownBlock ∧ some k_ ≠ (v124 : Value).ownBlock) (fun _ => False) rfl rfl ?aO ?aR (fun _ _ h => h) (fun _ h => h.elim) ?aF ?aB ?aS ?aL ?_
                        (case aR => repeat (first | exact (Kd.R_reads' HO_5.out).2.2 | (with_reducible refine Kd.C_alloc ?_ _) | (with_reducible refine Kd.C_drewN ?_ _) | (with_reducible refine Kd.C_drew ?_)))
                        (case aB => exact (by repeat (first | (with_reducible first | exact HB.out | apply below_alloc | apply pw_below_drewN | apply below_drew1 | refine below_set ?_ GE109.out) | exact HB.out)))
                        (case aF => exact (fun k_ hk => ⟨Kd.fresh' (Kd.R_lt (by (with_reducible repeat (first | apply Kd.R_alloc | apply Kd.R_drewN | apply Kd.R_drew)); exact HO_5.out)) k_ hk, Kd.fresh' (Kd.R_lt (by (with_reducible repeat (first | apply Kd.R_alloc | apply Kd.R_drewN | apply Kd.R_drew)); exact HO125.out)) k_ hk⟩))
                        (case aO => exact (by (with_reducible repeat (first | apply Kd.R_alloc | apply Kd.R_drewN | apply Kd.R_drew)); exact Kd.R_mono HO118.out (fun _ hk => ⟨hk.1.2, hk.2⟩)))
                        (case aS => exact (below_size (by repeat (first | (with_reducible first | exact HB.out | apply below_alloc | apply pw_below_drewN | apply below_drew1 | refine below_set ?_ GE109.out) | exact HB.out))))
                        (case aL => have := LMc21.out; omega)
                        intro v120 w35 ho hb hg hat
                        have HS0_ := cell_grown hg (hHeld.1) (by first | (rw [add_block]; exact (fun e_ => by have h_ := HO118.out.1 _ e_.symm; first | exact h_ rfl | exact h_.1 rfl | exact h_.2 rfl | exact h_.1.1 rfl | exact h_.1.2 rfl | exact h_.2.1 rfl | exact h_.2.2 rfl)) | (show some (Addr.add _ _).block ≠ _; rw [add_block]; exact (fun e_ => by have h_ := HO118.out.1 _ e_.symm; first | exact h_ rfl | exact h_.1 rfl | exact h_.2 rfl | exact h_.1.1 rfl | exact h_.1.2 rfl | exact h_.2.1 rfl | exact h_.2.2 rfl)) | exact (fun e_ => by have h_ := HO118.out.1 _ e_.symm; first | exact h_ rfl | exact h_.1 rfl | exact h_.2 rfl | exact h_.1.1 rfl | exact h_.1.2 rfl | exact h_.2.1 rfl | exact h_.2.2 rfl))
                        have HS1_ := cell_grown hg (hHeld.2) (by first | (rw [add_block]; exact (fun e_ => by have h_ := HO118.out.1 _ e_.symm; first | exact h_ rfl | exact h_.1 rfl | exact h_.2 rfl | exact h_.1.1 rfl | exact h_.1.2 rfl | exact h_.2.1 rfl | exact h_.2.2 rfl)) | (show some (Addr.add _ _).block ≠ _; rw [add_block]; exact (fun e_ => by have h_ := HO118.out.1 _ e_.symm; first | exact h_ rfl | exact h_.1 rfl | exact h_.2 rfl | exact h_.1.1 rfl | exact h_.1.2 rfl | exact h_.2.1 rfl | exact h_.2.2 rfl)) | exact (fun e_ => by have h_ := HO118.out.1 _ e_.symm; first | exact h_ rfl | exact h_.1 rfl | exact h_.2 rfl | exact h_.1.1 rfl | exact h_.1.2 rfl | exact h_.2.1 rfl | exact h_.2.2 rfl))
                        rw [← Ny119.out] at ho
                        have n0_ := Aside0.mk (Kd.R_after (ok := (fun k_ => some k_ ≠ (v124 : Value).ownBlock)) (by (with_reducible repeat (first | apply Kd.R_alloc | apply Kd.R_drewN | apply Kd.R_drew)); exact Kd.R_mono HO_5.out (fun _ hk => ⟨hk.1.2, hk.2⟩)) hg hat)
                        have n1_ := Aside0.mk (blk_grown (g := gb109) (o := .cells #[.int .i64 t107, .int .i64 t108] 32 (0, 0)) (by (with_reducible repeat (first | refine blk_drewN ?_ _ | refine blk_drew ?_ | refine blk_alloc ?_ _)); exact BK109.out) hg (Kd.R_ne HO118.out BK109.out (by decide)))
                        have n2_ := Aside0.mk (Kd.R_after (ok := (fun k_ => some k_ ≠ (.slice (some ad122) t101.length co8 : Value).ownBlock)) (by (with_reducible repeat (first | apply Kd.R_alloc | apply Kd.R_drewN | apply Kd.R_drew)); exact Kd.R_mono HO125.out (fun _ hk => ⟨hk.1.2, hk.2⟩)) hg hat)
                        have n3_ := Aside0.mk (hb)
                        have n4_ := Aside0.mk (ho)
                        clear HO_5
                        clear BK109
                        clear HO125
                        clear HB
                        clear HO118
                        have HO_5 := n0_
                        have BK109 := n1_
                        have HO125 := n2_
                        have HB := n3_
                        have HO121 := n4_
                        clear n0_ n1_ n2_ n3_ n4_
                        clear ho hb hg hat
                        refine hK.out _ _ ⟨HS0_, HS1_⟩ (fun hHeld => ?_)
                        clear hK K
                        refine norm_ (a' := ?_) ?_ ?_
                        rotate_left
                        · show Act.put _ (some 46) _ = _
                          simp only [Act.put, List.setIfInBounds_toArray, List.set_cons_zero, List.set_cons_succ, i64_w, i32_w]
                          rfl
                        exact norm_ (by simp only [putAll, Act.put, List.setIfInBounds_toArray, List.set_cons_zero, List.set_cons_succ]) (hCont (v117, v120, v124) _ ⟨hHeld, (by (with_reducible repeat (first | apply Kd.R_alloc | apply Kd.R_drewN | apply Kd.R_drew)); exact Kd.R_mono HO121.out (fun _ hk => ⟨hk.2, hk.1⟩)), (by (with_reducible repeat (first | apply Kd.R_alloc | apply Kd.R_drewN | apply Kd.R_drew)); exact Kd.R_mono HO125.out (fun _ hk => ⟨hk.2, hk.1⟩)), (by (with_reducible repeat (first | apply Kd.R_alloc | apply Kd.R_drewN | apply Kd.R_drew)); exact Kd.R_mono HO_5.out (fun _ hk => ⟨hk.2, hk.1⟩)), (by (with_reducible repeat (first | refine blk_drewN ?_ _ | refine blk_drew ?_ | refine blk_alloc ?_ _)); exact BK109.out), (by repeat (first | (with_reducible first | exact HB.out | apply below_alloc | apply pw_below_drewN | apply below_drew1 | refine below_set ?_ GE109.out) | exact HB.out))⟩)
                    rintro ⟨v117, v120, v124⟩ w36 ⟨hS_, h0_, h1_, h2_, h3_, h4_⟩
                    have n0_ : Aside0 (Kd.R k46 46 w36 w.heap.size (fun k_ => some k_ ≠ (v124 : Value).ownBlock ∧ some k_ ≠ (.slice (some ad122) t101.length co8 : Value).ownBlock) v120 y119) := ⟨h0_⟩
                    have n1_ : Aside0 (Kd.R k46 46 w36 w.heap.size (fun k_ => some k_ ≠ (v120 : Value).ownBlock ∧ some k_ ≠ (.slice (some ad122) t101.length co8 : Value).ownBlock) v124 y123) := ⟨h1_⟩
                    have n2_ : Aside0 (Kd.R k46 46 w36 w.heap.size (fun k_ => some k_ ≠ (v120 : Value).ownBlock ∧ some k_ ≠ (v124 : Value).ownBlock) (.slice (some ad122) t101.length co8) t101) := ⟨h2_⟩
                    have n3_ : Aside0 (w36.heap[gb109]? = some (.cells #[.int .i64 t107, .int .i64 t108] 32 (0, 0))) := ⟨h3_⟩
                    have n4_ : Aside0 (Below w.heap.size w w36) := ⟨h4_⟩
                    clear HO_5
                    clear BK109
                    clear HB
                    clear h0_ h1_ h2_ h3_ h4_
                    have HO121 := n0_
                    have HO125 := n1_
                    have HO_5 := n2_
                    have BK109 := n3_
                    have HB := n4_
                    clear n0_ n1_ n2_ n3_ n4_
                    have hHeld : w36.cell? (ad122.add (((ji22)).toNat * 2)) = some (.int .i64 ((rd_T46 t101 (ji22)).f0)) ∧ w36.cell? ⟨(ad122.add (((ji22)).toNat * 2)).block, (ad122.add (((ji22)).toNat * 2)).off + 1, none⟩ = some (.int .i64 ((rd_T46 t101 (ji22)).f1)) := hS_
                    obtain ⟨Ao38, co38, eo38⟩ := Kd.R_slice HO125.out
                    (first | subst eo38 | (injection eo38 with f1_ f2_ f3_; have f4_ := f1_.symm; have f5_ := f3_.symm; clear f1_ f2_ f3_; subst f4_; subst f5_))
                    refine norm_ (a' := ?_) ?_ ?_
                    rotate_left
                    · simp only [putAll, Act.put, List.setIfInBounds_toArray, List.set_cons_zero, List.set_cons_succ]
                      rfl
                    refine one_ (i := 11) (N := some 55) #[true, true, true, true, true, true, true, true, true, true, true, true, false] rfl rfl (one_of HT_.out (by kernel_rfl)) (by decide) (fun K hK => ?_)
                    refine Kd.R_append_rows_step k46 (w0 := w) w.heap.size (by rfl) (.tmp 46) (.tmp 54) 42 46 (.agg #[(.int .i64 0), (.int .i64 0)]) 16 rfl Try.underlying42 info46 rfl (by decide) (by omega) v120 y119 y123 _ _ _ (fun k_ => some k_ ≠ (.slice (some ad122) t101.length co8 : Value).ownBlock ∧ some k_ ≠ (.slice Ao38 y123.length co38 : Value).ownBlock) (fun _ => False) rfl rfl ?aO ?aR (fun _ _ h => h) (fun _ h => h.elim) ?aF ?aB ?aS ?aL ?_
                    (case aR => repeat (first | exact (Kd.R_reads' HO125.out).2.2 | (with_reducible refine Kd.C_alloc ?_ _) | (with_reducible refine Kd.C_drewN ?_ _) | (with_reducible refine Kd.C_drew ?_)))
                    (case aB => exact (by repeat (first | (with_reducible first | exact HB.out | apply below_alloc | apply pw_below_drewN | apply below_drew1 | refine below_set ?_ GE109.out) | exact HB.out)))
                    (case aF => exact (fun k_ hk => ⟨Kd.fresh' (Kd.R_lt (by (with_reducible repeat (first | apply Kd.R_alloc | apply Kd.R_drewN | apply Kd.R_drew)); exact HO_5.out)) k_ hk, Kd.fresh' (Kd.R_lt (by (with_reducible repeat (first | apply Kd.R_alloc | apply Kd.R_drewN | apply Kd.R_drew)); exact HO125.out)) k_ hk⟩))
                    (case aO => exact (by (with_reducible repeat (first | apply Kd.R_alloc | apply Kd.R_drewN | apply Kd.R_drew)); exact Kd.R_mono HO121.out (fun _ hk => ⟨hk.2, hk.1⟩)))
                    (case aS => exact (below_size (by repeat (first | (with_reducible first | exact HB.out | apply below_alloc | apply pw_below_drewN | apply below_drew1 | refine below_set ?_ GE109.out) | exact HB.out))))
                    (case aL => have := LMc25.out; omega)
                    intro v127 w37 ho hb hg hat
                    have HS0_ := cell_grown hg (hHeld.1) (by first | (rw [add_block]; exact (fun e_ => by have h_ := HO121.out.1 _ e_.symm; first | exact h_ rfl | exact h_.1 rfl | exact h_.2 rfl | exact h_.1.1 rfl | exact h_.1.2 rfl | exact h_.2.1 rfl | exact h_.2.2 rfl)) | (show some (Addr.add _ _).block ≠ _; rw [add_block]; exact (fun e_ => by have h_ := HO121.out.1 _ e_.symm; first | exact h_ rfl | exact h_.1 rfl | exact h_.2 rfl | exact h_.1.1 rfl | exact h_.1.2 rfl | exact h_.2.1 rfl | exact h_.2.2 rfl)) | exact (fun e_ => by have h_ := HO121.out.1 _ e_.symm; first | exact h_ rfl | exact h_.1 rfl | exact h_.2 rfl | exact h_.1.1 rfl | exact h_.1.2 rfl | exact h_.2.1 rfl | exact h_.2.2 rfl))
                    have HS1_ := cell_grown hg (hHeld.2) (by first | (rw [add_block]; exact (fun e_ => by have h_ := HO121.out.1 _ e_.symm; first | exact h_ rfl | exact h_.1 rfl | exact h_.2 rfl | exact h_.1.1 rfl | exact h_.1.2 rfl | exact h_.2.1 rfl | exact h_.2.2 rfl)) | (show some (Addr.add _ _).block ≠ _; rw [add_block]; exact (fun e_ => by have h_ := HO121.out.1 _ e_.symm; first | exact h_ rfl | exact h_.1 rfl | exact h_.2 rfl | exact h_.1.1 rfl | exact h_.1.2 rfl | exact h_.2.1 rfl | exact h_.2.2 rfl)) | exact (fun e_ => by have h_ := HO121.out.1 _ e_.symm; first | exact h_ rfl | exact h_.1 rfl | exact h_.2 rfl | exact h_.1.1 rfl | exact h_.1.2 rfl | exact h_.2.1 rfl | exact h_.2.2 rfl))
                    rw [← Ny126.out] at ho
                    have n0_ := Aside0.mk (Kd.R_after (ok := (fun k_ => some k_ ≠ (.slice Ao38 y123.length co38 : Value).ownBlock)) (by (with_reducible repeat (first | apply Kd.R_alloc | apply Kd.R_drewN | apply Kd.R_drew)); exact Kd.R_mono HO_5.out (fun _ hk => ⟨hk.2, hk.1⟩)) hg hat)
                    have n1_ := Aside0.mk (blk_grown (g := gb109) (o := .cells #[.int .i64 t107, .int .i64 t108] 32 (0, 0)) (by (with_reducible repeat (first | refine blk_drewN ?_ _ | refine blk_drew ?_ | refine blk_alloc ?_ _)); exact BK109.out) hg (Kd.R_ne HO121.out BK109.out (by decide)))
                    have n2_ := Aside0.mk (Kd.R_after (ok := (fun k_ => some k_ ≠ (.slice (some ad122) t101.length co8 : Value).ownBlock)) (by (with_reducible repeat (first | apply Kd.R_alloc | apply Kd.R_drewN | apply Kd.R_drew)); exact Kd.R_mono HO125.out (fun _ hk => ⟨hk.2, hk.1⟩)) hg hat)
                    have n3_ := Aside0.mk (hb)
                    have n4_ := Aside0.mk (ho)
                    clear HO_5
                    clear BK109
                    clear HO125
                    clear HB
                    clear HO121
                    have HO_5 := n0_
                    have BK109 := n1_
                    have HO125 := n2_
                    have HB := n3_
                    have HO128 := n4_
                    clear n0_ n1_ n2_ n3_ n4_
                    clear ho hb hg hat
                    refine hK.out _ _ ⟨HS0_, HS1_⟩ (fun hHeld => ?_)
                    clear hK K
                    refine norm_ (a' := ?_) ?_ ?_
                    rotate_left
                    · show Act.put _ (some 55) _ = _
                      simp only [Act.put, List.setIfInBounds_toArray, List.set_cons_zero, List.set_cons_succ, i64_w, i32_w]
                      rfl
                    refine pure_ (i := 12) (N := some 11) (v := ?_) (a' := ?_) #[true, true, true, true, true, true, true, true, true, true, true, true, true] rfl rfl (any_of HT_.out (by kernel_rfl)) (fun _ _ _ h => h) (Or.inl ⟨by rfl, ?_⟩) ?_ ?_
                    rotate_left
                    · intro w'
                      go_simp
                      with_reducible rfl
                    rotate_left
                    · simp only [Act.put, List.setIfInBounds_toArray, List.set_cons_zero, List.set_cons_succ, i64_w, i32_w]
                      rfl
                    refine done_ (done_of HT_.out (by kernel_rfl)) ?_
                    obtain ⟨Ao39, co39, eo39⟩ := Kd.R_slice HO128.out
                    subst eo39
                    try go_wp2_with (first | ((with_reducible refine gate_callee (f := 22) rfl ?_); refine goesL_ (some 58) rfl rfl Try.func22 (by kernel_rfl) rfl #[.slice Ao39 y126.length co39, .int .i64 10020] rfl (by (try simp only [List.map_toArray, List.map_cons, List.map_nil]); first | done | rfl | (simp only [List.length_drop, List.length_take]; rfl)) ?_; (with_reducible refine (slipwaylaw10_Made.calls kj5 _ _ y126 10020 t129 t132 t133 _ ?side1 ?side2 A26.out).mono ?_); (case side1 => repeat (first | exact (Kd.R_reads' HO128.out).2.2 | (with_reducible refine Kd.C_alloc ?_ _) | (with_reducible refine Kd.C_drewN ?_ _) | (with_reducible refine Kd.C_drew ?_))); (case side2 => exact (Kd.R_reads' HO128.out).2.1); rintro e w40 ⟨v130, rfl, ho0, hb⟩; refine ⟨_, rfl, ?_⟩; have n0_ := Aside0.mk (Kd.R_below (by (with_reducible repeat (first | apply Kd.R_alloc | apply Kd.R_drewN | apply Kd.R_drew)); exact HO_5.out) hb); have n1_ := Aside0.mk (Kd.R_below (by (with_reducible repeat (first | apply Kd.R_alloc | apply Kd.R_drewN | apply Kd.R_drew)); exact HO125.out) hb); have n2_ := Aside0.mk (Kd.R_below (by (with_reducible repeat (first | apply Kd.R_alloc | apply Kd.R_drewN | apply Kd.R_drew)); exact HO128.out) hb); have n3_ := Aside0.mk (Kd.R_lower ho0 (below_size (by repeat (first | (with_reducible first | exact HB.out | apply below_alloc | apply pw_below_drewN | apply below_drew1 | refine below_set ?_ GE109.out) | exact HB.out)))); have n4_ := Aside0.mk (blk_below (g := gb109) (o := .cells #[.int .i64 t107, .int .i64 t108] 32 (0, 0)) (by (with_reducible repeat (first | refine blk_drewN ?_ _ | refine blk_drew ?_ | refine blk_alloc ?_ _)); exact BK109.out) hb); have n5_ := Aside0.mk (below_step (by repeat (first | (with_reducible first | exact HB.out | apply below_alloc | apply pw_below_drewN | apply below_drew1 | refine below_set ?_ GE109.out) | exact HB.out)) hb); clear HO_5; clear HO125; clear HO128; clear BK109; clear HB; have HO_5 := n0_; have HO125 := n1_; have HO128 := n2_; have HO131 := n3_; have BK109 := n4_; have HB := n5_; clear n0_ n1_ n2_ n3_ n4_ n5_; (try clear hb); (try clear hb2); (try clear hk); (try clear hi); (try clear ho0); have hcz41_0 : w40.cell? ⟨gb109, 0, none⟩ = some (.int .i64 t107) := (blk_cell BK109.out 0).trans rfl; have hcz41_1 : w40.cell? ⟨gb109, 1, none⟩ = some (.int .i64 t108) := (blk_cell BK109.out 1).trans rfl; have hfz41_0 := blk_frozen BK109.out 0; have hfz41_1 := blk_frozen BK109.out 1; obtain ⟨Ao42, co42, eo42⟩ := Kd.R_slice HO131.out; subst eo42) | ((with_reducible refine gate_callee (f := 19) rfl ?_); refine goesL_ (some 64) rfl rfl Try.func19 (by kernel_rfl) rfl #[.slice Ao42 t129.length co42, .agg #[.int .i64 t132, .int .i64 t133]] rfl (by (try simp only [List.map_toArray, List.map_cons, List.map_nil]); first | done | rfl | (simp only [List.length_drop, List.length_take]; rfl)) ?_; (with_reducible refine (rel_Parse.calls _ _ t129 t132 t133 t134 t137 _ ?side1 ?side2 A27.out).mono ?_); (case side1 => refine (Kd.R_reads' (e := 5) (base := w.heap.size) (ok := fun k_ => True) (n := t129.length) (c := co42) ?_).2.2; exact (by (with_reducible repeat (first | apply Kd.R_alloc | apply Kd.R_drewN | apply Kd.R_drew)); exact (Kd.R_mono (Kd.R_far (p := ⟨gb109, 1, none⟩) (Kd.R_far (p := ⟨gb109, 0, none⟩) (Kd.R_types HO131.out BK109.out (by decide)) (fun _ hk => hk.2) (.int .i64 t132)) (fun _ hk => hk.2) (.int .i64 t133)) (fun _ h_ => h_.1)))); (case side2 => exact (Kd.R_reads' HO131.out).2.1); rintro e w43 ⟨v135, rfl, ho0, hb⟩; refine ⟨_, rfl, ?_⟩; have n0_ := Aside0.mk (Kd.R_elder' (by (with_reducible repeat (first | apply Kd.R_alloc | apply Kd.R_drewN | apply Kd.R_drew)); exact (Kd.R_mono (Kd.R_far (p := ⟨gb109, 1, none⟩) (Kd.R_far (p := ⟨gb109, 0, none⟩) (Kd.R_types HO_5.out BK109.out (by decide)) (fun _ hk => hk.2) (.int .i64 t132)) (fun _ hk => hk.2) (.int .i64 t133)) (fun _ h_ => h_.1))) (Kd.R_base ho0) hb); have n1_ := Aside0.mk (Kd.R_elder' (by (with_reducible repeat (first | apply Kd.R_alloc | apply Kd.R_drewN | apply Kd.R_drew)); exact (Kd.R_mono (Kd.R_far (p := ⟨gb109, 1, none⟩) (Kd.R_far (p := ⟨gb109, 0, none⟩) (Kd.R_types HO125.out BK109.out (by decide)) (fun _ hk => hk.2) (.int .i64 t132)) (fun _ hk => hk.2) (.int .i64 t133)) (fun _ h_ => h_.1))) (Kd.R_base ho0) hb); have n2_ := Aside0.mk (Kd.R_elder' (by (with_reducible repeat (first | apply Kd.R_alloc | apply Kd.R_drewN | apply Kd.R_drew)); exact (Kd.R_mono (Kd.R_far (p := ⟨gb109, 1, none⟩) (Kd.R_far (p := ⟨gb109, 0, none⟩) (Kd.R_types HO128.out BK109.out (by decide)) (fun _ hk => hk.2) (.int .i64 t132)) (fun _ hk => hk.2) (.int .i64 t133)) (fun _ h_ => h_.1))) (Kd.R_base ho0) hb); have n3_ := Aside0.mk (Kd.R_below (by (with_reducible repeat (first | apply Kd.R_alloc | apply Kd.R_drewN | apply Kd.R_drew)); exact (Kd.R_mono (Kd.R_far (p := ⟨gb109, 1, none⟩) (Kd.R_far (p := ⟨gb109, 0, none⟩) (Kd.R_types HO131.out BK109.out (by decide)) (fun _ hk => hk.2) (.int .i64 t132)) (fun _ hk => hk.2) (.int .i64 t133)) (fun _ h_ => h_.1))) hb); have n4_ := Aside0.mk (Kd.R_lower (Kd.R_new' (Kd.R_new' (Kd.R_new' ho0 (Kd.R_lt (by (with_reducible repeat (first | apply Kd.R_alloc | apply Kd.R_drewN | apply Kd.R_drew)); exact (Kd.R_mono (Kd.R_far (p := ⟨gb109, 1, none⟩) (Kd.R_far (p := ⟨gb109, 0, none⟩) (Kd.R_types HO_5.out BK109.out (by decide)) (fun _ hk => hk.2) (.int .i64 t132)) (fun _ hk => hk.2) (.int .i64 t133)) (fun _ h_ => h_.1))))) (Kd.R_lt (by (with_reducible repeat (first | apply Kd.R_alloc | apply Kd.R_drewN | apply Kd.R_drew)); exact (Kd.R_mono (Kd.R_far (p := ⟨gb109, 1, none⟩) (Kd.R_far (p := ⟨gb109, 0, none⟩) (Kd.R_types HO125.out BK109.out (by decide)) (fun _ hk => hk.2) (.int .i64 t132)) (fun _ hk => hk.2) (.int .i64 t133)) (fun _ h_ => h_.1))))) (Kd.R_lt (by (with_reducible repeat (first | apply Kd.R_alloc | apply Kd.R_drewN | apply Kd.R_drew)); exact (Kd.R_mono (Kd.R_far (p := ⟨gb109, 1, none⟩) (Kd.R_far (p := ⟨gb109, 0, none⟩) (Kd.R_types HO128.out BK109.out (by decide)) (fun _ hk => hk.2) (.int .i64 t132)) (fun _ hk => hk.2) (.int .i64 t133)) (fun _ h_ => h_.1))))) (below_size (by repeat (first | (with_reducible first | exact HB.out | apply below_alloc | apply pw_below_drewN | apply below_drew1 | refine below_set ?_ GE109.out) | exact HB.out)))); have n5_ := Aside0.mk (blk_below (g := gb109) (o := .cells #[.int .i64 t132, .int .i64 t133] 32 (0, 0)) (by (with_reducible repeat (first | refine blk_drewN ?_ _ | refine blk_drew ?_ | refine blk_alloc ?_ _)); refine blk_put (cs := #[.int .i64 t132, .int .i64 t108]) ?_ 1 _ rfl; (with_reducible repeat (first | refine blk_drewN ?_ _ | refine blk_drew ?_ | refine blk_alloc ?_ _)); refine blk_put (cs := #[.int .i64 t107, .int .i64 t108]) ?_ 0 _ rfl; (with_reducible repeat (first | refine blk_drewN ?_ _ | refine blk_drew ?_ | refine blk_alloc ?_ _)); exact BK109.out) hb); have n6_ := Aside0.mk (below_step (by repeat (first | (with_reducible first | exact HB.out | apply below_alloc | apply pw_below_drewN | apply below_drew1 | refine below_set ?_ GE109.out) | exact HB.out)) hb); clear HO_5; clear HO125; clear HO128; clear HO131; clear BK109; clear HB; have HO_5 := n0_; have HO125 := n1_; have HO128 := n2_; have HO131 := n3_; have HO136 := n4_; have BK109 := n5_; have HB := n6_; clear n0_ n1_ n2_ n3_ n4_ n5_ n6_; (try clear hb); (try clear hb2); (try clear hk); (try clear hi); (try clear ho0)) | (go_at_call 20; (with_reducible refine (slipwaylaw10_awake.calls kj5  t138 _ A29.out).mono ?_); rintro e w44 ⟨rfl, hb⟩; have n0_ := Aside0.mk (Kd.R_below (by (with_reducible repeat (first | apply Kd.R_alloc | apply Kd.R_drewN | apply Kd.R_drew)); exact HO_5.out) hb); have n1_ := Aside0.mk (Kd.R_below (by (with_reducible repeat (first | apply Kd.R_alloc | apply Kd.R_drewN | apply Kd.R_drew)); exact HO125.out) hb); have n2_ := Aside0.mk (Kd.R_below (by (with_reducible repeat (first | apply Kd.R_alloc | apply Kd.R_drewN | apply Kd.R_drew)); exact HO128.out) hb); have n3_ := Aside0.mk (Kd.R_below (by (with_reducible repeat (first | apply Kd.R_alloc | apply Kd.R_drewN | apply Kd.R_drew)); exact HO131.out) hb); have n4_ := Aside0.mk (Kd.R_below (by (with_reducible repeat (first | apply Kd.R_alloc | apply Kd.R_drewN | apply Kd.R_drew)); exact HO136.out) hb); have n5_ := Aside0.mk (blk_below (g := gb109) (o := .cells #[.int .i64 t132, .int .i64 t133] 32 (0, 0)) (by (with_reducible repeat (first | refine blk_drewN ?_ _ | refine blk_drew ?_ | refine blk_alloc ?_ _)); exact BK109.out) hb); have n6_ := Aside0.mk (below_step (by repeat (first | (with_reducible first | exact HB.out | apply below_alloc | apply pw_below_drewN | apply below_drew1 | refine below_set ?_ GE109.out) | exact HB.out)) hb); clear HO_5; clear HO125; clear HO128; clear HO131; clear HO136; clear BK109; clear HB; have HO_5 := n0_; have HO125 := n1_; have HO128 := n2_; have HO131 := n3_; have HO136 := n4_; have BK109 := n5_; have HB := n6_; clear n0_ n1_ n2_ n3_ n4_ n5_ n6_; (try clear hb); (try clear hb2); (try clear hk); (try clear hi)))
                    go_ret
                    exact ⟨by first | rfl | (simp [errW_none, errW_some] <;> rfl) | (simp only [← hji22]; first | rfl | (simp [errW_none, errW_some] <;> rfl)) | (simp [*, errW_none, errW_some] <;> rfl), by repeat (first | (with_reducible first | exact HB.out | apply below_alloc | apply pw_below_drewN | apply below_drew1 | refine below_set ?_ GE109.out) | exact HB.out)⟩
                  · rw [if_neg c28] at H
                    have c28b0 : (t137 == 9) = false := beq_eq_false_iff_ne.mpr c28
                    have c28b1 : (t137 != 9) = true := bne_iff_ne.mpr c28
                    obtain rfl := Option.some.inj H
                    try go_wp2
                    have n0_ := Aside0.mk (Kd.R_drew HO_5.out)
                    have n1_ := Aside0.mk (blk_drew BK109.out)
                    have n2_ := Aside0.mk (below_drew1 HB.out)
                    clear HO_5
                    clear BK109
                    clear HB
                    have HO_5 := n0_
                    have BK109 := n1_
                    have HB := n2_
                    clear n0_ n1_ n2_
                    have p122 : 0 ≤ ((ji22) : Int) := of_decide_eq_true (by first | (with_reducible assumption) | assumption)
                    have q122 : (ji22) < (t101.length : Int) := of_decide_eq_true (by first | (with_reducible assumption) | assumption)
                    obtain ⟨ad122, e122, hx122_0, hx122_1⟩ := at_T46 (Kd.R_reads' HO_5.out).2.2 (ji22) p122 q122
                    cases e122
                    replace p122 := eq_true p122
                    replace q122 := eq_true q122
                    refine start_ (n := 13) (S := fun w' => w'.cell? (ad122.add (((ji22)).toNat * 2)) = some (.int .i64 ((rd_T46 t101 (ji22)).f0)) ∧ w'.cell? ⟨(ad122.add (((ji22)).toNat * 2)).block, (ad122.add (((ji22)).toNat * 2)).off + 1, none⟩ = some (.int .i64 ((rd_T46 t101 (ji22)).f1))) (ds := []) #[false, false, false, false, false, false, false, false, false, false, false, false, false] (by kernel_rfl) rfl rfl ⟨hx122_0, hx122_1⟩ (fun hHeld => ?_); refine with_tabW slipwaylaw10_RelBack.tab9 slipwaylaw10_RelBack.bits9 (fun HT_ HW_ => ?_)
                    generalize wc.drew = w45 at HO_5 BK109 HB hx122_0 hx122_1 hHeld ⊢
                    refine pure_ (i := 1) (N := some 45) (v := ?_) (a' := ?_) #[false, true, false, false, false, false, false, false, false, false, false, false, false] rfl rfl (any_of HT_.out (by kernel_rfl)) (fun _ _ _ h => h) (Or.inl ⟨by rfl, ?_⟩) ?_ ?_
                    rotate_left
                    · intro w'
                      go_simp
                      with_reducible rfl
                    rotate_left
                    · simp only [Act.put, List.setIfInBounds_toArray, List.set_cons_zero, List.set_cons_succ, i64_w, i32_w]
                      rfl
                    refine pure_ (i := 3) (N := some 47) (v := ?_) (a' := ?_) #[false, true, false, true, false, false, false, false, false, false, false, false, false] rfl rfl (any_of HT_.out (by kernel_rfl)) (fun _ _ _ h => h) (Or.inl ⟨by rfl, ?_⟩) ?_ ?_
                    rotate_left
                    · intro w'
                      go_simp
                      with_reducible rfl
                    rotate_left
                    · simp only [Act.put, List.setIfInBounds_toArray, List.set_cons_zero, List.set_cons_succ, i64_w, i32_w]
                      rfl
                    refine pure_ (i := 4) (N := some 48) (v := ?_) (a' := ?_) #[false, true, false, true, true, false, false, false, false, false, false, false, false] rfl rfl (any_of HT_.out (by kernel_rfl)) (fun _ _ _ h => h) (Or.inl ⟨by rfl, ?_⟩) ?_ ?_
                    rotate_left
                    · intro w'
                      go_simp
                      with_reducible rfl
                    rotate_left
                    · simp only [Act.put, List.setIfInBounds_toArray, List.set_cons_zero, List.set_cons_succ, i64_w, i32_w]
                      rfl
                    refine pure_ (i := 5) (N := some 49) (v := ?_) (a' := ?_) #[false, true, false, true, true, true, false, false, false, false, false, false, false] rfl rfl (any_of HT_.out (by kernel_rfl)) (fun _ _ _ h => h) (Or.inl ⟨by rfl, ?_⟩) ?_ ?_
                    rotate_left
                    · intro w'
                      go_simp
                      with_reducible rfl
                    rotate_left
                    · simp only [Act.put, List.setIfInBounds_toArray, List.set_cons_zero, List.set_cons_succ, i64_w, i32_w]
                      rfl
                    refine pure_ (i := 6) (N := some 50) (v := ?_) (a' := ?_) #[false, true, false, true, true, true, true, false, false, false, false, false, false] rfl rfl (any_of HT_.out (by kernel_rfl)) (fun _ _ _ h => h) (Or.inl ⟨by rfl, ?_⟩) ?_ ?_
                    rotate_left
                    · intro w'
                      go_simp
                      with_reducible rfl
                    rotate_left
                    · simp only [Act.put, List.setIfInBounds_toArray, List.set_cons_zero, List.set_cons_succ, i64_w, i32_w]
                      rfl
                    refine take_ (i := 7) (N := some 51) (v := ?_) (a' := ?_) #[false, true, false, true, true, true, true, true, false, false, false, false, false] rfl rfl (take_ofW HT_.out HW_.out (by kernel_rfl)) (fun _ _ _ h => h) (Or.inl ⟨by rfl, ?_⟩) hHeld ?_ ?_
                    rotate_left
                    · rintro w' ⟨s0, s1⟩
                      go_simp
                      with_reducible rfl
                    rotate_left
                    · simp only [Act.put, List.setIfInBounds_toArray, List.set_cons_zero, List.set_cons_succ, i64_w, i32_w]
                      rfl
                    refine pure_ (i := 8) (N := some 52) (v := ?_) (a' := ?_) #[false, true, false, true, true, true, true, true, true, false, false, false, false] rfl rfl (any_of HT_.out (by kernel_rfl)) (fun _ _ _ h => h) (Or.inl ⟨by rfl, ?_⟩) ?_ ?_
                    rotate_left
                    · intro w'
                      go_simp
                      with_reducible rfl
                    rotate_left
                    · simp only [Act.put, List.setIfInBounds_toArray, List.set_cons_zero, List.set_cons_succ, i64_w, i32_w]
                      rfl
                    refine pure_ (i := 9) (N := some 53) (v := ?_) (a' := ?_) #[false, true, false, true, true, true, true, true, true, true, false, false, false] rfl rfl (any_of HT_.out (by kernel_rfl)) (fun _ _ _ h => h) (Or.inl ⟨by rfl, ?_⟩) ?_ ?_
                    rotate_left
                    · intro w'
                      go_simp
                      with_reducible rfl
                    rotate_left
                    · simp only [Act.put, List.setIfInBounds_toArray, List.set_cons_zero, List.set_cons_succ, i64_w, i32_w]
                      rfl
                    refine join_ (σ := Value × Value × Value) 2 #[true, true, true, true, true, true, true, true, true, true, true, false, false] (fun s_ => [(44, s_.1), (46, s_.2.1), (54, s_.2.2)]) (fun s_ w' => (w'.cell? (ad122.add (((ji22)).toNat * 2)) = some (.int .i64 ((rd_T46 t101 (ji22)).f0)) ∧ w'.cell? ⟨(ad122.add (((ji22)).toNat * 2)).block, (ad122.add (((ji22)).toNat * 2)).off + 1, none⟩ = some (.int .i64 ((rd_T46 t101 (ji22)).f1))) ∧ (Kd.R k46 46 w' w.heap.size (fun k_ => some k_ ≠ (s_.2.2 : Value).ownBlock ∧ some k_ ≠ (.slice (some ad122) t101.length co8 : Value).ownBlock) s_.2.1 y119) ∧ (Kd.R k46 46 w' w.heap.size (fun k_ => some k_ ≠ (s_.2.1 : Value).ownBlock ∧ some k_ ≠ (.slice (some ad122) t101.length co8 : Value).ownBlock) s_.2.2 y123) ∧ (Kd.R k46 46 w' w.heap.size (fun k_ => some k_ ≠ (s_.2.1 : Value).ownBlock ∧ some k_ ≠ (s_.2.2 : Value).ownBlock) (.slice (some ad122) t101.length co8) t101) ∧ (w'.heap[gb109]? = some (.cells #[.int .i64 t107, .int .i64 t108] 32 (0, 0))) ∧ (Below w.heap.size w w')) ?_ ?_
                    rotate_left
                    · intro hCont
                      refine two_ (i := 0) (j := 10) (Ni := some 44) (Nj := some 54) #[true, true, false, true, true, true, true, true, true, true, false, false, false] #[false, true, false, true, true, true, true, true, true, true, true, false, false] rfl rfl rfl rfl (two_of HT_.out (by kernel_rfl)) (by decide) (by decide) (fun K hK => ?_) (fun K hK => ?_)
                      · skip
                        refine Kd.R_lit_step k46 _ 46 ?hg (N := 44) ?hd (xs := ([] : List (S46))) (inner := []) (ok := fun _ => True) (okp := fun _ => True) ?hr ?hp (fun _ hk => hk) trivial (Below.refl _ _) (Nat.le_refl _) (by simp) ?_; (case hd => rfl); (case hg => rfl); (case hr => first | (go_simp; done) | (go_simp; rfl)); (case hp => exact (Reps.none _ _))
                        intro v117 w46 ho47 hb hg_ hnew_
                        have HS0_ := (hb.cell (World.block_lt_of_cell? _ _ (hHeld.1))).trans (hHeld.1)
                        have HS1_ := (hb.cell (World.block_lt_of_cell? _ _ (hHeld.2))).trans (hHeld.2)
                        clear hg_ hnew_
                        (first | rw [← Ny116.out] at ho47 | (simp only [Int.reduceToNat] at ho47; rw [← Ny116.out] at ho47))
                        have n0_ := Aside0.mk (Kd.R_elder' (by (with_reducible repeat (first | apply Kd.R_alloc | apply Kd.R_drewN | apply Kd.R_drew)); exact HO_5.out) (Kd.R_base ho47) hb)
                        have n1_ := Aside0.mk (Kd.R_lower (Kd.R_new' ho47 (Kd.R_lt (by (with_reducible repeat (first | apply Kd.R_alloc | apply Kd.R_drewN | apply Kd.R_drew)); exact HO_5.out))) (below_size (by repeat (first | (with_reducible first | exact HB.out | apply below_alloc | apply pw_below_drewN | apply below_drew1 | refine below_set ?_ GE109.out) | exact HB.out))))
                        have n2_ := Aside0.mk (blk_below (g := gb109) (o := .cells #[.int .i64 t107, .int .i64 t108] 32 (0, 0)) (by (with_reducible repeat (first | refine blk_drewN ?_ _ | refine blk_drew ?_ | refine blk_alloc ?_ _)); exact BK109.out) hb)
                        have n3_ := Aside0.mk (below_step (by repeat (first | (with_reducible first | exact HB.out | apply below_alloc | apply pw_below_drewN | apply below_drew1 | refine below_set ?_ GE109.out) | exact HB.out)) hb)
                        clear HO_5
                        clear BK109
                        clear HB
                        have HO_5 := n0_
                        have HO118 := n1_
                        have BK109 := n2_
                        have HB := n3_
                        clear n0_ n1_ n2_ n3_
                        clear hb ho47
                        refine hK.out _ _ ⟨HS0_, HS1_⟩ (fun hHeld => ?_)
                        clear hK K
                        refine norm_ (a' := ?_) ?_ ?_
                        rotate_left
                        · show Act.put _ (some 44) _ = _
                          simp only [Act.put, List.setIfInBounds_toArray, List.set_cons_zero, List.set_cons_succ, i64_w, i32_w]
                          rfl
                        refine two_ (i := 2) (j := 10) (Ni := some 46) (Nj := some 54) #[true, true, true, true, true, true, true, true, true, true, false, false, false] #[true, true, false, true, true, true, true, true, true, true, true, false, false] rfl rfl rfl rfl (two_of HT_.out (by kernel_rfl)) (by decide) (by decide) (fun K hK => ?_) (fun K hK => ?_)
                        · skip
                          refine Kd.R_append_rows_step k46 (w0 := w) w.heap.size (by rfl) (.tmp 44) (.tmp 45) 42 46 (.agg #[(.int .i64 0), (.int .i64 0)]) 16 rfl Try.underlying42 info46 rfl (by decide) (by omega) v117 y116 t101 _ _ _ (fun k_ => some k_ ≠ (.slice (some ad122) t101.length co8 : Value).ownBlock) (fun _ => False) rfl rfl ?aO ?aR (fun _ _ h => h) (fun _ h => h.elim) ?aF ?aB ?aS ?aL ?_
                          (case aR => repeat (first | exact (Kd.R_reads' HO_5.out).2.2 | (with_reducible refine Kd.C_alloc ?_ _) | (with_reducible refine Kd.C_drewN ?_ _) | (with_reducible refine Kd.C_drew ?_)))
                          (case aB => exact (by repeat (first | (with_reducible first | exact HB.out | apply below_alloc | apply pw_below_drewN | apply below_drew1 | refine below_set ?_ GE109.out) | exact HB.out)))
                          (case aF => exact (fun k_ hk => Kd.fresh' (Kd.R_lt (by (with_reducible repeat (first | apply Kd.R_alloc | apply Kd.R_drewN | apply Kd.R_drew)); exact HO_5.out)) k_ hk))
                          (case aO => exact (by (with_reducible repeat (first | apply Kd.R_alloc | apply Kd.R_drewN | apply Kd.R_drew)); exact Kd.R_mono HO118.out (fun _ hk => hk.2)))
                          (case aS => exact (below_size (by repeat (first | (with_reducible first | exact HB.out | apply below_alloc | apply pw_below_drewN | apply below_drew1 | refine below_set ?_ GE109.out) | exact HB.out))))
                          (case aL => have := LMc21.out; omega)
                          intro v120 w48 ho hb hg hat
                          have HS0_ := cell_grown hg (hHeld.1) (by first | (rw [add_block]; exact (fun e_ => by have h_ := HO118.out.1 _ e_.symm; first | exact h_ rfl | exact h_.1 rfl | exact h_.2 rfl | exact h_.1.1 rfl | exact h_.1.2 rfl | exact h_.2.1 rfl | exact h_.2.2 rfl)) | (show some (Addr.add _ _).block ≠ _; rw [add_block]; exact (fun e_ => by have h_ := HO118.out.1 _ e_.symm; first | exact h_ rfl | exact h_.1 rfl | exact h_.2 rfl | exact h_.1.1 rfl | exact h_.1.2 rfl | exact h_.2.1 rfl | exact h_.2.2 rfl)) | exact (fun e_ => by have h_ := HO118.out.1 _ e_.symm; first | exact h_ rfl | exact h_.1 rfl | exact h_.2 rfl | exact h_.1.1 rfl | exact h_.1.2 rfl | exact h_.2.1 rfl | exact h_.2.2 rfl))
                          have HS1_ := cell_grown hg (hHeld.2) (by first | (rw [add_block]; exact (fun e_ => by have h_ := HO118.out.1 _ e_.symm; first | exact h_ rfl | exact h_.1 rfl | exact h_.2 rfl | exact h_.1.1 rfl | exact h_.1.2 rfl | exact h_.2.1 rfl | exact h_.2.2 rfl)) | (show some (Addr.add _ _).block ≠ _; rw [add_block]; exact (fun e_ => by have h_ := HO118.out.1 _ e_.symm; first | exact h_ rfl | exact h_.1 rfl | exact h_.2 rfl | exact h_.1.1 rfl | exact h_.1.2 rfl | exact h_.2.1 rfl | exact h_.2.2 rfl)) | exact (fun e_ => by have h_ := HO118.out.1 _ e_.symm; first | exact h_ rfl | exact h_.1 rfl | exact h_.2 rfl | exact h_.1.1 rfl | exact h_.1.2 rfl | exact h_.2.1 rfl | exact h_.2.2 rfl))
                          rw [← Ny119.out] at ho
                          have n0_ := Aside0.mk (Kd.R_after (ok := (fun _ => True)) (by (with_reducible repeat (first | apply Kd.R_alloc | apply Kd.R_drewN | apply Kd.R_drew)); exact HO_5.out) hg hat)
                          have n1_ := Aside0.mk (blk_grown (g := gb109) (o := .cells #[.int .i64 t107, .int .i64 t108] 32 (0, 0)) (by (with_reducible repeat (first | refine blk_drewN ?_ _ | refine blk_drew ?_ | refine blk_alloc ?_ _)); exact BK109.out) hg (Kd.R_ne HO118.out BK109.out (by decide)))
                          have n2_ := Aside0.mk (hb)
                          have n3_ := Aside0.mk (ho)
                          clear HO_5
                          clear BK109
                          clear HB
                          clear HO118
                          have HO_5 := n0_
                          have BK109 := n1_
                          have HB := n2_
                          have HO121 := n3_
                          clear n0_ n1_ n2_ n3_
                          clear ho hb hg hat
                          refine hK.out _ _ ⟨HS0_, HS1_⟩ (fun hHeld => ?_)
                          clear hK K
                          refine norm_ (a' := ?_) ?_ ?_
                          rotate_left
                          · show Act.put _ (some 46) _ = _
                            simp only [Act.put, List.setIfInBounds_toArray, List.set_cons_zero, List.set_cons_succ, i64_w, i32_w]
                            rfl
                          refine one_ (i := 10) (N := some 54) #[true, true, true, true, true, true, true, true, true, true, true, false, false] rfl rfl (one_of HT_.out (by kernel_rfl)) (by decide) (fun K hK => ?_)
                          refine Kd.R_lit_step k46 _ 46 ?hg (N := 54) ?hd (xs := ([(⟨3, wrap64 (((rd_T46 t101 (ji22)).f1) + 3)⟩ : S46)] : List (S46))) (inner := [.int .i64 3, .int .i64 (wrap64 (((rd_T46 t101 (ji22)).f1) + 3))]) (ok := fun _ => True) (okp := fun _ => True) ?hr ?hp (fun _ hk => hk) trivial (Below.refl _ _) (Nat.le_refl _) (by simp) ?_; (case hd => rfl); (case hg => rfl); (case hr => first | (go_simp; done) | (go_simp; rfl)); (case hp => exact (Reps.c2 (show Kd.M k46 _ _ _ (⟨3, wrap64 (((rd_T46 t101 (ji22)).f1) + 3)⟩ : S46) [.int .i64 3, .int .i64 (wrap64 (((rd_T46 t101 (ji22)).f1) + 3))] from (k46_mkM _ _ _ (⟨3, wrap64 (((rd_T46 t101 (ji22)).f1) + 3)⟩ : S46) )) (Reps.none _ _)))
                          intro v124 w49 ho50 hb hg_ hnew_
                          have HS0_ := (hb.cell (World.block_lt_of_cell? _ _ (hHeld.1))).trans (hHeld.1)
                          have HS1_ := (hb.cell (World.block_lt_of_cell? _ _ (hHeld.2))).trans (hHeld.2)
                          clear hg_ hnew_
                          (first | rw [← Ny123.out] at ho50 | (simp only [Int.reduceToNat] at ho50; rw [← Ny123.out] at ho50))
                          have n0_ := Aside0.mk (Kd.R_elder' (by (with_reducible repeat (first | apply Kd.R_alloc | apply Kd.R_drewN | apply Kd.R_drew)); exact HO_5.out) (Kd.R_base ho50) hb)
                          have n1_ := Aside0.mk (Kd.R_elder' (by (with_reducible repeat (first | apply Kd.R_alloc | apply Kd.R_drewN | apply Kd.R_drew)); exact HO121.out) (Kd.R_base ho50) hb)
                          have n2_ := Aside0.mk (Kd.R_lower (Kd.R_new' (Kd.R_new' ho50 (Kd.R_lt (by (with_reducible repeat (first | apply Kd.R_alloc | apply Kd.R_drewN | apply Kd.R_drew)); exact HO_5.out))) (Kd.R_lt (by (with_reducible repeat (first | apply Kd.R_alloc | apply Kd.R_drewN | apply Kd.R_drew)); exact HO121.out))) (below_size (by repeat (first | (with_reducible first | exact HB.out | apply below_alloc | apply pw_below_drewN | apply below_drew1 | refine below_set ?_ GE109.out) | exact HB.out))))
                          have n3_ := Aside0.mk (blk_below (g := gb109) (o := .cells #[.int .i64 t107, .int .i64 t108] 32 (0, 0)) (by (with_reducible repeat (first | refine blk_drewN ?_ _ | refine blk_drew ?_ | refine blk_alloc ?_ _)); exact BK109.out) hb)
                          have n4_ := Aside0.mk (below_step (by repeat (first | (with_reducible first | exact HB.out | apply below_alloc | apply pw_below_drewN | apply below_drew1 | refine below_set ?_ GE109.out) | exact HB.out)) hb)
                          clear HO_5
                          clear HO121
                          clear BK109
                          clear HB
                          have HO_5 := n0_
                          have HO121 := n1_
                          have HO125 := n2_
                          have BK109 := n3_
                          have HB := n4_
                          clear n0_ n1_ n2_ n3_ n4_
                          clear hb ho50
                          refine hK.out _ _ ⟨HS0_, HS1_⟩ (fun hHeld => ?_)
                          clear hK K
                          refine norm_ (a' := ?_) ?_ ?_
                          rotate_left
                          · show Act.put _ (some 54) _ = _
                            simp only [Act.put, List.setIfInBounds_toArray, List.set_cons_zero, List.set_cons_succ, i64_w, i32_w]
                            rfl
                          exact norm_ (by simp only [putAll, Act.put, List.setIfInBounds_toArray, List.set_cons_zero, List.set_cons_succ]) (hCont (v117, v120, v124) _ ⟨hHeld, (by (with_reducible repeat (first | apply Kd.R_alloc | apply Kd.R_drewN | apply Kd.R_drew)); exact Kd.R_mono HO121.out (fun _ hk => ⟨hk.2, hk.1⟩)), (by (with_reducible repeat (first | apply Kd.R_alloc | apply Kd.R_drewN | apply Kd.R_drew)); exact Kd.R_mono HO125.out (fun _ hk => ⟨hk.2, hk.1.2⟩)), (by (with_reducible repeat (first | apply Kd.R_alloc | apply Kd.R_drewN | apply Kd.R_drew)); exact Kd.R_mono HO_5.out (fun _ hk => ⟨hk.1.2, hk.2⟩)), (by (with_reducible repeat (first | refine blk_drewN ?_ _ | refine blk_drew ?_ | refine blk_alloc ?_ _)); exact BK109.out), (by repeat (first | (with_reducible first | exact HB.out | apply below_alloc | apply pw_below_drewN | apply below_drew1 | refine below_set ?_ GE109.out) | exact HB.out))⟩)
                        · skip
                          refine Kd.R_lit_step k46 _ 46 ?hg (N := 54) ?hd (xs := ([(⟨3, wrap64 (((rd_T46 t101 (ji22)).f1) + 3)⟩ : S46)] : List (S46))) (inner := [.int .i64 3, .int .i64 (wrap64 (((rd_T46 t101 (ji22)).f1) + 3))]) (ok := fun _ => True) (okp := fun _ => True) ?hr ?hp (fun _ hk => hk) trivial (Below.refl _ _) (Nat.le_refl _) (by simp) ?_; (case hd => rfl); (case hg => rfl); (case hr => first | (go_simp; done) | (go_simp; rfl)); (case hp => exact (Reps.c2 (show Kd.M k46 _ _ _ (⟨3, wrap64 (((rd_T46 t101 (ji22)).f1) + 3)⟩ : S46) [.int .i64 3, .int .i64 (wrap64 (((rd_T46 t101 (ji22)).f1) + 3))] from (k46_mkM _ _ _ (⟨3, wrap64 (((rd_T46 t101 (ji22)).f1) + 3)⟩ : S46) )) (Reps.none _ _)))
                          intro v124 w48 ho49 hb hg_ hnew_
                          have HS0_ := (hb.cell (World.block_lt_of_cell? _ _ (hHeld.1))).trans (hHeld.1)
                          have HS1_ := (hb.cell (World.block_lt_of_cell? _ _ (hHeld.2))).trans (hHeld.2)
                          clear hg_ hnew_
                          (first | rw [← Ny123.out] at ho49 | (simp only [Int.reduceToNat] at ho49; rw [← Ny123.out] at ho49))
                          have n0_ := Aside0.mk (Kd.R_elder' (by (with_reducible repeat (first | apply Kd.R_alloc | apply Kd.R_drewN | apply Kd.R_drew)); exact HO_5.out) (Kd.R_base ho49) hb)
                          have n1_ := Aside0.mk (Kd.R_elder' (by (with_reducible repeat (first | apply Kd.R_alloc | apply Kd.R_drewN | apply Kd.R_drew)); exact HO118.out) (Kd.R_base ho49) hb)
                          have n2_ := Aside0.mk (Kd.R_lower (Kd.R_new' (Kd.R_new' ho49 (Kd.R_lt (by (with_reducible repeat (first | apply Kd.R_alloc | apply Kd.R_drewN | apply Kd.R_drew)); exact HO_5.out))) (Kd.R_lt (by (with_reducible repeat (first | apply Kd.R_alloc | apply Kd.R_drewN | apply Kd.R_drew)); exact HO118.out))) (below_size (by repeat (first | (with_reducible first | exact HB.out | apply below_alloc | apply pw_below_drewN | apply below_drew1 | refine below_set ?_ GE109.out) | exact HB.out))))
                          have n3_ := Aside0.mk (blk_below (g := gb109) (o := .cells #[.int .i64 t107, .int .i64 t108] 32 (0, 0)) (by (with_reducible repeat (first | refine blk_drewN ?_ _ | refine blk_drew ?_ | refine blk_alloc ?_ _)); exact BK109.out) hb)
                          have n4_ := Aside0.mk (below_step (by repeat (first | (with_reducible first | exact HB.out | apply below_alloc | apply pw_below_drewN | apply below_drew1 | refine below_set ?_ GE109.out) | exact HB.out)) hb)
                          clear HO_5
                          clear HO118
                          clear BK109
                          clear HB
                          have HO_5 := n0_
                          have HO118 := n1_
                          have HO125 := n2_
                          have BK109 := n3_
                          have HB := n4_
                          clear n0_ n1_ n2_ n3_ n4_
                          clear hb ho49
                          refine hK.out _ _ ⟨HS0_, HS1_⟩ (fun hHeld => ?_)
                          clear hK K
                          refine norm_ (a' := ?_) ?_ ?_
                          rotate_left
                          · show Act.put _ (some 54) _ = _
                            simp only [Act.put, List.setIfInBounds_toArray, List.set_cons_zero, List.set_cons_succ, i64_w, i32_w]
                            rfl
                          refine one_ (i := 2) (N := some 46) #[true, true, true, true, true, true, true, true, true, true, true, false, false] rfl rfl (one_of HT_.out (by kernel_rfl)) (by decide) (fun K hK => ?_)
                          refine Kd.R_append_rows_step k46 (w0 := w) w.heap.size (by rfl) (.tmp 44) (.tmp 45) 42 46 (.agg #[(.int .i64 0), (.int .i64 0)]) 16 rfl Try.underlying42 info46 rfl (by decide) (by omega) v117 y116 t101 _ _ _ (fun k_ => some k_ ≠ (.slice (some ad122) t101.length co8 : Value).ownBlock ∧ some k_ ≠ (v124 : Value).ownBlock) (fun _ => False) rfl rfl ?aO ?aR (fun _ _ h => h) (fun _ h => h.elim) ?aF ?aB ?aS ?aL ?_
                          (case aR => repeat (first | exact (Kd.R_reads' HO_5.out).2.2 | (with_reducible refine Kd.C_alloc ?_ _) | (with_reducible refine Kd.C_drewN ?_ _) | (with_reducible refine Kd.C_drew ?_)))
                          (case aB => exact (by repeat (first | (with_reducible first | exact HB.out | apply below_alloc | apply pw_below_drewN | apply below_drew1 | refine below_set ?_ GE109.out) | exact HB.out)))
                          (case aF => exact (fun k_ hk => ⟨Kd.fresh' (Kd.R_lt (by (with_reducible repeat (first | apply Kd.R_alloc | apply Kd.R_drewN | apply Kd.R_drew)); exact HO_5.out)) k_ hk, Kd.fresh' (Kd.R_lt (by (with_reducible repeat (first | apply Kd.R_alloc | apply Kd.R_drewN | apply Kd.R_drew)); exact HO125.out)) k_ hk⟩))
                          (case aO => exact (by (with_reducible repeat (first | apply Kd.R_alloc | apply Kd.R_drewN | apply Kd.R_drew)); exact Kd.R_mono HO118.out (fun _ hk => ⟨hk.1.2, hk.2⟩)))
                          (case aS => exact (below_size (by repeat (first | (with_reducible first | exact HB.out | apply below_alloc | apply pw_below_drewN | apply below_drew1 | refine below_set ?_ GE109.out) | exact HB.out))))
                          (case aL => have := LMc21.out; omega)
                          intro v120 w50 ho hb hg hat
                          have HS0_ := cell_grown hg (hHeld.1) (by first | (rw [add_block]; exact (fun e_ => by have h_ := HO118.out.1 _ e_.symm; first | exact h_ rfl | exact h_.1 rfl | exact h_.2 rfl | exact h_.1.1 rfl | exact h_.1.2 rfl | exact h_.2.1 rfl | exact h_.2.2 rfl)) | (show some (Addr.add _ _).block ≠ _; rw [add_block]; exact (fun e_ => by have h_ := HO118.out.1 _ e_.symm; first | exact h_ rfl | exact h_.1 rfl | exact h_.2 rfl | exact h_.1.1 rfl | exact h_.1.2 rfl | exact h_.2.1 rfl | exact h_.2.2 rfl)) | exact (fun e_ => by have h_ := HO118.out.1 _ e_.symm; first | exact h_ rfl | exact h_.1 rfl | exact h_.2 rfl | exact h_.1.1 rfl | exact h_.1.2 rfl | exact h_.2.1 rfl | exact h_.2.2 rfl))
                          have HS1_ := cell_grown hg (hHeld.2) (by first | (rw [add_block]; exact (fun e_ => by have h_ := HO118.out.1 _ e_.symm; first | exact h_ rfl | exact h_.1 rfl | exact h_.2 rfl | exact h_.1.1 rfl | exact h_.1.2 rfl | exact h_.2.1 rfl | exact h_.2.2 rfl)) | (show some (Addr.add _ _).block ≠ _; rw [add_block]; exact (fun e_ => by have h_ := HO118.out.1 _ e_.symm; first | exact h_ rfl | exact h_.1 rfl | exact h_.2 rfl | exact h_.1.1 rfl | exact h_.1.2 rfl | exact h_.2.1 rfl | exact h_.2.2 rfl)) | exact (fun e_ => by have h_ := HO118.out.1 _ e_.symm; first | exact h_ rfl | exact h_.1 rfl | exact h_.2 rfl | exact h_.1.1 rfl | exact h_.1.2 rfl | exact h_.2.1 rfl | exact h_.2.2 rfl))
                          rw [← Ny119.out] at ho
                          have n0_ := Aside0.mk (Kd.R_after (ok := (fun k_ => some k_ ≠ (v124 : Value).ownBlock)) (by (with_reducible repeat (first | apply Kd.R_alloc | apply Kd.R_drewN | apply Kd.R_drew)); exact Kd.R_mono HO_5.out (fun _ hk => ⟨hk.2, hk.1.2⟩)) hg hat)
                          have n1_ := Aside0.mk (blk_grown (g := gb109) (o := .cells #[.int .i64 t107, .int .i64 t108] 32 (0, 0)) (by (with_reducible repeat (first | refine blk_drewN ?_ _ | refine blk_drew ?_ | refine blk_alloc ?_ _)); exact BK109.out) hg (Kd.R_ne HO118.out BK109.out (by decide)))
                          have n2_ := Aside0.mk (Kd.R_after (ok := (fun k_ => some k_ ≠ (.slice (some ad122) t101.length co8 : Value).ownBlock)) (by (with_reducible repeat (first | apply Kd.R_alloc | apply Kd.R_drewN | apply Kd.R_drew)); exact Kd.R_mono HO125.out (fun _ hk => ⟨hk.1.2, hk.2⟩)) hg hat)
                          have n3_ := Aside0.mk (hb)
                          have n4_ := Aside0.mk (ho)
                          clear HO_5
                          clear BK109
                          clear HO125
                          clear HB
                          clear HO118
                          have HO_5 := n0_
                          have BK109 := n1_
                          have HO125 := n2_
                          have HB := n3_
                          have HO121 := n4_
                          clear n0_ n1_ n2_ n3_ n4_
                          clear ho hb hg hat
                          refine hK.out _ _ ⟨HS0_, HS1_⟩ (fun hHeld => ?_)
                          clear hK K
                          refine norm_ (a' := ?_) ?_ ?_
                          rotate_left
                          · show Act.put _ (some 46) _ = _
                            simp only [Act.put, List.setIfInBounds_toArray, List.set_cons_zero, List.set_cons_succ, i64_w, i32_w]
                            rfl
                          exact norm_ (by simp only [putAll, Act.put, List.setIfInBounds_toArray, List.set_cons_zero, List.set_cons_succ]) (hCont (v117, v120, v124) _ ⟨hHeld, (by (with_reducible repeat (first | apply Kd.R_alloc | apply Kd.R_drewN | apply Kd.R_drew)); exact Kd.R_mono HO121.out (fun _ hk => ⟨hk.2, hk.1⟩)), (by (with_reducible repeat (first | apply Kd.R_alloc | apply Kd.R_drewN | apply Kd.R_drew)); exact Kd.R_mono HO125.out (fun _ hk => ⟨hk.2, hk.1⟩)), (by (with_reducible repeat (first | apply Kd.R_alloc | apply Kd.R_drewN | apply Kd.R_drew)); exact Kd.R_mono HO_5.out (fun _ hk => ⟨hk.2, hk.1⟩)), (by (with_reducible repeat (first | refine blk_drewN ?_ _ | refine blk_drew ?_ | refine blk_alloc ?_ _)); exact BK109.out), (by repeat (first | (with_reducible first | exact HB.out | apply below_alloc | apply pw_below_drewN | apply below_drew1 | refine below_set ?_ GE109.out) | exact HB.out))⟩)
                      · skip
                        refine Kd.R_lit_step k46 _ 46 ?hg (N := 54) ?hd (xs := ([(⟨3, wrap64 (((rd_T46 t101 (ji22)).f1) + 3)⟩ : S46)] : List (S46))) (inner := [.int .i64 3, .int .i64 (wrap64 (((rd_T46 t101 (ji22)).f1) + 3))]) (ok := fun _ => True) (okp := fun _ => True) ?hr ?hp (fun _ hk => hk) trivial (Below.refl _ _) (Nat.le_refl _) (by simp) ?_; (case hd => rfl); (case hg => rfl); (case hr => first | (go_simp; done) | (go_simp; rfl)); (case hp => exact (Reps.c2 (show Kd.M k46 _ _ _ (⟨3, wrap64 (((rd_T46 t101 (ji22)).f1) + 3)⟩ : S46) [.int .i64 3, .int .i64 (wrap64 (((rd_T46 t101 (ji22)).f1) + 3))] from (k46_mkM _ _ _ (⟨3, wrap64 (((rd_T46 t101 (ji22)).f1) + 3)⟩ : S46) )) (Reps.none _ _)))
                        intro v124 w46 ho47 hb hg_ hnew_
                        have HS0_ := (hb.cell (World.block_lt_of_cell? _ _ (hHeld.1))).trans (hHeld.1)
                        have HS1_ := (hb.cell (World.block_lt_of_cell? _ _ (hHeld.2))).trans (hHeld.2)
                        clear hg_ hnew_
                        (first | rw [← Ny123.out] at ho47 | (simp only [Int.reduceToNat] at ho47; rw [← Ny123.out] at ho47))
                        have n0_ := Aside0.mk (Kd.R_elder' (by (with_reducible repeat (first | apply Kd.R_alloc | apply Kd.R_drewN | apply Kd.R_drew)); exact HO_5.out) (Kd.R_base ho47) hb)
                        have n1_ := Aside0.mk (Kd.R_lower (Kd.R_new' ho47 (Kd.R_lt (by (with_reducible repeat (first | apply Kd.R_alloc | apply Kd.R_drewN | apply Kd.R_drew)); exact HO_5.out))) (below_size (by repeat (first | (with_reducible first | exact HB.out | apply below_alloc | apply pw_below_drewN | apply below_drew1 | refine below_set ?_ GE109.out) | exact HB.out))))
                        have n2_ := Aside0.mk (blk_below (g := gb109) (o := .cells #[.int .i64 t107, .int .i64 t108] 32 (0, 0)) (by (with_reducible repeat (first | refine blk_drewN ?_ _ | refine blk_drew ?_ | refine blk_alloc ?_ _)); exact BK109.out) hb)
                        have n3_ := Aside0.mk (below_step (by repeat (first | (with_reducible first | exact HB.out | apply below_alloc | apply pw_below_drewN | apply below_drew1 | refine below_set ?_ GE109.out) | exact HB.out)) hb)
                        clear HO_5
                        clear BK109
                        clear HB
                        have HO_5 := n0_
                        have HO125 := n1_
                        have BK109 := n2_
                        have HB := n3_
                        clear n0_ n1_ n2_ n3_
                        clear hb ho47
                        refine hK.out _ _ ⟨HS0_, HS1_⟩ (fun hHeld => ?_)
                        clear hK K
                        refine norm_ (a' := ?_) ?_ ?_
                        rotate_left
                        · show Act.put _ (some 54) _ = _
                          simp only [Act.put, List.setIfInBounds_toArray, List.set_cons_zero, List.set_cons_succ, i64_w, i32_w]
                          rfl
                        refine one_ (i := 0) (N := some 44) #[true, true, false, true, true, true, true, true, true, true, true, false, false] rfl rfl (one_of HT_.out (by kernel_rfl)) (by decide) (fun K hK => ?_)
                        refine Kd.R_lit_step k46 _ 46 ?hg (N := 44) ?hd (xs := ([] : List (S46))) (inner := []) (ok := fun _ => True) (okp := fun _ => True) ?hr ?hp (fun _ hk => hk) trivial (Below.refl _ _) (Nat.le_refl _) (by simp) ?_; (case hd => rfl); (case hg => rfl); (case hr => first | (go_simp; done) | (go_simp; rfl)); (case hp => exact (Reps.none _ _))
                        intro v117 w48 ho49 hb hg_ hnew_
                        have HS0_ := (hb.cell (World.block_lt_of_cell? _ _ (hHeld.1))).trans (hHeld.1)
                        have HS1_ := (hb.cell (World.block_lt_of_cell? _ _ (hHeld.2))).trans (hHeld.2)
                        clear hg_ hnew_
                        (first | rw [← Ny116.out] at ho49 | (simp only [Int.reduceToNat] at ho49; rw [← Ny116.out] at ho49))
                        have n0_ := Aside0.mk (Kd.R_elder' (by (with_reducible repeat (first | apply Kd.R_alloc | apply Kd.R_drewN | apply Kd.R_drew)); exact HO_5.out) (Kd.R_base ho49) hb)
                        have n1_ := Aside0.mk (Kd.R_elder' (by (with_reducible repeat (first | apply Kd.R_alloc | apply Kd.R_drewN | apply Kd.R_drew)); exact HO125.out) (Kd.R_base ho49) hb)
                        have n2_ := Aside0.mk (Kd.R_lower (Kd.R_new' (Kd.R_new' ho49 (Kd.R_lt (by (with_reducible repeat (first | apply Kd.R_alloc | apply Kd.R_drewN | apply Kd.R_drew)); exact HO_5.out))) (Kd.R_lt (by (with_reducible repeat (first | apply Kd.R_alloc | apply Kd.R_drewN | apply Kd.R_drew)); exact HO125.out))) (below_size (by repeat (first | (with_reducible first | exact HB.out | apply below_alloc | apply pw_below_drewN | apply below_drew1 | refine below_set ?_ GE109.out) | exact HB.out))))
                        have n3_ := Aside0.mk (blk_below (g := gb109) (o := .cells #[.int .i64 t107, .int .i64 t108] 32 (0, 0)) (by (with_reducible repeat (first | refine blk_drewN ?_ _ | refine blk_drew ?_ | refine blk_alloc ?_ _)); exact BK109.out) hb)
                        have n4_ := Aside0.mk (below_step (by repeat (first | (with_reducible first | exact HB.out | apply below_alloc | apply pw_below_drewN | apply below_drew1 | refine below_set ?_ GE109.out) | exact HB.out)) hb)
                        clear HO_5
                        clear HO125
                        clear BK109
                        clear HB
                        have HO_5 := n0_
                        have HO125 := n1_
                        have HO118 := n2_
                        have BK109 := n3_
                        have HB := n4_
                        clear n0_ n1_ n2_ n3_ n4_
                        clear hb ho49
                        refine hK.out _ _ ⟨HS0_, HS1_⟩ (fun hHeld => ?_)
                        clear hK K
                        refine norm_ (a' := ?_) ?_ ?_
                        rotate_left
                        · show Act.put _ (some 44) _ = _
                          simp only [Act.put, List.setIfInBounds_toArray, List.set_cons_zero, List.set_cons_succ, i64_w, i32_w]
                          rfl
                        refine one_ (i := 2) (N := some 46) #[true, true, true, true, true, true, true, true, true, true, true, false, false] rfl rfl (one_of HT_.out (by kernel_rfl)) (by decide) (fun K hK => ?_)
                        refine Kd.R_append_rows_step k46 (w0 := w) w.heap.size (by rfl) (.tmp 44) (.tmp 45) 42 46 (.agg #[(.int .i64 0), (.int .i64 0)]) 16 rfl Try.underlying42 info46 rfl (by decide) (by omega) v117 y116 t101 _ _ _ (fun k_ => some k_ ≠ (.slice (some ad122) t101.length co8 : Value).ownBlock ∧ some k_ ≠ (v124 : Value).ownBlock) (fun _ => False) rfl rfl ?aO ?aR (fun _ _ h => h) (fun _ h => h.elim) ?aF ?aB ?aS ?aL ?_
                        (case aR => repeat (first | exact (Kd.R_reads' HO_5.out).2.2 | (with_reducible refine Kd.C_alloc ?_ _) | (with_reducible refine Kd.C_drewN ?_ _) | (with_reducible refine Kd.C_drew ?_)))
                        (case aB => exact (by repeat (first | (with_reducible first | exact HB.out | apply below_alloc | apply pw_below_drewN | apply below_drew1 | refine below_set ?_ GE109.out) | exact HB.out)))
                        (case aF => exact (fun k_ hk => ⟨Kd.fresh' (Kd.R_lt (by (with_reducible repeat (first | apply Kd.R_alloc | apply Kd.R_drewN | apply Kd.R_drew)); exact HO_5.out)) k_ hk, Kd.fresh' (Kd.R_lt (by (with_reducible repeat (first | apply Kd.R_alloc | apply Kd.R_drewN | apply Kd.R_drew)); exact HO125.out)) k_ hk⟩))
                        (case aO => exact (by (with_reducible repeat (first | apply Kd.R_alloc | apply Kd.R_drewN | apply Kd.R_drew)); exact Kd.R_mono HO118.out (fun _ hk => ⟨hk.1.2, hk.2⟩)))
                        (case aS => exact (below_size (by repeat (first | (with_reducible first | exact HB.out | apply below_alloc | apply pw_below_drewN | apply below_drew1 | refine below_set ?_ GE109.out) | exact HB.out))))
                        (case aL => have := LMc21.out; omega)
                        intro v120 w50 ho hb hg hat
                        have HS0_ := cell_grown hg (hHeld.1) (by first | (rw [add_block]; exact (fun e_ => by have h_ := HO118.out.1 _ e_.symm; first | exact h_ rfl | exact h_.1 rfl | exact h_.2 rfl | exact h_.1.1 rfl | exact h_.1.2 rfl | exact h_.2.1 rfl | exact h_.2.2 rfl)) | (show some (Addr.add _ _).block ≠ _; rw [add_block]; exact (fun e_ => by have h_ := HO118.out.1 _ e_.symm; first | exact h_ rfl | exact h_.1 rfl | exact h_.2 rfl | exact h_.1.1 rfl | exact h_.1.2 rfl | exact h_.2.1 rfl | exact h_.2.2 rfl)) | exact (fun e_ => by have h_ := HO118.out.1 _ e_.symm; first | exact h_ rfl | exact h_.1 rfl | exact h_.2 rfl | exact h_.1.1 rfl | exact h_.1.2 rfl | exact h_.2.1 rfl | exact h_.2.2 rfl))
                        have HS1_ := cell_grown hg (hHeld.2) (by first | (rw [add_block]; exact (fun e_ => by have h_ := HO118.out.1 _ e_.symm; first | exact h_ rfl | exact h_.1 rfl | exact h_.2 rfl | exact h_.1.1 rfl | exact h_.1.2 rfl | exact h_.2.1 rfl | exact h_.2.2 rfl)) | (show some (Addr.add _ _).block ≠ _; rw [add_block]; exact (fun e_ => by have h_ := HO118.out.1 _ e_.symm; first | exact h_ rfl | exact h_.1 rfl | exact h_.2 rfl | exact h_.1.1 rfl | exact h_.1.2 rfl | exact h_.2.1 rfl | exact h_.2.2 rfl)) | exact (fun e_ => by have h_ := HO118.out.1 _ e_.symm; first | exact h_ rfl | exact h_.1 rfl | exact h_.2 rfl | exact h_.1.1 rfl | exact h_.1.2 rfl | exact h_.2.1 rfl | exact h_.2.2 rfl))
                        rw [← Ny119.out] at ho
                        have n0_ := Aside0.mk (Kd.R_after (ok := (fun k_ => some k_ ≠ (v124 : Value).ownBlock)) (by (with_reducible repeat (first | apply Kd.R_alloc | apply Kd.R_drewN | apply Kd.R_drew)); exact Kd.R_mono HO_5.out (fun _ hk => ⟨hk.1.2, hk.2⟩)) hg hat)
                        have n1_ := Aside0.mk (blk_grown (g := gb109) (o := .cells #[.int .i64 t107, .int .i64 t108] 32 (0, 0)) (by (with_reducible repeat (first | refine blk_drewN ?_ _ | refine blk_drew ?_ | refine blk_alloc ?_ _)); exact BK109.out) hg (Kd.R_ne HO118.out BK109.out (by decide)))
                        have n2_ := Aside0.mk (Kd.R_after (ok := (fun k_ => some k_ ≠ (.slice (some ad122) t101.length co8 : Value).ownBlock)) (by (with_reducible repeat (first | apply Kd.R_alloc | apply Kd.R_drewN | apply Kd.R_drew)); exact Kd.R_mono HO125.out (fun _ hk => ⟨hk.1.2, hk.2⟩)) hg hat)
                        have n3_ := Aside0.mk (hb)
                        have n4_ := Aside0.mk (ho)
                        clear HO_5
                        clear BK109
                        clear HO125
                        clear HB
                        clear HO118
                        have HO_5 := n0_
                        have BK109 := n1_
                        have HO125 := n2_
                        have HB := n3_
                        have HO121 := n4_
                        clear n0_ n1_ n2_ n3_ n4_
                        clear ho hb hg hat
                        refine hK.out _ _ ⟨HS0_, HS1_⟩ (fun hHeld => ?_)
                        clear hK K
                        refine norm_ (a' := ?_) ?_ ?_
                        rotate_left
                        · show Act.put _ (some 46) _ = _
                          simp only [Act.put, List.setIfInBounds_toArray, List.set_cons_zero, List.set_cons_succ, i64_w, i32_w]
                          rfl
                        exact norm_ (by simp only [putAll, Act.put, List.setIfInBounds_toArray, List.set_cons_zero, List.set_cons_succ]) (hCont (v117, v120, v124) _ ⟨hHeld, (by (with_reducible repeat (first | apply Kd.R_alloc | apply Kd.R_drewN | apply Kd.R_drew)); exact Kd.R_mono HO121.out (fun _ hk => ⟨hk.2, hk.1⟩)), (by (with_reducible repeat (first | apply Kd.R_alloc | apply Kd.R_drewN | apply Kd.R_drew)); exact Kd.R_mono HO125.out (fun _ hk => ⟨hk.2, hk.1⟩)), (by (with_reducible repeat (first | apply Kd.R_alloc | apply Kd.R_drewN | apply Kd.R_drew)); exact Kd.R_mono HO_5.out (fun _ hk => ⟨hk.2, hk.1⟩)), (by (with_reducible repeat (first | refine blk_drewN ?_ _ | refine blk_drew ?_ | refine blk_alloc ?_ _)); exact BK109.out), (by repeat (first | (with_reducible first | exact HB.out | apply below_alloc | apply pw_below_drewN | apply below_drew1 | refine below_set ?_ GE109.out) | exact HB.out))⟩)
                    rintro ⟨v117, v120, v124⟩ w51 ⟨hS_, h0_, h1_, h2_, h3_, h4_⟩
                    have n0_ : Aside0 (Kd.R k46 46 w51 w.heap.size (fun k_ => some k_ ≠ (v124 : Value).ownBlock ∧ some k_ ≠ (.slice (some ad122) t101.length co8 : Value).ownBlock) v120 y119) := ⟨h0_⟩
                    have n1_ : Aside0 (Kd.R k46 46 w51 w.heap.size (fun k_ => some k_ ≠ (v120 : Value).ownBlock ∧ some k_ ≠ (.slice (some ad122) t101.length co8 : Value).ownBlock) v124 y123) := ⟨h1_⟩
                    have n2_ : Aside0 (Kd.R k46 46 w51 w.heap.size (fun k_ => some k_ ≠ (v120 : Value).ownBlock ∧ some k_ ≠ (v124 : Value).ownBlock) (.slice (some ad122) t101.length co8) t101) := ⟨h2_⟩
                    have n3_ : Aside0 (w51.heap[gb109]? = some (.cells #[.int .i64 t107, .int .i64 t108] 32 (0, 0))) := ⟨h3_⟩
                    have n4_ : Aside0 (Below w.heap.size w w51) := ⟨h4_⟩
                    clear HO_5
                    clear BK109
                    clear HB
                    clear h0_ h1_ h2_ h3_ h4_
                    have HO121 := n0_
                    have HO125 := n1_
                    have HO_5 := n2_
                    have BK109 := n3_
                    have HB := n4_
                    clear n0_ n1_ n2_ n3_ n4_
                    have hHeld : w51.cell? (ad122.add (((ji22)).toNat * 2)) = some (.int .i64 ((rd_T46 t101 (ji22)).f0)) ∧ w51.cell? ⟨(ad122.add (((ji22)).toNat * 2)).block, (ad122.add (((ji22)).toNat * 2)).off + 1, none⟩ = some (.int .i64 ((rd_T46 t101 (ji22)).f1)) := hS_
                    obtain ⟨Ao53, co53, eo53⟩ := Kd.R_slice HO125.out
                    (first | subst eo53 | (injection eo53 with f1_ f2_ f3_; have f4_ := f1_.symm; have f5_ := f3_.symm; clear f1_ f2_ f3_; subst f4_; subst f5_))
                    refine norm_ (a' := ?_) ?_ ?_
                    rotate_left
                    · simp only [putAll, Act.put, List.setIfInBounds_toArray, List.set_cons_zero, List.set_cons_succ]
                      rfl
                    refine one_ (i := 11) (N := some 55) #[true, true, true, true, true, true, true, true, true, true, true, true, false] rfl rfl (one_of HT_.out (by kernel_rfl)) (by decide) (fun K hK => ?_)
                    refine Kd.R_append_rows_step k46 (w0 := w) w.heap.size (by rfl) (.tmp 46) (.tmp 54) 42 46 (.agg #[(.int .i64 0), (.int .i64 0)]) 16 rfl Try.underlying42 info46 rfl (by decide) (by omega) v120 y119 y123 _ _ _ (fun k_ => some k_ ≠ (.slice (some ad122) t101.length co8 : Value).ownBlock ∧ some k_ ≠ (.slice Ao53 y123.length co53 : Value).ownBlock) (fun _ => False) rfl rfl ?aO ?aR (fun _ _ h => h) (fun _ h => h.elim) ?aF ?aB ?aS ?aL ?_
                    (case aR => repeat (first | exact (Kd.R_reads' HO125.out).2.2 | (with_reducible refine Kd.C_alloc ?_ _) | (with_reducible refine Kd.C_drewN ?_ _) | (with_reducible refine Kd.C_drew ?_)))
                    (case aB => exact (by repeat (first | (with_reducible first | exact HB.out | apply below_alloc | apply pw_below_drewN | apply below_drew1 | refine below_set ?_ GE109.out) | exact HB.out)))
                    (case aF => exact (fun k_ hk => ⟨Kd.fresh' (Kd.R_lt (by (with_reducible repeat (first | apply Kd.R_alloc | apply Kd.R_drewN | apply Kd.R_drew)); exact HO_5.out)) k_ hk, Kd.fresh' (Kd.R_lt (by (with_reducible repeat (first | apply Kd.R_alloc | apply Kd.R_drewN | apply Kd.R_drew)); exact HO125.out)) k_ hk⟩))
                    (case aO => exact (by (with_reducible repeat (first | apply Kd.R_alloc | apply Kd.R_drewN | apply Kd.R_drew)); exact Kd.R_mono HO121.out (fun _ hk => ⟨hk.2, hk.1⟩)))
                    (case aS => exact (below_size (by repeat (first | (with_reducible first | exact HB.out | apply below_alloc | apply pw_below_drewN | apply below_drew1 | refine below_set ?_ GE109.out) | exact HB.out))))
                    (case aL => have := LMc25.out; omega)
                    intro v127 w52 ho hb hg hat
                    have HS0_ := cell_grown hg (hHeld.1) (by first | (rw [add_block]; exact (fun e_ => by have h_ := HO121.out.1 _ e_.symm; first | exact h_ rfl | exact h_.1 rfl | exact h_.2 rfl | exact h_.1.1 rfl | exact h_.1.2 rfl | exact h_.2.1 rfl | exact h_.2.2 rfl)) | (show some (Addr.add _ _).block ≠ _; rw [add_block]; exact (fun e_ => by have h_ := HO121.out.1 _ e_.symm; first | exact h_ rfl | exact h_.1 rfl | exact h_.2 rfl | exact h_.1.1 rfl | exact h_.1.2 rfl | exact h_.2.1 rfl | exact h_.2.2 rfl)) | exact (fun e_ => by have h_ := HO121.out.1 _ e_.symm; first | exact h_ rfl | exact h_.1 rfl | exact h_.2 rfl | exact h_.1.1 rfl | exact h_.1.2 rfl | exact h_.2.1 rfl | exact h_.2.2 rfl))
                    have HS1_ := cell_grown hg (hHeld.2) (by first | (rw [add_block]; exact (fun e_ => by have h_ := HO121.out.1 _ e_.symm; first | exact h_ rfl | exact h_.1 rfl | exact h_.2 rfl | exact h_.1.1 rfl | exact h_.1.2 rfl | exact h_.2.1 rfl | exact h_.2.2 rfl)) | (show some (Addr.add _ _).block ≠ _; rw [add_block]; exact (fun e_ => by have h_ := HO121.out.1 _ e_.symm; first | exact h_ rfl | exact h_.1 rfl | exact h_.2 rfl | exact h_.1.1 rfl | exact h_.1.2 rfl | exact h_.2.1 rfl | exact h_.2.2 rfl)) | exact (fun e_ => by have h_ := HO121.out.1 _ e_.symm; first | exact h_ rfl | exact h_.1 rfl | exact h_.2 rfl | exact h_.1.1 rfl | exact h_.1.2 rfl | exact h_.2.1 rfl | exact h_.2.2 rfl))
                    rw [← Ny126.out] at ho
                    have n0_ := Aside0.mk (Kd.R_after (ok := (fun k_ => some k_ ≠ (.slice Ao53 y123.length co53 : Value).ownBlock)) (by (with_reducible repeat (first | apply Kd.R_alloc | apply Kd.R_drewN | apply Kd.R_drew)); exact Kd.R_mono HO_5.out (fun _ hk => ⟨hk.2, hk.1⟩)) hg hat)
                    have n1_ := Aside0.mk (blk_grown (g := gb109) (o := .cells #[.int .i64 t107, .int .i64 t108] 32 (0, 0)) (by (with_reducible repeat (first | refine blk_drewN ?_ _ | refine blk_drew ?_ | refine blk_alloc ?_ _)); exact BK109.out) hg (Kd.R_ne HO121.out BK109.out (by decide)))
                    have n2_ := Aside0.mk (Kd.R_after (ok := (fun k_ => some k_ ≠ (.slice (some ad122) t101.length co8 : Value).ownBlock)) (by (with_reducible repeat (first | apply Kd.R_alloc | apply Kd.R_drewN | apply Kd.R_drew)); exact Kd.R_mono HO125.out (fun _ hk => ⟨hk.2, hk.1⟩)) hg hat)
                    have n3_ := Aside0.mk (hb)
                    have n4_ := Aside0.mk (ho)
                    clear HO_5
                    clear BK109
                    clear HO125
                    clear HB
                    clear HO121
                    have HO_5 := n0_
                    have BK109 := n1_
                    have HO125 := n2_
                    have HB := n3_
                    have HO128 := n4_
                    clear n0_ n1_ n2_ n3_ n4_
                    clear ho hb hg hat
                    refine hK.out _ _ ⟨HS0_, HS1_⟩ (fun hHeld => ?_)
                    clear hK K
                    refine norm_ (a' := ?_) ?_ ?_
                    rotate_left
                    · show Act.put _ (some 55) _ = _
                      simp only [Act.put, List.setIfInBounds_toArray, List.set_cons_zero, List.set_cons_succ, i64_w, i32_w]
                      rfl
                    refine pure_ (i := 12) (N := some 11) (v := ?_) (a' := ?_) #[true, true, true, true, true, true, true, true, true, true, true, true, true] rfl rfl (any_of HT_.out (by kernel_rfl)) (fun _ _ _ h => h) (Or.inl ⟨by rfl, ?_⟩) ?_ ?_
                    rotate_left
                    · intro w'
                      go_simp
                      with_reducible rfl
                    rotate_left
                    · simp only [Act.put, List.setIfInBounds_toArray, List.set_cons_zero, List.set_cons_succ, i64_w, i32_w]
                      rfl
                    refine done_ (done_of HT_.out (by kernel_rfl)) ?_
                    obtain ⟨Ao54, co54, eo54⟩ := Kd.R_slice HO128.out
                    subst eo54
                    try go_wp2_with (first | ((with_reducible refine gate_callee (f := 22) rfl ?_); refine goesL_ (some 58) rfl rfl Try.func22 (by kernel_rfl) rfl #[.slice Ao54 y126.length co54, .int .i64 10020] rfl (by (try simp only [List.map_toArray, List.map_cons, List.map_nil]); first | done | rfl | (simp only [List.length_drop, List.length_take]; rfl)) ?_; (with_reducible refine (slipwaylaw10_Made.calls kj5 _ _ y126 10020 t129 t132 t133 _ ?side1 ?side2 A26.out).mono ?_); (case side1 => repeat (first | exact (Kd.R_reads' HO128.out).2.2 | (with_reducible refine Kd.C_alloc ?_ _) | (with_reducible refine Kd.C_drewN ?_ _) | (with_reducible refine Kd.C_drew ?_))); (case side2 => exact (Kd.R_reads' HO128.out).2.1); rintro e w55 ⟨v130, rfl, ho0, hb⟩; refine ⟨_, rfl, ?_⟩; have n0_ := Aside0.mk (Kd.R_below (by (with_reducible repeat (first | apply Kd.R_alloc | apply Kd.R_drewN | apply Kd.R_drew)); exact HO_5.out) hb); have n1_ := Aside0.mk (Kd.R_below (by (with_reducible repeat (first | apply Kd.R_alloc | apply Kd.R_drewN | apply Kd.R_drew)); exact HO125.out) hb); have n2_ := Aside0.mk (Kd.R_below (by (with_reducible repeat (first | apply Kd.R_alloc | apply Kd.R_drewN | apply Kd.R_drew)); exact HO128.out) hb); have n3_ := Aside0.mk (Kd.R_lower ho0 (below_size (by repeat (first | (with_reducible first | exact HB.out | apply below_alloc | apply pw_below_drewN | apply below_drew1 | refine below_set ?_ GE109.out) | exact HB.out)))); have n4_ := Aside0.mk (blk_below (g := gb109) (o := .cells #[.int .i64 t107, .int .i64 t108] 32 (0, 0)) (by (with_reducible repeat (first | refine blk_drewN ?_ _ | refine blk_drew ?_ | refine blk_alloc ?_ _)); exact BK109.out) hb); have n5_ := Aside0.mk (below_step (by repeat (first | (with_reducible first | exact HB.out | apply below_alloc | apply pw_below_drewN | apply below_drew1 | refine below_set ?_ GE109.out) | exact HB.out)) hb); clear HO_5; clear HO125; clear HO128; clear BK109; clear HB; have HO_5 := n0_; have HO125 := n1_; have HO128 := n2_; have HO131 := n3_; have BK109 := n4_; have HB := n5_; clear n0_ n1_ n2_ n3_ n4_ n5_; (try clear hb); (try clear hb2); (try clear hk); (try clear hi); (try clear ho0); have hcz56_0 : w55.cell? ⟨gb109, 0, none⟩ = some (.int .i64 t107) := (blk_cell BK109.out 0).trans rfl; have hcz56_1 : w55.cell? ⟨gb109, 1, none⟩ = some (.int .i64 t108) := (blk_cell BK109.out 1).trans rfl; have hfz56_0 := blk_frozen BK109.out 0; have hfz56_1 := blk_frozen BK109.out 1; obtain ⟨Ao57, co57, eo57⟩ := Kd.R_slice HO131.out; subst eo57) | ((with_reducible refine gate_callee (f := 19) rfl ?_); refine goesL_ (some 64) rfl rfl Try.func19 (by kernel_rfl) rfl #[.slice Ao57 t129.length co57, .agg #[.int .i64 t132, .int .i64 t133]] rfl (by (try simp only [List.map_toArray, List.map_cons, List.map_nil]); first | done | rfl | (simp only [List.length_drop, List.length_take]; rfl)) ?_; (with_reducible refine (rel_Parse.calls _ _ t129 t132 t133 t134 t137 _ ?side1 ?side2 A27.out).mono ?_); (case side1 => refine (Kd.R_reads' (e := 5) (base := w.heap.size) (ok := fun k_ => True) (n := t129.length) (c := co57) ?_).2.2; exact (by (with_reducible repeat (first | apply Kd.R_alloc | apply Kd.R_drewN | apply Kd.R_drew)); exact (Kd.R_mono (Kd.R_far (p := ⟨gb109, 1, none⟩) (Kd.R_far (p := ⟨gb109, 0, none⟩) (Kd.R_types HO131.out BK109.out (by decide)) (fun _ hk => hk.2) (.int .i64 t132)) (fun _ hk => hk.2) (.int .i64 t133)) (fun _ h_ => h_.1)))); (case side2 => exact (Kd.R_reads' HO131.out).2.1); rintro e w58 ⟨v135, rfl, ho0, hb⟩; refine ⟨_, rfl, ?_⟩; have n0_ := Aside0.mk (Kd.R_elder' (by (with_reducible repeat (first | apply Kd.R_alloc | apply Kd.R_drewN | apply Kd.R_drew)); exact (Kd.R_mono (Kd.R_far (p := ⟨gb109, 1, none⟩) (Kd.R_far (p := ⟨gb109, 0, none⟩) (Kd.R_types HO_5.out BK109.out (by decide)) (fun _ hk => hk.2) (.int .i64 t132)) (fun _ hk => hk.2) (.int .i64 t133)) (fun _ h_ => h_.1))) (Kd.R_base ho0) hb); have n1_ := Aside0.mk (Kd.R_elder' (by (with_reducible repeat (first | apply Kd.R_alloc | apply Kd.R_drewN | apply Kd.R_drew)); exact (Kd.R_mono (Kd.R_far (p := ⟨gb109, 1, none⟩) (Kd.R_far (p := ⟨gb109, 0, none⟩) (Kd.R_types HO125.out BK109.out (by decide)) (fun _ hk => hk.2) (.int .i64 t132)) (fun _ hk => hk.2) (.int .i64 t133)) (fun _ h_ => h_.1))) (Kd.R_base ho0) hb); have n2_ := Aside0.mk (Kd.R_elder' (by (with_reducible repeat (first | apply Kd.R_alloc | apply Kd.R_drewN | apply Kd.R_drew)); exact (Kd.R_mono (Kd.R_far (p := ⟨gb109, 1, none⟩) (Kd.R_far (p := ⟨gb109, 0, none⟩) (Kd.R_types HO128.out BK109.out (by decide)) (fun _ hk => hk.2) (.int .i64 t132)) (fun _ hk => hk.2) (.int .i64 t133)) (fun _ h_ => h_.1))) (Kd.R_base ho0) hb); have n3_ := Aside0.mk (Kd.R_below (by (with_reducible repeat (first | apply Kd.R_alloc | apply Kd.R_drewN | apply Kd.R_drew)); exact (Kd.R_mono (Kd.R_far (p := ⟨gb109, 1, none⟩) (Kd.R_far (p := ⟨gb109, 0, none⟩) (Kd.R_types HO131.out BK109.out (by decide)) (fun _ hk => hk.2) (.int .i64 t132)) (fun _ hk => hk.2) (.int .i64 t133)) (fun _ h_ => h_.1))) hb); have n4_ := Aside0.mk (Kd.R_lower (Kd.R_new' (Kd.R_new' (Kd.R_new' ho0 (Kd.R_lt (by (with_reducible repeat (first | apply Kd.R_alloc | apply Kd.R_drewN | apply Kd.R_drew)); exact (Kd.R_mono (Kd.R_far (p := ⟨gb109, 1, none⟩) (Kd.R_far (p := ⟨gb109, 0, none⟩) (Kd.R_types HO_5.out BK109.out (by decide)) (fun _ hk => hk.2) (.int .i64 t132)) (fun _ hk => hk.2) (.int .i64 t133)) (fun _ h_ => h_.1))))) (Kd.R_lt (by (with_reducible repeat (first | apply Kd.R_alloc | apply Kd.R_drewN | apply Kd.R_drew)); exact (Kd.R_mono (Kd.R_far (p := ⟨gb109, 1, none⟩) (Kd.R_far (p := ⟨gb109, 0, none⟩) (Kd.R_types HO125.out BK109.out (by decide)) (fun _ hk => hk.2) (.int .i64 t132)) (fun _ hk => hk.2) (.int .i64 t133)) (fun _ h_ => h_.1))))) (Kd.R_lt (by (with_reducible repeat (first | apply Kd.R_alloc | apply Kd.R_drewN | apply Kd.R_drew)); exact (Kd.R_mono (Kd.R_far (p := ⟨gb109, 1, none⟩) (Kd.R_far (p := ⟨gb109, 0, none⟩) (Kd.R_types HO128.out BK109.out (by decide)) (fun _ hk => hk.2) (.int .i64 t132)) (fun _ hk => hk.2) (.int .i64 t133)) (fun _ h_ => h_.1))))) (below_size (by repeat (first | (with_reducible first | exact HB.out | apply below_alloc | apply pw_below_drewN | apply below_drew1 | refine below_set ?_ GE109.out) | exact HB.out)))); have n5_ := Aside0.mk (blk_below (g := gb109) (o := .cells #[.int .i64 t132, .int .i64 t133] 32 (0, 0)) (by (with_reducible repeat (first | refine blk_drewN ?_ _ | refine blk_drew ?_ | refine blk_alloc ?_ _)); refine blk_put (cs := #[.int .i64 t132, .int .i64 t108]) ?_ 1 _ rfl; (with_reducible repeat (first | refine blk_drewN ?_ _ | refine blk_drew ?_ | refine blk_alloc ?_ _)); refine blk_put (cs := #[.int .i64 t107, .int .i64 t108]) ?_ 0 _ rfl; (with_reducible repeat (first | refine blk_drewN ?_ _ | refine blk_drew ?_ | refine blk_alloc ?_ _)); exact BK109.out) hb); have n6_ := Aside0.mk (below_step (by repeat (first | (with_reducible first | exact HB.out | apply below_alloc | apply pw_below_drewN | apply below_drew1 | refine below_set ?_ GE109.out) | exact HB.out)) hb); clear HO_5; clear HO125; clear HO128; clear HO131; clear BK109; clear HB; have HO_5 := n0_; have HO125 := n1_; have HO128 := n2_; have HO131 := n3_; have HO136 := n4_; have BK109 := n5_; have HB := n6_; clear n0_ n1_ n2_ n3_ n4_ n5_ n6_; (try clear hb); (try clear hb2); (try clear hk); (try clear hi); (try clear ho0)))
                    go_ret
                    exact ⟨by first | rfl | (simp [errW_none, errW_some] <;> rfl) | (simp only [← hji22]; first | rfl | (simp [errW_none, errW_some] <;> rfl)) | (simp [*, errW_none, errW_some] <;> rfl), by repeat (first | (with_reducible first | exact HB.out | apply below_alloc | apply pw_below_drewN | apply below_drew1 | refine below_set ?_ GE109.out) | exact HB.out)⟩
                · rw [if_neg c25] at H
                  exact absurd H (by simp)
              · rw [if_neg c24] at H
                exact absurd H (by simp)
            · rw [if_neg c23] at H
              exact absurd H (by simp)
          · rw [if_neg c21] at H
            exact absurd H (by simp)

end Go.Proofs.Ytojlcoebbgafhaa.PR
