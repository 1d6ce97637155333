-- Written by wip/xprint.py: a function and the proof of its contract.
import Derived.Test.YtojlcoebbgafhaaR0
import Derived.Test.YtojlcoebbgafhaaRF20
import Derived.Test.YtojlcoebbgafhaaRF28
import Derived.Test.YtojlcoebbgafhaaE1R
import Derived.Test.YtojlcoebbgafhaaE2
namespace Go.Proofs.Ytojlcoebbgafhaa.PR
open Go.RowKit Go.Proofs.YtojlcoebbgafhaaW.PrintWords Go.Proofs.YtojlcoebbgafhaaW.PrintLast Go.Proofs.YtojlcoebbgafhaaW.PrintMore
attribute [local go_sem] max2_int min2_int max_two min_two max_three min_three max_four min_four   -- for this text's walks alone
set_option linter.unusedVariables false
set_option linter.unusedSimpArgs false

/-! ### slipwaylaw10_RelBases: function 8 -/
mutual
def slipwaylaw10_RelBases.j0 : Nat → List Int → List (S46) → Int → Int → Bool → Option (Bool)
  | 0, _, _, _, _, _ => none
  | k + 1, x0, x1, x2, x3, x31 => if x31 = true then ((slipwaylaw10_awake.f k).bind fun t101 => (some t101)) else ((slipwaylaw10_Apart.f k x1 (x0.length : Int)).bind fun t102 => ((rel_Apply.f x0 t102 x2).bind fun t105 => ((rel_Apply.f x0 t102 x3).bind fun t108 => ((rel_Apply.f t105 t102 (IntKind.u64.wrap (-x2))).bind fun t111 => (if (t105.length : Int) = (x0.length : Int) then (if (t108.length : Int) = (x0.length : Int) then (if (strOfNums t111).toList = (strOfNums x0).toList then ((rel_Apply.f x0 t102 0).bind fun t114 => (slipwaylaw10_RelBases.j1 k x0 x2 x3 t102 t105 t108 ((strOfNums t114).toList != (strOfNums x0).toList))) else (slipwaylaw10_RelBases.j1 k x0 x2 x3 t102 t105 t108 true)) else (slipwaylaw10_RelBases.j1 k x0 x2 x3 t102 t105 t108 true)) else (slipwaylaw10_RelBases.j1 k x0 x2 x3 t102 t105 t108 true))))))
def slipwaylaw10_RelBases.j1 : Nat → List Int → Int → Int → List (S46) → List Int → List Int → Bool → Option (Bool)
  | 0, _, _, _, _, _, _, _ => none
  | k + 1, x0, x2, x3, x9, x10, x11, x77 => if x77 = true then (some false) else (if 0 ≤ (x0.length : Int) then (if ((x0.length : Int) : Int).toNat ≤ 281474976710656 then (slipwaylaw10_RelBases.l0 k x0 x2 x3 x9 x10 x11 (List.replicate ((x0.length : Int) : Int).toNat false) 0) else (none)) else (none))
def slipwaylaw10_RelBases.l0 : Nat → List Int → Int → Int → List (S46) → List Int → List Int → List Bool → Int → Option (Bool)
  | 0, _, _, _, _, _, _, _, _ => none
  | k + 1, x0, x2, x3, x9, x10, x11, x13, x14 => if x14 < (x9.length : Int) then (if 0 ≤ x14 then (if ((rd_T46 x9 x14).f0) = 10 then (slipwaylaw10_RelBases.j3 k x0 x2 x3 x9 x10 x11 x13 x14 8) else (slipwaylaw10_RelBases.j3 k x0 x2 x3 x9 x10 x11 x13 x14 4)) else (none)) else (slipwaylaw10_RelBases.l2 k x0 x10 x11 x13 0)
def slipwaylaw10_RelBases.j3 : Nat → List Int → Int → Int → List (S46) → List Int → List Int → List Bool → Int → Int → Option (Bool)
  | 0, _, _, _, _, _, _, _, _, _ => none
  | k + 1, x0, x2, x3, x9, x10, x11, x13, x14, x15 => if 0 ≤ x14 then (if x14 < (x9.length : Int) then ((slipwayref1_Num.f (strOfNums x10) ((rd_T46 x9 x14).f1) x15).bind fun bt122 => ((slipwayref1_Num.f (strOfNums x11) ((rd_T46 x9 x14).f1) x15).bind fun bt125 => (if x15 = 4 then (slipwaylaw10_RelBases.j4 k x0 x2 x3 x9 x10 x11 x13 x14 x15 (Go.bits .and .u64 (IntKind.u64.wrap (bt122.1 - bt125.1)) 4294967295) (Go.bits .and .u64 (IntKind.u64.wrap (x2 - x3)) 4294967295)) else (slipwaylaw10_RelBases.j4 k x0 x2 x3 x9 x10 x11 x13 x14 x15 (IntKind.u64.wrap (bt122.1 - bt125.1)) (IntKind.u64.wrap (x2 - x3)))))) else (none)) else (none)
def slipwaylaw10_RelBases.j4 : Nat → List Int → Int → Int → List (S46) → List Int → List Int → List Bool → Int → Int → Int → Int → Option (Bool)
  | 0, _, _, _, _, _, _, _, _, _, _, _ => none
  | k + 1, x0, x2, x3, x9, x10, x11, x13, x14, x15, x20, x21 => if x20 = x21 then (slipwaylaw10_RelBases.l1 k x0 x2 x3 x9 x10 x11 x13 x14 x15 0) else (some false)
def slipwaylaw10_RelBases.l1 : Nat → List Int → Int → Int → List (S46) → List Int → List Int → List Bool → Int → Int → Int → Option (Bool)
  | 0, _, _, _, _, _, _, _, _, _, _ => none
  | k + 1, x0, x2, x3, x9, x10, x11, x13, x14, x15, x22 => if x22 < x15 then (if 0 ≤ x14 then (if x14 < (x9.length : Int) then (if 0 ≤ (wrap64 (((rd_T46 x9 x14).f1) + x22)) then (if (wrap64 (((rd_T46 x9 x14).f1) + x22)) < (x13.length : Int) then (slipwaylaw10_RelBases.l1 k x0 x2 x3 x9 x10 x11 (x13.set ((wrap64 (((rd_T46 x9 x14).f1) + x22)) : Int).toNat true) x14 x15 (wrap64 (x22 + 1))) else (none)) else (none)) else (none)) else (none)) else (slipwaylaw10_RelBases.l0 k x0 x2 x3 x9 x10 x11 x13 (wrap64 (x14 + 1)))
def slipwaylaw10_RelBases.l2 : Nat → List Int → List Int → List Int → List Bool → Int → Option (Bool)
  | 0, _, _, _, _, _ => none
  | k + 1, x0, x10, x11, x13, x23 => if x23 < (x0.length : Int) then (if 0 ≤ x23 then (if x23 < (x13.length : Int) then (if rdOf false x13 x23 = true then (slipwaylaw10_RelBases.l2 k x0 x10 x11 x13 (wrap64 (x23 + 1))) else (if x23 < (x10.length : Int) then (if (rd x10 x23) = (rd x0 x23) then (if x23 < (x11.length : Int) then (if (rd x11 x23) = (rd x0 x23) then (slipwaylaw10_RelBases.l2 k x0 x10 x11 x13 (wrap64 (x23 + 1))) else (some false)) else (none)) else (some false)) else (none))) else (none)) else (none)) else ((slipwaylaw10_awake.f k).bind fun t134 => (some t134))
end
def slipwaylaw10_RelBases.f (k : Nat) (l0 : List Int) (l1 : List (S46)) (a2 : Int) (a3 : Int) : Option (Bool) := if (l0.length : Int) < 8 then (slipwaylaw10_RelBases.j0 k l0 l1 a2 a3 true) else (slipwaylaw10_RelBases.j0 k l0 l1 a2 a3 (decide ((l0.length : Int) > 300)))
theorem slipwaylaw10_RelBases.mono_l : ∀ k, (∀ y0 y1 y2 y3 y4, LeO (slipwaylaw10_RelBases.j0 k y0 y1 y2 y3 y4) (slipwaylaw10_RelBases.j0 (k + 1) y0 y1 y2 y3 y4)) ∧ (∀ y0 y1 y2 y3 y4 y5 y6, LeO (slipwaylaw10_RelBases.j1 k y0 y1 y2 y3 y4 y5 y6) (slipwaylaw10_RelBases.j1 (k + 1) y0 y1 y2 y3 y4 y5 y6)) ∧ (∀ y0 y1 y2 y3 y4 y5 y6 y7, LeO (slipwaylaw10_RelBases.l0 k y0 y1 y2 y3 y4 y5 y6 y7) (slipwaylaw10_RelBases.l0 (k + 1) y0 y1 y2 y3 y4 y5 y6 y7)) ∧ (∀ y0 y1 y2 y3 y4 y5 y6 y7 y8, LeO (slipwaylaw10_RelBases.j3 k y0 y1 y2 y3 y4 y5 y6 y7 y8) (slipwaylaw10_RelBases.j3 (k + 1) y0 y1 y2 y3 y4 y5 y6 y7 y8)) ∧ (∀ y0 y1 y2 y3 y4 y5 y6 y7 y8 y9 y10, LeO (slipwaylaw10_RelBases.j4 k y0 y1 y2 y3 y4 y5 y6 y7 y8 y9 y10) (slipwaylaw10_RelBases.j4 (k + 1) y0 y1 y2 y3 y4 y5 y6 y7 y8 y9 y10)) ∧ (∀ y0 y1 y2 y3 y4 y5 y6 y7 y8 y9, LeO (slipwaylaw10_RelBases.l1 k y0 y1 y2 y3 y4 y5 y6 y7 y8 y9) (slipwaylaw10_RelBases.l1 (k + 1) y0 y1 y2 y3 y4 y5 y6 y7 y8 y9)) ∧ (∀ y0 y1 y2 y3 y4, LeO (slipwaylaw10_RelBases.l2 k y0 y1 y2 y3 y4) (slipwaylaw10_RelBases.l2 (k + 1) y0 y1 y2 y3 y4))
  | 0 => ⟨fun _ _ _ _ _ r h => by simp [slipwaylaw10_RelBases.j0] at h, fun _ _ _ _ _ _ _ r h => by simp [slipwaylaw10_RelBases.j1] at h, fun _ _ _ _ _ _ _ _ r h => by simp [slipwaylaw10_RelBases.l0] at h, fun _ _ _ _ _ _ _ _ _ r h => by simp [slipwaylaw10_RelBases.j3] at h, fun _ _ _ _ _ _ _ _ _ _ _ r h => by simp [slipwaylaw10_RelBases.j4] at h, fun _ _ _ _ _ _ _ _ _ _ r h => by simp [slipwaylaw10_RelBases.l1] at h, fun _ _ _ _ _ r h => by simp [slipwaylaw10_RelBases.l2] at h⟩
  | k + 1 => by
    obtain ⟨ih0, ih1, ih2, ih3, ih4, ih5, ih6⟩ := slipwaylaw10_RelBases.mono_l k
    refine ⟨?_, ?_, ?_, ?_, ?_, ?_, ?_⟩
    · intro y0 y1 y2 y3 y4
      unfold slipwaylaw10_RelBases.j0
      repeat' first
      | (with_reducible exact ih0 _ _ _ _ _)
      | (with_reducible exact ih1 _ _ _ _ _ _ _)
      | (with_reducible exact ih2 _ _ _ _ _ _ _ _)
      | (with_reducible exact ih3 _ _ _ _ _ _ _ _ _)
      | (with_reducible exact ih4 _ _ _ _ _ _ _ _ _ _ _)
      | (with_reducible exact ih5 _ _ _ _ _ _ _ _ _ _)
      | (with_reducible exact ih6 _ _ _ _ _)
      | (with_reducible exact slipwaylaw10_Apart.mono _ _ _)
      | (with_reducible exact slipwaylaw10_awake.mono _)
      | (with_reducible exact LeO.refl _)
      | (with_reducible exact LeO.none _)
      | (with_reducible refine LeO.ite ?_ ?_)
      | (with_reducible refine LeO.bind ?_ (fun _ => ?_))
      | exact ih0 _ _ _ _ _
      | exact ih1 _ _ _ _ _ _ _
      | exact ih2 _ _ _ _ _ _ _ _
      | exact ih3 _ _ _ _ _ _ _ _ _
      | exact ih4 _ _ _ _ _ _ _ _ _ _ _
      | exact ih5 _ _ _ _ _ _ _ _ _ _
      | exact ih6 _ _ _ _ _
      | exact slipwaylaw10_Apart.mono _ _ _
      | exact slipwaylaw10_awake.mono _
      | exact LeO.none _
      | refine LeO.ite ?_ ?_
      | refine LeO.bind ?_ (fun _ => ?_)
    · intro y0 y1 y2 y3 y4 y5 y6
      unfold slipwaylaw10_RelBases.j1
      repeat' first
      | (with_reducible exact ih0 _ _ _ _ _)
      | (with_reducible exact ih1 _ _ _ _ _ _ _)
      | (with_reducible exact ih2 _ _ _ _ _ _ _ _)
      | (with_reducible exact ih3 _ _ _ _ _ _ _ _ _)
      | (with_reducible exact ih4 _ _ _ _ _ _ _ _ _ _ _)
      | (with_reducible exact ih5 _ _ _ _ _ _ _ _ _ _)
      | (with_reducible exact ih6 _ _ _ _ _)
      | (with_reducible exact slipwaylaw10_Apart.mono _ _ _)
      | (with_reducible exact slipwaylaw10_awake.mono _)
      | (with_reducible exact LeO.refl _)
      | (with_reducible exact LeO.none _)
      | (with_reducible refine LeO.ite ?_ ?_)
      | (with_reducible refine LeO.bind ?_ (fun _ => ?_))
      | exact ih0 _ _ _ _ _
      | exact ih1 _ _ _ _ _ _ _
      | exact ih2 _ _ _ _ _ _ _ _
      | exact ih3 _ _ _ _ _ _ _ _ _
      | exact ih4 _ _ _ _ _ _ _ _ _ _ _
      | exact ih5 _ _ _ _ _ _ _ _ _ _
      | exact ih6 _ _ _ _ _
      | exact slipwaylaw10_Apart.mono _ _ _
      | exact slipwaylaw10_awake.mono _
      | exact LeO.none _
      | refine LeO.ite ?_ ?_
      | refine LeO.bind ?_ (fun _ => ?_)
    · intro y0 y1 y2 y3 y4 y5 y6 y7
      unfold slipwaylaw10_RelBases.l0
      repeat' first
      | (with_reducible exact ih0 _ _ _ _ _)
      | (with_reducible exact ih1 _ _ _ _ _ _ _)
      | (with_reducible exact ih2 _ _ _ _ _ _ _ _)
      | (with_reducible exact ih3 _ _ _ _ _ _ _ _ _)
      | (with_reducible exact ih4 _ _ _ _ _ _ _ _ _ _ _)
      | (with_reducible exact ih5 _ _ _ _ _ _ _ _ _ _)
      | (with_reducible exact ih6 _ _ _ _ _)
      | (with_reducible exact slipwaylaw10_Apart.mono _ _ _)
      | (with_reducible exact slipwaylaw10_awake.mono _)
      | (with_reducible exact LeO.refl _)
      | (with_reducible exact LeO.none _)
      | (with_reducible refine LeO.ite ?_ ?_)
      | (with_reducible refine LeO.bind ?_ (fun _ => ?_))
      | exact ih0 _ _ _ _ _
      | exact ih1 _ _ _ _ _ _ _
      | exact ih2 _ _ _ _ _ _ _ _
      | exact ih3 _ _ _ _ _ _ _ _ _
      | exact ih4 _ _ _ _ _ _ _ _ _ _ _
      | exact ih5 _ _ _ _ _ _ _ _ _ _
      | exact ih6 _ _ _ _ _
      | exact slipwaylaw10_Apart.mono _ _ _
      | exact slipwaylaw10_awake.mono _
      | exact LeO.none _
      | refine LeO.ite ?_ ?_
      | refine LeO.bind ?_ (fun _ => ?_)
    · intro y0 y1 y2 y3 y4 y5 y6 y7 y8
      unfold slipwaylaw10_RelBases.j3
      repeat' first
      | (with_reducible exact ih0 _ _ _ _ _)
      | (with_reducible exact ih1 _ _ _ _ _ _ _)
      | (with_reducible exact ih2 _ _ _ _ _ _ _ _)
      | (with_reducible exact ih3 _ _ _ _ _ _ _ _ _)
      | (with_reducible exact ih4 _ _ _ _ _ _ _ _ _ _ _)
      | (with_reducible exact ih5 _ _ _ _ _ _ _ _ _ _)
      | (with_reducible exact ih6 _ _ _ _ _)
      | (with_reducible exact slipwaylaw10_Apart.mono _ _ _)
      | (with_reducible exact slipwaylaw10_awake.mono _)
      | (with_reducible exact LeO.refl _)
      | (with_reducible exact LeO.none _)
      | (with_reducible refine LeO.ite ?_ ?_)
      | (with_reducible refine LeO.bind ?_ (fun _ => ?_))
      | exact ih0 _ _ _ _ _
      | exact ih1 _ _ _ _ _ _ _
      | exact ih2 _ _ _ _ _ _ _ _
      | exact ih3 _ _ _ _ _ _ _ _ _
      | exact ih4 _ _ _ _ _ _ _ _ _ _ _
      | exact ih5 _ _ _ _ _ _ _ _ _ _
      | exact ih6 _ _ _ _ _
      | exact slipwaylaw10_Apart.mono _ _ _
      | exact slipwaylaw10_awake.mono _
      | exact LeO.none _
      | refine LeO.ite ?_ ?_
      | refine LeO.bind ?_ (fun _ => ?_)
    · intro y0 y1 y2 y3 y4 y5 y6 y7 y8 y9 y10
      unfold slipwaylaw10_RelBases.j4
      repeat' first
      | (with_reducible exact ih0 _ _ _ _ _)
      | (with_reducible exact ih1 _ _ _ _ _ _ _)
      | (with_reducible exact ih2 _ _ _ _ _ _ _ _)
      | (with_reducible exact ih3 _ _ _ _ _ _ _ _ _)
      | (with_reducible exact ih4 _ _ _ _ _ _ _ _ _ _ _)
      | (with_reducible exact ih5 _ _ _ _ _ _ _ _ _ _)
      | (with_reducible exact ih6 _ _ _ _ _)
      | (with_reducible exact slipwaylaw10_Apart.mono _ _ _)
      | (with_reducible exact slipwaylaw10_awake.mono _)
      | (with_reducible exact LeO.refl _)
      | (with_reducible exact LeO.none _)
      | (with_reducible refine LeO.ite ?_ ?_)
      | (with_reducible refine LeO.bind ?_ (fun _ => ?_))
      | exact ih0 _ _ _ _ _
      | exact ih1 _ _ _ _ _ _ _
      | exact ih2 _ _ _ _ _ _ _ _
      | exact ih3 _ _ _ _ _ _ _ _ _
      | exact ih4 _ _ _ _ _ _ _ _ _ _ _
      | exact ih5 _ _ _ _ _ _ _ _ _ _
      | exact ih6 _ _ _ _ _
      | exact slipwaylaw10_Apart.mono _ _ _
      | exact slipwaylaw10_awake.mono _
      | exact LeO.none _
      | refine LeO.ite ?_ ?_
      | refine LeO.bind ?_ (fun _ => ?_)
    · intro y0 y1 y2 y3 y4 y5 y6 y7 y8 y9
      unfold slipwaylaw10_RelBases.l1
      repeat' first
      | (with_reducible exact ih0 _ _ _ _ _)
      | (with_reducible exact ih1 _ _ _ _ _ _ _)
      | (with_reducible exact ih2 _ _ _ _ _ _ _ _)
      | (with_reducible exact ih3 _ _ _ _ _ _ _ _ _)
      | (with_reducible exact ih4 _ _ _ _ _ _ _ _ _ _ _)
      | (with_reducible exact ih5 _ _ _ _ _ _ _ _ _ _)
      | (with_reducible exact ih6 _ _ _ _ _)
      | (with_reducible exact slipwaylaw10_Apart.mono _ _ _)
      | (with_reducible exact slipwaylaw10_awake.mono _)
      | (with_reducible exact LeO.refl _)
      | (with_reducible exact LeO.none _)
      | (with_reducible refine LeO.ite ?_ ?_)
      | (with_reducible refine LeO.bind ?_ (fun _ => ?_))
      | exact ih0 _ _ _ _ _
      | exact ih1 _ _ _ _ _ _ _
      | exact ih2 _ _ _ _ _ _ _ _
      | exact ih3 _ _ _ _ _ _ _ _ _
      | exact ih4 _ _ _ _ _ _ _ _ _ _ _
      | exact ih5 _ _ _ _ _ _ _ _ _ _
      | exact ih6 _ _ _ _ _
      | exact slipwaylaw10_Apart.mono _ _ _
      | exact slipwaylaw10_awake.mono _
      | exact LeO.none _
      | refine LeO.ite ?_ ?_
      | refine LeO.bind ?_ (fun _ => ?_)
    · intro y0 y1 y2 y3 y4
      unfold slipwaylaw10_RelBases.l2
      repeat' first
      | (with_reducible exact ih0 _ _ _ _ _)
      | (with_reducible exact ih1 _ _ _ _ _ _ _)
      | (with_reducible exact ih2 _ _ _ _ _ _ _ _)
      | (with_reducible exact ih3 _ _ _ _ _ _ _ _ _)
      | (with_reducible exact ih4 _ _ _ _ _ _ _ _ _ _ _)
      | (with_reducible exact ih5 _ _ _ _ _ _ _ _ _ _)
      | (with_reducible exact ih6 _ _ _ _ _)
      | (with_reducible exact slipwaylaw10_Apart.mono _ _ _)
      | (with_reducible exact slipwaylaw10_awake.mono _)
      | (with_reducible exact LeO.refl _)
      | (with_reducible exact LeO.none _)
      | (with_reducible refine LeO.ite ?_ ?_)
      | (with_reducible refine LeO.bind ?_ (fun _ => ?_))
      | exact ih0 _ _ _ _ _
      | exact ih1 _ _ _ _ _ _ _
      | exact ih2 _ _ _ _ _ _ _ _
      | exact ih3 _ _ _ _ _ _ _ _ _
      | exact ih4 _ _ _ _ _ _ _ _ _ _ _
      | exact ih5 _ _ _ _ _ _ _ _ _ _
      | exact ih6 _ _ _ _ _
      | exact slipwaylaw10_Apart.mono _ _ _
      | exact slipwaylaw10_awake.mono _
      | exact LeO.none _
      | refine LeO.ite ?_ ?_
      | refine LeO.bind ?_ (fun _ => ?_)
theorem slipwaylaw10_RelBases.mono : ∀ a0 a1 a2 a3 k, LeO (slipwaylaw10_RelBases.f k a0 a1 a2 a3) (slipwaylaw10_RelBases.f (k + 1) a0 a1 a2 a3) := by
  intro a0 a1 a2 a3 k
  obtain ⟨ih0, ih1, ih2, ih3, ih4, ih5, ih6⟩ := slipwaylaw10_RelBases.mono_l k
  unfold slipwaylaw10_RelBases.f
  repeat' first
      | (with_reducible exact ih0 _ _ _ _ _)
      | (with_reducible exact ih1 _ _ _ _ _ _ _)
      | (with_reducible exact ih2 _ _ _ _ _ _ _ _)
      | (with_reducible exact ih3 _ _ _ _ _ _ _ _ _)
      | (with_reducible exact ih4 _ _ _ _ _ _ _ _ _ _ _)
      | (with_reducible exact ih5 _ _ _ _ _ _ _ _ _ _)
      | (with_reducible exact ih6 _ _ _ _ _)
      | (with_reducible exact slipwaylaw10_Apart.mono _ _ _)
      | (with_reducible exact slipwaylaw10_awake.mono _)
      | (with_reducible exact LeO.refl _)
      | (with_reducible exact LeO.none _)
      | (with_reducible refine LeO.ite ?_ ?_)
      | (with_reducible refine LeO.bind ?_ (fun _ => ?_))
      | exact ih0 _ _ _ _ _
      | exact ih1 _ _ _ _ _ _ _
      | exact ih2 _ _ _ _ _ _ _ _
      | exact ih3 _ _ _ _ _ _ _ _ _
      | exact ih4 _ _ _ _ _ _ _ _ _ _ _
      | exact ih5 _ _ _ _ _ _ _ _ _ _
      | exact ih6 _ _ _ _ _
      | exact slipwaylaw10_Apart.mono _ _ _
      | exact slipwaylaw10_awake.mono _
      | exact LeO.none _
      | refine LeO.ite ?_ ?_
      | refine LeO.bind ?_ (fun _ => ?_)
def slipwaylaw10_RelBases.T6 : Bool × List (List Nat × List Nat) := (true, [([], []), ([0], [0]), ([], []), ([2], [2]), ([1, 3], [1, 3]), ([4], [4]), ([5], [5]), ([6, 5], [5, 6]), ([5], [5]), ([8, 5], [5, 8]), ([7, 9, 5], [5, 7, 9]), ([5, 10], [5, 10]), ([11, 5], [11]), ([12], [12]), ([13, 12], [12, 13]), ([12], [12]), ([15, 12], [12, 15]), ([14, 16, 12], [12, 14, 16]), ([12, 17], [12, 17]), ([18, 12], [18]), ([19], [19]), ([19], [19]), ([20, 21, 19, 19], [19, 20, 21]), ([22, 19], [19, 22]), ([19], [19]), ([24, 19], [19, 24]), ([23, 25, 19], [19, 23, 25]), ([19, 26], [19, 26])])
def slipwaylaw10_RelBases.B6 : List Nat := [0, 1, 0, 4, 15, 31, 63, 127, 63, 319, 1023, 2047, 4095, 8191, 16383, 8191, 40959, 131071, 262143, 524287, 1048575, 1048575, 4194303, 8388607, 1048575, 17825791, 67108863, 134217727]
theorem slipwaylaw10_RelBases.tab6 : rtab .any (opsOf Try.f8 6) = slipwaylaw10_RelBases.T6 := by kernel_rfl
theorem slipwaylaw10_RelBases.bits6 : waitsOk slipwaylaw10_RelBases.T6.2 slipwaylaw10_RelBases.B6 = true := by kernel_rfl
def slipwaylaw10_RelBases.T15 : Bool × List (List Nat × List Nat) := (true, [([], []), ([0], [0]), ([], []), ([], []), ([2, 3], [2, 3]), ([4], [4]), ([5], [5]), ([], []), ([1, 6, 7], [1, 6, 7]), ([8], [8]), ([9], [9]), ([9], [9]), ([10, 8, 0, 1, 2, 3, 4, 5, 6, 7, 8, 9, 10], [10]), ([11, 12, 0, 1, 2, 3, 4, 5, 6, 7, 8, 9, 10, 11, 12], [11])])
def slipwaylaw10_RelBases.B15 : List Nat := [0, 1, 0, 0, 12, 28, 60, 0, 255, 511, 1023, 1023, 2047, 8191]
theorem slipwaylaw10_RelBases.tab15 : rtab .any (opsOf Try.f8 15) = slipwaylaw10_RelBases.T15 := by kernel_rfl
theorem slipwaylaw10_RelBases.bits15 : waitsOk slipwaylaw10_RelBases.T15.2 slipwaylaw10_RelBases.B15 = true := by kernel_rfl
def slipwaylaw10_RelBases.T16 : Bool × List (List Nat × List Nat) := (true, [([], []), ([0], [0]), ([], []), ([], []), ([2, 3], [2, 3]), ([4], [4]), ([5], [5]), ([], []), ([1, 6, 7], [1, 6, 7]), ([8], [8]), ([9], [9]), ([9], [9]), ([10, 8, 0, 1, 2, 3, 4, 5, 6, 7, 8, 9, 10], [10]), ([11, 12, 0, 1, 2, 3, 4, 5, 6, 7, 8, 9, 10, 11, 12], [11])])
def slipwaylaw10_RelBases.B16 : List Nat := [0, 1, 0, 0, 12, 28, 60, 0, 255, 511, 1023, 1023, 2047, 8191]
theorem slipwaylaw10_RelBases.tab16 : rtab .any (opsOf Try.f8 16) = slipwaylaw10_RelBases.T16 := by kernel_rfl
theorem slipwaylaw10_RelBases.bits16 : waitsOk slipwaylaw10_RelBases.T16.2 slipwaylaw10_RelBases.B16 = true := by kernel_rfl
def slipwaylaw10_RelBases.T30 : Bool × List (List Nat × List Nat) := (true, [([], []), ([], []), ([0, 1], [0, 1]), ([2], [2]), ([3], [3]), ([4], [4]), ([5], [5]), ([5], [5]), ([6, 7, 5], [5, 6, 7]), ([8, 5], [5, 8]), ([5], [5]), ([5], [5]), ([10, 11, 5], [5, 10, 11]), ([12, 5], [5, 12]), ([9, 13, 5], [5, 9, 13]), ([14, 5, 5], [5, 14]), ([15], [15]), ([15], [15]), ([16, 17, 15], [15, 16, 17]), ([18, 15], [15, 18]), ([15], [15]), ([15], [15]), ([20, 21, 15], [15, 20, 21]), ([22, 15], [15, 22]), ([19, 23, 15], [15, 19, 23]), ([15, 24, 5], [5, 15, 24]), ([5, 25], [5, 25])])
def slipwaylaw10_RelBases.B30 : List Nat := [0, 0, 3, 7, 15, 31, 63, 63, 255, 511, 63, 63, 3135, 7231, 16383, 32767, 65535, 65535, 262143, 524287, 65535, 65535, 3211263, 7405567, 16777215, 33554431, 67108863]
theorem slipwaylaw10_RelBases.tab30 : rtab .any (opsOf Try.f8 30) = slipwaylaw10_RelBases.T30 := by kernel_rfl
theorem slipwaylaw10_RelBases.bits30 : waitsOk slipwaylaw10_RelBases.T30.2 slipwaylaw10_RelBases.B30 = true := by kernel_rfl
end Go.Proofs.Ytojlcoebbgafhaa.PR
