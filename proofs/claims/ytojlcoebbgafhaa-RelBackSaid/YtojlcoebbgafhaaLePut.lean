/- The contract of le.Put. -/
import Derived.Test.YtojlcoebbgafhaaLe
import Derived.Laws.CopyRow
import Derived.Deep.RegionWith
namespace Go.Proofs.Ytojlcoebbgafhaa
open Go.RowKit
set_option linter.unusedVariables false
set_option linter.unusedSimpArgs false
open Go.Proofs.YtojlcoebbgafhaaW.PrintWords
attribute [local go_sem] b_max2 b_min2 b_max b_min
def PutPost (w : World) (base g cap : Nat) (xs : List Int) (p n v : Int) (e : Ending) (w' : World) : Prop :=
  e = .returned (.bool (putB xs.length p n)) ∧ w'.ownsRow base 5 1 (.slice (some ⟨g, 0, none⟩) xs.length cap) xs.length (nums .u8 (putV xs p n v)) ∧ w.grownBy w' (some g)
theorem cut_from (g cap l : Nat) (p : Int) (h0 : 0 ≤ p) (h1 : p < l) (hc : l ≤ cap) : ∀ W : World, (Instr.slice 29 (.slice (some ⟨g, 0, none⟩) l cap) (some (.int .i64 p)) none none).run Try.prog W = .ok (.slice (some ⟨g, p.toNat, none⟩) (l - p.toNat) (cap - p.toNat)) W := by
  intro W
  obtain ⟨i0, hi0, _, hsz, _⟩ := info_parts info_u8
  obtain ⟨m, rfl⟩ := Int.eq_ofNat_of_zero_le h0
  have hel : Try.prog.elem 29 = 5 := by simp [Program.elem, Try.underlying29]
  have hu : Try.prog.underlying 29 = some (.slice (Try.prog.elem 29)) := by rw [hel]; exact Try.underlying29
  rw [run_slice_l W 29 _ l cap hu .i64 (m : Int) (Int.natCast_nonneg _) (by omega), hel]
  have hne : ¬ cap = m := by omega
  simp [sizeOf, typeInfo, hi0, hsz, sliced, Result.andThen, hne, add_plain]
theorem own_block {w : World} {base g cap n : Nat} {e : TypeId} {xs : List Value} (h : w.ownsRow base e 1 (.slice (some ⟨g, 0, none⟩) n cap) n xs) : ∃ cur : Array Value, w.heap[g]? = some (.cells cur e (0, 0)) ∧ n ≤ cap ∧ cap ≤ maxLen ∧ cur.size = cap ∧ cur.toList.take n = xs ∧ base ≤ g := by
  rcases h.2 with ⟨h0, _⟩ | ⟨g', cap', cur, he, hb, hh, h1, h2, h3, h4⟩
  · cases h0
  · simp only [Value.slice.injEq, Option.some.injEq, Addr.mk.injEq] at he
    obtain ⟨⟨rfl, _⟩, _, rfl⟩ := he
    exact ⟨cur, hh, h1, h2, by omega, by simpa using h4, hb⟩
theorem put_copy (base g cap : Nat) (xs : List Int) (p n v : Int) (w w1 : World) (v1 : Value) (base1 : Nat) (HO : w.ownsRow base 5 1 (.slice (some ⟨g, 0, none⟩) xs.length cap) xs.length (nums .u8 xs))
    (HB1 : w1.ownsRow base1 5 1 v1 (leB v n.toNat).length (nums .u8 (leB v n.toNat))) (HW : Below w.heap.size w w1) (h : 1 ≤ n ∧ n ≤ 8 ∧ 0 ≤ p ∧ p ≤ xs.length ∧ n ≤ xs.length - p) :
    ∃ W2, (Builtin.copy_ #[29, 29] 3 #[.slice (some ⟨g, p.toNat, none⟩) (xs.length - p.toNat) (cap - p.toNat), v1]).run Try.prog w1 = .ok (goInt n.toNat) W2 ∧
      W2.ownsRow base 5 1 (.slice (some ⟨g, 0, none⟩) xs.length cap) xs.length (nums .u8 (putL xs p n v)) ∧ w.grownBy W2 (some g) := by
  obtain ⟨cur, hh, h1, h2, h3, h4, h5⟩ := own_block HO
  have hg1 : w1.heap[g]? = some (.cells cur 5 (0, 0)) := blk_below hh HW
  obtain ⟨A1, c1, rfl, hr1⟩ := own_reads HB1
  have hlen : (leB v n.toNat).length = n.toNat := leB_len v _
  obtain ⟨ad, rfl, hcell⟩ := hr1.2.2 (by omega)
  have hrun := run_copy_row (P := Try.prog) w1 29 29 3 5 g p.toNat (xs.length - p.toNat) (cap - p.toNat) ad (leB v n.toNat).length c1 cur 5 (nums .u8 (leB v n.toNat)) Try.underlying29 (by kernel_rfl) hg1
    (by rw [nums_length, hlen]; simp only [Nat.min_def]; split <;> omega)
    (by
      intro j x hx
      have hj : j < (leB v n.toNat).length := by
        have := (List.getElem?_eq_some_iff.1 hx).1
        rwa [nums_length] at this
      rw [hcell j hj]
      simp only [nums, List.getElem?_map, List.getElem?_eq_getElem hj, Option.map_some] at hx
      rw [← hx, List.getD_eq_getElem?_getD, List.getElem?_eq_getElem hj]; rfl)
    (by rw [nums_length, hlen]; omega) (by intro x hx; simp only [nums, List.mem_map] at hx; obtain ⟨y, _, rfl⟩ := hx; rfl)
  have hxl : (putL xs p n v).length = xs.length := putL_len xs p n v (decide_eq_true h)
  have hcl : cur.toList.length = cap := by rw [Array.length_toList]; exact h3
  refine ⟨_, hrun.trans (by rw [nums_length, hlen]), ⟨by rw [nums_length, hxl, Nat.mul_one], .inr ⟨g, cap, _, rfl, h5, setRow_heap _ _ _ _ _ _ hg1, h1, h2, ?_, ?_⟩⟩, ⟨HW.os, HW.tape, HW.output, by rw [setRow_size]; exact HW.size, fun k hk hne => ?_⟩⟩
  · rw [List.size_toArray, List.length_append, List.length_append, nums_length, hlen, List.length_take, List.length_drop, hcl]
    omega
  · rw [List.toList_toArray]
    have hx : nums .u8 (putL xs p n v) = (nums .u8 xs).take p.toNat ++ nums .u8 (leB v n.toNat) ++ (nums .u8 xs).drop (p.toNat + n.toNat) := by
      simp [nums, putL, List.map_take, List.map_drop]
    have hd : cur.toList = nums .u8 xs ++ cur.toList.drop xs.length := by rw [← h4]; exact (List.take_append_drop _ _).symm
    have e1 : n.toNat = (nums .u8 (leB v n.toNat)).length := by rw [nums_length, hlen]
    have e2 : xs.length * 1 = (nums .u8 xs).length := by rw [nums_length, Nat.mul_one]
    rw [hx, e2]
    have := splice_take (nums .u8 xs) (cur.toList.drop xs.length) (nums .u8 (leB v n.toNat)) p.toNat (by rw [← e1, nums_length]; omega)
    rw [← hd, ← e1] at this
    exact this
  · rw [setRow_other _ _ _ _ (fun e => hne (by rw [e]))]
    exact HW.block k hk
set_option maxHeartbeats 1600000 in
theorem Put_in (base g cap : Nat) (xs : List Int) (p n v : Int) (w : World) (HO : w.ownsRow base 5 1 (.slice (some ⟨g, 0, none⟩) xs.length cap) xs.length (nums .u8 xs)) (hv0 : 0 ≤ v) (hv1 : v < 18446744073709551616) (hxs : xs.length ≤ 9223372036854775807)
    (h : 1 ≤ n ∧ n ≤ 8 ∧ 0 ≤ p ∧ p ≤ xs.length ∧ n ≤ xs.length - p) :
    Calls Try.prog 50 #[.slice (some ⟨g, 0, none⟩) xs.length cap, .int .i64 p, .int .i64 n, .int .u64 v] w (PutPost w base g cap xs p n v) := by
  have hcap : xs.length ≤ cap := own_le HO
  have hcut := cut_from g cap xs.length p h.2.2.1 (by omega) hcap
  have hh := h
  obtain ⟨h1, h2, h3, h4, h5⟩ := h
  have d1 : decide (n < 1) = false := decide_eq_false (by omega)
  have d2 : decide (8 < n) = false := decide_eq_false (by omega)
  have d3 : decide (p < 0) = false := decide_eq_false (by omega)
  have d4 : decide ((xs.length : Int) < p) = false := decide_eq_false (by omega)
  have d5 : decide ((xs.length : Int) - p < n) = false := decide_eq_false (by omega)
  have HO1 := Aside0.mk HO
  clear HO
  go_enter Try.func50, Try.ntmps50
  go_wp2
  go_region_with (first | (go_at_call 61; refine (Bytes8_calls _ _ _ hv0 hv1 (by omega) h2).mono ?_; rintro e w1 ⟨v1, rfl, HB1, HW1⟩; obtain ⟨W2, hcopy, HP1, HP2⟩ := put_copy base g cap xs p n v w.drew w1 v1 _ HO1.out HB1 HW1 hh))
  all_goals
    go_wp2
    go_ret
    have e1 : putB xs.length p n = true := decide_eq_true hh
    refine ⟨by rw [e1]; rfl, by unfold putV; rw [if_pos e1]; exact HP1, ⟨HP2.os, HP2.tape, HP2.output, HP2.size, HP2.block⟩⟩
set_option maxHeartbeats 1600000 in
theorem Put_out (A : Option Addr) (cap l : Nat) (p n v : Int) (w : World) (hl : l ≤ 9223372036854775807) (h : putB l p n = false) :
    Calls Try.prog 50 #[.slice A l cap, .int .i64 p, .int .i64 n, .int .u64 v] w fun e w' => e = .returned (.bool false) ∧ w = w' := by
  have h := of_decide_eq_false h
  by_cases h1 : n < 1
  · have d1 : decide (n < 1) = true := decide_eq_true h1
    clear h h1
    go_enter Try.func50, Try.ntmps50
    go_wp2
    go_ret
    exact ⟨rfl, rfl⟩
  have d1 : decide (n < 1) = false := decide_eq_false h1
  by_cases h2 : 8 < n
  · have d2 : decide (8 < n) = true := decide_eq_true h2
    clear h h1 h2
    go_enter Try.func50, Try.ntmps50
    go_wp2
    go_ret
    exact ⟨rfl, rfl⟩
  have d2 : decide (8 < n) = false := decide_eq_false h2
  by_cases h3 : p < 0
  · have d3 : decide (p < 0) = true := decide_eq_true h3
    clear h h1 h2 h3
    go_enter Try.func50, Try.ntmps50
    go_wp2
    go_ret
    exact ⟨rfl, rfl⟩
  have d3 : decide (p < 0) = false := decide_eq_false h3
  by_cases h4 : (l : Int) < p
  · have d4 : decide ((l : Int) < p) = true := decide_eq_true h4
    clear h h1 h2 h3 h4
    go_enter Try.func50, Try.ntmps50
    go_wp2
    go_ret
    exact ⟨rfl, rfl⟩
  have d4 : decide ((l : Int) < p) = false := decide_eq_false h4
  have d5 : decide ((l : Int) - p < n) = true := decide_eq_true (by omega)
  have b1 : 0 ≤ p := by omega
  have b2 : p ≤ l := by omega
  clear h h1 h2 h3 h4
  go_enter Try.func50, Try.ntmps50
  go_wp2
  go_ret
  exact ⟨rfl, rfl⟩
theorem Put_calls (base g cap : Nat) (xs : List Int) (p n v : Int) (w : World) (HO : w.ownsRow base 5 1 (.slice (some ⟨g, 0, none⟩) xs.length cap) xs.length (nums .u8 xs)) (hv0 : 0 ≤ v) (hv1 : v < 18446744073709551616) :
    Calls Try.prog 50 #[.slice (some ⟨g, 0, none⟩) xs.length cap, .int .i64 p, .int .i64 n, .int .u64 v] w (PutPost w base g cap xs p n v) := by
  have hxs : xs.length ≤ 9223372036854775807 := by
    obtain ⟨cur, _, h1, h2, _⟩ := own_block HO
    unfold maxLen at h2
    omega
  cases hb : putB xs.length p n with
  | true => exact Put_in base g cap xs p n v w HO hv0 hv1 hxs (of_decide_eq_true hb)
  | false =>
    refine (Put_out _ cap xs.length p n v w hxs hb).mono ?_
    rintro e w' ⟨rfl, rfl⟩
    refine ⟨by rw [hb], by unfold putV; rw [if_neg (by rw [hb]; decide)]; exact HO, grown_of_below (Below.refl _ _) _⟩
theorem Put_at (base g cap l : Nat) (xs : List Int) (hl : xs.length = l) (p n v : Int) (w : World) (HO : w.ownsRow base 5 1 (.slice (some ⟨g, 0, none⟩) l cap) l (nums .u8 xs)) (hv0 : 0 ≤ v) (hv1 : v < 18446744073709551616) :
    Calls Try.prog 50 #[.slice (some ⟨g, 0, none⟩) l cap, .int .i64 p, .int .i64 n, .int .u64 v] w fun e w' => e = .returned (.bool (putB l p n)) ∧ w'.ownsRow base 5 1 (.slice (some ⟨g, 0, none⟩) l cap) l (nums .u8 (putV xs p n v)) ∧ w.grownBy w' (some g) := by
  subst hl
  exact Put_calls base g cap xs p n v w HO hv0 hv1
end Go.Proofs.Ytojlcoebbgafhaa
