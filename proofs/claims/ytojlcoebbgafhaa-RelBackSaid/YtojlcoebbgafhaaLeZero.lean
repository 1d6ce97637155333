/- le.In and le.Zero. -/
import Derived.Test.YtojlcoebbgafhaaRef1
namespace Go.Proofs.Ytojlcoebbgafhaa
open Go.RowKit
set_option linter.unusedVariables false
set_option linter.unusedSimpArgs false
open Go.Proofs.YtojlcoebbgafhaaW.PrintWords
set_option maxHeartbeats 800000 in
theorem leIn_calls (long : Nat) (p n : Int) (w : World) (hl : (long : Int) ≤ 9223372036854775807) :
    Calls Try.prog 41 #[.int .i64 long, .int .i64 p, .int .i64 n] w fun e w' => e = .returned (.bool (inR long p n)) ∧ w = w' := by
  by_cases h0 : 0 ≤ p
  · have d0 : decide (0 ≤ p) = true := decide_eq_true h0
    by_cases h1 : 0 ≤ n
    · have d1 : decide (0 ≤ n) = true := decide_eq_true h1
      by_cases h2 : p ≤ long
      · have d2 : decide (p ≤ (long : Int)) = true := decide_eq_true h2
        have e : inR long p n = decide (n ≤ (long : Int) - p) := by
          unfold inR; rw [Bool.eq_iff_iff]; simp only [decide_eq_true_eq]; omega
        rw [e]
        go_enter Try.func41, Try.ntmps41
        go_wp2
        go_ret
        exact ⟨rfl, rfl⟩
      · have d2 : decide (p ≤ (long : Int)) = false := decide_eq_false h2
        rw [show inR long p n = false from decide_eq_false (by omega)]
        go_enter Try.func41, Try.ntmps41
        go_wp2
        go_ret
        exact ⟨rfl, rfl⟩
    · have d1 : decide (0 ≤ n) = false := decide_eq_false h1
      rw [show inR long p n = false from decide_eq_false (by omega)]
      go_enter Try.func41, Try.ntmps41
      go_wp2
      go_ret
      exact ⟨rfl, rfl⟩
  · have d0 : decide (0 ≤ p) = false := decide_eq_false h0
    rw [show inR long p n = false from decide_eq_false (by omega)]
    go_enter Try.func41, Try.ntmps41
    go_wp2
    go_ret
    exact ⟨rfl, rfl⟩

theorem any_take_succ (p : Int → Bool) (xs : List Int) (k : Nat) (hk : k < xs.length) : (xs.take (k + 1)).any p = ((xs.take k).any p || p (xs.getD k 0)) := by
  rw [List.take_add_one, List.any_append]
  simp [List.getD_eq_getElem?_getD, List.getElem?_eq_getElem hk]
theorem any_of_at (p : Int → Bool) (xs : List Int) (k : Nat) (hk : k < xs.length) (h : p (xs.getD k 0) = true) : xs.any p = true := by
  rw [List.any_eq_true]
  refine ⟨xs[k], List.getElem_mem hk, ?_⟩
  simpa [List.getD_eq_getElem?_getD, List.getElem?_eq_getElem hk] using h
set_option maxHeartbeats 800000 in
theorem not0_calls (x : Int) (w : World) : Calls Try.prog 65 #[.int .u8 x] w fun e w' => e = .returned (.bool (x != 0)) ∧ w' = w := by
  go_enter Try.func65, Try.ntmps65
  go_wp2
  go_ret
  exact ⟨rfl, rfl⟩
def IdxPost (w : World) (t : Bool) (e : Ending) (w' : World) : Prop := ∃ i : Int, e = .returned (.int .i64 i) ∧ decide (0 ≤ i) = t ∧ w' = w
set_option maxHeartbeats 800000 in
theorem Index_not0 (A : Option Addr) (n c : Nat) (xs : List Int) (w : World) (hr : ReadsInt w .u8 A n xs) :
    Calls Try.prog 71 #[.slice A n c, .func (.func 65) #[] #[]] w (IdxPost w (xs.any (fun x => x != 0))) := by
  have hl := hr.1
  have hn := hr.2.1
  have HR := Aside0.mk hr
  have HL := Aside0.mk hl
  clear hr hl
  go_enter Try.func71, Try.ntmps71
  go_wp2
  go_loop [5, 8] (fun _ i => ∃ k : Nat, k ≤ n ∧ i = .int .i64 k ∧ (xs.take k).any (fun x => x != 0) = false) (fun _ i => n - (intOf i).toNat)
  case atStart => exact ⟨0, Nat.zero_le _, rfl, rfl⟩
  case round =>
  obtain ⟨k, hk, rfl, HT0⟩ := hrel
  have HT := Aside0.mk HT0
  clear HT0
  by_cases hlt : k < n
  · obtain ⟨ad, rfl, hcell⟩ := HR.out.2.2 (by omega)
    have hc := hcell k hlt
    clear hcell
    have eg : ∀ args w, (callFunc 65 args).run Try.prog w = .ok (.enter 65 args) w := fun _ _ => rfl
    have HS := Aside0.mk (any_take_succ (fun x => x != 0) xs k (by rw [HL.out]; exact hlt))
    have HH := Aside0.mk (any_of_at (fun x => x != 0) xs k (by rw [HL.out]; exact hlt))
    generalize xs.getD k 0 = x at hc HS HH
    cases hq : (x != 0) with
    | true =>
      have hcall := fun w => not0_calls x w
      rw [hq] at hcall
      go_wp2_with fail
      refine (hcall _).mono ?_
      rintro e w' ⟨rfl, rfl⟩
      go_wp2
      go_ret
      exact ⟨k, rfl, by rw [HH.out hq]; simp, rfl⟩
    | false =>
      have hcall := fun w => not0_calls x w
      rw [hq] at hcall
      go_wp2_with fail
      refine (hcall _).mono ?_
      rintro e w' ⟨rfl, rfl⟩
      go_wp2
      go_round
      case rel => exact ⟨k + 1, by omega, by go_num, by rw [HS.out, HT.out, hq]; rfl⟩
      case measure => simp [intOf]; omega
  obtain rfl : k = n := by omega
  go_wp2
  go_ret
  have h9 := HT.out
  rw [List.take_of_length_le (Nat.le_of_eq HL.out)] at h9
  exact ⟨-1, rfl, by rw [h9]; rfl, rfl⟩
set_option maxHeartbeats 800000 in
theorem Contains_not0 (A : Option Addr) (n c : Nat) (xs : List Int) (w : World) (hr : ReadsInt w .u8 A n xs) :
    Calls Try.prog 64 #[.slice A n c, .func (.func 65) #[] #[]] w fun e w' => e = .returned (.bool (xs.any (fun x => x != 0))) ∧ w' = w := by
  have hcall := Index_not0 A n c xs w hr
  clear hr
  generalize xs.any (fun x => x != 0) = t at *
  go_enter Try.func64, Try.ntmps64
  go_wp2_with fail
  refine hcall.mono ?_
  rintro e w1 ⟨i, rfl, ht, rfl⟩
  go_wp2
  go_ret
  exact ⟨rfl, rfl⟩
set_option maxHeartbeats 800000 in
theorem Zero_calls (A : Option Addr) (n c : Nat) (xs : List Int) (w : World) (hr : ReadsInt w .u8 A n xs) :
    Calls Try.prog 54 #[.slice A n c] w fun e w' => e = .returned (.bool (!xs.any (fun x => x != 0))) ∧ w' = w := by
  have hcall := Contains_not0 A n c xs w hr
  clear hr
  generalize xs.any (fun x => x != 0) = t at *
  go_enter Try.func54, Try.ntmps54
  go_wp2_with fail
  refine hcall.mono ?_
  rintro e w1 ⟨rfl, rfl⟩
  go_wp2
  go_ret
  exact ⟨rfl, rfl⟩
end Go.Proofs.Ytojlcoebbgafhaa
