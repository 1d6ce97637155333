/- slices.ContainsFunc over addresses, by each of the three closures. -/
import Derived.Test.YtdagfddhdnfbkaaVmem
namespace Go.Proofs.Ytdagfddhdnfbkaa
open Go.RowKit
set_option linter.unusedVariables false
set_option linter.unusedSimpArgs false
open Go.Proofs.YtdagfddhdnfbkaaW.PrintWords
def IdxPost (w : World) (n : Nat) (t : Bool) (e : Ending) (w' : World) : Prop := ∃ i : Int, e = .returned (.int .i64 i) ∧ decide (0 ≤ i) = t ∧ ∃ m, w' = w.drewN m
theorem any_take_succ (p : Int → Bool) (xs : List Int) (k : Nat) (hk : k < xs.length) : (xs.take (k + 1)).any p = ((xs.take k).any p || p (xs.getD k 0)) := by
  rw [List.take_add_one, List.any_append]
  simp [List.getD_eq_getElem?_getD, List.getElem?_eq_getElem hk]
theorem any_of_at (p : Int → Bool) (xs : List Int) (k : Nat) (hk : k < xs.length) (h : p (xs.getD k 0) = true) : xs.any p = true := by
  rw [List.any_eq_true]
  refine ⟨xs[k], List.getElem_mem hk, ?_⟩
  simpa [List.getD_eq_getElem?_getD, List.getElem?_eq_getElem hk] using h
set_option maxHeartbeats 800000 in
theorem Index_is (A : Option Addr) (n c : Nat) (xs : List Int) (a : Value) (p : Int → Bool) (w : World) (hr : ReadsInt w .u64 A n xs)
    (hp : ∀ k m, k < n → Calls Try.prog 37 (#[a, .int .u64 (xs.getD k 0)]) (w.drewN m) fun e w' => e = .returned (.bool (p (xs.getD k 0))) ∧ ∃ m', w' = w.drewN m') :
    Calls Try.prog 49 #[.slice A n c, .func (.func 37) #[a] #[]] w (IdxPost w n (xs.any p)) := by
  have hl := hr.1
  have hn := hr.2.1
  have HR := Aside0.mk hr
  have HP := Aside0.mk hp
  have HL := Aside0.mk hl
  clear hr hp hl
  go_enter Try.func49, Try.ntmps49
  go_wp2
  go_loopw [5, 8] (fun _ i wr => ∃ k : Nat, k ≤ n ∧ i = .int .i64 k ∧ (xs.take k).any p = false ∧ ∃ m, wr = w.drewN m) (fun _ i _ => n - (intOf i).toNat)
  case atStart => exact ⟨0, Nat.zero_le _, rfl, rfl, 0, rfl⟩
  case round =>
  obtain ⟨k, hk, rfl, HT0, m, rfl⟩ := hrel
  have HT := Aside0.mk HT0
  clear HT0
  by_cases hlt : k < n
  · obtain ⟨ad, rfl, hcell⟩ := HR.out.2.2 (by omega)
    have hc := hcell k hlt
    clear hcell
    have hcall := HP.out k m hlt
    have eg : ∀ args w, (callFunc 37 args).run Try.prog w = .ok (.enter 37 args) w := fun _ _ => rfl
    have HS := Aside0.mk (any_take_succ p xs k (by rw [HL.out]; exact hlt))
    have HH := Aside0.mk (any_of_at p xs k (by rw [HL.out]; exact hlt))
    generalize xs.getD k 0 = x at hc hcall HS HH
    clear HP
    cases hq : p x with
    | true =>
      rw [hq] at hcall
      go_wp2_with fail
      refine hcall.mono ?_
      rintro e w' ⟨rfl, m', rfl⟩
      go_wp2
      go_ret
      exact ⟨k, rfl, by rw [HH.out hq]; simp, m', rfl⟩
    | false =>
      rw [hq] at hcall
      go_wp2_with fail
      refine hcall.mono ?_
      rintro e w' ⟨rfl, m', rfl⟩
      go_wp2
      go_roundw
      case rel => exact ⟨k + 1, by omega, by go_num, by rw [HS.out, HT.out, hq]; rfl, m', rfl⟩
      case measure => simp [intOf]; omega
  obtain rfl : k = n := by omega
  go_wp2
  go_ret
  have h9 := HT.out
  rw [List.take_of_length_le (Nat.le_of_eq HL.out)] at h9
  exact ⟨-1, rfl, by rw [h9]; rfl, m, rfl⟩
set_option maxHeartbeats 800000 in
theorem Contains_is (A : Option Addr) (n c : Nat) (xs : List Int) (a : Value) (p : Int → Bool) (w : World) (hr : ReadsInt w .u64 A n xs)
    (hp : ∀ k m, k < n → Calls Try.prog 37 (#[a, .int .u64 (xs.getD k 0)]) (w.drewN m) fun e w' => e = .returned (.bool (p (xs.getD k 0))) ∧ ∃ m', w' = w.drewN m') :
    Calls Try.prog 35 #[.slice A n c, .func (.func 37) #[a] #[]] w fun e w' => e = .returned (.bool (xs.any p)) ∧ ∃ m, w' = w.drewN m := by
  have hcall := Index_is A n c xs a p w hr hp
  clear hr hp
  generalize xs.any p = t at *
  go_enter Try.func35, Try.ntmps35
  go_wp2_with fail
  refine hcall.mono ?_
  rintro e w1 ⟨i, rfl, ht, m, rfl⟩
  go_wp2
  go_ret
  exact ⟨rfl, m, rfl⟩
set_option maxHeartbeats 800000 in
theorem Index_none (A : Option Addr) (n c : Nat) (xs : List Int) (a : Value) (p : Int → Bool) (w : World) (hr : ReadsInt w .u64 A n xs)
    (hp : ∀ k m, k < n → Calls Try.prog 50 (#[a, .int .u64 (xs.getD k 0)]) (w.drewN m) fun e w' => e = .returned (.bool (p (xs.getD k 0))) ∧ ∃ m', w' = w.drewN m') :
    Calls Try.prog 49 #[.slice A n c, .func (.func 50) #[a] #[]] w (IdxPost w n (xs.any p)) := by
  have hl := hr.1
  have hn := hr.2.1
  have HR := Aside0.mk hr
  have HP := Aside0.mk hp
  have HL := Aside0.mk hl
  clear hr hp hl
  go_enter Try.func49, Try.ntmps49
  go_wp2
  go_loopw [5, 8] (fun _ i wr => ∃ k : Nat, k ≤ n ∧ i = .int .i64 k ∧ (xs.take k).any p = false ∧ ∃ m, wr = w.drewN m) (fun _ i _ => n - (intOf i).toNat)
  case atStart => exact ⟨0, Nat.zero_le _, rfl, rfl, 0, rfl⟩
  case round =>
  obtain ⟨k, hk, rfl, HT0, m, rfl⟩ := hrel
  have HT := Aside0.mk HT0
  clear HT0
  by_cases hlt : k < n
  · obtain ⟨ad, rfl, hcell⟩ := HR.out.2.2 (by omega)
    have hc := hcell k hlt
    clear hcell
    have hcall := HP.out k m hlt
    have eg : ∀ args w, (callFunc 50 args).run Try.prog w = .ok (.enter 50 args) w := fun _ _ => rfl
    have HS := Aside0.mk (any_take_succ p xs k (by rw [HL.out]; exact hlt))
    have HH := Aside0.mk (any_of_at p xs k (by rw [HL.out]; exact hlt))
    generalize xs.getD k 0 = x at hc hcall HS HH
    clear HP
    cases hq : p x with
    | true =>
      rw [hq] at hcall
      go_wp2_with fail
      refine hcall.mono ?_
      rintro e w' ⟨rfl, m', rfl⟩
      go_wp2
      go_ret
      exact ⟨k, rfl, by rw [HH.out hq]; simp, m', rfl⟩
    | false =>
      rw [hq] at hcall
      go_wp2_with fail
      refine hcall.mono ?_
      rintro e w' ⟨rfl, m', rfl⟩
      go_wp2
      go_roundw
      case rel => exact ⟨k + 1, by omega, by go_num, by rw [HS.out, HT.out, hq]; rfl, m', rfl⟩
      case measure => simp [intOf]; omega
  obtain rfl : k = n := by omega
  go_wp2
  go_ret
  have h9 := HT.out
  rw [List.take_of_length_le (Nat.le_of_eq HL.out)] at h9
  exact ⟨-1, rfl, by rw [h9]; rfl, m, rfl⟩
set_option maxHeartbeats 800000 in
theorem Contains_none (A : Option Addr) (n c : Nat) (xs : List Int) (a : Value) (p : Int → Bool) (w : World) (hr : ReadsInt w .u64 A n xs)
    (hp : ∀ k m, k < n → Calls Try.prog 50 (#[a, .int .u64 (xs.getD k 0)]) (w.drewN m) fun e w' => e = .returned (.bool (p (xs.getD k 0))) ∧ ∃ m', w' = w.drewN m') :
    Calls Try.prog 35 #[.slice A n c, .func (.func 50) #[a] #[]] w fun e w' => e = .returned (.bool (xs.any p)) ∧ ∃ m, w' = w.drewN m := by
  have hcall := Index_none A n c xs a p w hr hp
  clear hr hp
  generalize xs.any p = t at *
  go_enter Try.func35, Try.ntmps35
  go_wp2_with fail
  refine hcall.mono ?_
  rintro e w1 ⟨i, rfl, ht, m, rfl⟩
  go_wp2
  go_ret
  exact ⟨rfl, m, rfl⟩
set_option maxHeartbeats 800000 in
theorem Index_all (A : Option Addr) (n c : Nat) (xs : List Int) (a : Value) (p : Int → Bool) (w : World) (hr : ReadsInt w .u64 A n xs)
    (hp : ∀ k m, k < n → Calls Try.prog 52 (#[.int .u64 (xs.getD k 0), a]) (w.drewN m) fun e w' => e = .returned (.bool (p (xs.getD k 0))) ∧ ∃ m', w' = w.drewN m') :
    Calls Try.prog 49 #[.slice A n c, .func (.func 52) #[] #[a]] w (IdxPost w n (xs.any p)) := by
  have hl := hr.1
  have hn := hr.2.1
  have HR := Aside0.mk hr
  have HP := Aside0.mk hp
  have HL := Aside0.mk hl
  clear hr hp hl
  go_enter Try.func49, Try.ntmps49
  go_wp2
  go_loopw [5, 8] (fun _ i wr => ∃ k : Nat, k ≤ n ∧ i = .int .i64 k ∧ (xs.take k).any p = false ∧ ∃ m, wr = w.drewN m) (fun _ i _ => n - (intOf i).toNat)
  case atStart => exact ⟨0, Nat.zero_le _, rfl, rfl, 0, rfl⟩
  case round =>
  obtain ⟨k, hk, rfl, HT0, m, rfl⟩ := hrel
  have HT := Aside0.mk HT0
  clear HT0
  by_cases hlt : k < n
  · obtain ⟨ad, rfl, hcell⟩ := HR.out.2.2 (by omega)
    have hc := hcell k hlt
    clear hcell
    have hcall := HP.out k m hlt
    have eg : ∀ args w, (callFunc 52 args).run Try.prog w = .ok (.enter 52 args) w := fun _ _ => rfl
    have HS := Aside0.mk (any_take_succ p xs k (by rw [HL.out]; exact hlt))
    have HH := Aside0.mk (any_of_at p xs k (by rw [HL.out]; exact hlt))
    generalize xs.getD k 0 = x at hc hcall HS HH
    clear HP
    cases hq : p x with
    | true =>
      rw [hq] at hcall
      go_wp2_with fail
      refine hcall.mono ?_
      rintro e w' ⟨rfl, m', rfl⟩
      go_wp2
      go_ret
      exact ⟨k, rfl, by rw [HH.out hq]; simp, m', rfl⟩
    | false =>
      rw [hq] at hcall
      go_wp2_with fail
      refine hcall.mono ?_
      rintro e w' ⟨rfl, m', rfl⟩
      go_wp2
      go_roundw
      case rel => exact ⟨k + 1, by omega, by go_num, by rw [HS.out, HT.out, hq]; rfl, m', rfl⟩
      case measure => simp [intOf]; omega
  obtain rfl : k = n := by omega
  go_wp2
  go_ret
  have h9 := HT.out
  rw [List.take_of_length_le (Nat.le_of_eq HL.out)] at h9
  exact ⟨-1, rfl, by rw [h9]; rfl, m, rfl⟩
set_option maxHeartbeats 800000 in
theorem Contains_all (A : Option Addr) (n c : Nat) (xs : List Int) (a : Value) (p : Int → Bool) (w : World) (hr : ReadsInt w .u64 A n xs)
    (hp : ∀ k m, k < n → Calls Try.prog 52 (#[.int .u64 (xs.getD k 0), a]) (w.drewN m) fun e w' => e = .returned (.bool (p (xs.getD k 0))) ∧ ∃ m', w' = w.drewN m') :
    Calls Try.prog 35 #[.slice A n c, .func (.func 52) #[] #[a]] w fun e w' => e = .returned (.bool (xs.any p)) ∧ ∃ m, w' = w.drewN m := by
  have hcall := Index_all A n c xs a p w hr hp
  clear hr hp
  generalize xs.any p = t at *
  go_enter Try.func35, Try.ntmps35
  go_wp2_with fail
  refine hcall.mono ?_
  rintro e w1 ⟨i, rfl, ht, m, rfl⟩
  go_wp2
  go_ret
  exact ⟨rfl, m, rfl⟩
end Go.Proofs.Ytdagfddhdnfbkaa
