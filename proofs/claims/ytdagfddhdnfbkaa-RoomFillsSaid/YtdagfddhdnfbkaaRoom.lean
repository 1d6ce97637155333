/- room.Is and room.Find: their walks. -/
import Derived.Test.YtdagfddhdnfbkaaVmemAbs
namespace Go.Proofs.Ytdagfddhdnfbkaa
open Go.RowKit
set_option linter.unusedVariables false
set_option linter.unusedSimpArgs false
open Go.Proofs.YtdagfddhdnfbkaaW.PrintWords
def isOk (p n : Int) : Bool := decide (p % 65536 = 0 ∧ 65536 ≤ p ∧ 1 ≤ n ∧ n ≤ 1024 ∧ p ≤ 140737488355328 ∧ n * 4096 ≤ 140737488355328 - p)
theorem isOk_row {p n : Int} (h : isOk p n = true) : ∃ N : Nat, n = N ∧ 1 ≤ N ∧ N ≤ 1024 ∧ p + N * 4096 ≤ 140737488355328 ∧ p % 65536 = 0 ∧ 65536 ≤ p := by
  unfold isOk at h
  rw [decide_eq_true_eq] at h
  obtain ⟨h1, h2, h3, h4, h5, h6⟩ := h
  obtain ⟨N, rfl⟩ := Int.eq_ofNat_of_zero_le (show 0 ≤ n by omega)
  exact ⟨N, rfl, by omega, by omega, by omega, h1, h2⟩
set_option maxHeartbeats 800000 in
theorem Is_bad (m : Value) (p n : Int) (w : World) (hp0 : 0 ≤ p) (hp1 : p < 18446744073709551616) (h : isOk p n = false) :
    Calls Try.prog 15 #[m, .int .u64 p, .int .i64 n] w fun e w' => e = .returned (.bool false) ∧ w = w' := by
  unfold isOk at h
  rw [decide_eq_false_iff_not] at h
  have H := Aside0.mk h
  clear h
  go_enter Try.func15, Try.ntmps15
  go_wp2
  all_goals first
    | (exfalso; have h := H.out; omega)
    | (go_ret; exact ⟨rfl, rfl⟩)
def isB (M : AMem) (p n : Int) : Bool := isOk p n && !anyP M p n.toNat
theorem any_rowL_succ (f : Int → Bool) (p : Int) (k : Nat) : (rowL p (k + 1)).any f = ((rowL p k).any f || f (p + k * 4096)) := by
  simp [rowL, List.any_append]
set_option maxHeartbeats 800000 in
theorem Is_calls (F : Nat → Prop) (bm : Nat) (M : AMem) (p n : Int) (w : World) (hM : Has w F bm M) (hp0 : 0 ≤ p) (hp1 : p < 18446744073709551616) :
    Calls Try.prog 15 #[.pointer (some ⟨bm, 0, none⟩), .int .u64 p, .int .i64 n] w fun e w' => e = .returned (.bool (isB M p n)) ∧ ∃ m, w' = w.drewN m := by
  unfold isB
  cases hok : isOk p n with
  | false => exact (Is_bad _ p n w hp0 hp1 hok).mono fun e w' ⟨a, b⟩ => ⟨a, 0, b.symm⟩
  | true =>
  obtain ⟨N, rfl, n1, n2, n3, n4, n5⟩ := isOk_row hok
  clear hok
  rw [Int.toNat_natCast, Bool.true_and]
  have HP : Aside0 (∀ (k : Nat) m, k < N → Calls Try.prog 33 #[.pointer (some ⟨bm, 0, none⟩), .int .u64 (p + k * 4096)] (w.drewN m) fun e w' => ∃ x : Int, e = .returned (.tuple #[.int .i64 x, .bool (M.pg (p + k * 4096)).isSome]) ∧ ∃ m', w' = w.drewN m') := ⟨fun k m hk =>
    (ProtH_calls F bm M (p + k * 4096) (w.drewN m) (hM.keep (bdrew (Below.refl _ _) m)) (by omega) (by omega)).mono (by
      rintro e w' ⟨rfl, m', rfl⟩
      refine ⟨(protM M (p + k * 4096)).getD 0, ?_, _, World.drewN_drewN ..⟩
      have e1 : baseV (p + k * 4096) = p + k * 4096 := by unfold baseV; omega
      unfold protM
      rw [e1, Option.isSome_map])⟩
  clear hM
  go_enter Try.func15, Try.ntmps15
  go_wp2
  clear n4
  go_loopw [38] (fun i wr => ∃ k : Nat, k ≤ N ∧ i = .int .i64 k ∧ Aside0 (anyP M p k = false) ∧ ∃ m, wr = w.drewN m) (fun i _ => N - (intOf i).toNat)
  case atStart => exact ⟨0, Nat.zero_le _, rfl, ⟨rfl⟩, 0, rfl⟩
  case round =>
  obtain ⟨k, hk, rfl, HA, m, rfl⟩ := hrel
  by_cases hlt : k < N
  · have hcall := HP.out k m hlt
    clear HP
    have HS := Aside0.mk (any_rowL_succ (fun q => (M.pg q).isSome) p k)
    cases hq : (M.pg (p + k * 4096)).isSome with
    | true =>
      rw [hq] at hcall
      have HQ := Aside0.mk hq
      clear hq
      go_wp2_with fail
      refine hcall.mono ?_
      rintro e w' ⟨x, rfl, m', rfl⟩
      clear hcall
      go_wp2
      go_ret
      refine ⟨?_, m', rfl⟩
      have : anyP M p N = true := by
        unfold anyP
        rw [List.any_eq_true]
        exact ⟨_, (rowL_mem _ _ _).2 ⟨k, hlt, rfl⟩, HQ.out⟩
      rw [this]
      rfl
    | false =>
      rw [hq] at hcall
      have HQ := Aside0.mk hq
      clear hq
      go_wp2_with fail
      refine hcall.mono ?_
      rintro e w' ⟨x, rfl, m', rfl⟩
      clear hcall
      go_wp2
      go_roundw
      case rel => exact ⟨k + 1, by omega, by go_num, ⟨by have h1 := HS.out; have h2 := HA.out; have h3 := HQ.out; unfold anyP at *; rw [h1, h2, h3]; rfl⟩, m', rfl⟩
      case measure => simp [intOf]; omega
  obtain rfl : k = N := by omega
  go_wp2
  go_ret
  exact ⟨by rw [HA.out]; rfl, m, rfl⟩
def okF (M : AMem) (p n : Int) : Bool := isB M p n && decide (n * 4096 ≤ 16777216 - p)
def FindIs (M : AMem) (n : Int) (a : Int) (ok : Bool) : Prop :=
  (ok = true ∧ ∃ j : Nat, j < 255 ∧ a = 65536 + j * 65536 ∧ okF M a n = true ∧ ∀ i : Nat, i < j → okF M (65536 + i * 65536) n = false) ∨
  (ok = false ∧ a = 0 ∧ ∀ i : Nat, i < 255 → okF M (65536 + i * 65536) n = false)
set_option maxHeartbeats 800000 in
theorem Find_calls (F : Nat → Prop) (bm : Nat) (M : AMem) (n : Int) (w : World) (hM : Has w F bm M) :
    Calls Try.prog 14 #[.pointer (some ⟨bm, 0, none⟩), .int .i64 n] w fun e w' => ∃ a ok, e = .returned (.tuple #[.int .u64 a, .bool ok]) ∧ FindIs M n a ok ∧ ∃ m, w' = w.drewN m := by
  have HI : Aside0 (∀ (j : Nat) m, j < 255 → Calls Try.prog 15 #[.pointer (some ⟨bm, 0, none⟩), .int .u64 (65536 + j * 65536), .int .i64 n] (w.drewN m) fun e w' => e = .returned (.bool (isB M (65536 + j * 65536) n)) ∧ ∃ m', w' = w.drewN m') := ⟨fun j m hj =>
    (Is_calls F bm M (65536 + j * 65536) n (w.drewN m) (hM.keep (bdrew (Below.refl _ _) m)) (by omega) (by omega)).mono (by
      rintro e w' ⟨rfl, m', rfl⟩
      exact ⟨rfl, _, World.drewN_drewN ..⟩)⟩
  clear hM
  go_enter Try.func14, Try.ntmps14
  go_wp2
  go_loopw [6] (fun i wr => ∃ j : Nat, j ≤ 255 ∧ i = .int .u64 (65536 + j * 65536) ∧ Aside0 (∀ i : Nat, i < j → okF M (65536 + i * 65536) n = false) ∧ ∃ m, wr = w.drewN m) (fun i _ => 16777216 - (intOf i).toNat)
  case atStart => exact ⟨0, by omega, rfl, ⟨fun i hi => absurd hi (by omega)⟩, 0, rfl⟩
  case round =>
  obtain ⟨j, hj, rfl, HA, m, rfl⟩ := hrel
  obtain ⟨p, hp⟩ : ∃ p : Int, p = 65536 + (j : Int) * 65536 := ⟨_, rfl⟩
  by_cases hlt : j < 255
  · have hcall := HI.out j m hlt
    clear HI
    rw [← hp] at hcall
    rw [← hp]
    have hp0 : 65536 ≤ p := by omega
    have hp1 : p < 16777216 := by omega
    have HPE := Aside0.mk hp
    clear hp hj
    have HN : Aside0 (okF M p n = false → ∀ i : Nat, i < j + 1 → okF M (65536 + i * 65536) n = false) := ⟨fun hok i hi => by
      by_cases h : i < j
      · exact HA.out i h
      · rw [show i = j by omega, ← HPE.out]; exact hok⟩
    cases hq : isB M p n with
    | true =>
      rw [hq] at hcall
      have hn : 1 ≤ n ∧ n ≤ 1024 := by
        have h1 : isOk p n = true := by unfold isB at hq; rw [Bool.and_eq_true] at hq; exact hq.1
        obtain ⟨N, rfl, h2, h3, -⟩ := isOk_row h1
        omega
      obtain ⟨hn1, hn2⟩ := hn
      have HQ := Aside0.mk hq
      clear hq
      by_cases hb : n * 4096 ≤ 16777216 - p
      · have hok : Aside0 (okF M p n = true) := ⟨by unfold okF; rw [HQ.out, decide_eq_true hb]; rfl⟩
        have d0 : decide (n * 4096 ≤ 16777216 - p) = true := decide_eq_true hb
        go_wp2_with fail
        refine hcall.mono ?_
        rintro e w' ⟨rfl, m', rfl⟩
        clear hcall
        go_wp2
        go_ret2
        exact ⟨_, _, rfl, .inl ⟨rfl, j, hlt, HPE.out, hok.out, HA.out⟩, m', rfl⟩
      · have hok : Aside0 (okF M p n = false) := ⟨by unfold okF; rw [HQ.out, decide_eq_false hb]; rfl⟩
        have d0 : decide (n * 4096 ≤ 16777216 - p) = false := decide_eq_false hb
        go_wp2_with fail
        refine hcall.mono ?_
        rintro e w' ⟨rfl, m', rfl⟩
        clear hcall
        go_wp2
        go_roundw
        case rel => exact ⟨j + 1, by omega, by congr 1; have := HPE.out; omega, ⟨HN.out hok.out⟩, m', rfl⟩
        case measure => simp [intOf]; omega
    | false =>
      rw [hq] at hcall
      have hok : Aside0 (okF M p n = false) := ⟨by unfold okF; rw [hq]; rfl⟩
      clear hq
      go_wp2_with fail
      refine hcall.mono ?_
      rintro e w' ⟨rfl, m', rfl⟩
      clear hcall
      go_wp2
      go_roundw
      case rel => exact ⟨j + 1, by omega, by congr 1; have := HPE.out; omega, ⟨HN.out hok.out⟩, m', rfl⟩
      case measure => simp [intOf]; omega
  obtain rfl : j = 255 := by omega
  go_wp2
  go_ret2
  exact ⟨_, _, rfl, .inr ⟨rfl, rfl, HA.out⟩, m, rfl⟩
end Go.Proofs.Ytdagfddhdnfbkaa
