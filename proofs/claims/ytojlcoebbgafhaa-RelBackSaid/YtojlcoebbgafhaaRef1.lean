/- The contracts of the reference of layer 1: In, Num, Text, Bytes, Put. -/
import Derived.Test.YtojlcoebbgafhaaLeAll
import Derived.Deep.RegionWith
namespace Go.Proofs.Ytojlcoebbgafhaa
open Go.RowKit
set_option linter.unusedVariables false
set_option linter.unusedSimpArgs false
open Go.Proofs.YtojlcoebbgafhaaW.PrintWords
attribute [local go_sem] b_max2 b_min2 b_max b_min
def inR (long : Nat) (p n : Int) : Bool := decide (0 ≤ p ∧ 0 ≤ n ∧ p ≤ long ∧ n ≤ long - p)
set_option maxHeartbeats 800000 in
theorem In_calls (long : Nat) (p n : Int) (w : World) (hl : (long : Int) ≤ 9223372036854775807) :
    Calls Try.prog 45 #[.int .i64 long, .int .i64 p, .int .i64 n] w fun e w' => e = .returned (.bool (inR long p n)) ∧ w = w' := by
  by_cases h0 : 0 ≤ p
  · have d0 : decide (0 ≤ p) = true := decide_eq_true h0
    by_cases h1 : 0 ≤ n
    · have d1 : decide (0 ≤ n) = true := decide_eq_true h1
      by_cases h2 : p ≤ long
      · have d2 : decide (p ≤ (long : Int)) = true := decide_eq_true h2
        have e : inR long p n = decide (n ≤ (long : Int) - p) := by
          unfold inR; rw [Bool.eq_iff_iff]; simp only [decide_eq_true_eq]; omega
        rw [e]
        go_enter Try.func45, Try.ntmps45
        go_wp2
        go_ret
        exact ⟨rfl, rfl⟩
      · have d2 : decide (p ≤ (long : Int)) = false := decide_eq_false h2
        rw [show inR long p n = false from decide_eq_false (by omega)]
        go_enter Try.func45, Try.ntmps45
        go_wp2
        go_ret
        exact ⟨rfl, rfl⟩
    · have d1 : decide (0 ≤ n) = false := decide_eq_false h1
      rw [show inR long p n = false from decide_eq_false (by omega)]
      go_enter Try.func45, Try.ntmps45
      go_wp2
      go_ret
      exact ⟨rfl, rfl⟩
  · have d0 : decide (0 ≤ p) = false := decide_eq_false h0
    rw [show inR long p n = false from decide_eq_false (by omega)]
    go_enter Try.func45, Try.ntmps45
    go_wp2
    go_ret
    exact ⟨rfl, rfl⟩
theorem inR_inB (long : Nat) (p n : Int) (h : 0 ≤ n) : inR long p n = inB long p n := by
  unfold inR inB; rw [Bool.eq_iff_iff]; simp only [decide_eq_true_eq]; omega
set_option maxHeartbeats 1600000 in
theorem Num_calls (s : ByteArray) (xs : List Int) (hx : bytesOf s = xs) (p n : Int) (w : World) (hs : (s.size : Int) ≤ 9223372036854775807) (hn0 : 0 ≤ n) (hn8 : n ≤ 8) :
    Calls Try.prog 29 #[.string s, .int .i64 p, .int .i64 n] w fun e w' => e = .returned (.tuple #[.int .u64 (numV xs p n), .bool (inB xs.length p n)]) ∧ w = w' := by
  have hxl : xs.length = s.size := by rw [← hx, bytesOf_length]
  have hb : Bytes xs := by rw [← hx]; exact bytesOf_bytes s
  by_cases h : inB xs.length p n = true
  · have hh := of_decide_eq_true h
    rw [h]
    obtain ⟨P, rfl⟩ := Int.eq_ofNat_of_zero_le hh.1
    obtain ⟨N, rfl⟩ := Int.eq_ofNat_of_zero_le hn0
    rw [numV_in _ _ _ hh]
    have hR : inR s.size P N = true := by rw [inR_inB _ _ _ hn0, ← hxl]; exact h
    have hys : (seg xs P N).length = N := by rw [seg_len xs P N hh.1 hn0 hh.2.2]; omega
    have hyb : Bytes (seg xs P N) := (hb.take _).drop _
    have hget : ∀ k : Nat, ∀ hk : k < N, ∀ h' : P + k < s.size, ((s[P + k]'h').toNat : Int) = (seg xs P N).getD k 0 := by
      intro k hk h'
      have h1 := bt_at s ((P + k : Nat) : Int) (by rw [Int.toNat_natCast]; exact h')
      simp only [Int.toNat_natCast] at h1
      rw [h1, ← rd_bytesOf, hx]
      unfold rd
      rw [Int.toNat_natCast, seg_nat _ _ _ (by omega) (by omega)]
      simp [List.getD_eq_getElem?_getD, List.getElem?_take, List.getElem?_drop, hk]
    have hPN : P + N ≤ s.size := by have := hh.2.2; omega
    have hN8 : N ≤ 8 := by omega
    have HG := Lib.hid hget
    have hPs : (P : Int) + N ≤ 9223372036854775807 := by omega
    clear hget hh h hx hxl hb hn0
    generalize seg xs P N = ys at *
    go_enter Try.func29, Try.ntmps29
    go_wp2_with fail
    refine (In_calls _ _ _ _ hs).mono ?_
    rw [hR]
    rintro e w1 ⟨rfl, rfl⟩
    go_wp2
    go_loop [8, 9] (fun v i => ∃ k : Nat, k ≤ N ∧ i = .int .i64 k ∧ v = .int .u64 (leV (ys.take k))) (fun _ i => N - (intOf i).toNat)
    case atStart => exact ⟨0, Nat.zero_le _, rfl, rfl⟩
    case round =>
    obtain ⟨k, hk, rfl, rfl⟩ := hrel
    by_cases hlt : k < N
    · have hlen : k < ys.length := by omega
      have hst := Aside0.mk (le_step ys hyb k hlen (by omega))
      have hps : P + k < s.size := by omega
      have hgk := Lib.hid (HG.out k hlt hps)
      have hx := hyb.get k
      rw [← hgk.out] at hx
      have hx0 := hx.1
      have hx1 := hx.2
      have hkk : (P : Int) + k ≤ 9223372036854775806 := by omega
      have hps' : (P : Int) + k < s.size := by omega
      have hPk : ((P : Int) + k).toNat = P + k := by omega
      have hk7 : (k : Int) ≤ 7 := by omega
      clear hx
      go_wp2
      go_round
      case rel => exact ⟨k + 1, by omega, by go_num, by rw [← hst.out, ← hgk.out]⟩
      case measure => simp [intOf]; omega
    obtain rfl : k = N := by omega
    go_wp2
    go_ret2
    exact ⟨by rw [List.take_of_length_le (show ys.length ≤ k by omega)]; rfl, rfl⟩
  · have hf : inB xs.length p n = false := by simpa using h
    rw [hf, numV_out xs p n (of_decide_eq_false hf)]
    have hR : inR s.size p n = false := by rw [inR_inB _ _ _ hn0, ← hxl]; exact hf
    clear hx hf h
    go_enter Try.func29, Try.ntmps29
    go_wp2_with fail
    refine (In_calls _ _ _ _ hs).mono ?_
    rw [hR]
    rintro e w1 ⟨rfl, rfl⟩
    go_wp2
    go_ret2
    exact ⟨rfl, rfl⟩
theorem bytesOf_strOf (xs : List Int) (h : Bytes xs) : bytesOf (strOfNums xs) = xs := by
  unfold bytesOf strOfNums
  simp only [List.map_map]
  conv => rhs; rw [← List.map_id xs]
  apply List.map_congr_left
  intro x hx
  have := h x hx
  simp
  omega
theorem extract_seg (s : ByteArray) (a k : Nat) : s.extract a (a + k) = strOfNums (seg (bytesOf s) a k) := by
  have e : seg (bytesOf s) a k = bytesOf (s.extract a (a + k)) := by
    unfold bytesOf
    rw [seg_nat _ _ _ (by omega) (by omega), Int.toNat_natCast, Int.toNat_natCast, ← List.map_drop, ← List.map_take]
    congr 1
    simp [ByteArray.data_extract, List.drop_take]
  rw [e, strOf_bytesOf]
theorem strOf_append (a b : List Int) : strOfNums a ++ strOfNums b = strOfNums (a ++ b) := by
  apply ByteArray.ext
  simp [strOfNums]
theorem strOf_size (a : List Int) : (strOfNums a).size = a.length := strOfNums_size a
set_option maxHeartbeats 1600000 in
theorem rBytes_calls (v n : Int) (w : World) (hv0 : 0 ≤ v) (hv1 : v < 18446744073709551616) :
    Calls Try.prog 44 #[.int .u64 v, .int .i64 n] w fun e w' => e = .returned (.string (strOfNums (leB v (bytesN n)))) ∧ Below w.heap.size w w' := by
  obtain ⟨N, hN⟩ : ∃ N : Nat, N = bytesN n := ⟨_, rfl⟩
  have hN8 : N ≤ 8 := by rw [hN]; unfold bytesN; omega
  obtain ⟨m1, k1, k2⟩ : ∃ m1 : Int, (if 8 < n then 8 else n) = m1 ∧ ∀ k : Nat, ((k : Int) < m1 ↔ k < N) := ⟨_, rfl, fun k => by rw [hN]; unfold bytesN; split <;> omega⟩
  have HK := Lib.hid k2
  have kc : ∀ (W : World) (g : Nat) (hg : W.heap.size = g) (y : Int), (convert 29 9 (.slice (some ⟨g, 0, none⟩) 1 1)).run Try.prog (W.alloc (.cells #[.int .u8 y] 5)) = .ok (.string (strOfNums [y])) (W.alloc (.cells #[.int .u8 y] 5)) := fun W g hg y => str_of_read (reads_lit W g hg [y] (by simp) (0, 0))
  rw [← hN]
  clear hN k2
  go_enter Try.func44, Try.ntmps44
  go_wp2
  go_loopw [5, 6] (fun b i wr => ∃ k : Nat, k ≤ N ∧ i = .int .i64 k ∧ b = .string (strOfNums (leB v k)) ∧ Below w.heap.size w wr) (fun _ i _ => N - (intOf i).toNat)
  case atStart => exact ⟨0, Nat.zero_le _, rfl, rfl, Below.refl _ _⟩
  case round =>
  obtain ⟨k, hk, rfl, rfl, hb⟩ := hrel
  have HB := Aside0.mk hb
  clear hb
  by_cases hlt : k < N
  · have d1 : decide ((k : Int) < m1) = true := decide_eq_true ((HK.out k).2 hlt)
    have hsz : (strOfNums (leB v k)).size = k := by rw [strOf_size, leB_len]
    have hsz1 : ∀ y, (strOfNums [y]).size = 1 := fun y => strOf_size [y]
    have hov : ¬ 9223372036854775807 < k + 1 := by omega
    have HE := Lib.hid (strOf_append (leB v k) [v / 2 ^ (8 * k) % 256])
    go_wp2
    go_roundw
    case rel => exact ⟨k + 1, by omega, by go_num, by first | (rw [HE.out]; rfl) | (exact congrArg Value.string HE.out), HB.out.alloc HB.out.size _⟩
    case measure => simp [intOf]; omega
  · have d1 : decide ((k : Int) < m1) = false := decide_eq_false (fun h => hlt ((HK.out k).1 h))
    obtain rfl : k = N := by omega
    go_wp2
    go_ret
    exact ⟨rfl, HB.out⟩
theorem extract_take (s : ByteArray) (a : Nat) : s.extract 0 a = strOfNums ((bytesOf s).take a) := by
  have := extract_seg s 0 a
  rw [seg_nat _ _ _ (by omega) (by omega)] at this
  simpa using this
theorem extract_drop (s : ByteArray) (a : Nat) (h : a ≤ s.size) : s.extract a s.size = strOfNums ((bytesOf s).drop a) := by
  have := extract_seg s a (s.size - a)
  rw [show a + (s.size - a) = s.size by omega, seg_nat _ _ _ (by omega) (by omega), Int.toNat_natCast, Int.toNat_natCast, List.take_of_length_le (by rw [List.length_drop, bytesOf_length]; omega)] at this
  exact this
set_option maxHeartbeats 1600000 in
theorem rPut_calls (s : ByteArray) (xs : List Int) (hx : bytesOf s = xs) (p n v : Int) (w : World) (hs : (s.size : Int) ≤ 9223372036854775000) (hv0 : 0 ≤ v) (hv1 : v < 18446744073709551616) :
    Calls Try.prog 34 #[.string s, .int .i64 p, .int .i64 n, .int .u64 v] w fun e w' => e = .returned (.tuple #[.string (strOfNums (putV xs p n v)), .bool (putB xs.length p n)]) ∧ Below w.heap.size w w' := by
  have hxl : xs.length = s.size := by rw [← hx, bytesOf_length]
  have hss : strOfNums xs = s := by rw [← hx, strOf_bytesOf]
  have hout : putB xs.length p n = false → putV xs p n v = xs := fun h => by unfold putV; rw [if_neg (by rw [h]; decide)]
  by_cases h1 : n < 1
  · have e1 : putB xs.length p n = false := decide_eq_false (by omega)
    rw [hout e1, e1, hss]
    have d1 : decide (n < 1) = true := decide_eq_true h1
    clear hout e1 h1 hx hxl hss
    go_enter Try.func34, Try.ntmps34
    go_wp2
    go_ret2
    exact ⟨rfl, Below.refl _ _⟩
  have d1 : decide (n < 1) = false := decide_eq_false h1
  by_cases h2 : 8 < n
  · have e1 : putB xs.length p n = false := decide_eq_false (by omega)
    rw [hout e1, e1, hss]
    have d2 : decide (8 < n) = true := decide_eq_true h2
    clear hout e1 h1 h2 hx hxl hss
    go_enter Try.func34, Try.ntmps34
    go_wp2
    go_ret2
    exact ⟨rfl, Below.refl _ _⟩
  have d2 : decide (8 < n) = false := decide_eq_false h2
  have hs' : (s.size : Int) ≤ 9223372036854775807 := by omega
  by_cases h3 : inR s.size p n = true
  · have h3' := of_decide_eq_true h3
    have e1 : putB xs.length p n = true := decide_eq_true (by omega)
    obtain ⟨P, rfl⟩ := Int.eq_ofNat_of_zero_le h3'.1
    obtain ⟨N, rfl⟩ := Int.eq_ofNat_of_zero_le h3'.2.1
    have hPN : P + N ≤ s.size := by omega
    have hN8 : N ≤ 8 := by omega
    have hbn : bytesN (N : Int) = N := by unfold bytesN; omega
    have hres : s.extract 0 P ++ strOfNums (leB v N) ++ s.extract (P + N) s.size = strOfNums (putV xs P N v) := by
      unfold putV
      rw [if_pos e1, extract_take, extract_drop s _ hPN, strOf_append, strOf_append, hx]
      unfold putL
      simp only [Int.toNat_natCast]
    have HE := Lib.hid hres
    have hz1 : (strOfNums (leB v N)).size = N := by rw [strOf_size, leB_len]
    have hz2 : (s.extract 0 P).size = P := by rw [ByteArray.size_extract]; omega
    have hz3 : (s.extract (P + N) s.size).size = s.size - (P + N) := by rw [ByteArray.size_extract]; omega
    have hi1 : (P : Int) ≤ s.size := by omega
    have hi2 : (P : Int) + N ≤ s.size := by omega
    have hi3 : ((P : Int) + N).toNat = P + N := by omega
    have ho1 : ¬ 9223372036854775807 < P + N := by omega
    have ho2 : ¬ 9223372036854775807 < P + N + (s.size - (P + N)) := by omega
    rw [e1]
    clear h1 h2 h3' hx hxl hss hout hres e1
    go_enter Try.func34, Try.ntmps34
    go_wp2_with fail
    refine (In_calls _ _ _ _ hs').mono ?_
    rw [h3]
    rintro e w1 ⟨rfl, rfl⟩
    go_wp2
    have hw1 : IntKind.i64.wrap ((P : Int) + N) = (P : Int) + N := by rw [IntKind.wrap_i64]; omega
    go_region_with (first | (go_at_call 44; refine (rBytes_calls v _ _ hv0 hv1).mono ?_; rw [hbn]; rintro e w1 ⟨rfl, hb⟩))
    all_goals
      go_wp2
      go_ret2
      exact ⟨by rw [← HE.out]; rfl, ⟨hb.os, hb.tape, hb.output, hb.size, hb.block⟩⟩
  · have h3' : inR s.size p n = false := by simpa using h3
    have e1 : putB xs.length p n = false := decide_eq_false (by have := of_decide_eq_false h3'; omega)
    rw [hout e1, e1, hss]
    clear hout e1 h1 h2 h3 hx hxl hss
    go_enter Try.func34, Try.ntmps34
    go_wp2_with fail
    refine (In_calls _ _ _ _ hs').mono ?_
    rw [h3']
    rintro e w1 ⟨rfl, rfl⟩
    go_wp2
    go_ret2
    exact ⟨rfl, Below.refl _ _⟩
end Go.Proofs.Ytojlcoebbgafhaa
