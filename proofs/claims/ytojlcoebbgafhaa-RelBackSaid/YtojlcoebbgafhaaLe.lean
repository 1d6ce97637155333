/- The contracts of package le. -/
import Derived.Test.YtojlcoebbgafhaaBase
import Derived.Test.YtojlcoebbgafhaaWWords
import Derived.Test.YtojlcoebbgafhaaPure0
import Derived.Test.YtojlcoebbgafhaaShelf
import Derived.WalkKit
import Derived.WalkSpells
import Derived.Below
import Derived.RegionTactic
import Derived.BigQuiet
import Derived.Deep.QuietTactic
import Derived.Deep.DeepCutAuto
import Derived.Lib.Hide
namespace Go.Proofs.Ytojlcoebbgafhaa
open Go.RowKit
set_option linter.unusedVariables false
set_option linter.unusedSimpArgs false
open Go.Proofs.YtojlcoebbgafhaaW.PrintWords
attribute [local go_sem] b_max2 b_min2 b_max b_min
theorem info_u8 : (Try.prog.info? 5).map (fun i => (i.zero, i.size, i.bytes)) = some (some (.int .u8 0), 1, 1) := by kernel_rfl
set_option maxHeartbeats 800000 in
theorem number_in (A : Option Addr) (c : Nat) (xs : List Int) (p n : Int) (w : World) (hr : ReadsInt w .u8 A xs.length xs) (hc : xs.length ≤ c) (hb : Bytes xs)
    (h0 : 0 ≤ p) (h1 : p ≤ xs.length) (h2 : n ≤ xs.length - p) (hn0 : 0 ≤ n) (hn8 : n ≤ 8) :
    Calls Try.prog 60 #[.slice A xs.length c, .int .i64 p, .int .i64 n] w fun e w' => e = .returned (.tuple #[.int .u64 (leV (seg xs p n)), .bool true]) ∧ w = w' := by
  obtain ⟨i0, hi0, _, hsz, _⟩ := info_parts info_u8
  obtain ⟨A1, hcut, hA1, hc1⟩ := print_mid_int (P := Try.prog) (k := .u8) 29 5 Try.underlying29 hi0 hsz A c xs p (p + n) h0 (by omega) (by omega) hc
  have hr1 := hA1 w hr
  have hm : (xs.length : Int) ≤ 9223372036854775807 := by have := hr.2.1; omega
  have hl8 : (seg xs p n).length ≤ 8 := by rw [seg_len xs p n h0 hn0 h2]; omega
  have hys : Bytes (seg xs p n) := (hb.take _).drop _
  have d1 : decide (p < 0) = false := decide_eq_false (by omega)
  have d2 : decide ((xs.length : Int) < p) = false := decide_eq_false (by omega)
  have d3 : decide ((xs.length : Int) - p < n) = false := decide_eq_false (by omega)
  have HR := Aside0.mk hr1
  rw [show (xs.take (p + n).toNat).drop p.toNat = seg xs p n from rfl] at hcut HR hc1
  clear hA1 hr1 hr hi0 hsz
  generalize seg xs p n = ys at *
  go_enter Try.func60, Try.ntmps60
  go_wp2
  go_loop [8, 34] (fun v i => ∃ k : Nat, k ≤ ys.length ∧ i = .int .i64 k ∧ v = .int .u64 (leV (ys.take k))) (fun _ i => ys.length - (intOf i).toNat)
  case atStart => exact ⟨0, Nat.zero_le _, rfl, rfl⟩
  case round =>
  obtain ⟨k, hk, rfl, rfl⟩ := hrel
  by_cases hlt : k < ys.length
  · obtain ⟨ad, rfl, hcell⟩ := HR.out.at_ k (by omega) (by omega)
    have hx := hys.get k
    have hcell' : w.cell? (ad.add k) = some (.int .u8 (ys.getD k 0)) := hcell
    clear hcell
    have hx0 := hx.1
    have hx1 := hx.2
    have hst := Aside0.mk (le_step' ys hys k hlt (by omega))
    clear hx HR hcut
    go_wp2
    go_round
    case rel => exact ⟨k + 1, by omega, by go_num, by rw [← hst.out]⟩
    case measure => simp [intOf]; omega
  obtain rfl : k = ys.length := by omega
  go_wp2
  go_ret2
  exact ⟨rfl, rfl⟩
set_option maxHeartbeats 800000 in
theorem number_out (A : Option Addr) (c : Nat) (l : Nat) (p n : Int) (w : World) (hl : l ≤ 9223372036854775807) (h : ¬ (0 ≤ p ∧ p ≤ l ∧ n ≤ l - p)) :
    Calls Try.prog 60 #[.slice A l c, .int .i64 p, .int .i64 n] w fun e w' => e = .returned (.tuple #[.int .u64 0, .bool false]) ∧ w = w' := by
  by_cases h0 : p < 0
  · go_enter Try.func60, Try.ntmps60
    go_wp2
    go_ret2
    exact ⟨rfl, rfl⟩
  · by_cases h1 : (l : Int) < p
    · have d1 : decide (p < 0) = false := decide_eq_false h0
      clear h
      go_enter Try.func60, Try.ntmps60
      go_wp2
      go_ret2
      exact ⟨rfl, rfl⟩
    · have d1 : decide (p < 0) = false := decide_eq_false h0
      have d2 : decide ((l : Int) < p) = false := decide_eq_false h1
      have d3 : (l : Int) - p < n := by omega
      have d4 : 0 ≤ p := by omega
      have d5 : p ≤ l := by omega
      clear h h0 h1
      go_enter Try.func60, Try.ntmps60
      go_wp2
      go_ret2
      exact ⟨rfl, rfl⟩
theorem number_calls (A : Option Addr) (c : Nat) (xs : List Int) (p n : Int) (w : World) (hr : ReadsInt w .u8 A xs.length xs) (hc : xs.length ≤ c) (hb : Bytes xs) (hn0 : 0 ≤ n) (hn8 : n ≤ 8) :
    Calls Try.prog 60 #[.slice A xs.length c, .int .i64 p, .int .i64 n] w fun e w' => e = .returned (.tuple #[.int .u64 (numV xs p n), .bool (inB xs.length p n)]) ∧ w = w' := by
  by_cases h : 0 ≤ p ∧ p ≤ (xs.length : Int) ∧ n ≤ xs.length - p
  · have e1 : inB xs.length p n = true := decide_eq_true h
    unfold numV
    rw [e1, if_pos rfl]
    exact number_in A c xs p n w hr hc hb h.1 h.2.1 h.2.2 hn0 hn8
  · have e1 : inB xs.length p n = false := decide_eq_false h
    unfold numV
    rw [e1, if_neg (by decide)]
    exact number_out A c xs.length p n w (by have := hr.2.1; omega) h
theorem numV_lt (xs : List Int) (p n : Int) (hb : Bytes xs) (hn0 : 0 ≤ n) (N : Nat) (hn : n = N) : 0 ≤ numV xs p n ∧ numV xs p n < 256 ^ N := by
  unfold numV
  have hp : (0 : Int) < 256 ^ N := Int.pow_pos (by decide)
  split
  · rename_i h
    have h := of_decide_eq_true h
    have hl := leV_lt (xs := seg xs p n) ((hb.take _).drop _)
    rw [seg_len xs p n h.1 hn0 h.2.2] at hl
    rw [show n.toNat = N by omega] at hl
    exact hl
  · omega
set_option maxHeartbeats 800000 in
theorem U16_calls (A : Option Addr) (c : Nat) (xs : List Int) (p : Int) (w : World) (hr : ReadsInt w .u8 A xs.length xs) (hc : xs.length ≤ c) (hb : Bytes xs) :
    Calls Try.prog 55 #[.slice A xs.length c, .int .i64 p] w fun e w' => e = .returned (.tuple #[.int .i64 (numV xs p 2), .bool (inB xs.length p 2)]) ∧ w = w' := by
  have hv := numV_lt xs p 2 hb (by decide) 2 rfl
  have hv0 : 0 ≤ numV xs p 2 := hv.1
  have hv1 : numV xs p 2 < 65536 := by have := hv.2; simpa using this
  have HR := Aside0.mk hr
  have HY := Aside0.mk hb
  clear hv hr hb
  go_enter Try.func55, Try.ntmps55
  go_wp2_with fail
  refine (number_calls A c xs p 2 _ HR.out hc HY.out (by decide) (by decide)).mono ?_
  rintro e w1 ⟨rfl, rfl⟩
  go_wp2
  go_ret2
  exact ⟨rfl, rfl⟩

set_option maxHeartbeats 800000 in
theorem U32_calls (A : Option Addr) (c : Nat) (xs : List Int) (p : Int) (w : World) (hr : ReadsInt w .u8 A xs.length xs) (hc : xs.length ≤ c) (hb : Bytes xs) :
    Calls Try.prog 49 #[.slice A xs.length c, .int .i64 p] w fun e w' => e = .returned (.tuple #[.int .i64 (numV xs p 4), .bool (inB xs.length p 4)]) ∧ w = w' := by
  have hv := numV_lt xs p 4 hb (by decide) 4 rfl
  have hv0 : 0 ≤ numV xs p 4 := hv.1
  have hv1 : numV xs p 4 < 4294967296 := by have := hv.2; simpa using this
  have HR := Aside0.mk hr
  have HY := Aside0.mk hb
  clear hv hr hb
  go_enter Try.func49, Try.ntmps49
  go_wp2_with fail
  refine (number_calls A c xs p 4 _ HR.out hc HY.out (by decide) (by decide)).mono ?_
  rintro e w1 ⟨rfl, rfl⟩
  go_wp2
  go_ret2
  exact ⟨rfl, rfl⟩

set_option maxHeartbeats 800000 in
theorem U64_calls (A : Option Addr) (c : Nat) (xs : List Int) (p : Int) (w : World) (hr : ReadsInt w .u8 A xs.length xs) (hc : xs.length ≤ c) (hb : Bytes xs) :
    Calls Try.prog 51 #[.slice A xs.length c, .int .i64 p] w fun e w' => e = .returned (.tuple #[.int .u64 (numV xs p 8), .bool (inB xs.length p 8)]) ∧ w = w' := by
  have HR := Aside0.mk hr
  have HY := Aside0.mk hb
  clear hr hb
  go_enter Try.func51, Try.ntmps51
  go_wp2_with fail
  refine (number_calls A c xs p 8 _ HR.out hc HY.out (by decide) (by decide)).mono ?_
  rintro e w1 ⟨rfl, rfl⟩
  go_wp2
  go_ret2
  exact ⟨rfl, rfl⟩
theorem str_of_read {w : World} {A : Option Addr} {n c : Nat} {xs : List Int} (h : ReadsInt w .u8 A n xs) : (convert 29 9 (.slice A n c)).run Try.prog w = .ok (.string (strOfNums xs)) w :=
  string_of_reads Try.underlying29 Try.underlying5 Try.underlying9 h
theorem IndexByte_calls (A : Option Addr) (c n : Nat) (xs : List Int) (w : World) (hr : ReadsInt w .u8 A n xs) (hn : 0 < n) (hb : Bytes xs) :
    Calls Try.prog 66 #[.slice A n c, .int .u8 0] w fun e w' => e = .returned (.int .i64 (nil0 xs)) ∧ w = w' := by
  obtain ⟨ad, rfl, hc⟩ := hr.2.2 hn
  refine (Try.bytes_IndexByte_at ad n c xs 0 w hr.1 hc).mono ?_
  rintro e w' ⟨rfl, rfl⟩
  exact ⟨by rw [← nil0_lib xs hb]; rfl, rfl⟩
set_option maxHeartbeats 800000 in
theorem Text_calls (A : Option Addr) (c : Nat) (xs : List Int) (p most : Int) (w : World) (hr : ReadsInt w .u8 A xs.length xs) (hc : xs.length ≤ c) (hb : Bytes xs) :
    Calls Try.prog 56 #[.slice A xs.length c, .int .i64 p, .int .i64 most] w fun e w' => e = .returned (.tuple #[.string (textV xs p most), .bool (textB xs p most)]) ∧ w = w' := by
  have hm : (xs.length : Int) ≤ 9223372036854775807 := by have := hr.2.1; omega
  by_cases h0 : p < 0
  · have e1 : textB xs p most = false := decide_eq_false (by omega)
    have e2 : textV xs p most = ⟨#[]⟩ := by unfold textV; rw [e1, if_neg (by decide)]
    rw [e1, e2]
    have d1 : decide (p < 0) = true := decide_eq_true h0
    clear e1 e2 h0 hr
    go_enter Try.func56, Try.ntmps56
    go_wp2
    go_ret2
    exact ⟨rfl, rfl⟩
  by_cases h1 : (xs.length : Int) ≤ p
  · have e1 : textB xs p most = false := decide_eq_false (by omega)
    have e2 : textV xs p most = ⟨#[]⟩ := by unfold textV; rw [e1, if_neg (by decide)]
    rw [e1, e2]
    have d1 : decide (p < 0) = false := decide_eq_false h0
    have d2 : decide ((xs.length : Int) ≤ p) = true := decide_eq_true h1
    clear e1 e2 h0 hr
    go_enter Try.func56, Try.ntmps56
    go_wp2
    go_ret2
    exact ⟨rfl, rfl⟩
  obtain ⟨i0, hi0, _, hsz, _⟩ := info_parts info_u8
  obtain ⟨A1, hcut, hA1, hc1⟩ := print_cut_int (P := Try.prog) (k := .u8) 29 5 Try.underlying29 hi0 hsz A c xs p (by omega) (by omega) hc
  have ht := textN_range xs p (by omega) (by omega)
  have d1 : decide (p < 0) = false := decide_eq_false h0
  have d2 : decide ((xs.length : Int) ≤ p) = false := decide_eq_false h1
  have p0 : 0 ≤ p := by omega
  have p1 : p < xs.length := by omega
  have HI : Hid (∀ w', w = w' → Calls Try.prog 66 #[.slice A1 (xs.drop p.toNat).length (c - p.toNat), .int .u8 0] w' fun e w'' => e = .returned (.int .i64 (textN xs p)) ∧ w' = w'') := Lib.hid fun w' h => by
    subst h
    exact IndexByte_calls A1 _ _ _ w (hA1 w hr) (by rw [List.length_drop]; omega) (hb.drop p.toNat)
  clear h0 h1 hA1 hc1
  generalize (xs.drop p.toNat).length = n1 at *
  generalize c - p.toNat = c1 at *
  by_cases h3 : 0 ≤ textN xs p ∧ textN xs p ≤ max most 0
  · have e1 : textB xs p most = true := decide_eq_true ⟨p0, p1, h3⟩
    have e2 : textV xs p most = strOfNums (seg xs p (textN xs p)) := by unfold textV; rw [e1, if_pos rfl]
    obtain ⟨A2, hcut2, hA2, hc2⟩ := print_mid_int (P := Try.prog) (k := .u8) 29 5 Try.underlying29 hi0 hsz A c xs p (p + textN xs p) p0 (by omega) (by omega) hc
    have HS : ∀ cc, (convert 29 9 (.slice A2 ((xs.take (p + textN xs p).toNat).drop p.toNat).length cc)).run Try.prog w = .ok (.string (strOfNums (seg xs p (textN xs p)))) w := fun cc => str_of_read (hA2 w hr)
    rw [e1, e2]
    clear e1 e2 hA2 hc2 hr hb hi0 hsz
    generalize ((xs.take (p + textN xs p).toNat).drop p.toNat).length = n2 at *
    generalize strOfNums (seg xs p (textN xs p)) = res at *
    generalize textN xs p = t at *
    obtain ⟨t0, t1⟩ := h3
    have b1 : p + t ≤ 9223372036854775807 := by omega
    have d3 : decide (t < 0) = false := decide_eq_false (by omega)
    have d4 : decide ((if most < 0 then 0 else most) < t) = false := decide_eq_false (by split <;> omega)
    clear ht t1
    go_enter Try.func56, Try.ntmps56
    go_wp2_with fail
    refine (HI.out _ rfl).mono ?_
    rintro e w1 ⟨rfl, rfl⟩
    go_wp2
    all_goals (go_ret2; exact ⟨rfl, rfl⟩)
  · have e1 : textB xs p most = false := decide_eq_false (by omega)
    have e2 : textV xs p most = ⟨#[]⟩ := by unfold textV; rw [e1, if_neg (by decide)]
    rw [e1, e2]
    clear e1 e2 hr hb hi0 hsz
    generalize textN xs p = t at *
    by_cases t0 : t < 0
    · have d3 : decide (t < 0) = true := decide_eq_true t0
      clear h3 ht
      go_enter Try.func56, Try.ntmps56
      go_wp2_with fail
      refine (HI.out _ rfl).mono ?_
      rintro e w1 ⟨rfl, rfl⟩
      go_wp2
      all_goals (go_ret2; exact ⟨rfl, rfl⟩)
    · have d3 : decide (t < 0) = false := decide_eq_false t0
      have d4 : decide ((if most < 0 then 0 else most) < t) = true := decide_eq_true (by split <;> omega)
      clear h3 ht
      go_enter Try.func56, Try.ntmps56
      go_wp2_with fail
      refine (HI.out _ rfl).mono ?_
      rintro e w1 ⟨rfl, rfl⟩
      go_wp2
      all_goals (go_ret2; exact ⟨rfl, rfl⟩)
/-- a slice of bytes of the call's own -/
def OwnBytes (w : World) (xs : List Int) (e : Ending) (w' : World) : Prop := ∃ v1, e = .returned v1 ∧ w'.ownsRow w.heap.size 5 1 v1 xs.length (nums .u8 xs) ∧ Below w.heap.size w w'
set_option maxHeartbeats 800000 in
theorem Bytes_calls (v n : Int) (w : World) (hv0 : 0 ≤ v) (hv1 : v < 18446744073709551616) :
    Calls Try.prog 61 #[.int .u64 v, .int .i64 n] w (OwnBytes w (leB v (bytesN n))) := by
  obtain ⟨N, hN⟩ : ∃ N : Nat, N = bytesN n := ⟨_, rfl⟩
  have hN8 : N ≤ 8 := by rw [hN]; unfold bytesN; omega
  obtain ⟨m1, k1⟩ : ∃ m1 : Int, (if n < 0 then 0 else n) = m1 := ⟨_, rfl⟩
  have k2 : (if 8 < m1 then 8 else m1) = (N : Int) := by rw [hN, ← k1]; unfold bytesN; split <;> split <;> omega
  rw [← hN]
  clear hN
  go_enter Try.func61, Try.ntmps61
  go_wp2
  go_loopw [5, 10] (fun b i wr => ∃ k : Nat, k ≤ N ∧ i = .int .i64 k ∧ wr.ownsRow w.heap.size 5 1 b (leB v k).length (nums .u8 (leB v k)) ∧ Below w.heap.size w wr) (fun _ i _ => N - (intOf i).toNat)
  case atStart => exact ⟨0, Nat.zero_le _, rfl, own_nil _ _ _ _, Below.refl _ _⟩
  case round =>
  obtain ⟨k, hk, rfl, HO0, HB0⟩ := hrel
  have HO := Aside0.mk HO0
  have HB := Aside0.mk HB0
  clear HO0 HB0 k1 k2
  by_cases hlt : k < N
  · have hl9 := Aside0.mk (leB_len v k)
    go_wp2_with (at_builtin; refine print_append_num (w0 := w) w.heap.size rfl (.tmp 13) (.tmp 20) 29 5 .u8 1 rfl Try.underlying29 info_u8 (by decide) _ (leB v k) _ rfl rfl HO.out HB.out HB.out.size (by rw [hl9.out]; omega) ?_; intro v1 w1 hown hb hg hat; have HO1 := Aside0.mk hown; have HB1 := Aside0.mk hb; clear hown hb hg hat HO HB)
    go_roundw
    case rel => exact ⟨k + 1, by omega, by go_num, HO1.out, HB1.out⟩
    case measure => simp [intOf]; omega
  obtain rfl : k = N := by omega
  go_wp2
  go_ret
  exact ⟨_, rfl, HO.out, HB.out⟩
theorem Bytes8_calls (v n : Int) (w : World) (hv0 : 0 ≤ v) (hv1 : v < 18446744073709551616) (h0 : 0 ≤ n) (h8 : n ≤ 8) :
    Calls Try.prog 61 #[.int .u64 v, .int .i64 n] w (OwnBytes w (leB v n.toNat)) := by
  have e : n.toNat = bytesN n := by unfold bytesN; omega
  rw [e]
  exact Bytes_calls v n w hv0 hv1
end Go.Proofs.Ytojlcoebbgafhaa
