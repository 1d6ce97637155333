/- (*vmem.Mem): the pages that an access touches: touched, all. -/
import Derived.Test.YtdagfddhdnfbkaaVmemUn
namespace Go.Proofs.Ytdagfddhdnfbkaa
open Go.RowKit
set_option linter.unusedVariables false
set_option linter.unusedSimpArgs false
open Go.Proofs.YtdagfddhdnfbkaaW.PrintWords
attribute [local go_sem] b_max2 b_min2 b_max b_min
/-- the place i bytes behind p -/
def aT (p : Int) (i : Nat) : Int := (p + i) % 18446744073709551616
/-- how many bytes the first k pages have that an access touches -/
def cT (p : Int) (n k : Nat) : Nat := if k = 0 then 0 else min n (4096 * k - (p % 4096).toNat)
def numT (p : Int) (n : Nat) : Nat := if n = 0 then 0 else ((p % 4096).toNat + n + 4095) / 4096
def touchL (p : Int) (n : Nat) : Nat → List Int
  | 0 => []
  | k + 1 => touchL p n k ++ [aT p (cT p n k)]
theorem touchL_len (p : Int) (n k : Nat) : (touchL p n k).length = k := by induction k with | zero => rfl | succ k ih => simp [touchL, ih]
theorem touchL_get (p : Int) (n N k : Nat) (hk : k < N) : (touchL p n N).getD k 0 = aT p (cT p n k) := by
  induction N with
  | zero => omega
  | succ N ih =>
    simp only [touchL]
    by_cases h : k < N
    · rw [← ih h]
      simp [List.getD_eq_getElem?_getD, List.getElem?_append, touchL_len, h]
    · obtain rfl : k = N := by omega
      simp [List.getD_eq_getElem?_getD, List.getElem?_append, touchL_len]
theorem touchL_mem (p : Int) (n N : Nat) (q : Int) : q ∈ touchL p n N ↔ ∃ k : Nat, k < N ∧ q = aT p (cT p n k) := by
  induction N with
  | zero => simp [touchL]
  | succ N ih =>
    simp only [touchL, List.mem_append, ih, List.mem_singleton]
    constructor
    · rintro (⟨k, hk, rfl⟩ | rfl)
      · exact ⟨k, by omega, rfl⟩
      · exact ⟨N, by omega, rfl⟩
    · rintro ⟨k, hk, rfl⟩
      by_cases h : k < N
      · exact .inl ⟨k, h, rfl⟩
      · exact .inr (by rw [show k = N by omega])
theorem aT_range (p : Int) (i : Nat) : 0 ≤ aT p i ∧ aT p i < 18446744073709551616 := by unfold aT; omega
theorem cT_zero (p : Int) (n : Nat) : cT p n 0 = 0 := rfl
theorem cT_succ (p : Int) (n k : Nat) : cT p n (k + 1) = min n (4096 * (k + 1) - (p % 4096).toNat) := by simp [cT]
theorem numT_zero (p : Int) : numT p 0 = 0 := rfl
theorem numT_pos (p : Int) (n : Nat) (h : 0 < n) : numT p n = ((p % 4096).toNat + n + 4095) / 4096 := if_neg (by omega)
theorem cT_le (p : Int) (n k : Nat) : cT p n k ≤ n := by
  cases k with
  | zero => rw [cT_zero]; omega
  | succ k => rw [cT_succ]; omega
theorem numT_le (p : Int) (n : Nat) : numT p n ≤ n := by
  rcases Nat.eq_zero_or_pos n with rfl | h
  · exact Nat.le_refl _
  · rw [numT_pos p n h]; omega
theorem numT_n (p : Int) (n k : Nat) (h : k < numT p n) : 0 < n := by
  rcases Nat.eq_zero_or_pos n with rfl | h'
  · rw [numT_zero] at h; omega
  · exact h'
theorem cT_lt (p : Int) (n k : Nat) (h : k < numT p n) : cT p n k < n := by
  have hn := numT_n p n k h
  rw [numT_pos p n hn] at h
  cases k with
  | zero => rw [cT_zero]; omega
  | succ k => rw [cT_succ]; omega
theorem cT_end (p : Int) (n : Nat) : cT p n (numT p n) = n := by
  rcases Nat.eq_zero_or_pos n with rfl | h
  · rfl
  · rw [numT_pos p n h]
    obtain ⟨k, hk⟩ : ∃ k, ((p % 4096).toNat + n + 4095) / 4096 = k + 1 := ⟨((p % 4096).toNat + n + 4095) / 4096 - 1, by omega⟩
    rw [hk, cT_succ]; omega
theorem cT_step (p : Int) (n k : Nat) (h : k < numT p n) : (cT p n (k + 1) : Int) = cT p n k + min ((n : Int) - cT p n k) (4096 - aT p (cT p n k) % 4096) := by
  have hn := numT_n p n k h
  rw [numT_pos p n hn] at h
  rw [cT_succ]
  unfold aT
  cases k with
  | zero => rw [cT_zero]; omega
  | succ k => rw [cT_succ]; omega
/-- the page of each byte between is the page of the first one of it -/
theorem touch_base (p : Int) (n k i : Nat) (h : k < numT p n) (h1 : cT p n k ≤ i) (h2 : i < cT p n (k + 1)) : baseV (aT p i) = baseV (aT p (cT p n k)) ∧ aT p i = aT p (cT p n k) + (i - cT p n k : Nat) := by
  have hn := numT_n p n k h
  rw [numT_pos p n hn] at h
  rw [cT_succ] at h2
  unfold baseV aT
  cases k with
  | zero => rw [cT_zero] at h1 ⊢; constructor <;> omega
  | succ k => rw [cT_succ] at h1 ⊢; constructor <;> omega
theorem touch_of (p : Int) (n i : Nat) (h : i < n) : ∃ k, k < numT p n ∧ cT p n k ≤ i ∧ i < cT p n (k + 1) := by
  refine ⟨((p % 4096).toNat + i) / 4096, ?_, ?_, ?_⟩
  · rw [numT_pos p n (by omega)]; omega
  · cases hk : ((p % 4096).toNat + i) / 4096 with
    | zero => rw [cT_zero]; omega
    | succ k => rw [cT_succ]; omega
  · rw [cT_succ]; omega
theorem aT_next (p : Int) (n k : Nat) : IntKind.u64.wrap (aT p (cT p n k) + (cT p n (k + 1) - cT p n k : Int)) = aT p (cT p n (k + 1)) := by
  rw [IntKind.wrap_u64]; unfold aT; omega
theorem left_page (a : Int) (h0 : 0 ≤ a) (h1 : a < 18446744073709551616) : IntKind.u64.wrap (IntKind.u64.wrap (baseV a + 4096) - a) = 4096 - a % 4096 := by
  rw [IntKind.wrap_u64, IntKind.wrap_u64]; unfold baseV; omega
set_option maxHeartbeats 800000 in
theorem touched_calls (p : Int) (n : Nat) (w : World) (h0 : 0 ≤ p) (h1 : p < 18446744073709551616) (hn : n ≤ 65536) :
    Calls Try.prog 51 #[.int .u64 p, .int .i64 n] w (OwnRow w (touchL p n (numT p n))) := by
  have hp : aT p (cT p n 0) = p := by unfold aT cT; simp; omega
  have HP := Aside0.mk hp
  clear hp
  have hN := numT_le p n
  go_enter Try.func51, Try.ntmps51
  go_wp2
  go_loopw [0, 1, 5] (fun av nv b wr => ∃ k : Nat, k ≤ numT p n ∧ av = .int .u64 (aT p (cT p n k)) ∧ nv = .int .i64 ((n : Int) - cT p n k) ∧ wr.ownsRow w.heap.size 25 1 b (touchL p n k).length (nums .u64 (touchL p n k)) ∧ Below w.heap.size w wr) (fun _ nv _ _ => (intOf nv).toNat)
  case atStart => exact ⟨0, Nat.zero_le _, by rw [HP.out], by simp [cT], own_nil _ _ _ _, Below.refl _ _⟩
  case round =>
  obtain ⟨k, hk, rfl, rfl, HO0, HB0⟩ := hrel
  have HO := Aside0.mk HO0
  have HB := Aside0.mk HB0
  clear HO0 HB0 HP
  obtain ⟨a0, a1⟩ := aT_range p (cT p n k)
  by_cases hlt : k < numT p n
  · have hc := cT_lt p n k hlt
    have hs := Aside0.mk (cT_step p n k hlt)
    have hx := Aside0.mk (aT_next p n k)
    have hl9 := Aside0.mk (touchL_len p n k)
    have hl := left_page _ a0 a1
    have HT : Aside0 (touchL p n k ++ [aT p (cT p n k)] = touchL p n (k + 1)) := ⟨rfl⟩
    obtain ⟨c, hcc⟩ : ∃ c : Nat, cT p n k = c := ⟨_, rfl⟩
    obtain ⟨c', hcc'⟩ : ∃ c : Nat, cT p n (k + 1) = c := ⟨_, rfl⟩
    rw [hcc] at hc hs hx a0 a1 HT hl ⊢
    rw [hcc'] at hs hx
    have HC' := Aside0.mk hcc'
    clear hcc hcc'
    generalize aT p c = a at *
    have hb := fun w => base_calls a w a0 a1
    have hmod : 0 ≤ a % 4096 ∧ a % 4096 < 4096 := by omega
    obtain ⟨z, hz⟩ : ∃ z : Int, 4096 - a % 4096 = z := ⟨_, rfl⟩
    rw [hz] at hl hs
    have hz0 : 1 ≤ z ∧ z ≤ 4096 := by omega
    obtain ⟨m, hm⟩ : ∃ m : Int, (n : Int) - c = m := ⟨_, rfl⟩
    rw [hm] at hs ⊢
    obtain ⟨kk, hkk⟩ : ∃ kk : Int, (if z < m then z else m) = kk := ⟨_, rfl⟩
    clear hz
    go_wp2_with (first | (at_builtin; refine print_append_num (w0 := w) w.heap.size rfl (.tmp 9) (.tmp 11) 33 25 .u64 8 rfl Try.underlying33 info_u64 (by decide) _ (touchL p n k) _ rfl rfl HO.out HB.out HB.out.size (by rw [hl9.out]; omega) ?_; intro v1 w1 hown hb1 hg hat; have HO1 := Aside0.mk hown; have HB1 := Aside0.mk hb1; clear hown hb1 hg hat HO HB))
    refine (hb _).mono ?_
    rintro e w2 ⟨rfl, rfl⟩
    go_wp2
    have hk2 : kk = (c' : Int) - c := by have := hs.out; rw [← hkk]; split <;> omega
    have hk3 : 1 ≤ kk ∧ kk ≤ m := by have := hs.out; omega
    clear hkk
    go_roundw
    case rel => exact ⟨k + 1, by omega, by rw [HC'.out, ← hx.out, hk2], by rw [HC'.out]; exact congrArg (Value.int .i64) (by omega), by rw [← HT.out]; exact HO1.out, HB1.out⟩
    case measure => simp [intOf]; omega
  · obtain rfl : k = numT p n := by omega
    have e0 : (n : Int) - cT p n (numT p n) = 0 := by rw [cT_end]; omega
    rw [e0]
    clear e0
    go_wp2
    go_ret
    exact ⟨_, rfl, HO.out, HB.out⟩
def noP (M : AMem) (a : Int) : Bool := (M.pg (baseV a)).isNone
def allM (M : AMem) (p : Int) (n : Nat) : Bool := !((touchL p n (numT p n)).any (noP M))
theorem allM_iff (M : AMem) (p : Int) (n : Nat) : allM M p n = true ↔ ∀ i, i < n → (M.pg (baseV (aT p i))).isSome = true := by
  unfold allM
  rw [Bool.not_eq_true', List.any_eq_false]
  constructor
  · intro h i hi
    obtain ⟨k, h1, h2, h3⟩ := touch_of p n i hi
    have := h _ ((touchL_mem p n _ _).2 ⟨k, h1, rfl⟩)
    rw [(touch_base p n k i h1 h2 h3).1]
    unfold noP at this
    cases hg : M.pg (baseV (aT p (cT p n k))) with
    | none => rw [hg] at this; simp at this
    | some x => rfl
  · intro h q hq
    obtain ⟨k, hk, rfl⟩ := (touchL_mem p n _ _).1 hq
    have := h _ (cT_lt p n k hk)
    unfold noP
    cases hg : M.pg (baseV (aT p (cT p n k))) with
    | none => rw [hg] at this; simp at this
    | some x => simp
set_option maxHeartbeats 800000 in
theorem all1_calls (bm g : Nat) (F : Nat → Prop) (M : AMem) (a : Int) (w : World) (hM : Has w F bm M) (h0 : 0 ≤ a) (h1 : a < 18446744073709551616) (hg : w.cell? ⟨g, 0, none⟩ = some (.pointer (some ⟨bm, 0, none⟩))) :
    Calls Try.prog 52 #[.int .u64 a, .pointer (some ⟨g, 0, none⟩)] w fun e w' => e = .returned (.bool (noP M a)) ∧ ∃ m', w' = w.drewN m' := by
  obtain ⟨bp, l, ct, k1, k2, k3, -⟩ := hM
  have e : noP M a = (l.lookup (baseV a)).isNone := by unfold noP; rw [k3]; cases l.lookup (baseV a) <;> rfl
  rw [e]
  have hb := fun n => quiet_left (n := n) (base_calls a (w.drewN n) h0 h1)
  have hn := fun n => quiet_left (n := n) (none_calls 0 bm bp M.most l ct (baseV a) (w.drewN n) (k1.drewN n))
  clear k1 k2 k3 e
  generalize (l.lookup (baseV a)).isNone = t at hn ⊢
  go_enter Try.func52, Try.ntmps52
  go_wp2
  go_quiet ((first | (go_at_call 48; exact hb _) | (go_at_call 50; exact hn _)))
  go_wp2
  go_ret
  exact ⟨rfl, _, rfl⟩
set_option maxHeartbeats 800000 in
theorem all_calls (F : Nat → Prop) (bm : Nat) (M : AMem) (p : Int) (n : Nat) (w : World) (hM : Has w F bm M) (h0 : 0 ≤ p) (h1 : p < 18446744073709551616) (hn : n ≤ 65536) :
    Calls Try.prog 45 #[.pointer (some ⟨bm, 0, none⟩), .int .u64 p, .int .i64 n] w fun e w' => e = .returned (.bool (allM M p n)) ∧ Below w.heap.size w w' := by
  have ht := fun w => touched_calls p n w h0 h1 hn
  have HC : Aside0 (∀ (g : Nat) (A : Option Addr) (c : Nat) (w1 : World), Below w.heap.size w w1 → w1.cell? ⟨g, 0, none⟩ = some (.pointer (some ⟨bm, 0, none⟩)) → ReadsInt w1 .u64 A (numT p n) (touchL p n (numT p n)) →
      Calls Try.prog 35 #[.slice A (numT p n) c, .func (.func 52) #[] #[.pointer (some ⟨g, 0, none⟩)]] w1 fun e w' => e = .returned (.bool ((touchL p n (numT p n)).any (noP M))) ∧ ∃ m, w' = w1.drewN m) :=
    ⟨fun g A c w1 hb hg hr => Contains_all A _ c (touchL p n (numT p n)) _ (noP M) w1 hr fun k m hk => by
      rw [touchL_get p n _ k hk]
      obtain ⟨r0, r1⟩ := aT_range p (cT p n k)
      exact (all1_calls bm g F M _ (w1.drewN m) (hM.keep (bdrew hb m)) r0 r1 hg).mono fun e w' ⟨a, m', b⟩ => ⟨a, m + m', by rw [b, World.drewN_drewN]⟩⟩
  clear hM
  unfold allM
  generalize (touchL p n (numT p n)).any (noP M) = t at HC ⊢
  go_enter Try.func45, Try.ntmps45
  go_wp2_with fail
  refine (ht _).mono ?_
  rintro e w1 ⟨v1, rfl, HO, HB⟩
  have HB' := Aside0.mk ((Below.alloc (Below.refl _ w) (Nat.le_refl _) _).trans (HB.mono (by simp)))
  have hg := (bcell HB).1 w.heap.size 0 (by simp)
  simp [go_sem] at hg
  rw [touchL_len] at HO
  obtain ⟨A, c, rfl, HR⟩ := own_reads HO
  have hcont := HC.out _ A c w1 HB'.out hg HR
  clear HO HB HR HC ht hg
  go_wp2_with fail
  refine hcont.mono ?_
  rintro e w2 ⟨rfl, m, rfl⟩
  clear hcont
  go_wp2
  go_ret
  exact ⟨rfl, bdrew HB'.out m⟩
end Go.Proofs.Ytdagfddhdnfbkaa
