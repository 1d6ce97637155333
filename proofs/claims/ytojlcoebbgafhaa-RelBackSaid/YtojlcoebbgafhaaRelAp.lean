/- What law 10's Apart makes, plain. -/
import Derived.Test.YtojlcoebbgafhaaRelB
import Derived.Test.YtojlcoebbgafhaaRF28
namespace Go.Proofs.Ytojlcoebbgafhaa
open Go.RowKit
set_option linter.unusedVariables false
set_option linter.unusedSimpArgs false
open PR
open Go.Proofs.YtojlcoebbgafhaaW.PrintWords Go.Proofs.YtojlcoebbgafhaaW.PrintLast Go.Proofs.YtojlcoebbgafhaaW.PrintMore
def sep2 (x s : S46) : Bool := decide (x.f1 + longK x.f0 ≤ s.f1 ∨ s.f1 + longK s.f0 ≤ x.f1)
structure ApOk (n : Int) (out : List S46) : Prop where
  row : ∀ s ∈ out, (s.f0 = 3 ∨ s.f0 = 10) ∧ 0 ≤ s.f1 ∧ s.f1 + longK s.f0 ≤ n
  far : out.Pairwise fun s t => sep2 t s = true
theorem ApOk.nil (n : Int) : ApOk n [] := ⟨fun s hs => (by cases hs), List.Pairwise.nil⟩
theorem ApOk.snoc {n : Int} {out : List S46} (h : ApOk n out) (x : S46) (hk : x.f0 = 3 ∨ x.f0 = 10) (h0 : 0 ≤ x.f1) (h1 : x.f1 + longK x.f0 ≤ n) (hs : out.all (sep2 x) = true) : ApOk n (out ++ [x]) := by
  refine ⟨fun s hs' => ?_, ?_⟩
  · rcases List.mem_append.1 hs' with h2 | h2
    · exact h.row s h2
    · obtain rfl := List.mem_singleton.1 h2; exact ⟨hk, h0, h1⟩
  · rw [List.pairwise_append]
    refine ⟨h.far, by simp, fun a ha b hb => ?_⟩
    obtain rfl := List.mem_singleton.1 hb
    exact List.all_eq_true.1 hs a ha
theorem longK_3 : longK 3 = 4 := rfl
theorem longK_10 : longK 10 = 8 := rfl
theorem rd46 (l : List S46) (i : Nat) (h : i < l.length) : rd_T46 l (i : Int) = l[i] := by
  unfold rd_T46
  rw [Int.toNat_natCast, List.getD_eq_getElem?_getD, List.getElem?_eq_getElem h]; rfl
theorem ap_l1 (x0 : List S46) (n : Int) (hn0 : 0 ≤ n) (hn : n ≤ 140737488355328) (i : Int) (out : List S46) (hout : ApOk n out) (hol : out.length ≤ 40) (x : S46) (hx : x.f0 = 3 ∨ x.f0 = 10) (h0 : 0 ≤ x.f1) (h1 : x.f1 < n ∨ x.f1 = 0) (r : List S46) :
    ∀ (d k : Nat) (b : Bool), k + d = out.length →
      Ev (fun q => slipwaylaw10_Apart.l0 q x0 n (if (b && (out.drop k).all (sep2 x)) = true then out ++ [x] else out) (wrap64 (i + 1))) r →
      Ev (fun q => slipwaylaw10_Apart.l1 q x0 n out i (longK x.f0) b (k : Int) x.f0 x.f1) r := by
  have hlx : longK x.f0 = 4 ∨ longK x.f0 = 8 := by rcases hx with h | h <;> rw [h] <;> decide
  intro d
  induction d with
  | zero =>
    intro k b hk h
    rw [List.drop_of_length_le (by omega)] at h
    simp only [List.all_nil, Bool.and_true] at h
    refine Ev.step (fun q => ?_) h
    simp only [slipwaylaw10_Apart.l1]
    rw [if_neg (by omega)]
    by_cases hb : b = true
    · rw [if_pos hb, if_pos hb, if_pos (by omega)]
    · rw [if_neg hb, if_neg hb]
  | succ d ih =>
    intro k b hk h
    have hlt : k < out.length := by omega
    have hw : wrap64 ((k : Int) + 1) = ((k + 1 : Nat) : Int) := by unfold wrap64; omega
    have hd : out.drop k = out[k] :: out.drop (k + 1) := List.drop_eq_getElem_cons hlt
    obtain ⟨s, hs⟩ : ∃ s, out[k] = s := ⟨_, rfl⟩
    have hrow := hout.row s (by rw [← hs]; exact List.getElem_mem hlt)
    have hls : longK s.f0 = 4 ∨ longK s.f0 = 8 := by rcases hrow.1 with h | h <;> rw [h] <;> decide
    rw [hd, List.all_cons, hs, ← Bool.and_assoc] at h
    have hrec := ih (k + 1) (b && sep2 x s) (by omega) h
    refine Ev.step (fun q => ?_) hrec
    have w1 : wrap64 (x.f1 + longK x.f0) = x.f1 + longK x.f0 := by unfold wrap64; omega
    have w2 : wrap64 (s.f1 + 8) = s.f1 + 8 := by unfold wrap64; omega
    have w3 : wrap64 (s.f1 + 4) = s.f1 + 4 := by unfold wrap64; omega
    simp only [slipwaylaw10_Apart.l1]
    rw [if_pos (by omega), if_pos (by omega), rd46 _ _ hlt, hs, w1, w2, w3, hw]
    have e10 : s.f0 = 10 → longK s.f0 = 8 := fun h => by rw [h]; rfl
    have e3 : ¬ s.f0 = 10 → longK s.f0 = 4 := fun h => by
      rcases hrow.1 with h' | h'
      · rw [h']; rfl
      · exact absurd h' h
    have hs1 : x.f1 + longK x.f0 ≤ s.f1 → sep2 x s = true := fun h => by unfold sep2; exact decide_eq_true (.inl h)
    have hs2 : ¬ x.f1 + longK x.f0 ≤ s.f1 → sep2 x s = decide (s.f1 + longK s.f0 ≤ x.f1) := fun h => by unfold sep2; rw [decide_eq_decide]; exact ⟨fun h' => h'.resolve_left h, .inr⟩
    by_cases h10 : s.f0 = 10
    · rw [if_pos h10]
      cases b with
      | false => rw [if_neg (by decide), Bool.false_and]
      | true =>
        rw [if_pos rfl, Bool.true_and]
        by_cases hc : x.f1 + longK x.f0 ≤ s.f1
        · rw [if_pos hc, hs1 hc]
        · rw [if_neg hc, hs2 hc, e10 h10]
    · rw [if_neg h10]
      cases b with
      | false => rw [if_neg (by decide), Bool.false_and]
      | true =>
        rw [if_pos rfl, Bool.true_and]
        by_cases hc : x.f1 + longK x.f0 ≤ s.f1
        · rw [if_pos hc, hs1 hc]
        · rw [if_neg hc, hs2 hc, e3 h10]
theorem low24 (x : Int) : 0 ≤ Go.bits .and .i64 x 16777215 := by
  have h := (and_i64 x 16777215 (by omega)).1
  simpa using h
theorem ap_l0 (x0 : List S46) (n : Int) (hn0 : 0 < n) (hn : n ≤ 140737488355328) : ∀ (d i : Nat) (out : List S46), i + d = min x0.length 40 → ApOk n out → out.length ≤ i →
    ∃ o, ApOk n o ∧ o.length ≤ 40 ∧ Ev (fun q => slipwaylaw10_Apart.l0 q x0 n out (i : Int)) o := by
  intro d
  induction d with
  | zero =>
    intro i out hi ho hl
    refine ⟨out, ho, by omega, Ev.step (f := fun q => slipwaylaw10_Apart.j1 q x0 n out (i : Int) false) (fun q => ?_) (Ev.step (fun q => ?_) (Ev.now out))⟩
    · simp only [slipwaylaw10_Apart.l0]
      by_cases h : (i : Int) < (x0.length : Int)
      · rw [if_pos h, decide_eq_false (by omega)]
      · rw [if_neg h]
    · simp only [slipwaylaw10_Apart.j1]; rw [if_neg (by decide)]
  | succ d ih =>
    intro i out hi ho hl
    have hlt : i < x0.length := by omega
    obtain ⟨s, hs⟩ : ∃ s, x0[i] = s := ⟨_, rfl⟩
    have hcq : ∃ c : Int, Go.bits .and .i64 s.f0 1 = c ∧ (c = 0 ∨ c = 1) := by
      have hb : 0 ≤ Go.bits .and .i64 s.f0 1 ∧ Go.bits .and .i64 s.f0 1 ≤ 1 := and_i64 s.f0 1 (by decide)
      exact ⟨_, rfl, by omega⟩
    have hpq : ∃ p : Int, (Go.bits .and .i64 s.f1 16777215).tmod n = p ∧ 0 ≤ p ∧ p < n := by
      have hm0 := low24 s.f1
      refine ⟨_, rfl, ?_⟩
      rw [Int.tmod_eq_emod_of_nonneg hm0]
      exact ⟨Int.emod_nonneg _ (by omega), Int.emod_lt_of_pos _ hn0⟩
    obtain ⟨c, hc0, hc1⟩ := hcq
    obtain ⟨p, hp, hp0, hp1⟩ := hpq
    have hK : ∃ K, (K = 3 ∨ K = 10) ∧ rd [3, 10] c = K ∧ rd [4, 8] c = longK K := by
      rcases hc1 with rfl | rfl
      · exact ⟨3, .inl rfl, rfl, rfl⟩
      · exact ⟨10, .inr rfl, rfl, rfl⟩
    obtain ⟨K, hK0, hK1, hK2⟩ := hK
    have hKl : longK K = 4 ∨ longK K = 8 := by rcases hK0 with h | h <;> rw [h] <;> decide
    have hw : wrap64 ((i : Int) + 1) = ((i + 1 : Nat) : Int) := by clear hp hc0 hK1 hK2; unfold wrap64; omega
    have hw2 : wrap64 (p + longK K) = p + longK K := by clear hp hc0 hK1 hK2; unfold wrap64; omega
    have HP := Aside0.mk hp
    have HC := Aside0.mk hc0
    have HK := Aside0.mk (show rd [3, 10] c = K ∧ rd [4, 8] c = longK K from ⟨hK1, hK2⟩)
    have HW := Aside0.mk hw2
    clear hp hc0 hK1 hK2 hw2
    obtain ⟨out', hout'⟩ : ∃ o, (if (decide (p + longK K ≤ n) && (out.drop 0).all (sep2 ⟨K, p⟩)) = true then out ++ [⟨K, p⟩] else out) = o := ⟨_, rfl⟩
    have hok : ApOk n out' ∧ out'.length ≤ i + 1 := by
      rw [← hout']
      split
      · rename_i h
        rw [Bool.and_eq_true, List.drop_zero, decide_eq_true_eq] at h
        obtain ⟨h8, h9⟩ := h
        refine ⟨ho.snoc ⟨K, p⟩ hK0 hp0 h8 h9, ?_⟩
        rw [List.length_append, List.length_singleton]; exact Nat.succ_le_succ hl
      · exact ⟨ho, Nat.le_succ_of_le hl⟩
    obtain ⟨o, ho1, ho2, ho3⟩ := ih (i + 1) out' (by omega) hok.1 hok.2
    refine ⟨o, ho1, ho2, Ev.step (f := fun q => slipwaylaw10_Apart.j1 q x0 n out (i : Int) true) (fun q => ?_) (Ev.step (f := fun q => slipwaylaw10_Apart.l1 q x0 n out (i : Int) (longK K) (decide (p + longK K ≤ n)) 0 K p) (fun q => ?_) ?_)⟩
    · simp only [slipwaylaw10_Apart.l0]
      rw [if_pos (by omega), decide_eq_true (by omega)]
    · simp only [slipwaylaw10_Apart.j1]
      rw [if_pos trivial]
      simp only [Option.bind_some]
      rw [if_pos (by omega), if_pos (by omega), rd46 _ _ hlt, hs, HC.out, HP.out]
      rw [if_pos (by omega), if_pos (show c < (([3, 10] : List Int).length : Int) by show c < 2; omega), if_neg (by omega), if_pos (show c < (([4, 8] : List Int).length : Int) by show c < 2; omega), HK.out.1, HK.out.2, HW.out]
    · refine ap_l1 x0 n (by omega) hn (i : Int) out ho (by omega) ⟨K, p⟩ hK0 hp0 (.inl hp1) o out.length 0 (decide (p + longK K ≤ n)) (by omega) ?_
      rw [hout', hw]
      exact ho3
theorem Apart_ev (l : List S46) (n : Int) (hn0 : 0 < n) (hn : n ≤ 140737488355328) : ∃ o, ApOk n o ∧ o.length ≤ 40 ∧ Ev (fun q => slipwaylaw10_Apart.f q l n) o := by
  obtain ⟨o, h1, h2, h3⟩ := ap_l0 l n hn0 hn (min l.length 40) 0 [] (by omega) (ApOk.nil n) (by simp)
  exact ⟨o, h1, h2, h3⟩
theorem longK_ok {k : Int} (h : k = 3 ∨ k = 10) : 0 < longK k := by rcases h with h | h <;> rw [h] <;> decide
theorem sites_map (out : List S46) (h : ∀ s ∈ out, s.f0 = 3 ∨ s.f0 = 10) : sitesP out = out.map fun s => ⟨s.f1, longK s.f0⟩ := by
  induction out with
  | nil => rfl
  | cons s out ih =>
    have e : sitesP (s :: out) = site1 s ++ sitesP out := by simp [sitesP]
    rw [e, ih (fun x hx => h x (by simp [hx]))]
    have : site1 s = [⟨s.f1, longK s.f0⟩] := by unfold site1; rw [if_pos (longK_ok (h s (by simp)))]
    rw [this]; rfl
theorem ApOk.sep {n : Nat} {out : List S46} (h : ApOk n out) : Sep n (sitesP out) := by
  rw [sites_map out (fun s hs => (h.row s hs).1)]
  refine ⟨fun s hs => ?_, ?_⟩
  · obtain ⟨x, hx, rfl⟩ := List.mem_map.1 hs
    have := h.row x hx
    refine ⟨this.2.1, this.2.2, ?_⟩
    show longK x.f0 = 4 ∨ longK x.f0 = 8
    rcases this.1 with h | h <;> rw [h] <;> decide
  · rw [List.pairwise_map]
    refine h.far.imp (fun {s t} hst => ?_)
    have := of_decide_eq_true hst
    unfold Far
    exact this.symm
end Go.Proofs.Ytojlcoebbgafhaa
