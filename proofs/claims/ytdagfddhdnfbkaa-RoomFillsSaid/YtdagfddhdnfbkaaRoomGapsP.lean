/- The law RoomGaps in plain: what the memory tells after some gaps. -/
import Derived.Test.YtdagfddhdnfbkaaRoomLaw
namespace Go.Proofs.Ytdagfddhdnfbkaa
open Go.RowKit
set_option linter.unusedVariables false
set_option linter.unusedSimpArgs false
open Go.Proofs.YtdagfddhdnfbkaaW.PrintWords
def GapInv (n : Int) (k : Nat) (M : AMem) (a want : Int) : Prop :=
  ∃ A : Nat, a = 65536 + A * 65536 ∧ A ≤ 4 * k ∧ M.most = 1024 ∧ M.cnt = 16 * k ∧ (∀ q, (M.pg q).isSome = true → q < a) ∧
    ((want = 0 ∧ ∀ j : Nat, j < A → okF M (65536 + j * 65536) n = false) ∨
      ∃ W : Nat, want = 65536 + W * 65536 ∧ want + n * 4096 ≤ a ∧ W < A ∧ (∀ i : Nat, i < W → okF M (65536 + i * 65536) n = false) ∧ anyP M want n.toNat = false)
theorem anyP_false {M : AMem} {p : Int} {N : Nat} : anyP M p N = false ↔ ∀ k : Nat, k < N → (M.pg (p + k * 4096)).isSome = false := by
  unfold anyP
  rw [List.any_eq_false]
  constructor
  · intro h k hk
    have := h _ ((rowL_mem p N _).2 ⟨k, hk, rfl⟩)
    simpa using this
  · intro h q hq
    obtain ⟨k, hk, rfl⟩ := (rowL_mem p N q).1 hq
    rw [h k hk]; decide
theorem anyP_true {M : AMem} {p : Int} {N : Nat} (k : Nat) (hk : k < N) (h : (M.pg (p + k * 4096)).isSome = true) : anyP M p N = true := by
  unfold anyP
  rw [List.any_eq_true]
  exact ⟨_, (rowL_mem p N _).2 ⟨k, hk, rfl⟩, h⟩
theorem okF_mono {M M' : AMem} (h : ∀ q, (M.pg q).isSome = true → (M'.pg q).isSome = true) {p n : Int} (hf : okF M p n = false) : okF M' p n = false := by
  cases h' : okF M' p n with
  | false => rfl
  | true =>
    unfold okF isB at *
    simp only [Bool.and_eq_true, Bool.not_eq_true'] at h'
    obtain ⟨⟨h1, h2⟩, h3⟩ := h'
    have h4 : anyP M p n.toNat = false := by
      rw [anyP_false] at h2 ⊢
      intro k hk
      cases h5 : (M.pg (p + k * 4096)).isSome with
      | false => rfl
      | true => have h6 := h2 k hk; rw [h _ h5] at h6; exact absurd h6 (by decide)
    rw [h1, h3, h4] at hf
    exact absurd hf (by decide)
theorem okF_any {M : AMem} {p n : Int} (h : anyP M p n.toNat = true) : okF M p n = false := by
  unfold okF isB
  rw [h]; simp
theorem one_ok : (0 : Int) ≤ 1 ∧ (1 : Int) ≤ 15 := by decide
theorem mapCode_ok {M : AMem} {p n pr : Int} (c1 : mayB p n = true) (c2 : 0 ≤ pr ∧ pr ≤ 15) (c3 : anyP M p n.toNat = false) (c4 : ¬ M.most - M.cnt < n) : mapCode M p n pr = 0 := by
  unfold mapCode
  rw [if_pos ⟨c1, c2, c3⟩, if_neg c4]
theorem mapM_pg {M : AMem} {p n pr : Int} (e : mapCode M p n pr = 0) (q : Int) : ((mapM M p n pr).pg q).isSome = true ↔ (∃ j : Nat, j < n.toNat ∧ q = p + j * 4096) ∨ (M.pg q).isSome = true := by
  unfold mapM
  rw [if_pos e]
  show (if q ∈ rowL _ n.toNat then _ else _ : Option (List Int × Int)).isSome = true ↔ _
  rw [← rowL_mem]
  by_cases h : q ∈ rowL p n.toNat
  · simp [h]
  · simp [h]
theorem mapM_most {M : AMem} {p n pr : Int} : (mapM M p n pr).most = M.most := by unfold mapM; split <;> rfl
theorem mapM_cnt {M : AMem} {p n pr : Int} (e : mapCode M p n pr = 0) : (mapM M p n pr).cnt = M.cnt + n.toNat := by unfold mapM; rw [if_pos e]
theorem gap_start (n : Int) : GapInv n 0 (newM 1024) 65536 0 :=
  ⟨0, by omega, by omega, rfl, rfl, fun q h => absurd h (by show ¬ (none : Option (List Int × Int)).isSome = true; decide), .inl ⟨rfl, fun j hj => absurd hj (by omega)⟩⟩
set_option maxHeartbeats 1000000 in
theorem gap_step {n : Int} {k : Nat} {M : AMem} {a want g : Int} (h : GapInv n k M a want) (hk : k < 12) (hn1 : 1 ≤ n) (hn2 : n ≤ 32) (hg0 : 0 ≤ g) (hg3 : g ≤ 3) :
    mapCode M (a + g * 65536) 16 1 = 0 ∧ GapInv n (k + 1) (mapM M (a + g * 65536) 16 1) (a + g * 65536 + 65536) (if want = 0 ∧ n ≤ 16 * g then a else want) := by
  obtain ⟨A, rfl, hA, hm, hc, hlt, hw⟩ := h
  obtain ⟨G, rfl⟩ := Int.eq_ofNat_of_zero_le hg0
  have none_of : ∀ q, 65536 + (A : Int) * 65536 ≤ q → (M.pg q).isSome = false := fun q hq => by
    cases h : (M.pg q).isSome with
    | false => rfl
    | true => have := hlt q h; omega
  have c1 : mayB (65536 + (A : Int) * 65536 + (G : Int) * 65536) 16 = true := by unfold mayB; exact decide_eq_true (by omega)
  have c3 : anyP M (65536 + (A : Int) * 65536 + (G : Int) * 65536) (16 : Int).toNat = false := anyP_false.2 fun j hj => none_of _ (by omega)
  have c4 : ¬ M.most - M.cnt < 16 := by rw [hm, hc]; omega
  have e : mapCode M (65536 + (A : Int) * 65536 + (G : Int) * 65536) 16 1 = 0 := mapCode_ok c1 one_ok c3 c4
  refine ⟨e, ?_⟩
  have hp := fun q => mapM_pg e q
  have hmost : (mapM M (65536 + (A : Int) * 65536 + (G : Int) * 65536) 16 1).most = M.most := mapM_most
  have hcnt := mapM_cnt e
  rw [show (16 : Int).toNat = 16 from rfl] at hcnt
  simp only [show (16 : Int).toNat = 16 from rfl] at hp
  generalize mapM M (65536 + (A : Int) * 65536 + (G : Int) * 65536) 16 1 = M' at *
  have mono : ∀ q, (M.pg q).isSome = true → (M'.pg q).isSome = true := fun q h => (hp q).2 (.inr h)
  have free : ∀ p : Int, anyP M p n.toNat = false → p + n * 4096 ≤ 65536 + (A : Int) * 65536 + (G : Int) * 65536 → anyP M' p n.toNat = false := fun p h1 h2 => by
    rw [anyP_false] at h1 ⊢
    intro j hj
    cases h : (M'.pg (p + j * 4096)).isSome with
    | false => rfl
    | true =>
      rcases (hp _).1 h with ⟨t, ht, h3⟩ | h3
      · omega
      · rw [h1 j hj] at h3; exact absurd h3 (by decide)
  refine ⟨A + G + 1, by omega, by omega, by rw [hmost, hm], by rw [hcnt, hc]; omega, fun q h => ?_, ?_⟩
  · rcases (hp q).1 h with ⟨j, hj, rfl⟩ | h
    · omega
    · have := hlt q h; omega
  rcases hw with ⟨rfl, hw⟩ | ⟨W, rfl, h1, h2, h3, h4⟩
  · by_cases hng : n ≤ 16 * (G : Int)
    · rw [if_pos ⟨rfl, hng⟩]
      exact .inr ⟨A, rfl, by omega, by omega, fun i hi => okF_mono mono (hw i hi), free _ (anyP_false.2 fun j hj => none_of _ (by omega)) (by omega)⟩
    · rw [if_neg (fun h => hng h.2)]
      refine .inl ⟨rfl, fun j hj => ?_⟩
      by_cases hjA : j < A
      · exact okF_mono mono (hw j hjA)
      · refine okF_any (anyP_true (16 * (A + G - j)) (by omega) ((hp _).2 (.inl ⟨0, by decide, by omega⟩)))
  · rw [if_neg (fun h => by omega)]
    exact .inr ⟨W, rfl, by omega, by omega, fun i hi => okF_mono mono (h3 i hi), free _ h4 (by omega)⟩
theorem gap_end {n : Int} {k : Nat} {M : AMem} {a want : Int} (h : GapInv n k M a want) (hk : k ≤ 12) (hn1 : 1 ≤ n) (hn2 : n ≤ 32) :
    ∃ W : Nat, W < 255 ∧ (if want = 0 then a else want) = 65536 + W * 65536 ∧ okF M (65536 + W * 65536) n = true ∧ ∀ i : Nat, i < W → okF M (65536 + i * 65536) n = false := by
  obtain ⟨A, rfl, hA, hm, hc, hlt, hw⟩ := h
  have good : ∀ W : Nat, W ≤ A → anyP M (65536 + W * 65536) n.toNat = false → okF M (65536 + W * 65536) n = true := fun W hW h => by
    unfold okF isB isOk
    rw [h, decide_eq_true (by omega), decide_eq_true (by omega)]; rfl
  rcases hw with ⟨rfl, hw⟩ | ⟨W, rfl, h1, h2, h3, h4⟩
  · rw [if_pos rfl]
    refine ⟨A, by omega, rfl, good A (Nat.le_refl _) (anyP_false.2 fun j hj => ?_), hw⟩
    cases h : (M.pg (65536 + (A : Int) * 65536 + j * 4096)).isSome with
    | false => rfl
    | true => have := hlt _ h; omega
  · rw [if_neg (by omega)]
    exact ⟨W, by omega, rfl, good W (by omega) h4, h3⟩
end Go.Proofs.Ytdagfddhdnfbkaa
