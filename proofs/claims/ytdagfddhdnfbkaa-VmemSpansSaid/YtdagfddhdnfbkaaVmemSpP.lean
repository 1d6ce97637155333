/- The law VmemSpans in plain: three pages, of which the middle one may be missing. -/
import Derived.Test.YtdagfddhdnfbkaaVmemRiP
namespace Go.Proofs.Ytdagfddhdnfbkaa
open Go.RowKit
set_option linter.unusedVariables false
set_option linter.unusedSimpArgs false
open Go.Proofs.YtdagfddhdnfbkaaW.PrintWords
def spanM (gap : Bool) : AMem := ⟨3, if gap = true then 2 else 3, fun q => if q = 4096 ∨ q = 12288 ∨ (q = 8192 ∧ gap = false) then some (zeros 4096, 0) else none⟩
theorem row3 (q : Int) : q ∈ rowL 4096 3 ↔ q = 4096 ∨ q = 12288 ∨ q = 8192 := by
  rw [rowL_mem]
  constructor
  · rintro ⟨k, hk, rfl⟩; omega
  · rintro (rfl | rfl | rfl)
    · exact ⟨0, by decide, by decide⟩
    · exact ⟨2, by decide, by decide⟩
    · exact ⟨1, by decide, by decide⟩
theorem span_map : mapCode (newM 3) 4096 3 0 = 0 ∧ mapM (newM 3) 4096 3 0 = spanM false := by
  have c : mapCode (newM 3) 4096 3 0 = 0 := mapC_ok (may_ok (by decide)) (by decide) (anyM_false.2 fun k hk => rfl) (by decide)
  refine ⟨c, ?_⟩
  rw [mapM_is c]
  unfold spanM
  congr 1
  funext q
  have := row3 q
  show (if q ∈ rowL 4096 3 then _ else _) = _
  by_cases h : q = 4096 ∨ q = 12288 ∨ q = 8192
  · rw [if_pos (this.2 h), if_pos (by rcases h with h | h | h; exact .inl h; exact .inr (.inl h); exact .inr (.inr ⟨h, rfl⟩))]
  · rw [if_neg (fun x => h (this.1 x)), if_neg (fun x => h (by rcases x with x | x | x; exact .inl x; exact .inr (.inl x); exact .inr (.inr x.1)))]
    rfl
theorem span_un : thereM (spanM false) 8192 1 = true ∧ unM (spanM false) 8192 1 = spanM true := by
  have c : thereM (spanM false) 8192 1 = true := by
    unfold thereM
    rw [may_ok (by decide)]
    rfl
  refine ⟨c, ?_⟩
  unfold unM
  rw [if_pos c]
  unfold spanM
  congr 1
  funext q
  have := rowL_one 8192 q
  show (if q ∈ rowL 8192 1 then none else if _ then _ else _) = _
  by_cases h : q = 8192
  · rw [if_pos (this.2 h), if_neg (by rintro (x | x | x); omega; omega; exact absurd x.2 (by decide))]
  · rw [if_neg (fun x => h (this.1 x))]
    by_cases h2 : q = 4096 ∨ q = 12288
    · rw [if_pos (by rcases h2 with x | x; exact .inl x; exact .inr (.inl x)), if_pos (by rcases h2 with x | x; exact .inl x; exact .inr (.inl x))]
    · rw [if_neg (by rintro (x | x | x); exact h2 (.inl x); exact h2 (.inr x); exact h x.1), if_neg (by rintro (x | x | x); exact h2 (.inl x); exact h2 (.inr x); exact h x.1)]
def okS (gap : Bool) (q n : Nat) : Bool := decide (n = 0) || !gap || decide (q + n ≤ 4096) || decide (8192 ≤ q)
theorem span_pg (gap : Bool) (a : Int) (h0 : 4096 ≤ a) (h1 : a < 16384) : ((spanM gap).pg (baseV a)).isSome = true ↔ gap = false ∨ a < 8192 ∨ 12288 ≤ a := by
  show (if _ then _ else _ : Option (List Int × Int)).isSome = true ↔ _
  have hb : baseV a = a / 4096 * 4096 := rfl
  cases gap with
  | false =>
    rw [if_pos]
    · exact ⟨fun _ => .inl rfl, fun _ => rfl⟩
    · have : baseV a = 4096 ∨ baseV a = 12288 ∨ baseV a = 8192 := by omega
      rcases this with h | h | h
      · exact .inl h
      · exact .inr (.inl h)
      · exact .inr (.inr ⟨h, rfl⟩)
  | true =>
    by_cases h : baseV a = 4096 ∨ baseV a = 12288
    · rw [if_pos (by rcases h with h | h; exact .inl h; exact .inr (.inl h))]
      exact ⟨fun _ => .inr (by omega), fun _ => rfl⟩
    · rw [if_neg (by rintro (x | x | x); exact h (.inl x); exact h (.inr x); exact absurd x.2 (by decide))]
      constructor
      · intro x; cases x
      · rintro (x | x | x)
        · cases x
        · omega
        · omega
theorem span_all (gap : Bool) (q n : Nat) (h : q + n ≤ 12288) : allM (spanM gap) (4096 + q) n = okS gap q n := by
  rw [Bool.eq_iff_iff, allM_iff]
  have e : ∀ i, i < n → aT (4096 + q) i = 4096 + q + i := fun i hi => by unfold aT; omega
  unfold okS
  simp only [Bool.or_eq_true, decide_eq_true_eq, Bool.not_eq_true']
  constructor
  · intro hh
    by_cases hn : n = 0
    · exact .inl (.inl (.inl hn))
    · by_cases hg : gap = false
      · exact .inl (.inl (.inr hg))
      · by_cases h1 : q + n ≤ 4096
        · exact .inl (.inr h1)
        · refine .inr ?_
          by_cases h2 : 8192 ≤ q
          · exact h2
          · exfalso
            -- a byte in the middle page
            obtain ⟨i, hi, hm⟩ : ∃ i, i < n ∧ 4096 ≤ q + i ∧ q + i < 8192 := by
              by_cases h3 : 4096 ≤ q
              · exact ⟨0, by omega, by omega, by omega⟩
              · exact ⟨4096 - q, by omega, by omega, by omega⟩
            have := hh i hi
            rw [e i hi] at this
            have := (span_pg gap _ (by omega) (by omega)).1 this
            rcases this with x | x | x
            · exact hg x
            · omega
            · omega
  · intro hh i hi
    rw [e i hi]
    refine (span_pg gap _ (by omega) (by omega)).2 ?_
    rcases hh with ((x | x) | x) | x
    · omega
    · exact .inl x
    · exact .inr (.inl (by omega))
    · exact .inr (.inr (by omega))
/-- what a page holds behind it -/
def wantS (gap : Bool) (q : Nat) (xs : List Int) (i k : Nat) : Int := if okS gap q xs.length = true ∧ q ≤ 4096 * i + k ∧ 4096 * i + k < q + xs.length then xs.getD (4096 * i + k - q) 0 else 0
structure SpanSays (gap : Bool) (q : Nat) (xs : List Int) (M2 : AMem) (L : Nat → List Int) : Prop where
  pk : pokeB (spanM gap) (4096 + (q : Int)) xs.length = okS gap q xs.length
  m2 : pokeM (spanM gap) (4096 + (q : Int)) xs = M2
  pb : ∀ i : Nat, i < 3 → peekB M2 (4096 * ((i : Int) + 1)) 4096 = !(gap && decide (i = 1))
  pl : ∀ i : Nat, i < 3 → peekL M2 (4096 * ((i : Int) + 1)) 4096 = L i
  len : ∀ i, i < 3 → (L i).length = if gap = true ∧ i = 1 then 0 else 4096
  val : ∀ i k, i < 3 → ¬ (gap = true ∧ i = 1) → k < 4096 → (L i).getD k 0 = wantS gap q xs i k
theorem span_says (gap : Bool) (q : Nat) (xs : List Int) (h : q + xs.length ≤ 12288) (h9 : xs.length ≤ 9000) : ∃ M2 L, SpanSays gap q xs M2 L := by
  have hpk : pokeB (spanM gap) (4096 + (q : Int)) xs.length = okS gap q xs.length := by
    unfold pokeB
    rw [decide_eq_true (by omega), Bool.true_and, span_all gap q _ h]
  have hsome : ∀ a, ((pokeM (spanM gap) (4096 + (q : Int)) xs).pg a).isSome = ((spanM gap).pg a).isSome := fun a => by
    unfold pokeM
    split
    · rw [putM_pg, Option.isSome_map]
    · rfl
  have hall : ∀ i : Nat, i < 3 → allM (pokeM (spanM gap) (4096 + (q : Int)) xs) (4096 * ((i : Int) + 1)) 4096 = !(gap && decide (i = 1)) := fun i hi => by
    rw [Bool.eq_iff_iff, allM_iff]
    have e : ∀ k : Nat, k < 4096 → aT (4096 * ((i : Int) + 1)) k = 4096 * ((i : Int) + 1) + k := fun k hk => by unfold aT; omega
    simp only [Bool.not_eq_true', Bool.and_eq_false_iff, decide_eq_false_iff_not]
    constructor
    · intro hh
      have := hh 0 (by decide)
      rw [e 0 (by decide), hsome] at this
      have := (span_pg gap _ (by omega) (by omega)).1 this
      rcases this with x | x | x
      · exact .inl x
      · exact .inr (by omega)
      · exact .inr (by omega)
    · intro hh k hk
      rw [e k hk, hsome]
      refine (span_pg gap _ (by omega) (by omega)).2 ?_
      rcases hh with x | x
      · exact .inl x
      · exact .inr (by omega)
  have hpb : ∀ i : Nat, i < 3 → peekB (pokeM (spanM gap) (4096 + (q : Int)) xs) (4096 * ((i : Int) + 1)) 4096 = !(gap && decide (i = 1)) := fun i hi => by
    unfold peekB
    rw [decide_eq_true (by decide), Bool.true_and]
    exact hall i hi
  refine ⟨_, fun i => peekL (pokeM (spanM gap) (4096 + (q : Int)) xs) (4096 * ((i : Int) + 1)) 4096, hpk, rfl, hpb, fun i hi => rfl, fun i hi => ?_, fun i k hi hg hk => ?_⟩
  · show (peekL _ _ _).length = _
    unfold peekL
    rw [hpb i hi]
    by_cases hg : gap = true ∧ i = 1
    · rw [if_pos hg, hg.1, hg.2]; rfl
    · rw [if_neg hg, if_pos (by cases gap <;> simp at hg ⊢; exact hg), bytesM_len]; rfl
  · show (peekL _ _ _).getD k 0 = _
    unfold peekL
    rw [hpb i hi, if_pos (by cases gap <;> simp at hg ⊢; exact hg), bytesM_get _ _ _ _ (show k < (4096 : Int).toNat from hk)]
    have e : aT (4096 * ((i : Int) + 1)) k = 4096 * ((i : Int) + 1) + k := by unfold aT; omega
    rw [e]
    have hs : ((spanM gap).pg (baseV (4096 * ((i : Int) + 1) + k))).isSome = true := (span_pg gap _ (by omega) (by omega)).2 (by
      by_cases g : gap = false
      · exact .inl g
      · have : i ≠ 1 := fun x => hg ⟨by simpa using g, x⟩
        exact .inr (by omega))
    have hl : ∀ a x, (spanM gap).pg a = some x → x = (zeros 4096, 0) := fun a x hx => by
      have hx' : (if a = 4096 ∨ a = 12288 ∨ (a = 8192 ∧ gap = false) then some (zeros 4096, (0 : Int)) else none) = some x := hx
      split at hx'
      · cases hx'; rfl
      · cases hx'
    have hzero : byteM (spanM gap) (4096 * ((i : Int) + 1) + k) = 0 := by
      unfold byteM
      obtain ⟨x, hx⟩ := Option.isSome_iff_exists.1 hs
      rw [hx]
      have := hl _ _ hx
      subst this
      exact zeros_get _ _
    unfold pokeM wantS
    rw [hpk]
    by_cases ho : okS gap q xs.length = true
    · rw [if_pos ho, byteM_put _ _ _ _ (by omega) (by omega) (by omega) (by omega) hs (fun x hx => by rw [hl _ _ hx]; exact List.length_replicate), hzero]
      by_cases hj : q ≤ 4096 * i + k ∧ 4096 * i + k < q + xs.length
      · have e2 : ((4096 * ((i : Int) + 1) + (k : Int) - (4096 + (q : Int))) % 18446744073709551616).toNat = 4096 * i + k - q := by omega
        rw [e2, if_pos (by omega), if_pos ⟨ho, hj⟩]
      · rw [if_neg (show ¬ ((4096 * ((i : Int) + 1) + (k : Int) - (4096 + (q : Int))) % 18446744073709551616).toNat < xs.length by omega), if_neg (fun x => hj x.2)]
    · rw [if_neg ho, if_neg (fun x => ho x.1), hzero]
end Go.Proofs.Ytdagfddhdnfbkaa
