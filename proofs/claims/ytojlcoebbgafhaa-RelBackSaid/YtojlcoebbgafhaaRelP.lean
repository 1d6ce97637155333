/- The plain model of what hangs on the base. -/
import Derived.Test.YtojlcoebbgafhaaLeZero
import Derived.Test.YtojlcoebbgafhaaR0
import Derived.Laws.BitsLemmas
namespace Go.Proofs.Ytojlcoebbgafhaa
open Go.RowKit
set_option linter.unusedVariables false
set_option linter.unusedSimpArgs false
open PR
def longK (k : Int) : Int := if k = 3 then 4 else if k = 10 then 8 else 0
theorem longK_range (k : Int) : longK k = 0 ∨ longK k = 4 ∨ longK k = 8 := by unfold longK; split; exact .inr (.inl rfl); split; exact .inr (.inr rfl); exact .inl rfl
theorem longK_pos {k : Int} (h : longK k ≠ 0) : (k = 3 ∧ longK k = 4) ∨ (k = 10 ∧ longK k = 8) := by
  unfold longK at h ⊢
  by_cases h3 : k = 3
  · exact .inl ⟨h3, by rw [if_pos h3]⟩
  · by_cases h10 : k = 10
    · exact .inr ⟨h10, by rw [if_neg h3, if_pos h10]⟩
    · rw [if_neg h3, if_neg h10] at h; exact absurd rfl h
def meets (s : S46) (p m : Int) : Bool := decide (p < s.f1 + longK s.f0 ∧ s.f1 < p + m)
def hitB (out : List S46) (p m : Int) : Bool := out.any fun s => meets s p m
def badB (n : Nat) (out : List S46) (k p : Int) : Bool := decide (longK k = 0) || !inR n p (longK k) || decide (out.length = 512) || hitB out p (longK k)
def entryP (n : Nat) (out : List S46) (k p : Int) : Option (List S46) :=
  if k = 0 then some out else if badB n out k p = true then none else some (out ++ [⟨k, p⟩])
def SiteOk (n : Nat) (s : S46) : Prop := (s.f0 = 3 ∨ s.f0 = 10) ∧ 0 ≤ s.f1 ∧ s.f1 + longK s.f0 ≤ n
def OutOk (n : Nat) (out : List S46) : Prop := out.length ≤ 512 ∧ ∀ s ∈ out, SiteOk n s
theorem SiteOk.long {n : Nat} {s : S46} (h : SiteOk n s) : longK s.f0 = 4 ∨ longK s.f0 = 8 := by
  rcases h.1 with h | h <;> rw [h] <;> decide
def covB (out : List S46) (i : Nat) : Bool := out.any fun s => decide (s.f1 ≤ i ∧ (i : Int) < s.f1 + longK s.f0)
def tkI (n : Nat) (out : List S46) (p : Int) (j : Nat) : List Int := (List.range n).map fun i => if covB out i = true ∨ (p ≤ i ∧ (i : Int) < p + j) then 1 else 0
def tkL (n : Nat) (out : List S46) : List Int := (List.range n).map fun i => if covB out i = true then 1 else 0
theorem tkL_len (n : Nat) (out : List S46) : (tkL n out).length = n := by simp [tkL]
theorem tkI_len (n : Nat) (out : List S46) (p : Int) (j : Nat) : (tkI n out p j).length = n := by simp [tkI]
theorem tkL_get (n : Nat) (out : List S46) (i : Nat) (h : i < n) : (tkL n out).getD i 0 = if covB out i = true then 1 else 0 := by
  simp [tkL, List.getD_eq_getElem?_getD, h]
theorem tkI_get (n : Nat) (out : List S46) (p : Int) (j i : Nat) (h : i < n) : (tkI n out p j).getD i 0 = if covB out i = true ∨ (p ≤ i ∧ (i : Int) < p + j) then 1 else 0 := by
  simp [tkI, List.getD_eq_getElem?_getD, h]
theorem list_ext_getD {xs ys : List Int} (hl : xs.length = ys.length) (h : ∀ i, i < xs.length → xs.getD i 0 = ys.getD i 0) : xs = ys := by
  refine List.ext_getElem hl (fun i h1 h2 => ?_)
  have := h i h1
  simpa [List.getD_eq_getElem?_getD, List.getElem?_eq_getElem h1, List.getElem?_eq_getElem h2] using this
theorem tkL_nil (n : Nat) : tkL n [] = List.replicate n 0 := by
  refine list_ext_getD (by simp [tkL]) (fun i h => ?_)
  rw [tkL_len] at h
  rw [tkL_get n [] i h]
  simp [covB, List.getD_eq_getElem?_getD, h]
theorem tkI_zero (n : Nat) (out : List S46) (p : Int) : tkI n out p 0 = tkL n out := by
  refine list_ext_getD (by rw [tkL_len, tkI_len]) (fun i h => ?_)
  rw [tkI_len] at h
  rw [tkI_get n out p 0 i h, tkL_get n out i h]
  congr 1
  refine propext ⟨fun h => h.elim id (fun h => by omega), .inl⟩
theorem set_getD (xs : List Int) (q i : Nat) (x : Int) (h : i < xs.length) : (xs.set q x).getD i 0 = if q = i then x else xs.getD i 0 := by
  simp only [List.getD_eq_getElem?_getD, List.getElem?_set]
  by_cases hq : q = i
  · subst hq; simp [h]
  · simp [hq]
theorem tkI_step (n : Nat) (out : List S46) (p : Nat) (j : Nat) (h : p + j < n) : (tkI n out p j).set (p + j) 1 = tkI n out p (j + 1) := by
  refine list_ext_getD (by simp [tkI_len]) (fun i hi => ?_)
  rw [List.length_set, tkI_len] at hi
  rw [set_getD _ _ _ _ (by rw [tkI_len]; exact hi), tkI_get _ _ _ _ _ hi, tkI_get _ _ _ _ _ hi]
  by_cases e : p + j = i
  · rw [if_pos e, if_pos (.inr ⟨by omega, by omega⟩)]
  · rw [if_neg e]
    congr 1
    refine propext ⟨fun h => h.elim .inl (fun h => .inr ⟨by omega, by omega⟩), fun h => h.elim .inl (fun h => .inr ⟨by omega, by omega⟩)⟩
theorem covB_app (out : List S46) (s : S46) (i : Nat) : covB (out ++ [s]) i = (covB out i || decide (s.f1 ≤ i ∧ (i : Int) < s.f1 + longK s.f0)) := by
  simp [covB]
theorem tkI_end (n : Nat) (out : List S46) (k : Int) (p : Int) (m : Nat) (hm : longK k = m) : tkI n out p m = tkL n (out ++ [⟨k, p⟩]) := by
  refine list_ext_getD (by rw [tkL_len, tkI_len]) (fun i h => ?_)
  rw [tkI_len] at h
  rw [tkI_get _ _ _ _ _ h, tkL_get _ _ _ h, covB_app, ← hm]
  congr 1
  simp [Bool.or_eq_true]
theorem seg_get (xs : List Int) (p n : Nat) (i : Nat) (h : p + n ≤ xs.length) (hi : i < n) : (seg xs p n).getD i 0 = xs.getD (p + i) 0 := by
  unfold seg
  have e1 : ((p : Int) + n).toNat = p + n := by omega
  have e2 : (p : Int).toNat = p := by omega
  rw [e1, e2]
  simp only [List.getD_eq_getElem?_getD, List.getElem?_drop, List.getElem?_take]
  rw [if_pos (by omega)]
theorem any_iff_getD (q : Int → Bool) (xs : List Int) : xs.any q = true ↔ ∃ i, i < xs.length ∧ q (xs.getD i 0) = true := by
  rw [List.any_eq_true]
  constructor
  · rintro ⟨x, hx, hq⟩
    obtain ⟨i, hi, rfl⟩ := List.mem_iff_getElem.1 hx
    exact ⟨i, hi, by simpa [List.getD_eq_getElem?_getD, List.getElem?_eq_getElem hi] using hq⟩
  · rintro ⟨i, hi, hq⟩
    refine ⟨xs[i], List.getElem_mem hi, ?_⟩
    simpa [List.getD_eq_getElem?_getD, List.getElem?_eq_getElem hi] using hq
theorem tk_hit (n : Nat) (out : List S46) (ho : OutOk n out) (p m : Nat) (hm : 0 < m) (h : p + m ≤ n) : (seg (tkL n out) p m).any (fun x => x != 0) = hitB out p m := by
  have hl : (seg (tkL n out) p m).length = m := by rw [seg_len _ _ _ (by omega) (by omega) (by rw [tkL_len]; omega)]; omega
  rw [Bool.eq_iff_iff, any_iff_getD, hl]
  unfold hitB
  rw [List.any_eq_true]
  constructor
  · rintro ⟨i, hi, hq⟩
    rw [seg_get _ _ _ _ (by rw [tkL_len]; omega) hi, tkL_get _ _ _ (by omega)] at hq
    by_cases hc : covB out (p + i) = true
    · unfold covB at hc
      rw [List.any_eq_true] at hc
      obtain ⟨s, hs, hd⟩ := hc
      have hd := of_decide_eq_true hd
      exact ⟨s, hs, decide_eq_true (by omega)⟩
    · rw [if_neg hc] at hq; exact absurd hq (by decide)
  · rintro ⟨s, hs, hd⟩
    have hd := of_decide_eq_true hd
    have hk := ho.2 s hs
    have hlong := hk.long
    obtain ⟨hk1, hk2, hk3⟩ := hk
    obtain ⟨a, ha⟩ := Int.eq_ofNat_of_zero_le hk2
    have : ∃ i : Nat, i < m ∧ s.f1 ≤ (p + i : Nat) ∧ ((p + i : Nat) : Int) < s.f1 + longK s.f0 := by
      by_cases hlt : p ≤ a
      · exact ⟨a - p, by omega, by omega, by omega⟩
      · exact ⟨0, hm, by omega, by omega⟩
    obtain ⟨i, hi, h1, h2⟩ := this
    refine ⟨i, hi, ?_⟩
    rw [seg_get _ _ _ _ (by rw [tkL_len]; omega) hi, tkL_get _ _ _ (by omega)]
    have hc : covB out (p + i) = true := by
      unfold covB; rw [List.any_eq_true]; exact ⟨s, hs, decide_eq_true ⟨h1, h2⟩⟩
    rw [if_pos hc]; rfl
theorem entryP_ok {n : Nat} {out o : List S46} {k p : Int} (ho : OutOk n out) (h : entryP n out k p = some o) : OutOk n o := by
  unfold entryP at h
  by_cases hk : k = 0
  · rw [if_pos hk] at h; exact Option.some.inj h ▸ ho
  · rw [if_neg hk] at h
    by_cases hb : badB n out k p = true
    · rw [if_pos hb] at h; simp at h
    · rw [if_neg hb] at h
      obtain rfl := Option.some.inj h
      simp only [badB, Bool.or_eq_true, Bool.not_eq_true', decide_eq_true_eq, not_or, Bool.not_eq_false] at hb
      obtain ⟨⟨⟨h1, h2⟩, h3⟩, h4⟩ := hb
      have h2 := of_decide_eq_true h2
      have hp := longK_pos h1
      refine ⟨by have := ho.1; simp; omega, fun s hs => ?_⟩
      rcases List.mem_append.1 hs with hs | hs
      · exact ho.2 s hs
      · obtain rfl := List.mem_singleton.1 hs
        exact ⟨hp.elim (fun h => .inl h.1) (fun h => .inr h.1), h2.1, by show p + longK k ≤ n; omega⟩
def rowP (n : Nat) (page : Int) : List Int → List S46 → Option (List S46)
  | [], out => some out
  | v :: vs, out => (entryP n out (v / 4096) (page + v % 4096)).bind (rowP n page vs)
def rowV (xs : List Int) (p : Int) (m : Nat) : List Int := (List.range m).map fun j : Nat => numV xs (p + 2 * (j : Int)) 2
def formB (page size left : Int) : Bool := decide (page % 4096 = 0 ∧ 8 ≤ size ∧ size % 4 = 0 ∧ size ≤ left)
def blockP (xs : List Int) (p e : Int) (out : List S46) : Option (Int × List S46) :=
  if e - p < 8 then none else if formB (numV xs p 4) (numV xs (p + 4) 4) (e - p) = true then
    (rowP xs.length (numV xs p 4) (rowV xs (p + 8) ((numV xs (p + 4) 4 - 8) / 2).toNat) out).map (fun o => (numV xs (p + 4) 4, o)) else none
def blocksP (xs : List Int) (e : Int) : Nat → Int → List S46 → Option (List S46)
  | 0, _, out => some out
  | f + 1, p, out => if p < e then (blockP xs p e out).bind fun r => blocksP xs e f (p + r.1) r.2 else some out
def parseP (xs : List Int) (rva size : Int) : Option (List S46) :=
  if rva = 0 then some [] else if inR xs.length rva size = true then blocksP xs (rva + size) size.toNat rva [] else none
theorem rowP_ok {n : Nat} {page : Int} {vs : List Int} : ∀ {out o : List S46}, OutOk n out → rowP n page vs out = some o → OutOk n o := by
  induction vs with
  | nil => intro out o h e; exact Option.some.inj e ▸ h
  | cons v vs ih =>
    intro out o h e
    obtain ⟨o1, h1, h2⟩ := Option.bind_eq_some_iff.1 e
    exact ih (entryP_ok h h1) h2
theorem blockP_ok {xs : List Int} {p e : Int} {out : List S46} {r : Int × List S46} (h : OutOk xs.length out) (e1 : blockP xs p e out = some r) : OutOk xs.length r.2 ∧ 8 ≤ r.1 ∧ r.1 ≤ e - p := by
  unfold blockP at e1
  split at e1
  · simp at e1
  · split at e1
    · rename_i hf
      have hf := of_decide_eq_true hf
      obtain ⟨o, h1, h2⟩ := Option.map_eq_some_iff.1 e1
      subst h2
      exact ⟨rowP_ok h h1, hf.2.1, hf.2.2.2⟩
    · simp at e1
theorem blocksP_ok {xs : List Int} {e : Int} : ∀ (f : Nat) (p : Int) {out o : List S46}, OutOk xs.length out → blocksP xs e f p out = some o → OutOk xs.length o := by
  intro f
  induction f with
  | zero => intro p out o h e1; exact Option.some.inj e1 ▸ h
  | succ f ih =>
    intro p out o h e1
    unfold blocksP at e1
    split at e1
    · obtain ⟨r, h1, h2⟩ := Option.bind_eq_some_iff.1 e1
      exact ih _ (blockP_ok h h1).1 h2
    · exact Option.some.inj e1 ▸ h
theorem OutOk.nil (n : Nat) : OutOk n [] := ⟨by simp, fun s hs => by simp at hs⟩
theorem parseP_ok {xs : List Int} {rva size : Int} {o : List S46} (h : parseP xs rva size = some o) : OutOk xs.length o := by
  unfold parseP at h
  split at h
  · exact Option.some.inj h ▸ OutOk.nil _
  · split at h
    · exact blocksP_ok _ _ (OutOk.nil _) h
    · simp at h
theorem and4095 (x : Int) (h0 : 0 ≤ x) (h1 : x < 65536) : bits .and .i64 x 4095 = x % 4096 :=
  bits_mask .i64 16 (by decide) (fun n h0 h1 => by rw [IntKind.wrap_i64]; omega) 12 (by decide) x h0 (by omega)
end Go.Proofs.Ytojlcoebbgafhaa
