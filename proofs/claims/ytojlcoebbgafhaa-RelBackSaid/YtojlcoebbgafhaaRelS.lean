/- rel.Sites, plain. -/
import Derived.Test.YtojlcoebbgafhaaRelC
import Derived.Test.YtojlcoebbgafhaaRF21
namespace Go.Proofs.Ytojlcoebbgafhaa
open Go.RowKit
set_option linter.unusedVariables false
set_option linter.unusedSimpArgs false
open PR
open Go.Proofs.YtojlcoebbgafhaaW.PrintWords Go.Proofs.YtojlcoebbgafhaaW.PrintLast Go.Proofs.YtojlcoebbgafhaaW.PrintMore
def site1 (s : S46) : List S61 := if 0 < longK s.f0 then [⟨s.f1, longK s.f0⟩] else []
def sitesP (l : List S46) : List S61 := l.flatMap site1
theorem rel_long_some (k : Int) : rel_long.f k = some (longK k) := by
  unfold rel_long.f longK
  split
  · rfl
  · split <;> rfl
theorem sitesP_len (l : List S46) : (sitesP l).length ≤ l.length := by
  induction l with
  | nil => simp [sitesP]
  | cons s l ih =>
    have e : sitesP (s :: l) = site1 s ++ sitesP l := by simp [sitesP]
    rw [e, List.length_append, List.length_cons]
    have : (site1 s).length ≤ 1 := by unfold site1; split <;> simp
    omega
theorem sitesP_in (l : List S46) (x : S61) (h : x ∈ sitesP l) : ∃ s ∈ l, x.f0 = s.f1 ∧ x.f1 = longK s.f0 ∧ (x.f1 = 4 ∨ x.f1 = 8) := by
  obtain ⟨s, hs, hx⟩ := List.mem_flatMap.1 h
  unfold site1 at hx
  split at hx
  · rename_i hp
    obtain rfl := List.mem_singleton.1 hx
    exact ⟨s, hs, rfl, rfl, (longK_range s.f0).resolve_left (by omega)⟩
  · simp at hx
theorem Sites_l0 (l : List S46) (hl : l.length ≤ 4398046511104) : ∀ (d i k : Nat) (acc : List S61), i + d = l.length → d < k → acc.length ≤ i →
    rel_Sites.l0 k acc l (l.length : Int) (i : Int) = some (acc ++ sitesP (l.drop i)) := by
  intro d
  induction d with
  | zero =>
    intro i k acc hi hk ha
    obtain ⟨k, rfl⟩ : ∃ m, k = m + 1 := ⟨k - 1, by omega⟩
    simp only [rel_Sites.l0]
    rw [if_neg (by omega), List.drop_of_length_le (by omega)]
    simp [sitesP]
  | succ d ih =>
    intro i k acc hi hk ha
    obtain ⟨k, rfl⟩ : ∃ m, k = m + 1 := ⟨k - 1, by omega⟩
    simp only [rel_Sites.l0]
    have hlt : i < l.length := by omega
    have hg : rd_T46 l (i : Int) = l[i] := by
      unfold rd_T46
      rw [Int.toNat_natCast, List.getD_eq_getElem?_getD, List.getElem?_eq_getElem hlt]; rfl
    have hw : wrap64 ((i : Int) + 1) = ((i + 1 : Nat) : Int) := by unfold wrap64; omega
    have hd : l.drop i = l[i] :: l.drop (i + 1) := List.drop_eq_getElem_cons hlt
    have he : sitesP (l.drop i) = site1 l[i] ++ sitesP (l.drop (i + 1)) := by rw [hd]; exact List.flatMap_cons
    rw [if_pos (by omega), if_pos (by omega), if_pos (by omega), rel_long_some, Option.bind_some, hg, hw, he]
    by_cases hp : longK l[i].f0 > 0
    · rw [if_pos hp, if_pos (by omega), ih (i + 1) k _ (by omega) (by omega) (by simp; omega)]
      have : site1 l[i] = [⟨l[i].f1, longK l[i].f0⟩] := by unfold site1; rw [if_pos hp]
      rw [this]; simp
    · rw [if_neg hp, ih (i + 1) k _ (by omega) (by omega) (by omega)]
      have : site1 l[i] = [] := by unfold site1; rw [if_neg hp]
      rw [this]; simp
theorem Sites_some (l : List S46) (hl : l.length ≤ 4398046511104) : ∀ k, l.length < k → rel_Sites.f k l = some (sitesP l) := by
  intro k hk
  unfold rel_Sites.f
  have := Sites_l0 l hl l.length 0 k [] (by omega) hk (by simp)
  simpa using this
theorem Sites_at (A : Option Addr) (c : Nat) (l : List S46) (w : World) (hr : Kd.C k46 w A l.length l) (hc : l.length ≤ c) (hl : l.length ≤ 4398046511104) :
    Calls Try.prog 21 #[.slice A l.length c] w fun e w' => ∃ v, e = .returned v ∧ Kd.R k61 61 w' w.heap.size (fun _ => True) v (sitesP l) ∧ Below w.heap.size w w' :=
  rel_Sites.calls (l.length + 1) A c l (sitesP l) w hr hc (Sites_some l hl _ (by omega))
end Go.Proofs.Ytojlcoebbgafhaa
