/- RelBack, plain. -/
import Derived.Test.YtojlcoebbgafhaaRelN
import Derived.Test.YtojlcoebbgafhaaRelAw
import Derived.Test.YtojlcoebbgafhaaRF9
namespace Go.Proofs.Ytojlcoebbgafhaa
open Go.RowKit
set_option linter.unusedVariables false
set_option linter.unusedSimpArgs false
open PR
open Go.Proofs.YtojlcoebbgafhaaW.PrintWords Go.Proofs.YtojlcoebbgafhaaW.PrintLast Go.Proofs.YtojlcoebbgafhaaW.PrintMore
theorem made_some (l : List S46) (a : Nat) (ha2 : a ≤ 20000) (h55 : l.length ≤ 55) (hent : ∀ s ∈ l, Ent s) :
    Ev (fun k => slipwaylaw10_Made.f k l a) (preB a ++ blocksOf l.length l, (a : Int), ((blocksOf l.length l).length : Int)) :=
  Made_ev l a h55 (fun s hs => by have := hent s hs; exact ⟨this.2.1, by have := this.2.2; omega⟩) ha2
theorem parse_some (l : List S46) (a : Nat) (ha : 0 < a) (ha2 : a ≤ 20000) (h55 : l.length ≤ 55) (hent : ∀ s ∈ l, Ent s) (r : Option (List S46)) (hr : entriesP (a + (blocksOf l.length l).length) l [] = r) :
    rel_Parse.f (preB a ++ blocksOf l.length l) a (blocksOf l.length l).length = some (r.getD [], errOf r) := by
  have hlen := blocksOf_len l.length l
  unfold rel_Parse.f
  rw [if_pos ((bytesB_iff _).2 ((preB_bytes a).append (blocksOf_bytes _ _))), if_pos (by rw [List.length_append, preB_len]; omega), parse_made l a ha h55 hent, hr]
theorem place255 (p : Int) (m : Nat) (hm : 0 < m) : ∃ q : Nat, q < m ∧ (Go.bits .and .i64 p 255).tmod (m : Int) = q := by
  have h : 0 ≤ Go.bits .and .i64 p 255 ∧ Go.bits .and .i64 p 255 ≤ 255 := and_i64 p 255 (by decide)
  generalize Go.bits .and .i64 p 255 = z at *
  refine ⟨(z % (m : Int)).toNat, ?_, ?_⟩
  · have := Int.emod_lt_of_pos z (show (0 : Int) < m by omega)
    have := Int.emod_nonneg z (show (m : Int) ≠ 0 by omega)
    omega
  · rw [Int.tmod_eq_emod_of_nonneg h.1, Int.toNat_of_nonneg (Int.emod_nonneg _ (by omega))]
theorem ap_ent {out : List S46} (h : ApOk 10000 out) : ∀ s ∈ out, Ent s := fun s hs => by
  obtain ⟨h1, h2, h3⟩ := h.row s hs
  refine ⟨h1, h2, ?_⟩
  have : longK s.f0 = 4 ∨ longK s.f0 = 8 := by rcases h1 with h | h <;> rw [h] <;> decide
  omega
theorem awake_evB : Ev (fun q => (slipwaylaw10_awake.f q).bind fun t => some t) true := ⟨100, fun k hk => by show ((slipwaylaw10_awake.f k).bind fun t => some t) = some true; rw [rel_awake_k k hk]; rfl⟩
theorem entries_bad (n : Nat) (own : List S46) (q : Nat) (hq : q < own.length) (h : ApOk n own) (hl : own.length ≤ 40) : entriesP n (own ++ [⟨3, own[q].f1 + 3⟩]) [] = none := by
  rw [entriesP_app, entries_sep n own [] h (by simp; omega), Option.bind_some, List.nil_append]
  show ((entryP n own 3 (own[q].f1 + 3)).bind fun _ => _) = none
  rw [entry_hit n own own[q] (List.getElem_mem hq) (h.row _ (List.getElem_mem hq)).1]
  rfl
theorem j0_ends (own : List S46) (which : Int) (hown : ApOk 10000 own) (h40 : own.length ≤ 40) : Ev (fun k => slipwaylaw10_RelBack.j0 k which own false) true := by
  obtain ⟨ka, hka⟩ := awake_evB
  by_cases h0 : own.length = 0
  · refine ⟨ka + 1, fun k hk => ?_⟩
    obtain ⟨m, rfl⟩ : ∃ m, k = m + 1 := ⟨k - 1, by omega⟩
    show slipwaylaw10_RelBack.j0 (m + 1) which own false = some true
    rw [slipwaylaw10_RelBack.j0, if_neg (by decide), if_pos (show ((own.length : Nat) : Int) = 0 by omega)]
    exact hka m (by omega)
  · obtain ⟨q, hq, he⟩ := place255 which own.length (by omega)
    obtain ⟨hr1, hr2, hr3⟩ := hown.row own[q] (List.getElem_mem hq)
    have hlk : longK own[q].f0 = 4 ∨ longK own[q].f0 = 8 := by rcases hr1 with h | h <;> rw [h] <;> decide
    have hent := ap_ent hown
    have hent2 : ∀ s ∈ own ++ [(⟨3, own[q].f1 + 3⟩ : S46)], Ent s := fun s hs => by
      rcases List.mem_append.1 hs with h | h
      · exact hent s h
      · obtain rfl := List.mem_singleton.1 h
        exact ⟨.inl rfl, by show 0 ≤ own[q].f1 + 3; omega, by show own[q].f1 + 3 < 65536; omega⟩
    have hl2 : (own ++ [(⟨3, own[q].f1 + 3⟩ : S46)]).length ≤ 55 := by rw [List.length_append]; show own.length + 1 ≤ 55; omega
    have hbadE := entries_bad (10020 + (blocksOf (own ++ [(⟨3, own[q].f1 + 3⟩ : S46)]).length (own ++ [⟨3, own[q].f1 + 3⟩])).length) own q hq (hown.mono (by omega)) h40
    obtain ⟨bad, hbad⟩ : ∃ bad, own ++ [(⟨3, own[q].f1 + 3⟩ : S46)] = bad := ⟨_, rfl⟩
    rw [hbad] at hent2 hl2 hbadE
    obtain ⟨km, hkm⟩ := made_some bad 10020 (by decide) hl2 hent2
    have hpar := parse_some bad 10020 (by decide) (by decide) hl2 hent2 none hbadE
    refine ⟨ka + km + 1, fun k hk => ?_⟩
    obtain ⟨m, rfl⟩ : ∃ m, k = m + 1 := ⟨k - 1, by omega⟩
    show slipwaylaw10_RelBack.j0 (m + 1) which own false = some true
    rw [slipwaylaw10_RelBack.j0, if_neg (by decide), if_neg (show ¬ ((own.length : Nat) : Int) = 0 by omega), Option.bind_some, if_pos (by show 0 + own.length < _; omega), Option.bind_some, he,
      if_pos (show (0 : Int) ≤ (q : Int) by omega), if_pos (show (q : Int) < (own.length : Int) by omega), Option.bind_some, if_pos (by rw [List.nil_append]; show own.length + 1 < _; omega), rd46 own q hq,
      show wrap64 (own[q].f1 + 3) = own[q].f1 + 3 by unfold wrap64; omega, List.nil_append, hbad]
    have h1 : slipwaylaw10_Made.f m bad 10020 = some (preB 10020 ++ blocksOf bad.length bad, ((10020 : Nat) : Int), ((blocksOf bad.length bad).length : Int)) := hkm m (by omega)
    rw [h1, Option.bind_some]
    generalize preB 10020 ++ blocksOf bad.length bad = xs at hpar ⊢
    generalize ((blocksOf bad.length bad).length : Int) = sz at hpar ⊢
    have h2 : rel_Parse.f xs 10020 sz = some (([] : List S46), 9) := hpar
    show ((rel_Parse.f xs 10020 sz).bind fun bt134 => _) = _
    rw [h2, Option.bind_some, if_pos rfl]
    exact hka m (by omega)
theorem back_all (l : List S46) (which : Int) : ∃ k, slipwaylaw10_RelBack.f k l which = some true := by
  obtain ⟨own, hown, h40, ⟨k1, hk1⟩⟩ := Apart_ev l 10000 (by decide) (by decide)
  have hent := ap_ent hown
  obtain ⟨k2, hk2⟩ := made_some own 10000 (by decide) (by omega) hent
  have hpar := parse_some own 10000 (by decide) (by decide) (by omega) hent (some own) (entries_sep _ own [] (hown.mono (by omega)) (by simp; omega))
  obtain ⟨k3, hk3⟩ := same_self own (by omega)
  obtain ⟨k4, hk4⟩ := j0_ends own which hown h40
  refine ⟨k1 + k2 + k3 + k4, ?_⟩
  unfold slipwaylaw10_RelBack.f
  have h1 : slipwaylaw10_Apart.f (k1 + k2 + k3 + k4) l 10000 = some own := hk1 _ (by omega)
  have h2 : slipwaylaw10_Made.f (k1 + k2 + k3 + k4) own 10000 = some (preB 10000 ++ blocksOf own.length own, ((10000 : Nat) : Int), ((blocksOf own.length own).length : Int)) := hk2 (k1 + k2 + k3 + k4) (by omega)
  generalize preB 10000 ++ blocksOf own.length own = xs at hpar h2
  generalize ((blocksOf own.length own).length : Int) = sz at hpar h2
  have h3 : rel_Parse.f xs 10000 sz = some (own, 0) := hpar
  have h4 : slipwayref1_SameRels.f (k1 + k2 + k3 + k4) own own = some true := hk3 _ (by omega)
  rw [h1, Option.bind_some, h2, Option.bind_some]
  show ((rel_Parse.f xs 10000 sz).bind fun bt110 => _) = _
  rw [h3, Option.bind_some, if_pos rfl]
  show ((slipwayref1_SameRels.f (k1 + k2 + k3 + k4) own own).bind fun t114 => _) = _
  rw [h4, Option.bind_some]
  exact hk4 _ (by omega)
end Go.Proofs.Ytojlcoebbgafhaa
