/- Blocks of sites are read as they were written, plain. -/
import Derived.Test.YtojlcoebbgafhaaRelM
import Derived.Test.YtojlcoebbgafhaaRF25
namespace Go.Proofs.Ytojlcoebbgafhaa
open Go.RowKit
set_option linter.unusedVariables false
set_option linter.unusedSimpArgs false
open PR
open Go.Proofs.YtojlcoebbgafhaaW.PrintWords Go.Proofs.YtojlcoebbgafhaaW.PrintLast Go.Proofs.YtojlcoebbgafhaaW.PrintMore
theorem tw_mem {α : Type} (p : α → Bool) : ∀ (l : List α) (x : α), x ∈ l.takeWhile p → p x = true := by
  intro l
  induction l with
  | nil => intro x h; cases h
  | cons a l ih =>
    intro x h
    rw [List.takeWhile_cons] at h
    split at h
    · rename_i ha
      rcases List.mem_cons.1 h with rfl | h
      · exact ha
      · exact ih x h
    · cases h
def entriesP (n : Nat) : List S46 → List S46 → Option (List S46)
  | [], out => some out
  | s :: l, out => (entryP n out s.f0 s.f1).bind (entriesP n l)
theorem entriesP_app (n : Nat) (b : List S46) : ∀ (a : List S46) (out : List S46), entriesP n (a ++ b) out = (entriesP n a out).bind (entriesP n b) := by
  intro a
  induction a with
  | nil => intro out; rfl
  | cons s a ih =>
    intro out
    simp only [List.cons_append, entriesP]
    cases entryP n out s.f0 s.f1 with
    | none => rfl
    | some o => exact ih o
def Ent (s : S46) : Prop := (s.f0 = 3 ∨ s.f0 = 10) ∧ 0 ≤ s.f1 ∧ s.f1 < 65536
theorem ent_parts (s : S46) (h : Ent s) : entI s / 4096 = s.f0 ∧ pageI s * 4096 + entI s % 4096 = s.f1 := by
  obtain ⟨x, y, h1, h2, h3, h4, hx, hy, he⟩ := entI_eq s
  have hx' : x = s.f0 := by rw [hx]; rcases h.1 with h | h <;> rw [h] <;> decide
  have hy' : y = s.f1 % 4096 := by rw [hy]; exact and4095 _ h.2.1 h.2.2
  have := h.2.1
  clear hx hy
  rw [he]
  unfold pageI
  omega
theorem row_run (n : Nat) (pg : Int) : ∀ (run : List S46) (out : List S46), (∀ s ∈ run, Ent s ∧ pageI s = pg) → rowP n (pg * 4096) (run.map entI) out = entriesP n run out := by
  intro run
  induction run with
  | nil => intro out _; rfl
  | cons s run ih =>
    intro out h
    obtain ⟨h1, h2⟩ := h s (by simp)
    obtain ⟨e1, e2⟩ := ent_parts s h1
    rw [h2] at e2
    simp only [List.map_cons, rowP, entriesP]
    rw [e1, e2]
    cases entryP n out s.f0 s.f1 with
    | none => rfl
    | some o => exact ih o (fun t ht => h t (by simp [ht]))
theorem row_pad (n : Nat) (pg : Int) (vs : List Int) (out : List S46) : rowP n pg (padV vs) out = rowP n pg vs out := by
  unfold padV
  split
  · rfl
  · rw [rowP_app]
    cases rowP n pg vs out with
    | none => rfl
    | some o => exact row_zero n pg o
theorem blocks_read : ∀ (n : Nat) (l pre' : List S46) (pre : List Int) (out : List S46) (f : Nat) (e : Int), l.length ≤ n → l.length ≤ f → l.length ≤ 55 → (∀ s ∈ l, Ent s) → e = (pre ++ blocksOf n l).length →
    blocksP (pre ++ blocksOf n l) e f pre.length out = entriesP (pre ++ blocksOf n l).length l out := by
  intro n
  induction n with
  | zero =>
    intro l _ pre out f e hl _ _ _ he
    obtain rfl : l = [] := List.length_eq_zero_iff.1 (by omega)
    rw [blocksP_end _ _ _ _ _ (by rw [he]; simp [blocksOf])]
    rfl
  | succ n ih =>
    intro l _ pre out f e hl hf h55 hent he
    cases l with
    | nil =>
      rw [blocksP_end _ _ _ _ _ (by rw [he]; simp [blocksOf])]
      rfl
    | cons s l =>
      obtain ⟨f, rfl⟩ : ∃ q, f = q + 1 := ⟨f - 1, by simp at hf; omega⟩
      obtain ⟨run, hrun⟩ : ∃ r, (s :: l).takeWhile (sameP (pageI s)) = r := ⟨_, rfl⟩
      obtain ⟨rest, hrest⟩ : ∃ r, (s :: l).dropWhile (sameP (pageI s)) = r := ⟨_, rfl⟩
      have hsplit : run ++ rest = s :: l := by rw [← hrun, ← hrest]; exact List.takeWhile_append_dropWhile
      have hpos : 1 ≤ run.length := by
        rw [← hrun, List.takeWhile_cons, show sameP (pageI s) s = true by unfold sameP; exact decide_eq_true rfl, if_pos rfl]; simp
      have hlen : run.length + rest.length = l.length + 1 := by rw [← List.length_append, hsplit]; rfl
      have hb : blocksOf (n + 1) (s :: l) = runB (pageI s) run ++ blocksOf n rest := by rw [← hrun, ← hrest]; rfl
      have hre : ∀ t ∈ run, Ent t ∧ pageI t = pageI s := fun t ht => ⟨hent t (by rw [← hsplit]; simp [ht]), by
        rw [← hrun] at ht
        have h9 : sameP (pageI s) t = true := tw_mem (sameP (pageI s)) (s :: l) t ht
        exact of_decide_eq_true h9⟩
      have hent' : ∀ t ∈ rest, Ent t := fun t ht => hent t (by rw [← hsplit]; simp [ht])
      have hs := hent s (by simp)
      have hpg : 0 ≤ pageI s ∧ pageI s < 16 := by have := hs.2; unfold pageI; omega
      obtain ⟨vs, hvs⟩ : ∃ vs, padV (run.map entI) = vs := ⟨_, rfl⟩
      have hev : vs.length % 2 = 0 := by rw [← hvs]; exact padV_even _
      have hvl : vs.length ≤ 60 := by have := padV_len (run.map entI); rw [List.length_map, hvs] at this; simp at h55; omega
      have hvin : ∀ v ∈ vs, 0 ≤ v ∧ v < 65536 := by
        rw [← hvs]
        refine padV_in _ (fun v hv => ?_)
        obtain ⟨t, _, rfl⟩ := List.mem_map.1 hv
        exact entI_range t
      obtain ⟨size, hsize⟩ : ∃ size : Int, size = 8 + 2 * vs.length := ⟨_, rfl⟩
      have hrb : runB (pageI s) run = blk (pageI s * 4096) size vs := by unfold runB; rw [hvs, hsize]
      rw [hb, hrb] at he ⊢
      have hbl := blk_len (pageI s * 4096) size vs
      have hel : e = pre.length + size + (blocksOf n rest).length := by rw [he, List.length_append, List.length_append, hbl]; omega
      rw [blocksP_step _ _ _ _ _ (by omega), ← List.append_assoc]
      rw [blockP_blk pre vs (blocksOf n rest) (pageI s * 4096) size pre.length e out rfl hsize hvin (by omega) (by omega) (by omega) (by omega) (by omega) (by omega)]
      rw [← hvs, row_pad, row_run _ _ _ _ hre, ← hsplit, entriesP_app]
      rw [hvs]
      cases ho : entriesP (pre ++ blk (pageI s * 4096) size vs ++ blocksOf n rest).length run out with
      | none => rfl
      | some o =>
        rw [Option.map_some, Option.bind_some, Option.bind_some]
        have := ih rest [] (pre ++ blk (pageI s * 4096) size vs) o f e (by simp at hl; omega) (by simp at hf; omega) (by simp at h55; omega) hent' (by rw [he, ← List.append_assoc])
        rw [List.length_append, hbl] at this
        rw [show (pre.length : Int) + size = ((pre.length + (8 + 2 * vs.length) : Nat) : Int) by omega]
        exact this
theorem blocksOf_ge : ∀ (n : Nat) (l : List S46), l.length ≤ n → l.length ≤ (blocksOf n l).length := by
  intro n
  induction n with
  | zero => intro l h; omega
  | succ n ih =>
    intro l h
    cases l with
    | nil => simp
    | cons s l =>
      have h3 : (s :: l).length = ((s :: l).takeWhile (sameP (pageI s))).length + ((s :: l).dropWhile (sameP (pageI s))).length := by
        rw [← List.length_append, List.takeWhile_append_dropWhile]
      have hpos : 1 ≤ ((s :: l).takeWhile (sameP (pageI s))).length := by
        rw [List.takeWhile_cons, show sameP (pageI s) s = true by unfold sameP; exact decide_eq_true rfl, if_pos rfl]; simp
      have h1 := ih ((s :: l).dropWhile (sameP (pageI s))) (by simp only [List.length_cons] at h h3; omega)
      have h2 : ((s :: l).takeWhile (sameP (pageI s))).length ≤ (runB (pageI s) ((s :: l).takeWhile (sameP (pageI s)))).length := by
        unfold runB
        rw [blk_len]
        have : (((s :: l).takeWhile (sameP (pageI s))).map entI).length ≤ (padV (((s :: l).takeWhile (sameP (pageI s))).map entI)).length := by unfold padV; split <;> simp
        rw [List.length_map] at this
        omega
      show _ ≤ (runB _ _ ++ blocksOf n _).length
      rw [List.length_append, h3]
      omega
/-- what Made made is parsed entry by entry -/
theorem parse_made (l : List S46) (a : Nat) (ha : 0 < a) (h55 : l.length ≤ 55) (hent : ∀ s ∈ l, Ent s) :
    parseP (preB a ++ blocksOf l.length l) a (blocksOf l.length l).length = entriesP (a + (blocksOf l.length l).length) l [] := by
  have hl : (preB a ++ blocksOf l.length l).length = a + (blocksOf l.length l).length := by rw [List.length_append, preB_len]
  unfold parseP
  rw [if_neg (by omega), if_pos (by unfold inR; exact decide_eq_true ⟨by omega, by omega, by omega, by omega⟩), Int.toNat_natCast]
  have hge := blocksOf_ge l.length l (Nat.le_refl _)
  have := blocks_read l.length l [] (preB a) [] (blocksOf l.length l).length (((a : Int)) + (blocksOf l.length l).length) (Nat.le_refl _) hge h55 hent (by rw [hl]; omega)
  rw [preB_len, hl] at this
  exact this
theorem entry_sep (n : Nat) (out : List S46) (s : S46) (hk : s.f0 = 3 ∨ s.f0 = 10) (h0 : 0 ≤ s.f1) (h1 : s.f1 + longK s.f0 ≤ n) (hl : out.length < 512) (hs : out.all (sep2 s) = true) : entryP n out s.f0 s.f1 = some (out ++ [s]) := by
  have hlk : longK s.f0 = 4 ∨ longK s.f0 = 8 := by rcases hk with h | h <;> rw [h] <;> decide
  unfold entryP
  rw [if_neg (by omega), if_neg]
  unfold badB
  have h2 : inR n s.f1 (longK s.f0) = true := by unfold inR; exact decide_eq_true ⟨h0, by omega, by omega, by omega⟩
  have h3 : hitB out s.f1 (longK s.f0) = false := by
    unfold hitB
    rw [List.any_eq_false]
    intro t ht hm
    have h4 := of_decide_eq_true (List.all_eq_true.1 hs t ht)
    have h5 := of_decide_eq_true hm
    omega
  rw [h2, h3, decide_eq_false (by omega), decide_eq_false (by omega)]
  decide
theorem entries_sep (n : Nat) : ∀ (l out : List S46), ApOk n (out ++ l) → (out ++ l).length ≤ 512 → entriesP n l out = some (out ++ l) := by
  intro l
  induction l with
  | nil => intro out _ _; rw [List.append_nil]; rfl
  | cons s l ih =>
    intro out h hl
    have h1 := h.row s (by simp)
    have hp := List.pairwise_append.1 h.far
    have hs : out.all (sep2 s) = true := List.all_eq_true.2 (fun t ht => hp.2.2 t ht s (by simp))
    simp only [entriesP]
    rw [entry_sep n out s h1.1 h1.2.1 h1.2.2 (by simp at hl; omega) hs, Option.bind_some]
    have e : out ++ s :: l = (out ++ [s]) ++ l := by simp
    rw [e] at h hl ⊢
    exact ih _ h hl
theorem ApOk.mono {n m : Int} {l : List S46} (h : ApOk n l) (hm : n ≤ m) : ApOk m l := ⟨fun s hs => by have := h.row s hs; exact ⟨this.1, this.2.1, by omega⟩, h.far⟩
theorem entry_hit (n : Nat) (out : List S46) (s : S46) (hs : s ∈ out) (hk : s.f0 = 3 ∨ s.f0 = 10) : entryP n out 3 (s.f1 + 3) = none := by
  have hlk : longK s.f0 = 4 ∨ longK s.f0 = 8 := by rcases hk with h | h <;> rw [h] <;> decide
  unfold entryP
  rw [if_neg (by decide), if_pos]
  unfold badB
  have h3 : hitB out (s.f1 + 3) (longK 3) = true := by
    unfold hitB
    rw [List.any_eq_true]
    exact ⟨s, hs, decide_eq_true (by rw [longK_3]; omega)⟩
  rw [h3]
  simp
theorem same_self (a : List S46) (ha : a.length ≤ 1000) : Ev (fun q => slipwayref1_SameRels.f q a a) true := by
  have key : ∀ d i : Nat, i + d = a.length → Ev (fun q => slipwayref1_SameRels.l0 q a a (i : Int)) true := by
    intro d
    induction d with
    | zero =>
      intro i hi
      refine Ev.step (fun q => ?_) (Ev.now true)
      simp only [slipwayref1_SameRels.l0]
      rw [if_neg (by omega)]
    | succ d ih =>
      intro i hi
      refine Ev.step (fun q => ?_) (ih (i + 1) (by omega))
      simp only [slipwayref1_SameRels.l0]
      rw [if_pos (by omega), if_pos (by omega), if_pos (by omega), wrap_succ i (by omega)]
      simp
  refine Ev.congr (fun q => ?_) (key a.length 0 (by omega))
  unfold slipwayref1_SameRels.f
  rw [if_pos rfl]
  rfl
end Go.Proofs.Ytojlcoebbgafhaa
