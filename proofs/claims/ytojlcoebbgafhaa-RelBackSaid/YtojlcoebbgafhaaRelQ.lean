/- Plain laws of blocks of sites. -/
import Derived.Test.YtojlcoebbgafhaaE2
namespace Go.Proofs.Ytojlcoebbgafhaa
open Go.RowKit
set_option linter.unusedVariables false
set_option linter.unusedSimpArgs false
open PR
open Go.Proofs.YtojlcoebbgafhaaW.PrintWords Go.Proofs.YtojlcoebbgafhaaW.PrintLast Go.Proofs.YtojlcoebbgafhaaW.PrintMore
theorem seg_mid (pre mid post : List Int) (p n : Int) (hp : p = pre.length) (hn : n = mid.length) : seg (pre ++ mid ++ post) p n = mid := by
  subst hp hn
  rw [seg_nat _ _ _ (by omega) (by omega), Int.toNat_natCast, Int.toNat_natCast, List.append_assoc, List.drop_left, List.take_left]
theorem numV_mid (pre mid post : List Int) (p n : Int) (hp : p = pre.length) (hn : n = mid.length) : numV (pre ++ mid ++ post) p n = leV mid := by
  rw [numV_in _ _ _ (by subst hp hn; simp; omega), seg_mid _ _ _ _ _ hp hn]
def enc2 (v : Int) : List Int := [v % 256, v / 256 % 256]
def row2 (vs : List Int) : List Int := vs.flatMap enc2
theorem row2_nil : row2 [] = [] := rfl
theorem row2_cons (v : Int) (vs : List Int) : row2 (v :: vs) = enc2 v ++ row2 vs := List.flatMap_cons
theorem row2_app (a b : List Int) : row2 (a ++ b) = row2 a ++ row2 b := List.flatMap_append
theorem row2_len (vs : List Int) : (row2 vs).length = 2 * vs.length := by
  induction vs with
  | nil => rfl
  | cons v vs ih => rw [row2_cons, List.length_append, ih, List.length_cons]; show 2 + _ = _; omega
theorem enc2_bytes (v : Int) : Bytes (enc2 v) := by
  intro x hx
  simp only [enc2, List.mem_cons, List.not_mem_nil, or_false] at hx
  omega
theorem row2_bytes (vs : List Int) : Bytes (row2 vs) := by
  intro x hx
  obtain ⟨v, _, h⟩ := List.mem_flatMap.1 hx
  exact enc2_bytes v x h
theorem leV_enc2 (v : Int) (h0 : 0 ≤ v) (h1 : v < 65536) : leV (enc2 v) = v := by
  simp only [enc2, leV]; omega
theorem rowV_row2 (pre vs post : List Int) (p : Int) (hp : p = pre.length) (m : Nat) (hm : m = vs.length) (hv : ∀ v ∈ vs, 0 ≤ v ∧ v < 65536) : rowV (pre ++ row2 vs ++ post) p m = vs := by
  subst hm
  refine List.ext_getElem (by simp [rowV]) (fun j h1 h2 => ?_)
  simp only [rowV, List.getElem_map, List.getElem_range]
  have hs : vs = vs.take j ++ vs[j] :: vs.drop (j + 1) := by rw [← List.drop_eq_getElem_cons h2, List.take_append_drop]
  have he : pre ++ row2 vs ++ post = (pre ++ row2 (vs.take j)) ++ enc2 vs[j] ++ (row2 (vs.drop (j + 1)) ++ post) := by
    conv => lhs; rw [hs]
    rw [row2_app, row2_cons]
    simp [List.append_assoc]
  have := hv vs[j] (List.getElem_mem h2)
  have h9 := numV_mid (pre ++ row2 (vs.take j)) (enc2 vs[j]) (row2 (vs.drop (j + 1)) ++ post) (p + 2 * (j : Int)) 2 (by rw [hp, List.length_append, row2_len, List.length_take]; omega) rfl
  rw [he, h9, leV_enc2 _ this.1 this.2]
theorem rowP_app (n : Nat) (page : Int) (b : List Int) : ∀ (a : List Int) (out : List S46), rowP n page (a ++ b) out = (rowP n page a out).bind (rowP n page b) := by
  intro a
  induction a with
  | nil => intro out; rfl
  | cons v a ih =>
    intro out
    simp only [List.cons_append, rowP]
    cases entryP n out (v / 4096) (page + v % 4096) with
    | none => rfl
    | some o => exact ih o
theorem leV_leB4 (v : Int) (h0 : 0 ≤ v) (h1 : v < 4294967296) : leV (leB v 4) = v := by
  rw [leV_leB v h0 4]; omega
def blk (page size : Int) (vs : List Int) : List Int := leB page 4 ++ leB size 4 ++ row2 vs
theorem blk_len (page size : Int) (vs : List Int) : (blk page size vs).length = 8 + 2 * vs.length := by
  simp [blk, leB_len, row2_len]; omega
theorem blk_bytes (page size : Int) (vs : List Int) : Bytes (blk page size vs) := ((leB_bytes _ _).append (leB_bytes _ _)).append (row2_bytes _)
theorem blockP_blk (pre vs post : List Int) (page size p e : Int) (out : List S46) (hp : p = pre.length) (hs : size = 8 + 2 * vs.length) (hv : ∀ v ∈ vs, 0 ≤ v ∧ v < 65536) (hs4 : size % 4 = 0) (hs1 : size < 4294967296)
    (hpg : page % 4096 = 0) (hp0 : 0 ≤ page) (hp1 : page < 4294967296) (he : p + size ≤ e) :
    blockP (pre ++ blk page size vs ++ post) p e out = (rowP (pre ++ blk page size vs ++ post).length page vs out).map (fun o => (size, o)) := by
  have e1 : numV (pre ++ blk page size vs ++ post) p 4 = page := by
    rw [show pre ++ blk page size vs ++ post = pre ++ leB page 4 ++ (leB size 4 ++ row2 vs ++ post) by simp [blk, List.append_assoc]]
    rw [numV_mid _ _ _ _ _ hp (by rw [leB_len]; rfl), leV_leB4 _ hp0 hp1]
  have e2 : numV (pre ++ blk page size vs ++ post) (p + 4) 4 = size := by
    rw [show pre ++ blk page size vs ++ post = (pre ++ leB page 4) ++ leB size 4 ++ (row2 vs ++ post) by simp [blk, List.append_assoc]]
    rw [numV_mid _ _ _ _ _ (by rw [List.length_append, leB_len, hp]; omega) (by rw [leB_len]; rfl), leV_leB4 _ (by omega) hs1]
  have e3 : rowV (pre ++ blk page size vs ++ post) (p + 8) ((size - 8) / 2).toNat = vs := by
    rw [show pre ++ blk page size vs ++ post = (pre ++ leB page 4 ++ leB size 4) ++ row2 vs ++ post by simp [blk, List.append_assoc]]
    exact rowV_row2 _ _ _ _ (by simp [leB_len, hp]) _ (by omega) hv
  unfold blockP
  rw [if_neg (by omega), e1, e2, e3, if_pos (by unfold formB; exact decide_eq_true ⟨hpg, by omega, hs4, by omega⟩)]
theorem blocksP_step (xs : List Int) (e : Int) (f : Nat) (p : Int) (out : List S46) (h : p < e) : blocksP xs e (f + 1) p out = (blockP xs p e out).bind fun r => blocksP xs e f (p + r.1) r.2 := by
  simp only [blocksP]; rw [if_pos h]
theorem blocksP_end (xs : List Int) (e : Int) (f : Nat) (p : Int) (out : List S46) (h : ¬ p < e) : blocksP xs e f p out = some out := by
  cases f with
  | zero => rfl
  | succ f => simp only [blocksP]; rw [if_neg h]
/-- one block, alone in its directory -/
theorem parse_one (pre vs : List Int) (page size rva : Int) (hp : rva = pre.length) (hr : rva ≠ 0) (hs : size = 8 + 2 * vs.length) (hv : ∀ v ∈ vs, 0 ≤ v ∧ v < 65536) (hs4 : size % 4 = 0) (hs1 : size < 4294967296)
    (hpg : page % 4096 = 0) (hp0 : 0 ≤ page) (hp1 : page < 4294967296) :
    parseP (pre ++ blk page size vs) rva size = rowP (pre ++ blk page size vs).length page vs [] := by
  unfold parseP
  have hl : (pre ++ blk page size vs).length = pre.length + (8 + 2 * vs.length) := by rw [List.length_append, blk_len]
  rw [if_neg hr, if_pos (by unfold inR; exact decide_eq_true ⟨by omega, by omega, by omega, by omega⟩)]
  obtain ⟨f, hf⟩ : ∃ f, size.toNat = f + 1 := ⟨size.toNat - 1, by omega⟩
  have hb := blockP_blk pre vs [] page size rva (rva + size) [] hp hs hv hs4 hs1 hpg hp0 hp1 (by omega)
  rw [List.append_nil] at hb
  rw [hf, blocksP_step _ _ _ _ _ (by omega), hb]
  cases rowP (pre ++ blk page size vs).length page vs [] with
  | none => rfl
  | some o => exact blocksP_end _ _ _ _ _ (by simp)
end Go.Proofs.Ytojlcoebbgafhaa
