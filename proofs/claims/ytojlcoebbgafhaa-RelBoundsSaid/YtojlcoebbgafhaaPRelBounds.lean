/- RelBounds, plain. -/
import Derived.Test.YtojlcoebbgafhaaRelQ
import Derived.Test.YtojlcoebbgafhaaRF5
namespace Go.Proofs.Ytojlcoebbgafhaa
open Go.RowKit
set_option linter.unusedVariables false
set_option linter.unusedSimpArgs false
open PR
open Go.Proofs.YtojlcoebbgafhaaW.PrintWords Go.Proofs.YtojlcoebbgafhaaW.PrintLast Go.Proofs.YtojlcoebbgafhaaW.PrintMore
set_option maxRecDepth 1000000 in
theorem rel_awake : slipwaylaw10_awake.f 100 = some true := by kernel_rfl
theorem rel_awake_k (k : Nat) (h : 100 ≤ k) : slipwaylaw10_awake.f k = some true := at_rounds (fun k => slipwaylaw10_awake.mono k) h rel_awake
def vs1 (m : Int) (j : Nat) : List Int := (12288 + 4 * (j : Int)) :: (if (j : Int) < m then [0] else [])
def vsTo (m : Int) (i : Nat) : List Int := (List.range i).flatMap (vs1 m)
theorem vsTo_succ (m : Int) (i : Nat) : vsTo m (i + 1) = vsTo m i ++ vs1 m i := by
  unfold vsTo; rw [List.range_succ, List.flatMap_append]; simp
theorem vsTo_len (m : Int) (i : Nat) : (vsTo m i).length ≤ 2 * i := by
  induction i with
  | zero => simp [vsTo]
  | succ i ih =>
    rw [vsTo_succ, List.length_append]
    have : (vs1 m i).length ≤ 2 := by unfold vs1; split <;> simp
    omega
theorem vsTo_in (m : Int) (i : Nat) (hi : i ≤ 600) : ∀ v ∈ vsTo m i, 0 ≤ v ∧ v < 65536 := by
  intro v hv
  obtain ⟨j, hj, h⟩ := List.mem_flatMap.1 hv
  have hj := List.mem_range.1 hj
  unfold vs1 at h
  rcases List.mem_cons.1 h with rfl | h
  · omega
  · split at h
    · obtain rfl := List.mem_singleton.1 h; omega
    · simp at h
def stTo (i : Nat) : List S46 := (List.range i).map fun j : Nat => ⟨3, 4 * (j : Int)⟩
theorem stTo_succ (i : Nat) : stTo (i + 1) = stTo i ++ [⟨3, 4 * (i : Int)⟩] := by
  unfold stTo; rw [List.range_succ, List.map_append]; rfl
theorem stTo_len (i : Nat) : (stTo i).length = i := by simp [stTo]
theorem hit_to (i : Nat) : hitB (stTo i) (4 * (i : Int)) 4 = false := by
  unfold hitB
  rw [List.any_eq_false]
  intro s hs
  obtain ⟨j, hj, rfl⟩ := List.mem_map.1 hs
  have hj := List.mem_range.1 hj
  unfold meets
  rw [show longK 3 = 4 from rfl]
  simp only [decide_eq_true_eq]
  omega
theorem entry0 (n : Nat) (out : List S46) (p : Int) : entryP n out 0 p = some out := if_pos rfl
theorem row_zero (n : Nat) (page : Int) (out : List S46) : rowP n page [0] out = some out := by
  simp only [rowP]
  rw [show (0 : Int) / 4096 = 0 from rfl, entry0]; rfl
theorem entry3 (n i : Nat) (h : i < 512) (hn : 4 * i + 4 ≤ n) : entryP n (stTo i) 3 (4 * (i : Int)) = some (stTo (i + 1)) := by
  unfold entryP
  rw [if_neg (by decide), if_neg ?_, stTo_succ]
  unfold badB
  rw [show longK 3 = 4 from rfl, hit_to, stTo_len]
  have h1 : inR n (4 * (i : Int)) 4 = true := by unfold inR; exact decide_eq_true (by omega)
  rw [h1, decide_eq_false (by decide), decide_eq_false (show ¬ i = 512 by omega)]
  decide
theorem entry512 (n : Nat) (p : Int) : entryP n (stTo 512) 3 p = none := by
  unfold entryP
  rw [if_neg (by decide), if_pos ?_]
  unfold badB
  rw [stTo_len]
  simp
theorem row_vs1 (n i : Nat) (m : Int) (h : i < 512) (hn : 4 * i + 4 ≤ n) : rowP n 0 (vs1 m i) (stTo i) = some (stTo (i + 1)) := by
  have e1 : (12288 + 4 * (i : Int)) / 4096 = 3 := by omega
  have e2 : 0 + (12288 + 4 * (i : Int)) % 4096 = 4 * (i : Int) := by omega
  unfold vs1
  split
  · rw [show [12288 + 4 * (i : Int), 0] = [12288 + 4 * (i : Int)] ++ [0] from rfl, rowP_app]; simp only [rowP]; rw [e1, e2, entry3 n i h hn]; exact row_zero n 0 (stTo (i + 1))
  · simp only [rowP]; rw [e1, e2, entry3 n i h hn]; rfl
theorem row_to (n : Nat) (m : Int) : ∀ i : Nat, i ≤ 512 → 4 * i ≤ n → rowP n 0 (vsTo m i) [] = some (stTo i) := by
  intro i
  induction i with
  | zero => intro _ _; rfl
  | succ i ih =>
    intro h hn
    rw [vsTo_succ, rowP_app, ih (by omega) (by omega)]
    exact row_vs1 n i m (by omega) (by omega)
theorem row_over (n : Nat) (m : Int) (hn : 2048 ≤ n) : ∀ d : Nat, rowP n 0 (vsTo m (513 + d)) [] = none := by
  intro d
  induction d with
  | zero =>
    rw [show 513 + 0 = 512 + 1 from rfl, vsTo_succ, rowP_app, row_to n m 512 (by omega) (by omega)]
    have e1 : (12288 + 4 * ((512 : Nat) : Int)) / 4096 = 3 := by decide
    show rowP n 0 (vs1 m 512) (stTo 512) = none
    unfold vs1
    simp only [rowP]
    rw [e1, entry512]; rfl
  | succ d ih => rw [show 513 + (d + 1) = (513 + d) + 1 from rfl, vsTo_succ, rowP_app, ih]; rfl
def padV (vs : List Int) : List Int := if vs.length % 2 = 0 then vs else vs ++ [0]
theorem padV_row (n : Nat) (vs : List Int) (o : Option (List S46)) (h : rowP n 0 vs [] = o) : rowP n 0 (padV vs) [] = o := by
  unfold padV
  split
  · exact h
  · rw [rowP_app, h]
    cases o with
    | none => rfl
    | some o => exact row_zero n 0 o
set_option maxRecDepth 100000 in
theorem or_fact : ∀ i : Fin 600, Go.bits .or .i64 12288 (wrap64 (4 * (i.val : Int))) = 12288 + 4 * (i.val : Int) := by decide +kernel
theorem loop0 (n : Nat) (m : Int) (hn : n ≤ 600) : ∀ (d i k : Nat), i + d = n → slipwaylaw10_RelBounds.l0 (k + d + 1) (n : Int) m (row2 (vsTo m i)) (i : Int) = slipwaylaw10_RelBounds.j1 k (n : Int) (row2 (padV (vsTo m n))) := by
  intro d
  induction d with
  | zero =>
    intro i k hi
    obtain rfl : i = n := by omega
    simp only [slipwaylaw10_RelBounds.l0]
    rw [if_neg (by omega)]
    have hl := vsTo_len m i
    have hr := row2_len (vsTo m i)
    unfold padV
    by_cases he : (vsTo m i).length % 2 = 0
    · rw [if_pos (by omega), if_pos he]; try rfl
    · rw [if_neg (by omega), if_neg he, row2_app]
      simp only [Option.bind_some]
      rw [if_pos (by simp; omega)]
      rfl
  | succ d ih =>
    intro i k hi
    have hl := vsTo_len m i
    have hr := row2_len (vsTo m i)
    have hw : wrap64 ((i : Int) + 1) = ((i + 1 : Nat) : Int) := by unfold wrap64; omega
    have ho : Go.bits .or .i64 12288 (wrap64 (4 * (i : Int))) = 12288 + 4 * (i : Int) := or_fact ⟨i, by omega⟩
    have h1 := ih (i + 1) k (by omega)
    rw [show k + (d + 1) + 1 = (k + d + 1) + 1 by omega]
    simp only [slipwaylaw10_RelBounds.l0]
    rw [if_pos (by omega), ho, hw]
    simp only [Option.bind_some]
    rw [if_pos (by simp; omega), ← h1, vsTo_succ, row2_app]
    unfold vs1
    by_cases hm : (i : Int) < m
    · rw [if_pos hm, if_pos hm, if_pos (by simp; omega)]
      rw [List.append_assoc]; rfl
    · rw [if_neg hm, if_neg hm]; rfl
theorem padV_even (vs : List Int) : (padV vs).length % 2 = 0 := by
  unfold padV; split
  · assumption
  · rw [List.length_append]; simp; omega
theorem padV_len (vs : List Int) : (padV vs).length ≤ vs.length + 1 := by
  unfold padV; split
  · omega
  · simp
theorem padV_in (vs : List Int) (h : ∀ v ∈ vs, 0 ≤ v ∧ v < 65536) : ∀ v ∈ padV vs, 0 ≤ v ∧ v < 65536 := by
  unfold padV; split
  · exact h
  · intro v hv
    rcases List.mem_append.1 hv with hv | hv
    · exact h v hv
    · obtain rfl := List.mem_singleton.1 hv; omega
theorem sites_to (i : Nat) : (sitesP (stTo i)).length = i := by
  induction i with
  | zero => rfl
  | succ i ih =>
    rw [stTo_succ]
    unfold sitesP at ih ⊢
    rw [List.flatMap_append, List.length_append, ih]
    rfl
theorem hdr_eq (w : Int) (h0 : 0 ≤ w) (h1 : w < 65536) : ([0, 0, 0, 0, w % 256, w / 256 % 256, 0, 0] : List Int) = leB 0 4 ++ leB w 4 := by
  have e1 : w / 2 ^ (8 * 2) % 256 = 0 := by rw [show (2 : Int) ^ (8 * 2) = 65536 from rfl]; omega
  have e2 : w / 2 ^ (8 * 3) % 256 = 0 := by rw [show (2 : Int) ^ (8 * 3) = 16777216 from rfl]; omega
  have e3 : w / 2 ^ (8 * 0) % 256 = w % 256 := by rw [show (2 : Int) ^ (8 * 0) = 1 from rfl, Int.ediv_one]
  have e4 : w / 2 ^ (8 * 1) % 256 = w / 256 % 256 := rfl
  show _ = [_, _, _, _] ++ ([] ++ [w / 2 ^ (8 * 0) % 256] ++ [w / 2 ^ (8 * 1) % 256] ++ [w / 2 ^ (8 * 2) % 256] ++ [w / 2 ^ (8 * 3) % 256])
  rw [e1, e2, e3, e4]
  rfl
theorem j1_ends (n : Nat) (m : Int) (h0 : 508 ≤ n) (hn : n ≤ 515) (k : Nat) (hk : 1000 ≤ k) : slipwaylaw10_RelBounds.j1 k (n : Int) (row2 (padV (vsTo m n))) = some true := by
  obtain ⟨vs, hvs⟩ : ∃ vs, padV (vsTo m n) = vs := ⟨_, rfl⟩
  have hev : vs.length % 2 = 0 := by rw [← hvs]; exact padV_even _
  have hle : vs.length ≤ 1031 := by have := padV_len (vsTo m n); have := vsTo_len m n; rw [← hvs]; omega
  have hin : ∀ v ∈ vs, 0 ≤ v ∧ v < 65536 := by rw [← hvs]; exact padV_in _ (vsTo_in m n (by omega))
  have hrow : ∀ N, rowP N 0 vs [] = rowP N 0 vs [] := fun _ => rfl
  have hlo : n ≤ 512 → ∀ N, 2048 ≤ N → rowP N 0 vs [] = some (stTo n) := fun h N hN => by rw [← hvs]; exact padV_row _ _ _ (row_to N m n h (by omega))
  have hhi : 512 < n → ∀ N, 2048 ≤ N → rowP N 0 vs [] = none := fun h N hN => by
    obtain ⟨d, hd⟩ : ∃ d, n = 513 + d := ⟨n - 513, by omega⟩
    rw [← hvs]; exact padV_row _ _ _ (by rw [hd]; exact row_over N m hN d)
  rw [hvs]
  clear hvs hrow
  obtain ⟨k, rfl⟩ : ∃ q, k = q + 1 := ⟨k - 1, by omega⟩
  have hrl := row2_len vs
  obtain ⟨w, hw⟩ : ∃ w : Int, w = 8 + 2 * vs.length := ⟨_, rfl⟩
  have hww : wrap64 (((row2 vs).length : Int) + 8) = w := by unfold wrap64; omega
  have hw0 : 0 ≤ w := by omega
  have hw1 : w < 65536 := by omega
  simp only [slipwaylaw10_RelBounds.j1]
  rw [if_pos (by omega), hww, hdr_eq w hw0 hw1]
  simp only [Option.bind_some]
  rw [if_pos (by rw [List.length_replicate, List.length_append, leB_len, leB_len]; omega), if_pos (by rw [List.length_append, List.length_replicate, List.length_append, leB_len, leB_len, hrl]; omega)]
  obtain ⟨pre, hpre⟩ : ∃ pre : List Int, List.replicate 4096 0 = pre := ⟨_, rfl⟩
  have hpl : pre.length = 4096 := by rw [← hpre, List.length_replicate]
  have hpb : Bytes pre := by rw [← hpre]; intro x hx; have := (List.mem_replicate.1 hx).2; omega
  have hxs : pre ++ (leB 0 4 ++ leB w 4) ++ row2 vs = pre ++ blk 0 w vs := by simp [blk, List.append_assoc]
  have hlen : (pre ++ blk 0 w vs).length = 4104 + 2 * vs.length := by rw [List.length_append, blk_len]; omega
  have hpar := parse_one pre vs 0 w 4096 (by omega) (by decide) hw hin (by omega) (by omega) (by decide) (by decide) (by decide)
  have hby : bytesB (pre ++ blk 0 w vs) = true := (bytesB_iff _).2 (hpb.append (blk_bytes _ _ _))
  rw [hpre, hxs]
  have hpf : rel_Parse.f (pre ++ blk 0 w vs) 4096 w = some ((rowP (pre ++ blk 0 w vs).length 0 vs []).getD [], errOf (rowP (pre ++ blk 0 w vs).length 0 vs [])) := by
    unfold rel_Parse.f
    rw [if_pos hby, if_pos (by omega), hpar]
  rw [hpf, Option.bind_some]
  have haw := rel_awake_k k (by omega)
  by_cases hgt : n ≤ 512
  · rw [hlo hgt _ (by omega), if_neg (by omega)]
    have hsk := Sites_some (stTo n) (by rw [stTo_len]; omega) k (by rw [stTo_len]; omega)
    have hw9 : wrap64 ((n : Int) - 1) = ((n - 1 : Nat) : Int) := by unfold wrap64; omega
    have hrd : (rd_T46 (stTo n) ((n - 1 : Nat) : Int)).f1 = 4 * ((n - 1 : Nat) : Int) := by
      unfold rd_T46 stTo
      rw [Int.toNat_natCast, List.getD_eq_getElem?_getD, List.getElem?_map, List.getElem?_range (by omega)]
      rfl
    dsimp only [Option.getD_some]
    have hsl := stTo_len n
    rw [hw9, if_pos (show errOf (some (stTo n)) = 0 from rfl), if_pos (by omega), if_pos (by omega), if_pos (by omega), if_pos (hrd.trans (by unfold wrap64; omega)), hsk]
    simp only [Option.bind_some]
    rw [if_pos (by rw [sites_to]), haw]
    rfl
  · rw [hhi (by omega) _ (by omega), if_pos (by omega)]
    dsimp only [Option.getD_none]
    rw [if_pos (show errOf none = 9 from rfl), if_pos (by rw [List.length_nil]; rfl), haw]
    rfl
end Go.Proofs.Ytojlcoebbgafhaa
