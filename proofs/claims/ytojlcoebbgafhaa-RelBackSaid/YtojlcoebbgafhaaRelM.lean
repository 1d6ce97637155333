/- What law 10's Made makes, plain. -/
import Derived.Test.YtojlcoebbgafhaaRelAp
import Derived.Test.YtojlcoebbgafhaaRelAw
import Derived.Test.YtojlcoebbgafhaaRF22
namespace Go.Proofs.Ytojlcoebbgafhaa
open Go.RowKit
set_option linter.unusedVariables false
set_option linter.unusedSimpArgs false
open PR
open Go.Proofs.YtojlcoebbgafhaaW.PrintWords Go.Proofs.YtojlcoebbgafhaaW.PrintLast Go.Proofs.YtojlcoebbgafhaaW.PrintMore
theorem wrap_succ (k : Nat) (h : k < 9223372036854775807) : wrap64 ((k : Int) + 1) = ((k + 1 : Nat) : Int) := by unfold wrap64; omega
def entI (s : S46) : Int := Go.bits .or .i64 (wrap64 ((Go.bits .and .i64 s.f0 15) * 4096)) (Go.bits .and .i64 s.f1 4095)
theorem or_i64 (x y : Int) (hx0 : 0 ≤ x) (hx1 : x ≤ 15) (hy0 : 0 ≤ y) (hy1 : y ≤ 4095) : Go.bits .or .i64 (x * 4096) y = x * 4096 + y := by
  obtain ⟨a, rfl⟩ := Int.eq_ofNat_of_zero_le hx0
  obtain ⟨b, rfl⟩ := Int.eq_ofNat_of_zero_le hy0
  have h := Nat.two_pow_add_eq_or_of_lt (i := 12) (show b < 2 ^ 12 by omega) a
  have e1 : ((a : Int) * 4096) = ((a * 4096 : Nat) : Int) := by omega
  show IntKind.i64.wrap ((BitVec.ofInt 64 ((a : Int) * 4096) ||| BitVec.ofInt 64 (b : Int)).toNat : Int) = _
  rw [e1, BitVec.ofInt_natCast, BitVec.ofInt_natCast, BitVec.toNat_or, BitVec.toNat_ofNat, BitVec.toNat_ofNat, Nat.mod_eq_of_lt (by omega), Nat.mod_eq_of_lt (by omega)]
  rw [show a * 4096 = 2 ^ 12 * a by omega, ← h, IntKind.wrap_i64]
  omega
theorem entI_eq (s : S46) : ∃ x y : Int, 0 ≤ x ∧ x ≤ 15 ∧ 0 ≤ y ∧ y ≤ 4095 ∧ x = Go.bits .and .i64 s.f0 15 ∧ y = Go.bits .and .i64 s.f1 4095 ∧ entI s = x * 4096 + y := by
  have h1 : 0 ≤ Go.bits .and .i64 s.f0 15 ∧ Go.bits .and .i64 s.f0 15 ≤ 15 := and_i64 s.f0 15 (by decide)
  have h2 : 0 ≤ Go.bits .and .i64 s.f1 4095 ∧ Go.bits .and .i64 s.f1 4095 ≤ 4095 := and_i64 s.f1 4095 (by decide)
  refine ⟨_, _, h1.1, h1.2, h2.1, h2.2, rfl, rfl, ?_⟩
  unfold entI
  have hw : wrap64 ((Go.bits .and .i64 s.f0 15) * 4096) = Go.bits .and .i64 s.f0 15 * 4096 := by
    generalize Go.bits .and .i64 s.f0 15 = x at *
    unfold wrap64; omega
  rw [hw]
  exact or_i64 _ _ h1.1 h1.2 h2.1 h2.2
theorem entI_range (s : S46) : 0 ≤ entI s ∧ entI s < 65536 := by
  obtain ⟨x, y, h1, h2, h3, h4, _, _, h⟩ := entI_eq s
  rw [h]; omega
theorem ent_row (s : S46) : row2 ([s].map entI) = [entI s % 256, entI s / 256 % 256] := by
  rw [List.map_singleton, row2_cons, row2_nil, List.append_nil]; rfl
def pageI (s : S46) : Int := s.f1 / 4096
def sameP (pg : Int) (s : S46) : Bool := decide (pageI s = pg)
def runB (pg : Int) (run : List S46) : List Int := blk (pg * 4096) (8 + 2 * ((padV (run.map entI)).length : Int)) (padV (run.map entI))
def blocksOf : Nat → List S46 → List Int
  | 0, _ => []
  | _, [] => []
  | n + 1, s :: l => runB (pageI s) ((s :: l).takeWhile (sameP (pageI s))) ++ blocksOf n ((s :: l).dropWhile (sameP (pageI s)))
theorem runB_bytes (pg : Int) (run : List S46) : Bytes (runB pg run) := blk_bytes _ _ _
theorem blocksOf_bytes : ∀ (n : Nat) (l : List S46), Bytes (blocksOf n l) := by
  intro n
  induction n with
  | zero => intro l x hx; simp [blocksOf] at hx
  | succ n ih =>
    intro l
    cases l with
    | nil => intro x hx; simp [blocksOf] at hx
    | cons s l => exact (runB_bytes _ _).append (ih _)
theorem padV_len2 (vs : List Int) : (padV vs).length ≤ vs.length + 1 := padV_len vs
theorem blocksOf_len : ∀ (n : Nat) (l : List S46), (blocksOf n l).length ≤ 12 * l.length := by
  intro n
  induction n with
  | zero => intro l; simp [blocksOf]
  | succ n ih =>
    intro l
    cases l with
    | nil => simp [blocksOf]
    | cons s l =>
      have h1 := ih ((s :: l).dropWhile (sameP (pageI s)))
      have h2 : (runB (pageI s) ((s :: l).takeWhile (sameP (pageI s)))).length ≤ 12 * ((s :: l).takeWhile (sameP (pageI s))).length := by
        unfold runB
        rw [blk_len]
        have := padV_len (((s :: l).takeWhile (sameP (pageI s))).map entI)
        rw [List.length_map] at this
        have h3 : 1 ≤ ((s :: l).takeWhile (sameP (pageI s))).length := by
          rw [List.takeWhile_cons, show sameP (pageI s) s = true by unfold sameP; exact decide_eq_true rfl, if_pos rfl]; simp
        omega
      have h3 : (s :: l).length = ((s :: l).takeWhile (sameP (pageI s))).length + ((s :: l).dropWhile (sameP (pageI s))).length := by
        rw [← List.length_append, List.takeWhile_append_dropWhile]
      show (runB _ _ ++ blocksOf n _).length ≤ _
      rw [List.length_append, h3]
      omega
def preB (n : Nat) : List Int := (List.range n).map fun i : Nat => ((i : Int) * i + 3) % 256
theorem preB_bytes (n : Nat) : Bytes (preB n) := by
  intro x hx
  obtain ⟨i, _, rfl⟩ := List.mem_map.1 hx
  omega
theorem preB_len (n : Nat) : (preB n).length = n := by simp [preB]
/-- as many bytes as were begun -/
def preI (n i : Nat) : List Int := (List.range n).map fun j : Nat => if j < i then ((j : Int) * j + 3) % 256 else 0
theorem preI_len (n i : Nat) : (preI n i).length = n := by simp [preI]
theorem preI_set (n i : Nat) (h : i < n) : (preI n i).set i (((i : Int) * i + 3) % 256) = preI n (i + 1) := by
  refine List.ext_getElem (by rw [List.length_set, preI_len, preI_len]) (fun j h1 h2 => ?_)
  rw [List.getElem_set]
  simp only [preI, List.getElem_map, List.getElem_range]
  by_cases e : i = j
  · subst e; rw [if_pos rfl, if_pos (by omega)]
  · rw [if_neg e]
    by_cases h3 : j < i
    · rw [if_pos h3, if_pos (by omega)]
    · rw [if_neg h3, if_neg (by omega)]
theorem preI_zero (n : Nat) : List.replicate n (0 : Int) = preI n 0 := by
  refine List.ext_getElem (by rw [List.length_replicate, preI_len]) (fun j h1 h2 => ?_)
  simp [preI]
theorem preI_end (n : Nat) : preI n n = preB n := by
  unfold preI preB
  refine List.map_congr_left (fun j hj => ?_)
  rw [if_pos (List.mem_range.1 hj)]
theorem app4 (a b c d : List Int) : a ++ b ++ c ++ d = a ++ (b ++ c ++ d) := by simp [List.append_assoc]
def InPg (l : List S46) : Prop := ∀ s ∈ l, 0 ≤ s.f1 ∧ s.f1 < 1000000
section
variable (l : List S46) (a : Nat) (hl : l.length ≤ 55) (hin : InPg l) (ha : a ≤ 20000)
theorem page_w (s : S46) (h : 0 ≤ s.f1 ∧ s.f1 < 1000000) : wrap64 (Int.tdiv s.f1 4096) = pageI s := by
  rw [Int.tdiv_eq_ediv_of_nonneg h.1]
  unfold pageI wrap64
  omega
theorem bytes4 (k : Nat) (v : Int) (h0 : 0 ≤ v) (h1 : v < 18446744073709551616) : slipwayref1_Bytes.f (IntKind.u64.wrap v) 4 = some (strOfNums (leB v 4)) := by
  unfold slipwayref1_Bytes.f
  rw [show IntKind.u64.wrap v = v by rw [IntKind.wrap_u64]; omega, if_pos ⟨h0, h1⟩]
  rfl
include hl hin ha
theorem made_l2 (r : List Int × Int × Int) (blocks : List Int) (hb : blocks.length ≤ 100000) (i : Nat) (hi : i < l.length) (pg : Int) (hpg : pg = pageI l[i])
    (hnext : ∀ run rest, l.drop i = run ++ rest → run = (l.drop i).takeWhile (sameP pg) → Ev (fun q => slipwaylaw10_Made.l1 q l a (preB a) (blocks ++ runB pg run) ((i + run.length : Nat) : Int)) r) :
    ∀ (d k : Nat) (done rest : List S46), k + d = l.length → l.drop i = done ++ rest → i + done.length = k → (∀ s ∈ done, sameP pg s = true) →
      Ev (fun q => slipwaylaw10_Made.l2 q l a (preB a) blocks pg (row2 (done.map entI)) (k : Int)) r := by
  have _ := ha
  have hfin : ∀ (k : Nat) (done rest : List S46), k ≤ l.length → l.drop i = done ++ rest → i + done.length = k → (∀ s ∈ done, sameP pg s = true) → (rest = [] ∨ ∃ s t, rest = s :: t ∧ sameP pg s = false) →
      Ev (fun q => slipwaylaw10_Made.j4 q l a (preB a) blocks pg (row2 (done.map entI)) (k : Int)) r := by
    intro k done rest hk hd hkd hall hrest
    have hrun : done = (l.drop i).takeWhile (sameP pg) := by
      rw [hd, List.takeWhile_append_of_pos (fun s hs => hall s hs)]
      rcases hrest with rfl | ⟨s, t, rfl, hs⟩
      · simp
      · rw [List.takeWhile_cons_of_neg (by rw [hs]; decide)]; simp
    have hn := hnext done rest hd hrun
    rw [hkd] at hn
    have hp := hin l[i] (List.getElem_mem hi)
    have hpg0 : 0 ≤ pg ∧ pg < 1000 := by rw [hpg]; unfold pageI; omega
    have hdl : done.length ≤ 55 := by have : done.length + rest.length = l.length - i := by rw [← List.length_append, ← hd, List.length_drop]
                                      omega
    have hrl := row2_len (done.map entI)
    rw [List.length_map] at hrl
    have HW1 := Aside0.mk (show wrap64 (pg * 4096) = pg * 4096 by unfold wrap64; omega)
    refine Ev.step (fun q => ?_) hn
    simp only [slipwaylaw10_Made.j4]
    rw [HW1.out, bytes4 0 (pg * 4096) (by omega) (by omega)]
    have HSZ := Aside0.mk (show (strOfNums (leB (pg * 4096) 4)).size = 4 by rw [strOf_size, leB_len])
    have hbo : bytesOf (strOfNums (leB (pg * 4096) 4)) = leB (pg * 4096) 4 := bytesOf_strOf _ (leB_bytes _ _)
    have h60 : (done.map entI).length ≤ 60 := by rw [List.length_map]; exact Nat.le_trans hdl (by decide)
    have h61 : (done.map entI ++ [0]).length ≤ 60 := by rw [List.length_append, List.length_map]; exact Nat.le_trans (Nat.succ_le_succ hdl) (by decide)
    by_cases hev : (done.map entI).length % 2 = 0
    · have hpv : done.map entI = padV (done.map entI) := by unfold padV; rw [if_pos hev]
      rw [if_pos (by rw [List.length_map] at hev; omega)]
      rw [Option.bind_some]
      have hvl := row2_len (done.map entI)
      have HW2 := Aside0.mk (show wrap64 (8 + ((row2 (done.map entI)).length : Int)) = 8 + 2 * ((done.map entI).length : Int) by unfold wrap64; omega)
      have g1 : blocks.length + 4 < 140737488355328 := by omega
      have g2 : 0 ≤ 8 + 2 * ((done.map entI).length : Int) := by omega
      have g3 : 8 + 2 * ((done.map entI).length : Int) < 18446744073709551616 := by omega
      have g4 : blocks.length + 4 + 4 + (row2 (done.map entI)).length < 140737488355328 := by omega
      have g5 : blocks.length + 4 + 4 < 140737488355328 := by omega
      rw [HSZ.out, if_pos g1, Option.bind_some, hbo, HW2.out, bytes4 0 _ g2 g3, Option.bind_some, strOf_size, leB_len, List.length_append, leB_len, if_pos g5, Option.bind_some, bytesOf_strOf _ (leB_bytes _ _), List.length_append, List.length_append, leB_len, leB_len, if_pos g4]
      unfold runB blk
      rw [← hpv]
      exact congrArg (fun z => slipwaylaw10_Made.l1 q l a (preB a) z (k : Int)) (app4 blocks _ _ (row2 (done.map entI)))
    · have hpv : done.map entI ++ [0] = padV (done.map entI) := by unfold padV; rw [if_neg hev]
      rw [if_neg (by rw [List.length_map] at hev; omega)]
      rw [Option.bind_some, if_pos (by rw [hrl]; show 2 * done.length + 2 < _; omega), Option.bind_some, Option.bind_some]
      have e : row2 (done.map entI) ++ [0, 0] = row2 (done.map entI ++ [0]) := by rw [row2_app]; rfl
      rw [e]
      have hvl := row2_len (done.map entI ++ [0])
      have HW2 := Aside0.mk (show wrap64 (8 + ((row2 (done.map entI ++ [0])).length : Int)) = 8 + 2 * ((done.map entI ++ [0]).length : Int) by unfold wrap64; omega)
      have g1 : blocks.length + 4 < 140737488355328 := by omega
      have g2 : 0 ≤ 8 + 2 * ((done.map entI ++ [0]).length : Int) := by omega
      have g3 : 8 + 2 * ((done.map entI ++ [0]).length : Int) < 18446744073709551616 := by omega
      have g4 : blocks.length + 4 + 4 + (row2 (done.map entI ++ [0])).length < 140737488355328 := by omega
      have g5 : blocks.length + 4 + 4 < 140737488355328 := by omega
      rw [HSZ.out, if_pos g1, Option.bind_some, hbo, HW2.out, bytes4 0 _ g2 g3, Option.bind_some, strOf_size, leB_len, List.length_append, leB_len, if_pos g5, Option.bind_some, bytesOf_strOf _ (leB_bytes _ _), List.length_append, List.length_append, leB_len, leB_len, if_pos g4]
      unfold runB blk
      rw [← hpv]
      exact congrArg (fun z => slipwaylaw10_Made.l1 q l a (preB a) z (k : Int)) (app4 blocks _ _ (row2 (done.map entI ++ [0])))
  intro d
  induction d with
  | zero =>
    intro k done rest hk hd hkd hall
    have hr0 : rest = [] := by
      have : done.length + rest.length = l.length - i := by rw [← List.length_append, ← hd, List.length_drop]
      exact List.length_eq_zero_iff.1 (by omega)
    refine Ev.step (fun q => ?_) (hfin k done rest (by omega) hd hkd hall (.inl hr0))
    simp only [slipwaylaw10_Made.l2]
    rw [if_neg (by omega)]
  | succ d ih =>
    intro k done rest hk hd hkd hall
    have hlt : k < l.length := by omega
    have hrest : rest = l[k] :: l.drop (k + 1) := by
      have h1 : (l.drop i).drop done.length = rest := by rw [hd, List.drop_left]
      rw [List.drop_drop, hkd] at h1
      rw [← h1]; exact List.drop_eq_getElem_cons hlt
    have hp := hin l[k] (List.getElem_mem hlt)
    have HPW := Aside0.mk (page_w l[k] hp)
    by_cases hs : sameP pg l[k] = true
    · have hs' : pageI l[k] = pg := of_decide_eq_true hs
      have hrec := ih (k + 1) (done ++ [l[k]]) (l.drop (k + 1)) (by omega) (by rw [hd, hrest]; simp) (by rw [List.length_append, List.length_singleton]; omega) (fun s hs2 => by
        rcases List.mem_append.1 hs2 with h | h
        · exact hall s h
        · obtain rfl := List.mem_singleton.1 h; exact hs)
      have hdl : done.length ≤ 55 := by omega
      have hrl := row2_len (done.map entI)
      rw [List.length_map] at hrl
      refine Ev.step (fun q => ?_) hrec
      simp only [slipwaylaw10_Made.l2]
      rw [if_pos (by omega), if_pos (by omega), if_pos (by omega), rd46 l k hlt, HPW.out, if_pos hs', wrap_succ k (by omega), Option.bind_some, if_pos (by rw [hrl]; show 2 * done.length + 2 < _; omega), List.map_append, row2_app, show Go.bits .or .i64 (wrap64 ((Go.bits .and .i64 l[k].f0 15) * 4096)) (Go.bits .and .i64 l[k].f1 4095) = entI l[k] from rfl, ent_row]
    · refine Ev.step (fun q => ?_) (hfin k done rest (by omega) hd hkd hall (.inr ⟨_, _, hrest, by simpa using hs⟩))
      have hs' : ¬ pageI l[k] = pg := fun h => hs (decide_eq_true h)
      simp only [slipwaylaw10_Made.l2]
      rw [if_pos (by omega), if_pos (by omega), if_pos (by omega), rd46 l k hlt, HPW.out, if_neg hs']
theorem made_l1 : ∀ (n i : Nat) (blocks : List Int), l.length ≤ i + n → i ≤ l.length → blocks.length ≤ 12 * i →
    Ev (fun q => slipwaylaw10_Made.l1 q l a (preB a) blocks (i : Int)) (preB a ++ (blocks ++ blocksOf n (l.drop i)), (a : Int), ((blocks ++ blocksOf n (l.drop i)).length : Int)) := by
  have hend : ∀ (n i : Nat) (blocks : List Int), i = l.length → blocks.length ≤ 12 * i →
      Ev (fun q => slipwaylaw10_Made.l1 q l a (preB a) blocks (i : Int)) (preB a ++ (blocks ++ blocksOf n (l.drop i)), (a : Int), ((blocks ++ blocksOf n (l.drop i)).length : Int)) := by
    intro n i blocks hi hb
    have hd : l.drop i = [] := List.drop_of_length_le (by omega)
    have hbo : blocksOf n ([] : List S46) = [] := by cases n <;> rfl
    rw [hd, hbo, List.append_nil]
    refine Ev.step (f := fun q => slipwaylaw10_Made.j2 q l a (preB a) blocks (i : Int) false) (fun q => ?_) (Ev.step (fun q => ?_) (Ev.now _))
    · simp only [slipwaylaw10_Made.l1]
      rw [if_neg (by omega)]
    · simp only [slipwaylaw10_Made.j2]
      rw [if_neg (by decide), if_pos (by rw [preB_len]; omega)]
  intro n
  induction n with
  | zero => intro i blocks hi hi2 hb; exact hend 0 i blocks (by omega) hb
  | succ n ih =>
    intro i blocks hi hi2 hb
    by_cases hlt : i < l.length
    · have hd : l.drop i = l[i] :: l.drop (i + 1) := List.drop_eq_getElem_cons hlt
      have hp := hin l[i] (List.getElem_mem hlt)
      have HPW := Aside0.mk (page_w l[i] hp)
      have hbo : blocksOf (n + 1) (l.drop i) = runB (pageI l[i]) ((l.drop i).takeWhile (sameP (pageI l[i]))) ++ blocksOf n ((l.drop i).dropWhile (sameP (pageI l[i]))) := by
        rw [hd]; rfl
      have h2 := made_l2 l a hl hin ha (preB a ++ (blocks ++ blocksOf (n + 1) (l.drop i)), (a : Int), ((blocks ++ blocksOf (n + 1) (l.drop i)).length : Int)) blocks (by omega) i hlt (pageI l[i]) rfl
        (fun run rest hr hrun => by
          have hrest : rest = (l.drop i).dropWhile (sameP (pageI l[i])) := by
            have h3 := List.takeWhile_append_dropWhile (p := sameP (pageI l[i])) (l := l.drop i)
            rw [← hrun] at h3
            exact List.append_cancel_left (hr.symm.trans h3.symm)
          have hdr : l.drop (i + run.length) = rest := by rw [← List.drop_drop, hr, List.drop_left]
          have hlen : run.length + rest.length = l.length - i := by rw [← List.length_append, ← hr, List.length_drop]
          have hpos : 1 ≤ run.length := by
            rw [hrun, hd, List.takeWhile_cons, show sameP (pageI l[i]) l[i] = true by unfold sameP; exact decide_eq_true rfl, if_pos rfl]; simp
          have hrl : (runB (pageI l[i]) run).length ≤ 12 * run.length := by
            unfold runB
            rw [blk_len]
            have := padV_len (run.map entI)
            rw [List.length_map] at this
            omega
          have h4 := ih (i + run.length) (blocks ++ runB (pageI l[i]) run) (by omega) (by omega) (by rw [List.length_append]; omega)
          rw [hdr, hrest, List.append_assoc, hrun, ← hbo] at h4
          rw [hrun]
          exact h4) (l.length - i) i [] (l.drop i) (by omega) rfl rfl (fun s hs => by cases hs)
      refine Ev.step (f := fun q => slipwaylaw10_Made.j2 q l a (preB a) blocks (i : Int) true) (fun q => ?_) (Ev.step (fun q => ?_) h2)
      · simp only [slipwaylaw10_Made.l1]
        rw [if_pos (by omega), decide_eq_true (by omega)]
      · simp only [slipwaylaw10_Made.j2]
        rw [if_pos trivial, if_pos (by omega), if_pos (by omega), rd46 l i hlt, HPW.out]
        rfl
    · exact hend (n + 1) i blocks (by omega) hb
theorem made_l0 (r : List Int × Int × Int) (h : Ev (fun q => slipwaylaw10_Made.l1 q l a (preB a) [] 0) r) : ∀ (d i : Nat), i + d = a → Ev (fun q => slipwaylaw10_Made.l0 q l a (preI a i) (a : Int) (i : Int)) r := by
  have _ := hl
  have _ := hin
  intro d
  induction d with
  | zero =>
    intro i hi
    obtain rfl : i = a := by omega
    rw [preI_end]
    refine Ev.step (fun q => ?_) h
    simp only [slipwaylaw10_Made.l0]
    rw [if_neg (by omega)]
  | succ d ih =>
    intro i hi
    have hlen := preI_len a i
    have HW := Aside0.mk (show (wrap64 ((wrap64 ((i : Int) * i)) + 3)) % 256 = ((i : Int) * i + 3) % 256 by
      have h1 : (i : Int) * i ≤ 20000 * 20000 := Int.mul_le_mul (by omega) (by omega) (by omega) (by omega)
      have h2 : 0 ≤ (i : Int) * i := Int.mul_nonneg (by omega) (by omega)
      generalize (i : Int) * i = z at *
      rw [show wrap64 z = z by unfold wrap64; omega, show wrap64 (z + 3) = z + 3 by unfold wrap64; omega])
    refine Ev.step (fun q => ?_) (ih (i + 1) (by omega))
    simp only [slipwaylaw10_Made.l0]
    rw [if_pos (by omega), if_pos (by omega), if_pos (by omega), HW.out, Int.toNat_natCast, preI_set a i (by omega), wrap_succ i (by omega)]
theorem Made_ev : Ev (fun q => slipwaylaw10_Made.f q l a) (preB a ++ blocksOf l.length l, (a : Int), ((blocksOf l.length l).length : Int)) := by
  have h1 := made_l1 l a hl hin ha l.length 0 [] (by omega) (by omega) (by simp)
  rw [List.nil_append, List.drop_zero] at h1
  have h0 := made_l0 l a hl hin ha _ h1 a 0 (by omega)
  refine Ev.congr (fun q => ?_) h0
  unfold slipwaylaw10_Made.f
  rw [if_pos (by omega), Int.toNat_natCast, if_pos (by omega), Option.bind_some, preI_zero, preI_len]
  rfl
end
end Go.Proofs.Ytojlcoebbgafhaa
