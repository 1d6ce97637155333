/- BoundBounds, plain. -/
import Derived.Test.YtojlcoebbgafhaaE4
import Derived.Test.YtojlcoebbgafhaaBF3
namespace Go.Proofs.Ytojlcoebbgafhaa.Pure
open Go.RowKit Go.Proofs.Ytojlcoebbgafhaa Go.Proofs.Ytojlcoebbgafhaa.PB Go.Proofs.YtojlcoebbgafhaaW.PrintWords Go.Proofs.YtojlcoebbgafhaaW.PrintLast
def dg (i : Nat) : ByteArray := (slipwayref1_Digits.f 30 (i : Int)).getD ⟨#[]⟩
def bTo (i : Nat) : List S25 := (List.range i).map fun j : Nat => ⟨(⟨#[109]⟩ : ByteArray) ++ dg j, (j : Int) + 1⟩
theorem bTo_succ (i : Nat) : bTo (i + 1) = bTo i ++ [⟨(⟨#[109]⟩ : ByteArray) ++ dg i, (i : Int) + 1⟩] := by
  unfold bTo; rw [List.range_succ, List.map_append]; rfl
theorem bTo_len (i : Nat) : (bTo i).length = i := by simp [bTo]
set_option maxRecDepth 100000 in
theorem dg_all : (List.range 36).all (fun i => match slipwayref1_Digits.f 30 (i : Int) with | some b => decide (b = dg i) && decide (b.size ≤ 2) | none => false) = true := by kernel_rfl
theorem dg_is (i : Nat) (h : i < 36) : slipwayref1_Digits.f 30 (i : Int) = some (dg i) ∧ (dg i).size ≤ 2 := by
  have := List.all_eq_true.1 dg_all i (List.mem_range.2 h)
  revert this
  cases slipwayref1_Digits.f 30 (i : Int) with
  | none => intro h; cases h
  | some b =>
    intro h
    rw [Bool.and_eq_true] at h
    have h1 := of_decide_eq_true h.1
    have h2 := of_decide_eq_true h.2
    subst h1
    exact ⟨rfl, h2⟩
theorem dg_k (i k : Nat) (h : i < 36) (hk : 30 ≤ k) : slipwayref1_Digits.f k (i : Int) = some (dg i) := at_rounds (fun k => slipwayref1_Digits.mono _ k) hk (dg_is i h).1
def forceN {α : Sort _} (n : Nat) (f : Nat → α) : α := Nat.casesOn n (f 0) (fun m => f (m + 1))
theorem forceN_eq {α : Sort _} (n : Nat) (f : Nat → α) : forceN n f = f n := by cases n <;> rfl
def forceI {α : Sort _} (x : Int) (f : Int → α) : α := Int.casesOn x (fun n => forceN n fun m => f (Int.ofNat m)) (fun n => forceN n fun m => f (Int.negSucc m))
theorem forceI_eq {α : Sort _} : ∀ (x : Int) (f : Int → α), forceI x f = f x
  | .ofNat n, f => forceN_eq n (fun m => f (Int.ofNat m))
  | .negSucc n, f => forceN_eq n (fun m => f (Int.negSucc m))
def forceL {α : Sort _} : List Int → (List Int → α) → α
  | [], f => f []
  | x :: xs, f => forceI x fun y => forceL xs fun ys => f (y :: ys)
theorem forceL_eq {α : Sort _} : ∀ (xs : List Int) (f : List Int → α), forceL xs f = f xs
  | [], f => rfl
  | x :: xs, f => by rw [forceL, forceI_eq, forceL_eq xs]
def at9K {α : Sort _} (start : Int) (more : List Int) : Nat → List Int → List S25 → (List Int → α) → α
  | _, b, [], f => f b
  | i, b, x :: l, f => forceN i fun i => forceL (step9 start more b i x) fun b => at9K start more (i + 1) b l f
theorem at9K_eq {α : Sort _} (start : Int) (more : List Int) (f : List Int → α) : ∀ (l : List S25) (i : Nat) (b : List Int), at9K start more i b l f = f (at9 start more i b l)
  | [], i, b => rfl
  | x :: l, i, b => by rw [at9K, forceN_eq, forceL_eq, at9K_eq start more f l, at9]
def tstB (n : Nat) (t105 : List Int) : Option Bool := ((bound_Parse.f 300 t105 16 0).bind fun bt108 => (if ((bt108.2 == 0) != (decide ((n : Int) ≤ 32))) = true then some true else (if bt108.2 = 0 then ((slipwayref1_SameBounds.f 300 bt108.1 (bTo n)).bind fun t112 => (if t112 = true then some false else some true)) else (if bt108.2 = 8 then some ((bt108.1.length : Int) != 0) else some true))))
def tstF (n : Nat) : Option Bool := forceL (List.replicate (16 + 8 * min n 34 + 8) (0 : Int)) fun b => at9K 16 [] 0 b ((bTo n).take 34) fun t => tstB n t
def tst (n : Nat) : Option Bool := (slipwaylaw9_Made.f (bTo n) ([] : List Int)).bind (tstB n)
theorem made_is (n : Nat) (hn : n ≤ 35) : slipwaylaw9_Made.f (bTo n) ([] : List Int) = some (at9P 16 (bTo n) []) := by
  have hall : ((bTo n).all fun x => decide (x.f0.size ≤ 1000000)) = true := by
    rw [List.all_eq_true]
    intro x hx
    obtain ⟨j, hj, rfl⟩ := List.mem_map.1 hx
    have := (dg_is j (by have := List.mem_range.1 hj; omega)).2
    refine decide_eq_true ?_
    show ((⟨#[109]⟩ : ByteArray) ++ dg j).size ≤ 1000000
    rw [ByteArray.size_append]
    have : (⟨#[109]⟩ : ByteArray).size = 1 := rfl
    omega
  have hat : slipwaylaw9_At.f 16 (bTo n) [] = some (at9P 16 (bTo n) []) := by
    unfold slipwaylaw9_At.f
    rw [if_pos ⟨by decide, by decide, by rw [bTo_len]; omega, by decide⟩, if_pos hall]
    rfl
  unfold slipwaylaw9_Made.f
  rw [hat]
  rfl
theorem tst_eq (n : Nat) (hn : n ≤ 35) : tst n = tstF n := by
  unfold tst tstF
  rw [made_is n hn, Option.bind_some, forceL_eq, at9K_eq]
  unfold at9P
  rw [bTo_len]
  rfl
set_option maxRecDepth 100000 in
theorem tst28 : tstF 28 = some false := by kernel_rfl
set_option maxRecDepth 100000 in
theorem tst29 : tstF 29 = some false := by kernel_rfl
set_option maxRecDepth 100000 in
theorem tst30 : tstF 30 = some false := by kernel_rfl
set_option maxRecDepth 100000 in
theorem tst31 : tstF 31 = some false := by kernel_rfl
set_option maxRecDepth 100000 in
theorem tst32 : tstF 32 = some false := by kernel_rfl
set_option maxRecDepth 100000 in
theorem tst33 : tstF 33 = some false := by kernel_rfl
set_option maxRecDepth 100000 in
theorem tst34 : tstF 34 = some false := by kernel_rfl
set_option maxRecDepth 100000 in
theorem tst35 : tstF 35 = some false := by kernel_rfl
theorem tst_ok (n : Nat) (h : 28 ≤ n) (hn : n ≤ 35) : tst n = some false := by
  rw [tst_eq n hn]
  have : n = 28 ∨ n = 29 ∨ n = 30 ∨ n = 31 ∨ n = 32 ∨ n = 33 ∨ n = 34 ∨ n = 35 := by omega
  rcases this with rfl | rfl | rfl | rfl | rfl | rfl | rfl | rfl
  · exact tst28
  · exact tst29
  · exact tst30
  · exact tst31
  · exact tst32
  · exact tst33
  · exact tst34
  · exact tst35
theorem step0 (n i k : Nat) (a1 a2 : Int) (hi : i < n) (hn : n ≤ 35) (hk : 30 ≤ k) : slipwaylaw9_BoundBounds.l0 (k + 1) n a1 a2 (bTo i) i = slipwaylaw9_BoundBounds.l0 k n a1 a2 (bTo (i + 1)) ((i + 1 : Nat) : Int) := by
  rw [slipwaylaw9_BoundBounds.l0]
  rw [if_pos (show (i : Int) < (n : Int) by omega), dg_k i k (by omega) hk, Option.bind_some]
  have := (dg_is i (by omega)).2
  have hl := bTo_len i
  rw [if_pos (by omega), if_pos (by omega), show wrap64 ((i : Int) + 1) = ((i + 1 : Nat) : Int) by unfold wrap64; omega, bTo_succ]
  rfl
theorem loop0 (n : Nat) (a1 a2 : Int) (hn : n ≤ 35) : ∀ d i k, d + i = n → 30 ≤ k → slipwaylaw9_BoundBounds.l0 (k + d) n a1 a2 (bTo i) i = slipwaylaw9_BoundBounds.l0 k n a1 a2 (bTo n) n
  | 0, i, k, h, _ => by obtain rfl : i = n := by omega
                        rfl
  | d + 1, i, k, h, hk => by
    rw [show k + (d + 1) = (k + d) + 1 by omega, step0 n i (k + d) a1 a2 (by omega) hn (by omega)]
    exact loop0 n a1 a2 hn d (i + 1) k (by omega) hk
theorem end0 (n : Nat) (a1 a2 : Int) (h : 28 ≤ n) (hn : n ≤ 35) : slipwaylaw9_BoundBounds.l0 301 n a1 a2 (bTo n) n = slipwaylaw9_BoundBounds.j1 300 a1 a2 (bTo n) false := by
  rw [slipwaylaw9_BoundBounds.l0, if_neg (show ¬ (n : Int) < (n : Int) by omega)]
  have ht := tst_ok n h hn
  unfold tst tstB at ht
  cases h1 : slipwaylaw9_Made.f (bTo n) ([] : List Int) with
  | none => rw [h1] at ht; cases ht
  | some t =>
    rw [h1, Option.bind_some] at ht
    rw [Option.bind_some]
    cases h2 : bound_Parse.f 300 t 16 0 with
    | none => rw [h2] at ht; cases ht
    | some bt =>
      rw [h2, Option.bind_some] at ht
      rw [Option.bind_some]
      split at ht
      · cases ht
      · rename_i hc; rw [if_neg hc]
        split at ht
        · rename_i hd; rw [if_pos hd]
          cases h3 : slipwayref1_SameBounds.f 300 bt.1 (bTo n) with
          | none => rw [h3] at ht; cases ht
          | some b =>
            rw [h3, Option.bind_some] at ht
            rw [Option.bind_some]
            cases b
            · cases ht
            · rfl
        · rename_i hd; rw [if_neg hd]
          split at ht
          · rename_i he; rw [if_pos he, Option.some.inj ht]
          · cases ht
theorem bTo_take (n : Nat) (h : 6 ≤ n) : (bTo n).take 6 = bTo 6 := by
  unfold bTo
  rw [← List.map_take, List.take_range, Nat.min_eq_left h]
theorem tmod6 (b : Int) (h0 : 0 ≤ b) : Int.tmod b 6 = 0 ∨ Int.tmod b 6 = 1 ∨ Int.tmod b 6 = 2 ∨ Int.tmod b 6 = 3 ∨ Int.tmod b 6 = 4 ∨ Int.tmod b 6 = 5 := by
  rw [Int.tmod_eq_emod_of_nonneg h0]; omega
theorem to3 (b : Int) (h : 0 ≤ b ∧ b ≤ 3) : b = 0 ∨ b = 1 ∨ b = 2 ∨ b = 3 := by omega
set_option maxRecDepth 1000000 in
theorem j1_ends (n : Nat) (a1 a2 : Int) (h : 6 ≤ n) : slipwaylaw9_BoundBounds.j1 300 a1 a2 (bTo n) false = some true := by
  rw [slipwaylaw9_BoundBounds.j1, if_neg (by decide), bTo_len, if_pos (show (6 : Int) ≤ (n : Int) by omega), show (6 : Int).toNat = 6 from rfl, bTo_take n h]
  have h1 := tmod6 (Go.bits .and .i64 a1 255) (and_i64 a1 255 (by decide)).1
  have h2 := to3 (Go.bits .and .i64 a2 3) (and_i64 a2 3 (by decide))
  generalize Int.tmod (Go.bits .and .i64 a1 255) 6 = c at h1 ⊢
  generalize Go.bits .and .i64 a2 3 = m at h2 ⊢
  rcases h1 with rfl | rfl | rfl | rfl | rfl | rfl <;> rcases h2 with rfl | rfl | rfl | rfl <;> (refine Eq.trans (b := some true) ?_ rfl; kernel_rfl)
theorem BoundBounds : slipwaylaw9_BoundBounds.Pure := by
  intro a0 a1 a2 _ _ _
  have h : 0 ≤ Go.bits .and .i64 a0 7 ∧ Go.bits .and .i64 a0 7 ≤ 7 := and_i64 a0 7 (by decide)
  obtain ⟨n, hn⟩ := Int.eq_ofNat_of_zero_le h.1
  have h2 : n ≤ 7 := by have := h.2; rw [hn] at this; omega
  refine ⟨301 + (28 + n), ?_⟩
  unfold slipwaylaw9_BoundBounds.f
  rw [hn, show wrap64 ((n : Int) + 28) = ((28 + n : Nat) : Int) by unfold wrap64; omega]
  have := loop0 (28 + n) a1 a2 (by omega) (28 + n) 0 301 (by omega) (by omega)
  exact this.trans ((end0 (28 + n) a1 a2 (by omega) (by omega)).trans (j1_ends (28 + n) a1 a2 (by omega)))
end Go.Proofs.Ytojlcoebbgafhaa.Pure
