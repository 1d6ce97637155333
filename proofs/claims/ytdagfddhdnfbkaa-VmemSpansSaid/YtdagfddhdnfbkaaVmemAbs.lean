/- A memory told without its blocks, and Map, Prot, Free, New on it. -/
import Derived.Test.YtdagfddhdnfbkaaVmemMap
namespace Go.Proofs.Ytdagfddhdnfbkaa
open Go.RowKit
set_option linter.unusedVariables false
set_option linter.unusedSimpArgs false
open Go.Proofs.YtdagfddhdnfbkaaW.PrintWords
structure AMem where
  most : Int
  cnt : Nat
  pg : Int → Option (List Int × Int)
/-- a *Mem at block bm tells M; F: its blocks -/
def Has (w : World) (F : Nat → Prop) (bm : Nat) (M : AMem) : Prop :=
  ∃ bp l ct, MemR w 0 bm bp M.most l ct ∧ M.cnt = l.length ∧ (∀ q, M.pg q = (l.lookup q).map ct) ∧ 0 ≤ M.most ∧ M.most ≤ 1024 ∧ (M.cnt : Int) ≤ M.most ∧ (∀ b, F b ↔ b = bm ∨ b = bp ∨ ∃ x ∈ l, x.2 = b)
theorem Has.keep {w w' : World} {F : Nat → Prop} {bm : Nat} {M : AMem} (h : Has w F bm M) (hb : Below w.heap.size w w') : Has w' F bm M := by
  obtain ⟨bp, l, ct, h1, h2⟩ := h
  exact ⟨bp, l, ct, h1.keep hb, h2⟩
/-- .. kept where nothing of its blocks is turned -/
theorem Has.keeps {w w' : World} {F S : Nat → Prop} {bm : Nat} {M : AMem} (h : Has w F bm M) (hb : Keeps S w w') (hS : ∀ b, F b → ¬ S b) : Has w' F bm M := by
  obtain ⟨bp, l, ct, h1, h2, h3, h4, h5, h6, h7⟩ := h
  obtain ⟨l1, l2, l3, l4⟩ := h1.lt
  refine ⟨bp, l, ct, ⟨?_, h1.map.keep (hb.block _ l2 (hS _ ((h7 _).2 (.inr (.inl rfl))))), h1.keys, h1.blks, fun x hx => ⟨Nat.zero_le _, ?_, (h1.page x hx).2.2⟩, h1.lo⟩, h2, h3, h4, h5, h6, h7⟩
  · rw [hb.block _ l1 (hS _ ((h7 _).2 (.inl rfl)))]; exact h1.head
  · rw [hb.block _ (l4 x hx).1 (hS _ ((h7 _).2 (.inr (.inr ⟨x, hx, rfl⟩))))]; exact (h1.page x hx).2.1
theorem Has.lt {w : World} {F : Nat → Prop} {bm : Nat} {M : AMem} (h : Has w F bm M) (b : Nat) (hb : F b) : b < w.heap.size := by
  obtain ⟨bp, l, ct, h1, h2, h3, h4, h5, h6, h7⟩ := h
  obtain ⟨l1, l2, l3, l4⟩ := h1.lt
  rcases (h7 b).1 hb with rfl | rfl | ⟨x, hx, rfl⟩
  · exact l1
  · exact l2
  · exact (l4 x hx).1
/-- what an act leaves: the memory tells M', nothing else is turned -/
def After (w w' : World) (F : Nat → Prop) (bm : Nat) (M' : AMem) : Prop := ∃ F' : Nat → Prop, Has w' F' bm M' ∧ Keeps F w w' ∧ ∀ b, F' b → F b ∨ w.heap.size ≤ b
theorem After.same {w w' : World} {F : Nat → Prop} {bm : Nat} {M : AMem} (h : Has w F bm M) (hb : Below w.heap.size w w') : After w w' F bm M :=
  ⟨F, h.keep hb, Keeps.of_below hb _, fun _ x => .inl x⟩
theorem After.trans {a b c : World} {F : Nat → Prop} {bm : Nat} {M1 M2 : AMem} (h : After a b F bm M1) (k : ∀ F', Has b F' bm M1 → After b c F' bm M2) : After a c F bm M2 := by
  obtain ⟨F1, h1, h2, h3⟩ := h
  obtain ⟨F2, k1, k2, k3⟩ := k F1 h1
  refine ⟨F2, k1, ⟨k2.os.trans h2.os, k2.tape.trans h2.tape, k2.output.trans h2.output, Nat.le_trans h2.size k2.size, fun i hi hn => ?_⟩, fun b hb => ?_⟩
  · rw [k2.block i (Nat.lt_of_lt_of_le hi h2.size) (fun x => (h3 i x).elim hn (fun y => by omega))]
    exact h2.block i hi hn
  · rcases k3 b hb with h | h
    · exact h3 b h
    · exact .inr (Nat.le_trans h2.size h)
def anyP (M : AMem) (p : Int) (N : Nat) : Bool := (rowL p N).any fun q => (M.pg q).isSome
def mapCode (M : AMem) (p n pr : Int) : Int := if mayB p n = true ∧ (0 ≤ pr ∧ pr ≤ 15) ∧ anyP M p n.toNat = false then (if M.most - M.cnt < n then 13 else 0) else 1
def mapM (M : AMem) (p n pr : Int) : AMem := if mapCode M p n pr = 0 then ⟨M.most, M.cnt + n.toNat, fun q => if q ∈ rowL p n.toNat then some (zeros 4096, pr) else M.pg q⟩ else M
theorem Map_calls (F : Nat → Prop) (bm : Nat) (M : AMem) (p n pr : Int) (w : World) (hM : Has w F bm M) (hp0 : 0 ≤ p) :
    Calls Try.prog 13 #[.pointer (some ⟨bm, 0, none⟩), .int .u64 p, .int .i64 n, .int .i64 pr] w fun e w' => e = .returned (.int .i64 (mapCode M p n pr)) ∧ After w w' F bm (mapM M p n pr) := by
  obtain ⟨bp, l, ct, h1, h2, h3, h4, h5, h6, h7⟩ := id hM
  have hany : ∀ N, anyP M p N = (rowL p N).any (isM l) := fun N => by
    unfold anyP
    congr 1
    funext q
    rw [h3 q, Option.isSome_map]; rfl
  by_cases c1 : mayB p n = true
  · obtain ⟨N, rfl, n1, n2, n3, n4⟩ := may_row c1
    by_cases c2 : 0 ≤ pr ∧ pr ≤ 15
    · cases c3 : (rowL p N).any (isM l) with
      | true =>
        have e1 : mapCode M p N pr = 1 := if_neg (fun h => by rw [Int.toNat_natCast, hany, c3] at h; exact absurd h.2.2 (by decide))
        unfold mapM
        rw [e1]
        exact (Map_taken 0 bm bp M.most l ct p N pr w h1 hp0 c1 c2 c3).mono fun e w' ⟨a, b⟩ => ⟨a, After.same hM b⟩
      | false =>
        have hc : mapCode M p N pr = (if M.most - M.cnt < (N : Int) then 13 else 0) := if_pos ⟨c1, c2, by rw [Int.toNat_natCast, hany, c3]⟩
        by_cases c4 : M.most - M.cnt < (N : Int)
        · rw [if_pos c4] at hc
          unfold mapM
          rw [hc]
          exact (Map_full 0 bm bp M.most l ct p N pr w h1 hp0 c1 c2 c3 h4 h5 (by omega) (by omega)).mono fun e w' ⟨a, b⟩ => ⟨a, After.same hM b⟩
        · rw [if_neg c4] at hc
          unfold mapM
          rw [hc]
          refine (Map_ok 0 bm bp M.most l ct p N pr w h1 (Nat.zero_le _) hp0 c1 c2 c3 h4 h5 (by omega) (by omega)).mono ?_
          rintro e w' ⟨rfl, l', ct', a1, a2, a3, a4⟩
          refine ⟨rfl, fun b => b = bm ∨ b = bp ∨ ∃ x ∈ l', x.2 = b, ⟨bp, l', ct', a1, ?_, ?_, h4, h5, ?_, fun b => Iff.rfl⟩, a3.mono fun k _ e => (h7 k).2 (.inr (.inl e)), ?_⟩
          · show M.cnt + _ = _
            rw [a2.1, Int.toNat_natCast]; omega
          · intro q
            show (if _ then _ else _) = _
            rw [a2.2 q, Int.toNat_natCast, h3 q]
          · show ((M.cnt + ((N : Int)).toNat : Nat) : Int) ≤ M.most
            rw [Int.toNat_natCast]; omega
          · rintro b (h | h | ⟨x, hx, rfl⟩)
            · exact .inl ((h7 b).2 (.inl h))
            · exact .inl ((h7 b).2 (.inr (.inl h)))
            · by_cases hlt : x.2 < w.heap.size
              · exact .inl ((h7 _).2 (.inr (.inr ⟨x, a4 x hx hlt, rfl⟩)))
              · exact .inr (by omega)
    · have e1 : mapCode M p N pr = 1 := if_neg (fun h => c2 h.2.1)
      unfold mapM
      rw [e1]
      exact (Map_prot _ p N pr w hp0 c1 c2).mono fun e w' ⟨a, b⟩ => ⟨a, b ▸ After.same hM (Below.refl _ _)⟩
  · have e1 : mapCode M p n pr = 1 := if_neg (fun h => c1 h.1)
    unfold mapM
    rw [e1]
    exact (Map_may _ p n pr w hp0 (by simpa using c1)).mono fun e w' ⟨a, b⟩ => ⟨a, b ▸ After.same hM (Below.refl _ _)⟩
def newM (n : Int) : AMem := ⟨min (max n 0) 1024, 0, fun _ => none⟩
def NewHas (w : World) (n : Int) (e : Ending) (w' : World) : Prop :=
  ∃ bm F, e = .returned (.pointer (some ⟨bm, 0, none⟩)) ∧ Has w' F bm (newM n) ∧ Below w.heap.size w w' ∧ ∀ b, F b → w.heap.size ≤ b
theorem NewH_calls (n : Int) (w : World) : Calls Try.prog 12 #[.int .i64 n] w (NewHas w n) :=
  (New_calls n w).mono fun e w' ⟨bm, bp, h1, h2, h3⟩ => by
    have h := h2 (fun _ => ([], 0))
    exact ⟨bm, fun b => b = bm ∨ b = bp ∨ ∃ x ∈ ([] : List (Int × Nat)), x.2 = b, h1, ⟨bp, [], fun _ => ([], 0), ⟨h.head, h.map, h.keys, h.blks, fun x hx => absurd hx (by simp), ⟨Nat.zero_le _, Nat.zero_le _⟩⟩, rfl, fun q => rfl, by show 0 ≤ min (max n 0) 1024; omega, by show min (max n 0) 1024 ≤ 1024; omega, by show ((0 : Nat) : Int) ≤ min (max n 0) 1024; omega, fun b => Iff.rfl⟩, h3, by
      rintro b (rfl | rfl | ⟨x, hx, -⟩)
      · exact h.lo.1
      · exact h.lo.2
      · simp at hx⟩
def protM (M : AMem) (p : Int) : Option Int := (M.pg (baseV p)).map (·.2)
theorem ProtH_calls (F : Nat → Prop) (bm : Nat) (M : AMem) (p : Int) (w : World) (hM : Has w F bm M) (h0 : 0 ≤ p) (h1 : p < 18446744073709551616) :
    Calls Try.prog 33 #[.pointer (some ⟨bm, 0, none⟩), .int .u64 p] w fun e w' => e = .returned (.tuple #[.int .i64 ((protM M p).getD 0), .bool (protM M p).isSome]) ∧ ∃ n, w' = w.drewN n := by
  obtain ⟨bp, l, ct, k1, k2, k3, -⟩ := hM
  have e : protM M p = protO l ct p := by unfold protM protO; rw [k3]; cases l.lookup (baseV p) <;> rfl
  rw [e]
  exact Prot_calls 0 bm bp M.most l ct p w k1 h0 h1
theorem FreeH_calls (F : Nat → Prop) (bm : Nat) (M : AMem) (w : World) (hM : Has w F bm M) :
    Calls Try.prog 22 #[.pointer (some ⟨bm, 0, none⟩)] w fun e w' => e = .returned (.int .i64 (M.most - M.cnt)) ∧ ∃ n, w' = w.drewN n := by
  obtain ⟨bp, l, ct, k1, k2, k3, k4, k5, k6, -⟩ := hM
  rw [k2]
  exact Free_calls 0 bm bp M.most l ct w k1 k4 k5 (by omega)
end Go.Proofs.Ytdagfddhdnfbkaa
