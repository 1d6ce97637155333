/- The laws of room: a memory of the call's own, and awake. -/
import Derived.Test.YtdagfddhdnfbkaaRoom
namespace Go.Proofs.Ytdagfddhdnfbkaa
open Go.RowKit
set_option linter.unusedVariables false
set_option linter.unusedSimpArgs false
open Go.Proofs.YtdagfddhdnfbkaaW.PrintWords
/-- a memory that the call made tells M -/
def On (w0 w : World) (bm : Nat) (M : AMem) : Prop := ∃ F : Nat → Prop, Has w F bm M ∧ (∀ b, F b → w0.heap.size ≤ b) ∧ Below w0.heap.size w0 w
theorem On.drew {w0 w : World} {bm : Nat} {M : AMem} (h : On w0 w bm M) (n : Nat) : On w0 (w.drewN n) bm M := by
  obtain ⟨F, h1, h2, h3⟩ := h
  exact ⟨F, h1.keep (bdrew (Below.refl _ _) n), h2, bdrew h3 n⟩
theorem On.below {w0 w w' : World} {bm : Nat} {M : AMem} (h : On w0 w bm M) (hb : Below w.heap.size w w') : On w0 w' bm M := by
  obtain ⟨F, h1, h2, h3⟩ := h
  exact ⟨F, h1.keep hb, h2, h3.trans (hb.mono h3.size)⟩
theorem On.after {w0 w w' : World} {F : Nat → Prop} {bm : Nat} {M' : AMem} (h2 : ∀ b, F b → w0.heap.size ≤ b) (h3 : Below w0.heap.size w0 w) (h : After w w' F bm M') : On w0 w' bm M' := by
  obtain ⟨F', k1, k2, k3⟩ := h
  exact ⟨F', k1, fun b hb => (k3 b hb).elim (h2 b) (fun x => Nat.le_trans h3.size x), h3.trans (k2.below h3.size h2)⟩
theorem On.out {w0 w : World} {bm : Nat} {M : AMem} (h : On w0 w bm M) : Below w0.heap.size w0 w := by obtain ⟨F, h1, h2, h3⟩ := h; exact h3
theorem OnNew (n : Int) (w : World) : Calls Try.prog 12 #[.int .i64 n] w fun e w' => ∃ bm, e = .returned (.pointer (some ⟨bm, 0, none⟩)) ∧ On w w' bm (newM n) :=
  (NewH_calls n w).mono fun e w' ⟨bm, F, h1, h2, h3, h4⟩ => ⟨bm, h1, F, h2, h4, h3⟩
theorem OnMap {w0 w : World} {bm : Nat} {M : AMem} (h : On w0 w bm M) (p n pr : Int) (hp0 : 0 ≤ p) :
    Calls Try.prog 13 #[.pointer (some ⟨bm, 0, none⟩), .int .u64 p, .int .i64 n, .int .i64 pr] w fun e w' => e = .returned (.int .i64 (mapCode M p n pr)) ∧ On w0 w' bm (mapM M p n pr) := by
  obtain ⟨F, h1, h2, h3⟩ := h
  exact (Map_calls F bm M p n pr w h1 hp0).mono fun e w' ⟨a, b⟩ => ⟨a, On.after h2 h3 b⟩
theorem OnFind {w0 w : World} {bm : Nat} {M : AMem} (h : On w0 w bm M) (n : Int) :
    Calls Try.prog 14 #[.pointer (some ⟨bm, 0, none⟩), .int .i64 n] w fun e w' => ∃ a ok, e = .returned (.tuple #[.int .u64 a, .bool ok]) ∧ FindIs M n a ok ∧ On w0 w' bm M := by
  obtain ⟨F, h1, h2, h3⟩ := id h
  exact (Find_calls F bm M n w h1).mono fun e w' ⟨a, ok, b, c, m, d⟩ => ⟨a, ok, b, c, d ▸ h.drew m⟩
theorem OnIs {w0 w : World} {bm : Nat} {M : AMem} (h : On w0 w bm M) (p n : Int) (hp0 : 0 ≤ p) (hp1 : p < 18446744073709551616) :
    Calls Try.prog 15 #[.pointer (some ⟨bm, 0, none⟩), .int .u64 p, .int .i64 n] w fun e w' => e = .returned (.bool (isB M p n)) ∧ On w0 w' bm M := by
  obtain ⟨F, h1, h2, h3⟩ := id h
  exact (Is_calls F bm M p n w h1 hp0 hp1).mono fun e w' ⟨b, m, d⟩ => ⟨b, d ▸ h.drew m⟩
theorem FindIs.first {M : AMem} {n a : Int} {ok : Bool} (h : FindIs M n a ok) (j : Nat) (hj : j < 255) (h1 : okF M (65536 + j * 65536) n = true) (h2 : ∀ i : Nat, i < j → okF M (65536 + i * 65536) n = false) :
    a = 65536 + j * 65536 ∧ ok = true := by
  rcases h with ⟨rfl, k, hk, rfl, h3, h4⟩ | ⟨-, -, h3⟩
  · have : k = j := by
      rcases Nat.lt_trichotomy k j with h | h | h
      · rw [h2 k h] at h3; exact absurd h3 (by decide)
      · exact h
      · rw [h4 j h] at h1; exact absurd h1 (by decide)
    subst this
    exact ⟨rfl, rfl⟩
  · rw [h3 j hj] at h1; exact absurd h1 (by decide)
def aw1 : AMem := mapM (newM 4) 65536 1 1
theorem aw_pg (q : Int) : aw1.pg q = if q = 65536 then some (zeros 4096, 1) else none := by
  have e : mapCode (newM 4) 65536 1 1 = 0 := by decide
  unfold aw1 mapM
  rw [if_pos e]
  show (if q ∈ [(65536 : Int) + 0 * 4096] then _ else _) = _
  by_cases h : q = 65536
  · subst h; rfl
  · rw [if_neg h, if_neg (by simpa using h)]; rfl
theorem aw_any (p : Int) (N : Nat) : anyP aw1 p N = (rowL p N).any fun q => decide (q = 65536) := by
  unfold anyP
  congr 1
  funext q
  rw [aw_pg]
  by_cases h : q = 65536
  · rw [if_pos h, decide_eq_true h]; rfl
  · rw [if_neg h, decide_eq_false h]; rfl
set_option maxHeartbeats 800000 in
theorem awake4_calls (w : World) : Calls Try.prog 16 #[] w fun e w' => e = .returned (.bool true) ∧ Below w.heap.size w w' := by
  have h1 : ∀ a ok, FindIs (newM 4) 1 a ok → a = 65536 ∧ ok = true := fun a ok h => h.first 0 (by decide) (by decide) (fun i hi => absurd hi (by omega))
  have h2 : ∀ a ok, FindIs aw1 2 a ok → a = 131072 ∧ ok = true := fun a ok h => h.first 1 (by decide) (by unfold okF isB; rw [aw_any]; decide) (fun i hi => by
    obtain rfl : i = 0 := by omega
    unfold okF isB; rw [aw_any]; decide)
  have h3 : isB aw1 131072 1 = true := by unfold isB; rw [aw_any]; decide
  have h4 : isB aw1 65536 1 = false := by unfold isB; rw [aw_any]; decide
  go_enter Try.func16, Try.ntmps16
  go_wp2_with fail
  refine (OnNew 4 w).mono ?_
  rintro e w1 ⟨bm, rfl, HO⟩
  go_wp2_with fail
  refine (OnFind HO 1).mono ?_
  rintro e w2 ⟨a, ok, rfl, HF, HO⟩
  obtain ⟨rfl, rfl⟩ := h1 _ _ HF
  go_wp2_with fail
  refine (OnMap HO 65536 1 1 (by decide)).mono ?_
  rintro e w3 ⟨rfl, HO⟩
  go_wp2_with fail
  refine (OnFind HO 2).mono ?_
  rintro e w4 ⟨a, ok, rfl, HF, HO⟩
  obtain ⟨rfl, rfl⟩ := h2 _ _ HF
  go_wp2_with fail
  refine (OnIs HO 131072 1 (by decide) (by decide)).mono ?_
  rintro e w5 ⟨rfl, HO⟩
  have h3' : isB (mapM (newM 4) 65536 1 1) 131072 1 = true := h3
  have h4' : isB (mapM (newM 4) 65536 1 1) 65536 1 = false := h4
  rw [h3']
  go_wp2_with fail
  refine (OnIs HO 65536 1 (by decide) (by decide)).mono ?_
  rintro e w6 ⟨rfl, HO⟩
  rw [h4']
  have HB := Aside0.mk HO.out
  clear HO HF h1 h2 h3 h4 h3' h4'
  go_wp2
  go_ret
  exact ⟨rfl, HB.out⟩
end Go.Proofs.Ytdagfddhdnfbkaa
