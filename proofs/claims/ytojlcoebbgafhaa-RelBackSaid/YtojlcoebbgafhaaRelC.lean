/- slices.Clone of bytes. -/
import Derived.Test.YtojlcoebbgafhaaRel3
namespace Go.Proofs.Ytojlcoebbgafhaa
open Go.RowKit
set_option linter.unusedVariables false
set_option linter.unusedSimpArgs false
open Go.Proofs.YtojlcoebbgafhaaW.PrintWords Go.Proofs.YtojlcoebbgafhaaW.PrintLast Go.Proofs.YtojlcoebbgafhaaW.PrintMore
theorem eq_nil_some (ad : Addr) (n c : Nat) (W : World) : (binOp .eql 29 (.slice (some ad) n c) (.slice none 0 0)).run Try.prog W = .ok (.bool false) W := by kernel_rfl
theorem eq_nil_none (n c : Nat) (W : World) : (binOp .eql 29 (.slice none n c) (.slice none 0 0)).run Try.prog W = .ok (.bool true) W := by kernel_rfl
def ClonePost (B n : Nat) (xs : List Int) (w : World) (e : Ending) (w' : World) : Prop :=
  ∃ v, e = .returned v ∧ w'.ownsRow B 5 1 v n (nums .u8 xs) ∧ Below B w w'
set_option maxHeartbeats 4000000 in
set_option maxRecDepth 20000 in
theorem Clone_calls (A : Option Addr) (n c : Nat) (xs : List Int) (w : World) (hn : n ≤ 140737488355328) (hr : ReadsInt w .u8 A n xs) :
    Calls Try.prog 48 #[.slice A n c] w (ClonePost w.heap.size n xs w) := by
  have hxs : xs.length = n := hr.1
  have HR := Aside0.mk hr
  clear hr
  cases A with
  | none =>
    have hn0 : n = 0 := by
      have h := HR.out.2.2
      by_cases h0 : 0 < n
      · obtain ⟨ad, h1, _⟩ := h h0; cases h1
      · omega
    subst hn0
    obtain rfl : xs = [] := List.length_eq_zero_iff.1 hxs
    have hq1 := eq_nil_none
    have hq2 := eq_nil_some
    go_enter Try.func48, Try.ntmps48
    go_wp2
    go_ret
    exact ⟨_, rfl, own_nil _ _ _ _, Below.refl _ _⟩
  | some ad =>
    have hq1 := eq_nil_none
    have hq2 := eq_nil_some
    go_enter Try.func48, Try.ntmps48
    have HO0 := World.ownsRow_lit (base := w.heap.size) (e := 5) (size := 1) w #[] 0 (Nat.le_refl _) (by decide) (by simp)
    go_wp2_with (first | (at_builtin; refine print_append_row (w0 := w) w.heap.size rfl (.tmp 5) (.tmp 6) 29 5 .u8 1 rfl Try.underlying29 info_u8 (by decide) (.slice (some ⟨w.heap.size, 0, none⟩) 0 0) [] xs (some ad) n c (by rfl) (by rfl) (by exact HO0) (by exact HR.out.allocS _) (by exact Below.alloc (Below.refl _ _) (Nat.le_refl _) _) (by simp) (by simp; omega) ?_; intro v1 w1 hown hb1 hg hat))
    clear hg hat
    go_wp2
    go_ret
    rw [List.nil_append, hxs] at hown
    exact ⟨_, rfl, hown, hb1⟩
end Go.Proofs.Ytojlcoebbgafhaa
