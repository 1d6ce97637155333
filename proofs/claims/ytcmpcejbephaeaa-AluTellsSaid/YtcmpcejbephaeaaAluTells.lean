/- The walk of the law AluTells. -/
import Derived.Test.YtcmpcejbephaeaaAluLaws
import Derived.Deep.LoopGhost
import Derived.Deep.RegionHeld3
namespace Go.Proofs.Ytcmpcejbephaeaa
open Go.RowKit
set_option linter.unusedVariables false
set_option linter.unusedSimpArgs false
attribute [local go_sem ↓] cell_set_isSome
theorem keep_step {W w' : World} {a : Addr} {v : Value} (hb : Below W.heap.size W w') (h : W.cell? a = some v) : w'.cell? a = some v :=
  (hb.cell (World.block_lt_of_cell? _ _ h)).trans h
abbrev TS (w : World) (B0 B1 B2 : Nat) (z s c o : Bool) (r : AR) (w' : World) : Prop :=
  w'.cell? ⟨B0, 0, none⟩ = some (.bool z) ∧ w'.cell? ⟨B0, 1, none⟩ = some (.bool s) ∧ w'.cell? ⟨B0, 2, none⟩ = some (.bool c) ∧ w'.cell? ⟨B0, 3, none⟩ = some (.bool o) ∧ w'.cell? ⟨B1, 0, none⟩ = some (.bool (r).z) ∧ w'.cell? ⟨B1, 1, none⟩ = some (.bool (r).s) ∧ w'.cell? ⟨B1, 2, none⟩ = some (.bool (r).c) ∧ w'.cell? ⟨B1, 3, none⟩ = some (.bool (r).o) ∧ w'.cell? ⟨B2, 0, none⟩ = some (.int .u64 (r).v) ∧ w'.cell? ⟨B2, 1, none⟩ = some (.bool (r).z) ∧ w'.cell? ⟨B2, 2, none⟩ = some (.bool (r).s) ∧ w'.cell? ⟨B2, 3, none⟩ = some (.bool (r).c) ∧ w'.cell? ⟨B2, 4, none⟩ = some (.bool (r).o) ∧ Below w.heap.size w w'
theorem TS_step {w W w' : World} {B0 B1 B2 : Nat} {z s c o : Bool} {r : AR} (hb : Below W.heap.size W w') (h : TS w B0 B1 B2 z s c o r W) : TS w B0 B1 B2 z s c o r w' :=
  ⟨keep_step hb h.1, keep_step hb h.2.1, keep_step hb h.2.2.1, keep_step hb h.2.2.2.1, keep_step hb h.2.2.2.2.1, keep_step hb h.2.2.2.2.2.1, keep_step hb h.2.2.2.2.2.2.1, keep_step hb h.2.2.2.2.2.2.2.1, keep_step hb h.2.2.2.2.2.2.2.2.1, keep_step hb h.2.2.2.2.2.2.2.2.2.1, keep_step hb h.2.2.2.2.2.2.2.2.2.2.1, keep_step hb h.2.2.2.2.2.2.2.2.2.2.2.1, keep_step hb h.2.2.2.2.2.2.2.2.2.2.2.2.1, Below.trans h.2.2.2.2.2.2.2.2.2.2.2.2.2 (hb.mono h.2.2.2.2.2.2.2.2.2.2.2.2.2.size)⟩
def boxIs (w : World) (B : Nat) (vs : List Value) : Prop := ∀ i v, vs[i]? = some v → w.cell? ⟨B, i, none⟩ = some v
set_option maxHeartbeats 4000000 in
theorem tells_walk (op cc a b : Int) (z s c o : Bool) (w : World) (hAB : Hid (∀ k : Int, aluR k a b z s c o = rAlu k a b z s c o)) :
    Calls Try.prog 12 #[.int .i64 op, .int .i64 cc, .int .u64 a, .int .u64 b, .agg #[.bool z, .bool s, .bool c, .bool o]] w fun e w' => e = .returned (.bool true) ∧ Below w.heap.size w w' := by
  have hu2 := Try.underlying51
  have hu := Try.underlying44
  have HB0 : Below w.heap.size w w := Below.refl _ _
  go_enter Try.func12, Try.ntmps12
  go_wp2
  go_loopw [0, 1, 11] (fun x y i wr => ∃ (k : Nat) (p q : Int), k ≤ 2 ∧ i = .int .i64 k ∧ x = .int .i64 p ∧ y = .int .i64 q ∧ Below w.heap.size w wr ∧ w.heap.size < wr.heap.size ∧ (wr.cell? ⟨w.heap.size, 0, none⟩ = some (.bool z) ∧ wr.cell? ⟨w.heap.size, 1, none⟩ = some (.bool s) ∧ wr.cell? ⟨w.heap.size, 2, none⟩ = some (.bool c) ∧ wr.cell? ⟨w.heap.size, 3, none⟩ = some (.bool o))) (fun _ _ i _ => 2 - (intOf i).toNat)
  case atStart => exact ⟨0, op, cc, by omega, rfl, rfl, rfl, by repeat (first | (with_reducible exact HB0) | (with_reducible exact Below.refl _ _) | (with_reducible refine Below.drew ?_) | (with_reducible refine Below.setCell ?_ (by first | (simp; done) | (simp; omega) | omega) _) | (with_reducible refine Below.alloc ?_ (by first | (simp; done) | (simp; omega) | omega) _)), by simp, by simp [go_sem], by simp [go_sem], by simp [go_sem], by simp [go_sem]⟩
  case round =>
  obtain ⟨k, p, q, hk, rfl, rfl, rfl, HB0, hl0, g0, g1, g2, g3⟩ := hrel
  by_cases hlt : k < 2
  · go_wp2_with fail
    refine (Do_calls _ _ _ _ _ _ _ _).mono ?_
    rintro e w1 ⟨rfl, hb⟩
    have HB1 : Below w.heap.size w w1 := by
      refine Below.trans ?_ (hb.mono (by have := HB0.size; first | (simp; done) | (simp; omega) | omega))
      repeat (first | (with_reducible exact HB0) | (with_reducible exact Below.refl _ _) | (with_reducible refine Below.drew ?_) | (with_reducible refine Below.setCell ?_ (by first | (simp; done) | (simp; omega) | omega) _) | (with_reducible refine Below.alloc ?_ (by first | (simp; done) | (simp; omega) | omega) _))
    have hB1 := HB1.size
    have hs1 := hb.size
    try simp only [World.size_alloc, World.size_drew, World.size_setCell] at hs1
    obtain ⟨hc, hf⟩ := bcell hb
    have c1_0 := fun (o : Nat) => hc (w.heap.size) o (by first | (simp; done) | (simp; omega) | omega)
    have f1_0 := fun (o : Nat) => hf (w.heap.size) o (by first | (simp; done) | (simp; omega) | omega)
    have l1_0 : w.heap.size < w1.heap.size := (by first | (simp; done) | (simp; omega) | omega)
    clear hb hc hf
    go_wp2_with fail
    refine (ref14_calls _ _ _ _ _ _ _ _).mono ?_
    rw [← hAB.out]
    rintro e w2 ⟨rfl, hb⟩
    have HB2 : Below w.heap.size w w2 := by
      refine Below.trans ?_ (hb.mono (by have := HB1.size; first | (simp; done) | (simp; omega) | omega))
      repeat (first | (with_reducible exact HB1) | (with_reducible exact Below.refl _ _) | (with_reducible refine Below.drew ?_) | (with_reducible refine Below.setCell ?_ (by first | (simp; done) | (simp; omega) | omega) _) | (with_reducible refine Below.alloc ?_ (by first | (simp; done) | (simp; omega) | omega) _))
    have hB2 := HB2.size
    have hs2 := hb.size
    try simp only [World.size_alloc, World.size_drew, World.size_setCell] at hs2
    obtain ⟨hc, hf⟩ := bcell hb
    have c2_0 := fun (o : Nat) => hc (w.heap.size) o (by first | (simp; done) | (simp; omega) | omega)
    have f2_0 := fun (o : Nat) => hf (w.heap.size) o (by first | (simp; done) | (simp; omega) | omega)
    have l2_0 : w.heap.size < w2.heap.size := (by first | (simp; done) | (simp; omega) | omega)
    have c2_1 := fun (o : Nat) => hc (w1.heap.size) o (by first | (simp; done) | (simp; omega) | omega)
    have f2_1 := fun (o : Nat) => hf (w1.heap.size) o (by first | (simp; done) | (simp; omega) | omega)
    have l2_1 : w1.heap.size < w2.heap.size := (by first | (simp; done) | (simp; omega) | omega)
    clear hb hc hf
    go_wp2
    go_region_held3 (fun w' => w'.cell? ⟨w.heap.size, 0, none⟩ = some (.bool z) ∧ w'.cell? ⟨w.heap.size, 1, none⟩ = some (.bool s) ∧ w'.cell? ⟨w.heap.size, 2, none⟩ = some (.bool c) ∧ w'.cell? ⟨w.heap.size, 3, none⟩ = some (.bool o) ∧ w'.cell? ⟨w1.heap.size, 0, none⟩ = some (.bool (aluR p a b z s c o).z) ∧ w'.cell? ⟨w1.heap.size, 1, none⟩ = some (.bool (aluR p a b z s c o).s) ∧ w'.cell? ⟨w1.heap.size, 2, none⟩ = some (.bool (aluR p a b z s c o).c) ∧ w'.cell? ⟨w1.heap.size, 3, none⟩ = some (.bool (aluR p a b z s c o).o) ∧ w'.cell? ⟨w2.heap.size, 0, none⟩ = some (.int .u64 (aluR p a b z s c o).v) ∧ w'.cell? ⟨w2.heap.size, 1, none⟩ = some (.bool (aluR p a b z s c o).z) ∧ w'.cell? ⟨w2.heap.size, 2, none⟩ = some (.bool (aluR p a b z s c o).s) ∧ w'.cell? ⟨w2.heap.size, 3, none⟩ = some (.bool (aluR p a b z s c o).c) ∧ w'.cell? ⟨w2.heap.size, 4, none⟩ = some (.bool (aluR p a b z s c o).o) ∧ Below w.heap.size w w') (first | assumption | ((repeat' (refine And.intro ?_ ?_)) <;> (first | assumption | (go_keep; done) | (repeat (first | (with_reducible exact HB2) | (with_reducible exact Below.refl _ _) | (with_reducible refine Below.drew ?_) | (with_reducible refine Below.setCell ?_ (by first | (simp; done) | (simp; omega) | omega) _) | (with_reducible refine Below.alloc ?_ (by first | (simp; done) | (simp; omega) | omega) _)))))) (first | (go_at_call 29; refine (Cond_calls _ _ _ _ _ _).mono ?_; rintro e w' ⟨rfl, hb⟩; have hn := TS_step hb (by assumption)) | (go_at_call 30; refine (rCond_calls _ _ _ _ _ _).mono ?_; rintro e w' ⟨rfl, hb⟩; have hn := TS_step hb (by assumption)))
    go_wp2
    have hS : TS w w.heap.size w1.heap.size w2.heap.size z s c o (aluR p a b z s c o) _ := (by assumption)
    go_roundw
    case rel => exact ⟨k + 1, _, _, by omega, by go_num, rfl, rfl, hS.2.2.2.2.2.2.2.2.2.2.2.2.2, World.block_lt_of_cell? _ _ hS.1, hS.1, hS.2.1, hS.2.2.1, hS.2.2.2.1⟩
    case measure => simp [intOf]; omega
  go_wp2_with fail
  refine (alu_awake _).mono ?_
  rintro e w1 ⟨rfl, hb⟩
  have HB1 : Below w.heap.size w w1 := by
    refine Below.trans ?_ (hb.mono (by have := HB0.size; first | (simp; done) | (simp; omega) | omega))
    repeat (first | (with_reducible exact HB0) | (with_reducible exact Below.refl _ _) | (with_reducible refine Below.drew ?_) | (with_reducible refine Below.setCell ?_ (by first | (simp; done) | (simp; omega) | omega) _) | (with_reducible refine Below.alloc ?_ (by first | (simp; done) | (simp; omega) | omega) _))
  have hB1 := HB1.size
  have hs1 := hb.size
  try simp only [World.size_alloc, World.size_drew, World.size_setCell] at hs1
  obtain ⟨hc, hf⟩ := bcell hb
  clear hb hc hf
  go_wp2
  go_ret
  refine ⟨rfl, ?_⟩
  repeat (first | (with_reducible exact HB1) | (with_reducible exact Below.refl _ _) | (with_reducible refine Below.drew ?_) | (with_reducible refine Below.setCell ?_ (by first | (simp; done) | (simp; omega) | omega) _) | (with_reducible refine Below.alloc ?_ (by first | (simp; done) | (simp; omega) | omega) _))

end Go.Proofs.Ytcmpcejbephaeaa
