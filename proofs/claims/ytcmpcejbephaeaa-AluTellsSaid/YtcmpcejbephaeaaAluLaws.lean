/- The laws of layer 14 over the contracts of alu. -/
import Derived.Test.YtcmpcejbephaeaaRefAlu
import Derived.Test.YtcmpcejbephaeaaAluPure
namespace Go.Proofs.Ytcmpcejbephaeaa
open Go.RowKit
set_option linter.unusedVariables false
set_option linter.unusedSimpArgs false
attribute [local go_sem ↓] cell_set_isSome
set_option maxHeartbeats 4000000 in
theorem alu_awake  (w : World)  :
    Calls Try.prog 27 #[] w fun e w' => e = .returned (.bool true) ∧ Below w.heap.size w w' := by
  have H1 : Hid (aluR 0 18446744073709551615 1 false false false false = ⟨0, true, false, true, false⟩) := Lib.hid (by decide +kernel)
  have H2 : Hid (condB 2 true false true false = true) := Lib.hid (by decide)
  have H3 : Hid (condB 5 true false true false = false) := Lib.hid (by decide)
  have hu := Try.underlying44
  have HB0 : Below w.heap.size w w := Below.refl _ _
  go_enter Try.func27, Try.ntmps27
  go_wp2_with fail
  refine (Do_calls _ _ _ _ _ _ _ _).mono ?_
  rw [H1.out]
  rintro e w1 ⟨rfl, hb⟩
  have HB1 : Below w.heap.size w w1 := by
    refine Below.trans ?_ (hb.mono (by have := HB0.size; first | (simp; done) | (simp; omega) | omega))
    repeat (first | (with_reducible exact HB0) | (with_reducible exact Below.refl _ _) | (with_reducible refine Below.drew ?_) | (with_reducible refine Below.setCell ?_ (by first | (simp; done) | (simp; omega) | omega) _) | (with_reducible refine Below.alloc ?_ (by first | (simp; done) | (simp; omega) | omega) _))
  have hB1 := HB1.size
  have hs1 := hb.size
  try simp only [World.size_alloc, World.size_drew, World.size_setCell] at hs1
  obtain ⟨hc, hf⟩ := bcell hb
  clear hb hc hf
  go_wp2_with fail
  refine (Cond_calls _ _ _ _ _ _).mono ?_
  rw [H2.out]
  rintro e w2 ⟨rfl, hb⟩
  have HB2 : Below w.heap.size w w2 := by
    refine Below.trans ?_ (hb.mono (by have := HB1.size; first | (simp; done) | (simp; omega) | omega))
    repeat (first | (with_reducible exact HB1) | (with_reducible exact Below.refl _ _) | (with_reducible refine Below.drew ?_) | (with_reducible refine Below.setCell ?_ (by first | (simp; done) | (simp; omega) | omega) _) | (with_reducible refine Below.alloc ?_ (by first | (simp; done) | (simp; omega) | omega) _))
  have hB2 := HB2.size
  have hs2 := hb.size
  try simp only [World.size_alloc, World.size_drew, World.size_setCell] at hs2
  obtain ⟨hc, hf⟩ := bcell hb
  have c2_0 := fun (o : Nat) => hc (w1.heap.size) o (by first | (simp; done) | (simp; omega) | omega)
  have f2_0 := fun (o : Nat) => hf (w1.heap.size) o (by first | (simp; done) | (simp; omega) | omega)
  have l2_0 : w1.heap.size < w2.heap.size := (by first | (simp; done) | (simp; omega) | omega)
  clear hb hc hf
  go_wp2_with fail
  refine (Cond_calls _ _ _ _ _ _).mono ?_
  rw [H3.out]
  rintro e w3 ⟨rfl, hb⟩
  have HB3 : Below w.heap.size w w3 := by
    refine Below.trans ?_ (hb.mono (by have := HB2.size; first | (simp; done) | (simp; omega) | omega))
    repeat (first | (with_reducible exact HB2) | (with_reducible exact Below.refl _ _) | (with_reducible refine Below.drew ?_) | (with_reducible refine Below.setCell ?_ (by first | (simp; done) | (simp; omega) | omega) _) | (with_reducible refine Below.alloc ?_ (by first | (simp; done) | (simp; omega) | omega) _))
  have hB3 := HB3.size
  have hs3 := hb.size
  try simp only [World.size_alloc, World.size_drew, World.size_setCell] at hs3
  obtain ⟨hc, hf⟩ := bcell hb
  have c3_0 := fun (o : Nat) => hc (w1.heap.size) o (by first | (simp; done) | (simp; omega) | omega)
  have f3_0 := fun (o : Nat) => hf (w1.heap.size) o (by first | (simp; done) | (simp; omega) | omega)
  have l3_0 : w1.heap.size < w3.heap.size := (by first | (simp; done) | (simp; omega) | omega)
  clear hb hc hf
  go_wp2
  go_ret
  refine ⟨rfl, ?_⟩
  repeat (first | (with_reducible exact HB3) | (with_reducible exact Below.refl _ _) | (with_reducible refine Below.drew ?_) | (with_reducible refine Below.setCell ?_ (by first | (simp; done) | (simp; omega) | omega) _) | (with_reducible refine Below.alloc ?_ (by first | (simp; done) | (simp; omega) | omega) _))

set_option maxHeartbeats 4000000 in
theorem carries_tt (a b c d v1 v2 v3 v4 v5 v6 : Int) (z1 s1 c1 o1 z2 s2 c2 o2 z3 s3 c3 o3 z4 s4 c4 o4 z5 s5 c5 o5 z6 s6 c6 o6 : Bool) (w : World) (H1 : Hid (aluR 0 a c false false false false = ⟨v1, z1, s1, true, o1⟩)) (H2 : Hid (aluR 0 b d z1 s1 true o1 = ⟨v2, z2, s2, c2, o2⟩)) (H3 : Hid (aluR 5 v2 0 z1 s1 true o1 = ⟨v3, z3, s3, c3, o3⟩)) (H4 : Hid (aluR 1 v1 c false false false false = ⟨v4, z4, s4, true, o4⟩)) (H5 : Hid (aluR 1 v3 d z4 s4 true o4 = ⟨v5, z5, s5, c5, o5⟩)) (H6 : Hid (aluR 6 v5 0 z4 s4 true o4 = ⟨v6, z6, s6, c6, o6⟩)) (e1 : (v4 == a) = true) (e2 : (v6 == b) = true) (e3 : decide (v1 < a) = true) (e4 : decide (v1 < c) = true) :
    Calls Try.prog 10 #[.int .u64 a, .int .u64 b, .int .u64 c, .int .u64 d] w fun e w' => e = .returned (.bool true) ∧ Below w.heap.size w w' := by
  have hu := Try.underlying44
  have HB0 : Below w.heap.size w w := Below.refl _ _
  go_enter Try.func10, Try.ntmps10
  go_wp2_with fail
  refine (Do_calls _ _ _ _ _ _ _ _).mono ?_
  rw [H1.out]
  rintro e w1 ⟨rfl, hb⟩
  have HB1 : Below w.heap.size w w1 := by
    refine Below.trans ?_ (hb.mono (by have := HB0.size; first | (simp; done) | (simp; omega) | omega))
    repeat (first | (with_reducible exact HB0) | (with_reducible exact Below.refl _ _) | (with_reducible refine Below.drew ?_) | (with_reducible refine Below.setCell ?_ (by first | (simp; done) | (simp; omega) | omega) _) | (with_reducible refine Below.alloc ?_ (by first | (simp; done) | (simp; omega) | omega) _))
  have hB1 := HB1.size
  have hs1 := hb.size
  try simp only [World.size_alloc, World.size_drew, World.size_setCell] at hs1
  obtain ⟨hc, hf⟩ := bcell hb
  clear hb hc hf
  go_wp2_with fail
  refine (Do_calls _ _ _ _ _ _ _ _).mono ?_
  rw [H2.out]
  rintro e w2 ⟨rfl, hb⟩
  have HB2 : Below w.heap.size w w2 := by
    refine Below.trans ?_ (hb.mono (by have := HB1.size; first | (simp; done) | (simp; omega) | omega))
    repeat (first | (with_reducible exact HB1) | (with_reducible exact Below.refl _ _) | (with_reducible refine Below.drew ?_) | (with_reducible refine Below.setCell ?_ (by first | (simp; done) | (simp; omega) | omega) _) | (with_reducible refine Below.alloc ?_ (by first | (simp; done) | (simp; omega) | omega) _))
  have hB2 := HB2.size
  have hs2 := hb.size
  try simp only [World.size_alloc, World.size_drew, World.size_setCell] at hs2
  obtain ⟨hc, hf⟩ := bcell hb
  have c2_0 := fun (o : Nat) => hc (w1.heap.size) o (by first | (simp; done) | (simp; omega) | omega)
  have f2_0 := fun (o : Nat) => hf (w1.heap.size) o (by first | (simp; done) | (simp; omega) | omega)
  have l2_0 : w1.heap.size < w2.heap.size := (by first | (simp; done) | (simp; omega) | omega)
  clear hb hc hf
  go_wp2_with fail
  refine (Do_calls _ _ _ _ _ _ _ _).mono ?_
  rw [H3.out]
  rintro e w3 ⟨rfl, hb⟩
  have HB3 : Below w.heap.size w w3 := by
    refine Below.trans ?_ (hb.mono (by have := HB2.size; first | (simp; done) | (simp; omega) | omega))
    repeat (first | (with_reducible exact HB2) | (with_reducible exact Below.refl _ _) | (with_reducible refine Below.drew ?_) | (with_reducible refine Below.setCell ?_ (by first | (simp; done) | (simp; omega) | omega) _) | (with_reducible refine Below.alloc ?_ (by first | (simp; done) | (simp; omega) | omega) _))
  have hB3 := HB3.size
  have hs3 := hb.size
  try simp only [World.size_alloc, World.size_drew, World.size_setCell] at hs3
  obtain ⟨hc, hf⟩ := bcell hb
  have c3_0 := fun (o : Nat) => hc (w1.heap.size) o (by first | (simp; done) | (simp; omega) | omega)
  have f3_0 := fun (o : Nat) => hf (w1.heap.size) o (by first | (simp; done) | (simp; omega) | omega)
  have l3_0 : w1.heap.size < w3.heap.size := (by first | (simp; done) | (simp; omega) | omega)
  have c3_1 := fun (o : Nat) => hc (w2.heap.size) o (by first | (simp; done) | (simp; omega) | omega)
  have f3_1 := fun (o : Nat) => hf (w2.heap.size) o (by first | (simp; done) | (simp; omega) | omega)
  have l3_1 : w2.heap.size < w3.heap.size := (by first | (simp; done) | (simp; omega) | omega)
  clear hb hc hf
  go_wp2_with fail
  refine (Do_calls _ _ _ _ _ _ _ _).mono ?_
  rw [H4.out]
  rintro e w4 ⟨rfl, hb⟩
  have HB4 : Below w.heap.size w w4 := by
    refine Below.trans ?_ (hb.mono (by have := HB3.size; first | (simp; done) | (simp; omega) | omega))
    repeat (first | (with_reducible exact HB3) | (with_reducible exact Below.refl _ _) | (with_reducible refine Below.drew ?_) | (with_reducible refine Below.setCell ?_ (by first | (simp; done) | (simp; omega) | omega) _) | (with_reducible refine Below.alloc ?_ (by first | (simp; done) | (simp; omega) | omega) _))
  have hB4 := HB4.size
  have hs4 := hb.size
  try simp only [World.size_alloc, World.size_drew, World.size_setCell] at hs4
  obtain ⟨hc, hf⟩ := bcell hb
  have c4_0 := fun (o : Nat) => hc (w1.heap.size) o (by first | (simp; done) | (simp; omega) | omega)
  have f4_0 := fun (o : Nat) => hf (w1.heap.size) o (by first | (simp; done) | (simp; omega) | omega)
  have l4_0 : w1.heap.size < w4.heap.size := (by first | (simp; done) | (simp; omega) | omega)
  have c4_1 := fun (o : Nat) => hc (w2.heap.size) o (by first | (simp; done) | (simp; omega) | omega)
  have f4_1 := fun (o : Nat) => hf (w2.heap.size) o (by first | (simp; done) | (simp; omega) | omega)
  have l4_1 : w2.heap.size < w4.heap.size := (by first | (simp; done) | (simp; omega) | omega)
  clear hb hc hf
  go_wp2_with fail
  refine (Do_calls _ _ _ _ _ _ _ _).mono ?_
  rw [H5.out]
  rintro e w5 ⟨rfl, hb⟩
  have HB5 : Below w.heap.size w w5 := by
    refine Below.trans ?_ (hb.mono (by have := HB4.size; first | (simp; done) | (simp; omega) | omega))
    repeat (first | (with_reducible exact HB4) | (with_reducible exact Below.refl _ _) | (with_reducible refine Below.drew ?_) | (with_reducible refine Below.setCell ?_ (by first | (simp; done) | (simp; omega) | omega) _) | (with_reducible refine Below.alloc ?_ (by first | (simp; done) | (simp; omega) | omega) _))
  have hB5 := HB5.size
  have hs5 := hb.size
  try simp only [World.size_alloc, World.size_drew, World.size_setCell] at hs5
  obtain ⟨hc, hf⟩ := bcell hb
  have c5_0 := fun (o : Nat) => hc (w1.heap.size) o (by first | (simp; done) | (simp; omega) | omega)
  have f5_0 := fun (o : Nat) => hf (w1.heap.size) o (by first | (simp; done) | (simp; omega) | omega)
  have l5_0 : w1.heap.size < w5.heap.size := (by first | (simp; done) | (simp; omega) | omega)
  have c5_1 := fun (o : Nat) => hc (w2.heap.size) o (by first | (simp; done) | (simp; omega) | omega)
  have f5_1 := fun (o : Nat) => hf (w2.heap.size) o (by first | (simp; done) | (simp; omega) | omega)
  have l5_1 : w2.heap.size < w5.heap.size := (by first | (simp; done) | (simp; omega) | omega)
  have c5_2 := fun (o : Nat) => hc (w4.heap.size) o (by first | (simp; done) | (simp; omega) | omega)
  have f5_2 := fun (o : Nat) => hf (w4.heap.size) o (by first | (simp; done) | (simp; omega) | omega)
  have l5_2 : w4.heap.size < w5.heap.size := (by first | (simp; done) | (simp; omega) | omega)
  clear hb hc hf
  go_wp2_with fail
  refine (Do_calls _ _ _ _ _ _ _ _).mono ?_
  rw [H6.out]
  rintro e w6 ⟨rfl, hb⟩
  have HB6 : Below w.heap.size w w6 := by
    refine Below.trans ?_ (hb.mono (by have := HB5.size; first | (simp; done) | (simp; omega) | omega))
    repeat (first | (with_reducible exact HB5) | (with_reducible exact Below.refl _ _) | (with_reducible refine Below.drew ?_) | (with_reducible refine Below.setCell ?_ (by first | (simp; done) | (simp; omega) | omega) _) | (with_reducible refine Below.alloc ?_ (by first | (simp; done) | (simp; omega) | omega) _))
  have hB6 := HB6.size
  have hs6 := hb.size
  try simp only [World.size_alloc, World.size_drew, World.size_setCell] at hs6
  obtain ⟨hc, hf⟩ := bcell hb
  have c6_0 := fun (o : Nat) => hc (w1.heap.size) o (by first | (simp; done) | (simp; omega) | omega)
  have f6_0 := fun (o : Nat) => hf (w1.heap.size) o (by first | (simp; done) | (simp; omega) | omega)
  have l6_0 : w1.heap.size < w6.heap.size := (by first | (simp; done) | (simp; omega) | omega)
  have c6_1 := fun (o : Nat) => hc (w2.heap.size) o (by first | (simp; done) | (simp; omega) | omega)
  have f6_1 := fun (o : Nat) => hf (w2.heap.size) o (by first | (simp; done) | (simp; omega) | omega)
  have l6_1 : w2.heap.size < w6.heap.size := (by first | (simp; done) | (simp; omega) | omega)
  have c6_2 := fun (o : Nat) => hc (w4.heap.size) o (by first | (simp; done) | (simp; omega) | omega)
  have f6_2 := fun (o : Nat) => hf (w4.heap.size) o (by first | (simp; done) | (simp; omega) | omega)
  have l6_2 : w4.heap.size < w6.heap.size := (by first | (simp; done) | (simp; omega) | omega)
  have c6_3 := fun (o : Nat) => hc (w5.heap.size) o (by first | (simp; done) | (simp; omega) | omega)
  have f6_3 := fun (o : Nat) => hf (w5.heap.size) o (by first | (simp; done) | (simp; omega) | omega)
  have l6_3 : w5.heap.size < w6.heap.size := (by first | (simp; done) | (simp; omega) | omega)
  clear hb hc hf
  go_wp2_with fail
  refine (alu_awake _).mono ?_
  rintro e w7 ⟨rfl, hb⟩
  have HB7 : Below w.heap.size w w7 := by
    refine Below.trans ?_ (hb.mono (by have := HB6.size; first | (simp; done) | (simp; omega) | omega))
    repeat (first | (with_reducible exact HB6) | (with_reducible exact Below.refl _ _) | (with_reducible refine Below.drew ?_) | (with_reducible refine Below.setCell ?_ (by first | (simp; done) | (simp; omega) | omega) _) | (with_reducible refine Below.alloc ?_ (by first | (simp; done) | (simp; omega) | omega) _))
  have hB7 := HB7.size
  have hs7 := hb.size
  try simp only [World.size_alloc, World.size_drew, World.size_setCell] at hs7
  obtain ⟨hc, hf⟩ := bcell hb
  have c7_0 := fun (o : Nat) => hc (w1.heap.size) o (by first | (simp; done) | (simp; omega) | omega)
  have f7_0 := fun (o : Nat) => hf (w1.heap.size) o (by first | (simp; done) | (simp; omega) | omega)
  have l7_0 : w1.heap.size < w7.heap.size := (by first | (simp; done) | (simp; omega) | omega)
  have c7_1 := fun (o : Nat) => hc (w2.heap.size) o (by first | (simp; done) | (simp; omega) | omega)
  have f7_1 := fun (o : Nat) => hf (w2.heap.size) o (by first | (simp; done) | (simp; omega) | omega)
  have l7_1 : w2.heap.size < w7.heap.size := (by first | (simp; done) | (simp; omega) | omega)
  have c7_2 := fun (o : Nat) => hc (w4.heap.size) o (by first | (simp; done) | (simp; omega) | omega)
  have f7_2 := fun (o : Nat) => hf (w4.heap.size) o (by first | (simp; done) | (simp; omega) | omega)
  have l7_2 : w4.heap.size < w7.heap.size := (by first | (simp; done) | (simp; omega) | omega)
  have c7_3 := fun (o : Nat) => hc (w5.heap.size) o (by first | (simp; done) | (simp; omega) | omega)
  have f7_3 := fun (o : Nat) => hf (w5.heap.size) o (by first | (simp; done) | (simp; omega) | omega)
  have l7_3 : w5.heap.size < w7.heap.size := (by first | (simp; done) | (simp; omega) | omega)
  clear hb hc hf
  go_wp2
  go_ret
  refine ⟨rfl, ?_⟩
  repeat (first | (with_reducible exact HB7) | (with_reducible exact Below.refl _ _) | (with_reducible refine Below.drew ?_) | (with_reducible refine Below.setCell ?_ (by first | (simp; done) | (simp; omega) | omega) _) | (with_reducible refine Below.alloc ?_ (by first | (simp; done) | (simp; omega) | omega) _))
set_option maxHeartbeats 4000000 in
theorem carries_tf (a b c d v1 v2 v3 v4 v5 v6 : Int) (z1 s1 c1 o1 z2 s2 c2 o2 z3 s3 c3 o3 z4 s4 c4 o4 z5 s5 c5 o5 z6 s6 c6 o6 : Bool) (w : World) (H1 : Hid (aluR 0 a c false false false false = ⟨v1, z1, s1, true, o1⟩)) (H2 : Hid (aluR 0 b d z1 s1 true o1 = ⟨v2, z2, s2, c2, o2⟩)) (H3 : Hid (aluR 5 v2 0 z1 s1 true o1 = ⟨v3, z3, s3, c3, o3⟩)) (H4 : Hid (aluR 1 v1 c false false false false = ⟨v4, z4, s4, false, o4⟩)) (H5 : Hid (aluR 1 v3 d z4 s4 false o4 = ⟨v5, z5, s5, c5, o5⟩)) (e1 : (v4 == a) = true) (e2 : (v5 == b) = true) (e3 : decide (v1 < a) = true) (e4 : decide (v1 < c) = false) :
    Calls Try.prog 10 #[.int .u64 a, .int .u64 b, .int .u64 c, .int .u64 d] w fun e w' => e = .returned (.bool true) ∧ Below w.heap.size w w' := by
  have hu := Try.underlying44
  have HB0 : Below w.heap.size w w := Below.refl _ _
  go_enter Try.func10, Try.ntmps10
  go_wp2_with fail
  refine (Do_calls _ _ _ _ _ _ _ _).mono ?_
  rw [H1.out]
  rintro e w1 ⟨rfl, hb⟩
  have HB1 : Below w.heap.size w w1 := by
    refine Below.trans ?_ (hb.mono (by have := HB0.size; first | (simp; done) | (simp; omega) | omega))
    repeat (first | (with_reducible exact HB0) | (with_reducible exact Below.refl _ _) | (with_reducible refine Below.drew ?_) | (with_reducible refine Below.setCell ?_ (by first | (simp; done) | (simp; omega) | omega) _) | (with_reducible refine Below.alloc ?_ (by first | (simp; done) | (simp; omega) | omega) _))
  have hB1 := HB1.size
  have hs1 := hb.size
  try simp only [World.size_alloc, World.size_drew, World.size_setCell] at hs1
  obtain ⟨hc, hf⟩ := bcell hb
  clear hb hc hf
  go_wp2_with fail
  refine (Do_calls _ _ _ _ _ _ _ _).mono ?_
  rw [H2.out]
  rintro e w2 ⟨rfl, hb⟩
  have HB2 : Below w.heap.size w w2 := by
    refine Below.trans ?_ (hb.mono (by have := HB1.size; first | (simp; done) | (simp; omega) | omega))
    repeat (first | (with_reducible exact HB1) | (with_reducible exact Below.refl _ _) | (with_reducible refine Below.drew ?_) | (with_reducible refine Below.setCell ?_ (by first | (simp; done) | (simp; omega) | omega) _) | (with_reducible refine Below.alloc ?_ (by first | (simp; done) | (simp; omega) | omega) _))
  have hB2 := HB2.size
  have hs2 := hb.size
  try simp only [World.size_alloc, World.size_drew, World.size_setCell] at hs2
  obtain ⟨hc, hf⟩ := bcell hb
  have c2_0 := fun (o : Nat) => hc (w1.heap.size) o (by first | (simp; done) | (simp; omega) | omega)
  have f2_0 := fun (o : Nat) => hf (w1.heap.size) o (by first | (simp; done) | (simp; omega) | omega)
  have l2_0 : w1.heap.size < w2.heap.size := (by first | (simp; done) | (simp; omega) | omega)
  clear hb hc hf
  go_wp2_with fail
  refine (Do_calls _ _ _ _ _ _ _ _).mono ?_
  rw [H3.out]
  rintro e w3 ⟨rfl, hb⟩
  have HB3 : Below w.heap.size w w3 := by
    refine Below.trans ?_ (hb.mono (by have := HB2.size; first | (simp; done) | (simp; omega) | omega))
    repeat (first | (with_reducible exact HB2) | (with_reducible exact Below.refl _ _) | (with_reducible refine Below.drew ?_) | (with_reducible refine Below.setCell ?_ (by first | (simp; done) | (simp; omega) | omega) _) | (with_reducible refine Below.alloc ?_ (by first | (simp; done) | (simp; omega) | omega) _))
  have hB3 := HB3.size
  have hs3 := hb.size
  try simp only [World.size_alloc, World.size_drew, World.size_setCell] at hs3
  obtain ⟨hc, hf⟩ := bcell hb
  have c3_0 := fun (o : Nat) => hc (w1.heap.size) o (by first | (simp; done) | (simp; omega) | omega)
  have f3_0 := fun (o : Nat) => hf (w1.heap.size) o (by first | (simp; done) | (simp; omega) | omega)
  have l3_0 : w1.heap.size < w3.heap.size := (by first | (simp; done) | (simp; omega) | omega)
  have c3_1 := fun (o : Nat) => hc (w2.heap.size) o (by first | (simp; done) | (simp; omega) | omega)
  have f3_1 := fun (o : Nat) => hf (w2.heap.size) o (by first | (simp; done) | (simp; omega) | omega)
  have l3_1 : w2.heap.size < w3.heap.size := (by first | (simp; done) | (simp; omega) | omega)
  clear hb hc hf
  go_wp2_with fail
  refine (Do_calls _ _ _ _ _ _ _ _).mono ?_
  rw [H4.out]
  rintro e w4 ⟨rfl, hb⟩
  have HB4 : Below w.heap.size w w4 := by
    refine Below.trans ?_ (hb.mono (by have := HB3.size; first | (simp; done) | (simp; omega) | omega))
    repeat (first | (with_reducible exact HB3) | (with_reducible exact Below.refl _ _) | (with_reducible refine Below.drew ?_) | (with_reducible refine Below.setCell ?_ (by first | (simp; done) | (simp; omega) | omega) _) | (with_reducible refine Below.alloc ?_ (by first | (simp; done) | (simp; omega) | omega) _))
  have hB4 := HB4.size
  have hs4 := hb.size
  try simp only [World.size_alloc, World.size_drew, World.size_setCell] at hs4
  obtain ⟨hc, hf⟩ := bcell hb
  have c4_0 := fun (o : Nat) => hc (w1.heap.size) o (by first | (simp; done) | (simp; omega) | omega)
  have f4_0 := fun (o : Nat) => hf (w1.heap.size) o (by first | (simp; done) | (simp; omega) | omega)
  have l4_0 : w1.heap.size < w4.heap.size := (by first | (simp; done) | (simp; omega) | omega)
  have c4_1 := fun (o : Nat) => hc (w2.heap.size) o (by first | (simp; done) | (simp; omega) | omega)
  have f4_1 := fun (o : Nat) => hf (w2.heap.size) o (by first | (simp; done) | (simp; omega) | omega)
  have l4_1 : w2.heap.size < w4.heap.size := (by first | (simp; done) | (simp; omega) | omega)
  clear hb hc hf
  go_wp2_with fail
  refine (Do_calls _ _ _ _ _ _ _ _).mono ?_
  rw [H5.out]
  rintro e w5 ⟨rfl, hb⟩
  have HB5 : Below w.heap.size w w5 := by
    refine Below.trans ?_ (hb.mono (by have := HB4.size; first | (simp; done) | (simp; omega) | omega))
    repeat (first | (with_reducible exact HB4) | (with_reducible exact Below.refl _ _) | (with_reducible refine Below.drew ?_) | (with_reducible refine Below.setCell ?_ (by first | (simp; done) | (simp; omega) | omega) _) | (with_reducible refine Below.alloc ?_ (by first | (simp; done) | (simp; omega) | omega) _))
  have hB5 := HB5.size
  have hs5 := hb.size
  try simp only [World.size_alloc, World.size_drew, World.size_setCell] at hs5
  obtain ⟨hc, hf⟩ := bcell hb
  have c5_0 := fun (o : Nat) => hc (w1.heap.size) o (by first | (simp; done) | (simp; omega) | omega)
  have f5_0 := fun (o : Nat) => hf (w1.heap.size) o (by first | (simp; done) | (simp; omega) | omega)
  have l5_0 : w1.heap.size < w5.heap.size := (by first | (simp; done) | (simp; omega) | omega)
  have c5_1 := fun (o : Nat) => hc (w2.heap.size) o (by first | (simp; done) | (simp; omega) | omega)
  have f5_1 := fun (o : Nat) => hf (w2.heap.size) o (by first | (simp; done) | (simp; omega) | omega)
  have l5_1 : w2.heap.size < w5.heap.size := (by first | (simp; done) | (simp; omega) | omega)
  have c5_2 := fun (o : Nat) => hc (w4.heap.size) o (by first | (simp; done) | (simp; omega) | omega)
  have f5_2 := fun (o : Nat) => hf (w4.heap.size) o (by first | (simp; done) | (simp; omega) | omega)
  have l5_2 : w4.heap.size < w5.heap.size := (by first | (simp; done) | (simp; omega) | omega)
  clear hb hc hf
  go_wp2_with fail
  refine (alu_awake _).mono ?_
  rintro e w6 ⟨rfl, hb⟩
  have HB6 : Below w.heap.size w w6 := by
    refine Below.trans ?_ (hb.mono (by have := HB5.size; first | (simp; done) | (simp; omega) | omega))
    repeat (first | (with_reducible exact HB5) | (with_reducible exact Below.refl _ _) | (with_reducible refine Below.drew ?_) | (with_reducible refine Below.setCell ?_ (by first | (simp; done) | (simp; omega) | omega) _) | (with_reducible refine Below.alloc ?_ (by first | (simp; done) | (simp; omega) | omega) _))
  have hB6 := HB6.size
  have hs6 := hb.size
  try simp only [World.size_alloc, World.size_drew, World.size_setCell] at hs6
  obtain ⟨hc, hf⟩ := bcell hb
  have c6_0 := fun (o : Nat) => hc (w1.heap.size) o (by first | (simp; done) | (simp; omega) | omega)
  have f6_0 := fun (o : Nat) => hf (w1.heap.size) o (by first | (simp; done) | (simp; omega) | omega)
  have l6_0 : w1.heap.size < w6.heap.size := (by first | (simp; done) | (simp; omega) | omega)
  have c6_1 := fun (o : Nat) => hc (w2.heap.size) o (by first | (simp; done) | (simp; omega) | omega)
  have f6_1 := fun (o : Nat) => hf (w2.heap.size) o (by first | (simp; done) | (simp; omega) | omega)
  have l6_1 : w2.heap.size < w6.heap.size := (by first | (simp; done) | (simp; omega) | omega)
  have c6_2 := fun (o : Nat) => hc (w4.heap.size) o (by first | (simp; done) | (simp; omega) | omega)
  have f6_2 := fun (o : Nat) => hf (w4.heap.size) o (by first | (simp; done) | (simp; omega) | omega)
  have l6_2 : w4.heap.size < w6.heap.size := (by first | (simp; done) | (simp; omega) | omega)
  have c6_3 := fun (o : Nat) => hc (w5.heap.size) o (by first | (simp; done) | (simp; omega) | omega)
  have f6_3 := fun (o : Nat) => hf (w5.heap.size) o (by first | (simp; done) | (simp; omega) | omega)
  have l6_3 : w5.heap.size < w6.heap.size := (by first | (simp; done) | (simp; omega) | omega)
  clear hb hc hf
  go_wp2
  go_ret
  refine ⟨rfl, ?_⟩
  repeat (first | (with_reducible exact HB6) | (with_reducible exact Below.refl _ _) | (with_reducible refine Below.drew ?_) | (with_reducible refine Below.setCell ?_ (by first | (simp; done) | (simp; omega) | omega) _) | (with_reducible refine Below.alloc ?_ (by first | (simp; done) | (simp; omega) | omega) _))
set_option maxHeartbeats 4000000 in
theorem carries_ft (a b c d v1 v2 v3 v4 v5 v6 : Int) (z1 s1 c1 o1 z2 s2 c2 o2 z3 s3 c3 o3 z4 s4 c4 o4 z5 s5 c5 o5 z6 s6 c6 o6 : Bool) (w : World) (H1 : Hid (aluR 0 a c false false false false = ⟨v1, z1, s1, false, o1⟩)) (H2 : Hid (aluR 0 b d z1 s1 false o1 = ⟨v2, z2, s2, c2, o2⟩)) (H3 : Hid (aluR 1 v1 c false false false false = ⟨v4, z4, s4, true, o4⟩)) (H4 : Hid (aluR 1 v2 d z4 s4 true o4 = ⟨v5, z5, s5, c5, o5⟩)) (H5 : Hid (aluR 6 v5 0 z4 s4 true o4 = ⟨v6, z6, s6, c6, o6⟩)) (e1 : (v4 == a) = true) (e2 : (v6 == b) = true) (e3 : decide (v1 < a) = false) (e4 : decide (v1 < c) = true) :
    Calls Try.prog 10 #[.int .u64 a, .int .u64 b, .int .u64 c, .int .u64 d] w fun e w' => e = .returned (.bool true) ∧ Below w.heap.size w w' := by
  have hu := Try.underlying44
  have HB0 : Below w.heap.size w w := Below.refl _ _
  go_enter Try.func10, Try.ntmps10
  go_wp2_with fail
  refine (Do_calls _ _ _ _ _ _ _ _).mono ?_
  rw [H1.out]
  rintro e w1 ⟨rfl, hb⟩
  have HB1 : Below w.heap.size w w1 := by
    refine Below.trans ?_ (hb.mono (by have := HB0.size; first | (simp; done) | (simp; omega) | omega))
    repeat (first | (with_reducible exact HB0) | (with_reducible exact Below.refl _ _) | (with_reducible refine Below.drew ?_) | (with_reducible refine Below.setCell ?_ (by first | (simp; done) | (simp; omega) | omega) _) | (with_reducible refine Below.alloc ?_ (by first | (simp; done) | (simp; omega) | omega) _))
  have hB1 := HB1.size
  have hs1 := hb.size
  try simp only [World.size_alloc, World.size_drew, World.size_setCell] at hs1
  obtain ⟨hc, hf⟩ := bcell hb
  clear hb hc hf
  go_wp2_with fail
  refine (Do_calls _ _ _ _ _ _ _ _).mono ?_
  rw [H2.out]
  rintro e w2 ⟨rfl, hb⟩
  have HB2 : Below w.heap.size w w2 := by
    refine Below.trans ?_ (hb.mono (by have := HB1.size; first | (simp; done) | (simp; omega) | omega))
    repeat (first | (with_reducible exact HB1) | (with_reducible exact Below.refl _ _) | (with_reducible refine Below.drew ?_) | (with_reducible refine Below.setCell ?_ (by first | (simp; done) | (simp; omega) | omega) _) | (with_reducible refine Below.alloc ?_ (by first | (simp; done) | (simp; omega) | omega) _))
  have hB2 := HB2.size
  have hs2 := hb.size
  try simp only [World.size_alloc, World.size_drew, World.size_setCell] at hs2
  obtain ⟨hc, hf⟩ := bcell hb
  have c2_0 := fun (o : Nat) => hc (w1.heap.size) o (by first | (simp; done) | (simp; omega) | omega)
  have f2_0 := fun (o : Nat) => hf (w1.heap.size) o (by first | (simp; done) | (simp; omega) | omega)
  have l2_0 : w1.heap.size < w2.heap.size := (by first | (simp; done) | (simp; omega) | omega)
  clear hb hc hf
  go_wp2_with fail
  refine (Do_calls _ _ _ _ _ _ _ _).mono ?_
  rw [H3.out]
  rintro e w3 ⟨rfl, hb⟩
  have HB3 : Below w.heap.size w w3 := by
    refine Below.trans ?_ (hb.mono (by have := HB2.size; first | (simp; done) | (simp; omega) | omega))
    repeat (first | (with_reducible exact HB2) | (with_reducible exact Below.refl _ _) | (with_reducible refine Below.drew ?_) | (with_reducible refine Below.setCell ?_ (by first | (simp; done) | (simp; omega) | omega) _) | (with_reducible refine Below.alloc ?_ (by first | (simp; done) | (simp; omega) | omega) _))
  have hB3 := HB3.size
  have hs3 := hb.size
  try simp only [World.size_alloc, World.size_drew, World.size_setCell] at hs3
  obtain ⟨hc, hf⟩ := bcell hb
  have c3_0 := fun (o : Nat) => hc (w1.heap.size) o (by first | (simp; done) | (simp; omega) | omega)
  have f3_0 := fun (o : Nat) => hf (w1.heap.size) o (by first | (simp; done) | (simp; omega) | omega)
  have l3_0 : w1.heap.size < w3.heap.size := (by first | (simp; done) | (simp; omega) | omega)
  have c3_1 := fun (o : Nat) => hc (w2.heap.size) o (by first | (simp; done) | (simp; omega) | omega)
  have f3_1 := fun (o : Nat) => hf (w2.heap.size) o (by first | (simp; done) | (simp; omega) | omega)
  have l3_1 : w2.heap.size < w3.heap.size := (by first | (simp; done) | (simp; omega) | omega)
  clear hb hc hf
  go_wp2_with fail
  refine (Do_calls _ _ _ _ _ _ _ _).mono ?_
  rw [H4.out]
  rintro e w4 ⟨rfl, hb⟩
  have HB4 : Below w.heap.size w w4 := by
    refine Below.trans ?_ (hb.mono (by have := HB3.size; first | (simp; done) | (simp; omega) | omega))
    repeat (first | (with_reducible exact HB3) | (with_reducible exact Below.refl _ _) | (with_reducible refine Below.drew ?_) | (with_reducible refine Below.setCell ?_ (by first | (simp; done) | (simp; omega) | omega) _) | (with_reducible refine Below.alloc ?_ (by first | (simp; done) | (simp; omega) | omega) _))
  have hB4 := HB4.size
  have hs4 := hb.size
  try simp only [World.size_alloc, World.size_drew, World.size_setCell] at hs4
  obtain ⟨hc, hf⟩ := bcell hb
  have c4_0 := fun (o : Nat) => hc (w1.heap.size) o (by first | (simp; done) | (simp; omega) | omega)
  have f4_0 := fun (o : Nat) => hf (w1.heap.size) o (by first | (simp; done) | (simp; omega) | omega)
  have l4_0 : w1.heap.size < w4.heap.size := (by first | (simp; done) | (simp; omega) | omega)
  have c4_1 := fun (o : Nat) => hc (w2.heap.size) o (by first | (simp; done) | (simp; omega) | omega)
  have f4_1 := fun (o : Nat) => hf (w2.heap.size) o (by first | (simp; done) | (simp; omega) | omega)
  have l4_1 : w2.heap.size < w4.heap.size := (by first | (simp; done) | (simp; omega) | omega)
  have c4_2 := fun (o : Nat) => hc (w3.heap.size) o (by first | (simp; done) | (simp; omega) | omega)
  have f4_2 := fun (o : Nat) => hf (w3.heap.size) o (by first | (simp; done) | (simp; omega) | omega)
  have l4_2 : w3.heap.size < w4.heap.size := (by first | (simp; done) | (simp; omega) | omega)
  clear hb hc hf
  go_wp2_with fail
  refine (Do_calls _ _ _ _ _ _ _ _).mono ?_
  rw [H5.out]
  rintro e w5 ⟨rfl, hb⟩
  have HB5 : Below w.heap.size w w5 := by
    refine Below.trans ?_ (hb.mono (by have := HB4.size; first | (simp; done) | (simp; omega) | omega))
    repeat (first | (with_reducible exact HB4) | (with_reducible exact Below.refl _ _) | (with_reducible refine Below.drew ?_) | (with_reducible refine Below.setCell ?_ (by first | (simp; done) | (simp; omega) | omega) _) | (with_reducible refine Below.alloc ?_ (by first | (simp; done) | (simp; omega) | omega) _))
  have hB5 := HB5.size
  have hs5 := hb.size
  try simp only [World.size_alloc, World.size_drew, World.size_setCell] at hs5
  obtain ⟨hc, hf⟩ := bcell hb
  have c5_0 := fun (o : Nat) => hc (w1.heap.size) o (by first | (simp; done) | (simp; omega) | omega)
  have f5_0 := fun (o : Nat) => hf (w1.heap.size) o (by first | (simp; done) | (simp; omega) | omega)
  have l5_0 : w1.heap.size < w5.heap.size := (by first | (simp; done) | (simp; omega) | omega)
  have c5_1 := fun (o : Nat) => hc (w2.heap.size) o (by first | (simp; done) | (simp; omega) | omega)
  have f5_1 := fun (o : Nat) => hf (w2.heap.size) o (by first | (simp; done) | (simp; omega) | omega)
  have l5_1 : w2.heap.size < w5.heap.size := (by first | (simp; done) | (simp; omega) | omega)
  have c5_2 := fun (o : Nat) => hc (w3.heap.size) o (by first | (simp; done) | (simp; omega) | omega)
  have f5_2 := fun (o : Nat) => hf (w3.heap.size) o (by first | (simp; done) | (simp; omega) | omega)
  have l5_2 : w3.heap.size < w5.heap.size := (by first | (simp; done) | (simp; omega) | omega)
  have c5_3 := fun (o : Nat) => hc (w4.heap.size) o (by first | (simp; done) | (simp; omega) | omega)
  have f5_3 := fun (o : Nat) => hf (w4.heap.size) o (by first | (simp; done) | (simp; omega) | omega)
  have l5_3 : w4.heap.size < w5.heap.size := (by first | (simp; done) | (simp; omega) | omega)
  clear hb hc hf
  go_wp2_with fail
  refine (alu_awake _).mono ?_
  rintro e w6 ⟨rfl, hb⟩
  have HB6 : Below w.heap.size w w6 := by
    refine Below.trans ?_ (hb.mono (by have := HB5.size; first | (simp; done) | (simp; omega) | omega))
    repeat (first | (with_reducible exact HB5) | (with_reducible exact Below.refl _ _) | (with_reducible refine Below.drew ?_) | (with_reducible refine Below.setCell ?_ (by first | (simp; done) | (simp; omega) | omega) _) | (with_reducible refine Below.alloc ?_ (by first | (simp; done) | (simp; omega) | omega) _))
  have hB6 := HB6.size
  have hs6 := hb.size
  try simp only [World.size_alloc, World.size_drew, World.size_setCell] at hs6
  obtain ⟨hc, hf⟩ := bcell hb
  have c6_0 := fun (o : Nat) => hc (w1.heap.size) o (by first | (simp; done) | (simp; omega) | omega)
  have f6_0 := fun (o : Nat) => hf (w1.heap.size) o (by first | (simp; done) | (simp; omega) | omega)
  have l6_0 : w1.heap.size < w6.heap.size := (by first | (simp; done) | (simp; omega) | omega)
  have c6_1 := fun (o : Nat) => hc (w2.heap.size) o (by first | (simp; done) | (simp; omega) | omega)
  have f6_1 := fun (o : Nat) => hf (w2.heap.size) o (by first | (simp; done) | (simp; omega) | omega)
  have l6_1 : w2.heap.size < w6.heap.size := (by first | (simp; done) | (simp; omega) | omega)
  have c6_2 := fun (o : Nat) => hc (w3.heap.size) o (by first | (simp; done) | (simp; omega) | omega)
  have f6_2 := fun (o : Nat) => hf (w3.heap.size) o (by first | (simp; done) | (simp; omega) | omega)
  have l6_2 : w3.heap.size < w6.heap.size := (by first | (simp; done) | (simp; omega) | omega)
  have c6_3 := fun (o : Nat) => hc (w4.heap.size) o (by first | (simp; done) | (simp; omega) | omega)
  have f6_3 := fun (o : Nat) => hf (w4.heap.size) o (by first | (simp; done) | (simp; omega) | omega)
  have l6_3 : w4.heap.size < w6.heap.size := (by first | (simp; done) | (simp; omega) | omega)
  clear hb hc hf
  go_wp2
  go_ret
  refine ⟨rfl, ?_⟩
  repeat (first | (with_reducible exact HB6) | (with_reducible exact Below.refl _ _) | (with_reducible refine Below.drew ?_) | (with_reducible refine Below.setCell ?_ (by first | (simp; done) | (simp; omega) | omega) _) | (with_reducible refine Below.alloc ?_ (by first | (simp; done) | (simp; omega) | omega) _))
set_option maxHeartbeats 4000000 in
theorem carries_ff (a b c d v1 v2 v3 v4 v5 v6 : Int) (z1 s1 c1 o1 z2 s2 c2 o2 z3 s3 c3 o3 z4 s4 c4 o4 z5 s5 c5 o5 z6 s6 c6 o6 : Bool) (w : World) (H1 : Hid (aluR 0 a c false false false false = ⟨v1, z1, s1, false, o1⟩)) (H2 : Hid (aluR 0 b d z1 s1 false o1 = ⟨v2, z2, s2, c2, o2⟩)) (H3 : Hid (aluR 1 v1 c false false false false = ⟨v4, z4, s4, false, o4⟩)) (H4 : Hid (aluR 1 v2 d z4 s4 false o4 = ⟨v5, z5, s5, c5, o5⟩)) (e1 : (v4 == a) = true) (e2 : (v5 == b) = true) (e3 : decide (v1 < a) = false) (e4 : decide (v1 < c) = false) :
    Calls Try.prog 10 #[.int .u64 a, .int .u64 b, .int .u64 c, .int .u64 d] w fun e w' => e = .returned (.bool true) ∧ Below w.heap.size w w' := by
  have hu := Try.underlying44
  have HB0 : Below w.heap.size w w := Below.refl _ _
  go_enter Try.func10, Try.ntmps10
  go_wp2_with fail
  refine (Do_calls _ _ _ _ _ _ _ _).mono ?_
  rw [H1.out]
  rintro e w1 ⟨rfl, hb⟩
  have HB1 : Below w.heap.size w w1 := by
    refine Below.trans ?_ (hb.mono (by have := HB0.size; first | (simp; done) | (simp; omega) | omega))
    repeat (first | (with_reducible exact HB0) | (with_reducible exact Below.refl _ _) | (with_reducible refine Below.drew ?_) | (with_reducible refine Below.setCell ?_ (by first | (simp; done) | (simp; omega) | omega) _) | (with_reducible refine Below.alloc ?_ (by first | (simp; done) | (simp; omega) | omega) _))
  have hB1 := HB1.size
  have hs1 := hb.size
  try simp only [World.size_alloc, World.size_drew, World.size_setCell] at hs1
  obtain ⟨hc, hf⟩ := bcell hb
  clear hb hc hf
  go_wp2_with fail
  refine (Do_calls _ _ _ _ _ _ _ _).mono ?_
  rw [H2.out]
  rintro e w2 ⟨rfl, hb⟩
  have HB2 : Below w.heap.size w w2 := by
    refine Below.trans ?_ (hb.mono (by have := HB1.size; first | (simp; done) | (simp; omega) | omega))
    repeat (first | (with_reducible exact HB1) | (with_reducible exact Below.refl _ _) | (with_reducible refine Below.drew ?_) | (with_reducible refine Below.setCell ?_ (by first | (simp; done) | (simp; omega) | omega) _) | (with_reducible refine Below.alloc ?_ (by first | (simp; done) | (simp; omega) | omega) _))
  have hB2 := HB2.size
  have hs2 := hb.size
  try simp only [World.size_alloc, World.size_drew, World.size_setCell] at hs2
  obtain ⟨hc, hf⟩ := bcell hb
  have c2_0 := fun (o : Nat) => hc (w1.heap.size) o (by first | (simp; done) | (simp; omega) | omega)
  have f2_0 := fun (o : Nat) => hf (w1.heap.size) o (by first | (simp; done) | (simp; omega) | omega)
  have l2_0 : w1.heap.size < w2.heap.size := (by first | (simp; done) | (simp; omega) | omega)
  clear hb hc hf
  go_wp2_with fail
  refine (Do_calls _ _ _ _ _ _ _ _).mono ?_
  rw [H3.out]
  rintro e w3 ⟨rfl, hb⟩
  have HB3 : Below w.heap.size w w3 := by
    refine Below.trans ?_ (hb.mono (by have := HB2.size; first | (simp; done) | (simp; omega) | omega))
    repeat (first | (with_reducible exact HB2) | (with_reducible exact Below.refl _ _) | (with_reducible refine Below.drew ?_) | (with_reducible refine Below.setCell ?_ (by first | (simp; done) | (simp; omega) | omega) _) | (with_reducible refine Below.alloc ?_ (by first | (simp; done) | (simp; omega) | omega) _))
  have hB3 := HB3.size
  have hs3 := hb.size
  try simp only [World.size_alloc, World.size_drew, World.size_setCell] at hs3
  obtain ⟨hc, hf⟩ := bcell hb
  have c3_0 := fun (o : Nat) => hc (w1.heap.size) o (by first | (simp; done) | (simp; omega) | omega)
  have f3_0 := fun (o : Nat) => hf (w1.heap.size) o (by first | (simp; done) | (simp; omega) | omega)
  have l3_0 : w1.heap.size < w3.heap.size := (by first | (simp; done) | (simp; omega) | omega)
  have c3_1 := fun (o : Nat) => hc (w2.heap.size) o (by first | (simp; done) | (simp; omega) | omega)
  have f3_1 := fun (o : Nat) => hf (w2.heap.size) o (by first | (simp; done) | (simp; omega) | omega)
  have l3_1 : w2.heap.size < w3.heap.size := (by first | (simp; done) | (simp; omega) | omega)
  clear hb hc hf
  go_wp2_with fail
  refine (Do_calls _ _ _ _ _ _ _ _).mono ?_
  rw [H4.out]
  rintro e w4 ⟨rfl, hb⟩
  have HB4 : Below w.heap.size w w4 := by
    refine Below.trans ?_ (hb.mono (by have := HB3.size; first | (simp; done) | (simp; omega) | omega))
    repeat (first | (with_reducible exact HB3) | (with_reducible exact Below.refl _ _) | (with_reducible refine Below.drew ?_) | (with_reducible refine Below.setCell ?_ (by first | (simp; done) | (simp; omega) | omega) _) | (with_reducible refine Below.alloc ?_ (by first | (simp; done) | (simp; omega) | omega) _))
  have hB4 := HB4.size
  have hs4 := hb.size
  try simp only [World.size_alloc, World.size_drew, World.size_setCell] at hs4
  obtain ⟨hc, hf⟩ := bcell hb
  have c4_0 := fun (o : Nat) => hc (w1.heap.size) o (by first | (simp; done) | (simp; omega) | omega)
  have f4_0 := fun (o : Nat) => hf (w1.heap.size) o (by first | (simp; done) | (simp; omega) | omega)
  have l4_0 : w1.heap.size < w4.heap.size := (by first | (simp; done) | (simp; omega) | omega)
  have c4_1 := fun (o : Nat) => hc (w2.heap.size) o (by first | (simp; done) | (simp; omega) | omega)
  have f4_1 := fun (o : Nat) => hf (w2.heap.size) o (by first | (simp; done) | (simp; omega) | omega)
  have l4_1 : w2.heap.size < w4.heap.size := (by first | (simp; done) | (simp; omega) | omega)
  have c4_2 := fun (o : Nat) => hc (w3.heap.size) o (by first | (simp; done) | (simp; omega) | omega)
  have f4_2 := fun (o : Nat) => hf (w3.heap.size) o (by first | (simp; done) | (simp; omega) | omega)
  have l4_2 : w3.heap.size < w4.heap.size := (by first | (simp; done) | (simp; omega) | omega)
  clear hb hc hf
  go_wp2_with fail
  refine (alu_awake _).mono ?_
  rintro e w5 ⟨rfl, hb⟩
  have HB5 : Below w.heap.size w w5 := by
    refine Below.trans ?_ (hb.mono (by have := HB4.size; first | (simp; done) | (simp; omega) | omega))
    repeat (first | (with_reducible exact HB4) | (with_reducible exact Below.refl _ _) | (with_reducible refine Below.drew ?_) | (with_reducible refine Below.setCell ?_ (by first | (simp; done) | (simp; omega) | omega) _) | (with_reducible refine Below.alloc ?_ (by first | (simp; done) | (simp; omega) | omega) _))
  have hB5 := HB5.size
  have hs5 := hb.size
  try simp only [World.size_alloc, World.size_drew, World.size_setCell] at hs5
  obtain ⟨hc, hf⟩ := bcell hb
  have c5_0 := fun (o : Nat) => hc (w1.heap.size) o (by first | (simp; done) | (simp; omega) | omega)
  have f5_0 := fun (o : Nat) => hf (w1.heap.size) o (by first | (simp; done) | (simp; omega) | omega)
  have l5_0 : w1.heap.size < w5.heap.size := (by first | (simp; done) | (simp; omega) | omega)
  have c5_1 := fun (o : Nat) => hc (w2.heap.size) o (by first | (simp; done) | (simp; omega) | omega)
  have f5_1 := fun (o : Nat) => hf (w2.heap.size) o (by first | (simp; done) | (simp; omega) | omega)
  have l5_1 : w2.heap.size < w5.heap.size := (by first | (simp; done) | (simp; omega) | omega)
  have c5_2 := fun (o : Nat) => hc (w3.heap.size) o (by first | (simp; done) | (simp; omega) | omega)
  have f5_2 := fun (o : Nat) => hf (w3.heap.size) o (by first | (simp; done) | (simp; omega) | omega)
  have l5_2 : w3.heap.size < w5.heap.size := (by first | (simp; done) | (simp; omega) | omega)
  have c5_3 := fun (o : Nat) => hc (w4.heap.size) o (by first | (simp; done) | (simp; omega) | omega)
  have f5_3 := fun (o : Nat) => hf (w4.heap.size) o (by first | (simp; done) | (simp; omega) | omega)
  have l5_3 : w4.heap.size < w5.heap.size := (by first | (simp; done) | (simp; omega) | omega)
  clear hb hc hf
  go_wp2
  go_ret
  refine ⟨rfl, ?_⟩
  repeat (first | (with_reducible exact HB5) | (with_reducible exact Below.refl _ _) | (with_reducible refine Below.drew ?_) | (with_reducible refine Below.setCell ?_ (by first | (simp; done) | (simp; omega) | omega) _) | (with_reducible refine Below.alloc ?_ (by first | (simp; done) | (simp; omega) | omega) _))

set_option maxHeartbeats 4000000 in
theorem undoes_walk (a b v1 v3 v8 : Int) (z s c o : Bool) (z1 s1 c1 o1 z2 s2 c2 o2 z3 s3 c3 o3 z4 s4 c4 o4 z5 s5 c5 o5 z6 s6 c6 o6 z7 s7 c7 o7 z8 s8 c8 o8 z9 s9 c9 o9 : Bool) (w : World) (H1 : Hid (aluR 0 a b z s c o = ⟨v1, z1, s1, c1, o1⟩)) (H2 : Hid (aluR 1 v1 b z s c o = ⟨a, z2, s2, c2, o2⟩)) (H3 : Hid (aluR 4 a b z s c o = ⟨v3, z3, s3, c3, o3⟩)) (H4 : Hid (aluR 4 v3 b z s c o = ⟨a, z4, s4, c4, o4⟩)) (H5 : Hid (aluR 7 a b z s c o = ⟨a, z5, s5, c5, o5⟩)) (H6 : Hid (aluR 8 a b z s c o = ⟨a, z6, s6, c6, o6⟩)) (H7 : Hid (aluR 9 a 64 z s c o = ⟨a, z, s, c, o⟩)) (H8 : Hid (aluR 5 a 0 z s c o = ⟨v8, z8, s8, c8, o8⟩)) (H9 : Hid (aluR 6 v8 0 z s c o = ⟨a, z9, s9, c, o9⟩)) :
    Calls Try.prog 13 #[.int .u64 a, .int .u64 b, .agg #[.bool z, .bool s, .bool c, .bool o]] w fun e w' => e = .returned (.bool true) ∧ Below w.heap.size w w' := by
  have hu := Try.underlying44
  have HB0 : Below w.heap.size w w := Below.refl _ _
  go_enter Try.func13, Try.ntmps13
  go_wp2_with fail
  refine (Do_calls _ _ _ _ _ _ _ _).mono ?_
  rw [H1.out]
  rintro e w1 ⟨rfl, hb⟩
  have HB1 : Below w.heap.size w w1 := by
    refine Below.trans ?_ (hb.mono (by have := HB0.size; first | (simp; done) | (simp; omega) | omega))
    repeat (first | (with_reducible exact HB0) | (with_reducible exact Below.refl _ _) | (with_reducible refine Below.drew ?_) | (with_reducible refine Below.setCell ?_ (by first | (simp; done) | (simp; omega) | omega) _) | (with_reducible refine Below.alloc ?_ (by first | (simp; done) | (simp; omega) | omega) _))
  have hB1 := HB1.size
  have hs1 := hb.size
  try simp only [World.size_alloc, World.size_drew, World.size_setCell] at hs1
  obtain ⟨hc, hf⟩ := bcell hb
  have c1_0 := fun (o : Nat) => hc (w.heap.size) o (by first | (simp; done) | (simp; omega) | omega)
  have f1_0 := fun (o : Nat) => hf (w.heap.size) o (by first | (simp; done) | (simp; omega) | omega)
  have l1_0 : w.heap.size < w1.heap.size := (by first | (simp; done) | (simp; omega) | omega)
  clear hb hc hf
  go_wp2_with fail
  refine (Do_calls _ _ _ _ _ _ _ _).mono ?_
  rw [H2.out]
  rintro e w2 ⟨rfl, hb⟩
  have HB2 : Below w.heap.size w w2 := by
    refine Below.trans ?_ (hb.mono (by have := HB1.size; first | (simp; done) | (simp; omega) | omega))
    repeat (first | (with_reducible exact HB1) | (with_reducible exact Below.refl _ _) | (with_reducible refine Below.drew ?_) | (with_reducible refine Below.setCell ?_ (by first | (simp; done) | (simp; omega) | omega) _) | (with_reducible refine Below.alloc ?_ (by first | (simp; done) | (simp; omega) | omega) _))
  have hB2 := HB2.size
  have hs2 := hb.size
  try simp only [World.size_alloc, World.size_drew, World.size_setCell] at hs2
  obtain ⟨hc, hf⟩ := bcell hb
  have c2_0 := fun (o : Nat) => hc (w.heap.size) o (by first | (simp; done) | (simp; omega) | omega)
  have f2_0 := fun (o : Nat) => hf (w.heap.size) o (by first | (simp; done) | (simp; omega) | omega)
  have l2_0 : w.heap.size < w2.heap.size := (by first | (simp; done) | (simp; omega) | omega)
  clear hb hc hf
  go_wp2_with fail
  refine (Do_calls _ _ _ _ _ _ _ _).mono ?_
  rw [H3.out]
  rintro e w3 ⟨rfl, hb⟩
  have HB3 : Below w.heap.size w w3 := by
    refine Below.trans ?_ (hb.mono (by have := HB2.size; first | (simp; done) | (simp; omega) | omega))
    repeat (first | (with_reducible exact HB2) | (with_reducible exact Below.refl _ _) | (with_reducible refine Below.drew ?_) | (with_reducible refine Below.setCell ?_ (by first | (simp; done) | (simp; omega) | omega) _) | (with_reducible refine Below.alloc ?_ (by first | (simp; done) | (simp; omega) | omega) _))
  have hB3 := HB3.size
  have hs3 := hb.size
  try simp only [World.size_alloc, World.size_drew, World.size_setCell] at hs3
  obtain ⟨hc, hf⟩ := bcell hb
  have c3_0 := fun (o : Nat) => hc (w.heap.size) o (by first | (simp; done) | (simp; omega) | omega)
  have f3_0 := fun (o : Nat) => hf (w.heap.size) o (by first | (simp; done) | (simp; omega) | omega)
  have l3_0 : w.heap.size < w3.heap.size := (by first | (simp; done) | (simp; omega) | omega)
  clear hb hc hf
  go_wp2_with fail
  refine (Do_calls _ _ _ _ _ _ _ _).mono ?_
  rw [H4.out]
  rintro e w4 ⟨rfl, hb⟩
  have HB4 : Below w.heap.size w w4 := by
    refine Below.trans ?_ (hb.mono (by have := HB3.size; first | (simp; done) | (simp; omega) | omega))
    repeat (first | (with_reducible exact HB3) | (with_reducible exact Below.refl _ _) | (with_reducible refine Below.drew ?_) | (with_reducible refine Below.setCell ?_ (by first | (simp; done) | (simp; omega) | omega) _) | (with_reducible refine Below.alloc ?_ (by first | (simp; done) | (simp; omega) | omega) _))
  have hB4 := HB4.size
  have hs4 := hb.size
  try simp only [World.size_alloc, World.size_drew, World.size_setCell] at hs4
  obtain ⟨hc, hf⟩ := bcell hb
  have c4_0 := fun (o : Nat) => hc (w.heap.size) o (by first | (simp; done) | (simp; omega) | omega)
  have f4_0 := fun (o : Nat) => hf (w.heap.size) o (by first | (simp; done) | (simp; omega) | omega)
  have l4_0 : w.heap.size < w4.heap.size := (by first | (simp; done) | (simp; omega) | omega)
  clear hb hc hf
  go_wp2_with fail
  refine (Do_calls _ _ _ _ _ _ _ _).mono ?_
  rw [H5.out]
  rintro e w5 ⟨rfl, hb⟩
  have HB5 : Below w.heap.size w w5 := by
    refine Below.trans ?_ (hb.mono (by have := HB4.size; first | (simp; done) | (simp; omega) | omega))
    repeat (first | (with_reducible exact HB4) | (with_reducible exact Below.refl _ _) | (with_reducible refine Below.drew ?_) | (with_reducible refine Below.setCell ?_ (by first | (simp; done) | (simp; omega) | omega) _) | (with_reducible refine Below.alloc ?_ (by first | (simp; done) | (simp; omega) | omega) _))
  have hB5 := HB5.size
  have hs5 := hb.size
  try simp only [World.size_alloc, World.size_drew, World.size_setCell] at hs5
  obtain ⟨hc, hf⟩ := bcell hb
  have c5_0 := fun (o : Nat) => hc (w.heap.size) o (by first | (simp; done) | (simp; omega) | omega)
  have f5_0 := fun (o : Nat) => hf (w.heap.size) o (by first | (simp; done) | (simp; omega) | omega)
  have l5_0 : w.heap.size < w5.heap.size := (by first | (simp; done) | (simp; omega) | omega)
  clear hb hc hf
  go_wp2_with fail
  refine (Do_calls _ _ _ _ _ _ _ _).mono ?_
  rw [H6.out]
  rintro e w6 ⟨rfl, hb⟩
  have HB6 : Below w.heap.size w w6 := by
    refine Below.trans ?_ (hb.mono (by have := HB5.size; first | (simp; done) | (simp; omega) | omega))
    repeat (first | (with_reducible exact HB5) | (with_reducible exact Below.refl _ _) | (with_reducible refine Below.drew ?_) | (with_reducible refine Below.setCell ?_ (by first | (simp; done) | (simp; omega) | omega) _) | (with_reducible refine Below.alloc ?_ (by first | (simp; done) | (simp; omega) | omega) _))
  have hB6 := HB6.size
  have hs6 := hb.size
  try simp only [World.size_alloc, World.size_drew, World.size_setCell] at hs6
  obtain ⟨hc, hf⟩ := bcell hb
  have c6_0 := fun (o : Nat) => hc (w.heap.size) o (by first | (simp; done) | (simp; omega) | omega)
  have f6_0 := fun (o : Nat) => hf (w.heap.size) o (by first | (simp; done) | (simp; omega) | omega)
  have l6_0 : w.heap.size < w6.heap.size := (by first | (simp; done) | (simp; omega) | omega)
  clear hb hc hf
  go_wp2_with fail
  refine (Do_calls _ _ _ _ _ _ _ _).mono ?_
  rw [H7.out]
  rintro e w7 ⟨rfl, hb⟩
  have HB7 : Below w.heap.size w w7 := by
    refine Below.trans ?_ (hb.mono (by have := HB6.size; first | (simp; done) | (simp; omega) | omega))
    repeat (first | (with_reducible exact HB6) | (with_reducible exact Below.refl _ _) | (with_reducible refine Below.drew ?_) | (with_reducible refine Below.setCell ?_ (by first | (simp; done) | (simp; omega) | omega) _) | (with_reducible refine Below.alloc ?_ (by first | (simp; done) | (simp; omega) | omega) _))
  have hB7 := HB7.size
  have hs7 := hb.size
  try simp only [World.size_alloc, World.size_drew, World.size_setCell] at hs7
  obtain ⟨hc, hf⟩ := bcell hb
  have c7_0 := fun (o : Nat) => hc (w.heap.size) o (by first | (simp; done) | (simp; omega) | omega)
  have f7_0 := fun (o : Nat) => hf (w.heap.size) o (by first | (simp; done) | (simp; omega) | omega)
  have l7_0 : w.heap.size < w7.heap.size := (by first | (simp; done) | (simp; omega) | omega)
  clear hb hc hf
  go_wp2_with fail
  refine (Do_calls _ _ _ _ _ _ _ _).mono ?_
  rw [H8.out]
  rintro e w8 ⟨rfl, hb⟩
  have HB8 : Below w.heap.size w w8 := by
    refine Below.trans ?_ (hb.mono (by have := HB7.size; first | (simp; done) | (simp; omega) | omega))
    repeat (first | (with_reducible exact HB7) | (with_reducible exact Below.refl _ _) | (with_reducible refine Below.drew ?_) | (with_reducible refine Below.setCell ?_ (by first | (simp; done) | (simp; omega) | omega) _) | (with_reducible refine Below.alloc ?_ (by first | (simp; done) | (simp; omega) | omega) _))
  have hB8 := HB8.size
  have hs8 := hb.size
  try simp only [World.size_alloc, World.size_drew, World.size_setCell] at hs8
  obtain ⟨hc, hf⟩ := bcell hb
  have c8_0 := fun (o : Nat) => hc (w.heap.size) o (by first | (simp; done) | (simp; omega) | omega)
  have f8_0 := fun (o : Nat) => hf (w.heap.size) o (by first | (simp; done) | (simp; omega) | omega)
  have l8_0 : w.heap.size < w8.heap.size := (by first | (simp; done) | (simp; omega) | omega)
  have c8_1 := fun (o : Nat) => hc (w7.heap.size) o (by first | (simp; done) | (simp; omega) | omega)
  have f8_1 := fun (o : Nat) => hf (w7.heap.size) o (by first | (simp; done) | (simp; omega) | omega)
  have l8_1 : w7.heap.size < w8.heap.size := (by first | (simp; done) | (simp; omega) | omega)
  clear hb hc hf
  go_wp2_with fail
  refine (Do_calls _ _ _ _ _ _ _ _).mono ?_
  rw [H9.out]
  rintro e w9 ⟨rfl, hb⟩
  have HB9 : Below w.heap.size w w9 := by
    refine Below.trans ?_ (hb.mono (by have := HB8.size; first | (simp; done) | (simp; omega) | omega))
    repeat (first | (with_reducible exact HB8) | (with_reducible exact Below.refl _ _) | (with_reducible refine Below.drew ?_) | (with_reducible refine Below.setCell ?_ (by first | (simp; done) | (simp; omega) | omega) _) | (with_reducible refine Below.alloc ?_ (by first | (simp; done) | (simp; omega) | omega) _))
  have hB9 := HB9.size
  have hs9 := hb.size
  try simp only [World.size_alloc, World.size_drew, World.size_setCell] at hs9
  obtain ⟨hc, hf⟩ := bcell hb
  have c9_0 := fun (o : Nat) => hc (w.heap.size) o (by first | (simp; done) | (simp; omega) | omega)
  have f9_0 := fun (o : Nat) => hf (w.heap.size) o (by first | (simp; done) | (simp; omega) | omega)
  have l9_0 : w.heap.size < w9.heap.size := (by first | (simp; done) | (simp; omega) | omega)
  have c9_1 := fun (o : Nat) => hc (w7.heap.size) o (by first | (simp; done) | (simp; omega) | omega)
  have f9_1 := fun (o : Nat) => hf (w7.heap.size) o (by first | (simp; done) | (simp; omega) | omega)
  have l9_1 : w7.heap.size < w9.heap.size := (by first | (simp; done) | (simp; omega) | omega)
  clear hb hc hf
  go_wp2_with fail
  refine (alu_awake _).mono ?_
  rintro e w10 ⟨rfl, hb⟩
  have HB10 : Below w.heap.size w w10 := by
    refine Below.trans ?_ (hb.mono (by have := HB9.size; first | (simp; done) | (simp; omega) | omega))
    repeat (first | (with_reducible exact HB9) | (with_reducible exact Below.refl _ _) | (with_reducible refine Below.drew ?_) | (with_reducible refine Below.setCell ?_ (by first | (simp; done) | (simp; omega) | omega) _) | (with_reducible refine Below.alloc ?_ (by first | (simp; done) | (simp; omega) | omega) _))
  have hB10 := HB10.size
  have hs10 := hb.size
  try simp only [World.size_alloc, World.size_drew, World.size_setCell] at hs10
  obtain ⟨hc, hf⟩ := bcell hb
  have c10_0 := fun (o : Nat) => hc (w.heap.size) o (by first | (simp; done) | (simp; omega) | omega)
  have f10_0 := fun (o : Nat) => hf (w.heap.size) o (by first | (simp; done) | (simp; omega) | omega)
  have l10_0 : w.heap.size < w10.heap.size := (by first | (simp; done) | (simp; omega) | omega)
  have c10_1 := fun (o : Nat) => hc (w7.heap.size) o (by first | (simp; done) | (simp; omega) | omega)
  have f10_1 := fun (o : Nat) => hf (w7.heap.size) o (by first | (simp; done) | (simp; omega) | omega)
  have l10_1 : w7.heap.size < w10.heap.size := (by first | (simp; done) | (simp; omega) | omega)
  have c10_2 := fun (o : Nat) => hc (w9.heap.size) o (by first | (simp; done) | (simp; omega) | omega)
  have f10_2 := fun (o : Nat) => hf (w9.heap.size) o (by first | (simp; done) | (simp; omega) | omega)
  have l10_2 : w9.heap.size < w10.heap.size := (by first | (simp; done) | (simp; omega) | omega)
  clear hb hc hf
  go_wp2
  go_ret
  refine ⟨rfl, ?_⟩
  repeat (first | (with_reducible exact HB10) | (with_reducible exact Below.refl _ _) | (with_reducible refine Below.drew ?_) | (with_reducible refine Below.setCell ?_ (by first | (simp; done) | (simp; omega) | omega) _) | (with_reducible refine Below.alloc ?_ (by first | (simp; done) | (simp; omega) | omega) _))

set_option maxHeartbeats 4000000 in
theorem signs_0 (a b v1 v2 : Int) (z1 z2 s2 c1 c2 : Bool) (w : World) (H1 : Hid (aluR 0 a b false false false false = ⟨v1, z1, false, c1, false⟩)) (H2 : Hid (aluR 1 a b false false false false = ⟨v2, z2, s2, c2, false⟩)) (e1 : decide (wrap64 a < 0) = false) (e2 : decide (wrap64 b < 0) = false) (e3 : decide (wrap64 v1 < 0) = false) (e4 : decide (wrap64 v2 < 0) = false) (e5 : (v1 == 0) = z1) (e6 : (a == b) = z2) :
    Calls Try.prog 11 #[.int .u64 a, .int .u64 b] w fun e w' => e = .returned (.bool true) ∧ Below w.heap.size w w' := by
  have hu := Try.underlying44
  have HB0 : Below w.heap.size w w := Below.refl _ _
  go_enter Try.func11, Try.ntmps11
  go_wp2_with fail
  refine (Do_calls _ _ _ _ _ _ _ _).mono ?_
  rw [H1.out]
  rintro e w1 ⟨rfl, hb⟩
  have HB1 : Below w.heap.size w w1 := by
    refine Below.trans ?_ (hb.mono (by have := HB0.size; first | (simp; done) | (simp; omega) | omega))
    repeat (first | (with_reducible exact HB0) | (with_reducible exact Below.refl _ _) | (with_reducible refine Below.drew ?_) | (with_reducible refine Below.setCell ?_ (by first | (simp; done) | (simp; omega) | omega) _) | (with_reducible refine Below.alloc ?_ (by first | (simp; done) | (simp; omega) | omega) _))
  have hB1 := HB1.size
  have hs1 := hb.size
  try simp only [World.size_alloc, World.size_drew, World.size_setCell] at hs1
  obtain ⟨hc, hf⟩ := bcell hb
  clear hb hc hf
  go_wp2_with fail
  refine (Do_calls _ _ _ _ _ _ _ _).mono ?_
  rw [H2.out]
  rintro e w2 ⟨rfl, hb⟩
  have HB2 : Below w.heap.size w w2 := by
    refine Below.trans ?_ (hb.mono (by have := HB1.size; first | (simp; done) | (simp; omega) | omega))
    repeat (first | (with_reducible exact HB1) | (with_reducible exact Below.refl _ _) | (with_reducible refine Below.drew ?_) | (with_reducible refine Below.setCell ?_ (by first | (simp; done) | (simp; omega) | omega) _) | (with_reducible refine Below.alloc ?_ (by first | (simp; done) | (simp; omega) | omega) _))
  have hB2 := HB2.size
  have hs2 := hb.size
  try simp only [World.size_alloc, World.size_drew, World.size_setCell] at hs2
  obtain ⟨hc, hf⟩ := bcell hb
  have c2_0 := fun (o : Nat) => hc (w1.heap.size) o (by first | (simp; done) | (simp; omega) | omega)
  have f2_0 := fun (o : Nat) => hf (w1.heap.size) o (by first | (simp; done) | (simp; omega) | omega)
  have l2_0 : w1.heap.size < w2.heap.size := (by first | (simp; done) | (simp; omega) | omega)
  clear hb hc hf
  go_wp2_with fail
  refine (alu_awake _).mono ?_
  rintro e w3 ⟨rfl, hb⟩
  have HB3 : Below w.heap.size w w3 := by
    refine Below.trans ?_ (hb.mono (by have := HB2.size; first | (simp; done) | (simp; omega) | omega))
    repeat (first | (with_reducible exact HB2) | (with_reducible exact Below.refl _ _) | (with_reducible refine Below.drew ?_) | (with_reducible refine Below.setCell ?_ (by first | (simp; done) | (simp; omega) | omega) _) | (with_reducible refine Below.alloc ?_ (by first | (simp; done) | (simp; omega) | omega) _))
  have hB3 := HB3.size
  have hs3 := hb.size
  try simp only [World.size_alloc, World.size_drew, World.size_setCell] at hs3
  obtain ⟨hc, hf⟩ := bcell hb
  have c3_0 := fun (o : Nat) => hc (w1.heap.size) o (by first | (simp; done) | (simp; omega) | omega)
  have f3_0 := fun (o : Nat) => hf (w1.heap.size) o (by first | (simp; done) | (simp; omega) | omega)
  have l3_0 : w1.heap.size < w3.heap.size := (by first | (simp; done) | (simp; omega) | omega)
  have c3_1 := fun (o : Nat) => hc (w2.heap.size) o (by first | (simp; done) | (simp; omega) | omega)
  have f3_1 := fun (o : Nat) => hf (w2.heap.size) o (by first | (simp; done) | (simp; omega) | omega)
  have l3_1 : w2.heap.size < w3.heap.size := (by first | (simp; done) | (simp; omega) | omega)
  clear hb hc hf
  go_wp2
  go_ret
  refine ⟨rfl, ?_⟩
  repeat (first | (with_reducible exact HB3) | (with_reducible exact Below.refl _ _) | (with_reducible refine Below.drew ?_) | (with_reducible refine Below.setCell ?_ (by first | (simp; done) | (simp; omega) | omega) _) | (with_reducible refine Below.alloc ?_ (by first | (simp; done) | (simp; omega) | omega) _))
set_option maxHeartbeats 4000000 in
theorem signs_1 (a b v1 v2 : Int) (z1 z2 s2 c1 c2 : Bool) (w : World) (H1 : Hid (aluR 0 a b false false false false = ⟨v1, z1, false, c1, false⟩)) (H2 : Hid (aluR 1 a b false false false false = ⟨v2, z2, s2, c2, true⟩)) (e1 : decide (wrap64 a < 0) = true) (e2 : decide (wrap64 b < 0) = false) (e3 : decide (wrap64 v1 < 0) = false) (e4 : decide (wrap64 v2 < 0) = false) (e5 : (v1 == 0) = z1) (e6 : (a == b) = z2) :
    Calls Try.prog 11 #[.int .u64 a, .int .u64 b] w fun e w' => e = .returned (.bool true) ∧ Below w.heap.size w w' := by
  have hu := Try.underlying44
  have HB0 : Below w.heap.size w w := Below.refl _ _
  go_enter Try.func11, Try.ntmps11
  go_wp2_with fail
  refine (Do_calls _ _ _ _ _ _ _ _).mono ?_
  rw [H1.out]
  rintro e w1 ⟨rfl, hb⟩
  have HB1 : Below w.heap.size w w1 := by
    refine Below.trans ?_ (hb.mono (by have := HB0.size; first | (simp; done) | (simp; omega) | omega))
    repeat (first | (with_reducible exact HB0) | (with_reducible exact Below.refl _ _) | (with_reducible refine Below.drew ?_) | (with_reducible refine Below.setCell ?_ (by first | (simp; done) | (simp; omega) | omega) _) | (with_reducible refine Below.alloc ?_ (by first | (simp; done) | (simp; omega) | omega) _))
  have hB1 := HB1.size
  have hs1 := hb.size
  try simp only [World.size_alloc, World.size_drew, World.size_setCell] at hs1
  obtain ⟨hc, hf⟩ := bcell hb
  clear hb hc hf
  go_wp2_with fail
  refine (Do_calls _ _ _ _ _ _ _ _).mono ?_
  rw [H2.out]
  rintro e w2 ⟨rfl, hb⟩
  have HB2 : Below w.heap.size w w2 := by
    refine Below.trans ?_ (hb.mono (by have := HB1.size; first | (simp; done) | (simp; omega) | omega))
    repeat (first | (with_reducible exact HB1) | (with_reducible exact Below.refl _ _) | (with_reducible refine Below.drew ?_) | (with_reducible refine Below.setCell ?_ (by first | (simp; done) | (simp; omega) | omega) _) | (with_reducible refine Below.alloc ?_ (by first | (simp; done) | (simp; omega) | omega) _))
  have hB2 := HB2.size
  have hs2 := hb.size
  try simp only [World.size_alloc, World.size_drew, World.size_setCell] at hs2
  obtain ⟨hc, hf⟩ := bcell hb
  have c2_0 := fun (o : Nat) => hc (w1.heap.size) o (by first | (simp; done) | (simp; omega) | omega)
  have f2_0 := fun (o : Nat) => hf (w1.heap.size) o (by first | (simp; done) | (simp; omega) | omega)
  have l2_0 : w1.heap.size < w2.heap.size := (by first | (simp; done) | (simp; omega) | omega)
  clear hb hc hf
  go_wp2_with fail
  refine (alu_awake _).mono ?_
  rintro e w3 ⟨rfl, hb⟩
  have HB3 : Below w.heap.size w w3 := by
    refine Below.trans ?_ (hb.mono (by have := HB2.size; first | (simp; done) | (simp; omega) | omega))
    repeat (first | (with_reducible exact HB2) | (with_reducible exact Below.refl _ _) | (with_reducible refine Below.drew ?_) | (with_reducible refine Below.setCell ?_ (by first | (simp; done) | (simp; omega) | omega) _) | (with_reducible refine Below.alloc ?_ (by first | (simp; done) | (simp; omega) | omega) _))
  have hB3 := HB3.size
  have hs3 := hb.size
  try simp only [World.size_alloc, World.size_drew, World.size_setCell] at hs3
  obtain ⟨hc, hf⟩ := bcell hb
  have c3_0 := fun (o : Nat) => hc (w1.heap.size) o (by first | (simp; done) | (simp; omega) | omega)
  have f3_0 := fun (o : Nat) => hf (w1.heap.size) o (by first | (simp; done) | (simp; omega) | omega)
  have l3_0 : w1.heap.size < w3.heap.size := (by first | (simp; done) | (simp; omega) | omega)
  have c3_1 := fun (o : Nat) => hc (w2.heap.size) o (by first | (simp; done) | (simp; omega) | omega)
  have f3_1 := fun (o : Nat) => hf (w2.heap.size) o (by first | (simp; done) | (simp; omega) | omega)
  have l3_1 : w2.heap.size < w3.heap.size := (by first | (simp; done) | (simp; omega) | omega)
  clear hb hc hf
  go_wp2
  go_ret
  refine ⟨rfl, ?_⟩
  repeat (first | (with_reducible exact HB3) | (with_reducible exact Below.refl _ _) | (with_reducible refine Below.drew ?_) | (with_reducible refine Below.setCell ?_ (by first | (simp; done) | (simp; omega) | omega) _) | (with_reducible refine Below.alloc ?_ (by first | (simp; done) | (simp; omega) | omega) _))
set_option maxHeartbeats 4000000 in
theorem signs_2 (a b v1 v2 : Int) (z1 z2 s2 c1 c2 : Bool) (w : World) (H1 : Hid (aluR 0 a b false false false false = ⟨v1, z1, false, c1, false⟩)) (H2 : Hid (aluR 1 a b false false false false = ⟨v2, z2, s2, c2, false⟩)) (e1 : decide (wrap64 a < 0) = false) (e2 : decide (wrap64 b < 0) = true) (e3 : decide (wrap64 v1 < 0) = false) (e4 : decide (wrap64 v2 < 0) = false) (e5 : (v1 == 0) = z1) (e6 : (a == b) = z2) :
    Calls Try.prog 11 #[.int .u64 a, .int .u64 b] w fun e w' => e = .returned (.bool true) ∧ Below w.heap.size w w' := by
  have hu := Try.underlying44
  have HB0 : Below w.heap.size w w := Below.refl _ _
  go_enter Try.func11, Try.ntmps11
  go_wp2_with fail
  refine (Do_calls _ _ _ _ _ _ _ _).mono ?_
  rw [H1.out]
  rintro e w1 ⟨rfl, hb⟩
  have HB1 : Below w.heap.size w w1 := by
    refine Below.trans ?_ (hb.mono (by have := HB0.size; first | (simp; done) | (simp; omega) | omega))
    repeat (first | (with_reducible exact HB0) | (with_reducible exact Below.refl _ _) | (with_reducible refine Below.drew ?_) | (with_reducible refine Below.setCell ?_ (by first | (simp; done) | (simp; omega) | omega) _) | (with_reducible refine Below.alloc ?_ (by first | (simp; done) | (simp; omega) | omega) _))
  have hB1 := HB1.size
  have hs1 := hb.size
  try simp only [World.size_alloc, World.size_drew, World.size_setCell] at hs1
  obtain ⟨hc, hf⟩ := bcell hb
  clear hb hc hf
  go_wp2_with fail
  refine (Do_calls _ _ _ _ _ _ _ _).mono ?_
  rw [H2.out]
  rintro e w2 ⟨rfl, hb⟩
  have HB2 : Below w.heap.size w w2 := by
    refine Below.trans ?_ (hb.mono (by have := HB1.size; first | (simp; done) | (simp; omega) | omega))
    repeat (first | (with_reducible exact HB1) | (with_reducible exact Below.refl _ _) | (with_reducible refine Below.drew ?_) | (with_reducible refine Below.setCell ?_ (by first | (simp; done) | (simp; omega) | omega) _) | (with_reducible refine Below.alloc ?_ (by first | (simp; done) | (simp; omega) | omega) _))
  have hB2 := HB2.size
  have hs2 := hb.size
  try simp only [World.size_alloc, World.size_drew, World.size_setCell] at hs2
  obtain ⟨hc, hf⟩ := bcell hb
  have c2_0 := fun (o : Nat) => hc (w1.heap.size) o (by first | (simp; done) | (simp; omega) | omega)
  have f2_0 := fun (o : Nat) => hf (w1.heap.size) o (by first | (simp; done) | (simp; omega) | omega)
  have l2_0 : w1.heap.size < w2.heap.size := (by first | (simp; done) | (simp; omega) | omega)
  clear hb hc hf
  go_wp2_with fail
  refine (alu_awake _).mono ?_
  rintro e w3 ⟨rfl, hb⟩
  have HB3 : Below w.heap.size w w3 := by
    refine Below.trans ?_ (hb.mono (by have := HB2.size; first | (simp; done) | (simp; omega) | omega))
    repeat (first | (with_reducible exact HB2) | (with_reducible exact Below.refl _ _) | (with_reducible refine Below.drew ?_) | (with_reducible refine Below.setCell ?_ (by first | (simp; done) | (simp; omega) | omega) _) | (with_reducible refine Below.alloc ?_ (by first | (simp; done) | (simp; omega) | omega) _))
  have hB3 := HB3.size
  have hs3 := hb.size
  try simp only [World.size_alloc, World.size_drew, World.size_setCell] at hs3
  obtain ⟨hc, hf⟩ := bcell hb
  have c3_0 := fun (o : Nat) => hc (w1.heap.size) o (by first | (simp; done) | (simp; omega) | omega)
  have f3_0 := fun (o : Nat) => hf (w1.heap.size) o (by first | (simp; done) | (simp; omega) | omega)
  have l3_0 : w1.heap.size < w3.heap.size := (by first | (simp; done) | (simp; omega) | omega)
  have c3_1 := fun (o : Nat) => hc (w2.heap.size) o (by first | (simp; done) | (simp; omega) | omega)
  have f3_1 := fun (o : Nat) => hf (w2.heap.size) o (by first | (simp; done) | (simp; omega) | omega)
  have l3_1 : w2.heap.size < w3.heap.size := (by first | (simp; done) | (simp; omega) | omega)
  clear hb hc hf
  go_wp2
  go_ret
  refine ⟨rfl, ?_⟩
  repeat (first | (with_reducible exact HB3) | (with_reducible exact Below.refl _ _) | (with_reducible refine Below.drew ?_) | (with_reducible refine Below.setCell ?_ (by first | (simp; done) | (simp; omega) | omega) _) | (with_reducible refine Below.alloc ?_ (by first | (simp; done) | (simp; omega) | omega) _))
set_option maxHeartbeats 4000000 in
theorem signs_3 (a b v1 v2 : Int) (z1 z2 s2 c1 c2 : Bool) (w : World) (H1 : Hid (aluR 0 a b false false false false = ⟨v1, z1, false, c1, true⟩)) (H2 : Hid (aluR 1 a b false false false false = ⟨v2, z2, s2, c2, false⟩)) (e1 : decide (wrap64 a < 0) = true) (e2 : decide (wrap64 b < 0) = true) (e3 : decide (wrap64 v1 < 0) = false) (e4 : decide (wrap64 v2 < 0) = false) (e5 : (v1 == 0) = z1) (e6 : (a == b) = z2) :
    Calls Try.prog 11 #[.int .u64 a, .int .u64 b] w fun e w' => e = .returned (.bool true) ∧ Below w.heap.size w w' := by
  have hu := Try.underlying44
  have HB0 : Below w.heap.size w w := Below.refl _ _
  go_enter Try.func11, Try.ntmps11
  go_wp2_with fail
  refine (Do_calls _ _ _ _ _ _ _ _).mono ?_
  rw [H1.out]
  rintro e w1 ⟨rfl, hb⟩
  have HB1 : Below w.heap.size w w1 := by
    refine Below.trans ?_ (hb.mono (by have := HB0.size; first | (simp; done) | (simp; omega) | omega))
    repeat (first | (with_reducible exact HB0) | (with_reducible exact Below.refl _ _) | (with_reducible refine Below.drew ?_) | (with_reducible refine Below.setCell ?_ (by first | (simp; done) | (simp; omega) | omega) _) | (with_reducible refine Below.alloc ?_ (by first | (simp; done) | (simp; omega) | omega) _))
  have hB1 := HB1.size
  have hs1 := hb.size
  try simp only [World.size_alloc, World.size_drew, World.size_setCell] at hs1
  obtain ⟨hc, hf⟩ := bcell hb
  clear hb hc hf
  go_wp2_with fail
  refine (Do_calls _ _ _ _ _ _ _ _).mono ?_
  rw [H2.out]
  rintro e w2 ⟨rfl, hb⟩
  have HB2 : Below w.heap.size w w2 := by
    refine Below.trans ?_ (hb.mono (by have := HB1.size; first | (simp; done) | (simp; omega) | omega))
    repeat (first | (with_reducible exact HB1) | (with_reducible exact Below.refl _ _) | (with_reducible refine Below.drew ?_) | (with_reducible refine Below.setCell ?_ (by first | (simp; done) | (simp; omega) | omega) _) | (with_reducible refine Below.alloc ?_ (by first | (simp; done) | (simp; omega) | omega) _))
  have hB2 := HB2.size
  have hs2 := hb.size
  try simp only [World.size_alloc, World.size_drew, World.size_setCell] at hs2
  obtain ⟨hc, hf⟩ := bcell hb
  have c2_0 := fun (o : Nat) => hc (w1.heap.size) o (by first | (simp; done) | (simp; omega) | omega)
  have f2_0 := fun (o : Nat) => hf (w1.heap.size) o (by first | (simp; done) | (simp; omega) | omega)
  have l2_0 : w1.heap.size < w2.heap.size := (by first | (simp; done) | (simp; omega) | omega)
  clear hb hc hf
  go_wp2_with fail
  refine (alu_awake _).mono ?_
  rintro e w3 ⟨rfl, hb⟩
  have HB3 : Below w.heap.size w w3 := by
    refine Below.trans ?_ (hb.mono (by have := HB2.size; first | (simp; done) | (simp; omega) | omega))
    repeat (first | (with_reducible exact HB2) | (with_reducible exact Below.refl _ _) | (with_reducible refine Below.drew ?_) | (with_reducible refine Below.setCell ?_ (by first | (simp; done) | (simp; omega) | omega) _) | (with_reducible refine Below.alloc ?_ (by first | (simp; done) | (simp; omega) | omega) _))
  have hB3 := HB3.size
  have hs3 := hb.size
  try simp only [World.size_alloc, World.size_drew, World.size_setCell] at hs3
  obtain ⟨hc, hf⟩ := bcell hb
  have c3_0 := fun (o : Nat) => hc (w1.heap.size) o (by first | (simp; done) | (simp; omega) | omega)
  have f3_0 := fun (o : Nat) => hf (w1.heap.size) o (by first | (simp; done) | (simp; omega) | omega)
  have l3_0 : w1.heap.size < w3.heap.size := (by first | (simp; done) | (simp; omega) | omega)
  have c3_1 := fun (o : Nat) => hc (w2.heap.size) o (by first | (simp; done) | (simp; omega) | omega)
  have f3_1 := fun (o : Nat) => hf (w2.heap.size) o (by first | (simp; done) | (simp; omega) | omega)
  have l3_1 : w2.heap.size < w3.heap.size := (by first | (simp; done) | (simp; omega) | omega)
  clear hb hc hf
  go_wp2
  go_ret
  refine ⟨rfl, ?_⟩
  repeat (first | (with_reducible exact HB3) | (with_reducible exact Below.refl _ _) | (with_reducible refine Below.drew ?_) | (with_reducible refine Below.setCell ?_ (by first | (simp; done) | (simp; omega) | omega) _) | (with_reducible refine Below.alloc ?_ (by first | (simp; done) | (simp; omega) | omega) _))
set_option maxHeartbeats 4000000 in
theorem signs_4 (a b v1 v2 : Int) (z1 z2 s2 c1 c2 : Bool) (w : World) (H1 : Hid (aluR 0 a b false false false false = ⟨v1, z1, true, c1, true⟩)) (H2 : Hid (aluR 1 a b false false false false = ⟨v2, z2, s2, c2, false⟩)) (e1 : decide (wrap64 a < 0) = false) (e2 : decide (wrap64 b < 0) = false) (e3 : decide (wrap64 v1 < 0) = true) (e4 : decide (wrap64 v2 < 0) = false) (e5 : (v1 == 0) = z1) (e6 : (a == b) = z2) :
    Calls Try.prog 11 #[.int .u64 a, .int .u64 b] w fun e w' => e = .returned (.bool true) ∧ Below w.heap.size w w' := by
  have hu := Try.underlying44
  have HB0 : Below w.heap.size w w := Below.refl _ _
  go_enter Try.func11, Try.ntmps11
  go_wp2_with fail
  refine (Do_calls _ _ _ _ _ _ _ _).mono ?_
  rw [H1.out]
  rintro e w1 ⟨rfl, hb⟩
  have HB1 : Below w.heap.size w w1 := by
    refine Below.trans ?_ (hb.mono (by have := HB0.size; first | (simp; done) | (simp; omega) | omega))
    repeat (first | (with_reducible exact HB0) | (with_reducible exact Below.refl _ _) | (with_reducible refine Below.drew ?_) | (with_reducible refine Below.setCell ?_ (by first | (simp; done) | (simp; omega) | omega) _) | (with_reducible refine Below.alloc ?_ (by first | (simp; done) | (simp; omega) | omega) _))
  have hB1 := HB1.size
  have hs1 := hb.size
  try simp only [World.size_alloc, World.size_drew, World.size_setCell] at hs1
  obtain ⟨hc, hf⟩ := bcell hb
  clear hb hc hf
  go_wp2_with fail
  refine (Do_calls _ _ _ _ _ _ _ _).mono ?_
  rw [H2.out]
  rintro e w2 ⟨rfl, hb⟩
  have HB2 : Below w.heap.size w w2 := by
    refine Below.trans ?_ (hb.mono (by have := HB1.size; first | (simp; done) | (simp; omega) | omega))
    repeat (first | (with_reducible exact HB1) | (with_reducible exact Below.refl _ _) | (with_reducible refine Below.drew ?_) | (with_reducible refine Below.setCell ?_ (by first | (simp; done) | (simp; omega) | omega) _) | (with_reducible refine Below.alloc ?_ (by first | (simp; done) | (simp; omega) | omega) _))
  have hB2 := HB2.size
  have hs2 := hb.size
  try simp only [World.size_alloc, World.size_drew, World.size_setCell] at hs2
  obtain ⟨hc, hf⟩ := bcell hb
  have c2_0 := fun (o : Nat) => hc (w1.heap.size) o (by first | (simp; done) | (simp; omega) | omega)
  have f2_0 := fun (o : Nat) => hf (w1.heap.size) o (by first | (simp; done) | (simp; omega) | omega)
  have l2_0 : w1.heap.size < w2.heap.size := (by first | (simp; done) | (simp; omega) | omega)
  clear hb hc hf
  go_wp2_with fail
  refine (alu_awake _).mono ?_
  rintro e w3 ⟨rfl, hb⟩
  have HB3 : Below w.heap.size w w3 := by
    refine Below.trans ?_ (hb.mono (by have := HB2.size; first | (simp; done) | (simp; omega) | omega))
    repeat (first | (with_reducible exact HB2) | (with_reducible exact Below.refl _ _) | (with_reducible refine Below.drew ?_) | (with_reducible refine Below.setCell ?_ (by first | (simp; done) | (simp; omega) | omega) _) | (with_reducible refine Below.alloc ?_ (by first | (simp; done) | (simp; omega) | omega) _))
  have hB3 := HB3.size
  have hs3 := hb.size
  try simp only [World.size_alloc, World.size_drew, World.size_setCell] at hs3
  obtain ⟨hc, hf⟩ := bcell hb
  have c3_0 := fun (o : Nat) => hc (w1.heap.size) o (by first | (simp; done) | (simp; omega) | omega)
  have f3_0 := fun (o : Nat) => hf (w1.heap.size) o (by first | (simp; done) | (simp; omega) | omega)
  have l3_0 : w1.heap.size < w3.heap.size := (by first | (simp; done) | (simp; omega) | omega)
  have c3_1 := fun (o : Nat) => hc (w2.heap.size) o (by first | (simp; done) | (simp; omega) | omega)
  have f3_1 := fun (o : Nat) => hf (w2.heap.size) o (by first | (simp; done) | (simp; omega) | omega)
  have l3_1 : w2.heap.size < w3.heap.size := (by first | (simp; done) | (simp; omega) | omega)
  clear hb hc hf
  go_wp2
  go_ret
  refine ⟨rfl, ?_⟩
  repeat (first | (with_reducible exact HB3) | (with_reducible exact Below.refl _ _) | (with_reducible refine Below.drew ?_) | (with_reducible refine Below.setCell ?_ (by first | (simp; done) | (simp; omega) | omega) _) | (with_reducible refine Below.alloc ?_ (by first | (simp; done) | (simp; omega) | omega) _))
set_option maxHeartbeats 4000000 in
theorem signs_5 (a b v1 v2 : Int) (z1 z2 s2 c1 c2 : Bool) (w : World) (H1 : Hid (aluR 0 a b false false false false = ⟨v1, z1, true, c1, false⟩)) (H2 : Hid (aluR 1 a b false false false false = ⟨v2, z2, s2, c2, true⟩)) (e1 : decide (wrap64 a < 0) = true) (e2 : decide (wrap64 b < 0) = false) (e3 : decide (wrap64 v1 < 0) = true) (e4 : decide (wrap64 v2 < 0) = false) (e5 : (v1 == 0) = z1) (e6 : (a == b) = z2) :
    Calls Try.prog 11 #[.int .u64 a, .int .u64 b] w fun e w' => e = .returned (.bool true) ∧ Below w.heap.size w w' := by
  have hu := Try.underlying44
  have HB0 : Below w.heap.size w w := Below.refl _ _
  go_enter Try.func11, Try.ntmps11
  go_wp2_with fail
  refine (Do_calls _ _ _ _ _ _ _ _).mono ?_
  rw [H1.out]
  rintro e w1 ⟨rfl, hb⟩
  have HB1 : Below w.heap.size w w1 := by
    refine Below.trans ?_ (hb.mono (by have := HB0.size; first | (simp; done) | (simp; omega) | omega))
    repeat (first | (with_reducible exact HB0) | (with_reducible exact Below.refl _ _) | (with_reducible refine Below.drew ?_) | (with_reducible refine Below.setCell ?_ (by first | (simp; done) | (simp; omega) | omega) _) | (with_reducible refine Below.alloc ?_ (by first | (simp; done) | (simp; omega) | omega) _))
  have hB1 := HB1.size
  have hs1 := hb.size
  try simp only [World.size_alloc, World.size_drew, World.size_setCell] at hs1
  obtain ⟨hc, hf⟩ := bcell hb
  clear hb hc hf
  go_wp2_with fail
  refine (Do_calls _ _ _ _ _ _ _ _).mono ?_
  rw [H2.out]
  rintro e w2 ⟨rfl, hb⟩
  have HB2 : Below w.heap.size w w2 := by
    refine Below.trans ?_ (hb.mono (by have := HB1.size; first | (simp; done) | (simp; omega) | omega))
    repeat (first | (with_reducible exact HB1) | (with_reducible exact Below.refl _ _) | (with_reducible refine Below.drew ?_) | (with_reducible refine Below.setCell ?_ (by first | (simp; done) | (simp; omega) | omega) _) | (with_reducible refine Below.alloc ?_ (by first | (simp; done) | (simp; omega) | omega) _))
  have hB2 := HB2.size
  have hs2 := hb.size
  try simp only [World.size_alloc, World.size_drew, World.size_setCell] at hs2
  obtain ⟨hc, hf⟩ := bcell hb
  have c2_0 := fun (o : Nat) => hc (w1.heap.size) o (by first | (simp; done) | (simp; omega) | omega)
  have f2_0 := fun (o : Nat) => hf (w1.heap.size) o (by first | (simp; done) | (simp; omega) | omega)
  have l2_0 : w1.heap.size < w2.heap.size := (by first | (simp; done) | (simp; omega) | omega)
  clear hb hc hf
  go_wp2_with fail
  refine (alu_awake _).mono ?_
  rintro e w3 ⟨rfl, hb⟩
  have HB3 : Below w.heap.size w w3 := by
    refine Below.trans ?_ (hb.mono (by have := HB2.size; first | (simp; done) | (simp; omega) | omega))
    repeat (first | (with_reducible exact HB2) | (with_reducible exact Below.refl _ _) | (with_reducible refine Below.drew ?_) | (with_reducible refine Below.setCell ?_ (by first | (simp; done) | (simp; omega) | omega) _) | (with_reducible refine Below.alloc ?_ (by first | (simp; done) | (simp; omega) | omega) _))
  have hB3 := HB3.size
  have hs3 := hb.size
  try simp only [World.size_alloc, World.size_drew, World.size_setCell] at hs3
  obtain ⟨hc, hf⟩ := bcell hb
  have c3_0 := fun (o : Nat) => hc (w1.heap.size) o (by first | (simp; done) | (simp; omega) | omega)
  have f3_0 := fun (o : Nat) => hf (w1.heap.size) o (by first | (simp; done) | (simp; omega) | omega)
  have l3_0 : w1.heap.size < w3.heap.size := (by first | (simp; done) | (simp; omega) | omega)
  have c3_1 := fun (o : Nat) => hc (w2.heap.size) o (by first | (simp; done) | (simp; omega) | omega)
  have f3_1 := fun (o : Nat) => hf (w2.heap.size) o (by first | (simp; done) | (simp; omega) | omega)
  have l3_1 : w2.heap.size < w3.heap.size := (by first | (simp; done) | (simp; omega) | omega)
  clear hb hc hf
  go_wp2
  go_ret
  refine ⟨rfl, ?_⟩
  repeat (first | (with_reducible exact HB3) | (with_reducible exact Below.refl _ _) | (with_reducible refine Below.drew ?_) | (with_reducible refine Below.setCell ?_ (by first | (simp; done) | (simp; omega) | omega) _) | (with_reducible refine Below.alloc ?_ (by first | (simp; done) | (simp; omega) | omega) _))
set_option maxHeartbeats 4000000 in
theorem signs_6 (a b v1 v2 : Int) (z1 z2 s2 c1 c2 : Bool) (w : World) (H1 : Hid (aluR 0 a b false false false false = ⟨v1, z1, true, c1, false⟩)) (H2 : Hid (aluR 1 a b false false false false = ⟨v2, z2, s2, c2, false⟩)) (e1 : decide (wrap64 a < 0) = false) (e2 : decide (wrap64 b < 0) = true) (e3 : decide (wrap64 v1 < 0) = true) (e4 : decide (wrap64 v2 < 0) = false) (e5 : (v1 == 0) = z1) (e6 : (a == b) = z2) :
    Calls Try.prog 11 #[.int .u64 a, .int .u64 b] w fun e w' => e = .returned (.bool true) ∧ Below w.heap.size w w' := by
  have hu := Try.underlying44
  have HB0 : Below w.heap.size w w := Below.refl _ _
  go_enter Try.func11, Try.ntmps11
  go_wp2_with fail
  refine (Do_calls _ _ _ _ _ _ _ _).mono ?_
  rw [H1.out]
  rintro e w1 ⟨rfl, hb⟩
  have HB1 : Below w.heap.size w w1 := by
    refine Below.trans ?_ (hb.mono (by have := HB0.size; first | (simp; done) | (simp; omega) | omega))
    repeat (first | (with_reducible exact HB0) | (with_reducible exact Below.refl _ _) | (with_reducible refine Below.drew ?_) | (with_reducible refine Below.setCell ?_ (by first | (simp; done) | (simp; omega) | omega) _) | (with_reducible refine Below.alloc ?_ (by first | (simp; done) | (simp; omega) | omega) _))
  have hB1 := HB1.size
  have hs1 := hb.size
  try simp only [World.size_alloc, World.size_drew, World.size_setCell] at hs1
  obtain ⟨hc, hf⟩ := bcell hb
  clear hb hc hf
  go_wp2_with fail
  refine (Do_calls _ _ _ _ _ _ _ _).mono ?_
  rw [H2.out]
  rintro e w2 ⟨rfl, hb⟩
  have HB2 : Below w.heap.size w w2 := by
    refine Below.trans ?_ (hb.mono (by have := HB1.size; first | (simp; done) | (simp; omega) | omega))
    repeat (first | (with_reducible exact HB1) | (with_reducible exact Below.refl _ _) | (with_reducible refine Below.drew ?_) | (with_reducible refine Below.setCell ?_ (by first | (simp; done) | (simp; omega) | omega) _) | (with_reducible refine Below.alloc ?_ (by first | (simp; done) | (simp; omega) | omega) _))
  have hB2 := HB2.size
  have hs2 := hb.size
  try simp only [World.size_alloc, World.size_drew, World.size_setCell] at hs2
  obtain ⟨hc, hf⟩ := bcell hb
  have c2_0 := fun (o : Nat) => hc (w1.heap.size) o (by first | (simp; done) | (simp; omega) | omega)
  have f2_0 := fun (o : Nat) => hf (w1.heap.size) o (by first | (simp; done) | (simp; omega) | omega)
  have l2_0 : w1.heap.size < w2.heap.size := (by first | (simp; done) | (simp; omega) | omega)
  clear hb hc hf
  go_wp2_with fail
  refine (alu_awake _).mono ?_
  rintro e w3 ⟨rfl, hb⟩
  have HB3 : Below w.heap.size w w3 := by
    refine Below.trans ?_ (hb.mono (by have := HB2.size; first | (simp; done) | (simp; omega) | omega))
    repeat (first | (with_reducible exact HB2) | (with_reducible exact Below.refl _ _) | (with_reducible refine Below.drew ?_) | (with_reducible refine Below.setCell ?_ (by first | (simp; done) | (simp; omega) | omega) _) | (with_reducible refine Below.alloc ?_ (by first | (simp; done) | (simp; omega) | omega) _))
  have hB3 := HB3.size
  have hs3 := hb.size
  try simp only [World.size_alloc, World.size_drew, World.size_setCell] at hs3
  obtain ⟨hc, hf⟩ := bcell hb
  have c3_0 := fun (o : Nat) => hc (w1.heap.size) o (by first | (simp; done) | (simp; omega) | omega)
  have f3_0 := fun (o : Nat) => hf (w1.heap.size) o (by first | (simp; done) | (simp; omega) | omega)
  have l3_0 : w1.heap.size < w3.heap.size := (by first | (simp; done) | (simp; omega) | omega)
  have c3_1 := fun (o : Nat) => hc (w2.heap.size) o (by first | (simp; done) | (simp; omega) | omega)
  have f3_1 := fun (o : Nat) => hf (w2.heap.size) o (by first | (simp; done) | (simp; omega) | omega)
  have l3_1 : w2.heap.size < w3.heap.size := (by first | (simp; done) | (simp; omega) | omega)
  clear hb hc hf
  go_wp2
  go_ret
  refine ⟨rfl, ?_⟩
  repeat (first | (with_reducible exact HB3) | (with_reducible exact Below.refl _ _) | (with_reducible refine Below.drew ?_) | (with_reducible refine Below.setCell ?_ (by first | (simp; done) | (simp; omega) | omega) _) | (with_reducible refine Below.alloc ?_ (by first | (simp; done) | (simp; omega) | omega) _))
set_option maxHeartbeats 4000000 in
theorem signs_7 (a b v1 v2 : Int) (z1 z2 s2 c1 c2 : Bool) (w : World) (H1 : Hid (aluR 0 a b false false false false = ⟨v1, z1, true, c1, false⟩)) (H2 : Hid (aluR 1 a b false false false false = ⟨v2, z2, s2, c2, false⟩)) (e1 : decide (wrap64 a < 0) = true) (e2 : decide (wrap64 b < 0) = true) (e3 : decide (wrap64 v1 < 0) = true) (e4 : decide (wrap64 v2 < 0) = false) (e5 : (v1 == 0) = z1) (e6 : (a == b) = z2) :
    Calls Try.prog 11 #[.int .u64 a, .int .u64 b] w fun e w' => e = .returned (.bool true) ∧ Below w.heap.size w w' := by
  have hu := Try.underlying44
  have HB0 : Below w.heap.size w w := Below.refl _ _
  go_enter Try.func11, Try.ntmps11
  go_wp2_with fail
  refine (Do_calls _ _ _ _ _ _ _ _).mono ?_
  rw [H1.out]
  rintro e w1 ⟨rfl, hb⟩
  have HB1 : Below w.heap.size w w1 := by
    refine Below.trans ?_ (hb.mono (by have := HB0.size; first | (simp; done) | (simp; omega) | omega))
    repeat (first | (with_reducible exact HB0) | (with_reducible exact Below.refl _ _) | (with_reducible refine Below.drew ?_) | (with_reducible refine Below.setCell ?_ (by first | (simp; done) | (simp; omega) | omega) _) | (with_reducible refine Below.alloc ?_ (by first | (simp; done) | (simp; omega) | omega) _))
  have hB1 := HB1.size
  have hs1 := hb.size
  try simp only [World.size_alloc, World.size_drew, World.size_setCell] at hs1
  obtain ⟨hc, hf⟩ := bcell hb
  clear hb hc hf
  go_wp2_with fail
  refine (Do_calls _ _ _ _ _ _ _ _).mono ?_
  rw [H2.out]
  rintro e w2 ⟨rfl, hb⟩
  have HB2 : Below w.heap.size w w2 := by
    refine Below.trans ?_ (hb.mono (by have := HB1.size; first | (simp; done) | (simp; omega) | omega))
    repeat (first | (with_reducible exact HB1) | (with_reducible exact Below.refl _ _) | (with_reducible refine Below.drew ?_) | (with_reducible refine Below.setCell ?_ (by first | (simp; done) | (simp; omega) | omega) _) | (with_reducible refine Below.alloc ?_ (by first | (simp; done) | (simp; omega) | omega) _))
  have hB2 := HB2.size
  have hs2 := hb.size
  try simp only [World.size_alloc, World.size_drew, World.size_setCell] at hs2
  obtain ⟨hc, hf⟩ := bcell hb
  have c2_0 := fun (o : Nat) => hc (w1.heap.size) o (by first | (simp; done) | (simp; omega) | omega)
  have f2_0 := fun (o : Nat) => hf (w1.heap.size) o (by first | (simp; done) | (simp; omega) | omega)
  have l2_0 : w1.heap.size < w2.heap.size := (by first | (simp; done) | (simp; omega) | omega)
  clear hb hc hf
  go_wp2_with fail
  refine (alu_awake _).mono ?_
  rintro e w3 ⟨rfl, hb⟩
  have HB3 : Below w.heap.size w w3 := by
    refine Below.trans ?_ (hb.mono (by have := HB2.size; first | (simp; done) | (simp; omega) | omega))
    repeat (first | (with_reducible exact HB2) | (with_reducible exact Below.refl _ _) | (with_reducible refine Below.drew ?_) | (with_reducible refine Below.setCell ?_ (by first | (simp; done) | (simp; omega) | omega) _) | (with_reducible refine Below.alloc ?_ (by first | (simp; done) | (simp; omega) | omega) _))
  have hB3 := HB3.size
  have hs3 := hb.size
  try simp only [World.size_alloc, World.size_drew, World.size_setCell] at hs3
  obtain ⟨hc, hf⟩ := bcell hb
  have c3_0 := fun (o : Nat) => hc (w1.heap.size) o (by first | (simp; done) | (simp; omega) | omega)
  have f3_0 := fun (o : Nat) => hf (w1.heap.size) o (by first | (simp; done) | (simp; omega) | omega)
  have l3_0 : w1.heap.size < w3.heap.size := (by first | (simp; done) | (simp; omega) | omega)
  have c3_1 := fun (o : Nat) => hc (w2.heap.size) o (by first | (simp; done) | (simp; omega) | omega)
  have f3_1 := fun (o : Nat) => hf (w2.heap.size) o (by first | (simp; done) | (simp; omega) | omega)
  have l3_1 : w2.heap.size < w3.heap.size := (by first | (simp; done) | (simp; omega) | omega)
  clear hb hc hf
  go_wp2
  go_ret
  refine ⟨rfl, ?_⟩
  repeat (first | (with_reducible exact HB3) | (with_reducible exact Below.refl _ _) | (with_reducible refine Below.drew ?_) | (with_reducible refine Below.setCell ?_ (by first | (simp; done) | (simp; omega) | omega) _) | (with_reducible refine Below.alloc ?_ (by first | (simp; done) | (simp; omega) | omega) _))
set_option maxHeartbeats 4000000 in
theorem signs_8 (a b v1 v2 : Int) (z1 z2 s2 c1 c2 : Bool) (w : World) (H1 : Hid (aluR 0 a b false false false false = ⟨v1, z1, false, c1, false⟩)) (H2 : Hid (aluR 1 a b false false false false = ⟨v2, z2, s2, c2, false⟩)) (e1 : decide (wrap64 a < 0) = false) (e2 : decide (wrap64 b < 0) = false) (e3 : decide (wrap64 v1 < 0) = false) (e4 : decide (wrap64 v2 < 0) = true) (e5 : (v1 == 0) = z1) (e6 : (a == b) = z2) :
    Calls Try.prog 11 #[.int .u64 a, .int .u64 b] w fun e w' => e = .returned (.bool true) ∧ Below w.heap.size w w' := by
  have hu := Try.underlying44
  have HB0 : Below w.heap.size w w := Below.refl _ _
  go_enter Try.func11, Try.ntmps11
  go_wp2_with fail
  refine (Do_calls _ _ _ _ _ _ _ _).mono ?_
  rw [H1.out]
  rintro e w1 ⟨rfl, hb⟩
  have HB1 : Below w.heap.size w w1 := by
    refine Below.trans ?_ (hb.mono (by have := HB0.size; first | (simp; done) | (simp; omega) | omega))
    repeat (first | (with_reducible exact HB0) | (with_reducible exact Below.refl _ _) | (with_reducible refine Below.drew ?_) | (with_reducible refine Below.setCell ?_ (by first | (simp; done) | (simp; omega) | omega) _) | (with_reducible refine Below.alloc ?_ (by first | (simp; done) | (simp; omega) | omega) _))
  have hB1 := HB1.size
  have hs1 := hb.size
  try simp only [World.size_alloc, World.size_drew, World.size_setCell] at hs1
  obtain ⟨hc, hf⟩ := bcell hb
  clear hb hc hf
  go_wp2_with fail
  refine (Do_calls _ _ _ _ _ _ _ _).mono ?_
  rw [H2.out]
  rintro e w2 ⟨rfl, hb⟩
  have HB2 : Below w.heap.size w w2 := by
    refine Below.trans ?_ (hb.mono (by have := HB1.size; first | (simp; done) | (simp; omega) | omega))
    repeat (first | (with_reducible exact HB1) | (with_reducible exact Below.refl _ _) | (with_reducible refine Below.drew ?_) | (with_reducible refine Below.setCell ?_ (by first | (simp; done) | (simp; omega) | omega) _) | (with_reducible refine Below.alloc ?_ (by first | (simp; done) | (simp; omega) | omega) _))
  have hB2 := HB2.size
  have hs2 := hb.size
  try simp only [World.size_alloc, World.size_drew, World.size_setCell] at hs2
  obtain ⟨hc, hf⟩ := bcell hb
  have c2_0 := fun (o : Nat) => hc (w1.heap.size) o (by first | (simp; done) | (simp; omega) | omega)
  have f2_0 := fun (o : Nat) => hf (w1.heap.size) o (by first | (simp; done) | (simp; omega) | omega)
  have l2_0 : w1.heap.size < w2.heap.size := (by first | (simp; done) | (simp; omega) | omega)
  clear hb hc hf
  go_wp2_with fail
  refine (alu_awake _).mono ?_
  rintro e w3 ⟨rfl, hb⟩
  have HB3 : Below w.heap.size w w3 := by
    refine Below.trans ?_ (hb.mono (by have := HB2.size; first | (simp; done) | (simp; omega) | omega))
    repeat (first | (with_reducible exact HB2) | (with_reducible exact Below.refl _ _) | (with_reducible refine Below.drew ?_) | (with_reducible refine Below.setCell ?_ (by first | (simp; done) | (simp; omega) | omega) _) | (with_reducible refine Below.alloc ?_ (by first | (simp; done) | (simp; omega) | omega) _))
  have hB3 := HB3.size
  have hs3 := hb.size
  try simp only [World.size_alloc, World.size_drew, World.size_setCell] at hs3
  obtain ⟨hc, hf⟩ := bcell hb
  have c3_0 := fun (o : Nat) => hc (w1.heap.size) o (by first | (simp; done) | (simp; omega) | omega)
  have f3_0 := fun (o : Nat) => hf (w1.heap.size) o (by first | (simp; done) | (simp; omega) | omega)
  have l3_0 : w1.heap.size < w3.heap.size := (by first | (simp; done) | (simp; omega) | omega)
  have c3_1 := fun (o : Nat) => hc (w2.heap.size) o (by first | (simp; done) | (simp; omega) | omega)
  have f3_1 := fun (o : Nat) => hf (w2.heap.size) o (by first | (simp; done) | (simp; omega) | omega)
  have l3_1 : w2.heap.size < w3.heap.size := (by first | (simp; done) | (simp; omega) | omega)
  clear hb hc hf
  go_wp2
  go_ret
  refine ⟨rfl, ?_⟩
  repeat (first | (with_reducible exact HB3) | (with_reducible exact Below.refl _ _) | (with_reducible refine Below.drew ?_) | (with_reducible refine Below.setCell ?_ (by first | (simp; done) | (simp; omega) | omega) _) | (with_reducible refine Below.alloc ?_ (by first | (simp; done) | (simp; omega) | omega) _))
set_option maxHeartbeats 4000000 in
theorem signs_9 (a b v1 v2 : Int) (z1 z2 s2 c1 c2 : Bool) (w : World) (H1 : Hid (aluR 0 a b false false false false = ⟨v1, z1, false, c1, false⟩)) (H2 : Hid (aluR 1 a b false false false false = ⟨v2, z2, s2, c2, false⟩)) (e1 : decide (wrap64 a < 0) = true) (e2 : decide (wrap64 b < 0) = false) (e3 : decide (wrap64 v1 < 0) = false) (e4 : decide (wrap64 v2 < 0) = true) (e5 : (v1 == 0) = z1) (e6 : (a == b) = z2) :
    Calls Try.prog 11 #[.int .u64 a, .int .u64 b] w fun e w' => e = .returned (.bool true) ∧ Below w.heap.size w w' := by
  have hu := Try.underlying44
  have HB0 : Below w.heap.size w w := Below.refl _ _
  go_enter Try.func11, Try.ntmps11
  go_wp2_with fail
  refine (Do_calls _ _ _ _ _ _ _ _).mono ?_
  rw [H1.out]
  rintro e w1 ⟨rfl, hb⟩
  have HB1 : Below w.heap.size w w1 := by
    refine Below.trans ?_ (hb.mono (by have := HB0.size; first | (simp; done) | (simp; omega) | omega))
    repeat (first | (with_reducible exact HB0) | (with_reducible exact Below.refl _ _) | (with_reducible refine Below.drew ?_) | (with_reducible refine Below.setCell ?_ (by first | (simp; done) | (simp; omega) | omega) _) | (with_reducible refine Below.alloc ?_ (by first | (simp; done) | (simp; omega) | omega) _))
  have hB1 := HB1.size
  have hs1 := hb.size
  try simp only [World.size_alloc, World.size_drew, World.size_setCell] at hs1
  obtain ⟨hc, hf⟩ := bcell hb
  clear hb hc hf
  go_wp2_with fail
  refine (Do_calls _ _ _ _ _ _ _ _).mono ?_
  rw [H2.out]
  rintro e w2 ⟨rfl, hb⟩
  have HB2 : Below w.heap.size w w2 := by
    refine Below.trans ?_ (hb.mono (by have := HB1.size; first | (simp; done) | (simp; omega) | omega))
    repeat (first | (with_reducible exact HB1) | (with_reducible exact Below.refl _ _) | (with_reducible refine Below.drew ?_) | (with_reducible refine Below.setCell ?_ (by first | (simp; done) | (simp; omega) | omega) _) | (with_reducible refine Below.alloc ?_ (by first | (simp; done) | (simp; omega) | omega) _))
  have hB2 := HB2.size
  have hs2 := hb.size
  try simp only [World.size_alloc, World.size_drew, World.size_setCell] at hs2
  obtain ⟨hc, hf⟩ := bcell hb
  have c2_0 := fun (o : Nat) => hc (w1.heap.size) o (by first | (simp; done) | (simp; omega) | omega)
  have f2_0 := fun (o : Nat) => hf (w1.heap.size) o (by first | (simp; done) | (simp; omega) | omega)
  have l2_0 : w1.heap.size < w2.heap.size := (by first | (simp; done) | (simp; omega) | omega)
  clear hb hc hf
  go_wp2_with fail
  refine (alu_awake _).mono ?_
  rintro e w3 ⟨rfl, hb⟩
  have HB3 : Below w.heap.size w w3 := by
    refine Below.trans ?_ (hb.mono (by have := HB2.size; first | (simp; done) | (simp; omega) | omega))
    repeat (first | (with_reducible exact HB2) | (with_reducible exact Below.refl _ _) | (with_reducible refine Below.drew ?_) | (with_reducible refine Below.setCell ?_ (by first | (simp; done) | (simp; omega) | omega) _) | (with_reducible refine Below.alloc ?_ (by first | (simp; done) | (simp; omega) | omega) _))
  have hB3 := HB3.size
  have hs3 := hb.size
  try simp only [World.size_alloc, World.size_drew, World.size_setCell] at hs3
  obtain ⟨hc, hf⟩ := bcell hb
  have c3_0 := fun (o : Nat) => hc (w1.heap.size) o (by first | (simp; done) | (simp; omega) | omega)
  have f3_0 := fun (o : Nat) => hf (w1.heap.size) o (by first | (simp; done) | (simp; omega) | omega)
  have l3_0 : w1.heap.size < w3.heap.size := (by first | (simp; done) | (simp; omega) | omega)
  have c3_1 := fun (o : Nat) => hc (w2.heap.size) o (by first | (simp; done) | (simp; omega) | omega)
  have f3_1 := fun (o : Nat) => hf (w2.heap.size) o (by first | (simp; done) | (simp; omega) | omega)
  have l3_1 : w2.heap.size < w3.heap.size := (by first | (simp; done) | (simp; omega) | omega)
  clear hb hc hf
  go_wp2
  go_ret
  refine ⟨rfl, ?_⟩
  repeat (first | (with_reducible exact HB3) | (with_reducible exact Below.refl _ _) | (with_reducible refine Below.drew ?_) | (with_reducible refine Below.setCell ?_ (by first | (simp; done) | (simp; omega) | omega) _) | (with_reducible refine Below.alloc ?_ (by first | (simp; done) | (simp; omega) | omega) _))
set_option maxHeartbeats 4000000 in
theorem signs_10 (a b v1 v2 : Int) (z1 z2 s2 c1 c2 : Bool) (w : World) (H1 : Hid (aluR 0 a b false false false false = ⟨v1, z1, false, c1, false⟩)) (H2 : Hid (aluR 1 a b false false false false = ⟨v2, z2, s2, c2, true⟩)) (e1 : decide (wrap64 a < 0) = false) (e2 : decide (wrap64 b < 0) = true) (e3 : decide (wrap64 v1 < 0) = false) (e4 : decide (wrap64 v2 < 0) = true) (e5 : (v1 == 0) = z1) (e6 : (a == b) = z2) :
    Calls Try.prog 11 #[.int .u64 a, .int .u64 b] w fun e w' => e = .returned (.bool true) ∧ Below w.heap.size w w' := by
  have hu := Try.underlying44
  have HB0 : Below w.heap.size w w := Below.refl _ _
  go_enter Try.func11, Try.ntmps11
  go_wp2_with fail
  refine (Do_calls _ _ _ _ _ _ _ _).mono ?_
  rw [H1.out]
  rintro e w1 ⟨rfl, hb⟩
  have HB1 : Below w.heap.size w w1 := by
    refine Below.trans ?_ (hb.mono (by have := HB0.size; first | (simp; done) | (simp; omega) | omega))
    repeat (first | (with_reducible exact HB0) | (with_reducible exact Below.refl _ _) | (with_reducible refine Below.drew ?_) | (with_reducible refine Below.setCell ?_ (by first | (simp; done) | (simp; omega) | omega) _) | (with_reducible refine Below.alloc ?_ (by first | (simp; done) | (simp; omega) | omega) _))
  have hB1 := HB1.size
  have hs1 := hb.size
  try simp only [World.size_alloc, World.size_drew, World.size_setCell] at hs1
  obtain ⟨hc, hf⟩ := bcell hb
  clear hb hc hf
  go_wp2_with fail
  refine (Do_calls _ _ _ _ _ _ _ _).mono ?_
  rw [H2.out]
  rintro e w2 ⟨rfl, hb⟩
  have HB2 : Below w.heap.size w w2 := by
    refine Below.trans ?_ (hb.mono (by have := HB1.size; first | (simp; done) | (simp; omega) | omega))
    repeat (first | (with_reducible exact HB1) | (with_reducible exact Below.refl _ _) | (with_reducible refine Below.drew ?_) | (with_reducible refine Below.setCell ?_ (by first | (simp; done) | (simp; omega) | omega) _) | (with_reducible refine Below.alloc ?_ (by first | (simp; done) | (simp; omega) | omega) _))
  have hB2 := HB2.size
  have hs2 := hb.size
  try simp only [World.size_alloc, World.size_drew, World.size_setCell] at hs2
  obtain ⟨hc, hf⟩ := bcell hb
  have c2_0 := fun (o : Nat) => hc (w1.heap.size) o (by first | (simp; done) | (simp; omega) | omega)
  have f2_0 := fun (o : Nat) => hf (w1.heap.size) o (by first | (simp; done) | (simp; omega) | omega)
  have l2_0 : w1.heap.size < w2.heap.size := (by first | (simp; done) | (simp; omega) | omega)
  clear hb hc hf
  go_wp2_with fail
  refine (alu_awake _).mono ?_
  rintro e w3 ⟨rfl, hb⟩
  have HB3 : Below w.heap.size w w3 := by
    refine Below.trans ?_ (hb.mono (by have := HB2.size; first | (simp; done) | (simp; omega) | omega))
    repeat (first | (with_reducible exact HB2) | (with_reducible exact Below.refl _ _) | (with_reducible refine Below.drew ?_) | (with_reducible refine Below.setCell ?_ (by first | (simp; done) | (simp; omega) | omega) _) | (with_reducible refine Below.alloc ?_ (by first | (simp; done) | (simp; omega) | omega) _))
  have hB3 := HB3.size
  have hs3 := hb.size
  try simp only [World.size_alloc, World.size_drew, World.size_setCell] at hs3
  obtain ⟨hc, hf⟩ := bcell hb
  have c3_0 := fun (o : Nat) => hc (w1.heap.size) o (by first | (simp; done) | (simp; omega) | omega)
  have f3_0 := fun (o : Nat) => hf (w1.heap.size) o (by first | (simp; done) | (simp; omega) | omega)
  have l3_0 : w1.heap.size < w3.heap.size := (by first | (simp; done) | (simp; omega) | omega)
  have c3_1 := fun (o : Nat) => hc (w2.heap.size) o (by first | (simp; done) | (simp; omega) | omega)
  have f3_1 := fun (o : Nat) => hf (w2.heap.size) o (by first | (simp; done) | (simp; omega) | omega)
  have l3_1 : w2.heap.size < w3.heap.size := (by first | (simp; done) | (simp; omega) | omega)
  clear hb hc hf
  go_wp2
  go_ret
  refine ⟨rfl, ?_⟩
  repeat (first | (with_reducible exact HB3) | (with_reducible exact Below.refl _ _) | (with_reducible refine Below.drew ?_) | (with_reducible refine Below.setCell ?_ (by first | (simp; done) | (simp; omega) | omega) _) | (with_reducible refine Below.alloc ?_ (by first | (simp; done) | (simp; omega) | omega) _))
set_option maxHeartbeats 4000000 in
theorem signs_11 (a b v1 v2 : Int) (z1 z2 s2 c1 c2 : Bool) (w : World) (H1 : Hid (aluR 0 a b false false false false = ⟨v1, z1, false, c1, true⟩)) (H2 : Hid (aluR 1 a b false false false false = ⟨v2, z2, s2, c2, false⟩)) (e1 : decide (wrap64 a < 0) = true) (e2 : decide (wrap64 b < 0) = true) (e3 : decide (wrap64 v1 < 0) = false) (e4 : decide (wrap64 v2 < 0) = true) (e5 : (v1 == 0) = z1) (e6 : (a == b) = z2) :
    Calls Try.prog 11 #[.int .u64 a, .int .u64 b] w fun e w' => e = .returned (.bool true) ∧ Below w.heap.size w w' := by
  have hu := Try.underlying44
  have HB0 : Below w.heap.size w w := Below.refl _ _
  go_enter Try.func11, Try.ntmps11
  go_wp2_with fail
  refine (Do_calls _ _ _ _ _ _ _ _).mono ?_
  rw [H1.out]
  rintro e w1 ⟨rfl, hb⟩
  have HB1 : Below w.heap.size w w1 := by
    refine Below.trans ?_ (hb.mono (by have := HB0.size; first | (simp; done) | (simp; omega) | omega))
    repeat (first | (with_reducible exact HB0) | (with_reducible exact Below.refl _ _) | (with_reducible refine Below.drew ?_) | (with_reducible refine Below.setCell ?_ (by first | (simp; done) | (simp; omega) | omega) _) | (with_reducible refine Below.alloc ?_ (by first | (simp; done) | (simp; omega) | omega) _))
  have hB1 := HB1.size
  have hs1 := hb.size
  try simp only [World.size_alloc, World.size_drew, World.size_setCell] at hs1
  obtain ⟨hc, hf⟩ := bcell hb
  clear hb hc hf
  go_wp2_with fail
  refine (Do_calls _ _ _ _ _ _ _ _).mono ?_
  rw [H2.out]
  rintro e w2 ⟨rfl, hb⟩
  have HB2 : Below w.heap.size w w2 := by
    refine Below.trans ?_ (hb.mono (by have := HB1.size; first | (simp; done) | (simp; omega) | omega))
    repeat (first | (with_reducible exact HB1) | (with_reducible exact Below.refl _ _) | (with_reducible refine Below.drew ?_) | (with_reducible refine Below.setCell ?_ (by first | (simp; done) | (simp; omega) | omega) _) | (with_reducible refine Below.alloc ?_ (by first | (simp; done) | (simp; omega) | omega) _))
  have hB2 := HB2.size
  have hs2 := hb.size
  try simp only [World.size_alloc, World.size_drew, World.size_setCell] at hs2
  obtain ⟨hc, hf⟩ := bcell hb
  have c2_0 := fun (o : Nat) => hc (w1.heap.size) o (by first | (simp; done) | (simp; omega) | omega)
  have f2_0 := fun (o : Nat) => hf (w1.heap.size) o (by first | (simp; done) | (simp; omega) | omega)
  have l2_0 : w1.heap.size < w2.heap.size := (by first | (simp; done) | (simp; omega) | omega)
  clear hb hc hf
  go_wp2_with fail
  refine (alu_awake _).mono ?_
  rintro e w3 ⟨rfl, hb⟩
  have HB3 : Below w.heap.size w w3 := by
    refine Below.trans ?_ (hb.mono (by have := HB2.size; first | (simp; done) | (simp; omega) | omega))
    repeat (first | (with_reducible exact HB2) | (with_reducible exact Below.refl _ _) | (with_reducible refine Below.drew ?_) | (with_reducible refine Below.setCell ?_ (by first | (simp; done) | (simp; omega) | omega) _) | (with_reducible refine Below.alloc ?_ (by first | (simp; done) | (simp; omega) | omega) _))
  have hB3 := HB3.size
  have hs3 := hb.size
  try simp only [World.size_alloc, World.size_drew, World.size_setCell] at hs3
  obtain ⟨hc, hf⟩ := bcell hb
  have c3_0 := fun (o : Nat) => hc (w1.heap.size) o (by first | (simp; done) | (simp; omega) | omega)
  have f3_0 := fun (o : Nat) => hf (w1.heap.size) o (by first | (simp; done) | (simp; omega) | omega)
  have l3_0 : w1.heap.size < w3.heap.size := (by first | (simp; done) | (simp; omega) | omega)
  have c3_1 := fun (o : Nat) => hc (w2.heap.size) o (by first | (simp; done) | (simp; omega) | omega)
  have f3_1 := fun (o : Nat) => hf (w2.heap.size) o (by first | (simp; done) | (simp; omega) | omega)
  have l3_1 : w2.heap.size < w3.heap.size := (by first | (simp; done) | (simp; omega) | omega)
  clear hb hc hf
  go_wp2
  go_ret
  refine ⟨rfl, ?_⟩
  repeat (first | (with_reducible exact HB3) | (with_reducible exact Below.refl _ _) | (with_reducible refine Below.drew ?_) | (with_reducible refine Below.setCell ?_ (by first | (simp; done) | (simp; omega) | omega) _) | (with_reducible refine Below.alloc ?_ (by first | (simp; done) | (simp; omega) | omega) _))
set_option maxHeartbeats 4000000 in
theorem signs_12 (a b v1 v2 : Int) (z1 z2 s2 c1 c2 : Bool) (w : World) (H1 : Hid (aluR 0 a b false false false false = ⟨v1, z1, true, c1, true⟩)) (H2 : Hid (aluR 1 a b false false false false = ⟨v2, z2, s2, c2, false⟩)) (e1 : decide (wrap64 a < 0) = false) (e2 : decide (wrap64 b < 0) = false) (e3 : decide (wrap64 v1 < 0) = true) (e4 : decide (wrap64 v2 < 0) = true) (e5 : (v1 == 0) = z1) (e6 : (a == b) = z2) :
    Calls Try.prog 11 #[.int .u64 a, .int .u64 b] w fun e w' => e = .returned (.bool true) ∧ Below w.heap.size w w' := by
  have hu := Try.underlying44
  have HB0 : Below w.heap.size w w := Below.refl _ _
  go_enter Try.func11, Try.ntmps11
  go_wp2_with fail
  refine (Do_calls _ _ _ _ _ _ _ _).mono ?_
  rw [H1.out]
  rintro e w1 ⟨rfl, hb⟩
  have HB1 : Below w.heap.size w w1 := by
    refine Below.trans ?_ (hb.mono (by have := HB0.size; first | (simp; done) | (simp; omega) | omega))
    repeat (first | (with_reducible exact HB0) | (with_reducible exact Below.refl _ _) | (with_reducible refine Below.drew ?_) | (with_reducible refine Below.setCell ?_ (by first | (simp; done) | (simp; omega) | omega) _) | (with_reducible refine Below.alloc ?_ (by first | (simp; done) | (simp; omega) | omega) _))
  have hB1 := HB1.size
  have hs1 := hb.size
  try simp only [World.size_alloc, World.size_drew, World.size_setCell] at hs1
  obtain ⟨hc, hf⟩ := bcell hb
  clear hb hc hf
  go_wp2_with fail
  refine (Do_calls _ _ _ _ _ _ _ _).mono ?_
  rw [H2.out]
  rintro e w2 ⟨rfl, hb⟩
  have HB2 : Below w.heap.size w w2 := by
    refine Below.trans ?_ (hb.mono (by have := HB1.size; first | (simp; done) | (simp; omega) | omega))
    repeat (first | (with_reducible exact HB1) | (with_reducible exact Below.refl _ _) | (with_reducible refine Below.drew ?_) | (with_reducible refine Below.setCell ?_ (by first | (simp; done) | (simp; omega) | omega) _) | (with_reducible refine Below.alloc ?_ (by first | (simp; done) | (simp; omega) | omega) _))
  have hB2 := HB2.size
  have hs2 := hb.size
  try simp only [World.size_alloc, World.size_drew, World.size_setCell] at hs2
  obtain ⟨hc, hf⟩ := bcell hb
  have c2_0 := fun (o : Nat) => hc (w1.heap.size) o (by first | (simp; done) | (simp; omega) | omega)
  have f2_0 := fun (o : Nat) => hf (w1.heap.size) o (by first | (simp; done) | (simp; omega) | omega)
  have l2_0 : w1.heap.size < w2.heap.size := (by first | (simp; done) | (simp; omega) | omega)
  clear hb hc hf
  go_wp2_with fail
  refine (alu_awake _).mono ?_
  rintro e w3 ⟨rfl, hb⟩
  have HB3 : Below w.heap.size w w3 := by
    refine Below.trans ?_ (hb.mono (by have := HB2.size; first | (simp; done) | (simp; omega) | omega))
    repeat (first | (with_reducible exact HB2) | (with_reducible exact Below.refl _ _) | (with_reducible refine Below.drew ?_) | (with_reducible refine Below.setCell ?_ (by first | (simp; done) | (simp; omega) | omega) _) | (with_reducible refine Below.alloc ?_ (by first | (simp; done) | (simp; omega) | omega) _))
  have hB3 := HB3.size
  have hs3 := hb.size
  try simp only [World.size_alloc, World.size_drew, World.size_setCell] at hs3
  obtain ⟨hc, hf⟩ := bcell hb
  have c3_0 := fun (o : Nat) => hc (w1.heap.size) o (by first | (simp; done) | (simp; omega) | omega)
  have f3_0 := fun (o : Nat) => hf (w1.heap.size) o (by first | (simp; done) | (simp; omega) | omega)
  have l3_0 : w1.heap.size < w3.heap.size := (by first | (simp; done) | (simp; omega) | omega)
  have c3_1 := fun (o : Nat) => hc (w2.heap.size) o (by first | (simp; done) | (simp; omega) | omega)
  have f3_1 := fun (o : Nat) => hf (w2.heap.size) o (by first | (simp; done) | (simp; omega) | omega)
  have l3_1 : w2.heap.size < w3.heap.size := (by first | (simp; done) | (simp; omega) | omega)
  clear hb hc hf
  go_wp2
  go_ret
  refine ⟨rfl, ?_⟩
  repeat (first | (with_reducible exact HB3) | (with_reducible exact Below.refl _ _) | (with_reducible refine Below.drew ?_) | (with_reducible refine Below.setCell ?_ (by first | (simp; done) | (simp; omega) | omega) _) | (with_reducible refine Below.alloc ?_ (by first | (simp; done) | (simp; omega) | omega) _))
set_option maxHeartbeats 4000000 in
theorem signs_13 (a b v1 v2 : Int) (z1 z2 s2 c1 c2 : Bool) (w : World) (H1 : Hid (aluR 0 a b false false false false = ⟨v1, z1, true, c1, false⟩)) (H2 : Hid (aluR 1 a b false false false false = ⟨v2, z2, s2, c2, false⟩)) (e1 : decide (wrap64 a < 0) = true) (e2 : decide (wrap64 b < 0) = false) (e3 : decide (wrap64 v1 < 0) = true) (e4 : decide (wrap64 v2 < 0) = true) (e5 : (v1 == 0) = z1) (e6 : (a == b) = z2) :
    Calls Try.prog 11 #[.int .u64 a, .int .u64 b] w fun e w' => e = .returned (.bool true) ∧ Below w.heap.size w w' := by
  have hu := Try.underlying44
  have HB0 : Below w.heap.size w w := Below.refl _ _
  go_enter Try.func11, Try.ntmps11
  go_wp2_with fail
  refine (Do_calls _ _ _ _ _ _ _ _).mono ?_
  rw [H1.out]
  rintro e w1 ⟨rfl, hb⟩
  have HB1 : Below w.heap.size w w1 := by
    refine Below.trans ?_ (hb.mono (by have := HB0.size; first | (simp; done) | (simp; omega) | omega))
    repeat (first | (with_reducible exact HB0) | (with_reducible exact Below.refl _ _) | (with_reducible refine Below.drew ?_) | (with_reducible refine Below.setCell ?_ (by first | (simp; done) | (simp; omega) | omega) _) | (with_reducible refine Below.alloc ?_ (by first | (simp; done) | (simp; omega) | omega) _))
  have hB1 := HB1.size
  have hs1 := hb.size
  try simp only [World.size_alloc, World.size_drew, World.size_setCell] at hs1
  obtain ⟨hc, hf⟩ := bcell hb
  clear hb hc hf
  go_wp2_with fail
  refine (Do_calls _ _ _ _ _ _ _ _).mono ?_
  rw [H2.out]
  rintro e w2 ⟨rfl, hb⟩
  have HB2 : Below w.heap.size w w2 := by
    refine Below.trans ?_ (hb.mono (by have := HB1.size; first | (simp; done) | (simp; omega) | omega))
    repeat (first | (with_reducible exact HB1) | (with_reducible exact Below.refl _ _) | (with_reducible refine Below.drew ?_) | (with_reducible refine Below.setCell ?_ (by first | (simp; done) | (simp; omega) | omega) _) | (with_reducible refine Below.alloc ?_ (by first | (simp; done) | (simp; omega) | omega) _))
  have hB2 := HB2.size
  have hs2 := hb.size
  try simp only [World.size_alloc, World.size_drew, World.size_setCell] at hs2
  obtain ⟨hc, hf⟩ := bcell hb
  have c2_0 := fun (o : Nat) => hc (w1.heap.size) o (by first | (simp; done) | (simp; omega) | omega)
  have f2_0 := fun (o : Nat) => hf (w1.heap.size) o (by first | (simp; done) | (simp; omega) | omega)
  have l2_0 : w1.heap.size < w2.heap.size := (by first | (simp; done) | (simp; omega) | omega)
  clear hb hc hf
  go_wp2_with fail
  refine (alu_awake _).mono ?_
  rintro e w3 ⟨rfl, hb⟩
  have HB3 : Below w.heap.size w w3 := by
    refine Below.trans ?_ (hb.mono (by have := HB2.size; first | (simp; done) | (simp; omega) | omega))
    repeat (first | (with_reducible exact HB2) | (with_reducible exact Below.refl _ _) | (with_reducible refine Below.drew ?_) | (with_reducible refine Below.setCell ?_ (by first | (simp; done) | (simp; omega) | omega) _) | (with_reducible refine Below.alloc ?_ (by first | (simp; done) | (simp; omega) | omega) _))
  have hB3 := HB3.size
  have hs3 := hb.size
  try simp only [World.size_alloc, World.size_drew, World.size_setCell] at hs3
  obtain ⟨hc, hf⟩ := bcell hb
  have c3_0 := fun (o : Nat) => hc (w1.heap.size) o (by first | (simp; done) | (simp; omega) | omega)
  have f3_0 := fun (o : Nat) => hf (w1.heap.size) o (by first | (simp; done) | (simp; omega) | omega)
  have l3_0 : w1.heap.size < w3.heap.size := (by first | (simp; done) | (simp; omega) | omega)
  have c3_1 := fun (o : Nat) => hc (w2.heap.size) o (by first | (simp; done) | (simp; omega) | omega)
  have f3_1 := fun (o : Nat) => hf (w2.heap.size) o (by first | (simp; done) | (simp; omega) | omega)
  have l3_1 : w2.heap.size < w3.heap.size := (by first | (simp; done) | (simp; omega) | omega)
  clear hb hc hf
  go_wp2
  go_ret
  refine ⟨rfl, ?_⟩
  repeat (first | (with_reducible exact HB3) | (with_reducible exact Below.refl _ _) | (with_reducible refine Below.drew ?_) | (with_reducible refine Below.setCell ?_ (by first | (simp; done) | (simp; omega) | omega) _) | (with_reducible refine Below.alloc ?_ (by first | (simp; done) | (simp; omega) | omega) _))
set_option maxHeartbeats 4000000 in
theorem signs_14 (a b v1 v2 : Int) (z1 z2 s2 c1 c2 : Bool) (w : World) (H1 : Hid (aluR 0 a b false false false false = ⟨v1, z1, true, c1, false⟩)) (H2 : Hid (aluR 1 a b false false false false = ⟨v2, z2, s2, c2, true⟩)) (e1 : decide (wrap64 a < 0) = false) (e2 : decide (wrap64 b < 0) = true) (e3 : decide (wrap64 v1 < 0) = true) (e4 : decide (wrap64 v2 < 0) = true) (e5 : (v1 == 0) = z1) (e6 : (a == b) = z2) :
    Calls Try.prog 11 #[.int .u64 a, .int .u64 b] w fun e w' => e = .returned (.bool true) ∧ Below w.heap.size w w' := by
  have hu := Try.underlying44
  have HB0 : Below w.heap.size w w := Below.refl _ _
  go_enter Try.func11, Try.ntmps11
  go_wp2_with fail
  refine (Do_calls _ _ _ _ _ _ _ _).mono ?_
  rw [H1.out]
  rintro e w1 ⟨rfl, hb⟩
  have HB1 : Below w.heap.size w w1 := by
    refine Below.trans ?_ (hb.mono (by have := HB0.size; first | (simp; done) | (simp; omega) | omega))
    repeat (first | (with_reducible exact HB0) | (with_reducible exact Below.refl _ _) | (with_reducible refine Below.drew ?_) | (with_reducible refine Below.setCell ?_ (by first | (simp; done) | (simp; omega) | omega) _) | (with_reducible refine Below.alloc ?_ (by first | (simp; done) | (simp; omega) | omega) _))
  have hB1 := HB1.size
  have hs1 := hb.size
  try simp only [World.size_alloc, World.size_drew, World.size_setCell] at hs1
  obtain ⟨hc, hf⟩ := bcell hb
  clear hb hc hf
  go_wp2_with fail
  refine (Do_calls _ _ _ _ _ _ _ _).mono ?_
  rw [H2.out]
  rintro e w2 ⟨rfl, hb⟩
  have HB2 : Below w.heap.size w w2 := by
    refine Below.trans ?_ (hb.mono (by have := HB1.size; first | (simp; done) | (simp; omega) | omega))
    repeat (first | (with_reducible exact HB1) | (with_reducible exact Below.refl _ _) | (with_reducible refine Below.drew ?_) | (with_reducible refine Below.setCell ?_ (by first | (simp; done) | (simp; omega) | omega) _) | (with_reducible refine Below.alloc ?_ (by first | (simp; done) | (simp; omega) | omega) _))
  have hB2 := HB2.size
  have hs2 := hb.size
  try simp only [World.size_alloc, World.size_drew, World.size_setCell] at hs2
  obtain ⟨hc, hf⟩ := bcell hb
  have c2_0 := fun (o : Nat) => hc (w1.heap.size) o (by first | (simp; done) | (simp; omega) | omega)
  have f2_0 := fun (o : Nat) => hf (w1.heap.size) o (by first | (simp; done) | (simp; omega) | omega)
  have l2_0 : w1.heap.size < w2.heap.size := (by first | (simp; done) | (simp; omega) | omega)
  clear hb hc hf
  go_wp2_with fail
  refine (alu_awake _).mono ?_
  rintro e w3 ⟨rfl, hb⟩
  have HB3 : Below w.heap.size w w3 := by
    refine Below.trans ?_ (hb.mono (by have := HB2.size; first | (simp; done) | (simp; omega) | omega))
    repeat (first | (with_reducible exact HB2) | (with_reducible exact Below.refl _ _) | (with_reducible refine Below.drew ?_) | (with_reducible refine Below.setCell ?_ (by first | (simp; done) | (simp; omega) | omega) _) | (with_reducible refine Below.alloc ?_ (by first | (simp; done) | (simp; omega) | omega) _))
  have hB3 := HB3.size
  have hs3 := hb.size
  try simp only [World.size_alloc, World.size_drew, World.size_setCell] at hs3
  obtain ⟨hc, hf⟩ := bcell hb
  have c3_0 := fun (o : Nat) => hc (w1.heap.size) o (by first | (simp; done) | (simp; omega) | omega)
  have f3_0 := fun (o : Nat) => hf (w1.heap.size) o (by first | (simp; done) | (simp; omega) | omega)
  have l3_0 : w1.heap.size < w3.heap.size := (by first | (simp; done) | (simp; omega) | omega)
  have c3_1 := fun (o : Nat) => hc (w2.heap.size) o (by first | (simp; done) | (simp; omega) | omega)
  have f3_1 := fun (o : Nat) => hf (w2.heap.size) o (by first | (simp; done) | (simp; omega) | omega)
  have l3_1 : w2.heap.size < w3.heap.size := (by first | (simp; done) | (simp; omega) | omega)
  clear hb hc hf
  go_wp2
  go_ret
  refine ⟨rfl, ?_⟩
  repeat (first | (with_reducible exact HB3) | (with_reducible exact Below.refl _ _) | (with_reducible refine Below.drew ?_) | (with_reducible refine Below.setCell ?_ (by first | (simp; done) | (simp; omega) | omega) _) | (with_reducible refine Below.alloc ?_ (by first | (simp; done) | (simp; omega) | omega) _))
set_option maxHeartbeats 4000000 in
theorem signs_15 (a b v1 v2 : Int) (z1 z2 s2 c1 c2 : Bool) (w : World) (H1 : Hid (aluR 0 a b false false false false = ⟨v1, z1, true, c1, false⟩)) (H2 : Hid (aluR 1 a b false false false false = ⟨v2, z2, s2, c2, false⟩)) (e1 : decide (wrap64 a < 0) = true) (e2 : decide (wrap64 b < 0) = true) (e3 : decide (wrap64 v1 < 0) = true) (e4 : decide (wrap64 v2 < 0) = true) (e5 : (v1 == 0) = z1) (e6 : (a == b) = z2) :
    Calls Try.prog 11 #[.int .u64 a, .int .u64 b] w fun e w' => e = .returned (.bool true) ∧ Below w.heap.size w w' := by
  have hu := Try.underlying44
  have HB0 : Below w.heap.size w w := Below.refl _ _
  go_enter Try.func11, Try.ntmps11
  go_wp2_with fail
  refine (Do_calls _ _ _ _ _ _ _ _).mono ?_
  rw [H1.out]
  rintro e w1 ⟨rfl, hb⟩
  have HB1 : Below w.heap.size w w1 := by
    refine Below.trans ?_ (hb.mono (by have := HB0.size; first | (simp; done) | (simp; omega) | omega))
    repeat (first | (with_reducible exact HB0) | (with_reducible exact Below.refl _ _) | (with_reducible refine Below.drew ?_) | (with_reducible refine Below.setCell ?_ (by first | (simp; done) | (simp; omega) | omega) _) | (with_reducible refine Below.alloc ?_ (by first | (simp; done) | (simp; omega) | omega) _))
  have hB1 := HB1.size
  have hs1 := hb.size
  try simp only [World.size_alloc, World.size_drew, World.size_setCell] at hs1
  obtain ⟨hc, hf⟩ := bcell hb
  clear hb hc hf
  go_wp2_with fail
  refine (Do_calls _ _ _ _ _ _ _ _).mono ?_
  rw [H2.out]
  rintro e w2 ⟨rfl, hb⟩
  have HB2 : Below w.heap.size w w2 := by
    refine Below.trans ?_ (hb.mono (by have := HB1.size; first | (simp; done) | (simp; omega) | omega))
    repeat (first | (with_reducible exact HB1) | (with_reducible exact Below.refl _ _) | (with_reducible refine Below.drew ?_) | (with_reducible refine Below.setCell ?_ (by first | (simp; done) | (simp; omega) | omega) _) | (with_reducible refine Below.alloc ?_ (by first | (simp; done) | (simp; omega) | omega) _))
  have hB2 := HB2.size
  have hs2 := hb.size
  try simp only [World.size_alloc, World.size_drew, World.size_setCell] at hs2
  obtain ⟨hc, hf⟩ := bcell hb
  have c2_0 := fun (o : Nat) => hc (w1.heap.size) o (by first | (simp; done) | (simp; omega) | omega)
  have f2_0 := fun (o : Nat) => hf (w1.heap.size) o (by first | (simp; done) | (simp; omega) | omega)
  have l2_0 : w1.heap.size < w2.heap.size := (by first | (simp; done) | (simp; omega) | omega)
  clear hb hc hf
  go_wp2_with fail
  refine (alu_awake _).mono ?_
  rintro e w3 ⟨rfl, hb⟩
  have HB3 : Below w.heap.size w w3 := by
    refine Below.trans ?_ (hb.mono (by have := HB2.size; first | (simp; done) | (simp; omega) | omega))
    repeat (first | (with_reducible exact HB2) | (with_reducible exact Below.refl _ _) | (with_reducible refine Below.drew ?_) | (with_reducible refine Below.setCell ?_ (by first | (simp; done) | (simp; omega) | omega) _) | (with_reducible refine Below.alloc ?_ (by first | (simp; done) | (simp; omega) | omega) _))
  have hB3 := HB3.size
  have hs3 := hb.size
  try simp only [World.size_alloc, World.size_drew, World.size_setCell] at hs3
  obtain ⟨hc, hf⟩ := bcell hb
  have c3_0 := fun (o : Nat) => hc (w1.heap.size) o (by first | (simp; done) | (simp; omega) | omega)
  have f3_0 := fun (o : Nat) => hf (w1.heap.size) o (by first | (simp; done) | (simp; omega) | omega)
  have l3_0 : w1.heap.size < w3.heap.size := (by first | (simp; done) | (simp; omega) | omega)
  have c3_1 := fun (o : Nat) => hc (w2.heap.size) o (by first | (simp; done) | (simp; omega) | omega)
  have f3_1 := fun (o : Nat) => hf (w2.heap.size) o (by first | (simp; done) | (simp; omega) | omega)
  have l3_1 : w2.heap.size < w3.heap.size := (by first | (simp; done) | (simp; omega) | omega)
  clear hb hc hf
  go_wp2
  go_ret
  refine ⟨rfl, ?_⟩
  repeat (first | (with_reducible exact HB3) | (with_reducible exact Below.refl _ _) | (with_reducible refine Below.drew ?_) | (with_reducible refine Below.setCell ?_ (by first | (simp; done) | (simp; omega) | omega) _) | (with_reducible refine Below.alloc ?_ (by first | (simp; done) | (simp; omega) | omega) _))

set_option maxHeartbeats 4000000 in
theorem orders_0 (a b v1 : Int) (z1 s1 c1 o1 : Bool) (w : World) (H0 : Hid (aluR 7 a b false false false false = ⟨v1, z1, s1, c1, o1⟩)) (H4 : Hid (condB 4 z1 s1 c1 o1 = false)) (H5 : Hid (condB 5 z1 s1 c1 o1 = true)) (H2 : Hid (condB 2 z1 s1 c1 o1 = false)) (H3 : Hid (condB 3 z1 s1 c1 o1 = true)) (H12 : Hid (condB 12 z1 s1 c1 o1 = false)) (H13 : Hid (condB 13 z1 s1 c1 o1 = true)) (H8 : Hid (condB 8 z1 s1 c1 o1 = false)) (H9 : Hid (condB 9 z1 s1 c1 o1 = true)) (H1 : Hid (condB 1 z1 s1 c1 o1 = false)) (e1 : (a == b) = false) (e2 : (a != b) = true) (e3 : decide (a < b) = false) (e4 : decide (b ≤ a) = true) (e5 : decide (wrap64 a < wrap64 b) = false) (e6 : decide (wrap64 b ≤ wrap64 a) = true) (e7 : decide (wrap64 (IntKind.u64.wrap (a - b)) < 0) = false) (e8 : decide (0 ≤ wrap64 (IntKind.u64.wrap (a - b))) = true) :
    Calls Try.prog 14 #[.int .u64 a, .int .u64 b] w fun e w' => e = .returned (.bool true) ∧ Below w.heap.size w w' := by
  have hu := Try.underlying44
  have HB0 : Below w.heap.size w w := Below.refl _ _
  go_enter Try.func14, Try.ntmps14
  go_wp2_with fail
  refine (Do_calls _ _ _ _ _ _ _ _).mono ?_
  rw [H0.out]
  rintro e w1 ⟨rfl, hb⟩
  have HB1 : Below w.heap.size w w1 := by
    refine Below.trans ?_ (hb.mono (by have := HB0.size; first | (simp; done) | (simp; omega) | omega))
    repeat (first | (with_reducible exact HB0) | (with_reducible exact Below.refl _ _) | (with_reducible refine Below.drew ?_) | (with_reducible refine Below.setCell ?_ (by first | (simp; done) | (simp; omega) | omega) _) | (with_reducible refine Below.alloc ?_ (by first | (simp; done) | (simp; omega) | omega) _))
  have hB1 := HB1.size
  have hs1 := hb.size
  try simp only [World.size_alloc, World.size_drew, World.size_setCell] at hs1
  obtain ⟨hc, hf⟩ := bcell hb
  clear hb hc hf
  go_wp2_with fail
  refine (Cond_calls _ _ _ _ _ _).mono ?_
  rw [H4.out]
  rintro e w2 ⟨rfl, hb⟩
  have HB2 : Below w.heap.size w w2 := by
    refine Below.trans ?_ (hb.mono (by have := HB1.size; first | (simp; done) | (simp; omega) | omega))
    repeat (first | (with_reducible exact HB1) | (with_reducible exact Below.refl _ _) | (with_reducible refine Below.drew ?_) | (with_reducible refine Below.setCell ?_ (by first | (simp; done) | (simp; omega) | omega) _) | (with_reducible refine Below.alloc ?_ (by first | (simp; done) | (simp; omega) | omega) _))
  have hB2 := HB2.size
  have hs2 := hb.size
  try simp only [World.size_alloc, World.size_drew, World.size_setCell] at hs2
  obtain ⟨hc, hf⟩ := bcell hb
  have c2_0 := fun (o : Nat) => hc (w1.heap.size) o (by first | (simp; done) | (simp; omega) | omega)
  have f2_0 := fun (o : Nat) => hf (w1.heap.size) o (by first | (simp; done) | (simp; omega) | omega)
  have l2_0 : w1.heap.size < w2.heap.size := (by first | (simp; done) | (simp; omega) | omega)
  clear hb hc hf
  go_wp2_with fail
  refine (Cond_calls _ _ _ _ _ _).mono ?_
  rw [H5.out]
  rintro e w3 ⟨rfl, hb⟩
  have HB3 : Below w.heap.size w w3 := by
    refine Below.trans ?_ (hb.mono (by have := HB2.size; first | (simp; done) | (simp; omega) | omega))
    repeat (first | (with_reducible exact HB2) | (with_reducible exact Below.refl _ _) | (with_reducible refine Below.drew ?_) | (with_reducible refine Below.setCell ?_ (by first | (simp; done) | (simp; omega) | omega) _) | (with_reducible refine Below.alloc ?_ (by first | (simp; done) | (simp; omega) | omega) _))
  have hB3 := HB3.size
  have hs3 := hb.size
  try simp only [World.size_alloc, World.size_drew, World.size_setCell] at hs3
  obtain ⟨hc, hf⟩ := bcell hb
  have c3_0 := fun (o : Nat) => hc (w1.heap.size) o (by first | (simp; done) | (simp; omega) | omega)
  have f3_0 := fun (o : Nat) => hf (w1.heap.size) o (by first | (simp; done) | (simp; omega) | omega)
  have l3_0 : w1.heap.size < w3.heap.size := (by first | (simp; done) | (simp; omega) | omega)
  clear hb hc hf
  go_wp2_with fail
  refine (Cond_calls _ _ _ _ _ _).mono ?_
  rw [H2.out]
  rintro e w4 ⟨rfl, hb⟩
  have HB4 : Below w.heap.size w w4 := by
    refine Below.trans ?_ (hb.mono (by have := HB3.size; first | (simp; done) | (simp; omega) | omega))
    repeat (first | (with_reducible exact HB3) | (with_reducible exact Below.refl _ _) | (with_reducible refine Below.drew ?_) | (with_reducible refine Below.setCell ?_ (by first | (simp; done) | (simp; omega) | omega) _) | (with_reducible refine Below.alloc ?_ (by first | (simp; done) | (simp; omega) | omega) _))
  have hB4 := HB4.size
  have hs4 := hb.size
  try simp only [World.size_alloc, World.size_drew, World.size_setCell] at hs4
  obtain ⟨hc, hf⟩ := bcell hb
  have c4_0 := fun (o : Nat) => hc (w1.heap.size) o (by first | (simp; done) | (simp; omega) | omega)
  have f4_0 := fun (o : Nat) => hf (w1.heap.size) o (by first | (simp; done) | (simp; omega) | omega)
  have l4_0 : w1.heap.size < w4.heap.size := (by first | (simp; done) | (simp; omega) | omega)
  clear hb hc hf
  go_wp2_with fail
  refine (Cond_calls _ _ _ _ _ _).mono ?_
  rw [H3.out]
  rintro e w5 ⟨rfl, hb⟩
  have HB5 : Below w.heap.size w w5 := by
    refine Below.trans ?_ (hb.mono (by have := HB4.size; first | (simp; done) | (simp; omega) | omega))
    repeat (first | (with_reducible exact HB4) | (with_reducible exact Below.refl _ _) | (with_reducible refine Below.drew ?_) | (with_reducible refine Below.setCell ?_ (by first | (simp; done) | (simp; omega) | omega) _) | (with_reducible refine Below.alloc ?_ (by first | (simp; done) | (simp; omega) | omega) _))
  have hB5 := HB5.size
  have hs5 := hb.size
  try simp only [World.size_alloc, World.size_drew, World.size_setCell] at hs5
  obtain ⟨hc, hf⟩ := bcell hb
  have c5_0 := fun (o : Nat) => hc (w1.heap.size) o (by first | (simp; done) | (simp; omega) | omega)
  have f5_0 := fun (o : Nat) => hf (w1.heap.size) o (by first | (simp; done) | (simp; omega) | omega)
  have l5_0 : w1.heap.size < w5.heap.size := (by first | (simp; done) | (simp; omega) | omega)
  clear hb hc hf
  go_wp2_with fail
  refine (Cond_calls _ _ _ _ _ _).mono ?_
  rw [H12.out]
  rintro e w6 ⟨rfl, hb⟩
  have HB6 : Below w.heap.size w w6 := by
    refine Below.trans ?_ (hb.mono (by have := HB5.size; first | (simp; done) | (simp; omega) | omega))
    repeat (first | (with_reducible exact HB5) | (with_reducible exact Below.refl _ _) | (with_reducible refine Below.drew ?_) | (with_reducible refine Below.setCell ?_ (by first | (simp; done) | (simp; omega) | omega) _) | (with_reducible refine Below.alloc ?_ (by first | (simp; done) | (simp; omega) | omega) _))
  have hB6 := HB6.size
  have hs6 := hb.size
  try simp only [World.size_alloc, World.size_drew, World.size_setCell] at hs6
  obtain ⟨hc, hf⟩ := bcell hb
  have c6_0 := fun (o : Nat) => hc (w1.heap.size) o (by first | (simp; done) | (simp; omega) | omega)
  have f6_0 := fun (o : Nat) => hf (w1.heap.size) o (by first | (simp; done) | (simp; omega) | omega)
  have l6_0 : w1.heap.size < w6.heap.size := (by first | (simp; done) | (simp; omega) | omega)
  clear hb hc hf
  go_wp2_with fail
  refine (Cond_calls _ _ _ _ _ _).mono ?_
  rw [H13.out]
  rintro e w7 ⟨rfl, hb⟩
  have HB7 : Below w.heap.size w w7 := by
    refine Below.trans ?_ (hb.mono (by have := HB6.size; first | (simp; done) | (simp; omega) | omega))
    repeat (first | (with_reducible exact HB6) | (with_reducible exact Below.refl _ _) | (with_reducible refine Below.drew ?_) | (with_reducible refine Below.setCell ?_ (by first | (simp; done) | (simp; omega) | omega) _) | (with_reducible refine Below.alloc ?_ (by first | (simp; done) | (simp; omega) | omega) _))
  have hB7 := HB7.size
  have hs7 := hb.size
  try simp only [World.size_alloc, World.size_drew, World.size_setCell] at hs7
  obtain ⟨hc, hf⟩ := bcell hb
  have c7_0 := fun (o : Nat) => hc (w1.heap.size) o (by first | (simp; done) | (simp; omega) | omega)
  have f7_0 := fun (o : Nat) => hf (w1.heap.size) o (by first | (simp; done) | (simp; omega) | omega)
  have l7_0 : w1.heap.size < w7.heap.size := (by first | (simp; done) | (simp; omega) | omega)
  clear hb hc hf
  go_wp2_with fail
  refine (Cond_calls _ _ _ _ _ _).mono ?_
  rw [H8.out]
  rintro e w8 ⟨rfl, hb⟩
  have HB8 : Below w.heap.size w w8 := by
    refine Below.trans ?_ (hb.mono (by have := HB7.size; first | (simp; done) | (simp; omega) | omega))
    repeat (first | (with_reducible exact HB7) | (with_reducible exact Below.refl _ _) | (with_reducible refine Below.drew ?_) | (with_reducible refine Below.setCell ?_ (by first | (simp; done) | (simp; omega) | omega) _) | (with_reducible refine Below.alloc ?_ (by first | (simp; done) | (simp; omega) | omega) _))
  have hB8 := HB8.size
  have hs8 := hb.size
  try simp only [World.size_alloc, World.size_drew, World.size_setCell] at hs8
  obtain ⟨hc, hf⟩ := bcell hb
  have c8_0 := fun (o : Nat) => hc (w1.heap.size) o (by first | (simp; done) | (simp; omega) | omega)
  have f8_0 := fun (o : Nat) => hf (w1.heap.size) o (by first | (simp; done) | (simp; omega) | omega)
  have l8_0 : w1.heap.size < w8.heap.size := (by first | (simp; done) | (simp; omega) | omega)
  clear hb hc hf
  go_wp2_with fail
  refine (Cond_calls _ _ _ _ _ _).mono ?_
  rw [H9.out]
  rintro e w9 ⟨rfl, hb⟩
  have HB9 : Below w.heap.size w w9 := by
    refine Below.trans ?_ (hb.mono (by have := HB8.size; first | (simp; done) | (simp; omega) | omega))
    repeat (first | (with_reducible exact HB8) | (with_reducible exact Below.refl _ _) | (with_reducible refine Below.drew ?_) | (with_reducible refine Below.setCell ?_ (by first | (simp; done) | (simp; omega) | omega) _) | (with_reducible refine Below.alloc ?_ (by first | (simp; done) | (simp; omega) | omega) _))
  have hB9 := HB9.size
  have hs9 := hb.size
  try simp only [World.size_alloc, World.size_drew, World.size_setCell] at hs9
  obtain ⟨hc, hf⟩ := bcell hb
  have c9_0 := fun (o : Nat) => hc (w1.heap.size) o (by first | (simp; done) | (simp; omega) | omega)
  have f9_0 := fun (o : Nat) => hf (w1.heap.size) o (by first | (simp; done) | (simp; omega) | omega)
  have l9_0 : w1.heap.size < w9.heap.size := (by first | (simp; done) | (simp; omega) | omega)
  clear hb hc hf
  go_wp2_with fail
  refine (Cond_calls _ _ _ _ _ _).mono ?_
  rw [H1.out]
  rintro e w10 ⟨rfl, hb⟩
  have HB10 : Below w.heap.size w w10 := by
    refine Below.trans ?_ (hb.mono (by have := HB9.size; first | (simp; done) | (simp; omega) | omega))
    repeat (first | (with_reducible exact HB9) | (with_reducible exact Below.refl _ _) | (with_reducible refine Below.drew ?_) | (with_reducible refine Below.setCell ?_ (by first | (simp; done) | (simp; omega) | omega) _) | (with_reducible refine Below.alloc ?_ (by first | (simp; done) | (simp; omega) | omega) _))
  have hB10 := HB10.size
  have hs10 := hb.size
  try simp only [World.size_alloc, World.size_drew, World.size_setCell] at hs10
  obtain ⟨hc, hf⟩ := bcell hb
  have c10_0 := fun (o : Nat) => hc (w1.heap.size) o (by first | (simp; done) | (simp; omega) | omega)
  have f10_0 := fun (o : Nat) => hf (w1.heap.size) o (by first | (simp; done) | (simp; omega) | omega)
  have l10_0 : w1.heap.size < w10.heap.size := (by first | (simp; done) | (simp; omega) | omega)
  clear hb hc hf
  go_wp2_with fail
  refine (alu_awake _).mono ?_
  rintro e w11 ⟨rfl, hb⟩
  have HB11 : Below w.heap.size w w11 := by
    refine Below.trans ?_ (hb.mono (by have := HB10.size; first | (simp; done) | (simp; omega) | omega))
    repeat (first | (with_reducible exact HB10) | (with_reducible exact Below.refl _ _) | (with_reducible refine Below.drew ?_) | (with_reducible refine Below.setCell ?_ (by first | (simp; done) | (simp; omega) | omega) _) | (with_reducible refine Below.alloc ?_ (by first | (simp; done) | (simp; omega) | omega) _))
  have hB11 := HB11.size
  have hs11 := hb.size
  try simp only [World.size_alloc, World.size_drew, World.size_setCell] at hs11
  obtain ⟨hc, hf⟩ := bcell hb
  have c11_0 := fun (o : Nat) => hc (w1.heap.size) o (by first | (simp; done) | (simp; omega) | omega)
  have f11_0 := fun (o : Nat) => hf (w1.heap.size) o (by first | (simp; done) | (simp; omega) | omega)
  have l11_0 : w1.heap.size < w11.heap.size := (by first | (simp; done) | (simp; omega) | omega)
  clear hb hc hf
  go_wp2
  go_ret
  refine ⟨rfl, ?_⟩
  repeat (first | (with_reducible exact HB11) | (with_reducible exact Below.refl _ _) | (with_reducible refine Below.drew ?_) | (with_reducible refine Below.setCell ?_ (by first | (simp; done) | (simp; omega) | omega) _) | (with_reducible refine Below.alloc ?_ (by first | (simp; done) | (simp; omega) | omega) _))
set_option maxHeartbeats 4000000 in
theorem orders_1 (a b v1 : Int) (z1 s1 c1 o1 : Bool) (w : World) (H0 : Hid (aluR 7 a b false false false false = ⟨v1, z1, s1, c1, o1⟩)) (H4 : Hid (condB 4 z1 s1 c1 o1 = false)) (H5 : Hid (condB 5 z1 s1 c1 o1 = true)) (H2 : Hid (condB 2 z1 s1 c1 o1 = true)) (H3 : Hid (condB 3 z1 s1 c1 o1 = false)) (H12 : Hid (condB 12 z1 s1 c1 o1 = false)) (H13 : Hid (condB 13 z1 s1 c1 o1 = true)) (H8 : Hid (condB 8 z1 s1 c1 o1 = false)) (H9 : Hid (condB 9 z1 s1 c1 o1 = true)) (H1 : Hid (condB 1 z1 s1 c1 o1 = false)) (e1 : (a == b) = false) (e2 : (a != b) = true) (e3 : decide (a < b) = true) (e4 : decide (b ≤ a) = false) (e5 : decide (wrap64 a < wrap64 b) = false) (e6 : decide (wrap64 b ≤ wrap64 a) = true) (e7 : decide (wrap64 (IntKind.u64.wrap (a - b)) < 0) = false) (e8 : decide (0 ≤ wrap64 (IntKind.u64.wrap (a - b))) = true) :
    Calls Try.prog 14 #[.int .u64 a, .int .u64 b] w fun e w' => e = .returned (.bool true) ∧ Below w.heap.size w w' := by
  have hu := Try.underlying44
  have HB0 : Below w.heap.size w w := Below.refl _ _
  go_enter Try.func14, Try.ntmps14
  go_wp2_with fail
  refine (Do_calls _ _ _ _ _ _ _ _).mono ?_
  rw [H0.out]
  rintro e w1 ⟨rfl, hb⟩
  have HB1 : Below w.heap.size w w1 := by
    refine Below.trans ?_ (hb.mono (by have := HB0.size; first | (simp; done) | (simp; omega) | omega))
    repeat (first | (with_reducible exact HB0) | (with_reducible exact Below.refl _ _) | (with_reducible refine Below.drew ?_) | (with_reducible refine Below.setCell ?_ (by first | (simp; done) | (simp; omega) | omega) _) | (with_reducible refine Below.alloc ?_ (by first | (simp; done) | (simp; omega) | omega) _))
  have hB1 := HB1.size
  have hs1 := hb.size
  try simp only [World.size_alloc, World.size_drew, World.size_setCell] at hs1
  obtain ⟨hc, hf⟩ := bcell hb
  clear hb hc hf
  go_wp2_with fail
  refine (Cond_calls _ _ _ _ _ _).mono ?_
  rw [H4.out]
  rintro e w2 ⟨rfl, hb⟩
  have HB2 : Below w.heap.size w w2 := by
    refine Below.trans ?_ (hb.mono (by have := HB1.size; first | (simp; done) | (simp; omega) | omega))
    repeat (first | (with_reducible exact HB1) | (with_reducible exact Below.refl _ _) | (with_reducible refine Below.drew ?_) | (with_reducible refine Below.setCell ?_ (by first | (simp; done) | (simp; omega) | omega) _) | (with_reducible refine Below.alloc ?_ (by first | (simp; done) | (simp; omega) | omega) _))
  have hB2 := HB2.size
  have hs2 := hb.size
  try simp only [World.size_alloc, World.size_drew, World.size_setCell] at hs2
  obtain ⟨hc, hf⟩ := bcell hb
  have c2_0 := fun (o : Nat) => hc (w1.heap.size) o (by first | (simp; done) | (simp; omega) | omega)
  have f2_0 := fun (o : Nat) => hf (w1.heap.size) o (by first | (simp; done) | (simp; omega) | omega)
  have l2_0 : w1.heap.size < w2.heap.size := (by first | (simp; done) | (simp; omega) | omega)
  clear hb hc hf
  go_wp2_with fail
  refine (Cond_calls _ _ _ _ _ _).mono ?_
  rw [H5.out]
  rintro e w3 ⟨rfl, hb⟩
  have HB3 : Below w.heap.size w w3 := by
    refine Below.trans ?_ (hb.mono (by have := HB2.size; first | (simp; done) | (simp; omega) | omega))
    repeat (first | (with_reducible exact HB2) | (with_reducible exact Below.refl _ _) | (with_reducible refine Below.drew ?_) | (with_reducible refine Below.setCell ?_ (by first | (simp; done) | (simp; omega) | omega) _) | (with_reducible refine Below.alloc ?_ (by first | (simp; done) | (simp; omega) | omega) _))
  have hB3 := HB3.size
  have hs3 := hb.size
  try simp only [World.size_alloc, World.size_drew, World.size_setCell] at hs3
  obtain ⟨hc, hf⟩ := bcell hb
  have c3_0 := fun (o : Nat) => hc (w1.heap.size) o (by first | (simp; done) | (simp; omega) | omega)
  have f3_0 := fun (o : Nat) => hf (w1.heap.size) o (by first | (simp; done) | (simp; omega) | omega)
  have l3_0 : w1.heap.size < w3.heap.size := (by first | (simp; done) | (simp; omega) | omega)
  clear hb hc hf
  go_wp2_with fail
  refine (Cond_calls _ _ _ _ _ _).mono ?_
  rw [H2.out]
  rintro e w4 ⟨rfl, hb⟩
  have HB4 : Below w.heap.size w w4 := by
    refine Below.trans ?_ (hb.mono (by have := HB3.size; first | (simp; done) | (simp; omega) | omega))
    repeat (first | (with_reducible exact HB3) | (with_reducible exact Below.refl _ _) | (with_reducible refine Below.drew ?_) | (with_reducible refine Below.setCell ?_ (by first | (simp; done) | (simp; omega) | omega) _) | (with_reducible refine Below.alloc ?_ (by first | (simp; done) | (simp; omega) | omega) _))
  have hB4 := HB4.size
  have hs4 := hb.size
  try simp only [World.size_alloc, World.size_drew, World.size_setCell] at hs4
  obtain ⟨hc, hf⟩ := bcell hb
  have c4_0 := fun (o : Nat) => hc (w1.heap.size) o (by first | (simp; done) | (simp; omega) | omega)
  have f4_0 := fun (o : Nat) => hf (w1.heap.size) o (by first | (simp; done) | (simp; omega) | omega)
  have l4_0 : w1.heap.size < w4.heap.size := (by first | (simp; done) | (simp; omega) | omega)
  clear hb hc hf
  go_wp2_with fail
  refine (Cond_calls _ _ _ _ _ _).mono ?_
  rw [H3.out]
  rintro e w5 ⟨rfl, hb⟩
  have HB5 : Below w.heap.size w w5 := by
    refine Below.trans ?_ (hb.mono (by have := HB4.size; first | (simp; done) | (simp; omega) | omega))
    repeat (first | (with_reducible exact HB4) | (with_reducible exact Below.refl _ _) | (with_reducible refine Below.drew ?_) | (with_reducible refine Below.setCell ?_ (by first | (simp; done) | (simp; omega) | omega) _) | (with_reducible refine Below.alloc ?_ (by first | (simp; done) | (simp; omega) | omega) _))
  have hB5 := HB5.size
  have hs5 := hb.size
  try simp only [World.size_alloc, World.size_drew, World.size_setCell] at hs5
  obtain ⟨hc, hf⟩ := bcell hb
  have c5_0 := fun (o : Nat) => hc (w1.heap.size) o (by first | (simp; done) | (simp; omega) | omega)
  have f5_0 := fun (o : Nat) => hf (w1.heap.size) o (by first | (simp; done) | (simp; omega) | omega)
  have l5_0 : w1.heap.size < w5.heap.size := (by first | (simp; done) | (simp; omega) | omega)
  clear hb hc hf
  go_wp2_with fail
  refine (Cond_calls _ _ _ _ _ _).mono ?_
  rw [H12.out]
  rintro e w6 ⟨rfl, hb⟩
  have HB6 : Below w.heap.size w w6 := by
    refine Below.trans ?_ (hb.mono (by have := HB5.size; first | (simp; done) | (simp; omega) | omega))
    repeat (first | (with_reducible exact HB5) | (with_reducible exact Below.refl _ _) | (with_reducible refine Below.drew ?_) | (with_reducible refine Below.setCell ?_ (by first | (simp; done) | (simp; omega) | omega) _) | (with_reducible refine Below.alloc ?_ (by first | (simp; done) | (simp; omega) | omega) _))
  have hB6 := HB6.size
  have hs6 := hb.size
  try simp only [World.size_alloc, World.size_drew, World.size_setCell] at hs6
  obtain ⟨hc, hf⟩ := bcell hb
  have c6_0 := fun (o : Nat) => hc (w1.heap.size) o (by first | (simp; done) | (simp; omega) | omega)
  have f6_0 := fun (o : Nat) => hf (w1.heap.size) o (by first | (simp; done) | (simp; omega) | omega)
  have l6_0 : w1.heap.size < w6.heap.size := (by first | (simp; done) | (simp; omega) | omega)
  clear hb hc hf
  go_wp2_with fail
  refine (Cond_calls _ _ _ _ _ _).mono ?_
  rw [H13.out]
  rintro e w7 ⟨rfl, hb⟩
  have HB7 : Below w.heap.size w w7 := by
    refine Below.trans ?_ (hb.mono (by have := HB6.size; first | (simp; done) | (simp; omega) | omega))
    repeat (first | (with_reducible exact HB6) | (with_reducible exact Below.refl _ _) | (with_reducible refine Below.drew ?_) | (with_reducible refine Below.setCell ?_ (by first | (simp; done) | (simp; omega) | omega) _) | (with_reducible refine Below.alloc ?_ (by first | (simp; done) | (simp; omega) | omega) _))
  have hB7 := HB7.size
  have hs7 := hb.size
  try simp only [World.size_alloc, World.size_drew, World.size_setCell] at hs7
  obtain ⟨hc, hf⟩ := bcell hb
  have c7_0 := fun (o : Nat) => hc (w1.heap.size) o (by first | (simp; done) | (simp; omega) | omega)
  have f7_0 := fun (o : Nat) => hf (w1.heap.size) o (by first | (simp; done) | (simp; omega) | omega)
  have l7_0 : w1.heap.size < w7.heap.size := (by first | (simp; done) | (simp; omega) | omega)
  clear hb hc hf
  go_wp2_with fail
  refine (Cond_calls _ _ _ _ _ _).mono ?_
  rw [H8.out]
  rintro e w8 ⟨rfl, hb⟩
  have HB8 : Below w.heap.size w w8 := by
    refine Below.trans ?_ (hb.mono (by have := HB7.size; first | (simp; done) | (simp; omega) | omega))
    repeat (first | (with_reducible exact HB7) | (with_reducible exact Below.refl _ _) | (with_reducible refine Below.drew ?_) | (with_reducible refine Below.setCell ?_ (by first | (simp; done) | (simp; omega) | omega) _) | (with_reducible refine Below.alloc ?_ (by first | (simp; done) | (simp; omega) | omega) _))
  have hB8 := HB8.size
  have hs8 := hb.size
  try simp only [World.size_alloc, World.size_drew, World.size_setCell] at hs8
  obtain ⟨hc, hf⟩ := bcell hb
  have c8_0 := fun (o : Nat) => hc (w1.heap.size) o (by first | (simp; done) | (simp; omega) | omega)
  have f8_0 := fun (o : Nat) => hf (w1.heap.size) o (by first | (simp; done) | (simp; omega) | omega)
  have l8_0 : w1.heap.size < w8.heap.size := (by first | (simp; done) | (simp; omega) | omega)
  clear hb hc hf
  go_wp2_with fail
  refine (Cond_calls _ _ _ _ _ _).mono ?_
  rw [H9.out]
  rintro e w9 ⟨rfl, hb⟩
  have HB9 : Below w.heap.size w w9 := by
    refine Below.trans ?_ (hb.mono (by have := HB8.size; first | (simp; done) | (simp; omega) | omega))
    repeat (first | (with_reducible exact HB8) | (with_reducible exact Below.refl _ _) | (with_reducible refine Below.drew ?_) | (with_reducible refine Below.setCell ?_ (by first | (simp; done) | (simp; omega) | omega) _) | (with_reducible refine Below.alloc ?_ (by first | (simp; done) | (simp; omega) | omega) _))
  have hB9 := HB9.size
  have hs9 := hb.size
  try simp only [World.size_alloc, World.size_drew, World.size_setCell] at hs9
  obtain ⟨hc, hf⟩ := bcell hb
  have c9_0 := fun (o : Nat) => hc (w1.heap.size) o (by first | (simp; done) | (simp; omega) | omega)
  have f9_0 := fun (o : Nat) => hf (w1.heap.size) o (by first | (simp; done) | (simp; omega) | omega)
  have l9_0 : w1.heap.size < w9.heap.size := (by first | (simp; done) | (simp; omega) | omega)
  clear hb hc hf
  go_wp2_with fail
  refine (Cond_calls _ _ _ _ _ _).mono ?_
  rw [H1.out]
  rintro e w10 ⟨rfl, hb⟩
  have HB10 : Below w.heap.size w w10 := by
    refine Below.trans ?_ (hb.mono (by have := HB9.size; first | (simp; done) | (simp; omega) | omega))
    repeat (first | (with_reducible exact HB9) | (with_reducible exact Below.refl _ _) | (with_reducible refine Below.drew ?_) | (with_reducible refine Below.setCell ?_ (by first | (simp; done) | (simp; omega) | omega) _) | (with_reducible refine Below.alloc ?_ (by first | (simp; done) | (simp; omega) | omega) _))
  have hB10 := HB10.size
  have hs10 := hb.size
  try simp only [World.size_alloc, World.size_drew, World.size_setCell] at hs10
  obtain ⟨hc, hf⟩ := bcell hb
  have c10_0 := fun (o : Nat) => hc (w1.heap.size) o (by first | (simp; done) | (simp; omega) | omega)
  have f10_0 := fun (o : Nat) => hf (w1.heap.size) o (by first | (simp; done) | (simp; omega) | omega)
  have l10_0 : w1.heap.size < w10.heap.size := (by first | (simp; done) | (simp; omega) | omega)
  clear hb hc hf
  go_wp2_with fail
  refine (alu_awake _).mono ?_
  rintro e w11 ⟨rfl, hb⟩
  have HB11 : Below w.heap.size w w11 := by
    refine Below.trans ?_ (hb.mono (by have := HB10.size; first | (simp; done) | (simp; omega) | omega))
    repeat (first | (with_reducible exact HB10) | (with_reducible exact Below.refl _ _) | (with_reducible refine Below.drew ?_) | (with_reducible refine Below.setCell ?_ (by first | (simp; done) | (simp; omega) | omega) _) | (with_reducible refine Below.alloc ?_ (by first | (simp; done) | (simp; omega) | omega) _))
  have hB11 := HB11.size
  have hs11 := hb.size
  try simp only [World.size_alloc, World.size_drew, World.size_setCell] at hs11
  obtain ⟨hc, hf⟩ := bcell hb
  have c11_0 := fun (o : Nat) => hc (w1.heap.size) o (by first | (simp; done) | (simp; omega) | omega)
  have f11_0 := fun (o : Nat) => hf (w1.heap.size) o (by first | (simp; done) | (simp; omega) | omega)
  have l11_0 : w1.heap.size < w11.heap.size := (by first | (simp; done) | (simp; omega) | omega)
  clear hb hc hf
  go_wp2
  go_ret
  refine ⟨rfl, ?_⟩
  repeat (first | (with_reducible exact HB11) | (with_reducible exact Below.refl _ _) | (with_reducible refine Below.drew ?_) | (with_reducible refine Below.setCell ?_ (by first | (simp; done) | (simp; omega) | omega) _) | (with_reducible refine Below.alloc ?_ (by first | (simp; done) | (simp; omega) | omega) _))
set_option maxHeartbeats 4000000 in
theorem orders_2 (a b v1 : Int) (z1 s1 c1 o1 : Bool) (w : World) (H0 : Hid (aluR 7 a b false false false false = ⟨v1, z1, s1, c1, o1⟩)) (H4 : Hid (condB 4 z1 s1 c1 o1 = false)) (H5 : Hid (condB 5 z1 s1 c1 o1 = true)) (H2 : Hid (condB 2 z1 s1 c1 o1 = false)) (H3 : Hid (condB 3 z1 s1 c1 o1 = true)) (H12 : Hid (condB 12 z1 s1 c1 o1 = true)) (H13 : Hid (condB 13 z1 s1 c1 o1 = false)) (H8 : Hid (condB 8 z1 s1 c1 o1 = false)) (H9 : Hid (condB 9 z1 s1 c1 o1 = true)) (H1 : Hid (condB 1 z1 s1 c1 o1 = false)) (e1 : (a == b) = false) (e2 : (a != b) = true) (e3 : decide (a < b) = false) (e4 : decide (b ≤ a) = true) (e5 : decide (wrap64 a < wrap64 b) = true) (e6 : decide (wrap64 b ≤ wrap64 a) = false) (e7 : decide (wrap64 (IntKind.u64.wrap (a - b)) < 0) = false) (e8 : decide (0 ≤ wrap64 (IntKind.u64.wrap (a - b))) = true) :
    Calls Try.prog 14 #[.int .u64 a, .int .u64 b] w fun e w' => e = .returned (.bool true) ∧ Below w.heap.size w w' := by
  have hu := Try.underlying44
  have HB0 : Below w.heap.size w w := Below.refl _ _
  go_enter Try.func14, Try.ntmps14
  go_wp2_with fail
  refine (Do_calls _ _ _ _ _ _ _ _).mono ?_
  rw [H0.out]
  rintro e w1 ⟨rfl, hb⟩
  have HB1 : Below w.heap.size w w1 := by
    refine Below.trans ?_ (hb.mono (by have := HB0.size; first | (simp; done) | (simp; omega) | omega))
    repeat (first | (with_reducible exact HB0) | (with_reducible exact Below.refl _ _) | (with_reducible refine Below.drew ?_) | (with_reducible refine Below.setCell ?_ (by first | (simp; done) | (simp; omega) | omega) _) | (with_reducible refine Below.alloc ?_ (by first | (simp; done) | (simp; omega) | omega) _))
  have hB1 := HB1.size
  have hs1 := hb.size
  try simp only [World.size_alloc, World.size_drew, World.size_setCell] at hs1
  obtain ⟨hc, hf⟩ := bcell hb
  clear hb hc hf
  go_wp2_with fail
  refine (Cond_calls _ _ _ _ _ _).mono ?_
  rw [H4.out]
  rintro e w2 ⟨rfl, hb⟩
  have HB2 : Below w.heap.size w w2 := by
    refine Below.trans ?_ (hb.mono (by have := HB1.size; first | (simp; done) | (simp; omega) | omega))
    repeat (first | (with_reducible exact HB1) | (with_reducible exact Below.refl _ _) | (with_reducible refine Below.drew ?_) | (with_reducible refine Below.setCell ?_ (by first | (simp; done) | (simp; omega) | omega) _) | (with_reducible refine Below.alloc ?_ (by first | (simp; done) | (simp; omega) | omega) _))
  have hB2 := HB2.size
  have hs2 := hb.size
  try simp only [World.size_alloc, World.size_drew, World.size_setCell] at hs2
  obtain ⟨hc, hf⟩ := bcell hb
  have c2_0 := fun (o : Nat) => hc (w1.heap.size) o (by first | (simp; done) | (simp; omega) | omega)
  have f2_0 := fun (o : Nat) => hf (w1.heap.size) o (by first | (simp; done) | (simp; omega) | omega)
  have l2_0 : w1.heap.size < w2.heap.size := (by first | (simp; done) | (simp; omega) | omega)
  clear hb hc hf
  go_wp2_with fail
  refine (Cond_calls _ _ _ _ _ _).mono ?_
  rw [H5.out]
  rintro e w3 ⟨rfl, hb⟩
  have HB3 : Below w.heap.size w w3 := by
    refine Below.trans ?_ (hb.mono (by have := HB2.size; first | (simp; done) | (simp; omega) | omega))
    repeat (first | (with_reducible exact HB2) | (with_reducible exact Below.refl _ _) | (with_reducible refine Below.drew ?_) | (with_reducible refine Below.setCell ?_ (by first | (simp; done) | (simp; omega) | omega) _) | (with_reducible refine Below.alloc ?_ (by first | (simp; done) | (simp; omega) | omega) _))
  have hB3 := HB3.size
  have hs3 := hb.size
  try simp only [World.size_alloc, World.size_drew, World.size_setCell] at hs3
  obtain ⟨hc, hf⟩ := bcell hb
  have c3_0 := fun (o : Nat) => hc (w1.heap.size) o (by first | (simp; done) | (simp; omega) | omega)
  have f3_0 := fun (o : Nat) => hf (w1.heap.size) o (by first | (simp; done) | (simp; omega) | omega)
  have l3_0 : w1.heap.size < w3.heap.size := (by first | (simp; done) | (simp; omega) | omega)
  clear hb hc hf
  go_wp2_with fail
  refine (Cond_calls _ _ _ _ _ _).mono ?_
  rw [H2.out]
  rintro e w4 ⟨rfl, hb⟩
  have HB4 : Below w.heap.size w w4 := by
    refine Below.trans ?_ (hb.mono (by have := HB3.size; first | (simp; done) | (simp; omega) | omega))
    repeat (first | (with_reducible exact HB3) | (with_reducible exact Below.refl _ _) | (with_reducible refine Below.drew ?_) | (with_reducible refine Below.setCell ?_ (by first | (simp; done) | (simp; omega) | omega) _) | (with_reducible refine Below.alloc ?_ (by first | (simp; done) | (simp; omega) | omega) _))
  have hB4 := HB4.size
  have hs4 := hb.size
  try simp only [World.size_alloc, World.size_drew, World.size_setCell] at hs4
  obtain ⟨hc, hf⟩ := bcell hb
  have c4_0 := fun (o : Nat) => hc (w1.heap.size) o (by first | (simp; done) | (simp; omega) | omega)
  have f4_0 := fun (o : Nat) => hf (w1.heap.size) o (by first | (simp; done) | (simp; omega) | omega)
  have l4_0 : w1.heap.size < w4.heap.size := (by first | (simp; done) | (simp; omega) | omega)
  clear hb hc hf
  go_wp2_with fail
  refine (Cond_calls _ _ _ _ _ _).mono ?_
  rw [H3.out]
  rintro e w5 ⟨rfl, hb⟩
  have HB5 : Below w.heap.size w w5 := by
    refine Below.trans ?_ (hb.mono (by have := HB4.size; first | (simp; done) | (simp; omega) | omega))
    repeat (first | (with_reducible exact HB4) | (with_reducible exact Below.refl _ _) | (with_reducible refine Below.drew ?_) | (with_reducible refine Below.setCell ?_ (by first | (simp; done) | (simp; omega) | omega) _) | (with_reducible refine Below.alloc ?_ (by first | (simp; done) | (simp; omega) | omega) _))
  have hB5 := HB5.size
  have hs5 := hb.size
  try simp only [World.size_alloc, World.size_drew, World.size_setCell] at hs5
  obtain ⟨hc, hf⟩ := bcell hb
  have c5_0 := fun (o : Nat) => hc (w1.heap.size) o (by first | (simp; done) | (simp; omega) | omega)
  have f5_0 := fun (o : Nat) => hf (w1.heap.size) o (by first | (simp; done) | (simp; omega) | omega)
  have l5_0 : w1.heap.size < w5.heap.size := (by first | (simp; done) | (simp; omega) | omega)
  clear hb hc hf
  go_wp2_with fail
  refine (Cond_calls _ _ _ _ _ _).mono ?_
  rw [H12.out]
  rintro e w6 ⟨rfl, hb⟩
  have HB6 : Below w.heap.size w w6 := by
    refine Below.trans ?_ (hb.mono (by have := HB5.size; first | (simp; done) | (simp; omega) | omega))
    repeat (first | (with_reducible exact HB5) | (with_reducible exact Below.refl _ _) | (with_reducible refine Below.drew ?_) | (with_reducible refine Below.setCell ?_ (by first | (simp; done) | (simp; omega) | omega) _) | (with_reducible refine Below.alloc ?_ (by first | (simp; done) | (simp; omega) | omega) _))
  have hB6 := HB6.size
  have hs6 := hb.size
  try simp only [World.size_alloc, World.size_drew, World.size_setCell] at hs6
  obtain ⟨hc, hf⟩ := bcell hb
  have c6_0 := fun (o : Nat) => hc (w1.heap.size) o (by first | (simp; done) | (simp; omega) | omega)
  have f6_0 := fun (o : Nat) => hf (w1.heap.size) o (by first | (simp; done) | (simp; omega) | omega)
  have l6_0 : w1.heap.size < w6.heap.size := (by first | (simp; done) | (simp; omega) | omega)
  clear hb hc hf
  go_wp2_with fail
  refine (Cond_calls _ _ _ _ _ _).mono ?_
  rw [H13.out]
  rintro e w7 ⟨rfl, hb⟩
  have HB7 : Below w.heap.size w w7 := by
    refine Below.trans ?_ (hb.mono (by have := HB6.size; first | (simp; done) | (simp; omega) | omega))
    repeat (first | (with_reducible exact HB6) | (with_reducible exact Below.refl _ _) | (with_reducible refine Below.drew ?_) | (with_reducible refine Below.setCell ?_ (by first | (simp; done) | (simp; omega) | omega) _) | (with_reducible refine Below.alloc ?_ (by first | (simp; done) | (simp; omega) | omega) _))
  have hB7 := HB7.size
  have hs7 := hb.size
  try simp only [World.size_alloc, World.size_drew, World.size_setCell] at hs7
  obtain ⟨hc, hf⟩ := bcell hb
  have c7_0 := fun (o : Nat) => hc (w1.heap.size) o (by first | (simp; done) | (simp; omega) | omega)
  have f7_0 := fun (o : Nat) => hf (w1.heap.size) o (by first | (simp; done) | (simp; omega) | omega)
  have l7_0 : w1.heap.size < w7.heap.size := (by first | (simp; done) | (simp; omega) | omega)
  clear hb hc hf
  go_wp2_with fail
  refine (Cond_calls _ _ _ _ _ _).mono ?_
  rw [H8.out]
  rintro e w8 ⟨rfl, hb⟩
  have HB8 : Below w.heap.size w w8 := by
    refine Below.trans ?_ (hb.mono (by have := HB7.size; first | (simp; done) | (simp; omega) | omega))
    repeat (first | (with_reducible exact HB7) | (with_reducible exact Below.refl _ _) | (with_reducible refine Below.drew ?_) | (with_reducible refine Below.setCell ?_ (by first | (simp; done) | (simp; omega) | omega) _) | (with_reducible refine Below.alloc ?_ (by first | (simp; done) | (simp; omega) | omega) _))
  have hB8 := HB8.size
  have hs8 := hb.size
  try simp only [World.size_alloc, World.size_drew, World.size_setCell] at hs8
  obtain ⟨hc, hf⟩ := bcell hb
  have c8_0 := fun (o : Nat) => hc (w1.heap.size) o (by first | (simp; done) | (simp; omega) | omega)
  have f8_0 := fun (o : Nat) => hf (w1.heap.size) o (by first | (simp; done) | (simp; omega) | omega)
  have l8_0 : w1.heap.size < w8.heap.size := (by first | (simp; done) | (simp; omega) | omega)
  clear hb hc hf
  go_wp2_with fail
  refine (Cond_calls _ _ _ _ _ _).mono ?_
  rw [H9.out]
  rintro e w9 ⟨rfl, hb⟩
  have HB9 : Below w.heap.size w w9 := by
    refine Below.trans ?_ (hb.mono (by have := HB8.size; first | (simp; done) | (simp; omega) | omega))
    repeat (first | (with_reducible exact HB8) | (with_reducible exact Below.refl _ _) | (with_reducible refine Below.drew ?_) | (with_reducible refine Below.setCell ?_ (by first | (simp; done) | (simp; omega) | omega) _) | (with_reducible refine Below.alloc ?_ (by first | (simp; done) | (simp; omega) | omega) _))
  have hB9 := HB9.size
  have hs9 := hb.size
  try simp only [World.size_alloc, World.size_drew, World.size_setCell] at hs9
  obtain ⟨hc, hf⟩ := bcell hb
  have c9_0 := fun (o : Nat) => hc (w1.heap.size) o (by first | (simp; done) | (simp; omega) | omega)
  have f9_0 := fun (o : Nat) => hf (w1.heap.size) o (by first | (simp; done) | (simp; omega) | omega)
  have l9_0 : w1.heap.size < w9.heap.size := (by first | (simp; done) | (simp; omega) | omega)
  clear hb hc hf
  go_wp2_with fail
  refine (Cond_calls _ _ _ _ _ _).mono ?_
  rw [H1.out]
  rintro e w10 ⟨rfl, hb⟩
  have HB10 : Below w.heap.size w w10 := by
    refine Below.trans ?_ (hb.mono (by have := HB9.size; first | (simp; done) | (simp; omega) | omega))
    repeat (first | (with_reducible exact HB9) | (with_reducible exact Below.refl _ _) | (with_reducible refine Below.drew ?_) | (with_reducible refine Below.setCell ?_ (by first | (simp; done) | (simp; omega) | omega) _) | (with_reducible refine Below.alloc ?_ (by first | (simp; done) | (simp; omega) | omega) _))
  have hB10 := HB10.size
  have hs10 := hb.size
  try simp only [World.size_alloc, World.size_drew, World.size_setCell] at hs10
  obtain ⟨hc, hf⟩ := bcell hb
  have c10_0 := fun (o : Nat) => hc (w1.heap.size) o (by first | (simp; done) | (simp; omega) | omega)
  have f10_0 := fun (o : Nat) => hf (w1.heap.size) o (by first | (simp; done) | (simp; omega) | omega)
  have l10_0 : w1.heap.size < w10.heap.size := (by first | (simp; done) | (simp; omega) | omega)
  clear hb hc hf
  go_wp2_with fail
  refine (alu_awake _).mono ?_
  rintro e w11 ⟨rfl, hb⟩
  have HB11 : Below w.heap.size w w11 := by
    refine Below.trans ?_ (hb.mono (by have := HB10.size; first | (simp; done) | (simp; omega) | omega))
    repeat (first | (with_reducible exact HB10) | (with_reducible exact Below.refl _ _) | (with_reducible refine Below.drew ?_) | (with_reducible refine Below.setCell ?_ (by first | (simp; done) | (simp; omega) | omega) _) | (with_reducible refine Below.alloc ?_ (by first | (simp; done) | (simp; omega) | omega) _))
  have hB11 := HB11.size
  have hs11 := hb.size
  try simp only [World.size_alloc, World.size_drew, World.size_setCell] at hs11
  obtain ⟨hc, hf⟩ := bcell hb
  have c11_0 := fun (o : Nat) => hc (w1.heap.size) o (by first | (simp; done) | (simp; omega) | omega)
  have f11_0 := fun (o : Nat) => hf (w1.heap.size) o (by first | (simp; done) | (simp; omega) | omega)
  have l11_0 : w1.heap.size < w11.heap.size := (by first | (simp; done) | (simp; omega) | omega)
  clear hb hc hf
  go_wp2
  go_ret
  refine ⟨rfl, ?_⟩
  repeat (first | (with_reducible exact HB11) | (with_reducible exact Below.refl _ _) | (with_reducible refine Below.drew ?_) | (with_reducible refine Below.setCell ?_ (by first | (simp; done) | (simp; omega) | omega) _) | (with_reducible refine Below.alloc ?_ (by first | (simp; done) | (simp; omega) | omega) _))
set_option maxHeartbeats 4000000 in
theorem orders_3 (a b v1 : Int) (z1 s1 c1 o1 : Bool) (w : World) (H0 : Hid (aluR 7 a b false false false false = ⟨v1, z1, s1, c1, o1⟩)) (H4 : Hid (condB 4 z1 s1 c1 o1 = false)) (H5 : Hid (condB 5 z1 s1 c1 o1 = true)) (H2 : Hid (condB 2 z1 s1 c1 o1 = true)) (H3 : Hid (condB 3 z1 s1 c1 o1 = false)) (H12 : Hid (condB 12 z1 s1 c1 o1 = true)) (H13 : Hid (condB 13 z1 s1 c1 o1 = false)) (H8 : Hid (condB 8 z1 s1 c1 o1 = false)) (H9 : Hid (condB 9 z1 s1 c1 o1 = true)) (H1 : Hid (condB 1 z1 s1 c1 o1 = false)) (e1 : (a == b) = false) (e2 : (a != b) = true) (e3 : decide (a < b) = true) (e4 : decide (b ≤ a) = false) (e5 : decide (wrap64 a < wrap64 b) = true) (e6 : decide (wrap64 b ≤ wrap64 a) = false) (e7 : decide (wrap64 (IntKind.u64.wrap (a - b)) < 0) = false) (e8 : decide (0 ≤ wrap64 (IntKind.u64.wrap (a - b))) = true) :
    Calls Try.prog 14 #[.int .u64 a, .int .u64 b] w fun e w' => e = .returned (.bool true) ∧ Below w.heap.size w w' := by
  have hu := Try.underlying44
  have HB0 : Below w.heap.size w w := Below.refl _ _
  go_enter Try.func14, Try.ntmps14
  go_wp2_with fail
  refine (Do_calls _ _ _ _ _ _ _ _).mono ?_
  rw [H0.out]
  rintro e w1 ⟨rfl, hb⟩
  have HB1 : Below w.heap.size w w1 := by
    refine Below.trans ?_ (hb.mono (by have := HB0.size; first | (simp; done) | (simp; omega) | omega))
    repeat (first | (with_reducible exact HB0) | (with_reducible exact Below.refl _ _) | (with_reducible refine Below.drew ?_) | (with_reducible refine Below.setCell ?_ (by first | (simp; done) | (simp; omega) | omega) _) | (with_reducible refine Below.alloc ?_ (by first | (simp; done) | (simp; omega) | omega) _))
  have hB1 := HB1.size
  have hs1 := hb.size
  try simp only [World.size_alloc, World.size_drew, World.size_setCell] at hs1
  obtain ⟨hc, hf⟩ := bcell hb
  clear hb hc hf
  go_wp2_with fail
  refine (Cond_calls _ _ _ _ _ _).mono ?_
  rw [H4.out]
  rintro e w2 ⟨rfl, hb⟩
  have HB2 : Below w.heap.size w w2 := by
    refine Below.trans ?_ (hb.mono (by have := HB1.size; first | (simp; done) | (simp; omega) | omega))
    repeat (first | (with_reducible exact HB1) | (with_reducible exact Below.refl _ _) | (with_reducible refine Below.drew ?_) | (with_reducible refine Below.setCell ?_ (by first | (simp; done) | (simp; omega) | omega) _) | (with_reducible refine Below.alloc ?_ (by first | (simp; done) | (simp; omega) | omega) _))
  have hB2 := HB2.size
  have hs2 := hb.size
  try simp only [World.size_alloc, World.size_drew, World.size_setCell] at hs2
  obtain ⟨hc, hf⟩ := bcell hb
  have c2_0 := fun (o : Nat) => hc (w1.heap.size) o (by first | (simp; done) | (simp; omega) | omega)
  have f2_0 := fun (o : Nat) => hf (w1.heap.size) o (by first | (simp; done) | (simp; omega) | omega)
  have l2_0 : w1.heap.size < w2.heap.size := (by first | (simp; done) | (simp; omega) | omega)
  clear hb hc hf
  go_wp2_with fail
  refine (Cond_calls _ _ _ _ _ _).mono ?_
  rw [H5.out]
  rintro e w3 ⟨rfl, hb⟩
  have HB3 : Below w.heap.size w w3 := by
    refine Below.trans ?_ (hb.mono (by have := HB2.size; first | (simp; done) | (simp; omega) | omega))
    repeat (first | (with_reducible exact HB2) | (with_reducible exact Below.refl _ _) | (with_reducible refine Below.drew ?_) | (with_reducible refine Below.setCell ?_ (by first | (simp; done) | (simp; omega) | omega) _) | (with_reducible refine Below.alloc ?_ (by first | (simp; done) | (simp; omega) | omega) _))
  have hB3 := HB3.size
  have hs3 := hb.size
  try simp only [World.size_alloc, World.size_drew, World.size_setCell] at hs3
  obtain ⟨hc, hf⟩ := bcell hb
  have c3_0 := fun (o : Nat) => hc (w1.heap.size) o (by first | (simp; done) | (simp; omega) | omega)
  have f3_0 := fun (o : Nat) => hf (w1.heap.size) o (by first | (simp; done) | (simp; omega) | omega)
  have l3_0 : w1.heap.size < w3.heap.size := (by first | (simp; done) | (simp; omega) | omega)
  clear hb hc hf
  go_wp2_with fail
  refine (Cond_calls _ _ _ _ _ _).mono ?_
  rw [H2.out]
  rintro e w4 ⟨rfl, hb⟩
  have HB4 : Below w.heap.size w w4 := by
    refine Below.trans ?_ (hb.mono (by have := HB3.size; first | (simp; done) | (simp; omega) | omega))
    repeat (first | (with_reducible exact HB3) | (with_reducible exact Below.refl _ _) | (with_reducible refine Below.drew ?_) | (with_reducible refine Below.setCell ?_ (by first | (simp; done) | (simp; omega) | omega) _) | (with_reducible refine Below.alloc ?_ (by first | (simp; done) | (simp; omega) | omega) _))
  have hB4 := HB4.size
  have hs4 := hb.size
  try simp only [World.size_alloc, World.size_drew, World.size_setCell] at hs4
  obtain ⟨hc, hf⟩ := bcell hb
  have c4_0 := fun (o : Nat) => hc (w1.heap.size) o (by first | (simp; done) | (simp; omega) | omega)
  have f4_0 := fun (o : Nat) => hf (w1.heap.size) o (by first | (simp; done) | (simp; omega) | omega)
  have l4_0 : w1.heap.size < w4.heap.size := (by first | (simp; done) | (simp; omega) | omega)
  clear hb hc hf
  go_wp2_with fail
  refine (Cond_calls _ _ _ _ _ _).mono ?_
  rw [H3.out]
  rintro e w5 ⟨rfl, hb⟩
  have HB5 : Below w.heap.size w w5 := by
    refine Below.trans ?_ (hb.mono (by have := HB4.size; first | (simp; done) | (simp; omega) | omega))
    repeat (first | (with_reducible exact HB4) | (with_reducible exact Below.refl _ _) | (with_reducible refine Below.drew ?_) | (with_reducible refine Below.setCell ?_ (by first | (simp; done) | (simp; omega) | omega) _) | (with_reducible refine Below.alloc ?_ (by first | (simp; done) | (simp; omega) | omega) _))
  have hB5 := HB5.size
  have hs5 := hb.size
  try simp only [World.size_alloc, World.size_drew, World.size_setCell] at hs5
  obtain ⟨hc, hf⟩ := bcell hb
  have c5_0 := fun (o : Nat) => hc (w1.heap.size) o (by first | (simp; done) | (simp; omega) | omega)
  have f5_0 := fun (o : Nat) => hf (w1.heap.size) o (by first | (simp; done) | (simp; omega) | omega)
  have l5_0 : w1.heap.size < w5.heap.size := (by first | (simp; done) | (simp; omega) | omega)
  clear hb hc hf
  go_wp2_with fail
  refine (Cond_calls _ _ _ _ _ _).mono ?_
  rw [H12.out]
  rintro e w6 ⟨rfl, hb⟩
  have HB6 : Below w.heap.size w w6 := by
    refine Below.trans ?_ (hb.mono (by have := HB5.size; first | (simp; done) | (simp; omega) | omega))
    repeat (first | (with_reducible exact HB5) | (with_reducible exact Below.refl _ _) | (with_reducible refine Below.drew ?_) | (with_reducible refine Below.setCell ?_ (by first | (simp; done) | (simp; omega) | omega) _) | (with_reducible refine Below.alloc ?_ (by first | (simp; done) | (simp; omega) | omega) _))
  have hB6 := HB6.size
  have hs6 := hb.size
  try simp only [World.size_alloc, World.size_drew, World.size_setCell] at hs6
  obtain ⟨hc, hf⟩ := bcell hb
  have c6_0 := fun (o : Nat) => hc (w1.heap.size) o (by first | (simp; done) | (simp; omega) | omega)
  have f6_0 := fun (o : Nat) => hf (w1.heap.size) o (by first | (simp; done) | (simp; omega) | omega)
  have l6_0 : w1.heap.size < w6.heap.size := (by first | (simp; done) | (simp; omega) | omega)
  clear hb hc hf
  go_wp2_with fail
  refine (Cond_calls _ _ _ _ _ _).mono ?_
  rw [H13.out]
  rintro e w7 ⟨rfl, hb⟩
  have HB7 : Below w.heap.size w w7 := by
    refine Below.trans ?_ (hb.mono (by have := HB6.size; first | (simp; done) | (simp; omega) | omega))
    repeat (first | (with_reducible exact HB6) | (with_reducible exact Below.refl _ _) | (with_reducible refine Below.drew ?_) | (with_reducible refine Below.setCell ?_ (by first | (simp; done) | (simp; omega) | omega) _) | (with_reducible refine Below.alloc ?_ (by first | (simp; done) | (simp; omega) | omega) _))
  have hB7 := HB7.size
  have hs7 := hb.size
  try simp only [World.size_alloc, World.size_drew, World.size_setCell] at hs7
  obtain ⟨hc, hf⟩ := bcell hb
  have c7_0 := fun (o : Nat) => hc (w1.heap.size) o (by first | (simp; done) | (simp; omega) | omega)
  have f7_0 := fun (o : Nat) => hf (w1.heap.size) o (by first | (simp; done) | (simp; omega) | omega)
  have l7_0 : w1.heap.size < w7.heap.size := (by first | (simp; done) | (simp; omega) | omega)
  clear hb hc hf
  go_wp2_with fail
  refine (Cond_calls _ _ _ _ _ _).mono ?_
  rw [H8.out]
  rintro e w8 ⟨rfl, hb⟩
  have HB8 : Below w.heap.size w w8 := by
    refine Below.trans ?_ (hb.mono (by have := HB7.size; first | (simp; done) | (simp; omega) | omega))
    repeat (first | (with_reducible exact HB7) | (with_reducible exact Below.refl _ _) | (with_reducible refine Below.drew ?_) | (with_reducible refine Below.setCell ?_ (by first | (simp; done) | (simp; omega) | omega) _) | (with_reducible refine Below.alloc ?_ (by first | (simp; done) | (simp; omega) | omega) _))
  have hB8 := HB8.size
  have hs8 := hb.size
  try simp only [World.size_alloc, World.size_drew, World.size_setCell] at hs8
  obtain ⟨hc, hf⟩ := bcell hb
  have c8_0 := fun (o : Nat) => hc (w1.heap.size) o (by first | (simp; done) | (simp; omega) | omega)
  have f8_0 := fun (o : Nat) => hf (w1.heap.size) o (by first | (simp; done) | (simp; omega) | omega)
  have l8_0 : w1.heap.size < w8.heap.size := (by first | (simp; done) | (simp; omega) | omega)
  clear hb hc hf
  go_wp2_with fail
  refine (Cond_calls _ _ _ _ _ _).mono ?_
  rw [H9.out]
  rintro e w9 ⟨rfl, hb⟩
  have HB9 : Below w.heap.size w w9 := by
    refine Below.trans ?_ (hb.mono (by have := HB8.size; first | (simp; done) | (simp; omega) | omega))
    repeat (first | (with_reducible exact HB8) | (with_reducible exact Below.refl _ _) | (with_reducible refine Below.drew ?_) | (with_reducible refine Below.setCell ?_ (by first | (simp; done) | (simp; omega) | omega) _) | (with_reducible refine Below.alloc ?_ (by first | (simp; done) | (simp; omega) | omega) _))
  have hB9 := HB9.size
  have hs9 := hb.size
  try simp only [World.size_alloc, World.size_drew, World.size_setCell] at hs9
  obtain ⟨hc, hf⟩ := bcell hb
  have c9_0 := fun (o : Nat) => hc (w1.heap.size) o (by first | (simp; done) | (simp; omega) | omega)
  have f9_0 := fun (o : Nat) => hf (w1.heap.size) o (by first | (simp; done) | (simp; omega) | omega)
  have l9_0 : w1.heap.size < w9.heap.size := (by first | (simp; done) | (simp; omega) | omega)
  clear hb hc hf
  go_wp2_with fail
  refine (Cond_calls _ _ _ _ _ _).mono ?_
  rw [H1.out]
  rintro e w10 ⟨rfl, hb⟩
  have HB10 : Below w.heap.size w w10 := by
    refine Below.trans ?_ (hb.mono (by have := HB9.size; first | (simp; done) | (simp; omega) | omega))
    repeat (first | (with_reducible exact HB9) | (with_reducible exact Below.refl _ _) | (with_reducible refine Below.drew ?_) | (with_reducible refine Below.setCell ?_ (by first | (simp; done) | (simp; omega) | omega) _) | (with_reducible refine Below.alloc ?_ (by first | (simp; done) | (simp; omega) | omega) _))
  have hB10 := HB10.size
  have hs10 := hb.size
  try simp only [World.size_alloc, World.size_drew, World.size_setCell] at hs10
  obtain ⟨hc, hf⟩ := bcell hb
  have c10_0 := fun (o : Nat) => hc (w1.heap.size) o (by first | (simp; done) | (simp; omega) | omega)
  have f10_0 := fun (o : Nat) => hf (w1.heap.size) o (by first | (simp; done) | (simp; omega) | omega)
  have l10_0 : w1.heap.size < w10.heap.size := (by first | (simp; done) | (simp; omega) | omega)
  clear hb hc hf
  go_wp2_with fail
  refine (alu_awake _).mono ?_
  rintro e w11 ⟨rfl, hb⟩
  have HB11 : Below w.heap.size w w11 := by
    refine Below.trans ?_ (hb.mono (by have := HB10.size; first | (simp; done) | (simp; omega) | omega))
    repeat (first | (with_reducible exact HB10) | (with_reducible exact Below.refl _ _) | (with_reducible refine Below.drew ?_) | (with_reducible refine Below.setCell ?_ (by first | (simp; done) | (simp; omega) | omega) _) | (with_reducible refine Below.alloc ?_ (by first | (simp; done) | (simp; omega) | omega) _))
  have hB11 := HB11.size
  have hs11 := hb.size
  try simp only [World.size_alloc, World.size_drew, World.size_setCell] at hs11
  obtain ⟨hc, hf⟩ := bcell hb
  have c11_0 := fun (o : Nat) => hc (w1.heap.size) o (by first | (simp; done) | (simp; omega) | omega)
  have f11_0 := fun (o : Nat) => hf (w1.heap.size) o (by first | (simp; done) | (simp; omega) | omega)
  have l11_0 : w1.heap.size < w11.heap.size := (by first | (simp; done) | (simp; omega) | omega)
  clear hb hc hf
  go_wp2
  go_ret
  refine ⟨rfl, ?_⟩
  repeat (first | (with_reducible exact HB11) | (with_reducible exact Below.refl _ _) | (with_reducible refine Below.drew ?_) | (with_reducible refine Below.setCell ?_ (by first | (simp; done) | (simp; omega) | omega) _) | (with_reducible refine Below.alloc ?_ (by first | (simp; done) | (simp; omega) | omega) _))
set_option maxHeartbeats 4000000 in
theorem orders_4 (a b v1 : Int) (z1 s1 c1 o1 : Bool) (w : World) (H0 : Hid (aluR 7 a b false false false false = ⟨v1, z1, s1, c1, o1⟩)) (H4 : Hid (condB 4 z1 s1 c1 o1 = false)) (H5 : Hid (condB 5 z1 s1 c1 o1 = true)) (H2 : Hid (condB 2 z1 s1 c1 o1 = false)) (H3 : Hid (condB 3 z1 s1 c1 o1 = true)) (H12 : Hid (condB 12 z1 s1 c1 o1 = false)) (H13 : Hid (condB 13 z1 s1 c1 o1 = true)) (H8 : Hid (condB 8 z1 s1 c1 o1 = true)) (H9 : Hid (condB 9 z1 s1 c1 o1 = false)) (H1 : Hid (condB 1 z1 s1 c1 o1 = false)) (e1 : (a == b) = false) (e2 : (a != b) = true) (e3 : decide (a < b) = false) (e4 : decide (b ≤ a) = true) (e5 : decide (wrap64 a < wrap64 b) = false) (e6 : decide (wrap64 b ≤ wrap64 a) = true) (e7 : decide (wrap64 (IntKind.u64.wrap (a - b)) < 0) = true) (e8 : decide (0 ≤ wrap64 (IntKind.u64.wrap (a - b))) = false) :
    Calls Try.prog 14 #[.int .u64 a, .int .u64 b] w fun e w' => e = .returned (.bool true) ∧ Below w.heap.size w w' := by
  have hu := Try.underlying44
  have HB0 : Below w.heap.size w w := Below.refl _ _
  go_enter Try.func14, Try.ntmps14
  go_wp2_with fail
  refine (Do_calls _ _ _ _ _ _ _ _).mono ?_
  rw [H0.out]
  rintro e w1 ⟨rfl, hb⟩
  have HB1 : Below w.heap.size w w1 := by
    refine Below.trans ?_ (hb.mono (by have := HB0.size; first | (simp; done) | (simp; omega) | omega))
    repeat (first | (with_reducible exact HB0) | (with_reducible exact Below.refl _ _) | (with_reducible refine Below.drew ?_) | (with_reducible refine Below.setCell ?_ (by first | (simp; done) | (simp; omega) | omega) _) | (with_reducible refine Below.alloc ?_ (by first | (simp; done) | (simp; omega) | omega) _))
  have hB1 := HB1.size
  have hs1 := hb.size
  try simp only [World.size_alloc, World.size_drew, World.size_setCell] at hs1
  obtain ⟨hc, hf⟩ := bcell hb
  clear hb hc hf
  go_wp2_with fail
  refine (Cond_calls _ _ _ _ _ _).mono ?_
  rw [H4.out]
  rintro e w2 ⟨rfl, hb⟩
  have HB2 : Below w.heap.size w w2 := by
    refine Below.trans ?_ (hb.mono (by have := HB1.size; first | (simp; done) | (simp; omega) | omega))
    repeat (first | (with_reducible exact HB1) | (with_reducible exact Below.refl _ _) | (with_reducible refine Below.drew ?_) | (with_reducible refine Below.setCell ?_ (by first | (simp; done) | (simp; omega) | omega) _) | (with_reducible refine Below.alloc ?_ (by first | (simp; done) | (simp; omega) | omega) _))
  have hB2 := HB2.size
  have hs2 := hb.size
  try simp only [World.size_alloc, World.size_drew, World.size_setCell] at hs2
  obtain ⟨hc, hf⟩ := bcell hb
  have c2_0 := fun (o : Nat) => hc (w1.heap.size) o (by first | (simp; done) | (simp; omega) | omega)
  have f2_0 := fun (o : Nat) => hf (w1.heap.size) o (by first | (simp; done) | (simp; omega) | omega)
  have l2_0 : w1.heap.size < w2.heap.size := (by first | (simp; done) | (simp; omega) | omega)
  clear hb hc hf
  go_wp2_with fail
  refine (Cond_calls _ _ _ _ _ _).mono ?_
  rw [H5.out]
  rintro e w3 ⟨rfl, hb⟩
  have HB3 : Below w.heap.size w w3 := by
    refine Below.trans ?_ (hb.mono (by have := HB2.size; first | (simp; done) | (simp; omega) | omega))
    repeat (first | (with_reducible exact HB2) | (with_reducible exact Below.refl _ _) | (with_reducible refine Below.drew ?_) | (with_reducible refine Below.setCell ?_ (by first | (simp; done) | (simp; omega) | omega) _) | (with_reducible refine Below.alloc ?_ (by first | (simp; done) | (simp; omega) | omega) _))
  have hB3 := HB3.size
  have hs3 := hb.size
  try simp only [World.size_alloc, World.size_drew, World.size_setCell] at hs3
  obtain ⟨hc, hf⟩ := bcell hb
  have c3_0 := fun (o : Nat) => hc (w1.heap.size) o (by first | (simp; done) | (simp; omega) | omega)
  have f3_0 := fun (o : Nat) => hf (w1.heap.size) o (by first | (simp; done) | (simp; omega) | omega)
  have l3_0 : w1.heap.size < w3.heap.size := (by first | (simp; done) | (simp; omega) | omega)
  clear hb hc hf
  go_wp2_with fail
  refine (Cond_calls _ _ _ _ _ _).mono ?_
  rw [H2.out]
  rintro e w4 ⟨rfl, hb⟩
  have HB4 : Below w.heap.size w w4 := by
    refine Below.trans ?_ (hb.mono (by have := HB3.size; first | (simp; done) | (simp; omega) | omega))
    repeat (first | (with_reducible exact HB3) | (with_reducible exact Below.refl _ _) | (with_reducible refine Below.drew ?_) | (with_reducible refine Below.setCell ?_ (by first | (simp; done) | (simp; omega) | omega) _) | (with_reducible refine Below.alloc ?_ (by first | (simp; done) | (simp; omega) | omega) _))
  have hB4 := HB4.size
  have hs4 := hb.size
  try simp only [World.size_alloc, World.size_drew, World.size_setCell] at hs4
  obtain ⟨hc, hf⟩ := bcell hb
  have c4_0 := fun (o : Nat) => hc (w1.heap.size) o (by first | (simp; done) | (simp; omega) | omega)
  have f4_0 := fun (o : Nat) => hf (w1.heap.size) o (by first | (simp; done) | (simp; omega) | omega)
  have l4_0 : w1.heap.size < w4.heap.size := (by first | (simp; done) | (simp; omega) | omega)
  clear hb hc hf
  go_wp2_with fail
  refine (Cond_calls _ _ _ _ _ _).mono ?_
  rw [H3.out]
  rintro e w5 ⟨rfl, hb⟩
  have HB5 : Below w.heap.size w w5 := by
    refine Below.trans ?_ (hb.mono (by have := HB4.size; first | (simp; done) | (simp; omega) | omega))
    repeat (first | (with_reducible exact HB4) | (with_reducible exact Below.refl _ _) | (with_reducible refine Below.drew ?_) | (with_reducible refine Below.setCell ?_ (by first | (simp; done) | (simp; omega) | omega) _) | (with_reducible refine Below.alloc ?_ (by first | (simp; done) | (simp; omega) | omega) _))
  have hB5 := HB5.size
  have hs5 := hb.size
  try simp only [World.size_alloc, World.size_drew, World.size_setCell] at hs5
  obtain ⟨hc, hf⟩ := bcell hb
  have c5_0 := fun (o : Nat) => hc (w1.heap.size) o (by first | (simp; done) | (simp; omega) | omega)
  have f5_0 := fun (o : Nat) => hf (w1.heap.size) o (by first | (simp; done) | (simp; omega) | omega)
  have l5_0 : w1.heap.size < w5.heap.size := (by first | (simp; done) | (simp; omega) | omega)
  clear hb hc hf
  go_wp2_with fail
  refine (Cond_calls _ _ _ _ _ _).mono ?_
  rw [H12.out]
  rintro e w6 ⟨rfl, hb⟩
  have HB6 : Below w.heap.size w w6 := by
    refine Below.trans ?_ (hb.mono (by have := HB5.size; first | (simp; done) | (simp; omega) | omega))
    repeat (first | (with_reducible exact HB5) | (with_reducible exact Below.refl _ _) | (with_reducible refine Below.drew ?_) | (with_reducible refine Below.setCell ?_ (by first | (simp; done) | (simp; omega) | omega) _) | (with_reducible refine Below.alloc ?_ (by first | (simp; done) | (simp; omega) | omega) _))
  have hB6 := HB6.size
  have hs6 := hb.size
  try simp only [World.size_alloc, World.size_drew, World.size_setCell] at hs6
  obtain ⟨hc, hf⟩ := bcell hb
  have c6_0 := fun (o : Nat) => hc (w1.heap.size) o (by first | (simp; done) | (simp; omega) | omega)
  have f6_0 := fun (o : Nat) => hf (w1.heap.size) o (by first | (simp; done) | (simp; omega) | omega)
  have l6_0 : w1.heap.size < w6.heap.size := (by first | (simp; done) | (simp; omega) | omega)
  clear hb hc hf
  go_wp2_with fail
  refine (Cond_calls _ _ _ _ _ _).mono ?_
  rw [H13.out]
  rintro e w7 ⟨rfl, hb⟩
  have HB7 : Below w.heap.size w w7 := by
    refine Below.trans ?_ (hb.mono (by have := HB6.size; first | (simp; done) | (simp; omega) | omega))
    repeat (first | (with_reducible exact HB6) | (with_reducible exact Below.refl _ _) | (with_reducible refine Below.drew ?_) | (with_reducible refine Below.setCell ?_ (by first | (simp; done) | (simp; omega) | omega) _) | (with_reducible refine Below.alloc ?_ (by first | (simp; done) | (simp; omega) | omega) _))
  have hB7 := HB7.size
  have hs7 := hb.size
  try simp only [World.size_alloc, World.size_drew, World.size_setCell] at hs7
  obtain ⟨hc, hf⟩ := bcell hb
  have c7_0 := fun (o : Nat) => hc (w1.heap.size) o (by first | (simp; done) | (simp; omega) | omega)
  have f7_0 := fun (o : Nat) => hf (w1.heap.size) o (by first | (simp; done) | (simp; omega) | omega)
  have l7_0 : w1.heap.size < w7.heap.size := (by first | (simp; done) | (simp; omega) | omega)
  clear hb hc hf
  go_wp2_with fail
  refine (Cond_calls _ _ _ _ _ _).mono ?_
  rw [H8.out]
  rintro e w8 ⟨rfl, hb⟩
  have HB8 : Below w.heap.size w w8 := by
    refine Below.trans ?_ (hb.mono (by have := HB7.size; first | (simp; done) | (simp; omega) | omega))
    repeat (first | (with_reducible exact HB7) | (with_reducible exact Below.refl _ _) | (with_reducible refine Below.drew ?_) | (with_reducible refine Below.setCell ?_ (by first | (simp; done) | (simp; omega) | omega) _) | (with_reducible refine Below.alloc ?_ (by first | (simp; done) | (simp; omega) | omega) _))
  have hB8 := HB8.size
  have hs8 := hb.size
  try simp only [World.size_alloc, World.size_drew, World.size_setCell] at hs8
  obtain ⟨hc, hf⟩ := bcell hb
  have c8_0 := fun (o : Nat) => hc (w1.heap.size) o (by first | (simp; done) | (simp; omega) | omega)
  have f8_0 := fun (o : Nat) => hf (w1.heap.size) o (by first | (simp; done) | (simp; omega) | omega)
  have l8_0 : w1.heap.size < w8.heap.size := (by first | (simp; done) | (simp; omega) | omega)
  clear hb hc hf
  go_wp2_with fail
  refine (Cond_calls _ _ _ _ _ _).mono ?_
  rw [H9.out]
  rintro e w9 ⟨rfl, hb⟩
  have HB9 : Below w.heap.size w w9 := by
    refine Below.trans ?_ (hb.mono (by have := HB8.size; first | (simp; done) | (simp; omega) | omega))
    repeat (first | (with_reducible exact HB8) | (with_reducible exact Below.refl _ _) | (with_reducible refine Below.drew ?_) | (with_reducible refine Below.setCell ?_ (by first | (simp; done) | (simp; omega) | omega) _) | (with_reducible refine Below.alloc ?_ (by first | (simp; done) | (simp; omega) | omega) _))
  have hB9 := HB9.size
  have hs9 := hb.size
  try simp only [World.size_alloc, World.size_drew, World.size_setCell] at hs9
  obtain ⟨hc, hf⟩ := bcell hb
  have c9_0 := fun (o : Nat) => hc (w1.heap.size) o (by first | (simp; done) | (simp; omega) | omega)
  have f9_0 := fun (o : Nat) => hf (w1.heap.size) o (by first | (simp; done) | (simp; omega) | omega)
  have l9_0 : w1.heap.size < w9.heap.size := (by first | (simp; done) | (simp; omega) | omega)
  clear hb hc hf
  go_wp2_with fail
  refine (Cond_calls _ _ _ _ _ _).mono ?_
  rw [H1.out]
  rintro e w10 ⟨rfl, hb⟩
  have HB10 : Below w.heap.size w w10 := by
    refine Below.trans ?_ (hb.mono (by have := HB9.size; first | (simp; done) | (simp; omega) | omega))
    repeat (first | (with_reducible exact HB9) | (with_reducible exact Below.refl _ _) | (with_reducible refine Below.drew ?_) | (with_reducible refine Below.setCell ?_ (by first | (simp; done) | (simp; omega) | omega) _) | (with_reducible refine Below.alloc ?_ (by first | (simp; done) | (simp; omega) | omega) _))
  have hB10 := HB10.size
  have hs10 := hb.size
  try simp only [World.size_alloc, World.size_drew, World.size_setCell] at hs10
  obtain ⟨hc, hf⟩ := bcell hb
  have c10_0 := fun (o : Nat) => hc (w1.heap.size) o (by first | (simp; done) | (simp; omega) | omega)
  have f10_0 := fun (o : Nat) => hf (w1.heap.size) o (by first | (simp; done) | (simp; omega) | omega)
  have l10_0 : w1.heap.size < w10.heap.size := (by first | (simp; done) | (simp; omega) | omega)
  clear hb hc hf
  go_wp2_with fail
  refine (alu_awake _).mono ?_
  rintro e w11 ⟨rfl, hb⟩
  have HB11 : Below w.heap.size w w11 := by
    refine Below.trans ?_ (hb.mono (by have := HB10.size; first | (simp; done) | (simp; omega) | omega))
    repeat (first | (with_reducible exact HB10) | (with_reducible exact Below.refl _ _) | (with_reducible refine Below.drew ?_) | (with_reducible refine Below.setCell ?_ (by first | (simp; done) | (simp; omega) | omega) _) | (with_reducible refine Below.alloc ?_ (by first | (simp; done) | (simp; omega) | omega) _))
  have hB11 := HB11.size
  have hs11 := hb.size
  try simp only [World.size_alloc, World.size_drew, World.size_setCell] at hs11
  obtain ⟨hc, hf⟩ := bcell hb
  have c11_0 := fun (o : Nat) => hc (w1.heap.size) o (by first | (simp; done) | (simp; omega) | omega)
  have f11_0 := fun (o : Nat) => hf (w1.heap.size) o (by first | (simp; done) | (simp; omega) | omega)
  have l11_0 : w1.heap.size < w11.heap.size := (by first | (simp; done) | (simp; omega) | omega)
  clear hb hc hf
  go_wp2
  go_ret
  refine ⟨rfl, ?_⟩
  repeat (first | (with_reducible exact HB11) | (with_reducible exact Below.refl _ _) | (with_reducible refine Below.drew ?_) | (with_reducible refine Below.setCell ?_ (by first | (simp; done) | (simp; omega) | omega) _) | (with_reducible refine Below.alloc ?_ (by first | (simp; done) | (simp; omega) | omega) _))
set_option maxHeartbeats 4000000 in
theorem orders_5 (a b v1 : Int) (z1 s1 c1 o1 : Bool) (w : World) (H0 : Hid (aluR 7 a b false false false false = ⟨v1, z1, s1, c1, o1⟩)) (H4 : Hid (condB 4 z1 s1 c1 o1 = false)) (H5 : Hid (condB 5 z1 s1 c1 o1 = true)) (H2 : Hid (condB 2 z1 s1 c1 o1 = true)) (H3 : Hid (condB 3 z1 s1 c1 o1 = false)) (H12 : Hid (condB 12 z1 s1 c1 o1 = false)) (H13 : Hid (condB 13 z1 s1 c1 o1 = true)) (H8 : Hid (condB 8 z1 s1 c1 o1 = true)) (H9 : Hid (condB 9 z1 s1 c1 o1 = false)) (H1 : Hid (condB 1 z1 s1 c1 o1 = false)) (e1 : (a == b) = false) (e2 : (a != b) = true) (e3 : decide (a < b) = true) (e4 : decide (b ≤ a) = false) (e5 : decide (wrap64 a < wrap64 b) = false) (e6 : decide (wrap64 b ≤ wrap64 a) = true) (e7 : decide (wrap64 (IntKind.u64.wrap (a - b)) < 0) = true) (e8 : decide (0 ≤ wrap64 (IntKind.u64.wrap (a - b))) = false) :
    Calls Try.prog 14 #[.int .u64 a, .int .u64 b] w fun e w' => e = .returned (.bool true) ∧ Below w.heap.size w w' := by
  have hu := Try.underlying44
  have HB0 : Below w.heap.size w w := Below.refl _ _
  go_enter Try.func14, Try.ntmps14
  go_wp2_with fail
  refine (Do_calls _ _ _ _ _ _ _ _).mono ?_
  rw [H0.out]
  rintro e w1 ⟨rfl, hb⟩
  have HB1 : Below w.heap.size w w1 := by
    refine Below.trans ?_ (hb.mono (by have := HB0.size; first | (simp; done) | (simp; omega) | omega))
    repeat (first | (with_reducible exact HB0) | (with_reducible exact Below.refl _ _) | (with_reducible refine Below.drew ?_) | (with_reducible refine Below.setCell ?_ (by first | (simp; done) | (simp; omega) | omega) _) | (with_reducible refine Below.alloc ?_ (by first | (simp; done) | (simp; omega) | omega) _))
  have hB1 := HB1.size
  have hs1 := hb.size
  try simp only [World.size_alloc, World.size_drew, World.size_setCell] at hs1
  obtain ⟨hc, hf⟩ := bcell hb
  clear hb hc hf
  go_wp2_with fail
  refine (Cond_calls _ _ _ _ _ _).mono ?_
  rw [H4.out]
  rintro e w2 ⟨rfl, hb⟩
  have HB2 : Below w.heap.size w w2 := by
    refine Below.trans ?_ (hb.mono (by have := HB1.size; first | (simp; done) | (simp; omega) | omega))
    repeat (first | (with_reducible exact HB1) | (with_reducible exact Below.refl _ _) | (with_reducible refine Below.drew ?_) | (with_reducible refine Below.setCell ?_ (by first | (simp; done) | (simp; omega) | omega) _) | (with_reducible refine Below.alloc ?_ (by first | (simp; done) | (simp; omega) | omega) _))
  have hB2 := HB2.size
  have hs2 := hb.size
  try simp only [World.size_alloc, World.size_drew, World.size_setCell] at hs2
  obtain ⟨hc, hf⟩ := bcell hb
  have c2_0 := fun (o : Nat) => hc (w1.heap.size) o (by first | (simp; done) | (simp; omega) | omega)
  have f2_0 := fun (o : Nat) => hf (w1.heap.size) o (by first | (simp; done) | (simp; omega) | omega)
  have l2_0 : w1.heap.size < w2.heap.size := (by first | (simp; done) | (simp; omega) | omega)
  clear hb hc hf
  go_wp2_with fail
  refine (Cond_calls _ _ _ _ _ _).mono ?_
  rw [H5.out]
  rintro e w3 ⟨rfl, hb⟩
  have HB3 : Below w.heap.size w w3 := by
    refine Below.trans ?_ (hb.mono (by have := HB2.size; first | (simp; done) | (simp; omega) | omega))
    repeat (first | (with_reducible exact HB2) | (with_reducible exact Below.refl _ _) | (with_reducible refine Below.drew ?_) | (with_reducible refine Below.setCell ?_ (by first | (simp; done) | (simp; omega) | omega) _) | (with_reducible refine Below.alloc ?_ (by first | (simp; done) | (simp; omega) | omega) _))
  have hB3 := HB3.size
  have hs3 := hb.size
  try simp only [World.size_alloc, World.size_drew, World.size_setCell] at hs3
  obtain ⟨hc, hf⟩ := bcell hb
  have c3_0 := fun (o : Nat) => hc (w1.heap.size) o (by first | (simp; done) | (simp; omega) | omega)
  have f3_0 := fun (o : Nat) => hf (w1.heap.size) o (by first | (simp; done) | (simp; omega) | omega)
  have l3_0 : w1.heap.size < w3.heap.size := (by first | (simp; done) | (simp; omega) | omega)
  clear hb hc hf
  go_wp2_with fail
  refine (Cond_calls _ _ _ _ _ _).mono ?_
  rw [H2.out]
  rintro e w4 ⟨rfl, hb⟩
  have HB4 : Below w.heap.size w w4 := by
    refine Below.trans ?_ (hb.mono (by have := HB3.size; first | (simp; done) | (simp; omega) | omega))
    repeat (first | (with_reducible exact HB3) | (with_reducible exact Below.refl _ _) | (with_reducible refine Below.drew ?_) | (with_reducible refine Below.setCell ?_ (by first | (simp; done) | (simp; omega) | omega) _) | (with_reducible refine Below.alloc ?_ (by first | (simp; done) | (simp; omega) | omega) _))
  have hB4 := HB4.size
  have hs4 := hb.size
  try simp only [World.size_alloc, World.size_drew, World.size_setCell] at hs4
  obtain ⟨hc, hf⟩ := bcell hb
  have c4_0 := fun (o : Nat) => hc (w1.heap.size) o (by first | (simp; done) | (simp; omega) | omega)
  have f4_0 := fun (o : Nat) => hf (w1.heap.size) o (by first | (simp; done) | (simp; omega) | omega)
  have l4_0 : w1.heap.size < w4.heap.size := (by first | (simp; done) | (simp; omega) | omega)
  clear hb hc hf
  go_wp2_with fail
  refine (Cond_calls _ _ _ _ _ _).mono ?_
  rw [H3.out]
  rintro e w5 ⟨rfl, hb⟩
  have HB5 : Below w.heap.size w w5 := by
    refine Below.trans ?_ (hb.mono (by have := HB4.size; first | (simp; done) | (simp; omega) | omega))
    repeat (first | (with_reducible exact HB4) | (with_reducible exact Below.refl _ _) | (with_reducible refine Below.drew ?_) | (with_reducible refine Below.setCell ?_ (by first | (simp; done) | (simp; omega) | omega) _) | (with_reducible refine Below.alloc ?_ (by first | (simp; done) | (simp; omega) | omega) _))
  have hB5 := HB5.size
  have hs5 := hb.size
  try simp only [World.size_alloc, World.size_drew, World.size_setCell] at hs5
  obtain ⟨hc, hf⟩ := bcell hb
  have c5_0 := fun (o : Nat) => hc (w1.heap.size) o (by first | (simp; done) | (simp; omega) | omega)
  have f5_0 := fun (o : Nat) => hf (w1.heap.size) o (by first | (simp; done) | (simp; omega) | omega)
  have l5_0 : w1.heap.size < w5.heap.size := (by first | (simp; done) | (simp; omega) | omega)
  clear hb hc hf
  go_wp2_with fail
  refine (Cond_calls _ _ _ _ _ _).mono ?_
  rw [H12.out]
  rintro e w6 ⟨rfl, hb⟩
  have HB6 : Below w.heap.size w w6 := by
    refine Below.trans ?_ (hb.mono (by have := HB5.size; first | (simp; done) | (simp; omega) | omega))
    repeat (first | (with_reducible exact HB5) | (with_reducible exact Below.refl _ _) | (with_reducible refine Below.drew ?_) | (with_reducible refine Below.setCell ?_ (by first | (simp; done) | (simp; omega) | omega) _) | (with_reducible refine Below.alloc ?_ (by first | (simp; done) | (simp; omega) | omega) _))
  have hB6 := HB6.size
  have hs6 := hb.size
  try simp only [World.size_alloc, World.size_drew, World.size_setCell] at hs6
  obtain ⟨hc, hf⟩ := bcell hb
  have c6_0 := fun (o : Nat) => hc (w1.heap.size) o (by first | (simp; done) | (simp; omega) | omega)
  have f6_0 := fun (o : Nat) => hf (w1.heap.size) o (by first | (simp; done) | (simp; omega) | omega)
  have l6_0 : w1.heap.size < w6.heap.size := (by first | (simp; done) | (simp; omega) | omega)
  clear hb hc hf
  go_wp2_with fail
  refine (Cond_calls _ _ _ _ _ _).mono ?_
  rw [H13.out]
  rintro e w7 ⟨rfl, hb⟩
  have HB7 : Below w.heap.size w w7 := by
    refine Below.trans ?_ (hb.mono (by have := HB6.size; first | (simp; done) | (simp; omega) | omega))
    repeat (first | (with_reducible exact HB6) | (with_reducible exact Below.refl _ _) | (with_reducible refine Below.drew ?_) | (with_reducible refine Below.setCell ?_ (by first | (simp; done) | (simp; omega) | omega) _) | (with_reducible refine Below.alloc ?_ (by first | (simp; done) | (simp; omega) | omega) _))
  have hB7 := HB7.size
  have hs7 := hb.size
  try simp only [World.size_alloc, World.size_drew, World.size_setCell] at hs7
  obtain ⟨hc, hf⟩ := bcell hb
  have c7_0 := fun (o : Nat) => hc (w1.heap.size) o (by first | (simp; done) | (simp; omega) | omega)
  have f7_0 := fun (o : Nat) => hf (w1.heap.size) o (by first | (simp; done) | (simp; omega) | omega)
  have l7_0 : w1.heap.size < w7.heap.size := (by first | (simp; done) | (simp; omega) | omega)
  clear hb hc hf
  go_wp2_with fail
  refine (Cond_calls _ _ _ _ _ _).mono ?_
  rw [H8.out]
  rintro e w8 ⟨rfl, hb⟩
  have HB8 : Below w.heap.size w w8 := by
    refine Below.trans ?_ (hb.mono (by have := HB7.size; first | (simp; done) | (simp; omega) | omega))
    repeat (first | (with_reducible exact HB7) | (with_reducible exact Below.refl _ _) | (with_reducible refine Below.drew ?_) | (with_reducible refine Below.setCell ?_ (by first | (simp; done) | (simp; omega) | omega) _) | (with_reducible refine Below.alloc ?_ (by first | (simp; done) | (simp; omega) | omega) _))
  have hB8 := HB8.size
  have hs8 := hb.size
  try simp only [World.size_alloc, World.size_drew, World.size_setCell] at hs8
  obtain ⟨hc, hf⟩ := bcell hb
  have c8_0 := fun (o : Nat) => hc (w1.heap.size) o (by first | (simp; done) | (simp; omega) | omega)
  have f8_0 := fun (o : Nat) => hf (w1.heap.size) o (by first | (simp; done) | (simp; omega) | omega)
  have l8_0 : w1.heap.size < w8.heap.size := (by first | (simp; done) | (simp; omega) | omega)
  clear hb hc hf
  go_wp2_with fail
  refine (Cond_calls _ _ _ _ _ _).mono ?_
  rw [H9.out]
  rintro e w9 ⟨rfl, hb⟩
  have HB9 : Below w.heap.size w w9 := by
    refine Below.trans ?_ (hb.mono (by have := HB8.size; first | (simp; done) | (simp; omega) | omega))
    repeat (first | (with_reducible exact HB8) | (with_reducible exact Below.refl _ _) | (with_reducible refine Below.drew ?_) | (with_reducible refine Below.setCell ?_ (by first | (simp; done) | (simp; omega) | omega) _) | (with_reducible refine Below.alloc ?_ (by first | (simp; done) | (simp; omega) | omega) _))
  have hB9 := HB9.size
  have hs9 := hb.size
  try simp only [World.size_alloc, World.size_drew, World.size_setCell] at hs9
  obtain ⟨hc, hf⟩ := bcell hb
  have c9_0 := fun (o : Nat) => hc (w1.heap.size) o (by first | (simp; done) | (simp; omega) | omega)
  have f9_0 := fun (o : Nat) => hf (w1.heap.size) o (by first | (simp; done) | (simp; omega) | omega)
  have l9_0 : w1.heap.size < w9.heap.size := (by first | (simp; done) | (simp; omega) | omega)
  clear hb hc hf
  go_wp2_with fail
  refine (Cond_calls _ _ _ _ _ _).mono ?_
  rw [H1.out]
  rintro e w10 ⟨rfl, hb⟩
  have HB10 : Below w.heap.size w w10 := by
    refine Below.trans ?_ (hb.mono (by have := HB9.size; first | (simp; done) | (simp; omega) | omega))
    repeat (first | (with_reducible exact HB9) | (with_reducible exact Below.refl _ _) | (with_reducible refine Below.drew ?_) | (with_reducible refine Below.setCell ?_ (by first | (simp; done) | (simp; omega) | omega) _) | (with_reducible refine Below.alloc ?_ (by first | (simp; done) | (simp; omega) | omega) _))
  have hB10 := HB10.size
  have hs10 := hb.size
  try simp only [World.size_alloc, World.size_drew, World.size_setCell] at hs10
  obtain ⟨hc, hf⟩ := bcell hb
  have c10_0 := fun (o : Nat) => hc (w1.heap.size) o (by first | (simp; done) | (simp; omega) | omega)
  have f10_0 := fun (o : Nat) => hf (w1.heap.size) o (by first | (simp; done) | (simp; omega) | omega)
  have l10_0 : w1.heap.size < w10.heap.size := (by first | (simp; done) | (simp; omega) | omega)
  clear hb hc hf
  go_wp2_with fail
  refine (alu_awake _).mono ?_
  rintro e w11 ⟨rfl, hb⟩
  have HB11 : Below w.heap.size w w11 := by
    refine Below.trans ?_ (hb.mono (by have := HB10.size; first | (simp; done) | (simp; omega) | omega))
    repeat (first | (with_reducible exact HB10) | (with_reducible exact Below.refl _ _) | (with_reducible refine Below.drew ?_) | (with_reducible refine Below.setCell ?_ (by first | (simp; done) | (simp; omega) | omega) _) | (with_reducible refine Below.alloc ?_ (by first | (simp; done) | (simp; omega) | omega) _))
  have hB11 := HB11.size
  have hs11 := hb.size
  try simp only [World.size_alloc, World.size_drew, World.size_setCell] at hs11
  obtain ⟨hc, hf⟩ := bcell hb
  have c11_0 := fun (o : Nat) => hc (w1.heap.size) o (by first | (simp; done) | (simp; omega) | omega)
  have f11_0 := fun (o : Nat) => hf (w1.heap.size) o (by first | (simp; done) | (simp; omega) | omega)
  have l11_0 : w1.heap.size < w11.heap.size := (by first | (simp; done) | (simp; omega) | omega)
  clear hb hc hf
  go_wp2
  go_ret
  refine ⟨rfl, ?_⟩
  repeat (first | (with_reducible exact HB11) | (with_reducible exact Below.refl _ _) | (with_reducible refine Below.drew ?_) | (with_reducible refine Below.setCell ?_ (by first | (simp; done) | (simp; omega) | omega) _) | (with_reducible refine Below.alloc ?_ (by first | (simp; done) | (simp; omega) | omega) _))
set_option maxHeartbeats 4000000 in
theorem orders_6 (a b v1 : Int) (z1 s1 c1 o1 : Bool) (w : World) (H0 : Hid (aluR 7 a b false false false false = ⟨v1, z1, s1, c1, o1⟩)) (H4 : Hid (condB 4 z1 s1 c1 o1 = false)) (H5 : Hid (condB 5 z1 s1 c1 o1 = true)) (H2 : Hid (condB 2 z1 s1 c1 o1 = false)) (H3 : Hid (condB 3 z1 s1 c1 o1 = true)) (H12 : Hid (condB 12 z1 s1 c1 o1 = true)) (H13 : Hid (condB 13 z1 s1 c1 o1 = false)) (H8 : Hid (condB 8 z1 s1 c1 o1 = true)) (H9 : Hid (condB 9 z1 s1 c1 o1 = false)) (H1 : Hid (condB 1 z1 s1 c1 o1 = false)) (e1 : (a == b) = false) (e2 : (a != b) = true) (e3 : decide (a < b) = false) (e4 : decide (b ≤ a) = true) (e5 : decide (wrap64 a < wrap64 b) = true) (e6 : decide (wrap64 b ≤ wrap64 a) = false) (e7 : decide (wrap64 (IntKind.u64.wrap (a - b)) < 0) = true) (e8 : decide (0 ≤ wrap64 (IntKind.u64.wrap (a - b))) = false) :
    Calls Try.prog 14 #[.int .u64 a, .int .u64 b] w fun e w' => e = .returned (.bool true) ∧ Below w.heap.size w w' := by
  have hu := Try.underlying44
  have HB0 : Below w.heap.size w w := Below.refl _ _
  go_enter Try.func14, Try.ntmps14
  go_wp2_with fail
  refine (Do_calls _ _ _ _ _ _ _ _).mono ?_
  rw [H0.out]
  rintro e w1 ⟨rfl, hb⟩
  have HB1 : Below w.heap.size w w1 := by
    refine Below.trans ?_ (hb.mono (by have := HB0.size; first | (simp; done) | (simp; omega) | omega))
    repeat (first | (with_reducible exact HB0) | (with_reducible exact Below.refl _ _) | (with_reducible refine Below.drew ?_) | (with_reducible refine Below.setCell ?_ (by first | (simp; done) | (simp; omega) | omega) _) | (with_reducible refine Below.alloc ?_ (by first | (simp; done) | (simp; omega) | omega) _))
  have hB1 := HB1.size
  have hs1 := hb.size
  try simp only [World.size_alloc, World.size_drew, World.size_setCell] at hs1
  obtain ⟨hc, hf⟩ := bcell hb
  clear hb hc hf
  go_wp2_with fail
  refine (Cond_calls _ _ _ _ _ _).mono ?_
  rw [H4.out]
  rintro e w2 ⟨rfl, hb⟩
  have HB2 : Below w.heap.size w w2 := by
    refine Below.trans ?_ (hb.mono (by have := HB1.size; first | (simp; done) | (simp; omega) | omega))
    repeat (first | (with_reducible exact HB1) | (with_reducible exact Below.refl _ _) | (with_reducible refine Below.drew ?_) | (with_reducible refine Below.setCell ?_ (by first | (simp; done) | (simp; omega) | omega) _) | (with_reducible refine Below.alloc ?_ (by first | (simp; done) | (simp; omega) | omega) _))
  have hB2 := HB2.size
  have hs2 := hb.size
  try simp only [World.size_alloc, World.size_drew, World.size_setCell] at hs2
  obtain ⟨hc, hf⟩ := bcell hb
  have c2_0 := fun (o : Nat) => hc (w1.heap.size) o (by first | (simp; done) | (simp; omega) | omega)
  have f2_0 := fun (o : Nat) => hf (w1.heap.size) o (by first | (simp; done) | (simp; omega) | omega)
  have l2_0 : w1.heap.size < w2.heap.size := (by first | (simp; done) | (simp; omega) | omega)
  clear hb hc hf
  go_wp2_with fail
  refine (Cond_calls _ _ _ _ _ _).mono ?_
  rw [H5.out]
  rintro e w3 ⟨rfl, hb⟩
  have HB3 : Below w.heap.size w w3 := by
    refine Below.trans ?_ (hb.mono (by have := HB2.size; first | (simp; done) | (simp; omega) | omega))
    repeat (first | (with_reducible exact HB2) | (with_reducible exact Below.refl _ _) | (with_reducible refine Below.drew ?_) | (with_reducible refine Below.setCell ?_ (by first | (simp; done) | (simp; omega) | omega) _) | (with_reducible refine Below.alloc ?_ (by first | (simp; done) | (simp; omega) | omega) _))
  have hB3 := HB3.size
  have hs3 := hb.size
  try simp only [World.size_alloc, World.size_drew, World.size_setCell] at hs3
  obtain ⟨hc, hf⟩ := bcell hb
  have c3_0 := fun (o : Nat) => hc (w1.heap.size) o (by first | (simp; done) | (simp; omega) | omega)
  have f3_0 := fun (o : Nat) => hf (w1.heap.size) o (by first | (simp; done) | (simp; omega) | omega)
  have l3_0 : w1.heap.size < w3.heap.size := (by first | (simp; done) | (simp; omega) | omega)
  clear hb hc hf
  go_wp2_with fail
  refine (Cond_calls _ _ _ _ _ _).mono ?_
  rw [H2.out]
  rintro e w4 ⟨rfl, hb⟩
  have HB4 : Below w.heap.size w w4 := by
    refine Below.trans ?_ (hb.mono (by have := HB3.size; first | (simp; done) | (simp; omega) | omega))
    repeat (first | (with_reducible exact HB3) | (with_reducible exact Below.refl _ _) | (with_reducible refine Below.drew ?_) | (with_reducible refine Below.setCell ?_ (by first | (simp; done) | (simp; omega) | omega) _) | (with_reducible refine Below.alloc ?_ (by first | (simp; done) | (simp; omega) | omega) _))
  have hB4 := HB4.size
  have hs4 := hb.size
  try simp only [World.size_alloc, World.size_drew, World.size_setCell] at hs4
  obtain ⟨hc, hf⟩ := bcell hb
  have c4_0 := fun (o : Nat) => hc (w1.heap.size) o (by first | (simp; done) | (simp; omega) | omega)
  have f4_0 := fun (o : Nat) => hf (w1.heap.size) o (by first | (simp; done) | (simp; omega) | omega)
  have l4_0 : w1.heap.size < w4.heap.size := (by first | (simp; done) | (simp; omega) | omega)
  clear hb hc hf
  go_wp2_with fail
  refine (Cond_calls _ _ _ _ _ _).mono ?_
  rw [H3.out]
  rintro e w5 ⟨rfl, hb⟩
  have HB5 : Below w.heap.size w w5 := by
    refine Below.trans ?_ (hb.mono (by have := HB4.size; first | (simp; done) | (simp; omega) | omega))
    repeat (first | (with_reducible exact HB4) | (with_reducible exact Below.refl _ _) | (with_reducible refine Below.drew ?_) | (with_reducible refine Below.setCell ?_ (by first | (simp; done) | (simp; omega) | omega) _) | (with_reducible refine Below.alloc ?_ (by first | (simp; done) | (simp; omega) | omega) _))
  have hB5 := HB5.size
  have hs5 := hb.size
  try simp only [World.size_alloc, World.size_drew, World.size_setCell] at hs5
  obtain ⟨hc, hf⟩ := bcell hb
  have c5_0 := fun (o : Nat) => hc (w1.heap.size) o (by first | (simp; done) | (simp; omega) | omega)
  have f5_0 := fun (o : Nat) => hf (w1.heap.size) o (by first | (simp; done) | (simp; omega) | omega)
  have l5_0 : w1.heap.size < w5.heap.size := (by first | (simp; done) | (simp; omega) | omega)
  clear hb hc hf
  go_wp2_with fail
  refine (Cond_calls _ _ _ _ _ _).mono ?_
  rw [H12.out]
  rintro e w6 ⟨rfl, hb⟩
  have HB6 : Below w.heap.size w w6 := by
    refine Below.trans ?_ (hb.mono (by have := HB5.size; first | (simp; done) | (simp; omega) | omega))
    repeat (first | (with_reducible exact HB5) | (with_reducible exact Below.refl _ _) | (with_reducible refine Below.drew ?_) | (with_reducible refine Below.setCell ?_ (by first | (simp; done) | (simp; omega) | omega) _) | (with_reducible refine Below.alloc ?_ (by first | (simp; done) | (simp; omega) | omega) _))
  have hB6 := HB6.size
  have hs6 := hb.size
  try simp only [World.size_alloc, World.size_drew, World.size_setCell] at hs6
  obtain ⟨hc, hf⟩ := bcell hb
  have c6_0 := fun (o : Nat) => hc (w1.heap.size) o (by first | (simp; done) | (simp; omega) | omega)
  have f6_0 := fun (o : Nat) => hf (w1.heap.size) o (by first | (simp; done) | (simp; omega) | omega)
  have l6_0 : w1.heap.size < w6.heap.size := (by first | (simp; done) | (simp; omega) | omega)
  clear hb hc hf
  go_wp2_with fail
  refine (Cond_calls _ _ _ _ _ _).mono ?_
  rw [H13.out]
  rintro e w7 ⟨rfl, hb⟩
  have HB7 : Below w.heap.size w w7 := by
    refine Below.trans ?_ (hb.mono (by have := HB6.size; first | (simp; done) | (simp; omega) | omega))
    repeat (first | (with_reducible exact HB6) | (with_reducible exact Below.refl _ _) | (with_reducible refine Below.drew ?_) | (with_reducible refine Below.setCell ?_ (by first | (simp; done) | (simp; omega) | omega) _) | (with_reducible refine Below.alloc ?_ (by first | (simp; done) | (simp; omega) | omega) _))
  have hB7 := HB7.size
  have hs7 := hb.size
  try simp only [World.size_alloc, World.size_drew, World.size_setCell] at hs7
  obtain ⟨hc, hf⟩ := bcell hb
  have c7_0 := fun (o : Nat) => hc (w1.heap.size) o (by first | (simp; done) | (simp; omega) | omega)
  have f7_0 := fun (o : Nat) => hf (w1.heap.size) o (by first | (simp; done) | (simp; omega) | omega)
  have l7_0 : w1.heap.size < w7.heap.size := (by first | (simp; done) | (simp; omega) | omega)
  clear hb hc hf
  go_wp2_with fail
  refine (Cond_calls _ _ _ _ _ _).mono ?_
  rw [H8.out]
  rintro e w8 ⟨rfl, hb⟩
  have HB8 : Below w.heap.size w w8 := by
    refine Below.trans ?_ (hb.mono (by have := HB7.size; first | (simp; done) | (simp; omega) | omega))
    repeat (first | (with_reducible exact HB7) | (with_reducible exact Below.refl _ _) | (with_reducible refine Below.drew ?_) | (with_reducible refine Below.setCell ?_ (by first | (simp; done) | (simp; omega) | omega) _) | (with_reducible refine Below.alloc ?_ (by first | (simp; done) | (simp; omega) | omega) _))
  have hB8 := HB8.size
  have hs8 := hb.size
  try simp only [World.size_alloc, World.size_drew, World.size_setCell] at hs8
  obtain ⟨hc, hf⟩ := bcell hb
  have c8_0 := fun (o : Nat) => hc (w1.heap.size) o (by first | (simp; done) | (simp; omega) | omega)
  have f8_0 := fun (o : Nat) => hf (w1.heap.size) o (by first | (simp; done) | (simp; omega) | omega)
  have l8_0 : w1.heap.size < w8.heap.size := (by first | (simp; done) | (simp; omega) | omega)
  clear hb hc hf
  go_wp2_with fail
  refine (Cond_calls _ _ _ _ _ _).mono ?_
  rw [H9.out]
  rintro e w9 ⟨rfl, hb⟩
  have HB9 : Below w.heap.size w w9 := by
    refine Below.trans ?_ (hb.mono (by have := HB8.size; first | (simp; done) | (simp; omega) | omega))
    repeat (first | (with_reducible exact HB8) | (with_reducible exact Below.refl _ _) | (with_reducible refine Below.drew ?_) | (with_reducible refine Below.setCell ?_ (by first | (simp; done) | (simp; omega) | omega) _) | (with_reducible refine Below.alloc ?_ (by first | (simp; done) | (simp; omega) | omega) _))
  have hB9 := HB9.size
  have hs9 := hb.size
  try simp only [World.size_alloc, World.size_drew, World.size_setCell] at hs9
  obtain ⟨hc, hf⟩ := bcell hb
  have c9_0 := fun (o : Nat) => hc (w1.heap.size) o (by first | (simp; done) | (simp; omega) | omega)
  have f9_0 := fun (o : Nat) => hf (w1.heap.size) o (by first | (simp; done) | (simp; omega) | omega)
  have l9_0 : w1.heap.size < w9.heap.size := (by first | (simp; done) | (simp; omega) | omega)
  clear hb hc hf
  go_wp2_with fail
  refine (Cond_calls _ _ _ _ _ _).mono ?_
  rw [H1.out]
  rintro e w10 ⟨rfl, hb⟩
  have HB10 : Below w.heap.size w w10 := by
    refine Below.trans ?_ (hb.mono (by have := HB9.size; first | (simp; done) | (simp; omega) | omega))
    repeat (first | (with_reducible exact HB9) | (with_reducible exact Below.refl _ _) | (with_reducible refine Below.drew ?_) | (with_reducible refine Below.setCell ?_ (by first | (simp; done) | (simp; omega) | omega) _) | (with_reducible refine Below.alloc ?_ (by first | (simp; done) | (simp; omega) | omega) _))
  have hB10 := HB10.size
  have hs10 := hb.size
  try simp only [World.size_alloc, World.size_drew, World.size_setCell] at hs10
  obtain ⟨hc, hf⟩ := bcell hb
  have c10_0 := fun (o : Nat) => hc (w1.heap.size) o (by first | (simp; done) | (simp; omega) | omega)
  have f10_0 := fun (o : Nat) => hf (w1.heap.size) o (by first | (simp; done) | (simp; omega) | omega)
  have l10_0 : w1.heap.size < w10.heap.size := (by first | (simp; done) | (simp; omega) | omega)
  clear hb hc hf
  go_wp2_with fail
  refine (alu_awake _).mono ?_
  rintro e w11 ⟨rfl, hb⟩
  have HB11 : Below w.heap.size w w11 := by
    refine Below.trans ?_ (hb.mono (by have := HB10.size; first | (simp; done) | (simp; omega) | omega))
    repeat (first | (with_reducible exact HB10) | (with_reducible exact Below.refl _ _) | (with_reducible refine Below.drew ?_) | (with_reducible refine Below.setCell ?_ (by first | (simp; done) | (simp; omega) | omega) _) | (with_reducible refine Below.alloc ?_ (by first | (simp; done) | (simp; omega) | omega) _))
  have hB11 := HB11.size
  have hs11 := hb.size
  try simp only [World.size_alloc, World.size_drew, World.size_setCell] at hs11
  obtain ⟨hc, hf⟩ := bcell hb
  have c11_0 := fun (o : Nat) => hc (w1.heap.size) o (by first | (simp; done) | (simp; omega) | omega)
  have f11_0 := fun (o : Nat) => hf (w1.heap.size) o (by first | (simp; done) | (simp; omega) | omega)
  have l11_0 : w1.heap.size < w11.heap.size := (by first | (simp; done) | (simp; omega) | omega)
  clear hb hc hf
  go_wp2
  go_ret
  refine ⟨rfl, ?_⟩
  repeat (first | (with_reducible exact HB11) | (with_reducible exact Below.refl _ _) | (with_reducible refine Below.drew ?_) | (with_reducible refine Below.setCell ?_ (by first | (simp; done) | (simp; omega) | omega) _) | (with_reducible refine Below.alloc ?_ (by first | (simp; done) | (simp; omega) | omega) _))
set_option maxHeartbeats 4000000 in
theorem orders_7 (a b v1 : Int) (z1 s1 c1 o1 : Bool) (w : World) (H0 : Hid (aluR 7 a b false false false false = ⟨v1, z1, s1, c1, o1⟩)) (H4 : Hid (condB 4 z1 s1 c1 o1 = false)) (H5 : Hid (condB 5 z1 s1 c1 o1 = true)) (H2 : Hid (condB 2 z1 s1 c1 o1 = true)) (H3 : Hid (condB 3 z1 s1 c1 o1 = false)) (H12 : Hid (condB 12 z1 s1 c1 o1 = true)) (H13 : Hid (condB 13 z1 s1 c1 o1 = false)) (H8 : Hid (condB 8 z1 s1 c1 o1 = true)) (H9 : Hid (condB 9 z1 s1 c1 o1 = false)) (H1 : Hid (condB 1 z1 s1 c1 o1 = false)) (e1 : (a == b) = false) (e2 : (a != b) = true) (e3 : decide (a < b) = true) (e4 : decide (b ≤ a) = false) (e5 : decide (wrap64 a < wrap64 b) = true) (e6 : decide (wrap64 b ≤ wrap64 a) = false) (e7 : decide (wrap64 (IntKind.u64.wrap (a - b)) < 0) = true) (e8 : decide (0 ≤ wrap64 (IntKind.u64.wrap (a - b))) = false) :
    Calls Try.prog 14 #[.int .u64 a, .int .u64 b] w fun e w' => e = .returned (.bool true) ∧ Below w.heap.size w w' := by
  have hu := Try.underlying44
  have HB0 : Below w.heap.size w w := Below.refl _ _
  go_enter Try.func14, Try.ntmps14
  go_wp2_with fail
  refine (Do_calls _ _ _ _ _ _ _ _).mono ?_
  rw [H0.out]
  rintro e w1 ⟨rfl, hb⟩
  have HB1 : Below w.heap.size w w1 := by
    refine Below.trans ?_ (hb.mono (by have := HB0.size; first | (simp; done) | (simp; omega) | omega))
    repeat (first | (with_reducible exact HB0) | (with_reducible exact Below.refl _ _) | (with_reducible refine Below.drew ?_) | (with_reducible refine Below.setCell ?_ (by first | (simp; done) | (simp; omega) | omega) _) | (with_reducible refine Below.alloc ?_ (by first | (simp; done) | (simp; omega) | omega) _))
  have hB1 := HB1.size
  have hs1 := hb.size
  try simp only [World.size_alloc, World.size_drew, World.size_setCell] at hs1
  obtain ⟨hc, hf⟩ := bcell hb
  clear hb hc hf
  go_wp2_with fail
  refine (Cond_calls _ _ _ _ _ _).mono ?_
  rw [H4.out]
  rintro e w2 ⟨rfl, hb⟩
  have HB2 : Below w.heap.size w w2 := by
    refine Below.trans ?_ (hb.mono (by have := HB1.size; first | (simp; done) | (simp; omega) | omega))
    repeat (first | (with_reducible exact HB1) | (with_reducible exact Below.refl _ _) | (with_reducible refine Below.drew ?_) | (with_reducible refine Below.setCell ?_ (by first | (simp; done) | (simp; omega) | omega) _) | (with_reducible refine Below.alloc ?_ (by first | (simp; done) | (simp; omega) | omega) _))
  have hB2 := HB2.size
  have hs2 := hb.size
  try simp only [World.size_alloc, World.size_drew, World.size_setCell] at hs2
  obtain ⟨hc, hf⟩ := bcell hb
  have c2_0 := fun (o : Nat) => hc (w1.heap.size) o (by first | (simp; done) | (simp; omega) | omega)
  have f2_0 := fun (o : Nat) => hf (w1.heap.size) o (by first | (simp; done) | (simp; omega) | omega)
  have l2_0 : w1.heap.size < w2.heap.size := (by first | (simp; done) | (simp; omega) | omega)
  clear hb hc hf
  go_wp2_with fail
  refine (Cond_calls _ _ _ _ _ _).mono ?_
  rw [H5.out]
  rintro e w3 ⟨rfl, hb⟩
  have HB3 : Below w.heap.size w w3 := by
    refine Below.trans ?_ (hb.mono (by have := HB2.size; first | (simp; done) | (simp; omega) | omega))
    repeat (first | (with_reducible exact HB2) | (with_reducible exact Below.refl _ _) | (with_reducible refine Below.drew ?_) | (with_reducible refine Below.setCell ?_ (by first | (simp; done) | (simp; omega) | omega) _) | (with_reducible refine Below.alloc ?_ (by first | (simp; done) | (simp; omega) | omega) _))
  have hB3 := HB3.size
  have hs3 := hb.size
  try simp only [World.size_alloc, World.size_drew, World.size_setCell] at hs3
  obtain ⟨hc, hf⟩ := bcell hb
  have c3_0 := fun (o : Nat) => hc (w1.heap.size) o (by first | (simp; done) | (simp; omega) | omega)
  have f3_0 := fun (o : Nat) => hf (w1.heap.size) o (by first | (simp; done) | (simp; omega) | omega)
  have l3_0 : w1.heap.size < w3.heap.size := (by first | (simp; done) | (simp; omega) | omega)
  clear hb hc hf
  go_wp2_with fail
  refine (Cond_calls _ _ _ _ _ _).mono ?_
  rw [H2.out]
  rintro e w4 ⟨rfl, hb⟩
  have HB4 : Below w.heap.size w w4 := by
    refine Below.trans ?_ (hb.mono (by have := HB3.size; first | (simp; done) | (simp; omega) | omega))
    repeat (first | (with_reducible exact HB3) | (with_reducible exact Below.refl _ _) | (with_reducible refine Below.drew ?_) | (with_reducible refine Below.setCell ?_ (by first | (simp; done) | (simp; omega) | omega) _) | (with_reducible refine Below.alloc ?_ (by first | (simp; done) | (simp; omega) | omega) _))
  have hB4 := HB4.size
  have hs4 := hb.size
  try simp only [World.size_alloc, World.size_drew, World.size_setCell] at hs4
  obtain ⟨hc, hf⟩ := bcell hb
  have c4_0 := fun (o : Nat) => hc (w1.heap.size) o (by first | (simp; done) | (simp; omega) | omega)
  have f4_0 := fun (o : Nat) => hf (w1.heap.size) o (by first | (simp; done) | (simp; omega) | omega)
  have l4_0 : w1.heap.size < w4.heap.size := (by first | (simp; done) | (simp; omega) | omega)
  clear hb hc hf
  go_wp2_with fail
  refine (Cond_calls _ _ _ _ _ _).mono ?_
  rw [H3.out]
  rintro e w5 ⟨rfl, hb⟩
  have HB5 : Below w.heap.size w w5 := by
    refine Below.trans ?_ (hb.mono (by have := HB4.size; first | (simp; done) | (simp; omega) | omega))
    repeat (first | (with_reducible exact HB4) | (with_reducible exact Below.refl _ _) | (with_reducible refine Below.drew ?_) | (with_reducible refine Below.setCell ?_ (by first | (simp; done) | (simp; omega) | omega) _) | (with_reducible refine Below.alloc ?_ (by first | (simp; done) | (simp; omega) | omega) _))
  have hB5 := HB5.size
  have hs5 := hb.size
  try simp only [World.size_alloc, World.size_drew, World.size_setCell] at hs5
  obtain ⟨hc, hf⟩ := bcell hb
  have c5_0 := fun (o : Nat) => hc (w1.heap.size) o (by first | (simp; done) | (simp; omega) | omega)
  have f5_0 := fun (o : Nat) => hf (w1.heap.size) o (by first | (simp; done) | (simp; omega) | omega)
  have l5_0 : w1.heap.size < w5.heap.size := (by first | (simp; done) | (simp; omega) | omega)
  clear hb hc hf
  go_wp2_with fail
  refine (Cond_calls _ _ _ _ _ _).mono ?_
  rw [H12.out]
  rintro e w6 ⟨rfl, hb⟩
  have HB6 : Below w.heap.size w w6 := by
    refine Below.trans ?_ (hb.mono (by have := HB5.size; first | (simp; done) | (simp; omega) | omega))
    repeat (first | (with_reducible exact HB5) | (with_reducible exact Below.refl _ _) | (with_reducible refine Below.drew ?_) | (with_reducible refine Below.setCell ?_ (by first | (simp; done) | (simp; omega) | omega) _) | (with_reducible refine Below.alloc ?_ (by first | (simp; done) | (simp; omega) | omega) _))
  have hB6 := HB6.size
  have hs6 := hb.size
  try simp only [World.size_alloc, World.size_drew, World.size_setCell] at hs6
  obtain ⟨hc, hf⟩ := bcell hb
  have c6_0 := fun (o : Nat) => hc (w1.heap.size) o (by first | (simp; done) | (simp; omega) | omega)
  have f6_0 := fun (o : Nat) => hf (w1.heap.size) o (by first | (simp; done) | (simp; omega) | omega)
  have l6_0 : w1.heap.size < w6.heap.size := (by first | (simp; done) | (simp; omega) | omega)
  clear hb hc hf
  go_wp2_with fail
  refine (Cond_calls _ _ _ _ _ _).mono ?_
  rw [H13.out]
  rintro e w7 ⟨rfl, hb⟩
  have HB7 : Below w.heap.size w w7 := by
    refine Below.trans ?_ (hb.mono (by have := HB6.size; first | (simp; done) | (simp; omega) | omega))
    repeat (first | (with_reducible exact HB6) | (with_reducible exact Below.refl _ _) | (with_reducible refine Below.drew ?_) | (with_reducible refine Below.setCell ?_ (by first | (simp; done) | (simp; omega) | omega) _) | (with_reducible refine Below.alloc ?_ (by first | (simp; done) | (simp; omega) | omega) _))
  have hB7 := HB7.size
  have hs7 := hb.size
  try simp only [World.size_alloc, World.size_drew, World.size_setCell] at hs7
  obtain ⟨hc, hf⟩ := bcell hb
  have c7_0 := fun (o : Nat) => hc (w1.heap.size) o (by first | (simp; done) | (simp; omega) | omega)
  have f7_0 := fun (o : Nat) => hf (w1.heap.size) o (by first | (simp; done) | (simp; omega) | omega)
  have l7_0 : w1.heap.size < w7.heap.size := (by first | (simp; done) | (simp; omega) | omega)
  clear hb hc hf
  go_wp2_with fail
  refine (Cond_calls _ _ _ _ _ _).mono ?_
  rw [H8.out]
  rintro e w8 ⟨rfl, hb⟩
  have HB8 : Below w.heap.size w w8 := by
    refine Below.trans ?_ (hb.mono (by have := HB7.size; first | (simp; done) | (simp; omega) | omega))
    repeat (first | (with_reducible exact HB7) | (with_reducible exact Below.refl _ _) | (with_reducible refine Below.drew ?_) | (with_reducible refine Below.setCell ?_ (by first | (simp; done) | (simp; omega) | omega) _) | (with_reducible refine Below.alloc ?_ (by first | (simp; done) | (simp; omega) | omega) _))
  have hB8 := HB8.size
  have hs8 := hb.size
  try simp only [World.size_alloc, World.size_drew, World.size_setCell] at hs8
  obtain ⟨hc, hf⟩ := bcell hb
  have c8_0 := fun (o : Nat) => hc (w1.heap.size) o (by first | (simp; done) | (simp; omega) | omega)
  have f8_0 := fun (o : Nat) => hf (w1.heap.size) o (by first | (simp; done) | (simp; omega) | omega)
  have l8_0 : w1.heap.size < w8.heap.size := (by first | (simp; done) | (simp; omega) | omega)
  clear hb hc hf
  go_wp2_with fail
  refine (Cond_calls _ _ _ _ _ _).mono ?_
  rw [H9.out]
  rintro e w9 ⟨rfl, hb⟩
  have HB9 : Below w.heap.size w w9 := by
    refine Below.trans ?_ (hb.mono (by have := HB8.size; first | (simp; done) | (simp; omega) | omega))
    repeat (first | (with_reducible exact HB8) | (with_reducible exact Below.refl _ _) | (with_reducible refine Below.drew ?_) | (with_reducible refine Below.setCell ?_ (by first | (simp; done) | (simp; omega) | omega) _) | (with_reducible refine Below.alloc ?_ (by first | (simp; done) | (simp; omega) | omega) _))
  have hB9 := HB9.size
  have hs9 := hb.size
  try simp only [World.size_alloc, World.size_drew, World.size_setCell] at hs9
  obtain ⟨hc, hf⟩ := bcell hb
  have c9_0 := fun (o : Nat) => hc (w1.heap.size) o (by first | (simp; done) | (simp; omega) | omega)
  have f9_0 := fun (o : Nat) => hf (w1.heap.size) o (by first | (simp; done) | (simp; omega) | omega)
  have l9_0 : w1.heap.size < w9.heap.size := (by first | (simp; done) | (simp; omega) | omega)
  clear hb hc hf
  go_wp2_with fail
  refine (Cond_calls _ _ _ _ _ _).mono ?_
  rw [H1.out]
  rintro e w10 ⟨rfl, hb⟩
  have HB10 : Below w.heap.size w w10 := by
    refine Below.trans ?_ (hb.mono (by have := HB9.size; first | (simp; done) | (simp; omega) | omega))
    repeat (first | (with_reducible exact HB9) | (with_reducible exact Below.refl _ _) | (with_reducible refine Below.drew ?_) | (with_reducible refine Below.setCell ?_ (by first | (simp; done) | (simp; omega) | omega) _) | (with_reducible refine Below.alloc ?_ (by first | (simp; done) | (simp; omega) | omega) _))
  have hB10 := HB10.size
  have hs10 := hb.size
  try simp only [World.size_alloc, World.size_drew, World.size_setCell] at hs10
  obtain ⟨hc, hf⟩ := bcell hb
  have c10_0 := fun (o : Nat) => hc (w1.heap.size) o (by first | (simp; done) | (simp; omega) | omega)
  have f10_0 := fun (o : Nat) => hf (w1.heap.size) o (by first | (simp; done) | (simp; omega) | omega)
  have l10_0 : w1.heap.size < w10.heap.size := (by first | (simp; done) | (simp; omega) | omega)
  clear hb hc hf
  go_wp2_with fail
  refine (alu_awake _).mono ?_
  rintro e w11 ⟨rfl, hb⟩
  have HB11 : Below w.heap.size w w11 := by
    refine Below.trans ?_ (hb.mono (by have := HB10.size; first | (simp; done) | (simp; omega) | omega))
    repeat (first | (with_reducible exact HB10) | (with_reducible exact Below.refl _ _) | (with_reducible refine Below.drew ?_) | (with_reducible refine Below.setCell ?_ (by first | (simp; done) | (simp; omega) | omega) _) | (with_reducible refine Below.alloc ?_ (by first | (simp; done) | (simp; omega) | omega) _))
  have hB11 := HB11.size
  have hs11 := hb.size
  try simp only [World.size_alloc, World.size_drew, World.size_setCell] at hs11
  obtain ⟨hc, hf⟩ := bcell hb
  have c11_0 := fun (o : Nat) => hc (w1.heap.size) o (by first | (simp; done) | (simp; omega) | omega)
  have f11_0 := fun (o : Nat) => hf (w1.heap.size) o (by first | (simp; done) | (simp; omega) | omega)
  have l11_0 : w1.heap.size < w11.heap.size := (by first | (simp; done) | (simp; omega) | omega)
  clear hb hc hf
  go_wp2
  go_ret
  refine ⟨rfl, ?_⟩
  repeat (first | (with_reducible exact HB11) | (with_reducible exact Below.refl _ _) | (with_reducible refine Below.drew ?_) | (with_reducible refine Below.setCell ?_ (by first | (simp; done) | (simp; omega) | omega) _) | (with_reducible refine Below.alloc ?_ (by first | (simp; done) | (simp; omega) | omega) _))
set_option maxHeartbeats 4000000 in
theorem orders_8 (a b v1 : Int) (z1 s1 c1 o1 : Bool) (w : World) (H0 : Hid (aluR 7 a b false false false false = ⟨v1, z1, s1, c1, o1⟩)) (H4 : Hid (condB 4 z1 s1 c1 o1 = true)) (H5 : Hid (condB 5 z1 s1 c1 o1 = false)) (H2 : Hid (condB 2 z1 s1 c1 o1 = false)) (H3 : Hid (condB 3 z1 s1 c1 o1 = true)) (H12 : Hid (condB 12 z1 s1 c1 o1 = false)) (H13 : Hid (condB 13 z1 s1 c1 o1 = true)) (H8 : Hid (condB 8 z1 s1 c1 o1 = false)) (H9 : Hid (condB 9 z1 s1 c1 o1 = true)) (H1 : Hid (condB 1 z1 s1 c1 o1 = false)) (e1 : (a == b) = true) (e2 : (a != b) = false) (e3 : decide (a < b) = false) (e4 : decide (b ≤ a) = true) (e5 : decide (wrap64 a < wrap64 b) = false) (e6 : decide (wrap64 b ≤ wrap64 a) = true) (e7 : decide (wrap64 (IntKind.u64.wrap (a - b)) < 0) = false) (e8 : decide (0 ≤ wrap64 (IntKind.u64.wrap (a - b))) = true) :
    Calls Try.prog 14 #[.int .u64 a, .int .u64 b] w fun e w' => e = .returned (.bool true) ∧ Below w.heap.size w w' := by
  have hu := Try.underlying44
  have HB0 : Below w.heap.size w w := Below.refl _ _
  go_enter Try.func14, Try.ntmps14
  go_wp2_with fail
  refine (Do_calls _ _ _ _ _ _ _ _).mono ?_
  rw [H0.out]
  rintro e w1 ⟨rfl, hb⟩
  have HB1 : Below w.heap.size w w1 := by
    refine Below.trans ?_ (hb.mono (by have := HB0.size; first | (simp; done) | (simp; omega) | omega))
    repeat (first | (with_reducible exact HB0) | (with_reducible exact Below.refl _ _) | (with_reducible refine Below.drew ?_) | (with_reducible refine Below.setCell ?_ (by first | (simp; done) | (simp; omega) | omega) _) | (with_reducible refine Below.alloc ?_ (by first | (simp; done) | (simp; omega) | omega) _))
  have hB1 := HB1.size
  have hs1 := hb.size
  try simp only [World.size_alloc, World.size_drew, World.size_setCell] at hs1
  obtain ⟨hc, hf⟩ := bcell hb
  clear hb hc hf
  go_wp2_with fail
  refine (Cond_calls _ _ _ _ _ _).mono ?_
  rw [H4.out]
  rintro e w2 ⟨rfl, hb⟩
  have HB2 : Below w.heap.size w w2 := by
    refine Below.trans ?_ (hb.mono (by have := HB1.size; first | (simp; done) | (simp; omega) | omega))
    repeat (first | (with_reducible exact HB1) | (with_reducible exact Below.refl _ _) | (with_reducible refine Below.drew ?_) | (with_reducible refine Below.setCell ?_ (by first | (simp; done) | (simp; omega) | omega) _) | (with_reducible refine Below.alloc ?_ (by first | (simp; done) | (simp; omega) | omega) _))
  have hB2 := HB2.size
  have hs2 := hb.size
  try simp only [World.size_alloc, World.size_drew, World.size_setCell] at hs2
  obtain ⟨hc, hf⟩ := bcell hb
  have c2_0 := fun (o : Nat) => hc (w1.heap.size) o (by first | (simp; done) | (simp; omega) | omega)
  have f2_0 := fun (o : Nat) => hf (w1.heap.size) o (by first | (simp; done) | (simp; omega) | omega)
  have l2_0 : w1.heap.size < w2.heap.size := (by first | (simp; done) | (simp; omega) | omega)
  clear hb hc hf
  go_wp2_with fail
  refine (Cond_calls _ _ _ _ _ _).mono ?_
  rw [H5.out]
  rintro e w3 ⟨rfl, hb⟩
  have HB3 : Below w.heap.size w w3 := by
    refine Below.trans ?_ (hb.mono (by have := HB2.size; first | (simp; done) | (simp; omega) | omega))
    repeat (first | (with_reducible exact HB2) | (with_reducible exact Below.refl _ _) | (with_reducible refine Below.drew ?_) | (with_reducible refine Below.setCell ?_ (by first | (simp; done) | (simp; omega) | omega) _) | (with_reducible refine Below.alloc ?_ (by first | (simp; done) | (simp; omega) | omega) _))
  have hB3 := HB3.size
  have hs3 := hb.size
  try simp only [World.size_alloc, World.size_drew, World.size_setCell] at hs3
  obtain ⟨hc, hf⟩ := bcell hb
  have c3_0 := fun (o : Nat) => hc (w1.heap.size) o (by first | (simp; done) | (simp; omega) | omega)
  have f3_0 := fun (o : Nat) => hf (w1.heap.size) o (by first | (simp; done) | (simp; omega) | omega)
  have l3_0 : w1.heap.size < w3.heap.size := (by first | (simp; done) | (simp; omega) | omega)
  clear hb hc hf
  go_wp2_with fail
  refine (Cond_calls _ _ _ _ _ _).mono ?_
  rw [H2.out]
  rintro e w4 ⟨rfl, hb⟩
  have HB4 : Below w.heap.size w w4 := by
    refine Below.trans ?_ (hb.mono (by have := HB3.size; first | (simp; done) | (simp; omega) | omega))
    repeat (first | (with_reducible exact HB3) | (with_reducible exact Below.refl _ _) | (with_reducible refine Below.drew ?_) | (with_reducible refine Below.setCell ?_ (by first | (simp; done) | (simp; omega) | omega) _) | (with_reducible refine Below.alloc ?_ (by first | (simp; done) | (simp; omega) | omega) _))
  have hB4 := HB4.size
  have hs4 := hb.size
  try simp only [World.size_alloc, World.size_drew, World.size_setCell] at hs4
  obtain ⟨hc, hf⟩ := bcell hb
  have c4_0 := fun (o : Nat) => hc (w1.heap.size) o (by first | (simp; done) | (simp; omega) | omega)
  have f4_0 := fun (o : Nat) => hf (w1.heap.size) o (by first | (simp; done) | (simp; omega) | omega)
  have l4_0 : w1.heap.size < w4.heap.size := (by first | (simp; done) | (simp; omega) | omega)
  clear hb hc hf
  go_wp2_with fail
  refine (Cond_calls _ _ _ _ _ _).mono ?_
  rw [H3.out]
  rintro e w5 ⟨rfl, hb⟩
  have HB5 : Below w.heap.size w w5 := by
    refine Below.trans ?_ (hb.mono (by have := HB4.size; first | (simp; done) | (simp; omega) | omega))
    repeat (first | (with_reducible exact HB4) | (with_reducible exact Below.refl _ _) | (with_reducible refine Below.drew ?_) | (with_reducible refine Below.setCell ?_ (by first | (simp; done) | (simp; omega) | omega) _) | (with_reducible refine Below.alloc ?_ (by first | (simp; done) | (simp; omega) | omega) _))
  have hB5 := HB5.size
  have hs5 := hb.size
  try simp only [World.size_alloc, World.size_drew, World.size_setCell] at hs5
  obtain ⟨hc, hf⟩ := bcell hb
  have c5_0 := fun (o : Nat) => hc (w1.heap.size) o (by first | (simp; done) | (simp; omega) | omega)
  have f5_0 := fun (o : Nat) => hf (w1.heap.size) o (by first | (simp; done) | (simp; omega) | omega)
  have l5_0 : w1.heap.size < w5.heap.size := (by first | (simp; done) | (simp; omega) | omega)
  clear hb hc hf
  go_wp2_with fail
  refine (Cond_calls _ _ _ _ _ _).mono ?_
  rw [H12.out]
  rintro e w6 ⟨rfl, hb⟩
  have HB6 : Below w.heap.size w w6 := by
    refine Below.trans ?_ (hb.mono (by have := HB5.size; first | (simp; done) | (simp; omega) | omega))
    repeat (first | (with_reducible exact HB5) | (with_reducible exact Below.refl _ _) | (with_reducible refine Below.drew ?_) | (with_reducible refine Below.setCell ?_ (by first | (simp; done) | (simp; omega) | omega) _) | (with_reducible refine Below.alloc ?_ (by first | (simp; done) | (simp; omega) | omega) _))
  have hB6 := HB6.size
  have hs6 := hb.size
  try simp only [World.size_alloc, World.size_drew, World.size_setCell] at hs6
  obtain ⟨hc, hf⟩ := bcell hb
  have c6_0 := fun (o : Nat) => hc (w1.heap.size) o (by first | (simp; done) | (simp; omega) | omega)
  have f6_0 := fun (o : Nat) => hf (w1.heap.size) o (by first | (simp; done) | (simp; omega) | omega)
  have l6_0 : w1.heap.size < w6.heap.size := (by first | (simp; done) | (simp; omega) | omega)
  clear hb hc hf
  go_wp2_with fail
  refine (Cond_calls _ _ _ _ _ _).mono ?_
  rw [H13.out]
  rintro e w7 ⟨rfl, hb⟩
  have HB7 : Below w.heap.size w w7 := by
    refine Below.trans ?_ (hb.mono (by have := HB6.size; first | (simp; done) | (simp; omega) | omega))
    repeat (first | (with_reducible exact HB6) | (with_reducible exact Below.refl _ _) | (with_reducible refine Below.drew ?_) | (with_reducible refine Below.setCell ?_ (by first | (simp; done) | (simp; omega) | omega) _) | (with_reducible refine Below.alloc ?_ (by first | (simp; done) | (simp; omega) | omega) _))
  have hB7 := HB7.size
  have hs7 := hb.size
  try simp only [World.size_alloc, World.size_drew, World.size_setCell] at hs7
  obtain ⟨hc, hf⟩ := bcell hb
  have c7_0 := fun (o : Nat) => hc (w1.heap.size) o (by first | (simp; done) | (simp; omega) | omega)
  have f7_0 := fun (o : Nat) => hf (w1.heap.size) o (by first | (simp; done) | (simp; omega) | omega)
  have l7_0 : w1.heap.size < w7.heap.size := (by first | (simp; done) | (simp; omega) | omega)
  clear hb hc hf
  go_wp2_with fail
  refine (Cond_calls _ _ _ _ _ _).mono ?_
  rw [H8.out]
  rintro e w8 ⟨rfl, hb⟩
  have HB8 : Below w.heap.size w w8 := by
    refine Below.trans ?_ (hb.mono (by have := HB7.size; first | (simp; done) | (simp; omega) | omega))
    repeat (first | (with_reducible exact HB7) | (with_reducible exact Below.refl _ _) | (with_reducible refine Below.drew ?_) | (with_reducible refine Below.setCell ?_ (by first | (simp; done) | (simp; omega) | omega) _) | (with_reducible refine Below.alloc ?_ (by first | (simp; done) | (simp; omega) | omega) _))
  have hB8 := HB8.size
  have hs8 := hb.size
  try simp only [World.size_alloc, World.size_drew, World.size_setCell] at hs8
  obtain ⟨hc, hf⟩ := bcell hb
  have c8_0 := fun (o : Nat) => hc (w1.heap.size) o (by first | (simp; done) | (simp; omega) | omega)
  have f8_0 := fun (o : Nat) => hf (w1.heap.size) o (by first | (simp; done) | (simp; omega) | omega)
  have l8_0 : w1.heap.size < w8.heap.size := (by first | (simp; done) | (simp; omega) | omega)
  clear hb hc hf
  go_wp2_with fail
  refine (Cond_calls _ _ _ _ _ _).mono ?_
  rw [H9.out]
  rintro e w9 ⟨rfl, hb⟩
  have HB9 : Below w.heap.size w w9 := by
    refine Below.trans ?_ (hb.mono (by have := HB8.size; first | (simp; done) | (simp; omega) | omega))
    repeat (first | (with_reducible exact HB8) | (with_reducible exact Below.refl _ _) | (with_reducible refine Below.drew ?_) | (with_reducible refine Below.setCell ?_ (by first | (simp; done) | (simp; omega) | omega) _) | (with_reducible refine Below.alloc ?_ (by first | (simp; done) | (simp; omega) | omega) _))
  have hB9 := HB9.size
  have hs9 := hb.size
  try simp only [World.size_alloc, World.size_drew, World.size_setCell] at hs9
  obtain ⟨hc, hf⟩ := bcell hb
  have c9_0 := fun (o : Nat) => hc (w1.heap.size) o (by first | (simp; done) | (simp; omega) | omega)
  have f9_0 := fun (o : Nat) => hf (w1.heap.size) o (by first | (simp; done) | (simp; omega) | omega)
  have l9_0 : w1.heap.size < w9.heap.size := (by first | (simp; done) | (simp; omega) | omega)
  clear hb hc hf
  go_wp2_with fail
  refine (Cond_calls _ _ _ _ _ _).mono ?_
  rw [H1.out]
  rintro e w10 ⟨rfl, hb⟩
  have HB10 : Below w.heap.size w w10 := by
    refine Below.trans ?_ (hb.mono (by have := HB9.size; first | (simp; done) | (simp; omega) | omega))
    repeat (first | (with_reducible exact HB9) | (with_reducible exact Below.refl _ _) | (with_reducible refine Below.drew ?_) | (with_reducible refine Below.setCell ?_ (by first | (simp; done) | (simp; omega) | omega) _) | (with_reducible refine Below.alloc ?_ (by first | (simp; done) | (simp; omega) | omega) _))
  have hB10 := HB10.size
  have hs10 := hb.size
  try simp only [World.size_alloc, World.size_drew, World.size_setCell] at hs10
  obtain ⟨hc, hf⟩ := bcell hb
  have c10_0 := fun (o : Nat) => hc (w1.heap.size) o (by first | (simp; done) | (simp; omega) | omega)
  have f10_0 := fun (o : Nat) => hf (w1.heap.size) o (by first | (simp; done) | (simp; omega) | omega)
  have l10_0 : w1.heap.size < w10.heap.size := (by first | (simp; done) | (simp; omega) | omega)
  clear hb hc hf
  go_wp2_with fail
  refine (alu_awake _).mono ?_
  rintro e w11 ⟨rfl, hb⟩
  have HB11 : Below w.heap.size w w11 := by
    refine Below.trans ?_ (hb.mono (by have := HB10.size; first | (simp; done) | (simp; omega) | omega))
    repeat (first | (with_reducible exact HB10) | (with_reducible exact Below.refl _ _) | (with_reducible refine Below.drew ?_) | (with_reducible refine Below.setCell ?_ (by first | (simp; done) | (simp; omega) | omega) _) | (with_reducible refine Below.alloc ?_ (by first | (simp; done) | (simp; omega) | omega) _))
  have hB11 := HB11.size
  have hs11 := hb.size
  try simp only [World.size_alloc, World.size_drew, World.size_setCell] at hs11
  obtain ⟨hc, hf⟩ := bcell hb
  have c11_0 := fun (o : Nat) => hc (w1.heap.size) o (by first | (simp; done) | (simp; omega) | omega)
  have f11_0 := fun (o : Nat) => hf (w1.heap.size) o (by first | (simp; done) | (simp; omega) | omega)
  have l11_0 : w1.heap.size < w11.heap.size := (by first | (simp; done) | (simp; omega) | omega)
  clear hb hc hf
  go_wp2
  go_ret
  refine ⟨rfl, ?_⟩
  repeat (first | (with_reducible exact HB11) | (with_reducible exact Below.refl _ _) | (with_reducible refine Below.drew ?_) | (with_reducible refine Below.setCell ?_ (by first | (simp; done) | (simp; omega) | omega) _) | (with_reducible refine Below.alloc ?_ (by first | (simp; done) | (simp; omega) | omega) _))

end Go.Proofs.Ytcmpcejbephaeaa
