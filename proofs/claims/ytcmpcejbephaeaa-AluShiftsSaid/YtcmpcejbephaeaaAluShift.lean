/- The walk of the law AluShifts. -/
import Derived.Test.YtcmpcejbephaeaaAluLaws
import Derived.Deep.LoopGhost
namespace Go.Proofs.Ytcmpcejbephaeaa
open Go.RowKit
set_option linter.unusedVariables false
set_option linter.unusedSimpArgs false
attribute [local go_sem ↓] cell_set_isSome
set_option maxHeartbeats 4000000 in
theorem shifts_zero (a b : Int) (z s c o : Bool) (w : World) (H1 : Hid (aluR 9 a b z s c o = ⟨a, z, s, c, o⟩)) (H2 : Hid (aluR 10 a b z s c o = ⟨a, z, s, c, o⟩)) (hn : bits .and .u64 b 63 = 0) :
    Calls Try.prog 9 #[.int .u64 a, .int .u64 b, .agg #[.bool z, .bool s, .bool c, .bool o]] w fun e w' => e = .returned (.bool true) ∧ Below w.heap.size w w' := by
  have hu := Try.underlying44
  have HB0 : Below w.heap.size w w := Below.refl _ _
  go_enter Try.func9, Try.ntmps9
  go_wp2_with fail
  refine (Do_calls _ _ _ _ _ _ _ _).mono ?_
  rw [H1.out]
  rintro e w1 ⟨rfl, hb⟩
  have HB1 : Below w.heap.size w w1 := by
    refine Below.trans ?_ (hb.mono (by have := HB0.size; first | (simp; done) | (simp; omega) | omega))
    repeat (first | (with_reducible exact HB0) | (with_reducible exact Below.refl _ _) | (with_reducible refine Below.drew ?_) | (with_reducible refine Below.setCell ?_ (by first | (simp; done) | (simp; omega) | omega) _) | (with_reducible refine Below.alloc ?_ (by first | (simp; done) | (simp; omega) | omega) _))
  have hB1 := HB1.size
  have hs1 := hb.size
  try simp only [World.size_alloc, World.size_drew, World.size_setCell] at hs1
  obtain ⟨hc, hf⟩ := bcell hb
  have c1_0 := fun (o : Nat) => hc (w.heap.size) o (by first | (simp; done) | (simp; omega) | omega)
  have f1_0 := fun (o : Nat) => hf (w.heap.size) o (by first | (simp; done) | (simp; omega) | omega)
  have l1_0 : w.heap.size < w1.heap.size := (by first | (simp; done) | (simp; omega) | omega)
  clear hb hc hf
  go_wp2_with fail
  refine (Do_calls _ _ _ _ _ _ _ _).mono ?_
  rw [H2.out]
  rintro e w2 ⟨rfl, hb⟩
  have HB2 : Below w.heap.size w w2 := by
    refine Below.trans ?_ (hb.mono (by have := HB1.size; first | (simp; done) | (simp; omega) | omega))
    repeat (first | (with_reducible exact HB1) | (with_reducible exact Below.refl _ _) | (with_reducible refine Below.drew ?_) | (with_reducible refine Below.setCell ?_ (by first | (simp; done) | (simp; omega) | omega) _) | (with_reducible refine Below.alloc ?_ (by first | (simp; done) | (simp; omega) | omega) _))
  have hB2 := HB2.size
  have hs2 := hb.size
  try simp only [World.size_alloc, World.size_drew, World.size_setCell] at hs2
  obtain ⟨hc, hf⟩ := bcell hb
  have c2_0 := fun (o : Nat) => hc (w.heap.size) o (by first | (simp; done) | (simp; omega) | omega)
  have f2_0 := fun (o : Nat) => hf (w.heap.size) o (by first | (simp; done) | (simp; omega) | omega)
  have l2_0 : w.heap.size < w2.heap.size := (by first | (simp; done) | (simp; omega) | omega)
  have c2_1 := fun (o : Nat) => hc (w1.heap.size) o (by first | (simp; done) | (simp; omega) | omega)
  have f2_1 := fun (o : Nat) => hf (w1.heap.size) o (by first | (simp; done) | (simp; omega) | omega)
  have l2_1 : w1.heap.size < w2.heap.size := (by first | (simp; done) | (simp; omega) | omega)
  clear hb hc hf
  go_wp2
  go_region
  go_wp2
  go_loop [15] (fun v => v = .int .u64 0) (fun _ => 0)
  case atStart => rfl
  case round =>
  obtain rfl := hrel
  go_wp2_with fail
  refine (alu_awake _).mono ?_
  rintro e w3 ⟨rfl, hb⟩
  have HB3 : Below w.heap.size w w3 := by
    refine Below.trans ?_ (hb.mono (by have := HB2.size; first | (simp; done) | (simp; omega) | omega))
    repeat (first | (with_reducible exact HB2) | (with_reducible exact Below.refl _ _) | (with_reducible refine Below.drew ?_) | (with_reducible refine Below.setCell ?_ (by first | (simp; done) | (simp; omega) | omega) _) | (with_reducible refine Below.alloc ?_ (by first | (simp; done) | (simp; omega) | omega) _))
  have hB3 := HB3.size
  have hs3 := hb.size
  try simp only [World.size_alloc, World.size_drew, World.size_setCell] at hs3
  obtain ⟨hc, hf⟩ := bcell hb
  have c3_0 := fun (o : Nat) => hc (w.heap.size) o (by first | (simp; done) | (simp; omega) | omega)
  have f3_0 := fun (o : Nat) => hf (w.heap.size) o (by first | (simp; done) | (simp; omega) | omega)
  have l3_0 : w.heap.size < w3.heap.size := (by first | (simp; done) | (simp; omega) | omega)
  have c3_1 := fun (o : Nat) => hc (w1.heap.size) o (by first | (simp; done) | (simp; omega) | omega)
  have f3_1 := fun (o : Nat) => hf (w1.heap.size) o (by first | (simp; done) | (simp; omega) | omega)
  have l3_1 : w1.heap.size < w3.heap.size := (by first | (simp; done) | (simp; omega) | omega)
  have c3_2 := fun (o : Nat) => hc (w2.heap.size) o (by first | (simp; done) | (simp; omega) | omega)
  have f3_2 := fun (o : Nat) => hf (w2.heap.size) o (by first | (simp; done) | (simp; omega) | omega)
  have l3_2 : w2.heap.size < w3.heap.size := (by first | (simp; done) | (simp; omega) | omega)
  clear hb hc hf
  go_wp2
  go_ret
  refine ⟨rfl, ?_⟩
  repeat (first | (with_reducible exact HB3) | (with_reducible exact Below.refl _ _) | (with_reducible refine Below.drew ?_) | (with_reducible refine Below.setCell ?_ (by first | (simp; done) | (simp; omega) | omega) _) | (with_reducible refine Below.alloc ?_ (by first | (simp; done) | (simp; omega) | omega) _))
set_option maxHeartbeats 4000000 in
theorem shifts_pos (a b : Int) (z s c o Z1 Z2 S1 S2 : Bool) (w : World) (m : Nat) (X Y : Nat → Int) (C D : Nat → Bool)
    (H1 : Hid (aluR 9 a b z s c o = ⟨X m, Z1, S1, C m, false⟩)) (H2 : Hid (aluR 10 a b z s c o = ⟨Y m, Z2, S2, D m, false⟩)) (hn : bits .and .u64 b 63 = (m : Int)) (hm : 0 < m) (hm' : m ≤ 63)
    (X0 : Hid (X 0 = a)) (Y0 : Hid (Y 0 = a)) (C0 : Hid (C 0 = c)) (D0 : Hid (D 0 = c))
    (XS : Hid (∀ k, IntKind.u64.wrap (X k + X k) = X (k + 1))) (YS : Hid (∀ k, IntKind.u64.wrap ((Y k).tdiv 2) = Y (k + 1))) (CS : Hid (∀ k, (X k / 9223372036854775808 == 1) = C (k + 1))) (DS : Hid (∀ k, (bits .and .u64 (Y k) 1 == 1) = D (k + 1)))
    (e1 : (X m == 0) = Z1) (e2 : (X m / 9223372036854775808 == 1) = S1) (e3 : (Y m == 0) = Z2) (e4 : (Y m / 9223372036854775808 == 1) = S2) :
    Calls Try.prog 9 #[.int .u64 a, .int .u64 b, .agg #[.bool z, .bool s, .bool c, .bool o]] w fun e w' => e = .returned (.bool true) ∧ Below w.heap.size w w' := by
  have hu := Try.underlying44
  have HB0 : Below w.heap.size w w := Below.refl _ _
  go_enter Try.func9, Try.ntmps9
  go_wp2_with fail
  refine (Do_calls _ _ _ _ _ _ _ _).mono ?_
  rw [H1.out]
  rintro e w1 ⟨rfl, hb⟩
  have HB1 : Below w.heap.size w w1 := by
    refine Below.trans ?_ (hb.mono (by have := HB0.size; first | (simp; done) | (simp; omega) | omega))
    repeat (first | (with_reducible exact HB0) | (with_reducible exact Below.refl _ _) | (with_reducible refine Below.drew ?_) | (with_reducible refine Below.setCell ?_ (by first | (simp; done) | (simp; omega) | omega) _) | (with_reducible refine Below.alloc ?_ (by first | (simp; done) | (simp; omega) | omega) _))
  have hB1 := HB1.size
  have hs1 := hb.size
  try simp only [World.size_alloc, World.size_drew, World.size_setCell] at hs1
  obtain ⟨hc, hf⟩ := bcell hb
  have c1_0 := fun (o : Nat) => hc (w.heap.size) o (by first | (simp; done) | (simp; omega) | omega)
  have f1_0 := fun (o : Nat) => hf (w.heap.size) o (by first | (simp; done) | (simp; omega) | omega)
  have l1_0 : w.heap.size < w1.heap.size := (by first | (simp; done) | (simp; omega) | omega)
  clear hb hc hf
  go_wp2_with fail
  refine (Do_calls _ _ _ _ _ _ _ _).mono ?_
  rw [H2.out]
  rintro e w2 ⟨rfl, hb⟩
  have HB2 : Below w.heap.size w w2 := by
    refine Below.trans ?_ (hb.mono (by have := HB1.size; first | (simp; done) | (simp; omega) | omega))
    repeat (first | (with_reducible exact HB1) | (with_reducible exact Below.refl _ _) | (with_reducible refine Below.drew ?_) | (with_reducible refine Below.setCell ?_ (by first | (simp; done) | (simp; omega) | omega) _) | (with_reducible refine Below.alloc ?_ (by first | (simp; done) | (simp; omega) | omega) _))
  have hB2 := HB2.size
  have hs2 := hb.size
  try simp only [World.size_alloc, World.size_drew, World.size_setCell] at hs2
  obtain ⟨hc, hf⟩ := bcell hb
  have c2_0 := fun (o : Nat) => hc (w.heap.size) o (by first | (simp; done) | (simp; omega) | omega)
  have f2_0 := fun (o : Nat) => hf (w.heap.size) o (by first | (simp; done) | (simp; omega) | omega)
  have l2_0 : w.heap.size < w2.heap.size := (by first | (simp; done) | (simp; omega) | omega)
  have c2_1 := fun (o : Nat) => hc (w1.heap.size) o (by first | (simp; done) | (simp; omega) | omega)
  have f2_1 := fun (o : Nat) => hf (w1.heap.size) o (by first | (simp; done) | (simp; omega) | omega)
  have l2_1 : w1.heap.size < w2.heap.size := (by first | (simp; done) | (simp; omega) | omega)
  clear hb hc hf
  go_wp2
  go_region
  go_wp2
  go_loop [11, 12, 13, 14, 15] (fun x y cc d i => ∃ k : Nat, k ≤ m ∧ i = .int .u64 k ∧ x = .int .u64 (X k) ∧ y = .int .u64 (Y k) ∧ cc = .bool (C k) ∧ d = .bool (D k)) (fun _ _ _ _ i => m - (intOf i).toNat)
  case atStart => exact ⟨0, Nat.zero_le _, rfl, by rw [X0.out], by rw [Y0.out], by rw [C0.out], by rw [D0.out]⟩
  case round =>
  obtain ⟨k, hk, rfl, rfl, rfl, rfl, rfl⟩ := hrel
  by_cases hlt : k < m
  · have q1 := XS.out k
    have q2 := YS.out k
    have q3 := CS.out k
    have q4 := DS.out k
    clear e1 e2 e3 e4
    go_wp2
    go_round
    case rel => exact ⟨k + 1, by omega, by go_num, rfl, rfl, rfl, rfl⟩
    case measure => simp [intOf]; omega
  obtain rfl : k = m := by omega
  clear hlt
  go_wp2_with fail
  refine (alu_awake _).mono ?_
  rintro e w3 ⟨rfl, hb⟩
  have HB3 : Below w.heap.size w w3 := by
    refine Below.trans ?_ (hb.mono (by have := HB2.size; first | (simp; done) | (simp; omega) | omega))
    repeat (first | (with_reducible exact HB2) | (with_reducible exact Below.refl _ _) | (with_reducible refine Below.drew ?_) | (with_reducible refine Below.setCell ?_ (by first | (simp; done) | (simp; omega) | omega) _) | (with_reducible refine Below.alloc ?_ (by first | (simp; done) | (simp; omega) | omega) _))
  have hB3 := HB3.size
  have hs3 := hb.size
  try simp only [World.size_alloc, World.size_drew, World.size_setCell] at hs3
  obtain ⟨hc, hf⟩ := bcell hb
  have c3_0 := fun (o : Nat) => hc (w.heap.size) o (by first | (simp; done) | (simp; omega) | omega)
  have f3_0 := fun (o : Nat) => hf (w.heap.size) o (by first | (simp; done) | (simp; omega) | omega)
  have l3_0 : w.heap.size < w3.heap.size := (by first | (simp; done) | (simp; omega) | omega)
  have c3_1 := fun (o : Nat) => hc (w1.heap.size) o (by first | (simp; done) | (simp; omega) | omega)
  have f3_1 := fun (o : Nat) => hf (w1.heap.size) o (by first | (simp; done) | (simp; omega) | omega)
  have l3_1 : w1.heap.size < w3.heap.size := (by first | (simp; done) | (simp; omega) | omega)
  have c3_2 := fun (o : Nat) => hc (w2.heap.size) o (by first | (simp; done) | (simp; omega) | omega)
  have f3_2 := fun (o : Nat) => hf (w2.heap.size) o (by first | (simp; done) | (simp; omega) | omega)
  have l3_2 : w2.heap.size < w3.heap.size := (by first | (simp; done) | (simp; omega) | omega)
  clear hb hc hf
  go_wp2
  go_ret
  refine ⟨rfl, ?_⟩
  repeat (first | (with_reducible exact HB3) | (with_reducible exact Below.refl _ _) | (with_reducible refine Below.drew ?_) | (with_reducible refine Below.setCell ?_ (by first | (simp; done) | (simp; omega) | omega) _) | (with_reducible refine Below.alloc ?_ (by first | (simp; done) | (simp; omega) | omega) _))

end Go.Proofs.Ytcmpcejbephaeaa
