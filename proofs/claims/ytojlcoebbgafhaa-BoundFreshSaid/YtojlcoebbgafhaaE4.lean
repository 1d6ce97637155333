/- Contracts told to the printed texts: fold.Key, law 9's At. -/
import Derived.Test.YtojlcoebbgafhaaAt9
import Derived.Test.YtojlcoebbgafhaaE1B
namespace Go.Proofs.Ytojlcoebbgafhaa.PB
open Go.RowKit Go.Proofs.Ytojlcoebbgafhaa Go.Proofs.YtojlcoebbgafhaaW.PrintWords Go.Proofs.YtojlcoebbgafhaaW.PrintLast Go.Proofs.YtojlcoebbgafhaaW.PrintMore
set_option linter.unusedVariables false
def fold_Key.f (a0 : ByteArray) : Option ByteArray := if a0.size ≤ 140737488351232 then some (strOfNums (keyP (bytesOf a0))) else none
theorem fold_Key.calls (a0 : ByteArray) (r : ByteArray) (w : World) (h : fold_Key.f a0 = some r) :
    Calls Try.prog 68 #[.string a0] w fun e w' => e = .returned (.string r) ∧ Below w.heap.size w w' := by
  unfold fold_Key.f at h
  split at h
  · rename_i hb
    obtain rfl := Option.some.inj h
    exact Key_calls a0 w hb
  · cases h
theorem V_of_row {w : World} {base : Nat} {v : Value} {xs : List Int} (h : BRow w base v xs) (e : Nat) : Kd.V (Kd.int .u8) e w base (fun k_ => (base ≤ k_)) v xs := by
  rcases h with ⟨rfl, rfl⟩ | ⟨g, cap, rfl, h1, h2, h3, h4, h5, h6, h7⟩
  · exact ⟨none, 0, rfl, Nat.le_refl _, fun W' _ => ⟨rfl, by decide, fun h => absurd h (by decide)⟩⟩
  · refine ⟨_, cap, rfl, h3, fun W' hW => ?_⟩
    have hg := hW g h1 h2
    refine Kd.C_of_reads (d := (0 : Int)) (h1 := fun _ => rfl) (show ReadsInt W' .u8 _ _ _ from ⟨rfl, by unfold maxLen at h4; omega, fun _ => ⟨_, rfl, fun j hj => ?_⟩⟩)
    rw [add_plain]
    have : W'.cell? ⟨g, j, none⟩ = w.cell? ⟨g, j, none⟩ := World.cell?_of_block hg
    rw [this]
    exact h5 j hj
def slipwaylaw9_At.f (a0 : Int) (l1 : List S25) (l2 : List Int) : Option (List Int) :=
  if 0 ≤ a0 ∧ a0 ≤ 1000000 ∧ l1.length ≤ 1000000000 ∧ l2.length ≤ 1000000000 then if (l1.all fun x => decide (x.f0.size ≤ 1000000)) = true then some (at9P a0.toNat l1 l2) else none else none
theorem slipwaylaw9_At.calls (a0 : Int) (A1 : Option Addr) (c1 : Nat) (l1 : List S25) (A2 : Option Addr) (c2 : Nat) (l2 : List Int) (r : List Int) (w : World) (hr1 : Kd.C k25 w A1 l1.length l1) (hc1 : l1.length ≤ c1) (hr2 : Kd.C (Kd.int .i64) w A2 l2.length l2) (hc2 : l2.length ≤ c2) (h : slipwaylaw9_At.f a0 l1 l2 = some r) :
    Calls Try.prog 39 #[.int .i64 a0, .slice A1 l1.length c1, .slice A2 l2.length c2] w fun e w' => ∃ v0_ : Value, e = .returned (v0_) ∧ Kd.V (Kd.int .u8) 5 w' w.heap.size (fun k_ => (w.heap.size ≤ k_)) v0_ r ∧ Below w.heap.size w w' := by
  unfold slipwaylaw9_At.f at h
  split at h
  · rename_i hb
    split at h
    · rename_i hs
      obtain rfl := Option.some.inj h
      obtain ⟨n, rfl⟩ := Int.eq_ofNat_of_zero_le hb.1
      rw [Int.toNat_natCast]
      refine (At9_calls n A1 c1 l1 A2 c2 l2 w (by omega) hr1 hc1 hr2 hc2 hb.2.2.1 hb.2.2.2 (fun x hx => of_decide_eq_true (List.all_eq_true.1 hs x hx))).mono ?_
      rintro e w' ⟨v, rfl, hrow, hb⟩
      exact ⟨v, rfl, V_of_row hrow _, hb⟩
    · cases h
  · cases h
end Go.Proofs.Ytojlcoebbgafhaa.PB
