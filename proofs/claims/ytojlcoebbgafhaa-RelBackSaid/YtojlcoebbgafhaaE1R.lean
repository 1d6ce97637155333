/- Contracts told to the printed texts: package le. -/
import Derived.Test.YtojlcoebbgafhaaLeZero
import Derived.Test.YtojlcoebbgafhaaLePut
import Derived.Test.YtojlcoebbgafhaaR0
namespace Go.Proofs.Ytojlcoebbgafhaa.PR
open Go.RowKit Go.Proofs.Ytojlcoebbgafhaa Go.Proofs.YtojlcoebbgafhaaW.PrintWords Go.Proofs.YtojlcoebbgafhaaW.PrintLast Go.Proofs.YtojlcoebbgafhaaW.PrintMore
set_option linter.unusedVariables false
def bytesB (l : List Int) : Bool := l.all fun x => decide (0 ≤ x ∧ x ≤ 255)
theorem bytesB_iff (l : List Int) : bytesB l = true ↔ Bytes l := by
  unfold bytesB Bytes
  rw [List.all_eq_true]
  exact ⟨fun h x hx => of_decide_eq_true (h x hx), fun h x hx => decide_eq_true (h x hx)⟩
theorem of_bytesB {α : Type} {l : List Int} {a : α} {r : α} (h : (if bytesB l = true then some a else none) = some r) : Bytes l ∧ a = r := by
  split at h
  · rename_i hb; exact ⟨(bytesB_iff l).1 hb, Option.some.inj h⟩
  · cases h
theorem reads_of {w : World} {A : Option Addr} {n : Nat} {l : List Int} (h : Kd.C (Kd.int .u8) w A n l) : ReadsInt w .u8 A n l := Kd.reads_of_C (d := (0 : Int)) h
def le_In.f (a0 a1 a2 : Int) : Option Bool := if 0 ≤ a0 ∧ a0 ≤ 9223372036854775807 then some (inR a0.toNat a1 a2) else none
theorem le_In.calls (a0 a1 a2 : Int) (r : Bool) (w : World) (h : le_In.f a0 a1 a2 = some r) :
    Calls Try.prog 41 #[.int .i64 a0, .int .i64 a1, .int .i64 a2] w fun e w' => e = .returned (.bool r) ∧ Drawn0 w w' := by
  unfold le_In.f at h
  split at h
  · rename_i hb
    obtain rfl := Option.some.inj h
    obtain ⟨n, rfl⟩ := Int.eq_ofNat_of_zero_le hb.1
    refine (leIn_calls n a1 a2 w hb.2).mono ?_
    rintro e w' ⟨rfl, rfl⟩
    exact ⟨rfl, Drawn0.refl _⟩
  · cases h
def le_U16.f (l0 : List Int) (a1 : Int) : Option (Int × Bool) := if bytesB l0 = true then some (numV l0 a1 2, inB l0.length a1 2) else none
theorem le_U16.calls (A0 : Option Addr) (c0 : Nat) (l0 : List Int) (a1 : Int) (r1 : Int) (r2 : Bool) (w : World) (hr0 : Kd.C (Kd.int .u8) w A0 l0.length l0) (hc0 : l0.length ≤ c0) (h : le_U16.f l0 a1 = some (r1, r2)) :
    Calls Try.prog 55 #[.slice A0 l0.length c0, .int .i64 a1] w fun e w' => e = .returned (.tuple #[.int .i64 r1, .bool r2]) ∧ Drawn0 w w' := by
  obtain ⟨hb, e⟩ := of_bytesB h
  obtain ⟨rfl, rfl⟩ := Prod.mk.inj e
  refine (U16_calls A0 c0 l0 a1 w (reads_of hr0) hc0 hb).mono ?_
  rintro e w' ⟨rfl, rfl⟩
  exact ⟨rfl, Drawn0.refl _⟩
def le_U32.f (l0 : List Int) (a1 : Int) : Option (Int × Bool) := if bytesB l0 = true then some (numV l0 a1 4, inB l0.length a1 4) else none
theorem le_U32.calls (A0 : Option Addr) (c0 : Nat) (l0 : List Int) (a1 : Int) (r1 : Int) (r2 : Bool) (w : World) (hr0 : Kd.C (Kd.int .u8) w A0 l0.length l0) (hc0 : l0.length ≤ c0) (h : le_U32.f l0 a1 = some (r1, r2)) :
    Calls Try.prog 49 #[.slice A0 l0.length c0, .int .i64 a1] w fun e w' => e = .returned (.tuple #[.int .i64 r1, .bool r2]) ∧ Drawn0 w w' := by
  obtain ⟨hb, e⟩ := of_bytesB h
  obtain ⟨rfl, rfl⟩ := Prod.mk.inj e
  refine (U32_calls A0 c0 l0 a1 w (reads_of hr0) hc0 hb).mono ?_
  rintro e w' ⟨rfl, rfl⟩
  exact ⟨rfl, Drawn0.refl _⟩
def le_U64.f (l0 : List Int) (a1 : Int) : Option (Int × Bool) := if bytesB l0 = true then some (numV l0 a1 8, inB l0.length a1 8) else none
theorem le_U64.calls (A0 : Option Addr) (c0 : Nat) (l0 : List Int) (a1 : Int) (r1 : Int) (r2 : Bool) (w : World) (hr0 : Kd.C (Kd.int .u8) w A0 l0.length l0) (hc0 : l0.length ≤ c0) (h : le_U64.f l0 a1 = some (r1, r2)) :
    Calls Try.prog 51 #[.slice A0 l0.length c0, .int .i64 a1] w fun e w' => e = .returned (.tuple #[.int .u64 r1, .bool r2]) ∧ Drawn0 w w' := by
  obtain ⟨hb, e⟩ := of_bytesB h
  obtain ⟨rfl, rfl⟩ := Prod.mk.inj e
  refine (U64_calls A0 c0 l0 a1 w (reads_of hr0) hc0 hb).mono ?_
  rintro e w' ⟨rfl, rfl⟩
  exact ⟨rfl, Drawn0.refl _⟩
def le_Text.f (l0 : List Int) (a1 a2 : Int) : Option (ByteArray × Bool) := if bytesB l0 = true then some (textV l0 a1 a2, textB l0 a1 a2) else none
theorem le_Text.calls (A0 : Option Addr) (c0 : Nat) (l0 : List Int) (a1 a2 : Int) (r1 : ByteArray) (r2 : Bool) (w : World) (hr0 : Kd.C (Kd.int .u8) w A0 l0.length l0) (hc0 : l0.length ≤ c0) (h : le_Text.f l0 a1 a2 = some (r1, r2)) :
    Calls Try.prog 56 #[.slice A0 l0.length c0, .int .i64 a1, .int .i64 a2] w fun e w' => e = .returned (.tuple #[.string r1, .bool r2]) ∧ Drawn0 w w' := by
  obtain ⟨hb, e⟩ := of_bytesB h
  obtain ⟨rfl, rfl⟩ := Prod.mk.inj e
  refine (Text_calls A0 c0 l0 a1 a2 w (reads_of hr0) hc0 hb).mono ?_
  rintro e w' ⟨rfl, rfl⟩
  exact ⟨rfl, Drawn0.refl _⟩
def zeroB (l : List Int) : Bool := !l.any fun x => x != 0
def le_Zero.f (l0 : List Int) : Option Bool := some (zeroB l0)
theorem le_Zero.calls (A0 : Option Addr) (c0 : Nat) (l0 : List Int) (r : Bool) (w : World) (hr0 : Kd.C (Kd.int .u8) w A0 l0.length l0) (hc0 : l0.length ≤ c0) (h : le_Zero.f l0 = some r) :
    Calls Try.prog 54 #[.slice A0 l0.length c0] w fun e w' => e = .returned (.bool r) ∧ Drawn0 w w' := by
  obtain rfl := Option.some.inj h
  refine (Zero_calls A0 l0.length c0 l0 w (reads_of hr0)).mono ?_
  rintro e w' ⟨rfl, rfl⟩
  exact ⟨rfl, Drawn0.refl _⟩
def slipwayref1_In.f (a0 a1 a2 : Int) : Option Bool := if 0 ≤ a0 ∧ a0 ≤ 9223372036854775807 then some (inR a0.toNat a1 a2) else none
theorem slipwayref1_In.calls (a0 a1 a2 : Int) (r : Bool) (w : World) (h : slipwayref1_In.f a0 a1 a2 = some r) :
    Calls Try.prog 45 #[.int .i64 a0, .int .i64 a1, .int .i64 a2] w fun e w' => e = .returned (.bool r) ∧ Drawn0 w w' := by
  unfold slipwayref1_In.f at h
  split at h
  · rename_i hb
    obtain rfl := Option.some.inj h
    obtain ⟨n, rfl⟩ := Int.eq_ofNat_of_zero_le hb.1
    refine (In_calls n a1 a2 w hb.2).mono ?_
    rintro e w' ⟨rfl, rfl⟩
    exact ⟨rfl, Drawn0.refl _⟩
  · cases h
def slipwayref1_Num.f (a0 : ByteArray) (a1 a2 : Int) : Option (Int × Bool) := if a0.size ≤ 9223372036854775807 ∧ 0 ≤ a2 ∧ a2 ≤ 8 then some (numV (bytesOf a0) a1 a2, inB a0.size a1 a2) else none
theorem slipwayref1_Num.calls (a0 : ByteArray) (a1 a2 : Int) (r1 : Int) (r2 : Bool) (w : World) (h : slipwayref1_Num.f a0 a1 a2 = some (r1, r2)) :
    Calls Try.prog 29 #[.string a0, .int .i64 a1, .int .i64 a2] w fun e w' => e = .returned (.tuple #[.int .u64 r1, .bool r2]) ∧ Drawn0 w w' := by
  unfold slipwayref1_Num.f at h
  split at h
  · rename_i hb
    obtain ⟨rfl, rfl⟩ := Prod.mk.inj (Option.some.inj h)
    refine (Num_calls a0 _ rfl a1 a2 w (by omega) hb.2.1 hb.2.2).mono ?_
    rintro e w' ⟨rfl, rfl⟩
    rw [bytesOf_length]
    exact ⟨rfl, Drawn0.refl _⟩
  · cases h
def slipwayref1_Bytes.f (a0 a1 : Int) : Option ByteArray := if 0 ≤ a0 ∧ a0 < 18446744073709551616 then some (strOfNums (leB a0 (bytesN a1))) else none
theorem slipwayref1_Bytes.calls (a0 a1 : Int) (r : ByteArray) (w : World) (h : slipwayref1_Bytes.f a0 a1 = some r) :
    Calls Try.prog 44 #[.int .u64 a0, .int .i64 a1] w fun e w' => e = .returned (.string r) ∧ Below w.heap.size w w' := by
  unfold slipwayref1_Bytes.f at h
  split at h
  · rename_i hb
    obtain rfl := Option.some.inj h
    exact rBytes_calls a0 a1 w hb.1 hb.2
  · cases h
def slipwayref1_Put.f (a0 : ByteArray) (a1 a2 a3 : Int) : Option (ByteArray × Bool) := if a0.size ≤ 9223372036854775000 ∧ 0 ≤ a3 ∧ a3 < 18446744073709551616 then some (strOfNums (putV (bytesOf a0) a1 a2 a3), putB a0.size a1 a2) else none
theorem slipwayref1_Put.calls (a0 : ByteArray) (a1 a2 a3 : Int) (r1 : ByteArray) (r2 : Bool) (w : World) (h : slipwayref1_Put.f a0 a1 a2 a3 = some (r1, r2)) :
    Calls Try.prog 34 #[.string a0, .int .i64 a1, .int .i64 a2, .int .u64 a3] w fun e w' => e = .returned (.tuple #[.string r1, .bool r2]) ∧ Below w.heap.size w w' := by
  unfold slipwayref1_Put.f at h
  split at h
  · rename_i hb
    obtain ⟨rfl, rfl⟩ := Prod.mk.inj (Option.some.inj h)
    have := rPut_calls a0 _ rfl a1 a2 a3 w (by omega) hb.2.1 hb.2.2
    rw [bytesOf_length] at this
    exact this
  · cases h
end Go.Proofs.Ytojlcoebbgafhaa.PR

