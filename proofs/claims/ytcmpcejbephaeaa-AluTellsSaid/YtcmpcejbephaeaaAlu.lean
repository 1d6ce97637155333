/- The contracts of package alu: add, sub, shift, Do and Cond compute the functions addV .. aluR, condB, and change no memory that was there. -/
import Derived.Test.YtcmpcejbephaeaaProg
import Derived.WalkKit
import Derived.WalkSpells
import Derived.Below
import Derived.RegionTactic
import Derived.BigQuiet
import Derived.Deep.QuietTactic
import Derived.Deep.DeepCutAuto
import Derived.Lib.Hide
namespace Go.Proofs.Ytcmpcejbephaeaa
open Go.RowKit
set_option linter.unusedVariables false
set_option linter.unusedSimpArgs false
theorem bcell {W w1 : World} (hb : Below W.heap.size W w1) : (∀ b o, b < W.heap.size → w1.cell? ⟨b, o, none⟩ = W.cell? ⟨b, o, none⟩) ∧ (∀ b o, b < W.heap.size → w1.frozen? ⟨b, o, none⟩ = W.frozen? ⟨b, o, none⟩) :=
  ⟨fun b o h => hb.cell (p := ⟨b, o, none⟩) h, fun b o h => hb.frozen (p := ⟨b, o, none⟩) h⟩
theorem cell_set_isSome (w : World) (a b : Addr) (v : Value) : ((w.setCell a v).cell? b).isSome = (w.cell? b).isSome := by
  by_cases h : a = b
  · subst h
    cases hc : w.cell? a with
    | some u => rw [World.cell?_setCell_same w a v hc]; rfl
    | none =>
      unfold World.cell? at hc ⊢
      simp only [World.setCell, Array.getElem?_modify, ↓reduceIte]
      cases hh : w.heap[a.block]? with
      | none => simp
      | some x =>
        rw [hh] at hc
        cases x <;> simp_all
  · rw [World.cell?_setCell_other _ _ _ _ h]
attribute [local go_sem ↓] cell_set_isSome

/-- What alu.Do answers. -/
structure AR where
  v : Int
  z : Bool
  s : Bool
  c : Bool
  o : Bool
def hiB (v : Int) : Bool := bits .and .u64 v 9223372036854775808 != 0
def addV (a b : Int) : Int := IntKind.u64.wrap (a + b)
def addC (a b : Int) : Bool := decide (IntKind.u64.wrap (a + b) < a)
def addO (a b : Int) : Bool := bits .and .u64 (bits .and .u64 (bits .xor .u64 a (IntKind.u64.wrap (a + b))) (bits .xor .u64 b (IntKind.u64.wrap (a + b)))) 9223372036854775808 != 0
def subV (a b : Int) : Int := IntKind.u64.wrap (a - b)
def subC (a b : Int) : Bool := decide (a < b)
def subO (a b : Int) : Bool := bits .and .u64 (bits .and .u64 (bits .xor .u64 a b) (bits .xor .u64 a (IntKind.u64.wrap (a - b)))) 9223372036854775808 != 0

set_option maxHeartbeats 400000 in
theorem add_calls (a b : Int) (w : World) :
    Calls Try.prog 34 #[.int .u64 a, .int .u64 b] w fun e w' => e = .returned (.tuple #[.int .u64 (addV a b), .agg #[.bool false, .bool false, .bool (addC a b), .bool (addO a b)]]) ∧ Below w.heap.size w w' := by
  have hu := Try.underlying44
  go_enter Try.func34, Try.ntmps34
  go_wp2
  refine bodyPost_ret (v := .tuple #[.int .u64 (addV a b), .agg #[.bool false, .bool false, .bool (addC a b), .bool (addO a b)]]) (by simp [results, Try.results34, go_sem, addV, addC, addO]) rfl ⟨rfl, ?_⟩
  exact (Below.refl _ _).alloc (Nat.le_refl _) _
set_option maxHeartbeats 400000 in
theorem sub_calls (a b : Int) (w : World) :
    Calls Try.prog 35 #[.int .u64 a, .int .u64 b] w fun e w' => e = .returned (.tuple #[.int .u64 (subV a b), .agg #[.bool false, .bool false, .bool (subC a b), .bool (subO a b)]]) ∧ Below w.heap.size w w' := by
  have hu := Try.underlying44
  go_enter Try.func35, Try.ntmps35
  go_wp2
  refine bodyPost_ret (v := .tuple #[.int .u64 (subV a b), .agg #[.bool false, .bool false, .bool (subC a b), .bool (subO a b)]]) (by simp [results, Try.results35, go_sem, subV, subC, subO]) rfl ⟨rfl, ?_⟩
  exact (Below.refl _ _).alloc (Nat.le_refl _) _

def shlV (a n : Int) : Int := IntKind.u64.wrap (a * 2 ^ n.toNat)
def shlC (a n : Int) : Bool := bits .and .u64 (a / 2 ^ (64 - n).toNat) 1 == 1
def shrV (a n : Int) : Int := a / 2 ^ n.toNat
def shrC (a n : Int) : Bool := bits .and .u64 (a / 2 ^ (n - 1).toNat) 1 == 1
set_option maxHeartbeats 400000 in
theorem shl_calls (a n : Int) (w : World) (h1 : 1 ≤ n) (h2 : n ≤ 63) :
    Calls Try.prog 36 #[.int .i64 9, .int .u64 a, .int .u64 n] w fun e w' => e = .returned (.tuple #[.int .u64 (shlV a n), .agg #[.bool false, .bool false, .bool (shlC a n), .bool false]]) ∧ Below w.heap.size w w' := by
  have hu := Try.underlying44
  go_enter Try.func36, Try.ntmps36
  go_wp2
  refine bodyPost_ret (v := .tuple #[.int .u64 (shlV a n), .agg #[.bool false, .bool false, .bool (shlC a n), .bool false]]) (by simp [results, Try.results36, go_sem, shlV, shlC]) rfl ⟨rfl, ?_⟩
  exact (Below.refl _ _).alloc (Nat.le_refl _) _
set_option maxHeartbeats 400000 in
theorem shr_calls (a n : Int) (w : World) (h1 : 1 ≤ n) (h2 : n ≤ 63) :
    Calls Try.prog 36 #[.int .i64 10, .int .u64 a, .int .u64 n] w fun e w' => e = .returned (.tuple #[.int .u64 (shrV a n), .agg #[.bool false, .bool false, .bool (shrC a n), .bool false]]) ∧ Below w.heap.size w w' := by
  have hu := Try.underlying44
  go_enter Try.func36, Try.ntmps36
  go_wp2
  refine bodyPost_ret (v := .tuple #[.int .u64 (shrV a n), .agg #[.bool false, .bool false, .bool (shrC a n), .bool false]]) (by simp [results, Try.results36, go_sem, shrV, shrC]) rfl ⟨rfl, ?_⟩
  exact (Below.refl _ _).alloc (Nat.le_refl _) _

def tellR (v : Int) (c o : Bool) : AR := ⟨v, v == 0, hiB v, c, o⟩
def aluR (op a b : Int) (z s c o : Bool) : AR :=
  if op = 0 then tellR (addV a b) (addC a b) (addO a b)
  else if op = 1 then tellR (subV a b) (subC a b) (subO a b)
  else if op = 7 then { tellR (subV a b) (subC a b) (subO a b) with v := a }
  else if op = 2 then tellR (bits .and .u64 a b) false false
  else if op = 8 then { tellR (bits .and .u64 a b) false false with v := a }
  else if op = 3 then tellR (bits .or .u64 a b) false false
  else if op = 4 then tellR (bits .xor .u64 a b) false false
  else if op = 5 then tellR (addV a 1) c (addO a 1)
  else if op = 6 then tellR (subV a 1) c (subO a 1)
  else if op = 9 ∨ op = 10 then
    if bits .and .u64 b 63 = 0 then ⟨a, z, s, c, o⟩
    else if op = 9 then tellR (shlV a (bits .and .u64 b 63)) (shlC a (bits .and .u64 b 63)) false
    else tellR (shrV a (bits .and .u64 b 63)) (shrC a (bits .and .u64 b 63)) false
  else ⟨a, z, s, c, o⟩
theorem and63 (b : Int) : 0 ≤ bits .and .u64 b 63 ∧ bits .and .u64 b 63 ≤ 63 := by
  have h1 := (BitVec.ofInt 64 b &&& BitVec.ofInt 64 63).isLt
  have h2 : (BitVec.ofInt 64 b &&& BitVec.ofInt 64 63).toNat ≤ 63 := by rw [BitVec.toNat_and]; exact Nat.and_le_right
  show 0 ≤ IntKind.u64.wrap ((BitVec.ofInt 64 b &&& BitVec.ofInt 64 63).toNat : Int) ∧ IntKind.u64.wrap ((BitVec.ofInt 64 b &&& BitVec.ofInt 64 63).toNat : Int) ≤ 63
  have e : ∀ n : Int, IntKind.u64.wrap n = n % 18446744073709551616 := fun n => by simp [IntKind.wrap, IntKind.bits, IntKind.signed]
  rw [e]; omega
set_option maxHeartbeats 1000000 in
theorem Do0 (a b : Int) (z s c o : Bool) (w : World) :
    Calls Try.prog 26 #[.int .i64 0, .int .u64 a, .int .u64 b, .agg #[.bool z, .bool s, .bool c, .bool o]] w fun e w' => e = .returned (.tuple #[.int .u64 (aluR 0 a b z s c o).v, .agg #[.bool (aluR 0 a b z s c o).z, .bool (aluR 0 a b z s c o).s, .bool (aluR 0 a b z s c o).c, .bool (aluR 0 a b z s c o).o]]) ∧ Below w.heap.size w w' := by
  have hu := Try.underlying44
  go_enter Try.func26, Try.ntmps26
  go_wp2_with (go_at_call 34; refine (add_calls _ _ _).mono ?_; rintro e w1 ⟨rfl, hb⟩; have HB : Below w.heap.size w w1 := ((((Below.refl _ _).alloc (Nat.le_refl _) _).alloc (by simp) _).alloc (by simp; omega) _).trans (hb.mono (by simp; omega)); have hz : w.heap.size + 1 + 1 < w1.heap.size := (by have := hb.size; simp at this; omega); obtain ⟨hc, hf⟩ := bcell hb; have h0 := hc (w.heap.size + 1 + 1) 0 (by simp <;> omega); have h1 := hc (w.heap.size + 1 + 1) 1 (by simp <;> omega); have h2 := hc (w.heap.size + 1 + 1) 2 (by simp <;> omega); have h3 := hc (w.heap.size + 1 + 1) 3 (by simp <;> omega); simp [go_sem] at h0 h1 h2 h3; have g0 := hc (w.heap.size) 0 (by simp <;> omega); have g1 := hc (w.heap.size) 1 (by simp <;> omega); have g2 := hc (w.heap.size) 2 (by simp <;> omega); have g3 := hc (w.heap.size) 3 (by simp <;> omega); simp [go_sem] at g0 g1 g2 g3)
  go_region
  go_wp2
  refine bodyPost_ret (v := .tuple #[.int .u64 (aluR 0 a b z s c o).v, .agg #[.bool (aluR 0 a b z s c o).z, .bool (aluR 0 a b z s c o).s, .bool (aluR 0 a b z s c o).c, .bool (aluR 0 a b z s c o).o]]) (by simp [results, Try.results26, go_sem, aluR, tellR, hiB, h0, h1, h2, h3, hc]) rfl ⟨rfl, ?_⟩
  repeat (first | (with_reducible exact HB) | (with_reducible exact Below.refl _ _) | (with_reducible refine Below.drew ?_) | (with_reducible refine Below.setCell ?_ (by first | (simp; done) | (simp; omega)) _) | (with_reducible refine Below.alloc ?_ (by first | (simp; done) | (simp; omega)) _))

set_option maxHeartbeats 1000000 in
theorem Do1 (a b : Int) (z s c o : Bool) (w : World) :
    Calls Try.prog 26 #[.int .i64 1, .int .u64 a, .int .u64 b, .agg #[.bool z, .bool s, .bool c, .bool o]] w fun e w' => e = .returned (.tuple #[.int .u64 (aluR 1 a b z s c o).v, .agg #[.bool (aluR 1 a b z s c o).z, .bool (aluR 1 a b z s c o).s, .bool (aluR 1 a b z s c o).c, .bool (aluR 1 a b z s c o).o]]) ∧ Below w.heap.size w w' := by
  have hu := Try.underlying44
  go_enter Try.func26, Try.ntmps26
  go_wp2_with (go_at_call 35; refine (sub_calls _ _ _).mono ?_; rintro e w1 ⟨rfl, hb⟩; have HB : Below w.heap.size w w1 := ((((Below.refl _ _).alloc (Nat.le_refl _) _).alloc (by simp) _).alloc (by simp; omega) _).trans (hb.mono (by simp; omega)); have hz : w.heap.size + 1 + 1 < w1.heap.size := (by have := hb.size; simp at this; omega); obtain ⟨hc, hf⟩ := bcell hb; have h0 := hc (w.heap.size + 1 + 1) 0 (by simp <;> omega); have h1 := hc (w.heap.size + 1 + 1) 1 (by simp <;> omega); have h2 := hc (w.heap.size + 1 + 1) 2 (by simp <;> omega); have h3 := hc (w.heap.size + 1 + 1) 3 (by simp <;> omega); simp [go_sem] at h0 h1 h2 h3; have g0 := hc (w.heap.size) 0 (by simp <;> omega); have g1 := hc (w.heap.size) 1 (by simp <;> omega); have g2 := hc (w.heap.size) 2 (by simp <;> omega); have g3 := hc (w.heap.size) 3 (by simp <;> omega); simp [go_sem] at g0 g1 g2 g3)
  go_region
  go_wp2
  refine bodyPost_ret (v := .tuple #[.int .u64 (aluR 1 a b z s c o).v, .agg #[.bool (aluR 1 a b z s c o).z, .bool (aluR 1 a b z s c o).s, .bool (aluR 1 a b z s c o).c, .bool (aluR 1 a b z s c o).o]]) (by simp [results, Try.results26, go_sem, aluR, tellR, hiB, h0, h1, h2, h3, hc]) rfl ⟨rfl, ?_⟩
  repeat (first | (with_reducible exact HB) | (with_reducible exact Below.refl _ _) | (with_reducible refine Below.drew ?_) | (with_reducible refine Below.setCell ?_ (by first | (simp; done) | (simp; omega)) _) | (with_reducible refine Below.alloc ?_ (by first | (simp; done) | (simp; omega)) _))

set_option maxHeartbeats 1000000 in
theorem Do7 (a b : Int) (z s c o : Bool) (w : World) :
    Calls Try.prog 26 #[.int .i64 7, .int .u64 a, .int .u64 b, .agg #[.bool z, .bool s, .bool c, .bool o]] w fun e w' => e = .returned (.tuple #[.int .u64 (aluR 7 a b z s c o).v, .agg #[.bool (aluR 7 a b z s c o).z, .bool (aluR 7 a b z s c o).s, .bool (aluR 7 a b z s c o).c, .bool (aluR 7 a b z s c o).o]]) ∧ Below w.heap.size w w' := by
  have hu := Try.underlying44
  go_enter Try.func26, Try.ntmps26
  go_wp2_with (go_at_call 35; refine (sub_calls _ _ _).mono ?_; rintro e w1 ⟨rfl, hb⟩; have HB : Below w.heap.size w w1 := ((((Below.refl _ _).alloc (Nat.le_refl _) _).alloc (by simp) _).alloc (by simp; omega) _).trans (hb.mono (by simp; omega)); have hz : w.heap.size + 1 + 1 < w1.heap.size := (by have := hb.size; simp at this; omega); obtain ⟨hc, hf⟩ := bcell hb; have h0 := hc (w.heap.size + 1 + 1) 0 (by simp <;> omega); have h1 := hc (w.heap.size + 1 + 1) 1 (by simp <;> omega); have h2 := hc (w.heap.size + 1 + 1) 2 (by simp <;> omega); have h3 := hc (w.heap.size + 1 + 1) 3 (by simp <;> omega); simp [go_sem] at h0 h1 h2 h3; have g0 := hc (w.heap.size) 0 (by simp <;> omega); have g1 := hc (w.heap.size) 1 (by simp <;> omega); have g2 := hc (w.heap.size) 2 (by simp <;> omega); have g3 := hc (w.heap.size) 3 (by simp <;> omega); simp [go_sem] at g0 g1 g2 g3)
  go_region
  go_wp2
  refine bodyPost_ret (v := .tuple #[.int .u64 (aluR 7 a b z s c o).v, .agg #[.bool (aluR 7 a b z s c o).z, .bool (aluR 7 a b z s c o).s, .bool (aluR 7 a b z s c o).c, .bool (aluR 7 a b z s c o).o]]) (by simp [results, Try.results26, go_sem, aluR, tellR, hiB, h0, h1, h2, h3, hc]) rfl ⟨rfl, ?_⟩
  repeat (first | (with_reducible exact HB) | (with_reducible exact Below.refl _ _) | (with_reducible refine Below.drew ?_) | (with_reducible refine Below.setCell ?_ (by first | (simp; done) | (simp; omega)) _) | (with_reducible refine Below.alloc ?_ (by first | (simp; done) | (simp; omega)) _))

set_option maxHeartbeats 1000000 in
theorem Do5 (a b : Int) (z s c o : Bool) (w : World) :
    Calls Try.prog 26 #[.int .i64 5, .int .u64 a, .int .u64 b, .agg #[.bool z, .bool s, .bool c, .bool o]] w fun e w' => e = .returned (.tuple #[.int .u64 (aluR 5 a b z s c o).v, .agg #[.bool (aluR 5 a b z s c o).z, .bool (aluR 5 a b z s c o).s, .bool (aluR 5 a b z s c o).c, .bool (aluR 5 a b z s c o).o]]) ∧ Below w.heap.size w w' := by
  have hu := Try.underlying44
  go_enter Try.func26, Try.ntmps26
  go_wp2_with (go_at_call 34; refine (add_calls _ _ _).mono ?_; rintro e w1 ⟨rfl, hb⟩; have HB : Below w.heap.size w w1 := ((((Below.refl _ _).alloc (Nat.le_refl _) _).alloc (by simp) _).alloc (by simp; omega) _).trans (hb.mono (by simp; omega)); have hz : w.heap.size + 1 + 1 < w1.heap.size := (by have := hb.size; simp at this; omega); obtain ⟨hc, hf⟩ := bcell hb; have h0 := hc (w.heap.size + 1 + 1) 0 (by simp <;> omega); have h1 := hc (w.heap.size + 1 + 1) 1 (by simp <;> omega); have h2 := hc (w.heap.size + 1 + 1) 2 (by simp <;> omega); have h3 := hc (w.heap.size + 1 + 1) 3 (by simp <;> omega); simp [go_sem] at h0 h1 h2 h3; have g0 := hc (w.heap.size) 0 (by simp <;> omega); have g1 := hc (w.heap.size) 1 (by simp <;> omega); have g2 := hc (w.heap.size) 2 (by simp <;> omega); have g3 := hc (w.heap.size) 3 (by simp <;> omega); simp [go_sem] at g0 g1 g2 g3)
  go_region
  go_wp2
  refine bodyPost_ret (v := .tuple #[.int .u64 (aluR 5 a b z s c o).v, .agg #[.bool (aluR 5 a b z s c o).z, .bool (aluR 5 a b z s c o).s, .bool (aluR 5 a b z s c o).c, .bool (aluR 5 a b z s c o).o]]) (by simp [results, Try.results26, go_sem, aluR, tellR, hiB, h0, h1, h2, h3, hc]) rfl ⟨rfl, ?_⟩
  repeat (first | (with_reducible exact HB) | (with_reducible exact Below.refl _ _) | (with_reducible refine Below.drew ?_) | (with_reducible refine Below.setCell ?_ (by first | (simp; done) | (simp; omega)) _) | (with_reducible refine Below.alloc ?_ (by first | (simp; done) | (simp; omega)) _))

set_option maxHeartbeats 1000000 in
theorem Do6 (a b : Int) (z s c o : Bool) (w : World) :
    Calls Try.prog 26 #[.int .i64 6, .int .u64 a, .int .u64 b, .agg #[.bool z, .bool s, .bool c, .bool o]] w fun e w' => e = .returned (.tuple #[.int .u64 (aluR 6 a b z s c o).v, .agg #[.bool (aluR 6 a b z s c o).z, .bool (aluR 6 a b z s c o).s, .bool (aluR 6 a b z s c o).c, .bool (aluR 6 a b z s c o).o]]) ∧ Below w.heap.size w w' := by
  have hu := Try.underlying44
  go_enter Try.func26, Try.ntmps26
  go_wp2_with (go_at_call 35; refine (sub_calls _ _ _).mono ?_; rintro e w1 ⟨rfl, hb⟩; have HB : Below w.heap.size w w1 := ((((Below.refl _ _).alloc (Nat.le_refl _) _).alloc (by simp) _).alloc (by simp; omega) _).trans (hb.mono (by simp; omega)); have hz : w.heap.size + 1 + 1 < w1.heap.size := (by have := hb.size; simp at this; omega); obtain ⟨hc, hf⟩ := bcell hb; have h0 := hc (w.heap.size + 1 + 1) 0 (by simp <;> omega); have h1 := hc (w.heap.size + 1 + 1) 1 (by simp <;> omega); have h2 := hc (w.heap.size + 1 + 1) 2 (by simp <;> omega); have h3 := hc (w.heap.size + 1 + 1) 3 (by simp <;> omega); simp [go_sem] at h0 h1 h2 h3; have g0 := hc (w.heap.size) 0 (by simp <;> omega); have g1 := hc (w.heap.size) 1 (by simp <;> omega); have g2 := hc (w.heap.size) 2 (by simp <;> omega); have g3 := hc (w.heap.size) 3 (by simp <;> omega); simp [go_sem] at g0 g1 g2 g3)
  go_region
  go_wp2
  refine bodyPost_ret (v := .tuple #[.int .u64 (aluR 6 a b z s c o).v, .agg #[.bool (aluR 6 a b z s c o).z, .bool (aluR 6 a b z s c o).s, .bool (aluR 6 a b z s c o).c, .bool (aluR 6 a b z s c o).o]]) (by simp [results, Try.results26, go_sem, aluR, tellR, hiB, h0, h1, h2, h3, hc]) rfl ⟨rfl, ?_⟩
  repeat (first | (with_reducible exact HB) | (with_reducible exact Below.refl _ _) | (with_reducible refine Below.drew ?_) | (with_reducible refine Below.setCell ?_ (by first | (simp; done) | (simp; omega)) _) | (with_reducible refine Below.alloc ?_ (by first | (simp; done) | (simp; omega)) _))

set_option maxHeartbeats 1000000 in
theorem Do2 (a b : Int) (z s c o : Bool) (w : World) :
    Calls Try.prog 26 #[.int .i64 2, .int .u64 a, .int .u64 b, .agg #[.bool z, .bool s, .bool c, .bool o]] w fun e w' => e = .returned (.tuple #[.int .u64 (aluR 2 a b z s c o).v, .agg #[.bool (aluR 2 a b z s c o).z, .bool (aluR 2 a b z s c o).s, .bool (aluR 2 a b z s c o).c, .bool (aluR 2 a b z s c o).o]]) ∧ Below w.heap.size w w' := by
  have hu := Try.underlying44
  go_enter Try.func26, Try.ntmps26
  go_wp2
  go_region
  go_wp2
  refine bodyPost_ret (v := .tuple #[.int .u64 (aluR 2 a b z s c o).v, .agg #[.bool (aluR 2 a b z s c o).z, .bool (aluR 2 a b z s c o).s, .bool (aluR 2 a b z s c o).c, .bool (aluR 2 a b z s c o).o]]) (by simp [results, Try.results26, go_sem, aluR, tellR, hiB]) rfl ⟨rfl, ?_⟩
  repeat (first | (with_reducible exact HB) | (with_reducible exact Below.refl _ _) | (with_reducible refine Below.drew ?_) | (with_reducible refine Below.setCell ?_ (by first | (simp; done) | (simp; omega)) _) | (with_reducible refine Below.alloc ?_ (by first | (simp; done) | (simp; omega)) _))

set_option maxHeartbeats 1000000 in
theorem Do8 (a b : Int) (z s c o : Bool) (w : World) :
    Calls Try.prog 26 #[.int .i64 8, .int .u64 a, .int .u64 b, .agg #[.bool z, .bool s, .bool c, .bool o]] w fun e w' => e = .returned (.tuple #[.int .u64 (aluR 8 a b z s c o).v, .agg #[.bool (aluR 8 a b z s c o).z, .bool (aluR 8 a b z s c o).s, .bool (aluR 8 a b z s c o).c, .bool (aluR 8 a b z s c o).o]]) ∧ Below w.heap.size w w' := by
  have hu := Try.underlying44
  go_enter Try.func26, Try.ntmps26
  go_wp2
  go_region
  go_wp2
  refine bodyPost_ret (v := .tuple #[.int .u64 (aluR 8 a b z s c o).v, .agg #[.bool (aluR 8 a b z s c o).z, .bool (aluR 8 a b z s c o).s, .bool (aluR 8 a b z s c o).c, .bool (aluR 8 a b z s c o).o]]) (by simp [results, Try.results26, go_sem, aluR, tellR, hiB]) rfl ⟨rfl, ?_⟩
  repeat (first | (with_reducible exact HB) | (with_reducible exact Below.refl _ _) | (with_reducible refine Below.drew ?_) | (with_reducible refine Below.setCell ?_ (by first | (simp; done) | (simp; omega)) _) | (with_reducible refine Below.alloc ?_ (by first | (simp; done) | (simp; omega)) _))

set_option maxHeartbeats 1000000 in
theorem Do3 (a b : Int) (z s c o : Bool) (w : World) :
    Calls Try.prog 26 #[.int .i64 3, .int .u64 a, .int .u64 b, .agg #[.bool z, .bool s, .bool c, .bool o]] w fun e w' => e = .returned (.tuple #[.int .u64 (aluR 3 a b z s c o).v, .agg #[.bool (aluR 3 a b z s c o).z, .bool (aluR 3 a b z s c o).s, .bool (aluR 3 a b z s c o).c, .bool (aluR 3 a b z s c o).o]]) ∧ Below w.heap.size w w' := by
  have hu := Try.underlying44
  go_enter Try.func26, Try.ntmps26
  go_wp2
  go_region
  go_wp2
  refine bodyPost_ret (v := .tuple #[.int .u64 (aluR 3 a b z s c o).v, .agg #[.bool (aluR 3 a b z s c o).z, .bool (aluR 3 a b z s c o).s, .bool (aluR 3 a b z s c o).c, .bool (aluR 3 a b z s c o).o]]) (by simp [results, Try.results26, go_sem, aluR, tellR, hiB]) rfl ⟨rfl, ?_⟩
  repeat (first | (with_reducible exact HB) | (with_reducible exact Below.refl _ _) | (with_reducible refine Below.drew ?_) | (with_reducible refine Below.setCell ?_ (by first | (simp; done) | (simp; omega)) _) | (with_reducible refine Below.alloc ?_ (by first | (simp; done) | (simp; omega)) _))

set_option maxHeartbeats 1000000 in
theorem Do4 (a b : Int) (z s c o : Bool) (w : World) :
    Calls Try.prog 26 #[.int .i64 4, .int .u64 a, .int .u64 b, .agg #[.bool z, .bool s, .bool c, .bool o]] w fun e w' => e = .returned (.tuple #[.int .u64 (aluR 4 a b z s c o).v, .agg #[.bool (aluR 4 a b z s c o).z, .bool (aluR 4 a b z s c o).s, .bool (aluR 4 a b z s c o).c, .bool (aluR 4 a b z s c o).o]]) ∧ Below w.heap.size w w' := by
  have hu := Try.underlying44
  go_enter Try.func26, Try.ntmps26
  go_wp2
  go_region
  go_wp2
  refine bodyPost_ret (v := .tuple #[.int .u64 (aluR 4 a b z s c o).v, .agg #[.bool (aluR 4 a b z s c o).z, .bool (aluR 4 a b z s c o).s, .bool (aluR 4 a b z s c o).c, .bool (aluR 4 a b z s c o).o]]) (by simp [results, Try.results26, go_sem, aluR, tellR, hiB]) rfl ⟨rfl, ?_⟩
  repeat (first | (with_reducible exact HB) | (with_reducible exact Below.refl _ _) | (with_reducible refine Below.drew ?_) | (with_reducible refine Below.setCell ?_ (by first | (simp; done) | (simp; omega)) _) | (with_reducible refine Below.alloc ?_ (by first | (simp; done) | (simp; omega)) _))

set_option maxHeartbeats 1000000 in
theorem Do9z (a b : Int) (z s c o : Bool) (w : World) (hz : bits .and .u64 b 63 = 0) :
    Calls Try.prog 26 #[.int .i64 9, .int .u64 a, .int .u64 b, .agg #[.bool z, .bool s, .bool c, .bool o]] w fun e w' => e = .returned (.tuple #[.int .u64 (aluR 9 a b z s c o).v, .agg #[.bool (aluR 9 a b z s c o).z, .bool (aluR 9 a b z s c o).s, .bool (aluR 9 a b z s c o).c, .bool (aluR 9 a b z s c o).o]]) ∧ Below w.heap.size w w' := by
  have e : aluR 9 a b z s c o = ⟨a, z, s, c, o⟩ := by simp [aluR, hz]
  rw [e]
  have hz0 : (bits .and .u64 b 63 == 0) = true := by rw [hz]; rfl
  clear hz
  have hu := Try.underlying44
  go_enter Try.func26, Try.ntmps26
  go_wp2
  go_region
  go_wp2
  clear e
  refine bodyPost_ret (v := .tuple #[.int .u64 ((⟨a, z, s, c, o⟩ : AR)).v, .agg #[.bool ((⟨a, z, s, c, o⟩ : AR)).z, .bool ((⟨a, z, s, c, o⟩ : AR)).s, .bool ((⟨a, z, s, c, o⟩ : AR)).c, .bool ((⟨a, z, s, c, o⟩ : AR)).o]]) (by simp [results, Try.results26, go_sem, aluR, tellR, hiB]) rfl ⟨rfl, ?_⟩
  repeat (first | (with_reducible exact HB) | (with_reducible exact Below.refl _ _) | (with_reducible refine Below.drew ?_) | (with_reducible refine Below.setCell ?_ (by first | (simp; done) | (simp; omega)) _) | (with_reducible refine Below.alloc ?_ (by first | (simp; done) | (simp; omega)) _))
set_option maxHeartbeats 1000000 in
theorem Do9n (a b : Int) (z s c o : Bool) (w : World) (hz : bits .and .u64 b 63 ≠ 0) :
    Calls Try.prog 26 #[.int .i64 9, .int .u64 a, .int .u64 b, .agg #[.bool z, .bool s, .bool c, .bool o]] w fun e w' => e = .returned (.tuple #[.int .u64 (aluR 9 a b z s c o).v, .agg #[.bool (aluR 9 a b z s c o).z, .bool (aluR 9 a b z s c o).s, .bool (aluR 9 a b z s c o).c, .bool (aluR 9 a b z s c o).o]]) ∧ Below w.heap.size w w' := by
  have e : aluR 9 a b z s c o = tellR (shlV a (bits .and .u64 b 63)) (shlC a (bits .and .u64 b 63)) false := by simp [aluR, hz]
  rw [e]
  have hz0 : (bits .and .u64 b 63 == 0) = false := by rw [beq_eq_false_iff_ne]; exact hz
  have hl : 1 ≤ bits .and .u64 b 63 := by have := and63 b; omega
  have hh := (and63 b).2
  clear hz e
  have hu := Try.underlying44
  go_enter Try.func26, Try.ntmps26
  go_wp2_with (go_at_call 36; refine (shl_calls _ _ _ (by assumption) (by assumption)).mono ?_; rintro e w1 ⟨rfl, hb⟩; have HB : Below w.heap.size w w1 := ((((Below.refl _ _).alloc (Nat.le_refl _) _).alloc (by simp) _).alloc (by simp; omega) _).trans (hb.mono (by simp; omega)); have hz : w.heap.size + 1 + 1 < w1.heap.size := (by have := hb.size; simp at this; omega); obtain ⟨hc, hf⟩ := bcell hb; have h0 := hc (w.heap.size + 1 + 1) 0 (by simp <;> omega); have h1 := hc (w.heap.size + 1 + 1) 1 (by simp <;> omega); have h2 := hc (w.heap.size + 1 + 1) 2 (by simp <;> omega); have h3 := hc (w.heap.size + 1 + 1) 3 (by simp <;> omega); simp [go_sem] at h0 h1 h2 h3; have g0 := hc (w.heap.size) 0 (by simp <;> omega); have g1 := hc (w.heap.size) 1 (by simp <;> omega); have g2 := hc (w.heap.size) 2 (by simp <;> omega); have g3 := hc (w.heap.size) 3 (by simp <;> omega); simp [go_sem] at g0 g1 g2 g3)
  go_region
  go_wp2
  refine bodyPost_ret (v := .tuple #[.int .u64 (tellR (shlV a (bits .and .u64 b 63)) (shlC a (bits .and .u64 b 63)) false).v, .agg #[.bool (tellR (shlV a (bits .and .u64 b 63)) (shlC a (bits .and .u64 b 63)) false).z, .bool (tellR (shlV a (bits .and .u64 b 63)) (shlC a (bits .and .u64 b 63)) false).s, .bool (tellR (shlV a (bits .and .u64 b 63)) (shlC a (bits .and .u64 b 63)) false).c, .bool (tellR (shlV a (bits .and .u64 b 63)) (shlC a (bits .and .u64 b 63)) false).o]]) (by simp [results, Try.results26, go_sem, aluR, tellR, hiB, h0, h1, h2, h3, hc]) rfl ⟨rfl, ?_⟩
  repeat (first | (with_reducible exact HB) | (with_reducible exact Below.refl _ _) | (with_reducible refine Below.drew ?_) | (with_reducible refine Below.setCell ?_ (by first | (simp; done) | (simp; omega)) _) | (with_reducible refine Below.alloc ?_ (by first | (simp; done) | (simp; omega)) _))
set_option maxHeartbeats 1000000 in
theorem Do9 (a b : Int) (z s c o : Bool) (w : World) :
    Calls Try.prog 26 #[.int .i64 9, .int .u64 a, .int .u64 b, .agg #[.bool z, .bool s, .bool c, .bool o]] w fun e w' => e = .returned (.tuple #[.int .u64 (aluR 9 a b z s c o).v, .agg #[.bool (aluR 9 a b z s c o).z, .bool (aluR 9 a b z s c o).s, .bool (aluR 9 a b z s c o).c, .bool (aluR 9 a b z s c o).o]]) ∧ Below w.heap.size w w' := by
  by_cases hz : bits .and .u64 b 63 = 0
  · exact Do9z a b z s c o w hz
  · exact Do9n a b z s c o w hz

set_option maxHeartbeats 1000000 in
theorem Do10z (a b : Int) (z s c o : Bool) (w : World) (hz : bits .and .u64 b 63 = 0) :
    Calls Try.prog 26 #[.int .i64 10, .int .u64 a, .int .u64 b, .agg #[.bool z, .bool s, .bool c, .bool o]] w fun e w' => e = .returned (.tuple #[.int .u64 (aluR 10 a b z s c o).v, .agg #[.bool (aluR 10 a b z s c o).z, .bool (aluR 10 a b z s c o).s, .bool (aluR 10 a b z s c o).c, .bool (aluR 10 a b z s c o).o]]) ∧ Below w.heap.size w w' := by
  have e : aluR 10 a b z s c o = ⟨a, z, s, c, o⟩ := by simp [aluR, hz]
  rw [e]
  have hz0 : (bits .and .u64 b 63 == 0) = true := by rw [hz]; rfl
  clear hz
  have hu := Try.underlying44
  go_enter Try.func26, Try.ntmps26
  go_wp2
  go_region
  go_wp2
  clear e
  refine bodyPost_ret (v := .tuple #[.int .u64 ((⟨a, z, s, c, o⟩ : AR)).v, .agg #[.bool ((⟨a, z, s, c, o⟩ : AR)).z, .bool ((⟨a, z, s, c, o⟩ : AR)).s, .bool ((⟨a, z, s, c, o⟩ : AR)).c, .bool ((⟨a, z, s, c, o⟩ : AR)).o]]) (by simp [results, Try.results26, go_sem, aluR, tellR, hiB]) rfl ⟨rfl, ?_⟩
  repeat (first | (with_reducible exact HB) | (with_reducible exact Below.refl _ _) | (with_reducible refine Below.drew ?_) | (with_reducible refine Below.setCell ?_ (by first | (simp; done) | (simp; omega)) _) | (with_reducible refine Below.alloc ?_ (by first | (simp; done) | (simp; omega)) _))
set_option maxHeartbeats 1000000 in
theorem Do10n (a b : Int) (z s c o : Bool) (w : World) (hz : bits .and .u64 b 63 ≠ 0) :
    Calls Try.prog 26 #[.int .i64 10, .int .u64 a, .int .u64 b, .agg #[.bool z, .bool s, .bool c, .bool o]] w fun e w' => e = .returned (.tuple #[.int .u64 (aluR 10 a b z s c o).v, .agg #[.bool (aluR 10 a b z s c o).z, .bool (aluR 10 a b z s c o).s, .bool (aluR 10 a b z s c o).c, .bool (aluR 10 a b z s c o).o]]) ∧ Below w.heap.size w w' := by
  have e : aluR 10 a b z s c o = tellR (shrV a (bits .and .u64 b 63)) (shrC a (bits .and .u64 b 63)) false := by simp [aluR, hz]
  rw [e]
  have hz0 : (bits .and .u64 b 63 == 0) = false := by rw [beq_eq_false_iff_ne]; exact hz
  have hl : 1 ≤ bits .and .u64 b 63 := by have := and63 b; omega
  have hh := (and63 b).2
  clear hz e
  have hu := Try.underlying44
  go_enter Try.func26, Try.ntmps26
  go_wp2_with (go_at_call 36; refine (shr_calls _ _ _ (by assumption) (by assumption)).mono ?_; rintro e w1 ⟨rfl, hb⟩; have HB : Below w.heap.size w w1 := ((((Below.refl _ _).alloc (Nat.le_refl _) _).alloc (by simp) _).alloc (by simp; omega) _).trans (hb.mono (by simp; omega)); have hz : w.heap.size + 1 + 1 < w1.heap.size := (by have := hb.size; simp at this; omega); obtain ⟨hc, hf⟩ := bcell hb; have h0 := hc (w.heap.size + 1 + 1) 0 (by simp <;> omega); have h1 := hc (w.heap.size + 1 + 1) 1 (by simp <;> omega); have h2 := hc (w.heap.size + 1 + 1) 2 (by simp <;> omega); have h3 := hc (w.heap.size + 1 + 1) 3 (by simp <;> omega); simp [go_sem] at h0 h1 h2 h3; have g0 := hc (w.heap.size) 0 (by simp <;> omega); have g1 := hc (w.heap.size) 1 (by simp <;> omega); have g2 := hc (w.heap.size) 2 (by simp <;> omega); have g3 := hc (w.heap.size) 3 (by simp <;> omega); simp [go_sem] at g0 g1 g2 g3)
  go_region
  go_wp2
  refine bodyPost_ret (v := .tuple #[.int .u64 (tellR (shrV a (bits .and .u64 b 63)) (shrC a (bits .and .u64 b 63)) false).v, .agg #[.bool (tellR (shrV a (bits .and .u64 b 63)) (shrC a (bits .and .u64 b 63)) false).z, .bool (tellR (shrV a (bits .and .u64 b 63)) (shrC a (bits .and .u64 b 63)) false).s, .bool (tellR (shrV a (bits .and .u64 b 63)) (shrC a (bits .and .u64 b 63)) false).c, .bool (tellR (shrV a (bits .and .u64 b 63)) (shrC a (bits .and .u64 b 63)) false).o]]) (by simp [results, Try.results26, go_sem, aluR, tellR, hiB, h0, h1, h2, h3, hc]) rfl ⟨rfl, ?_⟩
  repeat (first | (with_reducible exact HB) | (with_reducible exact Below.refl _ _) | (with_reducible refine Below.drew ?_) | (with_reducible refine Below.setCell ?_ (by first | (simp; done) | (simp; omega)) _) | (with_reducible refine Below.alloc ?_ (by first | (simp; done) | (simp; omega)) _))
set_option maxHeartbeats 1000000 in
theorem Do10 (a b : Int) (z s c o : Bool) (w : World) :
    Calls Try.prog 26 #[.int .i64 10, .int .u64 a, .int .u64 b, .agg #[.bool z, .bool s, .bool c, .bool o]] w fun e w' => e = .returned (.tuple #[.int .u64 (aluR 10 a b z s c o).v, .agg #[.bool (aluR 10 a b z s c o).z, .bool (aluR 10 a b z s c o).s, .bool (aluR 10 a b z s c o).c, .bool (aluR 10 a b z s c o).o]]) ∧ Below w.heap.size w w' := by
  by_cases hz : bits .and .u64 b 63 = 0
  · exact Do10z a b z s c o w hz
  · exact Do10n a b z s c o w hz

set_option maxHeartbeats 1000000 in
theorem DoNone (op a b : Int) (z s c o : Bool) (w : World) (h0 : ¬ (0 ≤ op ∧ op ≤ 10)) :
    Calls Try.prog 26 #[.int .i64 op, .int .u64 a, .int .u64 b, .agg #[.bool z, .bool s, .bool c, .bool o]] w fun e w' => e = .returned (.tuple #[.int .u64 a, .agg #[.bool z, .bool s, .bool c, .bool o]]) ∧ Below w.heap.size w w' := by
  have hu := Try.underlying44
  have k0 : (op == 0) = false := by rw [beq_eq_false_iff_ne]; omega
  have k1 : (op == 1) = false := by rw [beq_eq_false_iff_ne]; omega
  have k2 : (op == 2) = false := by rw [beq_eq_false_iff_ne]; omega
  have k3 : (op == 3) = false := by rw [beq_eq_false_iff_ne]; omega
  have k4 : (op == 4) = false := by rw [beq_eq_false_iff_ne]; omega
  have k5 : (op == 5) = false := by rw [beq_eq_false_iff_ne]; omega
  have k6 : (op == 6) = false := by rw [beq_eq_false_iff_ne]; omega
  have k7 : (op == 7) = false := by rw [beq_eq_false_iff_ne]; omega
  have k8 : (op == 8) = false := by rw [beq_eq_false_iff_ne]; omega
  have k9 : (op == 9) = false := by rw [beq_eq_false_iff_ne]; omega
  have k10 : (op == 10) = false := by rw [beq_eq_false_iff_ne]; omega
  clear h0
  go_enter Try.func26, Try.ntmps26
  go_wp2
  go_region
  go_wp2
  refine bodyPost_ret (v := .tuple #[.int .u64 a, .agg #[.bool z, .bool s, .bool c, .bool o]]) (by simp [results, Try.results26, go_sem]) rfl ⟨rfl, ?_⟩
  repeat (first | (with_reducible exact HB) | (with_reducible exact Below.refl _ _) | (with_reducible refine Below.drew ?_) | (with_reducible refine Below.setCell ?_ (by first | (simp; done) | (simp; omega)) _) | (with_reducible refine Below.alloc ?_ (by first | (simp; done) | (simp; omega)) _))

theorem Do_calls (op a b : Int) (z s c o : Bool) (w : World) :
    Calls Try.prog 26 #[.int .i64 op, .int .u64 a, .int .u64 b, .agg #[.bool z, .bool s, .bool c, .bool o]] w fun e w' => e = .returned (.tuple #[.int .u64 (aluR op a b z s c o).v, .agg #[.bool (aluR op a b z s c o).z, .bool (aluR op a b z s c o).s, .bool (aluR op a b z s c o).c, .bool (aluR op a b z s c o).o]]) ∧ Below w.heap.size w w' := by
  by_cases h : 0 ≤ op ∧ op ≤ 10
  · have : op = 0 ∨ op = 1 ∨ op = 2 ∨ op = 3 ∨ op = 4 ∨ op = 5 ∨ op = 6 ∨ op = 7 ∨ op = 8 ∨ op = 9 ∨ op = 10 := by omega
    rcases this with rfl | rfl | rfl | rfl | rfl | rfl | rfl | rfl | rfl | rfl | rfl
    · exact Do0 a b z s c o w
    · exact Do1 a b z s c o w
    · exact Do2 a b z s c o w
    · exact Do3 a b z s c o w
    · exact Do4 a b z s c o w
    · exact Do5 a b z s c o w
    · exact Do6 a b z s c o w
    · exact Do7 a b z s c o w
    · exact Do8 a b z s c o w
    · exact Do9 a b z s c o w
    · exact Do10 a b z s c o w
  · have e : aluR op a b z s c o = ⟨a, z, s, c, o⟩ := by
      unfold aluR
      rw [if_neg (by omega), if_neg (by omega), if_neg (by omega), if_neg (by omega), if_neg (by omega), if_neg (by omega), if_neg (by omega), if_neg (by omega), if_neg (by omega), if_neg (by omega)]
    rw [e]
    exact DoNone op a b z s c o w h

def condB (cc : Int) (z s c o : Bool) : Bool :=
  if cc = 2 then c else if cc = 3 then !c else if cc = 4 then z else if cc = 5 then !z else if cc = 8 then s else if cc = 9 then !s
  else if cc = 12 then s != o else if cc = 13 then s == o else false
set_option maxHeartbeats 1000000 in
theorem cond2 (z s c o : Bool) (w : World) :
    Calls Try.prog 29 #[.int .i64 2, .agg #[.bool z, .bool s, .bool c, .bool o]] w fun e w' => e = .returned (.bool (condB 2 z s c o)) ∧ Below w.heap.size w w' := by
  have hu := Try.underlying44
  go_enter Try.func29, Try.ntmps29
  go_wp2
  go_ret
  refine ⟨by first | (simp [condB]; done) | (cases s <;> cases o <;> simp [condB]), ?_⟩
  repeat (first | (with_reducible exact HB) | (with_reducible exact Below.refl _ _) | (with_reducible refine Below.drew ?_) | (with_reducible refine Below.setCell ?_ (by first | (simp; done) | (simp; omega)) _) | (with_reducible refine Below.alloc ?_ (by first | (simp; done) | (simp; omega)) _))

set_option maxHeartbeats 1000000 in
theorem cond3 (z s c o : Bool) (w : World) :
    Calls Try.prog 29 #[.int .i64 3, .agg #[.bool z, .bool s, .bool c, .bool o]] w fun e w' => e = .returned (.bool (condB 3 z s c o)) ∧ Below w.heap.size w w' := by
  have hu := Try.underlying44
  go_enter Try.func29, Try.ntmps29
  go_wp2
  go_ret
  refine ⟨by first | (simp [condB]; done) | (cases s <;> cases o <;> simp [condB]), ?_⟩
  repeat (first | (with_reducible exact HB) | (with_reducible exact Below.refl _ _) | (with_reducible refine Below.drew ?_) | (with_reducible refine Below.setCell ?_ (by first | (simp; done) | (simp; omega)) _) | (with_reducible refine Below.alloc ?_ (by first | (simp; done) | (simp; omega)) _))

set_option maxHeartbeats 1000000 in
theorem cond4 (z s c o : Bool) (w : World) :
    Calls Try.prog 29 #[.int .i64 4, .agg #[.bool z, .bool s, .bool c, .bool o]] w fun e w' => e = .returned (.bool (condB 4 z s c o)) ∧ Below w.heap.size w w' := by
  have hu := Try.underlying44
  go_enter Try.func29, Try.ntmps29
  go_wp2
  go_ret
  refine ⟨by first | (simp [condB]; done) | (cases s <;> cases o <;> simp [condB]), ?_⟩
  repeat (first | (with_reducible exact HB) | (with_reducible exact Below.refl _ _) | (with_reducible refine Below.drew ?_) | (with_reducible refine Below.setCell ?_ (by first | (simp; done) | (simp; omega)) _) | (with_reducible refine Below.alloc ?_ (by first | (simp; done) | (simp; omega)) _))

set_option maxHeartbeats 1000000 in
theorem cond5 (z s c o : Bool) (w : World) :
    Calls Try.prog 29 #[.int .i64 5, .agg #[.bool z, .bool s, .bool c, .bool o]] w fun e w' => e = .returned (.bool (condB 5 z s c o)) ∧ Below w.heap.size w w' := by
  have hu := Try.underlying44
  go_enter Try.func29, Try.ntmps29
  go_wp2
  go_ret
  refine ⟨by first | (simp [condB]; done) | (cases s <;> cases o <;> simp [condB]), ?_⟩
  repeat (first | (with_reducible exact HB) | (with_reducible exact Below.refl _ _) | (with_reducible refine Below.drew ?_) | (with_reducible refine Below.setCell ?_ (by first | (simp; done) | (simp; omega)) _) | (with_reducible refine Below.alloc ?_ (by first | (simp; done) | (simp; omega)) _))

set_option maxHeartbeats 1000000 in
theorem cond8 (z s c o : Bool) (w : World) :
    Calls Try.prog 29 #[.int .i64 8, .agg #[.bool z, .bool s, .bool c, .bool o]] w fun e w' => e = .returned (.bool (condB 8 z s c o)) ∧ Below w.heap.size w w' := by
  have hu := Try.underlying44
  go_enter Try.func29, Try.ntmps29
  go_wp2
  go_ret
  refine ⟨by first | (simp [condB]; done) | (cases s <;> cases o <;> simp [condB]), ?_⟩
  repeat (first | (with_reducible exact HB) | (with_reducible exact Below.refl _ _) | (with_reducible refine Below.drew ?_) | (with_reducible refine Below.setCell ?_ (by first | (simp; done) | (simp; omega)) _) | (with_reducible refine Below.alloc ?_ (by first | (simp; done) | (simp; omega)) _))

set_option maxHeartbeats 1000000 in
theorem cond9 (z s c o : Bool) (w : World) :
    Calls Try.prog 29 #[.int .i64 9, .agg #[.bool z, .bool s, .bool c, .bool o]] w fun e w' => e = .returned (.bool (condB 9 z s c o)) ∧ Below w.heap.size w w' := by
  have hu := Try.underlying44
  go_enter Try.func29, Try.ntmps29
  go_wp2
  go_ret
  refine ⟨by first | (simp [condB]; done) | (cases s <;> cases o <;> simp [condB]), ?_⟩
  repeat (first | (with_reducible exact HB) | (with_reducible exact Below.refl _ _) | (with_reducible refine Below.drew ?_) | (with_reducible refine Below.setCell ?_ (by first | (simp; done) | (simp; omega)) _) | (with_reducible refine Below.alloc ?_ (by first | (simp; done) | (simp; omega)) _))

set_option maxHeartbeats 1000000 in
theorem cond12 (z s c o : Bool) (w : World) :
    Calls Try.prog 29 #[.int .i64 12, .agg #[.bool z, .bool s, .bool c, .bool o]] w fun e w' => e = .returned (.bool (condB 12 z s c o)) ∧ Below w.heap.size w w' := by
  have hu := Try.underlying44
  go_enter Try.func29, Try.ntmps29
  go_wp2
  go_ret
  refine ⟨by first | (simp [condB]; done) | (cases s <;> cases o <;> simp [condB]), ?_⟩
  repeat (first | (with_reducible exact HB) | (with_reducible exact Below.refl _ _) | (with_reducible refine Below.drew ?_) | (with_reducible refine Below.setCell ?_ (by first | (simp; done) | (simp; omega)) _) | (with_reducible refine Below.alloc ?_ (by first | (simp; done) | (simp; omega)) _))

set_option maxHeartbeats 1000000 in
theorem cond13 (z s c o : Bool) (w : World) :
    Calls Try.prog 29 #[.int .i64 13, .agg #[.bool z, .bool s, .bool c, .bool o]] w fun e w' => e = .returned (.bool (condB 13 z s c o)) ∧ Below w.heap.size w w' := by
  have hu := Try.underlying44
  go_enter Try.func29, Try.ntmps29
  go_wp2
  go_ret
  refine ⟨by first | (simp [condB]; done) | (cases s <;> cases o <;> simp [condB]), ?_⟩
  repeat (first | (with_reducible exact HB) | (with_reducible exact Below.refl _ _) | (with_reducible refine Below.drew ?_) | (with_reducible refine Below.setCell ?_ (by first | (simp; done) | (simp; omega)) _) | (with_reducible refine Below.alloc ?_ (by first | (simp; done) | (simp; omega)) _))

set_option maxHeartbeats 1000000 in
theorem condNone (cc : Int) (z s c o : Bool) (w : World) (h2 : (cc == 2) = false) (h3 : (cc == 3) = false) (h4 : (cc == 4) = false) (h5 : (cc == 5) = false) (h8 : (cc == 8) = false) (h9 : (cc == 9) = false) (h12 : (cc == 12) = false) (h13 : (cc == 13) = false) :
    Calls Try.prog 29 #[.int .i64 cc, .agg #[.bool z, .bool s, .bool c, .bool o]] w fun e w' => e = .returned (.bool false) ∧ Below w.heap.size w w' := by
  have hu := Try.underlying44
  go_enter Try.func29, Try.ntmps29
  go_wp2
  go_ret
  refine ⟨rfl, ?_⟩
  repeat (first | (with_reducible exact HB) | (with_reducible exact Below.refl _ _) | (with_reducible refine Below.drew ?_) | (with_reducible refine Below.setCell ?_ (by first | (simp; done) | (simp; omega)) _) | (with_reducible refine Below.alloc ?_ (by first | (simp; done) | (simp; omega)) _))
theorem Cond_calls (cc : Int) (z s c o : Bool) (w : World) :
    Calls Try.prog 29 #[.int .i64 cc, .agg #[.bool z, .bool s, .bool c, .bool o]] w fun e w' => e = .returned (.bool (condB cc z s c o)) ∧ Below w.heap.size w w' := by
  by_cases h : cc = 2 ∨ cc = 3 ∨ cc = 4 ∨ cc = 5 ∨ cc = 8 ∨ cc = 9 ∨ cc = 12 ∨ cc = 13
  · rcases h with rfl | rfl | rfl | rfl | rfl | rfl | rfl | rfl
    · exact cond2 z s c o w
    · exact cond3 z s c o w
    · exact cond4 z s c o w
    · exact cond5 z s c o w
    · exact cond8 z s c o w
    · exact cond9 z s c o w
    · exact cond12 z s c o w
    · exact cond13 z s c o w
  · have e : condB cc z s c o = false := by
      unfold condB
      rw [if_neg (by omega), if_neg (by omega), if_neg (by omega), if_neg (by omega), if_neg (by omega), if_neg (by omega), if_neg (by omega), if_neg (by omega)]
    rw [e]
    exact condNone cc z s c o w (by rw [beq_eq_false_iff_ne]; omega) (by rw [beq_eq_false_iff_ne]; omega) (by rw [beq_eq_false_iff_ne]; omega) (by rw [beq_eq_false_iff_ne]; omega) (by rw [beq_eq_false_iff_ne]; omega) (by rw [beq_eq_false_iff_ne]; omega) (by rw [beq_eq_false_iff_ne]; omega) (by rw [beq_eq_false_iff_ne]; omega)
end Go.Proofs.Ytcmpcejbephaeaa
