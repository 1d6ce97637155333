/- The contracts of the reference's told, add, sub, Alu and Cond: they compute rTell, rAdd, rSub, rAlu, condB, and change no memory that was there. -/
import Derived.Test.YtcmpcejbephaeaaAlu
namespace Go.Proofs.Ytcmpcejbephaeaa
open Go.RowKit
set_option linter.unusedVariables false
set_option linter.unusedSimpArgs false
attribute [local go_sem ↓] cell_set_isSome
def rTell (v : Int) (c o : Bool) : AR := ⟨v, v == 0, v / 9223372036854775808 == 1, c, o⟩
def rAdd (a b : Int) : AR := rTell (IntKind.u64.wrap (a + b)) (decide (IntKind.u64.wrap (a + b) < a)) (bits .and .u64 (bits .xor .u64 a (IntKind.u64.wrap (a + b))) (bits .xor .u64 b (IntKind.u64.wrap (a + b))) / 9223372036854775808 == 1)
def rSub (a b : Int) : AR := rTell (IntKind.u64.wrap (a - b)) (decide (a < b)) (bits .and .u64 (bits .xor .u64 a b) (bits .xor .u64 a (IntKind.u64.wrap (a - b))) / 9223372036854775808 == 1)
set_option maxHeartbeats 400000 in
theorem told_calls (v : Int) (c o : Bool) (w : World) :
    Calls Try.prog 39 #[.int .u64 v, .bool c, .bool o] w fun e w' => e = .returned (.agg #[.int .u64 (rTell v c o).v, .bool (rTell v c o).z, .bool (rTell v c o).s, .bool (rTell v c o).c, .bool (rTell v c o).o]) ∧ Below w.heap.size w w' := by
  have hu := Try.underlying44
  have hu2 := Try.underlying51
  go_enter Try.func39, Try.ntmps39
  go_wp2
  refine bodyPost_ret (v := .agg #[.int .u64 (rTell v c o).v, .bool (rTell v c o).z, .bool (rTell v c o).s, .bool (rTell v c o).c, .bool (rTell v c o).o]) (by simp [results, Try.results39, go_sem, rTell]) rfl ⟨rfl, ?_⟩
  repeat (first | (with_reducible exact HB) | (with_reducible exact Below.refl _ _) | (with_reducible refine Below.drew ?_) | (with_reducible refine Below.setCell ?_ (by first | (simp; done) | (simp; omega) | omega) _) | (with_reducible refine Below.alloc ?_ (by first | (simp; done) | (simp; omega) | omega) _))
set_option maxHeartbeats 400000 in
theorem radd_calls (a b : Int) (w : World) :
    Calls Try.prog 37 #[.int .u64 a, .int .u64 b] w fun e w' => e = .returned (.agg #[.int .u64 (rAdd a b).v, .bool (rAdd a b).z, .bool (rAdd a b).s, .bool (rAdd a b).c, .bool (rAdd a b).o]) ∧ Below w.heap.size w w' := by
  have hu := Try.underlying44
  have hu2 := Try.underlying51
  go_enter Try.func37, Try.ntmps37
  go_wp2_with (go_at_call 39; refine (told_calls _ _ _ _).mono ?_; rintro e w1 ⟨rfl, hb⟩; have HB : Below w.heap.size w w1 := (Below.alloc (Below.refl _ _) (by first | (simp; done) | (simp; omega) | omega) _).trans (hb.mono (by first | (simp; done) | (simp; omega))); have hz : w.heap.size < w1.heap.size := (by have := hb.size; simp at this; omega); obtain ⟨hc, hf⟩ := bcell hb; have h0 := hc (w.heap.size) 0 (by simp <;> omega); have h1 := hc (w.heap.size) 1 (by simp <;> omega); have h2 := hc (w.heap.size) 2 (by simp <;> omega); have h3 := hc (w.heap.size) 3 (by simp <;> omega); have h4 := hc (w.heap.size) 4 (by simp <;> omega); simp [go_sem] at h0 h1 h2 h3 h4)
  refine bodyPost_ret (v := .agg #[.int .u64 (rAdd a b).v, .bool (rAdd a b).z, .bool (rAdd a b).s, .bool (rAdd a b).c, .bool (rAdd a b).o]) (by simp [results, Try.results37, go_sem, rAdd, h0, h1, h2, h3, h4]) rfl ⟨rfl, ?_⟩
  repeat (first | (with_reducible exact HB) | (with_reducible exact Below.refl _ _) | (with_reducible refine Below.drew ?_) | (with_reducible refine Below.setCell ?_ (by first | (simp; done) | (simp; omega) | omega) _) | (with_reducible refine Below.alloc ?_ (by first | (simp; done) | (simp; omega) | omega) _))

set_option maxHeartbeats 400000 in
theorem rsub_calls (a b : Int) (w : World) :
    Calls Try.prog 38 #[.int .u64 a, .int .u64 b] w fun e w' => e = .returned (.agg #[.int .u64 (rSub a b).v, .bool (rSub a b).z, .bool (rSub a b).s, .bool (rSub a b).c, .bool (rSub a b).o]) ∧ Below w.heap.size w w' := by
  have hu := Try.underlying44
  have hu2 := Try.underlying51
  go_enter Try.func38, Try.ntmps38
  go_wp2_with (go_at_call 39; refine (told_calls _ _ _ _).mono ?_; rintro e w1 ⟨rfl, hb⟩; have HB : Below w.heap.size w w1 := (Below.alloc (Below.refl _ _) (by first | (simp; done) | (simp; omega) | omega) _).trans (hb.mono (by first | (simp; done) | (simp; omega))); have hz : w.heap.size < w1.heap.size := (by have := hb.size; simp at this; omega); obtain ⟨hc, hf⟩ := bcell hb; have h0 := hc (w.heap.size) 0 (by simp <;> omega); have h1 := hc (w.heap.size) 1 (by simp <;> omega); have h2 := hc (w.heap.size) 2 (by simp <;> omega); have h3 := hc (w.heap.size) 3 (by simp <;> omega); have h4 := hc (w.heap.size) 4 (by simp <;> omega); simp [go_sem] at h0 h1 h2 h3 h4)
  refine bodyPost_ret (v := .agg #[.int .u64 (rSub a b).v, .bool (rSub a b).z, .bool (rSub a b).s, .bool (rSub a b).c, .bool (rSub a b).o]) (by simp [results, Try.results38, go_sem, rSub, h0, h1, h2, h3, h4]) rfl ⟨rfl, ?_⟩
  repeat (first | (with_reducible exact HB) | (with_reducible exact Below.refl _ _) | (with_reducible refine Below.drew ?_) | (with_reducible refine Below.setCell ?_ (by first | (simp; done) | (simp; omega) | omega) _) | (with_reducible refine Below.alloc ?_ (by first | (simp; done) | (simp; omega) | omega) _))

theorem field_F (v : Int) (z s c o : Bool) (w : World) : (Instr.field 51 (.agg #[.int .u64 v, .bool z, .bool s, .bool c, .bool o]) 1).run Try.prog w = .ok (.agg #[.bool z, .bool s, .bool c, .bool o]) w := by
  kernel_rfl
def rAlu (op a b : Int) (z s c o : Bool) : AR :=
  if op = 0 then rAdd a b
  else if op = 1 then rSub a b
  else if op = 7 then { rSub a b with v := a }
  else if op = 2 then rTell (bits .and .u64 a b) false false
  else if op = 8 then { rTell (bits .and .u64 a b) false false with v := a }
  else if op = 3 then rTell (bits .or .u64 a b) false false
  else if op = 4 then rTell (bits .xor .u64 a b) false false
  else if op = 5 then { rAdd a 1 with c := c }
  else if op = 6 then { rSub a 1 with c := c }
  else if op = 9 ∨ op = 10 then
    if bits .and .u64 b 63 = 0 then ⟨a, z, s, c, o⟩
    else if op = 9 then rTell (shlV a (bits .and .u64 b 63)) (shlC a (bits .and .u64 b 63)) false
    else rTell (shrV a (bits .and .u64 b 63)) (shrC a (bits .and .u64 b 63)) false
  else ⟨a, z, s, c, o⟩
set_option maxHeartbeats 1000000 in
theorem rAlu0 (a b : Int) (z s c o : Bool) (w : World) :
    Calls Try.prog 28 #[.int .i64 0, .int .u64 a, .int .u64 b, .agg #[.bool z, .bool s, .bool c, .bool o]] w fun e w' => e = .returned (.agg #[.int .u64 (rAlu 0 a b z s c o).v, .bool (rAlu 0 a b z s c o).z, .bool (rAlu 0 a b z s c o).s, .bool (rAlu 0 a b z s c o).c, .bool (rAlu 0 a b z s c o).o]) ∧ Below w.heap.size w w' := by
  have hu := Try.underlying44
  have hu2 := Try.underlying51
  have hfl := field_F
  go_enter Try.func28, Try.ntmps28
  go_wp2_with (go_at_call 37; refine (radd_calls _ _ _).mono ?_; rintro e w1 ⟨rfl, hb⟩; have HB : Below w.heap.size w w1 := (Below.alloc (Below.alloc (Below.alloc (Below.refl _ _) (by first | (simp; done) | (simp; omega) | omega) _) (by first | (simp; done) | (simp; omega) | omega) _) (by first | (simp; done) | (simp; omega) | omega) _).trans (hb.mono (by first | (simp; done) | (simp; omega))); have hz : w.heap.size + 1 + 1 < w1.heap.size := (by have := hb.size; simp at this; omega); obtain ⟨hc, hf⟩ := bcell hb; have h0 := hc (w.heap.size) 0 (by simp <;> omega); have h1 := hc (w.heap.size) 1 (by simp <;> omega); have h2 := hc (w.heap.size) 2 (by simp <;> omega); have h3 := hc (w.heap.size) 3 (by simp <;> omega); simp [go_sem] at h0 h1 h2 h3; have g0 := hc (w.heap.size + 1) 0 (by simp <;> omega); have g1 := hc (w.heap.size + 1) 1 (by simp <;> omega); have g2 := hc (w.heap.size + 1) 2 (by simp <;> omega); have g3 := hc (w.heap.size + 1) 3 (by simp <;> omega); have g4 := hc (w.heap.size + 1) 4 (by simp <;> omega); simp [go_sem] at g0 g1 g2 g3 g4; have k0 := hc (w.heap.size + 1 + 1) 0 (by simp <;> omega); have k1 := hc (w.heap.size + 1 + 1) 1 (by simp <;> omega); have k2 := hc (w.heap.size + 1 + 1) 2 (by simp <;> omega); have k3 := hc (w.heap.size + 1 + 1) 3 (by simp <;> omega); have k4 := hc (w.heap.size + 1 + 1) 4 (by simp <;> omega); simp [go_sem] at k0 k1 k2 k3 k4)
  refine bodyPost_ret (v := .agg #[.int .u64 (rAlu 0 a b z s c o).v, .bool (rAlu 0 a b z s c o).z, .bool (rAlu 0 a b z s c o).s, .bool (rAlu 0 a b z s c o).c, .bool (rAlu 0 a b z s c o).o]) (by simp [results, Try.results28, go_sem, h0, h1, h2, h3, g0, g1, g2, g3, g4, k0, k1, k2, k3, k4, hc, rAlu]) rfl ⟨rfl, ?_⟩
  repeat (first | (with_reducible exact HB) | (with_reducible exact Below.refl _ _) | (with_reducible refine Below.drew ?_) | (with_reducible refine Below.setCell ?_ (by first | (simp; done) | (simp; omega) | omega) _) | (with_reducible refine Below.alloc ?_ (by first | (simp; done) | (simp; omega) | omega) _))

set_option maxHeartbeats 1000000 in
theorem rAlu1 (a b : Int) (z s c o : Bool) (w : World) :
    Calls Try.prog 28 #[.int .i64 1, .int .u64 a, .int .u64 b, .agg #[.bool z, .bool s, .bool c, .bool o]] w fun e w' => e = .returned (.agg #[.int .u64 (rAlu 1 a b z s c o).v, .bool (rAlu 1 a b z s c o).z, .bool (rAlu 1 a b z s c o).s, .bool (rAlu 1 a b z s c o).c, .bool (rAlu 1 a b z s c o).o]) ∧ Below w.heap.size w w' := by
  have hu := Try.underlying44
  have hu2 := Try.underlying51
  have hfl := field_F
  go_enter Try.func28, Try.ntmps28
  go_wp2_with (go_at_call 38; refine (rsub_calls _ _ _).mono ?_; rintro e w1 ⟨rfl, hb⟩; have HB : Below w.heap.size w w1 := (Below.alloc (Below.alloc (Below.alloc (Below.refl _ _) (by first | (simp; done) | (simp; omega) | omega) _) (by first | (simp; done) | (simp; omega) | omega) _) (by first | (simp; done) | (simp; omega) | omega) _).trans (hb.mono (by first | (simp; done) | (simp; omega))); have hz : w.heap.size + 1 + 1 < w1.heap.size := (by have := hb.size; simp at this; omega); obtain ⟨hc, hf⟩ := bcell hb; have h0 := hc (w.heap.size) 0 (by simp <;> omega); have h1 := hc (w.heap.size) 1 (by simp <;> omega); have h2 := hc (w.heap.size) 2 (by simp <;> omega); have h3 := hc (w.heap.size) 3 (by simp <;> omega); simp [go_sem] at h0 h1 h2 h3; have g0 := hc (w.heap.size + 1) 0 (by simp <;> omega); have g1 := hc (w.heap.size + 1) 1 (by simp <;> omega); have g2 := hc (w.heap.size + 1) 2 (by simp <;> omega); have g3 := hc (w.heap.size + 1) 3 (by simp <;> omega); have g4 := hc (w.heap.size + 1) 4 (by simp <;> omega); simp [go_sem] at g0 g1 g2 g3 g4; have k0 := hc (w.heap.size + 1 + 1) 0 (by simp <;> omega); have k1 := hc (w.heap.size + 1 + 1) 1 (by simp <;> omega); have k2 := hc (w.heap.size + 1 + 1) 2 (by simp <;> omega); have k3 := hc (w.heap.size + 1 + 1) 3 (by simp <;> omega); have k4 := hc (w.heap.size + 1 + 1) 4 (by simp <;> omega); simp [go_sem] at k0 k1 k2 k3 k4)
  refine bodyPost_ret (v := .agg #[.int .u64 (rAlu 1 a b z s c o).v, .bool (rAlu 1 a b z s c o).z, .bool (rAlu 1 a b z s c o).s, .bool (rAlu 1 a b z s c o).c, .bool (rAlu 1 a b z s c o).o]) (by simp [results, Try.results28, go_sem, h0, h1, h2, h3, g0, g1, g2, g3, g4, k0, k1, k2, k3, k4, hc, rAlu]) rfl ⟨rfl, ?_⟩
  repeat (first | (with_reducible exact HB) | (with_reducible exact Below.refl _ _) | (with_reducible refine Below.drew ?_) | (with_reducible refine Below.setCell ?_ (by first | (simp; done) | (simp; omega) | omega) _) | (with_reducible refine Below.alloc ?_ (by first | (simp; done) | (simp; omega) | omega) _))

set_option maxHeartbeats 1000000 in
theorem rAlu7 (a b : Int) (z s c o : Bool) (w : World) :
    Calls Try.prog 28 #[.int .i64 7, .int .u64 a, .int .u64 b, .agg #[.bool z, .bool s, .bool c, .bool o]] w fun e w' => e = .returned (.agg #[.int .u64 (rAlu 7 a b z s c o).v, .bool (rAlu 7 a b z s c o).z, .bool (rAlu 7 a b z s c o).s, .bool (rAlu 7 a b z s c o).c, .bool (rAlu 7 a b z s c o).o]) ∧ Below w.heap.size w w' := by
  have hu := Try.underlying44
  have hu2 := Try.underlying51
  have hfl := field_F
  go_enter Try.func28, Try.ntmps28
  go_wp2_with (go_at_call 38; refine (rsub_calls _ _ _).mono ?_; rintro e w1 ⟨rfl, hb⟩; have HB : Below w.heap.size w w1 := (Below.alloc (Below.alloc (Below.alloc (Below.refl _ _) (by first | (simp; done) | (simp; omega) | omega) _) (by first | (simp; done) | (simp; omega) | omega) _) (by first | (simp; done) | (simp; omega) | omega) _).trans (hb.mono (by first | (simp; done) | (simp; omega))); have hz : w.heap.size + 1 + 1 < w1.heap.size := (by have := hb.size; simp at this; omega); obtain ⟨hc, hf⟩ := bcell hb; have h0 := hc (w.heap.size) 0 (by simp <;> omega); have h1 := hc (w.heap.size) 1 (by simp <;> omega); have h2 := hc (w.heap.size) 2 (by simp <;> omega); have h3 := hc (w.heap.size) 3 (by simp <;> omega); simp [go_sem] at h0 h1 h2 h3; have g0 := hc (w.heap.size + 1) 0 (by simp <;> omega); have g1 := hc (w.heap.size + 1) 1 (by simp <;> omega); have g2 := hc (w.heap.size + 1) 2 (by simp <;> omega); have g3 := hc (w.heap.size + 1) 3 (by simp <;> omega); have g4 := hc (w.heap.size + 1) 4 (by simp <;> omega); simp [go_sem] at g0 g1 g2 g3 g4; have k0 := hc (w.heap.size + 1 + 1) 0 (by simp <;> omega); have k1 := hc (w.heap.size + 1 + 1) 1 (by simp <;> omega); have k2 := hc (w.heap.size + 1 + 1) 2 (by simp <;> omega); have k3 := hc (w.heap.size + 1 + 1) 3 (by simp <;> omega); have k4 := hc (w.heap.size + 1 + 1) 4 (by simp <;> omega); simp [go_sem] at k0 k1 k2 k3 k4)
  refine bodyPost_ret (v := .agg #[.int .u64 (rAlu 7 a b z s c o).v, .bool (rAlu 7 a b z s c o).z, .bool (rAlu 7 a b z s c o).s, .bool (rAlu 7 a b z s c o).c, .bool (rAlu 7 a b z s c o).o]) (by simp [results, Try.results28, go_sem, h0, h1, h2, h3, g0, g1, g2, g3, g4, k0, k1, k2, k3, k4, hc, rAlu]) rfl ⟨rfl, ?_⟩
  repeat (first | (with_reducible exact HB) | (with_reducible exact Below.refl _ _) | (with_reducible refine Below.drew ?_) | (with_reducible refine Below.setCell ?_ (by first | (simp; done) | (simp; omega) | omega) _) | (with_reducible refine Below.alloc ?_ (by first | (simp; done) | (simp; omega) | omega) _))

set_option maxHeartbeats 1000000 in
theorem rAlu2 (a b : Int) (z s c o : Bool) (w : World) :
    Calls Try.prog 28 #[.int .i64 2, .int .u64 a, .int .u64 b, .agg #[.bool z, .bool s, .bool c, .bool o]] w fun e w' => e = .returned (.agg #[.int .u64 (rAlu 2 a b z s c o).v, .bool (rAlu 2 a b z s c o).z, .bool (rAlu 2 a b z s c o).s, .bool (rAlu 2 a b z s c o).c, .bool (rAlu 2 a b z s c o).o]) ∧ Below w.heap.size w w' := by
  have hu := Try.underlying44
  have hu2 := Try.underlying51
  have hfl := field_F
  go_enter Try.func28, Try.ntmps28
  go_wp2_with (go_at_call 39; refine (told_calls _ _ _ _).mono ?_; rintro e w1 ⟨rfl, hb⟩; have HB : Below w.heap.size w w1 := (Below.alloc (Below.alloc (Below.alloc (Below.refl _ _) (by first | (simp; done) | (simp; omega) | omega) _) (by first | (simp; done) | (simp; omega) | omega) _) (by first | (simp; done) | (simp; omega) | omega) _).trans (hb.mono (by first | (simp; done) | (simp; omega))); have hz : w.heap.size + 1 + 1 < w1.heap.size := (by have := hb.size; simp at this; omega); obtain ⟨hc, hf⟩ := bcell hb; have h0 := hc (w.heap.size) 0 (by simp <;> omega); have h1 := hc (w.heap.size) 1 (by simp <;> omega); have h2 := hc (w.heap.size) 2 (by simp <;> omega); have h3 := hc (w.heap.size) 3 (by simp <;> omega); simp [go_sem] at h0 h1 h2 h3; have g0 := hc (w.heap.size + 1) 0 (by simp <;> omega); have g1 := hc (w.heap.size + 1) 1 (by simp <;> omega); have g2 := hc (w.heap.size + 1) 2 (by simp <;> omega); have g3 := hc (w.heap.size + 1) 3 (by simp <;> omega); have g4 := hc (w.heap.size + 1) 4 (by simp <;> omega); simp [go_sem] at g0 g1 g2 g3 g4; have k0 := hc (w.heap.size + 1 + 1) 0 (by simp <;> omega); have k1 := hc (w.heap.size + 1 + 1) 1 (by simp <;> omega); have k2 := hc (w.heap.size + 1 + 1) 2 (by simp <;> omega); have k3 := hc (w.heap.size + 1 + 1) 3 (by simp <;> omega); have k4 := hc (w.heap.size + 1 + 1) 4 (by simp <;> omega); simp [go_sem] at k0 k1 k2 k3 k4)
  refine bodyPost_ret (v := .agg #[.int .u64 (rAlu 2 a b z s c o).v, .bool (rAlu 2 a b z s c o).z, .bool (rAlu 2 a b z s c o).s, .bool (rAlu 2 a b z s c o).c, .bool (rAlu 2 a b z s c o).o]) (by simp [results, Try.results28, go_sem, h0, h1, h2, h3, g0, g1, g2, g3, g4, k0, k1, k2, k3, k4, hc, rAlu]) rfl ⟨rfl, ?_⟩
  repeat (first | (with_reducible exact HB) | (with_reducible exact Below.refl _ _) | (with_reducible refine Below.drew ?_) | (with_reducible refine Below.setCell ?_ (by first | (simp; done) | (simp; omega) | omega) _) | (with_reducible refine Below.alloc ?_ (by first | (simp; done) | (simp; omega) | omega) _))

set_option maxHeartbeats 1000000 in
theorem rAlu8 (a b : Int) (z s c o : Bool) (w : World) :
    Calls Try.prog 28 #[.int .i64 8, .int .u64 a, .int .u64 b, .agg #[.bool z, .bool s, .bool c, .bool o]] w fun e w' => e = .returned (.agg #[.int .u64 (rAlu 8 a b z s c o).v, .bool (rAlu 8 a b z s c o).z, .bool (rAlu 8 a b z s c o).s, .bool (rAlu 8 a b z s c o).c, .bool (rAlu 8 a b z s c o).o]) ∧ Below w.heap.size w w' := by
  have hu := Try.underlying44
  have hu2 := Try.underlying51
  have hfl := field_F
  go_enter Try.func28, Try.ntmps28
  go_wp2_with (go_at_call 39; refine (told_calls _ _ _ _).mono ?_; rintro e w1 ⟨rfl, hb⟩; have HB : Below w.heap.size w w1 := (Below.alloc (Below.alloc (Below.alloc (Below.refl _ _) (by first | (simp; done) | (simp; omega) | omega) _) (by first | (simp; done) | (simp; omega) | omega) _) (by first | (simp; done) | (simp; omega) | omega) _).trans (hb.mono (by first | (simp; done) | (simp; omega))); have hz : w.heap.size + 1 + 1 < w1.heap.size := (by have := hb.size; simp at this; omega); obtain ⟨hc, hf⟩ := bcell hb; have h0 := hc (w.heap.size) 0 (by simp <;> omega); have h1 := hc (w.heap.size) 1 (by simp <;> omega); have h2 := hc (w.heap.size) 2 (by simp <;> omega); have h3 := hc (w.heap.size) 3 (by simp <;> omega); simp [go_sem] at h0 h1 h2 h3; have g0 := hc (w.heap.size + 1) 0 (by simp <;> omega); have g1 := hc (w.heap.size + 1) 1 (by simp <;> omega); have g2 := hc (w.heap.size + 1) 2 (by simp <;> omega); have g3 := hc (w.heap.size + 1) 3 (by simp <;> omega); have g4 := hc (w.heap.size + 1) 4 (by simp <;> omega); simp [go_sem] at g0 g1 g2 g3 g4; have k0 := hc (w.heap.size + 1 + 1) 0 (by simp <;> omega); have k1 := hc (w.heap.size + 1 + 1) 1 (by simp <;> omega); have k2 := hc (w.heap.size + 1 + 1) 2 (by simp <;> omega); have k3 := hc (w.heap.size + 1 + 1) 3 (by simp <;> omega); have k4 := hc (w.heap.size + 1 + 1) 4 (by simp <;> omega); simp [go_sem] at k0 k1 k2 k3 k4)
  refine bodyPost_ret (v := .agg #[.int .u64 (rAlu 8 a b z s c o).v, .bool (rAlu 8 a b z s c o).z, .bool (rAlu 8 a b z s c o).s, .bool (rAlu 8 a b z s c o).c, .bool (rAlu 8 a b z s c o).o]) (by simp [results, Try.results28, go_sem, h0, h1, h2, h3, g0, g1, g2, g3, g4, k0, k1, k2, k3, k4, hc, rAlu]) rfl ⟨rfl, ?_⟩
  repeat (first | (with_reducible exact HB) | (with_reducible exact Below.refl _ _) | (with_reducible refine Below.drew ?_) | (with_reducible refine Below.setCell ?_ (by first | (simp; done) | (simp; omega) | omega) _) | (with_reducible refine Below.alloc ?_ (by first | (simp; done) | (simp; omega) | omega) _))

set_option maxHeartbeats 1000000 in
theorem rAlu3 (a b : Int) (z s c o : Bool) (w : World) :
    Calls Try.prog 28 #[.int .i64 3, .int .u64 a, .int .u64 b, .agg #[.bool z, .bool s, .bool c, .bool o]] w fun e w' => e = .returned (.agg #[.int .u64 (rAlu 3 a b z s c o).v, .bool (rAlu 3 a b z s c o).z, .bool (rAlu 3 a b z s c o).s, .bool (rAlu 3 a b z s c o).c, .bool (rAlu 3 a b z s c o).o]) ∧ Below w.heap.size w w' := by
  have hu := Try.underlying44
  have hu2 := Try.underlying51
  have hfl := field_F
  go_enter Try.func28, Try.ntmps28
  go_wp2_with (go_at_call 39; refine (told_calls _ _ _ _).mono ?_; rintro e w1 ⟨rfl, hb⟩; have HB : Below w.heap.size w w1 := (Below.alloc (Below.alloc (Below.alloc (Below.refl _ _) (by first | (simp; done) | (simp; omega) | omega) _) (by first | (simp; done) | (simp; omega) | omega) _) (by first | (simp; done) | (simp; omega) | omega) _).trans (hb.mono (by first | (simp; done) | (simp; omega))); have hz : w.heap.size + 1 + 1 < w1.heap.size := (by have := hb.size; simp at this; omega); obtain ⟨hc, hf⟩ := bcell hb; have h0 := hc (w.heap.size) 0 (by simp <;> omega); have h1 := hc (w.heap.size) 1 (by simp <;> omega); have h2 := hc (w.heap.size) 2 (by simp <;> omega); have h3 := hc (w.heap.size) 3 (by simp <;> omega); simp [go_sem] at h0 h1 h2 h3; have g0 := hc (w.heap.size + 1) 0 (by simp <;> omega); have g1 := hc (w.heap.size + 1) 1 (by simp <;> omega); have g2 := hc (w.heap.size + 1) 2 (by simp <;> omega); have g3 := hc (w.heap.size + 1) 3 (by simp <;> omega); have g4 := hc (w.heap.size + 1) 4 (by simp <;> omega); simp [go_sem] at g0 g1 g2 g3 g4; have k0 := hc (w.heap.size + 1 + 1) 0 (by simp <;> omega); have k1 := hc (w.heap.size + 1 + 1) 1 (by simp <;> omega); have k2 := hc (w.heap.size + 1 + 1) 2 (by simp <;> omega); have k3 := hc (w.heap.size + 1 + 1) 3 (by simp <;> omega); have k4 := hc (w.heap.size + 1 + 1) 4 (by simp <;> omega); simp [go_sem] at k0 k1 k2 k3 k4)
  refine bodyPost_ret (v := .agg #[.int .u64 (rAlu 3 a b z s c o).v, .bool (rAlu 3 a b z s c o).z, .bool (rAlu 3 a b z s c o).s, .bool (rAlu 3 a b z s c o).c, .bool (rAlu 3 a b z s c o).o]) (by simp [results, Try.results28, go_sem, h0, h1, h2, h3, g0, g1, g2, g3, g4, k0, k1, k2, k3, k4, hc, rAlu]) rfl ⟨rfl, ?_⟩
  repeat (first | (with_reducible exact HB) | (with_reducible exact Below.refl _ _) | (with_reducible refine Below.drew ?_) | (with_reducible refine Below.setCell ?_ (by first | (simp; done) | (simp; omega) | omega) _) | (with_reducible refine Below.alloc ?_ (by first | (simp; done) | (simp; omega) | omega) _))

set_option maxHeartbeats 1000000 in
theorem rAlu4 (a b : Int) (z s c o : Bool) (w : World) :
    Calls Try.prog 28 #[.int .i64 4, .int .u64 a, .int .u64 b, .agg #[.bool z, .bool s, .bool c, .bool o]] w fun e w' => e = .returned (.agg #[.int .u64 (rAlu 4 a b z s c o).v, .bool (rAlu 4 a b z s c o).z, .bool (rAlu 4 a b z s c o).s, .bool (rAlu 4 a b z s c o).c, .bool (rAlu 4 a b z s c o).o]) ∧ Below w.heap.size w w' := by
  have hu := Try.underlying44
  have hu2 := Try.underlying51
  have hfl := field_F
  go_enter Try.func28, Try.ntmps28
  go_wp2_with (go_at_call 39; refine (told_calls _ _ _ _).mono ?_; rintro e w1 ⟨rfl, hb⟩; have HB : Below w.heap.size w w1 := (Below.alloc (Below.alloc (Below.alloc (Below.refl _ _) (by first | (simp; done) | (simp; omega) | omega) _) (by first | (simp; done) | (simp; omega) | omega) _) (by first | (simp; done) | (simp; omega) | omega) _).trans (hb.mono (by first | (simp; done) | (simp; omega))); have hz : w.heap.size + 1 + 1 < w1.heap.size := (by have := hb.size; simp at this; omega); obtain ⟨hc, hf⟩ := bcell hb; have h0 := hc (w.heap.size) 0 (by simp <;> omega); have h1 := hc (w.heap.size) 1 (by simp <;> omega); have h2 := hc (w.heap.size) 2 (by simp <;> omega); have h3 := hc (w.heap.size) 3 (by simp <;> omega); simp [go_sem] at h0 h1 h2 h3; have g0 := hc (w.heap.size + 1) 0 (by simp <;> omega); have g1 := hc (w.heap.size + 1) 1 (by simp <;> omega); have g2 := hc (w.heap.size + 1) 2 (by simp <;> omega); have g3 := hc (w.heap.size + 1) 3 (by simp <;> omega); have g4 := hc (w.heap.size + 1) 4 (by simp <;> omega); simp [go_sem] at g0 g1 g2 g3 g4; have k0 := hc (w.heap.size + 1 + 1) 0 (by simp <;> omega); have k1 := hc (w.heap.size + 1 + 1) 1 (by simp <;> omega); have k2 := hc (w.heap.size + 1 + 1) 2 (by simp <;> omega); have k3 := hc (w.heap.size + 1 + 1) 3 (by simp <;> omega); have k4 := hc (w.heap.size + 1 + 1) 4 (by simp <;> omega); simp [go_sem] at k0 k1 k2 k3 k4)
  refine bodyPost_ret (v := .agg #[.int .u64 (rAlu 4 a b z s c o).v, .bool (rAlu 4 a b z s c o).z, .bool (rAlu 4 a b z s c o).s, .bool (rAlu 4 a b z s c o).c, .bool (rAlu 4 a b z s c o).o]) (by simp [results, Try.results28, go_sem, h0, h1, h2, h3, g0, g1, g2, g3, g4, k0, k1, k2, k3, k4, hc, rAlu]) rfl ⟨rfl, ?_⟩
  repeat (first | (with_reducible exact HB) | (with_reducible exact Below.refl _ _) | (with_reducible refine Below.drew ?_) | (with_reducible refine Below.setCell ?_ (by first | (simp; done) | (simp; omega) | omega) _) | (with_reducible refine Below.alloc ?_ (by first | (simp; done) | (simp; omega) | omega) _))

set_option maxHeartbeats 1000000 in
theorem rAlu5 (a b : Int) (z s c o : Bool) (w : World) :
    Calls Try.prog 28 #[.int .i64 5, .int .u64 a, .int .u64 b, .agg #[.bool z, .bool s, .bool c, .bool o]] w fun e w' => e = .returned (.agg #[.int .u64 (rAlu 5 a b z s c o).v, .bool (rAlu 5 a b z s c o).z, .bool (rAlu 5 a b z s c o).s, .bool (rAlu 5 a b z s c o).c, .bool (rAlu 5 a b z s c o).o]) ∧ Below w.heap.size w w' := by
  have hu := Try.underlying44
  have hu2 := Try.underlying51
  have hfl := field_F
  go_enter Try.func28, Try.ntmps28
  go_wp2_with (go_at_call 37; refine (radd_calls _ _ _).mono ?_; rintro e w1 ⟨rfl, hb⟩; have HB : Below w.heap.size w w1 := (Below.alloc (Below.alloc (Below.alloc (Below.refl _ _) (by first | (simp; done) | (simp; omega) | omega) _) (by first | (simp; done) | (simp; omega) | omega) _) (by first | (simp; done) | (simp; omega) | omega) _).trans (hb.mono (by first | (simp; done) | (simp; omega))); have hz : w.heap.size + 1 + 1 < w1.heap.size := (by have := hb.size; simp at this; omega); obtain ⟨hc, hf⟩ := bcell hb; have h0 := hc (w.heap.size) 0 (by simp <;> omega); have h1 := hc (w.heap.size) 1 (by simp <;> omega); have h2 := hc (w.heap.size) 2 (by simp <;> omega); have h3 := hc (w.heap.size) 3 (by simp <;> omega); simp [go_sem] at h0 h1 h2 h3; have g0 := hc (w.heap.size + 1) 0 (by simp <;> omega); have g1 := hc (w.heap.size + 1) 1 (by simp <;> omega); have g2 := hc (w.heap.size + 1) 2 (by simp <;> omega); have g3 := hc (w.heap.size + 1) 3 (by simp <;> omega); have g4 := hc (w.heap.size + 1) 4 (by simp <;> omega); simp [go_sem] at g0 g1 g2 g3 g4; have k0 := hc (w.heap.size + 1 + 1) 0 (by simp <;> omega); have k1 := hc (w.heap.size + 1 + 1) 1 (by simp <;> omega); have k2 := hc (w.heap.size + 1 + 1) 2 (by simp <;> omega); have k3 := hc (w.heap.size + 1 + 1) 3 (by simp <;> omega); have k4 := hc (w.heap.size + 1 + 1) 4 (by simp <;> omega); simp [go_sem] at k0 k1 k2 k3 k4)
  refine bodyPost_ret (v := .agg #[.int .u64 (rAlu 5 a b z s c o).v, .bool (rAlu 5 a b z s c o).z, .bool (rAlu 5 a b z s c o).s, .bool (rAlu 5 a b z s c o).c, .bool (rAlu 5 a b z s c o).o]) (by simp [results, Try.results28, go_sem, h0, h1, h2, h3, g0, g1, g2, g3, g4, k0, k1, k2, k3, k4, hc, rAlu]) rfl ⟨rfl, ?_⟩
  repeat (first | (with_reducible exact HB) | (with_reducible exact Below.refl _ _) | (with_reducible refine Below.drew ?_) | (with_reducible refine Below.setCell ?_ (by first | (simp; done) | (simp; omega) | omega) _) | (with_reducible refine Below.alloc ?_ (by first | (simp; done) | (simp; omega) | omega) _))

set_option maxHeartbeats 1000000 in
theorem rAlu6 (a b : Int) (z s c o : Bool) (w : World) :
    Calls Try.prog 28 #[.int .i64 6, .int .u64 a, .int .u64 b, .agg #[.bool z, .bool s, .bool c, .bool o]] w fun e w' => e = .returned (.agg #[.int .u64 (rAlu 6 a b z s c o).v, .bool (rAlu 6 a b z s c o).z, .bool (rAlu 6 a b z s c o).s, .bool (rAlu 6 a b z s c o).c, .bool (rAlu 6 a b z s c o).o]) ∧ Below w.heap.size w w' := by
  have hu := Try.underlying44
  have hu2 := Try.underlying51
  have hfl := field_F
  go_enter Try.func28, Try.ntmps28
  go_wp2_with (go_at_call 38; refine (rsub_calls _ _ _).mono ?_; rintro e w1 ⟨rfl, hb⟩; have HB : Below w.heap.size w w1 := (Below.alloc (Below.alloc (Below.alloc (Below.refl _ _) (by first | (simp; done) | (simp; omega) | omega) _) (by first | (simp; done) | (simp; omega) | omega) _) (by first | (simp; done) | (simp; omega) | omega) _).trans (hb.mono (by first | (simp; done) | (simp; omega))); have hz : w.heap.size + 1 + 1 < w1.heap.size := (by have := hb.size; simp at this; omega); obtain ⟨hc, hf⟩ := bcell hb; have h0 := hc (w.heap.size) 0 (by simp <;> omega); have h1 := hc (w.heap.size) 1 (by simp <;> omega); have h2 := hc (w.heap.size) 2 (by simp <;> omega); have h3 := hc (w.heap.size) 3 (by simp <;> omega); simp [go_sem] at h0 h1 h2 h3; have g0 := hc (w.heap.size + 1) 0 (by simp <;> omega); have g1 := hc (w.heap.size + 1) 1 (by simp <;> omega); have g2 := hc (w.heap.size + 1) 2 (by simp <;> omega); have g3 := hc (w.heap.size + 1) 3 (by simp <;> omega); have g4 := hc (w.heap.size + 1) 4 (by simp <;> omega); simp [go_sem] at g0 g1 g2 g3 g4; have k0 := hc (w.heap.size + 1 + 1) 0 (by simp <;> omega); have k1 := hc (w.heap.size + 1 + 1) 1 (by simp <;> omega); have k2 := hc (w.heap.size + 1 + 1) 2 (by simp <;> omega); have k3 := hc (w.heap.size + 1 + 1) 3 (by simp <;> omega); have k4 := hc (w.heap.size + 1 + 1) 4 (by simp <;> omega); simp [go_sem] at k0 k1 k2 k3 k4)
  refine bodyPost_ret (v := .agg #[.int .u64 (rAlu 6 a b z s c o).v, .bool (rAlu 6 a b z s c o).z, .bool (rAlu 6 a b z s c o).s, .bool (rAlu 6 a b z s c o).c, .bool (rAlu 6 a b z s c o).o]) (by simp [results, Try.results28, go_sem, h0, h1, h2, h3, g0, g1, g2, g3, g4, k0, k1, k2, k3, k4, hc, rAlu]) rfl ⟨rfl, ?_⟩
  repeat (first | (with_reducible exact HB) | (with_reducible exact Below.refl _ _) | (with_reducible refine Below.drew ?_) | (with_reducible refine Below.setCell ?_ (by first | (simp; done) | (simp; omega) | omega) _) | (with_reducible refine Below.alloc ?_ (by first | (simp; done) | (simp; omega) | omega) _))

set_option maxHeartbeats 1000000 in
theorem rAlu9z (a b : Int) (z s c o : Bool) (w : World) (hz : bits .and .u64 b 63 = 0) :
    Calls Try.prog 28 #[.int .i64 9, .int .u64 a, .int .u64 b, .agg #[.bool z, .bool s, .bool c, .bool o]] w fun e w' => e = .returned (.agg #[.int .u64 (rAlu 9 a b z s c o).v, .bool (rAlu 9 a b z s c o).z, .bool (rAlu 9 a b z s c o).s, .bool (rAlu 9 a b z s c o).c, .bool (rAlu 9 a b z s c o).o]) ∧ Below w.heap.size w w' := by
  have e : rAlu 9 a b z s c o = ⟨a, z, s, c, o⟩ := by simp [rAlu, hz]
  rw [e]
  have hz0 : decide (0 < bits .and .u64 b 63) = false := by rw [hz]; rfl
  clear hz e
  have hu := Try.underlying44
  have hu2 := Try.underlying51
  have hfl := field_F
  go_enter Try.func28, Try.ntmps28
  go_wp2
  refine bodyPost_ret (v := .agg #[.int .u64 ((⟨a, z, s, c, o⟩ : AR)).v, .bool ((⟨a, z, s, c, o⟩ : AR)).z, .bool ((⟨a, z, s, c, o⟩ : AR)).s, .bool ((⟨a, z, s, c, o⟩ : AR)).c, .bool ((⟨a, z, s, c, o⟩ : AR)).o]) (by simp [results, Try.results28, go_sem]) rfl ⟨rfl, ?_⟩
  repeat (first | (with_reducible exact HB) | (with_reducible exact Below.refl _ _) | (with_reducible refine Below.drew ?_) | (with_reducible refine Below.setCell ?_ (by first | (simp; done) | (simp; omega) | omega) _) | (with_reducible refine Below.alloc ?_ (by first | (simp; done) | (simp; omega) | omega) _))
set_option maxHeartbeats 1000000 in
theorem rAlu9n (a b : Int) (z s c o : Bool) (w : World) (hz : bits .and .u64 b 63 ≠ 0) :
    Calls Try.prog 28 #[.int .i64 9, .int .u64 a, .int .u64 b, .agg #[.bool z, .bool s, .bool c, .bool o]] w fun e w' => e = .returned (.agg #[.int .u64 (rAlu 9 a b z s c o).v, .bool (rAlu 9 a b z s c o).z, .bool (rAlu 9 a b z s c o).s, .bool (rAlu 9 a b z s c o).c, .bool (rAlu 9 a b z s c o).o]) ∧ Below w.heap.size w w' := by
  have e : rAlu 9 a b z s c o = rTell (shlV a (bits .and .u64 b 63)) (shlC a (bits .and .u64 b 63)) false := by simp [rAlu, hz]
  rw [e]
  have hl : 0 < bits .and .u64 b 63 := by have := and63 b; omega
  have hl1 : 1 ≤ bits .and .u64 b 63 := hl
  have hh := (and63 b).2
  clear hz e
  have hu := Try.underlying44
  have hu2 := Try.underlying51
  have hfl := field_F
  go_enter Try.func28, Try.ntmps28
  go_wp2_with (go_at_call 39; refine (told_calls _ _ _ _).mono ?_; rintro e w1 ⟨rfl, hb⟩; have HB : Below w.heap.size w w1 := (Below.alloc (Below.alloc (Below.alloc (Below.refl _ _) (by first | (simp; done) | (simp; omega) | omega) _) (by first | (simp; done) | (simp; omega) | omega) _) (by first | (simp; done) | (simp; omega) | omega) _).trans (hb.mono (by first | (simp; done) | (simp; omega))); have hz : w.heap.size + 1 + 1 < w1.heap.size := (by have := hb.size; simp at this; omega); obtain ⟨hc, hf⟩ := bcell hb; have h0 := hc (w.heap.size) 0 (by simp <;> omega); have h1 := hc (w.heap.size) 1 (by simp <;> omega); have h2 := hc (w.heap.size) 2 (by simp <;> omega); have h3 := hc (w.heap.size) 3 (by simp <;> omega); simp [go_sem] at h0 h1 h2 h3; have g0 := hc (w.heap.size + 1) 0 (by simp <;> omega); have g1 := hc (w.heap.size + 1) 1 (by simp <;> omega); have g2 := hc (w.heap.size + 1) 2 (by simp <;> omega); have g3 := hc (w.heap.size + 1) 3 (by simp <;> omega); have g4 := hc (w.heap.size + 1) 4 (by simp <;> omega); simp [go_sem] at g0 g1 g2 g3 g4; have k0 := hc (w.heap.size + 1 + 1) 0 (by simp <;> omega); have k1 := hc (w.heap.size + 1 + 1) 1 (by simp <;> omega); have k2 := hc (w.heap.size + 1 + 1) 2 (by simp <;> omega); have k3 := hc (w.heap.size + 1 + 1) 3 (by simp <;> omega); have k4 := hc (w.heap.size + 1 + 1) 4 (by simp <;> omega); simp [go_sem] at k0 k1 k2 k3 k4)
  refine bodyPost_ret (v := .agg #[.int .u64 (rTell (shlV a (bits .and .u64 b 63)) (shlC a (bits .and .u64 b 63)) false).v, .bool (rTell (shlV a (bits .and .u64 b 63)) (shlC a (bits .and .u64 b 63)) false).z, .bool (rTell (shlV a (bits .and .u64 b 63)) (shlC a (bits .and .u64 b 63)) false).s, .bool (rTell (shlV a (bits .and .u64 b 63)) (shlC a (bits .and .u64 b 63)) false).c, .bool (rTell (shlV a (bits .and .u64 b 63)) (shlC a (bits .and .u64 b 63)) false).o]) (by simp [results, Try.results28, go_sem, h0, h1, h2, h3, g0, g1, g2, g3, g4, k0, k1, k2, k3, k4, hc, shlV, shlC]) rfl ⟨rfl, ?_⟩
  repeat (first | (with_reducible exact HB) | (with_reducible exact Below.refl _ _) | (with_reducible refine Below.drew ?_) | (with_reducible refine Below.setCell ?_ (by first | (simp; done) | (simp; omega) | omega) _) | (with_reducible refine Below.alloc ?_ (by first | (simp; done) | (simp; omega) | omega) _))
theorem rAlu9 (a b : Int) (z s c o : Bool) (w : World) :
    Calls Try.prog 28 #[.int .i64 9, .int .u64 a, .int .u64 b, .agg #[.bool z, .bool s, .bool c, .bool o]] w fun e w' => e = .returned (.agg #[.int .u64 (rAlu 9 a b z s c o).v, .bool (rAlu 9 a b z s c o).z, .bool (rAlu 9 a b z s c o).s, .bool (rAlu 9 a b z s c o).c, .bool (rAlu 9 a b z s c o).o]) ∧ Below w.heap.size w w' := by
  by_cases hz : bits .and .u64 b 63 = 0
  · exact rAlu9z a b z s c o w hz
  · exact rAlu9n a b z s c o w hz

set_option maxHeartbeats 1000000 in
theorem rAlu10z (a b : Int) (z s c o : Bool) (w : World) (hz : bits .and .u64 b 63 = 0) :
    Calls Try.prog 28 #[.int .i64 10, .int .u64 a, .int .u64 b, .agg #[.bool z, .bool s, .bool c, .bool o]] w fun e w' => e = .returned (.agg #[.int .u64 (rAlu 10 a b z s c o).v, .bool (rAlu 10 a b z s c o).z, .bool (rAlu 10 a b z s c o).s, .bool (rAlu 10 a b z s c o).c, .bool (rAlu 10 a b z s c o).o]) ∧ Below w.heap.size w w' := by
  have e : rAlu 10 a b z s c o = ⟨a, z, s, c, o⟩ := by simp [rAlu, hz]
  rw [e]
  have hz0 : decide (0 < bits .and .u64 b 63) = false := by rw [hz]; rfl
  clear hz e
  have hu := Try.underlying44
  have hu2 := Try.underlying51
  have hfl := field_F
  go_enter Try.func28, Try.ntmps28
  go_wp2
  refine bodyPost_ret (v := .agg #[.int .u64 ((⟨a, z, s, c, o⟩ : AR)).v, .bool ((⟨a, z, s, c, o⟩ : AR)).z, .bool ((⟨a, z, s, c, o⟩ : AR)).s, .bool ((⟨a, z, s, c, o⟩ : AR)).c, .bool ((⟨a, z, s, c, o⟩ : AR)).o]) (by simp [results, Try.results28, go_sem]) rfl ⟨rfl, ?_⟩
  repeat (first | (with_reducible exact HB) | (with_reducible exact Below.refl _ _) | (with_reducible refine Below.drew ?_) | (with_reducible refine Below.setCell ?_ (by first | (simp; done) | (simp; omega) | omega) _) | (with_reducible refine Below.alloc ?_ (by first | (simp; done) | (simp; omega) | omega) _))
set_option maxHeartbeats 1000000 in
theorem rAlu10n (a b : Int) (z s c o : Bool) (w : World) (hz : bits .and .u64 b 63 ≠ 0) :
    Calls Try.prog 28 #[.int .i64 10, .int .u64 a, .int .u64 b, .agg #[.bool z, .bool s, .bool c, .bool o]] w fun e w' => e = .returned (.agg #[.int .u64 (rAlu 10 a b z s c o).v, .bool (rAlu 10 a b z s c o).z, .bool (rAlu 10 a b z s c o).s, .bool (rAlu 10 a b z s c o).c, .bool (rAlu 10 a b z s c o).o]) ∧ Below w.heap.size w w' := by
  have e : rAlu 10 a b z s c o = rTell (shrV a (bits .and .u64 b 63)) (shrC a (bits .and .u64 b 63)) false := by simp [rAlu, hz]
  rw [e]
  have hl : 0 < bits .and .u64 b 63 := by have := and63 b; omega
  have hl1 : 1 ≤ bits .and .u64 b 63 := hl
  have hh := (and63 b).2
  clear hz e
  have hu := Try.underlying44
  have hu2 := Try.underlying51
  have hfl := field_F
  go_enter Try.func28, Try.ntmps28
  go_wp2_with (go_at_call 39; refine (told_calls _ _ _ _).mono ?_; rintro e w1 ⟨rfl, hb⟩; have HB : Below w.heap.size w w1 := (Below.alloc (Below.alloc (Below.alloc (Below.refl _ _) (by first | (simp; done) | (simp; omega) | omega) _) (by first | (simp; done) | (simp; omega) | omega) _) (by first | (simp; done) | (simp; omega) | omega) _).trans (hb.mono (by first | (simp; done) | (simp; omega))); have hz : w.heap.size + 1 + 1 < w1.heap.size := (by have := hb.size; simp at this; omega); obtain ⟨hc, hf⟩ := bcell hb; have h0 := hc (w.heap.size) 0 (by simp <;> omega); have h1 := hc (w.heap.size) 1 (by simp <;> omega); have h2 := hc (w.heap.size) 2 (by simp <;> omega); have h3 := hc (w.heap.size) 3 (by simp <;> omega); simp [go_sem] at h0 h1 h2 h3; have g0 := hc (w.heap.size + 1) 0 (by simp <;> omega); have g1 := hc (w.heap.size + 1) 1 (by simp <;> omega); have g2 := hc (w.heap.size + 1) 2 (by simp <;> omega); have g3 := hc (w.heap.size + 1) 3 (by simp <;> omega); have g4 := hc (w.heap.size + 1) 4 (by simp <;> omega); simp [go_sem] at g0 g1 g2 g3 g4; have k0 := hc (w.heap.size + 1 + 1) 0 (by simp <;> omega); have k1 := hc (w.heap.size + 1 + 1) 1 (by simp <;> omega); have k2 := hc (w.heap.size + 1 + 1) 2 (by simp <;> omega); have k3 := hc (w.heap.size + 1 + 1) 3 (by simp <;> omega); have k4 := hc (w.heap.size + 1 + 1) 4 (by simp <;> omega); simp [go_sem] at k0 k1 k2 k3 k4)
  refine bodyPost_ret (v := .agg #[.int .u64 (rTell (shrV a (bits .and .u64 b 63)) (shrC a (bits .and .u64 b 63)) false).v, .bool (rTell (shrV a (bits .and .u64 b 63)) (shrC a (bits .and .u64 b 63)) false).z, .bool (rTell (shrV a (bits .and .u64 b 63)) (shrC a (bits .and .u64 b 63)) false).s, .bool (rTell (shrV a (bits .and .u64 b 63)) (shrC a (bits .and .u64 b 63)) false).c, .bool (rTell (shrV a (bits .and .u64 b 63)) (shrC a (bits .and .u64 b 63)) false).o]) (by simp [results, Try.results28, go_sem, h0, h1, h2, h3, g0, g1, g2, g3, g4, k0, k1, k2, k3, k4, hc, shrV, shrC]) rfl ⟨rfl, ?_⟩
  repeat (first | (with_reducible exact HB) | (with_reducible exact Below.refl _ _) | (with_reducible refine Below.drew ?_) | (with_reducible refine Below.setCell ?_ (by first | (simp; done) | (simp; omega) | omega) _) | (with_reducible refine Below.alloc ?_ (by first | (simp; done) | (simp; omega) | omega) _))
theorem rAlu10 (a b : Int) (z s c o : Bool) (w : World) :
    Calls Try.prog 28 #[.int .i64 10, .int .u64 a, .int .u64 b, .agg #[.bool z, .bool s, .bool c, .bool o]] w fun e w' => e = .returned (.agg #[.int .u64 (rAlu 10 a b z s c o).v, .bool (rAlu 10 a b z s c o).z, .bool (rAlu 10 a b z s c o).s, .bool (rAlu 10 a b z s c o).c, .bool (rAlu 10 a b z s c o).o]) ∧ Below w.heap.size w w' := by
  by_cases hz : bits .and .u64 b 63 = 0
  · exact rAlu10z a b z s c o w hz
  · exact rAlu10n a b z s c o w hz

theorem ref14None (op a b : Int) (z s c o : Bool) (w : World) (h0 : ¬ (0 ≤ op ∧ op ≤ 10)) :
    Calls Try.prog 28 #[.int .i64 op, .int .u64 a, .int .u64 b, .agg #[.bool z, .bool s, .bool c, .bool o]] w fun e w' => e = .returned (.agg #[.int .u64 a, .bool z, .bool s, .bool c, .bool o]) ∧ Below w.heap.size w w' := by
  have hu := Try.underlying44
  have hu2 := Try.underlying51
  have k0 : (op == 0) = false := by rw [beq_eq_false_iff_ne]; omega
  have k1 : (op == 1) = false := by rw [beq_eq_false_iff_ne]; omega
  have k2 : (op == 2) = false := by rw [beq_eq_false_iff_ne]; omega
  have k3 : (op == 3) = false := by rw [beq_eq_false_iff_ne]; omega
  have k4 : (op == 4) = false := by rw [beq_eq_false_iff_ne]; omega
  have k5 : (op == 5) = false := by rw [beq_eq_false_iff_ne]; omega
  have k6 : (op == 6) = false := by rw [beq_eq_false_iff_ne]; omega
  have k7 : (op == 7) = false := by rw [beq_eq_false_iff_ne]; omega
  have k8 : (op == 8) = false := by rw [beq_eq_false_iff_ne]; omega
  have k9 : (op == 9) = false := by rw [beq_eq_false_iff_ne]; omega
  have k10 : (op == 10) = false := by rw [beq_eq_false_iff_ne]; omega
  clear h0
  go_enter Try.func28, Try.ntmps28
  go_wp2
  refine bodyPost_ret (v := .agg #[.int .u64 a, .bool z, .bool s, .bool c, .bool o]) (by simp [results, Try.results28, go_sem]) rfl ⟨rfl, ?_⟩
  repeat (first | (with_reducible exact HB) | (with_reducible exact Below.refl _ _) | (with_reducible refine Below.drew ?_) | (with_reducible refine Below.setCell ?_ (by first | (simp; done) | (simp; omega) | omega) _) | (with_reducible refine Below.alloc ?_ (by first | (simp; done) | (simp; omega) | omega) _))
theorem ref14_calls (op a b : Int) (z s c o : Bool) (w : World) :
    Calls Try.prog 28 #[.int .i64 op, .int .u64 a, .int .u64 b, .agg #[.bool z, .bool s, .bool c, .bool o]] w fun e w' => e = .returned (.agg #[.int .u64 (rAlu op a b z s c o).v, .bool (rAlu op a b z s c o).z, .bool (rAlu op a b z s c o).s, .bool (rAlu op a b z s c o).c, .bool (rAlu op a b z s c o).o]) ∧ Below w.heap.size w w' := by
  by_cases h : 0 ≤ op ∧ op ≤ 10
  · have : op = 0 ∨ op = 1 ∨ op = 2 ∨ op = 3 ∨ op = 4 ∨ op = 5 ∨ op = 6 ∨ op = 7 ∨ op = 8 ∨ op = 9 ∨ op = 10 := by omega
    rcases this with rfl | rfl | rfl | rfl | rfl | rfl | rfl | rfl | rfl | rfl | rfl
    · exact rAlu0 a b z s c o w
    · exact rAlu1 a b z s c o w
    · exact rAlu2 a b z s c o w
    · exact rAlu3 a b z s c o w
    · exact rAlu4 a b z s c o w
    · exact rAlu5 a b z s c o w
    · exact rAlu6 a b z s c o w
    · exact rAlu7 a b z s c o w
    · exact rAlu8 a b z s c o w
    · exact rAlu9 a b z s c o w
    · exact rAlu10 a b z s c o w
  · have e : rAlu op a b z s c o = ⟨a, z, s, c, o⟩ := by
      unfold rAlu
      rw [if_neg (by omega), if_neg (by omega), if_neg (by omega), if_neg (by omega), if_neg (by omega), if_neg (by omega), if_neg (by omega), if_neg (by omega), if_neg (by omega), if_neg (by omega)]
    rw [e]
    exact ref14None op a b z s c o w h
set_option maxHeartbeats 1000000 in
theorem rcond2 (z s c o : Bool) (w : World) :
    Calls Try.prog 30 #[.int .i64 2, .agg #[.bool z, .bool s, .bool c, .bool o]] w fun e w' => e = .returned (.bool (condB 2 z s c o)) ∧ Below w.heap.size w w' := by
  have hu := Try.underlying44
  go_enter Try.func30, Try.ntmps30
  go_wp2
  go_ret
  refine ⟨by first | (simp [condB]; done) | (cases s <;> cases o <;> simp [condB]), ?_⟩
  repeat (first | (with_reducible exact HB) | (with_reducible exact Below.refl _ _) | (with_reducible refine Below.drew ?_) | (with_reducible refine Below.setCell ?_ (by first | (simp; done) | (simp; omega) | omega) _) | (with_reducible refine Below.alloc ?_ (by first | (simp; done) | (simp; omega) | omega) _))

set_option maxHeartbeats 1000000 in
theorem rcond3 (z s c o : Bool) (w : World) :
    Calls Try.prog 30 #[.int .i64 3, .agg #[.bool z, .bool s, .bool c, .bool o]] w fun e w' => e = .returned (.bool (condB 3 z s c o)) ∧ Below w.heap.size w w' := by
  have hu := Try.underlying44
  go_enter Try.func30, Try.ntmps30
  go_wp2
  go_ret
  refine ⟨by first | (simp [condB]; done) | (cases s <;> cases o <;> simp [condB]), ?_⟩
  repeat (first | (with_reducible exact HB) | (with_reducible exact Below.refl _ _) | (with_reducible refine Below.drew ?_) | (with_reducible refine Below.setCell ?_ (by first | (simp; done) | (simp; omega) | omega) _) | (with_reducible refine Below.alloc ?_ (by first | (simp; done) | (simp; omega) | omega) _))

set_option maxHeartbeats 1000000 in
theorem rcond4 (z s c o : Bool) (w : World) :
    Calls Try.prog 30 #[.int .i64 4, .agg #[.bool z, .bool s, .bool c, .bool o]] w fun e w' => e = .returned (.bool (condB 4 z s c o)) ∧ Below w.heap.size w w' := by
  have hu := Try.underlying44
  go_enter Try.func30, Try.ntmps30
  go_wp2
  go_ret
  refine ⟨by first | (simp [condB]; done) | (cases s <;> cases o <;> simp [condB]), ?_⟩
  repeat (first | (with_reducible exact HB) | (with_reducible exact Below.refl _ _) | (with_reducible refine Below.drew ?_) | (with_reducible refine Below.setCell ?_ (by first | (simp; done) | (simp; omega) | omega) _) | (with_reducible refine Below.alloc ?_ (by first | (simp; done) | (simp; omega) | omega) _))

set_option maxHeartbeats 1000000 in
theorem rcond5 (z s c o : Bool) (w : World) :
    Calls Try.prog 30 #[.int .i64 5, .agg #[.bool z, .bool s, .bool c, .bool o]] w fun e w' => e = .returned (.bool (condB 5 z s c o)) ∧ Below w.heap.size w w' := by
  have hu := Try.underlying44
  go_enter Try.func30, Try.ntmps30
  go_wp2
  go_ret
  refine ⟨by first | (simp [condB]; done) | (cases s <;> cases o <;> simp [condB]), ?_⟩
  repeat (first | (with_reducible exact HB) | (with_reducible exact Below.refl _ _) | (with_reducible refine Below.drew ?_) | (with_reducible refine Below.setCell ?_ (by first | (simp; done) | (simp; omega) | omega) _) | (with_reducible refine Below.alloc ?_ (by first | (simp; done) | (simp; omega) | omega) _))

set_option maxHeartbeats 1000000 in
theorem rcond8 (z s c o : Bool) (w : World) :
    Calls Try.prog 30 #[.int .i64 8, .agg #[.bool z, .bool s, .bool c, .bool o]] w fun e w' => e = .returned (.bool (condB 8 z s c o)) ∧ Below w.heap.size w w' := by
  have hu := Try.underlying44
  go_enter Try.func30, Try.ntmps30
  go_wp2
  go_ret
  refine ⟨by first | (simp [condB]; done) | (cases s <;> cases o <;> simp [condB]), ?_⟩
  repeat (first | (with_reducible exact HB) | (with_reducible exact Below.refl _ _) | (with_reducible refine Below.drew ?_) | (with_reducible refine Below.setCell ?_ (by first | (simp; done) | (simp; omega) | omega) _) | (with_reducible refine Below.alloc ?_ (by first | (simp; done) | (simp; omega) | omega) _))

set_option maxHeartbeats 1000000 in
theorem rcond9 (z s c o : Bool) (w : World) :
    Calls Try.prog 30 #[.int .i64 9, .agg #[.bool z, .bool s, .bool c, .bool o]] w fun e w' => e = .returned (.bool (condB 9 z s c o)) ∧ Below w.heap.size w w' := by
  have hu := Try.underlying44
  go_enter Try.func30, Try.ntmps30
  go_wp2
  go_ret
  refine ⟨by first | (simp [condB]; done) | (cases s <;> cases o <;> simp [condB]), ?_⟩
  repeat (first | (with_reducible exact HB) | (with_reducible exact Below.refl _ _) | (with_reducible refine Below.drew ?_) | (with_reducible refine Below.setCell ?_ (by first | (simp; done) | (simp; omega) | omega) _) | (with_reducible refine Below.alloc ?_ (by first | (simp; done) | (simp; omega) | omega) _))

set_option maxHeartbeats 1000000 in
theorem rcond12 (z s c o : Bool) (w : World) :
    Calls Try.prog 30 #[.int .i64 12, .agg #[.bool z, .bool s, .bool c, .bool o]] w fun e w' => e = .returned (.bool (condB 12 z s c o)) ∧ Below w.heap.size w w' := by
  have hu := Try.underlying44
  go_enter Try.func30, Try.ntmps30
  go_wp2
  go_ret
  refine ⟨by first | (simp [condB]; done) | (cases s <;> cases o <;> simp [condB]), ?_⟩
  repeat (first | (with_reducible exact HB) | (with_reducible exact Below.refl _ _) | (with_reducible refine Below.drew ?_) | (with_reducible refine Below.setCell ?_ (by first | (simp; done) | (simp; omega) | omega) _) | (with_reducible refine Below.alloc ?_ (by first | (simp; done) | (simp; omega) | omega) _))

set_option maxHeartbeats 1000000 in
theorem rcond13 (z s c o : Bool) (w : World) :
    Calls Try.prog 30 #[.int .i64 13, .agg #[.bool z, .bool s, .bool c, .bool o]] w fun e w' => e = .returned (.bool (condB 13 z s c o)) ∧ Below w.heap.size w w' := by
  have hu := Try.underlying44
  go_enter Try.func30, Try.ntmps30
  go_wp2
  go_ret
  refine ⟨by first | (simp [condB]; done) | (cases s <;> cases o <;> simp [condB]), ?_⟩
  repeat (first | (with_reducible exact HB) | (with_reducible exact Below.refl _ _) | (with_reducible refine Below.drew ?_) | (with_reducible refine Below.setCell ?_ (by first | (simp; done) | (simp; omega) | omega) _) | (with_reducible refine Below.alloc ?_ (by first | (simp; done) | (simp; omega) | omega) _))

set_option maxHeartbeats 1000000 in
theorem rcondNone (cc : Int) (z s c o : Bool) (w : World) (h2 : (cc == 2) = false) (h3 : (cc == 3) = false) (h4 : (cc == 4) = false) (h5 : (cc == 5) = false) (h8 : (cc == 8) = false) (h9 : (cc == 9) = false) (h12 : (cc == 12) = false) (h13 : (cc == 13) = false) :
    Calls Try.prog 30 #[.int .i64 cc, .agg #[.bool z, .bool s, .bool c, .bool o]] w fun e w' => e = .returned (.bool false) ∧ Below w.heap.size w w' := by
  have hu := Try.underlying44
  go_enter Try.func30, Try.ntmps30
  go_wp2
  go_ret
  refine ⟨rfl, ?_⟩
  repeat (first | (with_reducible exact HB) | (with_reducible exact Below.refl _ _) | (with_reducible refine Below.drew ?_) | (with_reducible refine Below.setCell ?_ (by first | (simp; done) | (simp; omega) | omega) _) | (with_reducible refine Below.alloc ?_ (by first | (simp; done) | (simp; omega) | omega) _))
theorem rCond_calls (cc : Int) (z s c o : Bool) (w : World) :
    Calls Try.prog 30 #[.int .i64 cc, .agg #[.bool z, .bool s, .bool c, .bool o]] w fun e w' => e = .returned (.bool (condB cc z s c o)) ∧ Below w.heap.size w w' := by
  by_cases h : cc = 2 ∨ cc = 3 ∨ cc = 4 ∨ cc = 5 ∨ cc = 8 ∨ cc = 9 ∨ cc = 12 ∨ cc = 13
  · rcases h with rfl | rfl | rfl | rfl | rfl | rfl | rfl | rfl
    · exact rcond2 z s c o w
    · exact rcond3 z s c o w
    · exact rcond4 z s c o w
    · exact rcond5 z s c o w
    · exact rcond8 z s c o w
    · exact rcond9 z s c o w
    · exact rcond12 z s c o w
    · exact rcond13 z s c o w
  · have e : condB cc z s c o = false := by
      unfold condB
      rw [if_neg (by omega), if_neg (by omega), if_neg (by omega), if_neg (by omega), if_neg (by omega), if_neg (by omega), if_neg (by omega), if_neg (by omega)]
    rw [e]
    exact rcondNone cc z s c o w (by rw [beq_eq_false_iff_ne]; omega) (by rw [beq_eq_false_iff_ne]; omega) (by rw [beq_eq_false_iff_ne]; omega) (by rw [beq_eq_false_iff_ne]; omega) (by rw [beq_eq_false_iff_ne]; omega) (by rw [beq_eq_false_iff_ne]; omega) (by rw [beq_eq_false_iff_ne]; omega) (by rw [beq_eq_false_iff_ne]; omega)
end Go.Proofs.Ytcmpcejbephaeaa
