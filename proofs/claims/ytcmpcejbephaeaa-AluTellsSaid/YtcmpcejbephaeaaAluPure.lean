/- Plain facts on the numbers of package alu: no program. -/
import Derived.Test.YtcmpcejbephaeaaRefAlu
namespace Go.Proofs.Ytcmpcejbephaeaa
open Go.RowKit
set_option linter.unusedVariables false
set_option linter.unusedSimpArgs false
deriving instance DecidableEq for AR

theorem ofInt_bits (op : BinOp) (x y : Int) : BitVec.ofInt 64 (bits op .u64 x y) = (match op with
    | .and => BitVec.ofInt 64 x &&& BitVec.ofInt 64 y
    | .or => BitVec.ofInt 64 x ||| BitVec.ofInt 64 y
    | .xor => BitVec.ofInt 64 x ^^^ BitVec.ofInt 64 y
    | _ => BitVec.ofInt 64 x &&& ~~~BitVec.ofInt 64 y) := by
  have e : ∀ b : BitVec 64, BitVec.ofInt 64 (IntKind.u64.wrap (b.toNat : Int)) = b := by
    intro b
    have := b.isLt
    have hw : IntKind.u64.wrap (b.toNat : Int) = (b.toNat : Int) := by
      simp only [IntKind.wrap, IntKind.bits, IntKind.signed]
      simp
      omega
    rw [hw]
    exact BitVec.eq_of_toNat_eq (by simp [BitVec.toNat_ofInt])
  show BitVec.ofInt 64 (IntKind.u64.wrap _) = _
  exact e _
theorem wrapU (n : Int) : IntKind.u64.wrap n = n % 18446744073709551616 := by simp [IntKind.wrap, IntKind.bits, IntKind.signed]
theorem wrapI (n : Int) : IntKind.i64.wrap n = (n + 9223372036854775808) % 18446744073709551616 - 9223372036854775808 := by
  simp [IntKind.wrap, IntKind.bits, IntKind.signed]
  split <;> omega
theorem bits_lt (op : BinOp) (x y : Int) : 0 ≤ bits op .u64 x y ∧ bits op .u64 x y < 18446744073709551616 := by
  show 0 ≤ IntKind.u64.wrap _ ∧ IntKind.u64.wrap _ < _
  rw [wrapU]; omega
theorem hiB_msb (v : Int) : hiB v = (BitVec.ofInt 64 v).msb := by
  unfold hiB
  have h := ofInt_bits .and v 9223372036854775808
  have hb := bits_lt .and v 9223372036854775808
  generalize bits .and .u64 v 9223372036854775808 = t at h hb
  have h1 : (t != 0) = (BitVec.ofInt 64 t != 0#64) := by
    rw [Bool.eq_iff_iff]
    simp only [bne_iff_ne, ne_eq]
    constructor
    · intro hne he
      have := congrArg BitVec.toNat he
      simp [BitVec.toNat_ofInt] at this
      omega
    · intro hne he
      exact hne (by rw [he]; rfl)
  rw [h1, h]
  show ((BitVec.ofInt 64 v &&& BitVec.ofInt 64 9223372036854775808) != 0#64) = _
  generalize BitVec.ofInt 64 v = x
  have h2 : BitVec.ofInt 64 9223372036854775808 = BitVec.twoPow 64 63 := by decide
  rw [h2, BitVec.and_twoPow]
  rw [BitVec.msb_eq_getLsbD_last]
  cases hx : x.getLsbD 63 <;> simp [hx]
theorem hiB_dec (v : Int) (h : 0 ≤ v ∧ v < 18446744073709551616) : hiB v = decide (9223372036854775808 ≤ v) := by
  rw [hiB_msb, BitVec.msb_eq_decide, Bool.eq_iff_iff]
  simp only [decide_eq_true_eq, BitVec.toNat_ofInt]
  omega
theorem hiB_and (x y : Int) : hiB (bits .and .u64 x y) = (hiB x && hiB y) := by
  rw [hiB_msb, hiB_msb, hiB_msb, ofInt_bits, BitVec.msb_and]
theorem hiB_xor (x y : Int) : hiB (bits .xor .u64 x y) = (hiB x != hiB y) := by
  rw [hiB_msb, hiB_msb, hiB_msb, ofInt_bits, BitVec.msb_xor]
theorem hiB_quo (v : Int) (h : 0 ≤ v ∧ v < 18446744073709551616) : hiB v = (v / 9223372036854775808 == 1) := by
  rw [hiB_dec v h, Bool.eq_iff_iff]
  simp only [decide_eq_true_eq, beq_iff_eq]
  omega
theorem addV_lt (a b : Int) : 0 ≤ addV a b ∧ addV a b < 18446744073709551616 := by unfold addV; rw [wrapU]; omega
theorem subV_lt (a b : Int) : 0 ≤ subV a b ∧ subV a b < 18446744073709551616 := by unfold subV; rw [wrapU]; omega
theorem shlV_lt (a n : Int) : 0 ≤ shlV a n ∧ shlV a n < 18446744073709551616 := by unfold shlV; rw [wrapU]; omega
theorem pow_pos' (n : Nat) : (0 : Int) < 2 ^ n := by
  have := Nat.two_pow_pos n
  exact_mod_cast this
theorem quo_le (a : Int) (h : 0 ≤ a) (n : Nat) : 0 ≤ a / 2 ^ n ∧ a / 2 ^ n ≤ a := by
  have p := pow_pos' n
  exact ⟨Int.ediv_nonneg h (by omega), Int.ediv_le_self _ h⟩
theorem addO_eq (a b : Int) : addO a b = ((hiB a != hiB (addV a b)) && (hiB b != hiB (addV a b))) := by
  show hiB (bits .and .u64 (bits .xor .u64 a (addV a b)) (bits .xor .u64 b (addV a b))) = _
  rw [hiB_and, hiB_xor, hiB_xor]
theorem subO_eq (a b : Int) : subO a b = ((hiB a != hiB b) && (hiB a != hiB (subV a b))) := by
  show hiB (bits .and .u64 (bits .xor .u64 a b) (bits .xor .u64 a (subV a b))) = _
  rw [hiB_and, hiB_xor, hiB_xor]
theorem tell_eq (v : Int) (h : 0 ≤ v ∧ v < 18446744073709551616) (c o : Bool) : tellR v c o = rTell v c o := by
  unfold tellR rTell
  rw [hiB_quo v h]
theorem add_eq (a b : Int) : tellR (addV a b) (addC a b) (addO a b) = rAdd a b := by
  unfold rAdd
  rw [tell_eq _ (addV_lt a b)]
  have e : addO a b = (bits .and .u64 (bits .xor .u64 a (IntKind.u64.wrap (a + b))) (bits .xor .u64 b (IntKind.u64.wrap (a + b))) / 9223372036854775808 == 1) := hiB_quo _ (bits_lt _ _ _)
  rw [e]; rfl
theorem sub_eq (a b : Int) : tellR (subV a b) (subC a b) (subO a b) = rSub a b := by
  unfold rSub
  rw [tell_eq _ (subV_lt a b)]
  have e : subO a b = (bits .and .u64 (bits .xor .u64 a b) (bits .xor .u64 a (IntKind.u64.wrap (a - b))) / 9223372036854775808 == 1) := hiB_quo _ (bits_lt _ _ _)
  rw [e]; rfl
theorem aluR_eq (op a b : Int) (z s c o : Bool) (ha : 0 ≤ a ∧ a < 18446744073709551616) : aluR op a b z s c o = rAlu op a b z s c o := by
  by_cases h : 0 ≤ op ∧ op ≤ 10
  · have : op = 0 ∨ op = 1 ∨ op = 2 ∨ op = 3 ∨ op = 4 ∨ op = 5 ∨ op = 6 ∨ op = 7 ∨ op = 8 ∨ op = 9 ∨ op = 10 := by omega
    rcases this with rfl | rfl | rfl | rfl | rfl | rfl | rfl | rfl | rfl | rfl | rfl
    · exact add_eq a b
    · exact sub_eq a b
    · exact tell_eq _ (bits_lt _ _ _) _ _
    · exact tell_eq _ (bits_lt _ _ _) _ _
    · exact tell_eq _ (bits_lt _ _ _) _ _
    · have := add_eq a 1
      show tellR (addV a 1) c (addO a 1) = { rAdd a 1 with c := c }
      rw [← this]; rfl
    · have := sub_eq a 1
      show tellR (subV a 1) c (subO a 1) = { rSub a 1 with c := c }
      rw [← this]; rfl
    · show { tellR (subV a b) (subC a b) (subO a b) with v := a } = { rSub a b with v := a }
      rw [sub_eq]
    · show { tellR (bits .and .u64 a b) false false with v := a } = { rTell (bits .and .u64 a b) false false with v := a }
      rw [tell_eq _ (bits_lt _ _ _)]
    · show (if bits .and .u64 b 63 = 0 then (⟨a, z, s, c, o⟩ : AR) else tellR (shlV a (bits .and .u64 b 63)) (shlC a (bits .and .u64 b 63)) false) = (if bits .and .u64 b 63 = 0 then (⟨a, z, s, c, o⟩ : AR) else rTell (shlV a (bits .and .u64 b 63)) (shlC a (bits .and .u64 b 63)) false)
      by_cases hz : bits .and .u64 b 63 = 0
      · rw [if_pos hz, if_pos hz]
      · rw [if_neg hz, if_neg hz]
        exact tell_eq _ (shlV_lt _ _) _ _
    · show (if bits .and .u64 b 63 = 0 then (⟨a, z, s, c, o⟩ : AR) else tellR (shrV a (bits .and .u64 b 63)) (shrC a (bits .and .u64 b 63)) false) = (if bits .and .u64 b 63 = 0 then (⟨a, z, s, c, o⟩ : AR) else rTell (shrV a (bits .and .u64 b 63)) (shrC a (bits .and .u64 b 63)) false)
      by_cases hz : bits .and .u64 b 63 = 0
      · rw [if_pos hz, if_pos hz]
      · rw [if_neg hz, if_neg hz]
        exact tell_eq _ ⟨(quo_le a ha.1 _).1, by have := (quo_le a ha.1 (bits .and .u64 b 63).toNat).2; exact Int.lt_of_le_of_lt this ha.2⟩ _ _
  · unfold aluR rAlu
    rw [if_neg (by omega), if_neg (by omega), if_neg (by omega), if_neg (by omega), if_neg (by omega), if_neg (by omega), if_neg (by omega), if_neg (by omega), if_neg (by omega), if_neg (by omega)]
    rw [if_neg (by omega), if_neg (by omega), if_neg (by omega), if_neg (by omega), if_neg (by omega), if_neg (by omega), if_neg (by omega), if_neg (by omega), if_neg (by omega), if_neg (by omega)]
theorem wf_u64 {n : Int} (h : (Lit.int .u64 n).wf = true) : 0 ≤ n ∧ n < 18446744073709551616 := by
  simp [Lit.wf, IntKind.min, IntKind.max, IntKind.bits, IntKind.signed] at h
  omega
theorem sgn_eq (a : Int) (h : 0 ≤ a ∧ a < 18446744073709551616) : decide (wrap64 a < 0) = hiB a := by
  rw [hiB_dec a h, Bool.eq_iff_iff]
  simp only [decide_eq_true_eq]
  unfold wrap64
  omega
theorem nsgn_eq (a : Int) (h : 0 ≤ a ∧ a < 18446744073709551616) : decide (0 ≤ wrap64 a) = !hiB a := by
  rw [← sgn_eq a h, Bool.eq_iff_iff]
  simp
theorem sub_zero (a b : Int) (ha : 0 ≤ a ∧ a < 18446744073709551616) (hb : 0 ≤ b ∧ b < 18446744073709551616) : (subV a b == 0) = (a == b) := by
  rw [Bool.eq_iff_iff, beq_iff_eq, beq_iff_eq]
  unfold subV
  rw [wrapU]
  omega
theorem sub_add (a b : Int) (ha : 0 ≤ a ∧ a < 18446744073709551616) : subV (addV a b) b = a := by
  unfold subV addV
  rw [wrapU, wrapU]
  omega
theorem xor_xor (a b : Int) (ha : 0 ≤ a ∧ a < 18446744073709551616) : bits .xor .u64 (bits .xor .u64 a b) b = a := by
  have h : BitVec.ofInt 64 (bits .xor .u64 (bits .xor .u64 a b) b) = BitVec.ofInt 64 a := by
    rw [ofInt_bits, ofInt_bits]
    show (BitVec.ofInt 64 a ^^^ BitVec.ofInt 64 b) ^^^ BitVec.ofInt 64 b = _
    rw [BitVec.xor_assoc, BitVec.xor_self, BitVec.xor_zero]
  have h2 := congrArg BitVec.toNat h
  have h3 := bits_lt .xor (bits .xor .u64 a b) b
  simp only [BitVec.toNat_ofInt] at h2
  omega
/-- as signed numbers -/
theorem less_eq (a b : Int) (ha : 0 ≤ a ∧ a < 18446744073709551616) (hb : 0 ≤ b ∧ b < 18446744073709551616) : (hiB (subV a b) != subO a b) = decide (wrap64 a < wrap64 b) := by
  rw [subO_eq]
  have h1 := hiB_dec a ha
  have h2 := hiB_dec b hb
  have h3 := hiB_dec (subV a b) (subV_lt a b)
  have h4 : subV a b = (a - b) % 18446744073709551616 := by unfold subV; rw [wrapU]
  rw [h1, h2, h3]
  rw [Bool.eq_iff_iff]
  by_cases c1 : 9223372036854775808 ≤ a <;> by_cases c2 : 9223372036854775808 ≤ b <;> by_cases c3 : 9223372036854775808 ≤ subV a b
  all_goals
    simp only [c1, c2, c3, decide_true, decide_false, decide_eq_true_eq]
    unfold wrap64
    rw [h4] at c3
    simp
    omega
theorem aluR9z (a b : Int) (z s c o : Bool) (h : bits .and .u64 b 63 = 0) : aluR 9 a b z s c o = ⟨a, z, s, c, o⟩ := by simp [aluR, h]
theorem aluR10z (a b : Int) (z s c o : Bool) (h : bits .and .u64 b 63 = 0) : aluR 10 a b z s c o = ⟨a, z, s, c, o⟩ := by simp [aluR, h]
theorem aluR9n (a b n : Int) (z s c o : Bool) (h : bits .and .u64 b 63 = n) (hn : n ≠ 0) : aluR 9 a b z s c o = tellR (shlV a n) (shlC a n) false := by simp [aluR, h, hn]
theorem aluR10n (a b n : Int) (z s c o : Bool) (h : bits .and .u64 b 63 = n) (hn : n ≠ 0) : aluR 10 a b z s c o = tellR (shrV a n) (shrC a n) false := by simp [aluR, h, hn]
theorem and1 (x : Int) (h0 : 0 ≤ x) (h1 : x < 18446744073709551616) : bits .and .u64 x 1 = x % 2 :=
  bits_mask .u64 64 (by decide) (fun n p q => by rw [wrapU]; omega) 1 (by decide) x h0 (by simpa using h1)
/-- doubled so many times; the bit that went out last -/
def dbl (a : Int) : Nat → Int
  | 0 => a
  | k + 1 => IntKind.u64.wrap (dbl a k + dbl a k)
def dblC (a : Int) (c : Bool) : Nat → Bool
  | 0 => c
  | k + 1 => dbl a k / 9223372036854775808 == 1
def hlv (a : Int) : Nat → Int
  | 0 => a
  | k + 1 => IntKind.u64.wrap ((hlv a k).tdiv 2)
def hlvC (a : Int) (c : Bool) : Nat → Bool
  | 0 => c
  | k + 1 => bits .and .u64 (hlv a k) 1 == 1
theorem dbl_eq (a : Int) (ha : 0 ≤ a ∧ a < 18446744073709551616) (k : Nat) : dbl a k = (a * 2 ^ k) % 18446744073709551616 := by
  induction k with
  | zero => simp [dbl]; omega
  | succ k ih =>
    simp only [dbl]
    rw [ih, wrapU, Int.pow_succ, ← Int.mul_assoc]
    omega
theorem hlv_eq (a : Int) (ha : 0 ≤ a ∧ a < 18446744073709551616) (k : Nat) : hlv a k = a / 2 ^ k := by
  induction k with
  | zero => simp [hlv]
  | succ k ih =>
    simp only [hlv]
    have q := quo_le a ha.1 k
    rw [ih, Int.tdiv_eq_ediv_of_nonneg q.1, wrapU, Int.pow_succ, ← Int.ediv_ediv_of_nonneg (by have := pow_pos' k; omega)]
    omega
theorem shlV_dbl (a : Int) (ha : 0 ≤ a ∧ a < 18446744073709551616) (m : Nat) : shlV a m = dbl a m := by
  rw [dbl_eq a ha]
  unfold shlV
  rw [wrapU]; rfl
theorem shrV_hlv (a : Int) (ha : 0 ≤ a ∧ a < 18446744073709551616) (m : Nat) : shrV a m = hlv a m := by
  rw [hlv_eq a ha]; rfl
theorem shrC_hlv (a : Int) (ha : 0 ≤ a ∧ a < 18446744073709551616) (c : Bool) (m : Nat) (hm : 0 < m) : shrC a m = hlvC a c m := by
  obtain ⟨k, rfl⟩ : ∃ k, m = k + 1 := ⟨m - 1, by omega⟩
  simp only [hlvC]
  rw [hlv_eq a ha]
  unfold shrC
  rw [show (((k + 1 : Nat) : Int) - 1).toNat = k by omega]
theorem shlC_dbl (a : Int) (ha : 0 ≤ a ∧ a < 18446744073709551616) (c : Bool) (m : Nat) (hm : 0 < m) (hm2 : m ≤ 63) : shlC a m = dblC a c m := by
  obtain ⟨k, rfl⟩ : ∃ k, m = k + 1 := ⟨m - 1, by omega⟩
  simp only [dblC]
  rw [dbl_eq a ha]
  unfold shlC
  have q := quo_le a ha.1 (64 - ((k + 1 : Nat) : Int)).toNat
  rw [and1 _ q.1 (by omega)]
  have e1 : (64 - ((k + 1 : Nat) : Int)).toNat = 63 - k := by omega
  rw [e1]
  have e2 : (9223372036854775808 : Int) = 2 ^ k * 2 ^ (63 - k) := by
    rw [← Int.pow_add, show k + (63 - k) = 63 by omega]; rfl
  have e3 : (a * 2 ^ k) / 9223372036854775808 = a / 2 ^ (63 - k) := by
    rw [e2, Int.mul_comm a, Int.mul_ediv_mul_of_pos _ _ (pow_pos' k)]
  have e4 : (a * 2 ^ k) % 18446744073709551616 / 9223372036854775808 = ((a * 2 ^ k) / 9223372036854775808) % 2 := by omega
  rw [e4, e3]
end Go.Proofs.Ytcmpcejbephaeaa
