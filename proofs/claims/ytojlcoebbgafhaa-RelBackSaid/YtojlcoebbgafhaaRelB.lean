/- What sites that are apart do, plain. -/
import Derived.Test.YtojlcoebbgafhaaRelQ
namespace Go.Proofs.Ytojlcoebbgafhaa
open Go.RowKit
set_option linter.unusedVariables false
set_option linter.unusedSimpArgs false
open PR
open Go.Proofs.YtojlcoebbgafhaaW.PrintWords Go.Proofs.YtojlcoebbgafhaaW.PrintLast Go.Proofs.YtojlcoebbgafhaaW.PrintMore
theorem putL_get (xs : List Int) (p n : Nat) (v : Int) (h : p + n ≤ xs.length) (i : Nat) : (putL xs p n v).getD i 0 = if p ≤ i ∧ i < p + n then v / 2 ^ (8 * (i - p)) % 256 else xs.getD i 0 := by
  unfold putL
  have hl := leB_len v n
  simp only [Int.toNat_natCast]
  rw [List.getD_eq_getElem?_getD, List.append_assoc]
  by_cases h1 : i < p
  · rw [List.getElem?_append_left (by rw [List.length_take]; omega), if_neg (by omega), List.getElem?_take_of_lt h1, ← List.getD_eq_getElem?_getD]
  · rw [List.getElem?_append_right (by rw [List.length_take]; omega), List.length_take, Nat.min_eq_left (by omega)]
    by_cases h2 : i < p + n
    · rw [List.getElem?_append_left (by rw [hl]; omega), if_pos (by omega), ← List.getD_eq_getElem?_getD, leB_get v n (i - p) (by omega)]
    · rw [List.getElem?_append_right (by rw [hl]; omega), hl, List.getElem?_drop, if_neg (by omega), ← List.getD_eq_getElem?_getD]
      congr 1; omega
theorem seg_ext (xs ys : List Int) (p n : Nat) (h : p + n ≤ xs.length) (h' : p + n ≤ ys.length) (he : ∀ i, p ≤ i → i < p + n → xs.getD i 0 = ys.getD i 0) : seg xs p n = seg ys p n := by
  have l1 := seg_len xs p n (by omega) (by omega) (by omega)
  have l2 := seg_len ys p n (by omega) (by omega) (by omega)
  refine list_ext_getD (by rw [l1, l2]) (fun i hi => ?_)
  rw [l1] at hi
  rw [seg_get _ _ _ _ h (by omega), seg_get _ _ _ _ h' (by omega)]
  exact he _ (by omega) (by omega)
theorem numV_nat (xs : List Int) (p n : Nat) (h : p + n ≤ xs.length) : numV xs p n = leV (seg xs p n) := numV_in _ _ _ (by omega)
theorem numV_put_other (xs : List Int) (p n q m : Nat) (v : Int) (h : p + n ≤ xs.length) (h2 : q + m ≤ xs.length) (hd : p + n ≤ q ∨ q + m ≤ p) : numV (putL xs p n v) q m = numV xs q m := by
  have hl : (putL xs p n v).length = xs.length := by
    unfold putL; simp only [Int.toNat_natCast]; rw [List.length_append, List.length_append, leB_len, List.length_take, List.length_drop]; omega
  rw [numV_nat _ _ _ (by omega), numV_nat _ _ _ h2, seg_ext _ _ _ _ (by omega) h2 (fun i h1 h2 => ?_)]
  rw [putL_get _ _ _ _ h, if_neg (by omega)]
theorem numV_put_same (xs : List Int) (p n : Nat) (v : Int) (h : p + n ≤ xs.length) (hv : 0 ≤ v) : numV (putL xs p n v) p n = v % 256 ^ n := by
  have hl : (putL xs p n v).length = xs.length := by
    unfold putL; simp only [Int.toNat_natCast]; rw [List.length_append, List.length_append, leB_len, List.length_take, List.length_drop]; omega
  rw [numV_nat _ _ _ (by omega), seg_put xs p n v h n (Nat.le_refl _), List.take_of_length_le (by rw [leB_len]; omega), leV_leB v hv n]
/-- a site in a row of n bytes -/
structure InRow (n : Nat) (s : S61) : Prop where
  lo : 0 ≤ s.f0
  hi : s.f0 + s.f1 ≤ n
  one : s.f1 = 4 ∨ s.f1 = 8
def Far (s t : S61) : Prop := s.f0 + s.f1 ≤ t.f0 ∨ t.f0 + t.f1 ≤ s.f0
theorem Far.symm {s t : S61} (h : Far s t) : Far t s := Or.symm h
def addM (v d n : Int) : Int := (v + d) % 256 ^ n.toNat
theorem apply1_eq (xs : List Int) (s : S61) (d : Int) (h : InRow xs.length s) : apply1 xs s d = putL xs s.f0 s.f1 ((numV xs s.f0 s.f1 + d) % 18446744073709551616) := by
  have := h.lo; have := h.hi; have := h.one
  unfold apply1
  rw [if_pos (by unfold inR; exact decide_eq_true ⟨by omega, by omega, by omega, by omega⟩)]
  unfold putV
  rw [if_pos (by unfold putB; exact decide_eq_true ⟨by omega, by omega, by omega, by omega, by omega⟩)]
theorem mod_pow (a : Int) (n : Int) (h : n = 4 ∨ n = 8) : a % 18446744073709551616 % 256 ^ n.toNat = a % 256 ^ n.toNat := by
  rcases h with rfl | rfl
  · show a % 18446744073709551616 % 4294967296 = a % 4294967296; omega
  · show a % 18446744073709551616 % 18446744073709551616 = a % 18446744073709551616; omega
theorem apply1_same (xs : List Int) (s : S61) (d : Int) (h : InRow xs.length s) : numV (apply1 xs s d) s.f0 s.f1 = addM (numV xs s.f0 s.f1) d s.f1 := by
  rw [apply1_eq xs s d h]
  obtain ⟨P, N⟩ := s
  obtain ⟨h1, h2, h3⟩ := h
  dsimp only at h1 h2 h3 ⊢
  obtain ⟨p, rfl⟩ := Int.eq_ofNat_of_zero_le h1
  obtain ⟨n, rfl⟩ := Int.eq_ofNat_of_zero_le (show 0 ≤ N by omega)
  rw [numV_put_same _ _ _ _ (by omega) (by omega), addM, ← mod_pow _ _ h3, Int.toNat_natCast]
theorem apply1_other (xs : List Int) (s t : S61) (d : Int) (h : InRow xs.length s) (h' : InRow xs.length t) (hf : Far s t) : numV (apply1 xs s d) t.f0 t.f1 = numV xs t.f0 t.f1 := by
  rw [apply1_eq xs s d h]
  obtain ⟨P, N⟩ := s
  obtain ⟨Q, M⟩ := t
  obtain ⟨h1, h2, h3⟩ := h
  obtain ⟨h4, h5, h6⟩ := h'
  unfold Far at hf
  dsimp only at h1 h2 h3 h4 h5 h6 hf ⊢
  obtain ⟨p, rfl⟩ := Int.eq_ofNat_of_zero_le h1
  obtain ⟨n, rfl⟩ := Int.eq_ofNat_of_zero_le (show 0 ≤ N by omega)
  obtain ⟨q, rfl⟩ := Int.eq_ofNat_of_zero_le h4
  obtain ⟨m, rfl⟩ := Int.eq_ofNat_of_zero_le (show 0 ≤ M by omega)
  exact numV_put_other _ _ _ _ _ _ (by omega) (by omega) (by omega)
def covers (s : S61) (i : Nat) : Prop := s.f0 ≤ i ∧ (i : Int) < s.f0 + s.f1
theorem apply1_out (xs : List Int) (s : S61) (d : Int) (h : InRow xs.length s) (i : Nat) (hi : ¬ covers s i) : (apply1 xs s d).getD i 0 = xs.getD i 0 := by
  rw [apply1_eq xs s d h]
  obtain ⟨P, N⟩ := s
  obtain ⟨h1, h2, h3⟩ := h
  unfold covers at hi
  dsimp only at h1 h2 h3 hi ⊢
  obtain ⟨p, rfl⟩ := Int.eq_ofNat_of_zero_le h1
  obtain ⟨n, rfl⟩ := Int.eq_ofNat_of_zero_le (show 0 ≤ N by omega)
  rw [putL_get _ _ _ _ (by omega), if_neg (by omega)]
structure Sep (n : Nat) (ss : List S61) : Prop where
  row : ∀ s ∈ ss, InRow n s
  far : ss.Pairwise Far
theorem applyP_other (t : S61) (d : Int) : ∀ (ss : List S61) (xs : List Int), (∀ s ∈ ss, InRow xs.length s) → InRow xs.length t → (∀ s ∈ ss, Far s t) → numV (applyP xs ss d) t.f0 t.f1 = numV xs t.f0 t.f1 := by
  intro ss
  induction ss with
  | nil => intro xs _ _ _; rfl
  | cons s ss ih =>
    intro xs h1 h2 h3
    show numV (applyP (apply1 xs s d) ss d) t.f0 t.f1 = _
    have hl := apply1_len xs s d
    rw [ih (apply1 xs s d) (fun x hx => by rw [hl]; exact h1 x (by simp [hx])) (by rw [hl]; exact h2) (fun x hx => h3 x (by simp [hx]))]
    exact apply1_other xs s t d (h1 s (by simp)) h2 (h3 s (by simp))
theorem applyP_at (d : Int) : ∀ (ss : List S61) (xs : List Int), Sep xs.length ss → ∀ t ∈ ss, numV (applyP xs ss d) t.f0 t.f1 = addM (numV xs t.f0 t.f1) d t.f1 := by
  intro ss
  induction ss with
  | nil => intro xs _ t ht; cases ht
  | cons s ss ih =>
    intro xs h t ht
    show numV (applyP (apply1 xs s d) ss d) t.f0 t.f1 = _
    have hl := apply1_len xs s d
    have hp := List.pairwise_cons.1 h.far
    rcases List.mem_cons.1 ht with rfl | ht
    · rw [applyP_other t d ss _ (fun x hx => by rw [hl]; exact h.row x (by simp [hx])) (by rw [hl]; exact h.row t (by simp)) (fun x hx => (hp.1 x hx).symm)]
      exact apply1_same xs t d (h.row t (by simp))
    · rw [ih (apply1 xs s d) ⟨fun x hx => by rw [hl]; exact h.row x (by simp [hx]), hp.2⟩ t ht]
      rw [apply1_other xs s t d (h.row s (by simp)) (h.row t (by simp [ht])) (hp.1 t ht)]
theorem applyP_out (d : Int) (i : Nat) : ∀ (ss : List S61) (xs : List Int), (∀ s ∈ ss, InRow xs.length s) → (∀ s ∈ ss, ¬ covers s i) → (applyP xs ss d).getD i 0 = xs.getD i 0 := by
  intro ss
  induction ss with
  | nil => intro xs _ _; rfl
  | cons s ss ih =>
    intro xs h1 h2
    show (applyP (apply1 xs s d) ss d).getD i 0 = _
    have hl := apply1_len xs s d
    rw [ih (apply1 xs s d) (fun x hx => by rw [hl]; exact h1 x (by simp [hx])) (fun x hx => h2 x (by simp [hx]))]
    exact apply1_out xs s d (h1 s (by simp)) i (h2 s (by simp))
theorem leV_inj : ∀ (xs ys : List Int), Bytes xs → Bytes ys → xs.length = ys.length → leV xs = leV ys → xs = ys := by
  intro xs
  induction xs with
  | nil => intro ys _ _ hl _; exact (List.length_eq_zero_iff.1 hl.symm).symm
  | cons x xs ih =>
    intro ys hx hy hl he
    cases ys with
    | nil => simp at hl
    | cons y ys =>
      have h1 := hx x (by simp); have h2 := hy y (by simp)
      simp only [leV] at he
      obtain rfl : x = y := by omega
      rw [ih ys (fun z hz => hx z (by simp [hz])) (fun z hz => hy z (by simp [hz])) (by simpa using hl) (by omega)]
/-- rows that tell the same numbers at the sites, and the same bytes beside them, are the same -/
theorem same_row (xs ys : List Int) (hx : Bytes xs) (hy : Bytes ys) (hl : xs.length = ys.length) (ss : List S61) (hr : ∀ s ∈ ss, InRow xs.length s)
    (ho : ∀ i, (∀ s ∈ ss, ¬ covers s i) → xs.getD i 0 = ys.getD i 0) (ha : ∀ s ∈ ss, numV xs s.f0 s.f1 = numV ys s.f0 s.f1) : xs = ys := by
  refine list_ext_getD hl (fun i hi => ?_)
  by_cases hc : ∃ s ∈ ss, covers s i
  · obtain ⟨s, hs, hci⟩ := hc
    have h1 := hr s hs
    have h2 := ha s hs
    obtain ⟨P, N⟩ := s
    obtain ⟨g1, g2, g3⟩ := h1
    unfold covers at hci
    dsimp only at g1 g2 g3 h2 hci
    obtain ⟨p, rfl⟩ := Int.eq_ofNat_of_zero_le g1
    obtain ⟨n, rfl⟩ := Int.eq_ofNat_of_zero_le (show 0 ≤ N by omega)
    rw [numV_nat _ _ _ (by omega), numV_nat _ _ _ (by omega)] at h2
    have := leV_inj (seg xs p n) (seg ys p n) ((hx.take _).drop _) ((hy.take _).drop _) (by rw [seg_len _ _ _ (by omega) (by omega) (by omega), seg_len _ _ _ (by omega) (by omega) (by omega)]) h2
    have h3 := seg_get xs p n (i - p) (by omega) (by omega)
    have h4 := seg_get ys p n (i - p) (by omega) (by omega)
    rw [this, h4, show p + (i - p) = i by omega] at h3
    exact h3.symm
  · exact ho i (fun s hs h => hc ⟨s, hs, h⟩)
theorem numV_range (xs : List Int) (hx : Bytes xs) (s : S61) (h : s.f1 = 4 ∨ s.f1 = 8) : 0 ≤ numV xs s.f0 s.f1 ∧ numV xs s.f0 s.f1 < 256 ^ s.f1.toNat :=
  numV_lt xs s.f0 s.f1 hx (by omega) s.f1.toNat (by omega)
theorem apply_back (xs : List Int) (hx : Bytes xs) (ss : List S61) (h : Sep xs.length ss) (d e : Int) (hde : (d + e) % 18446744073709551616 = 0) : applyP (applyP xs ss d) ss e = xs := by
  have hl := applyP_len ss d xs
  refine same_row _ _ (applyP_bytes _ _ _ (applyP_bytes _ _ _ hx)) hx (by rw [applyP_len, hl]) ss (fun s hs => by rw [applyP_len, hl]; exact h.row s hs) (fun i hi => ?_) (fun s hs => ?_)
  · rw [applyP_out e i ss _ (fun s hs => by rw [hl]; exact h.row s hs) hi, applyP_out d i ss _ h.row hi]
  · rw [applyP_at e ss _ (by rw [hl]; exact h) s hs, applyP_at d ss xs h s hs]
    have hr := numV_range xs hx s (h.row s hs).one
    unfold addM
    rcases (h.row s hs).one with h1 | h1 <;> rw [h1] at hr ⊢
    · show ((numV xs s.f0 4 + d) % 4294967296 + e) % 4294967296 = _
      have : numV xs s.f0 4 < 4294967296 := hr.2
      have := hr.1
      omega
    · show ((numV xs s.f0 8 + d) % 18446744073709551616 + e) % 18446744073709551616 = _
      have : numV xs s.f0 8 < 18446744073709551616 := hr.2
      have := hr.1
      omega
theorem apply_zero (xs : List Int) (hx : Bytes xs) (ss : List S61) (h : Sep xs.length ss) : applyP xs ss 0 = xs := by
  have := apply_back xs hx ss h 0 0 (by decide)
  refine same_row _ _ (applyP_bytes _ _ _ hx) hx (applyP_len _ _ _) ss (fun s hs => by rw [applyP_len]; exact h.row s hs) (fun i hi => applyP_out 0 i ss _ h.row hi) (fun s hs => ?_)
  rw [applyP_at 0 ss xs h s hs]
  have hr := numV_range xs hx s (h.row s hs).one
  unfold addM
  rw [Int.add_zero]
  exact Int.emod_eq_of_lt hr.1 hr.2
theorem apply_diff (xs : List Int) (ss : List S61) (h : Sep xs.length ss) (d e : Int) (s : S61) (hs : s ∈ ss) :
    (numV (applyP xs ss d) s.f0 s.f1 - numV (applyP xs ss e) s.f0 s.f1) % 256 ^ s.f1.toNat = (d - e) % 256 ^ s.f1.toNat := by
  rw [applyP_at d ss xs h s hs, applyP_at e ss xs h s hs]
  unfold addM
  rcases (h.row s hs).one with h1 | h1 <;> rw [h1]
  · show ((numV xs s.f0 4 + d) % 4294967296 - (numV xs s.f0 4 + e) % 4294967296) % 4294967296 = (d - e) % 4294967296; omega
  · show ((numV xs s.f0 8 + d) % 18446744073709551616 - (numV xs s.f0 8 + e) % 18446744073709551616) % 18446744073709551616 = (d - e) % 18446744073709551616; omega
end Go.Proofs.Ytojlcoebbgafhaa
