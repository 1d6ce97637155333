/- BoundFresh, plain. -/
import Derived.Test.YtojlcoebbgafhaaE4
import Derived.Test.YtojlcoebbgafhaaBF4
namespace Go.Proofs.Ytojlcoebbgafhaa.Pure
open Go.RowKit Go.Proofs.Ytojlcoebbgafhaa Go.Proofs.Ytojlcoebbgafhaa.PB Go.Proofs.YtojlcoebbgafhaaW.PrintWords Go.Proofs.YtojlcoebbgafhaaW.PrintLast
def dgF (i : Nat) : ByteArray := (slipwayref1_Digits.f 30 (i : Int)).getD ⟨#[]⟩
def nmB (i : Nat) : ByteArray := (⟨#[77]⟩ : ByteArray) ++ dgF i
def nmS (i : Nat) : ByteArray := ((⟨#[109]⟩ : ByteArray) ++ dgF i) ++ (⟨#[46, 100, 108, 108]⟩ : ByteArray)
set_option maxRecDepth 100000 in
theorem dgF_all : (List.range 20).all (fun i => match slipwayref1_Digits.f 30 (i : Int) with | some b => decide (b = dgF i) && decide (b.size ≤ 2) | none => false) = true := by kernel_rfl
theorem dgF_is (i : Nat) (h : i < 20) : slipwayref1_Digits.f 30 (i : Int) = some (dgF i) ∧ (dgF i).size ≤ 2 := by
  have := List.all_eq_true.1 dgF_all i (List.mem_range.2 h)
  revert this
  cases slipwayref1_Digits.f 30 (i : Int) with
  | none => intro h; cases h
  | some b =>
    intro h
    rw [Bool.and_eq_true] at h
    have h1 := of_decide_eq_true h.1
    have h2 := of_decide_eq_true h.2
    subst h1
    exact ⟨rfl, h2⟩
theorem dgF_k (i k : Nat) (h : i < 20) (hk : 30 ≤ k) : slipwayref1_Digits.f k (i : Int) = some (dgF i) := at_rounds (fun k => slipwayref1_Digits.mono _ k) hk (dgF_is i h).1
set_option maxRecDepth 100000 in
theorem same_all : ((List.range 20).all fun i => (List.range 20).all fun j => fold_Same.f (nmS j) (nmB i) == some (j == i)) = true := by kernel_rfl
theorem same_is (i j : Nat) (hi : i < 20) (hj : j < 20) : fold_Same.f (nmS j) (nmB i) = some (j == i) :=
  eq_of_beq (List.all_eq_true.1 (List.all_eq_true.1 same_all i (List.mem_range.2 hi)) j (List.mem_range.2 hj))
-- rows of modules: a list of (number of the name, value)
def mkS (js : List (Nat × Int)) : List S38 := js.map fun p => ⟨nmS p.1, p.2⟩
def mkB (is : List (Nat × Int)) : List S25 := is.map fun p => ⟨nmB p.1, p.2⟩
def ans (i : Nat) (js : List (Nat × Int)) : Int × Bool := match js.find? (fun p => p.1 == i) with | some p => (p.2, true) | none => (0, false)
theorem mkS_len (js : List (Nat × Int)) : (mkS js).length = js.length := by simp [mkS]
theorem mkB_len (js : List (Nat × Int)) : (mkB js).length = js.length := by simp [mkB]
theorem rd_mkS (js : List (Nat × Int)) (p : Nat) (h : p < js.length) : rd_T38 (mkS js) (p : Int) = ⟨nmS js[p].1, js[p].2⟩ := by
  unfold rd_T38 mkS
  rw [Int.toNat_natCast, List.getD_eq_getElem?_getD, List.getElem?_map, List.getElem?_eq_getElem h]; rfl
theorem rd_mkB (js : List (Nat × Int)) (p : Nat) (h : p < js.length) : rd_T25 (mkB js) (p : Int) = ⟨nmB js[p].1, js[p].2⟩ := by
  unfold rd_T25 mkB
  rw [Int.toNat_natCast, List.getD_eq_getElem?_getD, List.getElem?_map, List.getElem?_eq_getElem h]; rfl
theorem wrap_up (p : Nat) (h : p < 1000000) : wrap64 ((p : Int) + 1) = ((p + 1 : Nat) : Int) := by unfold wrap64; omega
theorem stamp_l0 (i : Nat) (hi : i < 20) (js : List (Nat × Int)) (hj : ∀ p ∈ js, p.1 < 20) (hl : js.length ≤ 1000) : ∀ d p k : Nat, p + d = js.length → bound_stamp.l0 (k + d + 1) (nmB i) (mkS js) (js.length : Int) (p : Int) = some (ans i (js.drop p))
  | 0, p, k, h => by
    rw [bound_stamp.l0, if_neg (by omega), List.drop_eq_nil_of_le (by omega)]; rfl
  | d + 1, p, k, h => by
    have hp : p < js.length := by omega
    rw [bound_stamp.l0, if_pos (by omega), if_pos (by omega), mkS_len, if_pos (by omega), rd_mkS js p hp]
    show ((fold_Same.f (nmS js[p].1) (nmB i)).bind fun t103 => _) = _
    rw [same_is i js[p].1 hi (hj _ (List.getElem_mem hp)), Option.bind_some, List.drop_eq_getElem_cons hp]
    unfold ans
    rw [List.find?_cons]
    cases hc : js[p].1 == i
    · rw [if_neg (by decide), wrap_up p (by omega)]
      exact stamp_l0 i hi js hj hl d (p + 1) k (by omega)
    · rw [if_pos rfl]
theorem stamp_is (i : Nat) (hi : i < 20) (js : List (Nat × Int)) (hj : ∀ p ∈ js, p.1 < 20) (hl : js.length ≤ 1000) (k : Nat) (hk : js.length + 1 ≤ k) : bound_stamp.f k (mkS js) (nmB i) = some (ans i js) := by
  unfold bound_stamp.f
  rw [mkS_len]
  obtain ⟨m, rfl⟩ : ∃ m, k = m + js.length + 1 := ⟨k - js.length - 1, by omega⟩
  exact stamp_l0 i hi js hj hl js.length 0 m (by omega)
def okB (js : List (Nat × Int)) (p : Nat × Int) : Bool := (ans p.1 js).2 && ((ans p.1 js).1 == p.2)
theorem fresh_l0 (is js : List (Nat × Int)) (hi : ∀ p ∈ is, p.1 < 20) (hj : ∀ p ∈ js, p.1 < 20) (hli : is.length ≤ 1000) (hl : js.length ≤ 1000) : ∀ d p k : Nat, p + d = is.length → js.length + 1 ≤ k → bound_Fresh.l0 (k + d + 1) (mkS js) (mkB is) (is.length : Int) (p : Int) = some ((is.drop p).all (okB js))
  | 0, p, k, h, hk => by
    rw [bound_Fresh.l0, if_neg (by omega), List.drop_eq_nil_of_le (by omega)]; rfl
  | d + 1, p, k, h, hk => by
    have hp : p < is.length := by omega
    rw [bound_Fresh.l0, if_pos (by omega), if_pos (by omega), mkB_len, if_pos (by omega), rd_mkB is p hp]
    show ((bound_stamp.f _ (mkS js) (nmB is[p].1)).bind fun bt103 => _) = _
    rw [stamp_is is[p].1 (hi _ (List.getElem_mem hp)) js hj hl _ (by omega), Option.bind_some, List.drop_eq_getElem_cons hp, List.all_cons]
    unfold okB
    cases h2 : (ans is[p].1 js).2
    · rw [if_neg (by decide)]; rfl
    · rw [if_pos rfl]
      by_cases h1 : (ans is[p].1 js).1 = is[p].2
      · rw [if_pos h1, wrap_up p (by omega), h1, beq_self_eq_true]
        exact (fresh_l0 is js hi hj hli hl d (p + 1) k (by omega) hk).trans (by rw [Bool.true_and, Bool.true_and]; rfl)
      · rw [if_neg h1, beq_eq_false_iff_ne.mpr h1]; rfl
theorem fresh_is (is js : List (Nat × Int)) (hi : ∀ p ∈ is, p.1 < 20) (hj : ∀ p ∈ js, p.1 < 20) (hli : is.length ≤ 1000) (hl : js.length ≤ 1000) (k : Nat) (hk : is.length + js.length + 2 ≤ k) : bound_Fresh.f k (mkB is) (mkS js) = some (is.all (okB js)) := by
  unfold bound_Fresh.f
  rw [mkB_len]
  obtain ⟨m, rfl⟩ : ∃ m, k = m + is.length + 1 := ⟨k - is.length - 1, by omega⟩
  exact fresh_l0 is js hi hj hli hl is.length 0 m (by omega) (by omega)
theorem ans_mem (i : Nat) (v : Int) (js : List (Nat × Int)) (h1 : (i, v) ∈ js) (h2 : ∀ p ∈ js, p.1 = i → p.2 = v) : ans i js = (v, true) := by
  unfold ans
  cases h : js.find? (fun p => p.1 == i) with
  | none => exact absurd (List.find?_eq_none.1 h (i, v) h1) (by simp)
  | some p =>
    have hq := List.find?_some h
    have hm := List.mem_of_find?_eq_some h
    show (p.2, true) = (v, true)
    rw [h2 p hm (eq_of_beq hq)]
theorem ans_not (i : Nat) (js : List (Nat × Int)) (h : ∀ p ∈ js, p.1 ≠ i) : ans i js = (0, false) := by
  unfold ans
  rw [List.find?_eq_none.2 (fun p hp => by simpa using h p hp)]
theorem ofInt_wrap (x : BitVec 64) : BitVec.ofInt 64 (IntKind.i64.wrap (x.toNat : Int)) = x := by
  apply BitVec.eq_of_toNat_eq
  rw [BitVec.toNat_ofInt]
  have := x.isLt
  have h2 : ((2 ^ 64 : Nat) : Int) = 18446744073709551616 := by decide
  rw [IntKind.wrap_i64, h2]
  omega
theorem xor_turns (v b : Int) : Go.bits .xor .i64 v (Go.bits .or .i64 b 1) ≠ v := by
  intro h
  have h1 := congrArg (BitVec.ofInt 64) h
  have hu : BitVec.ofInt 64 (Go.bits .or .i64 b 1) = BitVec.ofInt 64 b ||| BitVec.ofInt 64 1 := ofInt_wrap _
  have hx : BitVec.ofInt 64 (Go.bits .xor .i64 v (Go.bits .or .i64 b 1)) = BitVec.ofInt 64 v ^^^ BitVec.ofInt 64 (Go.bits .or .i64 b 1) := ofInt_wrap _
  rw [hx, hu] at h1
  generalize BitVec.ofInt 64 v = x at h1
  generalize BitVec.ofInt 64 b = y at h1
  have h2 := congrArg (fun z : BitVec 64 => z.getLsbD 0) h1
  simp at h2
def asc (nums : List Int) (i : Nat) : List (Nat × Int) := (List.range i).map fun j : Nat => (j, nums.getD j 0)
def desc (nums : List Int) (i : Nat) : List (Nat × Int) := (asc nums i).reverse
theorem asc_succ (nums : List Int) (i : Nat) : asc nums (i + 1) = asc nums i ++ [(i, nums.getD i 0)] := by unfold asc; rw [List.range_succ, List.map_append]; rfl
theorem desc_succ (nums : List Int) (i : Nat) : desc nums (i + 1) = (i, nums.getD i 0) :: desc nums i := by unfold desc; rw [asc_succ, List.reverse_append]; rfl
theorem asc_len (nums : List Int) (i : Nat) : (asc nums i).length = i := by simp [asc]
theorem desc_len (nums : List Int) (i : Nat) : (desc nums i).length = i := by simp [desc, asc]
theorem mem_asc (nums : List Int) (i : Nat) (p : Nat × Int) (h : p ∈ asc nums i) : p.1 < i ∧ p.2 = nums.getD p.1 0 := by
  obtain ⟨j, hj, rfl⟩ := List.mem_map.1 h
  exact ⟨List.mem_range.1 hj, rfl⟩
theorem mem_desc (nums : List Int) (i : Nat) (p : Nat × Int) (h : p ∈ desc nums i) : p.1 < i ∧ p.2 = nums.getD p.1 0 := mem_asc nums i p (List.mem_reverse.1 h)
theorem all_there (nums : List Int) (n : Nat) : (asc nums n).all (okB (desc nums n)) = true := by
  rw [List.all_eq_true]
  intro p hp
  have hm := mem_asc nums n p hp
  have := ans_mem p.1 p.2 (desc nums n) (List.mem_reverse.2 hp) (fun q hq e => by rw [(mem_desc nums n q hq).2, e, ← hm.2])
  unfold okB
  rw [this, beq_self_eq_true]; rfl
theorem desc_nodup (nums : List Int) : ∀ n : Nat, ((desc nums n).map Prod.fst).Nodup
  | 0 => List.nodup_nil
  | n + 1 => by
    rw [desc_succ, List.map_cons, List.nodup_cons]
    refine ⟨fun h => ?_, desc_nodup nums n⟩
    obtain ⟨q, hq, e⟩ := List.mem_map.1 h
    have := (mem_desc nums n q hq).1
    have e : q.1 = n := e
    omega
theorem split_at (nums : List Int) (n c : Nat) (hc : c < n) : ∃ p ∈ asc nums n, ∃ A B, desc nums n = A ++ p :: B ∧ (desc nums n)[c]? = some p ∧ (desc nums n).take c = A ∧ (desc nums n).drop (c + 1) = B ∧ (∀ q ∈ A, q.1 ≠ p.1) ∧ (∀ q ∈ B, q.1 ≠ p.1) := by
  have hl : c < (desc nums n).length := by rw [desc_len]; exact hc
  have hs : desc nums n = (desc nums n).take c ++ (desc nums n)[c] :: (desc nums n).drop (c + 1) := by rw [← List.drop_eq_getElem_cons hl, List.take_append_drop]
  have hnd := desc_nodup nums n
  rw [hs, List.map_append, List.map_cons] at hnd
  have hnd := List.nodup_append.1 hnd
  refine ⟨(desc nums n)[c], List.mem_reverse.1 (List.getElem_mem hl), _, _, hs, List.getElem?_eq_getElem hl, rfl, rfl, fun q hq => hnd.2.2 _ (List.mem_map_of_mem hq) _ (List.mem_cons_self ..), fun q hq e => (List.nodup_cons.1 hnd.2.1).1 (e ▸ List.mem_map_of_mem hq)⟩
theorem step0F (nums : List Int) (n i k : Nat) (a1 a2 : Int) (hi : i < n) (hn : n ≤ 20) (hln : n ≤ nums.length) (hk : 30 ≤ k) : slipwaylaw9_BoundFresh.l0 (k + 1) nums a1 a2 (mkB (asc nums i)) (mkS (desc nums i)) n i = slipwaylaw9_BoundFresh.l0 k nums a1 a2 (mkB (asc nums (i + 1))) (mkS (desc nums (i + 1))) n ((i + 1 : Nat) : Int) := by
  have hd := (dgF_is i (by omega)).2
  have hs1 : ((⟨#[109]⟩ : ByteArray) ++ dgF i).size ≤ 3 := by rw [ByteArray.size_append]; have : (⟨#[109]⟩ : ByteArray).size = 1 := rfl; omega
  rw [slipwaylaw9_BoundFresh.l0, if_pos (show (i : Int) < (n : Int) by omega), dgF_k i k (by omega) hk, Option.bind_some, if_pos (by omega), if_pos (by omega), if_pos (by omega), if_pos (by rw [mkB_len, asc_len]; omega), Option.bind_some, if_pos (by omega), if_pos (by omega), Option.bind_some, if_pos (by rw [mkS_len, desc_len]; show 1 + i < _; omega), wrap_up i (by omega), asc_succ, desc_succ]
  unfold mkB mkS
  rw [List.map_append]
  rfl
theorem loop0F (nums : List Int) (n : Nat) (a1 a2 : Int) (hn : n ≤ 20) (hln : n ≤ nums.length) : ∀ d i k : Nat, d + i = n → 30 ≤ k → slipwaylaw9_BoundFresh.l0 (k + d) nums a1 a2 (mkB (asc nums i)) (mkS (desc nums i)) n i = slipwaylaw9_BoundFresh.l0 k nums a1 a2 (mkB (asc nums n)) (mkS (desc nums n)) n n
  | 0, i, k, h, _ => by obtain rfl : i = n := by omega
                        rfl
  | d + 1, i, k, h, hk => by
    rw [show k + (d + 1) = (k + d) + 1 by omega, step0F nums n i (k + d) a1 a2 (by omega) hn hln (by omega)]
    exact loop0F nums n a1 a2 hn hln d (i + 1) k (by omega) hk
theorem place_c (p : Int) (m : Nat) (hm : 0 < m) : ∃ q : Nat, q < m ∧ Int.tmod (Go.bits .and .i64 p 255) (m : Int) = q := by
  have h : 0 ≤ Go.bits .and .i64 p 255 ∧ Go.bits .and .i64 p 255 ≤ 255 := and_i64 p 255 (by decide)
  generalize Go.bits .and .i64 p 255 = z at *
  refine ⟨(z % (m : Int)).toNat, ?_, ?_⟩
  · have := Int.emod_lt_of_pos z (show (0 : Int) < m by omega)
    have := Int.emod_nonneg z (show (m : Int) ≠ 0 by omega)
    omega
  · rw [Int.tmod_eq_emod_of_nonneg h.1, Int.toNat_of_nonneg (Int.emod_nonneg _ (by omega))]
theorem asc_ok (nums : List Int) (n : Nat) (hn : n ≤ 20) : ∀ p ∈ asc nums n, p.1 < 20 := fun p hp => by have := (mem_asc nums n p hp).1; omega
theorem desc_ok (nums : List Int) (n : Nat) (hn : n ≤ 20) : ∀ p ∈ desc nums n, p.1 < 20 := fun p hp => by have := (mem_desc nums n p hp).1; omega
theorem okB_turned (p : Nat × Int) (A B : List (Nat × Int)) (b : Int) (hA : ∀ q ∈ A, q.1 ≠ p.1) (hB : ∀ q ∈ B, q.1 ≠ p.1) : okB (A ++ (p.1, Go.bits .xor .i64 p.2 (Go.bits .or .i64 b 1)) :: B) p = false := by
  have h := ans_mem p.1 (Go.bits .xor .i64 p.2 (Go.bits .or .i64 b 1)) (A ++ (p.1, Go.bits .xor .i64 p.2 (Go.bits .or .i64 b 1)) :: B) (List.mem_append.2 (.inr (List.mem_cons_self ..))) (fun q hq e => by
    rcases List.mem_append.1 hq with h | h
    · exact absurd e (hA q h)
    · rcases List.mem_cons.1 h with rfl | h
      · rfl
      · exact absurd e (hB q h))
  unfold okB
  rw [h, beq_eq_false_iff_ne.mpr (xor_turns p.2 b)]; rfl
theorem okB_gone (p : Nat × Int) (A B : List (Nat × Int)) (hA : ∀ q ∈ A, q.1 ≠ p.1) (hB : ∀ q ∈ B, q.1 ≠ p.1) : okB (A ++ B) p = false := by
  have h := ans_not p.1 (A ++ B) (fun q hq => by
    rcases List.mem_append.1 hq with h | h
    · exact hA q h
    · exact hB q h)
  unfold okB
  rw [h]; rfl
set_option maxRecDepth 1000000 in
theorem awakeF : slipwaylaw9_awake.f 299 = some true := by kernel_rfl
set_option maxRecDepth 1000000 in
theorem j1_nil (a1 a2 : Int) : slipwaylaw9_BoundFresh.j1 300 a1 a2 [] [] 0 true = some true := by
  rw [slipwaylaw9_BoundFresh.j1, if_pos rfl, if_pos rfl]
  have h : bound_Fresh.f 299 ([] : List S25) ([] : List S38) = some true := fresh_is [] [] (by simp) (by simp) (by simp) (by simp) 299 (by simp)
  rw [h, Option.bind_some, if_pos rfl, awakeF]; rfl
theorem j1_some (nums : List Int) (n : Nat) (a1 a2 : Int) (h0 : 0 < n) (hn : n ≤ 20) : slipwaylaw9_BoundFresh.j1 300 a1 a2 (mkB (asc nums n)) (mkS (desc nums n)) n false = some true := by
  obtain ⟨c, hc, he⟩ := place_c a1 n h0
  obtain ⟨p, hp, A, B, hS, hcp, hA, hB, hnA, hnB⟩ := split_at nums n c hc
  have hl := desc_len nums n
  have hlA : A.length ≤ 20 := by rw [← hA, List.length_take]; omega
  have hlB : B.length ≤ 20 := by rw [← hB, List.length_drop]; omega
  have hlS : (mkS (desc nums n)).length = n := by rw [mkS_len, hl]
  have hrd := rd_mkS (desc nums n) c (by omega)
  have hg : (desc nums n)[c]'(by omega) = p := by
    have := List.getElem?_eq_getElem (l := desc nums n) (i := c) (by omega)
    rw [this] at hcp; exact Option.some.inj hcp
  rw [hg] at hrd
  have hset : (mkS (desc nums n)).set c ⟨nmS p.1, Go.bits .xor .i64 p.2 (Go.bits .or .i64 a2 1)⟩ = mkS (A ++ (p.1, Go.bits .xor .i64 p.2 (Go.bits .or .i64 a2 1)) :: B) := by
    rw [List.set_eq_take_append_cons_drop, if_pos (by omega)]
    unfold mkS
    rw [List.map_append, List.map_cons, ← hA, ← hB, List.map_take, List.map_drop]
  have htk : (mkS (desc nums n)).take c = mkS A := by unfold mkS; rw [← List.map_take, hA]
  have hdr : (mkS (desc nums n)).drop (c + 1) = mkS B := by unfold mkS; rw [← List.map_drop, hB]
  have hm20 : ∀ q ∈ A ++ B, q.1 < 20 := fun q hq => desc_ok nums n hn q (by
    rw [hS]
    rcases List.mem_append.1 hq with h | h
    · exact List.mem_append.2 (.inl h)
    · exact List.mem_append.2 (.inr (List.mem_cons_of_mem _ h)))
  have hp20 := asc_ok nums n hn p hp
  have f1 : bound_Fresh.f 299 (mkB (asc nums n)) (mkS (A ++ (p.1, Go.bits .xor .i64 p.2 (Go.bits .or .i64 a2 1)) :: B)) = some false := by
    rw [fresh_is _ _ (asc_ok nums n hn) (fun q hq => by
      rcases List.mem_append.1 hq with h | h
      · exact hm20 q (List.mem_append.2 (.inl h))
      · rcases List.mem_cons.1 h with rfl | h
        · exact hp20
        · exact hm20 q (List.mem_append.2 (.inr h))) (by rw [asc_len]; omega) (by rw [List.length_append, List.length_cons]; omega) 299 (by rw [asc_len, List.length_append, List.length_cons]; omega)]
    rw [List.all_eq_false.2 ⟨p, hp, by rw [okB_turned p A B a2 hnA hnB]; decide⟩]
  have f2 : bound_Fresh.f 299 (mkB (asc nums n)) (mkS A ++ mkS B) = some false := by
    rw [show mkS A ++ mkS B = mkS (A ++ B) from (List.map_append ..).symm, fresh_is _ _ (asc_ok nums n hn) hm20 (by rw [asc_len]; omega) (by rw [List.length_append]; omega) 299 (by rw [asc_len, List.length_append]; omega)]
    rw [List.all_eq_false.2 ⟨p, hp, by rw [okB_gone p A B hnA hnB]; decide⟩]
  rw [slipwaylaw9_BoundFresh.j1, if_neg (by decide), if_neg (show ¬ (n : Int) = 0 by omega), Option.bind_some, hlS, if_pos (by show 0 + n < _; omega), Option.bind_some, List.nil_append, he, hlS,
    if_pos (show (0 : Int) ≤ (c : Int) by omega), if_pos (show (c : Int) < (n : Int) by omega), Option.bind_some, if_pos (show (c : Int) ≤ (n : Int) by omega), Option.bind_some, Int.toNat_natCast, htk, hrd, if_pos (by rw [mkS_len]; show 0 + A.length < _; omega), Option.bind_some, wrap_up c (by omega),
    if_pos (show (0 : Int) ≤ ((c + 1 : Nat) : Int) by omega), if_pos (show ((c + 1 : Nat) : Int) ≤ (n : Int) by omega), Option.bind_some, Int.toNat_natCast, hdr, List.nil_append, if_pos (by rw [mkS_len, mkS_len]; omega)]
  show ((bound_Fresh.f 299 _ ((mkS (desc nums n)).set c ⟨nmS p.1, Go.bits .xor .i64 p.2 (Go.bits .or .i64 a2 1)⟩)).bind fun t142 => _) = _
  rw [hset, f1, Option.bind_some, if_neg (by decide), f2, Option.bind_some, if_neg (by decide), awakeF]
  rfl
theorem end0F (nums : List Int) (n : Nat) (a1 a2 : Int) (hn : n ≤ 20) : slipwaylaw9_BoundFresh.l0 301 nums a1 a2 (mkB (asc nums n)) (mkS (desc nums n)) n n = some true := by
  rw [slipwaylaw9_BoundFresh.l0, if_neg (show ¬ (n : Int) < (n : Int) by omega), fresh_is _ _ (asc_ok nums n hn) (desc_ok nums n hn) (by rw [asc_len]; omega) (by rw [desc_len]; omega) 300 (by rw [asc_len, desc_len]; omega), all_there, Option.bind_some, if_pos rfl]
  by_cases h0 : n = 0
  · subst h0
    exact j1_nil a1 a2
  · rw [show ((n : Int) == 0) = false from beq_eq_false_iff_ne.2 (by omega)]
    exact j1_some nums n a1 a2 (by omega) hn
theorem BoundFresh : slipwaylaw9_BoundFresh.Pure := by
  intro l0 a1 a2 _ _ _ _ _
  obtain ⟨n, hn⟩ : ∃ n, min l0.length 20 = n := ⟨_, rfl⟩
  refine ⟨301 + n, ?_⟩
  unfold slipwaylaw9_BoundFresh.f
  rw [show mn (l0.length : Int) 20 = (n : Int) by unfold mn; split <;> omega]
  have := loop0F l0 n a1 a2 (by omega) (by omega) n 0 301 (by omega) (by omega)
  exact this.trans (end0F l0 n a1 a2 (by omega))
end Go.Proofs.Ytojlcoebbgafhaa.Pure
