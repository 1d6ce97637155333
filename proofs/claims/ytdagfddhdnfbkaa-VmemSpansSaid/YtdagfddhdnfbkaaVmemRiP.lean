/- The law VmemRights in plain: two pages of unlike rights. -/
import Derived.Test.YtdagfddhdnfbkaaVmemAw
namespace Go.Proofs.Ytdagfddhdnfbkaa
open Go.RowKit
set_option linter.unusedVariables false
set_option linter.unusedSimpArgs false
open Go.Proofs.YtdagfddhdnfbkaaW.PrintWords
/-- pages at 8192 and 12288 of protections a and b -/
def Rm (a b : Int) (M : AMem) : Prop := ∃ x y : List Int × Int, M.pg 8192 = some x ∧ M.pg 12288 = some y ∧ x.2 = a ∧ y.2 = b ∧ x.1.length = 4096 ∧ y.1.length = 4096
theorem hasB (a : Int) (h : (a : Int) < 8) (prot kind : Int) : (if 8 ≤ a then (5 : Int) else if bits .and .i64 a prot = 0 then kind else 0) = if bits .and .i64 a prot = 0 then kind else 0 := if_neg (by omega)
def mayX (first second : Bool) (a b right : Int) : Bool := (!first || bits .and .i64 a right != 0) && (!second || bits .and .i64 b right != 0)
theorem rm_askK {a b : Int} {M : AMem} (h : Rm a b M) (ha : a < 8) (hb : b < 8) (prot kind p : Int) (i : Nat) (h0 : 0 ≤ p) (h1 : p + i < 8192) :
    askK M prot kind (aT (8192 + p) i) = if bits .and .i64 (if p + i < 4096 then a else b) prot = 0 then kind else 0 := by
  obtain ⟨x, y, hx, hy, rfl, rfl, -⟩ := h
  have e : aT (8192 + p) i = 8192 + p + i := by unfold aT; omega
  rw [e]
  by_cases c : p + i < 4096
  · have e2 : baseV (8192 + p + i) = 8192 := by unfold baseV; omega
    rw [askK_some (by rw [e2]; exact hx), if_pos c, hasB _ ha]
  · have e2 : baseV (8192 + p + i) = 12288 := by unfold baseV; omega
    rw [askK_some (by rw [e2]; exact hy), if_neg c, hasB _ hb]
theorem rm_clear {a b : Int} {M : AMem} (h : Rm a b M) (ha : a < 8) (hb : b < 8) (p : Int) (i : Nat) (h0 : 0 ≤ p) (h1 : p + i < 8192) : clearG M (aT (8192 + p) i) = M := by
  obtain ⟨x, y, hx, hy, rfl, rfl, -⟩ := h
  have e : aT (8192 + p) i = 8192 + p + i := by unfold aT; omega
  rw [e]
  by_cases c : p + i < 4096
  · have e2 : baseV (8192 + p + i) = 8192 := by unfold baseV; omega
    exact clearG_low (by rw [e2]; exact hx) ha
  · have e2 : baseV (8192 + p + i) = 12288 := by unfold baseV; omega
    exact clearG_low (by rw [e2]; exact hy) hb
/-- what an access is told -/
theorem rm_ask {a b : Int} {M : AMem} (h : Rm a b M) (ha : a < 8) (hb : b < 8) (prot kind p n : Int) (h0 : 0 ≤ p) (hn : 1 ≤ n) (h1 : p + n ≤ 8192) (hk : kind ≠ 0) :
    askM M (8192 + p) n prot kind = M ∧ askF M (8192 + p) n prot kind = if mayX (decide (p < 4096)) (decide (4096 < p + n)) a b prot = true then (0, 0) else (kind, if p < 4096 ∧ bits .and .i64 a prot ≠ 0 then 12288 else 8192 + p) := by
  have keyA : ∀ i : Nat, (i : Int) < n → p + i < 4096 → askK M prot kind (aT (8192 + p) i) = if bits .and .i64 a prot = 0 then kind else 0 := fun i hi c => by
    have := rm_askK h ha hb prot kind p i h0 (by omega)
    rwa [if_pos c] at this
  have keyB : ∀ i : Nat, (i : Int) < n → ¬ p + i < 4096 → askK M prot kind (aT (8192 + p) i) = if bits .and .i64 b prot = 0 then kind else 0 := fun i hi c => by
    have := rm_askK h ha hb prot kind p i h0 (by omega)
    rwa [if_neg c] at this
  by_cases hA : bits .and .i64 a prot = 0
  · by_cases hf : p < 4096
    · obtain ⟨e1, e2⟩ := askF_at (M := M) (p := 8192 + p) (n := n) (prot := prot) (kind := kind) 0 (by omega) (by omega) (fun j hj => absurd hj (by omega)) ((keyA 0 (by omega) (by omega)).trans (if_pos hA)) hk
      have hm : mayX (decide (p < 4096)) (decide (4096 < p + n)) a b prot = false := by unfold mayX; rw [decide_eq_true hf, hA]; rfl
      refine ⟨by rw [e2, rm_clear h ha hb p 0 h0 (by omega)], ?_⟩
      rw [e1, hm, if_neg (by decide), if_neg (fun h => h.2 hA), aT_zero _ (by omega) (by omega)]
    · by_cases hB : bits .and .i64 b prot = 0
      · obtain ⟨e1, e2⟩ := askF_at (M := M) (p := 8192 + p) (n := n) (prot := prot) (kind := kind) 0 (by omega) (by omega) (fun j hj => absurd hj (by omega)) ((keyB 0 (by omega) (by omega)).trans (if_pos hB)) hk
        have hm : mayX (decide (p < 4096)) (decide (4096 < p + n)) a b prot = false := by unfold mayX; rw [decide_eq_true (show 4096 < p + n by omega), hB]; simp
        refine ⟨by rw [e2, rm_clear h ha hb p 0 h0 (by omega)], ?_⟩
        rw [e1, hm, if_neg (by decide), if_neg (fun h => hf h.1), aT_zero _ (by omega) (by omega)]
      · obtain ⟨e1, e2⟩ := askF_all (M := M) (p := 8192 + p) (n := n) (prot := prot) (kind := kind) (by omega) (fun j hj => (keyB j hj (by omega)).trans (if_neg hB))
        have hm : mayX (decide (p < 4096)) (decide (4096 < p + n)) a b prot = true := by unfold mayX; rw [decide_eq_false hf]; simp [hB]
        exact ⟨e2, by rw [e1, hm, if_pos rfl]⟩
  · by_cases hB : bits .and .i64 b prot = 0
    · by_cases hs : 4096 < p + n
      · obtain ⟨i, hi⟩ : ∃ i : Nat, (i : Int) = if p < 4096 then 4096 - p else 0 := by
          by_cases hf : p < 4096
          · exact ⟨(4096 - p).toNat, by rw [if_pos hf]; omega⟩
          · exact ⟨0, by rw [if_neg hf]; rfl⟩
        have hin : (i : Int) < n ∧ ¬ p + i < 4096 ∧ ∀ j : Nat, j < i → p + j < 4096 := by
          by_cases hf : p < 4096
          · rw [if_pos hf] at hi; exact ⟨by omega, by omega, fun j hj => by omega⟩
          · rw [if_neg hf] at hi; exact ⟨by omega, by omega, fun j hj => by omega⟩
        obtain ⟨e1, e2⟩ := askF_at (M := M) (p := 8192 + p) (n := n) (prot := prot) (kind := kind) i hin.1 (by omega) (fun j hj => (keyA j (by omega) (hin.2.2 j hj)).trans (if_neg hA)) ((keyB i hin.1 hin.2.1).trans (if_pos hB)) hk
        have hm : mayX (decide (p < 4096)) (decide (4096 < p + n)) a b prot = false := by unfold mayX; rw [decide_eq_true hs, hB]; simp
        refine ⟨by rw [e2, rm_clear h ha hb p i h0 (by omega)], ?_⟩
        rw [e1, hm, if_neg (by decide)]
        congr 1
        by_cases hf : p < 4096
        · rw [if_pos hf] at hi
          rw [if_pos ⟨hf, hA⟩]; unfold aT; omega
        · rw [if_neg hf] at hi
          rw [if_neg (fun h => hf h.1)]; unfold aT; omega
      · obtain ⟨e1, e2⟩ := askF_all (M := M) (p := 8192 + p) (n := n) (prot := prot) (kind := kind) (by omega) (fun j hj => (keyA j hj (by omega)).trans (if_neg hA))
        have hm : mayX (decide (p < 4096)) (decide (4096 < p + n)) a b prot = true := by unfold mayX; rw [decide_eq_false hs]; simp [hA]
        exact ⟨e2, by rw [e1, hm, if_pos rfl]⟩
    · obtain ⟨e1, e2⟩ := askF_all (M := M) (p := 8192 + p) (n := n) (prot := prot) (kind := kind) (by omega) (fun j hj => by
        by_cases c : p + j < 4096
        · exact (keyA j hj c).trans (if_neg hA)
        · exact (keyB j hj c).trans (if_neg hB))
      have hm : mayX (decide (p < 4096)) (decide (4096 < p + n)) a b prot = true := by unfold mayX; simp [hA, hB]
      exact ⟨e2, by rw [e1, hm, if_pos rfl]⟩
theorem rm_put {a b : Int} {M : AMem} (h : Rm a b M) (p : Int) (xs : List Int) : Rm a b (putM M p xs) := by
  obtain ⟨x, y, hx, hy, h1, h2, h3, h4⟩ := h
  exact ⟨(putP x.1 8192 p xs, x.2), (putP y.1 12288 p xs, y.2), by rw [putM_pg, hx]; rfl, by rw [putM_pg, hy]; rfl, h1, h2, (putP_len _ _ _ _).trans h3, (putP_len _ _ _ _).trans h4⟩
theorem rm_all {a b : Int} {M : AMem} (h : Rm a b M) (p : Int) (n : Nat) (h0 : 0 ≤ p) (h1 : p + n ≤ 8192) : allM M (8192 + p) n = true := by
  obtain ⟨x, y, hx, hy, -⟩ := h
  refine (allM_iff M _ _).2 fun i hi => ?_
  have e : aT (8192 + p) i = 8192 + p + i := by unfold aT; omega
  rw [e]
  by_cases c : p + i < 4096
  · rw [show baseV (8192 + p + i) = 8192 from by unfold baseV; omega, hx]; rfl
  · rw [show baseV (8192 + p + i) = 12288 from by unfold baseV; omega, hy]; rfl
/-- what was put is read -/
theorem bytes_put (M : AMem) (p : Int) (xs : List Int) (h0 : 0 ≤ p) (h1 : p < 18446744073709551616) (hn : xs.length ≤ 65536) (hall : allM M p xs.length = true) (hl : ∀ q x, M.pg q = some x → x.1.length = 4096) : bytesM (putM M p xs) p xs.length = xs := by
  apply list_ext_getD
  · rw [bytesM_len]
  · intro i hi
    rw [bytesM_len] at hi
    obtain ⟨a0, a1⟩ := aT_range p i
    rw [bytesM_get _ _ _ _ hi, byteM_put _ _ _ _ a0 a1 h0 h1 ((allM_iff M p _).1 hall i hi) (hl _)]
    have e : ((aT p i - p) % 18446744073709551616).toNat = i := by unfold aT; omega
    rw [e, if_pos hi]
theorem zeros_get (n i : Nat) : (zeros n).getD i 0 = 0 := by
  unfold zeros
  rw [List.getD_eq_getElem?_getD, List.getElem?_replicate]
  split <;> rfl
theorem bytes_zero (M : AMem) (p : Int) (n : Nat) (hz : ∀ i, i < n → ∃ pr, M.pg (baseV (aT p i)) = some (zeros 4096, pr)) : bytesM M p n = zeros n := by
  apply list_ext_getD
  · rw [bytesM_len]; unfold zeros; rw [List.length_replicate]
  · intro i hi
    rw [bytesM_len] at hi
    rw [bytesM_get _ _ _ _ hi]
    obtain ⟨pr, hp⟩ := hz i hi
    unfold byteM
    rw [hp]
    show (zeros 4096).getD _ 0 = (zeros n).getD i 0
    rw [zeros_get, zeros_get]
/-- two pages of noughts -/
def twoM (a b : Int) : AMem := ⟨2, 2, fun q => if q = 12288 then some (zeros 4096, b) else if q = 8192 then some (zeros 4096, a) else none⟩
theorem two_says (a b : Int) (ha : 0 ≤ a) (ha7 : a ≤ 7) (hb : 0 ≤ b) (hb7 : b ≤ 7) : mapCode (newM 2) 8192 1 a = 0 ∧ mapCode (mapM (newM 2) 8192 1 a) 12288 1 b = 0 ∧ mapM (mapM (newM 2) 8192 1 a) 12288 1 b = twoM a b := by
  have c0 : mapCode (newM 2) 8192 1 a = 0 := mapC_ok (may_ok (by decide)) (by omega) (anyM_false.2 fun k hk => rfl) (by decide)
  have c1 : mapCode (mapM (newM 2) 8192 1 a) 12288 1 b = 0 := by
    rw [mapM_is c0]
    refine mapC_ok (may_ok (by decide)) (by omega) (anyM_false.2 fun k hk => ?_) (by show (1 : Int) ≤ min (max 2 0) 1024 - ((0 + (1 : Int).toNat : Nat) : Int); decide)
    obtain rfl : k = 0 := by simp at hk; omega
    have := rowL_one 8192 ((12288 : Int) + ((0 : Nat) : Int) * 4096)
    exact if_neg (t := some (zeros 4096, a)) (fun h => by have := this.1 h; omega)
  refine ⟨c0, c1, ?_⟩
  rw [mapM_is c1, mapM_is c0]
  unfold twoM
  congr 1
  funext q
  have h1 := rowL_one 12288 q
  have h2 := rowL_one 8192 q
  show (if q ∈ rowL 12288 1 then _ else if q ∈ rowL 8192 1 then _ else _) = _
  by_cases c : q = 12288
  · rw [if_pos c, if_pos (h1.2 c)]
  · rw [if_neg c, if_neg (fun h => c (h1.1 h))]
    by_cases c2 : q = 8192
    · rw [if_pos c2, if_pos (h2.2 c2)]
    · rw [if_neg c2, if_neg (fun h => c2 (h2.1 h))]; rfl
theorem two_rm (a b : Int) : Rm a b (twoM a b) := ⟨(zeros 4096, a), (zeros 4096, b), rfl, rfl, rfl, rfl, List.length_replicate, List.length_replicate⟩
theorem two_len (a b : Int) : ∀ q x, (twoM a b).pg q = some x → x.1.length = 4096 := by
  intro q x h
  have h' : (if q = 12288 then some (zeros 4096, b) else if q = 8192 then some (zeros 4096, a) else none) = some x := h
  split at h'
  · cases h'; exact List.length_replicate
  · split at h'
    · cases h'; exact List.length_replicate
    · cases h'
theorem two_zero (a b p : Int) (n : Nat) (h0 : 0 ≤ p) (h1 : p + n ≤ 8192) : bytesM (twoM a b) (8192 + p) n = zeros n := by
  refine bytes_zero _ _ _ fun i hi => ?_
  have e : aT (8192 + p) i = 8192 + p + i := by unfold aT; omega
  rw [e]
  by_cases c : p + i < 4096
  · rw [show baseV (8192 + p + i) = 8192 from by unfold baseV; omega]; exact ⟨a, rfl⟩
  · rw [show baseV (8192 + p + i) = 12288 from by unfold baseV; omega]; exact ⟨b, rfl⟩
structure RightsSays (pa pb : Int) (q n : Nat) (xs : List Int) (mw mr mx : Bool) (M2 : AMem) (W : List Int) (a1 a4 : Int) : Prop where
  f2 : askF (twoM pa pb) (8192 + (q : Int)) n 2 3 = if mw = true then (0, 0) else (3, if (decide ((q : Int) < 4096) && (bits .and .i64 pa 2 != 0)) = true then 12288 else 8192 + (q : Int))
  m2 : writeM (twoM pa pb) (8192 + (q : Int)) xs = M2
  wy : mw = true → W = xs
  wn : mw = false → W = zeros n
  wl : W.length = n
  pk : peekB M2 (8192 + (q : Int)) n = true
  pl : peekL M2 (8192 + (q : Int)) n = W
  f1 : askF M2 (8192 + (q : Int)) (max (n : Int) 0) 1 2 = if mr = true then (0, 0) else (2, a1)
  m1 : askM M2 (8192 + (q : Int)) (max (n : Int) 0) 1 2 = M2
  r1 : readL M2 (8192 + (q : Int)) n 1 2 = if mr = true then W else []
  f4 : askF M2 (8192 + (q : Int)) (max (n : Int) 0) 4 4 = if mx = true then (0, 0) else (4, a4)
  m4 : askM M2 (8192 + (q : Int)) (max (n : Int) 0) 4 4 = M2
  r4 : readL M2 (8192 + (q : Int)) n 4 4 = if mx = true then W else []
theorem rights_says (pa pb : Int) (ha : pa < 8) (hb : pb < 8) (q n : Nat) (xs : List Int) (hl : xs.length = n) (hn : 1 ≤ n) (hn2 : n ≤ 200) (hq : q + n ≤ 8192) :
    ∃ M2 W a1 a4, RightsSays pa pb q n xs (mayX (decide ((q : Int) < 4096)) (decide (4096 < (q : Int) + n)) pa pb 2) (mayX (decide ((q : Int) < 4096)) (decide (4096 < (q : Int) + n)) pa pb 1) (mayX (decide ((q : Int) < 4096)) (decide (4096 < (q : Int) + n)) pa pb 4) M2 W a1 a4 := by
  have hR := two_rm pa pb
  obtain ⟨t1, t2⟩ := rm_ask hR ha hb 2 3 q n (by omega) (by omega) (by omega) (by decide)
  have hmax : max (n : Int) 0 = n := by omega
  have hwr : writeM (twoM pa pb) (8192 + (q : Int)) xs = if (mayX (decide ((q : Int) < 4096)) (decide (4096 < (q : Int) + n)) pa pb 2) = true then putM (twoM pa pb) (8192 + (q : Int)) xs else twoM pa pb := by
    unfold writeM
    rw [hl, t1, t2]
    cases mayX (decide ((q : Int) < 4096)) (decide (4096 < (q : Int) + n)) pa pb 2 with
    | false => rw [if_neg (show ¬ (false = true) by decide), if_neg (show ¬ (false = true) by decide)]; exact if_neg (fun h => by cases h)
    | true => rw [if_pos rfl, if_pos rfl, if_pos rfl]
  have hR2 : Rm pa pb (writeM (twoM pa pb) (8192 + (q : Int)) xs) := by
    rw [hwr]
    split
    · exact rm_put hR _ _
    · exact hR
  obtain ⟨W, hW, wy, wn, wl⟩ : ∃ W : List Int, bytesM (writeM (twoM pa pb) (8192 + (q : Int)) xs) (8192 + (q : Int)) n = W ∧ ((mayX (decide ((q : Int) < 4096)) (decide (4096 < (q : Int) + n)) pa pb 2) = true → W = xs) ∧ ((mayX (decide ((q : Int) < 4096)) (decide (4096 < (q : Int) + n)) pa pb 2) = false → W = zeros n) ∧ W.length = n := by
    refine ⟨_, rfl, fun h => ?_, fun h => ?_, bytesM_len _ _ _⟩
    · rw [hwr, if_pos h]
      have := bytes_put (twoM pa pb) (8192 + (q : Int)) xs (by omega) (by omega) (by omega) (by rw [hl]; exact rm_all hR q n (by omega) (by omega)) (two_len pa pb)
      rwa [hl] at this
    · rw [hwr, h, if_neg (by decide)]
      exact two_zero pa pb q n (by omega) (by omega)
  obtain ⟨u1, u2⟩ := rm_ask hR2 ha hb 1 2 q n (by omega) (by omega) (by omega) (by decide)
  obtain ⟨v1, v2⟩ := rm_ask hR2 ha hb 4 4 q n (by omega) (by omega) (by omega) (by decide)
  have hall := rm_all hR2 q n (by omega) (by omega)
  have hpk : peekB (writeM (twoM pa pb) (8192 + (q : Int)) xs) (8192 + (q : Int)) n = true := by
    unfold peekB
    rw [decide_eq_true (by omega), Int.toNat_natCast, hall]; rfl
  refine ⟨_, W, _, _, ?_, rfl, wy, wn, wl, hpk, ?_, by rw [hmax]; exact u2, by rw [hmax]; exact u1, ?_, by rw [hmax]; exact v2, by rw [hmax]; exact v1, ?_⟩
  · rw [t2]
    have e : (if (q : Int) < 4096 ∧ bits .and .i64 pa 2 ≠ 0 then (12288 : Int) else 8192 + (q : Int)) = if (decide ((q : Int) < 4096) && (bits .and .i64 pa 2 != 0)) = true then 12288 else 8192 + (q : Int) := by
      by_cases h1 : (q : Int) < 4096 <;> by_cases h2 : bits .and .i64 pa 2 = 0 <;> simp [h1, h2]
    rw [e]
  · unfold peekL
    rw [hpk, if_pos rfl, Int.toNat_natCast, hW]
  · unfold readL
    rw [hmax, u2, Int.toNat_natCast, hW]
    cases mayX (decide ((q : Int) < 4096)) (decide (4096 < (q : Int) + n)) pa pb 1 with
    | false => exact if_neg (fun h => by cases h)
    | true => exact if_pos rfl
  · unfold readL
    rw [hmax, v2, Int.toNat_natCast, hW]
    cases mayX (decide ((q : Int) < 4096)) (decide (4096 < (q : Int) + n)) pa pb 4 with
    | false => exact if_neg (fun h => by cases h)
    | true => exact if_pos rfl
end Go.Proofs.Ytdagfddhdnfbkaa
