/- The law VmemGuards in plain: three pages, of each whether it is a guard. -/
import Derived.Test.YtdagfddhdnfbkaaVmemAw
namespace Go.Proofs.Ytdagfddhdnfbkaa
open Go.RowKit
set_option linter.unusedVariables false
set_option linter.unusedSimpArgs false
open Go.Proofs.YtdagfddhdnfbkaaW.PrintWords
def cg (pr : Nat → Int) (a : Nat) : Nat → Nat
  | 0 => 0
  | d + 1 => cg pr a d + if pr (a + d) = 15 then 1 else 0
theorem cg_le (pr : Nat → Int) (a d : Nat) : cg pr a d ≤ d := by
  induction d with
  | zero => exact Nat.le_refl _
  | succ d ih => simp only [cg]; split <;> omega
theorem cg_zero {pr : Nat → Int} {a d : Nat} (h : cg pr a d = 0) : ∀ j, j < d → pr (a + j) ≠ 15 := by
  induction d with
  | zero => intro j hj; omega
  | succ d ih =>
    simp only [cg] at h
    intro j hj
    by_cases e : j = d
    · subst e; intro h2; rw [if_pos h2] at h; omega
    · exact ih (by omega) j (by omega)
def setF (pr : Nat → Int) (i : Nat) : Nat → Int := fun j => if j = i then 7 else pr j
theorem cg_set_out (pr : Nat → Int) (a d i : Nat) (h : a + d ≤ i) : cg (setF pr i) a d = cg pr a d := by
  induction d with
  | zero => rfl
  | succ d ih =>
    simp only [cg]
    rw [ih (by omega), show setF pr i (a + d) = pr (a + d) from if_neg (by omega)]
theorem cg_set (pr : Nat → Int) (a d j : Nat) (hj : j < d) (h : pr (a + j) = 15) : cg (setF pr (a + j)) a d + 1 = cg pr a d := by
  induction d with
  | zero => omega
  | succ d ih =>
    simp only [cg]
    by_cases e : j = d
    · subst e
      rw [cg_set_out pr a j (a + j) (Nat.le_refl _), if_pos h]
      unfold setF
      rw [if_neg (by rw [if_pos rfl]; decide)]
    · have := ih (by omega)
      have e2 : setF pr (a + j) (a + d) = pr (a + d) := if_neg (by omega)
      rw [e2]
      omega
theorem cg_first {pr : Nat → Int} {a d : Nat} (h : 0 < cg pr a d) : ∃ j, j < d ∧ pr (a + j) = 15 ∧ ∀ i, i < j → pr (a + i) ≠ 15 := by
  induction d with
  | zero => simp [cg] at h
  | succ d ih =>
    by_cases h0 : 0 < cg pr a d
    · obtain ⟨j, h1, h2, h3⟩ := ih h0
      exact ⟨j, by omega, h2, h3⟩
    · have hz : cg pr a d = 0 := by omega
      simp only [cg, hz] at h
      refine ⟨d, by omega, ?_, fun i hi => cg_zero hz i hi⟩
      by_cases e : pr (a + d) = 15
      · exact e
      · rw [if_neg e] at h; omega
/-- a memory of pages at 4096, 8192, .. of these protections -/
def Gm (pr : Nat → Int) (k : Nat) (M : AMem) : Prop :=
  M.most = 3 ∧ M.cnt = k ∧ ∀ q, (M.pg q).map (fun x : List Int × Int => x.2) = if q % 4096 = 0 ∧ 4096 ≤ q ∧ q < 4096 * ((k : Int) + 1) then some (pr (q / 4096 - 1).toNat) else none
theorem gm_start (pr : Nat → Int) : Gm pr 0 (newM 3) := ⟨rfl, rfl, fun q => by rw [if_neg (by omega)]; rfl⟩
theorem gm_map {pr : Nat → Int} {k : Nat} {M : AMem} (h : Gm pr k M) (hk : k < 3) (h0 : 0 ≤ pr k ∧ pr k ≤ 15) : mapCode M (4096 * ((k : Int) + 1)) 1 (pr k) = 0 ∧ Gm pr (k + 1) (mapM M (4096 * ((k : Int) + 1)) 1 (pr k)) := by
  obtain ⟨h1, h2, h3⟩ := h
  have hn : M.pg (4096 * ((k : Int) + 1)) = none := by
    have := h3 (4096 * ((k : Int) + 1))
    rw [if_neg (by omega)] at this
    simpa using this
  have e : mapCode M (4096 * ((k : Int) + 1)) 1 (pr k) = 0 := mapC_ok (may_ok (by omega)) h0 (anyM_false.2 fun j hj => by
    obtain rfl : j = 0 := by simp at hj; omega
    simpa using hn) (by rw [h1, h2]; omega)
  refine ⟨e, ?_⟩
  rw [mapM_is e]
  refine ⟨h1, by show M.cnt + 1 = k + 1; rw [h2], fun q => ?_⟩
  have hr := rowL_one (4096 * ((k : Int) + 1)) q
  show (if q ∈ rowL (4096 * ((k : Int) + 1)) 1 then _ else M.pg q : Option (List Int × Int)).map _ = _
  by_cases hq : q = 4096 * ((k : Int) + 1)
  · rw [if_pos (hr.2 hq), if_pos (by omega)]
    show some (pr k) = _
    rw [show (q / 4096 - 1).toNat = k from by omega]
  · rw [if_neg (fun x => hq (hr.1 x)), h3]
    by_cases c : q % 4096 = 0 ∧ 4096 ≤ q ∧ q < 4096 * ((k : Int) + 1)
    · rw [if_pos c, if_pos (by omega)]
    · rw [if_neg c, if_neg (by omega)]
theorem gm_ask {pr : Nat → Int} {M : AMem} (h : Gm pr 3 M) (hp : ∀ j, pr j = 7 ∨ pr j = 15) (prot kind : Int) (hb : bits .and .i64 7 prot ≠ 0) (a : Int) (h0 : 4096 ≤ a) (h1 : a < 16384) :
    askK M prot kind a = if pr (a / 4096 - 1).toNat = 15 then 5 else 0 := by
  have h3 := h.2.2 (baseV a)
  have hbq : baseV a % 4096 = 0 ∧ 4096 ≤ baseV a ∧ baseV a < 16384 ∧ baseV a / 4096 = a / 4096 := by unfold baseV; omega
  rw [if_pos (by omega), hbq.2.2.2] at h3
  cases hx : M.pg (baseV a) with
  | none => rw [hx] at h3; cases h3
  | some x =>
    rw [hx] at h3
    have hx2 : x.2 = pr (a / 4096 - 1).toNat := by simpa using h3
    rw [askK_some hx, hx2]
    rcases hp (a / 4096 - 1).toNat with e | e <;> rw [e]
    · rw [if_neg (by decide), if_neg hb, if_neg (by decide)]
    · rw [if_pos (by decide), if_pos rfl]
set_option maxRecDepth 100000 in
theorem gm_step {pr : Nat → Int} {M : AMem} (h : Gm pr 3 M) (hp : ∀ j, pr j = 7 ∨ pr j = 15) (prot kind : Int) (hb : bits .and .i64 7 prot ≠ 0) (at_ n : Int) (h0 : 0 ≤ at_) (hn : 1 ≤ n) (h1 : at_ + n ≤ 12288)
    (a d : Nat) (ha : (a : Int) = at_ / 4096) (hd : (a : Int) + d = (at_ + n - 1) / 4096 + 1) :
    (0 < cg pr a d → (askF M (4096 + at_) n prot kind).1 = 5 ∧ ∃ pr', Gm pr' 3 (askM M (4096 + at_) n prot kind) ∧ (∀ j, pr' j = 7 ∨ pr' j = 15) ∧ cg pr' a d + 1 = cg pr a d) ∧
    (cg pr a d = 0 → askF M (4096 + at_) n prot kind = (0, 0) ∧ askM M (4096 + at_) n prot kind = M) := by
  have aT_at : ∀ i : Nat, (i : Int) < n → aT (4096 + at_) i = 4096 + at_ + i := fun i hi => by unfold aT; omega
  have askK_at : ∀ i : Nat, (i : Int) < n → askK M prot kind (aT (4096 + at_) i) = if pr ((at_ + i) / 4096).toNat = 15 then 5 else 0 := fun i hi => by
    rw [aT_at i hi, gm_ask h hp prot kind hb _ (by omega) (by omega), show (4096 + at_ + (i : Int)) / 4096 - 1 = (at_ + i) / 4096 from by omega]
  constructor
  · intro hc
    obtain ⟨j, hj, hpj, hlow⟩ := cg_first hc
    obtain ⟨i, hi⟩ : ∃ i : Nat, (i : Int) = if j = 0 then 0 else 4096 * ((a : Int) + j) - at_ := by
      by_cases e : j = 0
      · exact ⟨0, by rw [if_pos e]; rfl⟩
      · exact ⟨(4096 * ((a : Int) + j) - at_).toNat, by rw [if_neg e]; omega⟩
    have hin : (i : Int) < n := by rw [hi]; split <;> omega
    have hpage : ((at_ + (i : Int)) / 4096).toNat = a + j := by
      by_cases e : j = 0
      · rw [if_pos e] at hi; omega
      · rw [if_neg e] at hi; omega
    have hk : askK M prot kind (aT (4096 + at_) i) = 5 := by rw [askK_at i hin, hpage, if_pos hpj]
    obtain ⟨e1, e2⟩ := askF_at i hin (by omega) (fun t ht => by
      rw [askK_at t (by omega), if_neg]
      have : ((at_ + (t : Int)) / 4096).toNat = a + (((at_ + (t : Int)) / 4096).toNat - a) := by omega
      rw [this]
      refine hlow _ ?_
      by_cases e : j = 0
      · rw [if_pos e] at hi; omega
      · rw [if_neg e] at hi; omega) hk (by decide)
    refine ⟨by rw [e1], setF pr (a + j), ?_, fun t => ?_, cg_set pr a d j hj hpj⟩
    · rw [e2]
      obtain ⟨g1, g2, g3⟩ := h
      have hbq : baseV (aT (4096 + at_) i) = 4096 * ((a : Int) + j + 1) := by rw [aT_at i hin]; unfold baseV; omega
      have h3 := g3 (4096 * ((a : Int) + j + 1))
      have hq2 : (4096 * ((a : Int) + j + 1) / 4096 - 1).toNat = a + j := by omega
      rw [if_pos (by omega), hq2, hpj] at h3
      cases hx : M.pg (4096 * ((a : Int) + j + 1)) with
      | none => rw [hx] at h3; cases h3
      | some x =>
        rw [hx] at h3
        have hx2 : x.2 = 15 := by simpa using h3
        rw [clearG_high (by rw [hbq]; exact hx) (by rw [hx2]; decide), hbq]
        refine ⟨g1, g2, fun q => ?_⟩
        rw [setPage_pg]
        by_cases hq : q = 4096 * ((a : Int) + j + 1)
        · subst hq
          rw [if_pos rfl, if_pos (by omega), hq2]
          show some (x.2 - 8) = some (setF pr (a + j) (a + j))
          rw [hx2]; unfold setF; rw [if_pos rfl]; rfl
        · rw [if_neg hq, g3]
          by_cases c : q % 4096 = 0 ∧ 4096 ≤ q ∧ q < 4096 * (((3 : Nat) : Int) + 1)
          · rw [if_pos c, if_pos c]
            congr 1
            unfold setF
            rw [if_neg (by omega)]
          · rw [if_neg c, if_neg c]
    · unfold setF
      split
      · exact .inl rfl
      · exact hp t
  · intro hc
    refine askF_all (by omega) fun i hi => ?_
    rw [askK_at i hi, if_neg]
    have : ((at_ + (i : Int)) / 4096).toNat = a + (((at_ + (i : Int)) / 4096).toNat - a) := by omega
    rw [this]
    exact cg_zero hc _ (by omega)
theorem gm_put {pr : Nat → Int} {k : Nat} {M : AMem} (h : Gm pr k M) (p : Int) (xs : List Int) : Gm pr k (putM M p xs) :=
  ⟨h.1, h.2.1, fun q => by rw [← h.2.2 q, putM_pg, Option.map_map]; rfl⟩
theorem On.store2 {w0 w : World} {bm : Nat} {M : AMem} (h : On w0 w bm M) {g : Nat} {cs : Array Value} {t : TypeId} (hb : w.heap[g]? = some (.cells cs t (0, 0))) (h1 : t ≠ 72) (h2 : t ≠ 65) (hg : w0.heap.size ≤ g) (u v : Value) :
    On w0 ((w.setCell ⟨g, 0, none⟩ u).setCell ⟨g, 1, none⟩ v) bm M :=
  h.kept (two_stores w g u v) (fun F b hF hb' e => hF.ne_blk h1 h2 hb (e ▸ hb')) (fun b e => e ▸ hg)
end Go.Proofs.Ytdagfddhdnfbkaa
