/- The law RoomFills in plain. U: how many grains the pages take; places 65536 * (1 + U * i). -/
import Derived.Test.YtdagfddhdnfbkaaRoomGapsP
import Derived.Test.YtdagfddhdnfbkaaVmemUn
namespace Go.Proofs.Ytdagfddhdnfbkaa
open Go.RowKit
set_option linter.unusedVariables false
set_option linter.unusedSimpArgs false
open Go.Proofs.YtdagfddhdnfbkaaW.PrintWords
theorem OnUnmap {w0 w : World} {bm : Nat} {M : AMem} (h : On w0 w bm M) (p n : Int) (hp0 : 0 ≤ p) :
    Calls Try.prog 21 #[.pointer (some ⟨bm, 0, none⟩), .int .u64 p, .int .i64 n] w fun e w' => e = .returned (.bool (thereM M p n)) ∧ On w0 w' bm (unM M p n) := by
  obtain ⟨F, h1, h2, h3⟩ := h
  exact (UnmapH_calls F bm M p n w h1 hp0).mono fun e w' ⟨a, b⟩ => ⟨a, On.after h2 h3 b⟩
/-- of the places 0, 1, 2 those below k are mapped but for g, which is g = k if none is gone -/
def Fill (n : Int) (U k g : Nat) (M : AMem) : Prop :=
  M.most = 1024 ∧ (M.cnt : Int) = n * (if g < k then k - 1 else k : Nat) ∧
    ∀ q, (M.pg q).isSome = true ↔ ∃ i j : Nat, i < k ∧ i ≠ g ∧ (j : Int) < n ∧ q = 65536 + (U * i : Nat) * 65536 + j * 4096
/-- the first free place is g -/
theorem fill_find {n : Int} {U k g : Nat} {M : AMem} (h : Fill n U k g M) (hn1 : 200 ≤ n) (hn2 : n ≤ 263) (hu1 : n ≤ 16 * U) (hu2 : 16 * U < n + 16) (hk : k ≤ 3) (hg : g ≤ k) {a : Int} {ok : Bool} (hf : FindIs M n a ok) (hg2 : g ≤ 2) :
    a = 65536 + (U * g : Nat) * 65536 ∧ ok = true ∧ okF M a n = true := by
  obtain ⟨-, -, hp⟩ := h
  have good : okF M (65536 + (U * g : Nat) * 65536) n = true := by
    have hUg : U * g = U * 0 ∨ U * g = U * 1 ∨ U * g = U * 2 := by
      have : g = 0 ∨ g = 1 ∨ g = 2 := by omega
      rcases this with rfl | rfl | rfl <;> simp
    have hany : anyP M (65536 + (U * g : Nat) * 65536) n.toNat = false := by
      rw [anyP_false]
      intro j hj
      cases h : (M.pg (65536 + ((U * g : Nat) : Int) * 65536 + j * 4096)).isSome with
      | false => rfl
      | true =>
        obtain ⟨i, t, hi, hig, ht, e⟩ := (hp _).1 h
        exfalso
        have hUi : i < g ∨ g < i := by omega
        rcases hUi with hlt | hlt
        · have : U * i + U ≤ U * g := by rw [← Nat.mul_succ]; exact Nat.mul_le_mul_left U hlt
          omega
        · have : U * g + U ≤ U * i := by rw [← Nat.mul_succ]; exact Nat.mul_le_mul_left U hlt
          omega
    have hle : U * g ≤ 34 := by rcases hUg with h | h | h <;> rw [h] <;> omega
    unfold okF isB isOk
    rw [hany, decide_eq_true (by omega), decide_eq_true (by omega)]; rfl
  have bad : ∀ i : Nat, i < U * g → okF M (65536 + i * 65536) n = false := by
    intro i hi
    refine okF_any ?_
    -- i lies in the grains of some place below g
    have hU : 0 < U := by omega
    have hd : i / U < g := (Nat.div_lt_iff_lt_mul hU).2 (by rw [Nat.mul_comm]; exact hi)
    have hm := Nat.div_add_mod i U
    have hr := Nat.mod_lt i hU
    by_cases hin : 16 * ((i % U : Nat) : Int) < n
    · refine anyP_true 0 (by omega) ((hp _).2 ⟨i / U, 16 * (i % U), by omega, by omega, by omega, ?_⟩)
      omega
    · exfalso; omega
  have hUg : U * g ≤ 34 := by
    have : U * g ≤ U * 2 := Nat.mul_le_mul_left U hg2
    omega
  obtain ⟨h1, h2⟩ := hf.first (U * g) (by omega) good bad
  subst h1
  exact ⟨rfl, h2, good⟩
/-- own rows but of pages and memories stand -/
def KeepOwn (w w' : World) : Prop := ∀ base e size v n xs, e ≠ 72 → e ≠ 65 → w.ownsRow base e size v n xs → w'.ownsRow base e size v n xs
theorem Has.ne_row {w : World} {F : Nat → Prop} {bm : Nat} {M : AMem} (h : Has w F bm M) {base n size : Nat} {e : TypeId} {v : Value} {xs : List Value} (he1 : e ≠ 72) (he2 : e ≠ 65) (hr : w.ownsRow base e size v n xs) (b : Nat) (hb : F b) : v.ownBlock ≠ some b := by
  obtain ⟨bp, l, ct, h1, h2, h3, h4, h5, h6, h7⟩ := h
  intro hv
  rcases hr.2 with ⟨rfl, -⟩ | ⟨g, cap, cur, rfl, -, hg, -⟩
  · simp [Value.ownBlock] at hv
  · simp [Value.ownBlock] at hv
    subst hv
    rcases (h7 g).1 hb with rfl | rfl | ⟨x, hx, rfl⟩
    · rw [h1.head] at hg
      simp only [Option.some.injEq, Obj.cells.injEq] at hg
      exact he2 hg.2.1.symm
    · obtain ⟨es, clock, hm, -⟩ := h1.map
      rw [hm] at hg; simp at hg
    · rw [(h1.page x hx).2.1] at hg
      simp only [Option.some.injEq, Obj.cells.injEq] at hg
      exact he1 hg.2.1.symm
theorem own_keeps {S : Nat → Prop} {w w' : World} {base n size : Nat} {e : TypeId} {v : Value} {xs : List Value} (hr : w.ownsRow base e size v n xs) (hk : Keeps S w w') (hn : ∀ b, S b → v.ownBlock ≠ some b) : w'.ownsRow base e size v n xs := by
  refine ⟨hr.1, ?_⟩
  rcases hr.2 with h | ⟨g, cap, cur, rfl, h1, hg, h2⟩
  · exact .inl h
  · refine .inr ⟨g, cap, cur, rfl, h1, ?_, h2⟩
    have hlt : g < w.heap.size := by
      obtain ⟨h, -⟩ := Array.getElem?_eq_some_iff.1 hg
      exact h
    rw [hk.block g hlt (fun x => hn g x rfl)]
    exact hg
theorem KeepOwn.below {w w' : World} (h : Below w.heap.size w w') : KeepOwn w w' := fun _ _ _ _ _ _ _ _ hr => own_keeps hr (Keeps.of_below h (fun _ => False)) (fun _ x => x.elim)
theorem KeepOwn.after {w w' : World} {F : Nat → Prop} {bm : Nat} {M M' : AMem} (h : Has w F bm M) (h2 : After w w' F bm M') : KeepOwn w w' := fun _ _ _ _ _ _ e1 e2 hr => by
  obtain ⟨F', -, hk, -⟩ := h2
  exact own_keeps hr hk (fun b hb => h.ne_row e1 e2 hr b hb)
theorem OnMapK {w0 w : World} {bm : Nat} {M : AMem} (h : On w0 w bm M) (p n pr : Int) (hp0 : 0 ≤ p) :
    Calls Try.prog 13 #[.pointer (some ⟨bm, 0, none⟩), .int .u64 p, .int .i64 n, .int .i64 pr] w fun e w' => e = .returned (.int .i64 (mapCode M p n pr)) ∧ On w0 w' bm (mapM M p n pr) ∧ KeepOwn w w' := by
  obtain ⟨F, h1, h2, h3⟩ := h
  exact (Map_calls F bm M p n pr w h1 hp0).mono fun e w' ⟨a, b⟩ => ⟨a, On.after h2 h3 b, KeepOwn.after h1 b⟩
theorem OnUnmapK {w0 w : World} {bm : Nat} {M : AMem} (h : On w0 w bm M) (p n : Int) (hp0 : 0 ≤ p) :
    Calls Try.prog 21 #[.pointer (some ⟨bm, 0, none⟩), .int .u64 p, .int .i64 n] w fun e w' => e = .returned (.bool (thereM M p n)) ∧ On w0 w' bm (unM M p n) ∧ KeepOwn w w' := by
  obtain ⟨F, h1, h2, h3⟩ := h
  exact (UnmapH_calls F bm M p n w h1 hp0).mono fun e w' ⟨a, b⟩ => ⟨a, On.after h2 h3 b, KeepOwn.after h1 b⟩
theorem OnFindK {w0 w : World} {bm : Nat} {M : AMem} (h : On w0 w bm M) (n : Int) :
    Calls Try.prog 14 #[.pointer (some ⟨bm, 0, none⟩), .int .i64 n] w fun e w' => ∃ a ok, e = .returned (.tuple #[.int .u64 a, .bool ok]) ∧ FindIs M n a ok ∧ On w0 w' bm M ∧ KeepOwn w w' := by
  obtain ⟨F, h1, h2, h3⟩ := id h
  exact (Find_calls F bm M n w h1).mono fun e w' ⟨a, ok, b, c, m, d⟩ => ⟨a, ok, b, c, d ▸ h.drew m, d ▸ KeepOwn.below (bdrew (Below.refl _ _) m)⟩
/-- behind an append to an own row, or a literal -/
theorem On.append {w0 W w1 : World} {bm : Nat} {M : AMem} (h : On w0 W bm M) {base n size : Nat} {e : TypeId} {v : Value} {xs : List Value} (he1 : e ≠ 72) (he2 : e ≠ 65) (hr : W.ownsRow base e size v n xs)
    (hb : Below w0.heap.size w0 w1) (hg : W.grownBy w1 v.ownBlock) : On w0 w1 bm M := by
  obtain ⟨F, h1, h2, h3⟩ := h
  refine ⟨F, h1.keeps (S := fun b => some b = v.ownBlock) ⟨hg.os, hg.tape, hg.output, hg.size, fun k hk hn => hg.block k hk hn⟩ (fun b hb hs => h1.ne_row he1 he2 hr b hb hs.symm), h2, hb⟩
/-- a free place is mapped -/
theorem fill_map {n : Int} {U k g : Nat} {M : AMem} (h : Fill n U k g M) (hn1 : 200 ≤ n) (hn2 : n ≤ 263) (hu2 : 16 * U < n + 16) (hk : k ≤ 3) (hg : g ≤ k) (hg2 : g ≤ 2) (hok : okF M (65536 + (U * g : Nat) * 65536) n = true) :
    mapCode M (65536 + (U * g : Nat) * 65536) n 1 = 0 ∧ Fill n U (if g < k then k else k + 1) (if g < k then k else k + 1) (mapM M (65536 + (U * g : Nat) * 65536) n 1) := by
  obtain ⟨hm, hc, hp⟩ := h
  have hUg : U * g ≤ 34 := by
    have : U * g ≤ U * 2 := Nat.mul_le_mul_left U hg2
    omega
  have c3 : anyP M (65536 + ((U * g : Nat) : Int) * 65536) n.toNat = false := by
    unfold okF isB at hok
    simp only [Bool.and_eq_true, Bool.not_eq_true'] at hok
    exact hok.1.2
  have c1 : mayB (65536 + ((U * g : Nat) : Int) * 65536) n = true := by unfold mayB; exact decide_eq_true (by omega)
  have hcnt : (M.cnt : Int) = n * (if g < k then k - 1 else k : Nat) := hc
  have hle : (M.cnt : Int) ≤ n * 2 := by
    rw [hcnt]
    refine Int.mul_le_mul_of_nonneg_left ?_ (by omega)
    split <;> omega
  have e : mapCode M (65536 + ((U * g : Nat) : Int) * 65536) n 1 = 0 := mapCode_ok c1 one_ok c3 (by rw [hm]; omega)
  refine ⟨e, mapM_most.trans hm, ?_, fun q => ?_⟩
  · rw [mapM_cnt e]
    have e1 : ((M.cnt + n.toNat : Nat) : Int) = M.cnt + n := by omega
    rw [e1, hcnt]
    have e2 : n * ((if g < k then k - 1 else k : Nat) : Int) + n = n * (((if g < k then k - 1 else k) + 1 : Nat) : Int) := by rw [Int.natCast_add, Int.mul_add]; simp
    rw [e2]
    congr 2
    split <;> simp <;> omega
  · rw [mapM_pg e, hp]
    constructor
    · rintro (⟨j, hj, rfl⟩ | ⟨i, j, h1, h2, h3, h4⟩)
      · exact ⟨g, j, by split <;> omega, by split <;> omega, by omega, rfl⟩
      · exact ⟨i, j, by split <;> omega, by split <;> omega, h3, h4⟩
    · rintro ⟨i, j, h1, h2, h3, h4⟩
      by_cases hig : i = g
      · subst hig
        exact .inl ⟨j, by omega, h4⟩
      · refine .inr ⟨i, j, ?_, hig, h3, h4⟩
        by_cases hgk : g < k
        · rw [if_pos hgk] at h1; exact h1
        · rw [if_neg hgk] at h1 h2; omega
/-- a mapped place is taken away -/
theorem fill_un {n : Int} {U g : Nat} {M : AMem} (h : Fill n U 3 3 M) (hn1 : 200 ≤ n) (hn2 : n ≤ 263) (hu1 : n ≤ 16 * U) (hu2 : 16 * U < n + 16) (hg : g ≤ 2) :
    thereM M (65536 + (U * g : Nat) * 65536) n = true ∧ Fill n U 3 g (unM M (65536 + (U * g : Nat) * 65536) n) := by
  obtain ⟨hm, hc, hp⟩ := h
  have hUg : U * g ≤ 34 := by
    have : U * g ≤ U * 2 := Nat.mul_le_mul_left U hg
    omega
  have c1 : mayB (65536 + ((U * g : Nat) : Int) * 65536) n = true := by unfold mayB; exact decide_eq_true (by omega)
  have c2 : ((rowL (65536 + ((U * g : Nat) : Int) * 65536) n.toNat).any fun q => (M.pg q).isNone) = false := by
    rw [List.any_eq_false]
    intro q hq
    obtain ⟨j, hj, rfl⟩ := (rowL_mem _ _ _).1 hq
    have := (hp (65536 + ((U * g : Nat) : Int) * 65536 + j * 4096)).2 ⟨g, j, by omega, by omega, by omega, rfl⟩
    rw [Option.isSome_iff_exists] at this
    obtain ⟨x, hx⟩ := this
    rw [hx]; simp
  have ht : thereM M (65536 + ((U * g : Nat) : Int) * 65536) n = true := by unfold thereM; rw [c1, c2]; rfl
  refine ⟨ht, ?_⟩
  unfold unM
  rw [if_pos ht]
  refine ⟨hm, ?_, fun q => ?_⟩
  · show ((M.cnt - n.toNat : Nat) : Int) = _
    rw [if_pos (by omega)]
    rw [if_neg (by omega)] at hc
    have e1 : n * ((3 : Nat) : Int) = n * 3 := rfl
    have e2 : n * ((3 - 1 : Nat) : Int) = n * 2 := rfl
    rw [e1] at hc
    rw [e2]
    omega
  · show (if q ∈ rowL _ n.toNat then none else M.pg q : Option (List Int × Int)).isSome = true ↔ _
    by_cases hq : q ∈ rowL (65536 + ((U * g : Nat) : Int) * 65536) n.toNat
    · rw [if_pos hq]
      refine ⟨fun h => absurd h (by decide), fun ⟨i, j, h1, h2, h3, h4⟩ => ?_⟩
      exfalso
      obtain ⟨t, ht, e⟩ := (rowL_mem _ _ _).1 hq
      rcases (show i < g ∨ g < i by omega) with hlt | hlt
      · have : U * i + U ≤ U * g := by rw [← Nat.mul_succ]; exact Nat.mul_le_mul_left U hlt
        omega
      · have : U * g + U ≤ U * i := by rw [← Nat.mul_succ]; exact Nat.mul_le_mul_left U hlt
        omega
    · rw [if_neg hq, hp]
      constructor
      · rintro ⟨i, j, h1, h2, h3, h4⟩
        refine ⟨i, j, h1, ?_, h3, h4⟩
        rintro rfl
        exact hq ((rowL_mem _ _ _).2 ⟨j, by omega, h4⟩)
      · rintro ⟨i, j, h1, h2, h3, h4⟩
        exact ⟨i, j, h1, by omega, h3, h4⟩
theorem fill_start (n : Int) (U : Nat) : Fill n U 0 0 (newM 1024) :=
  ⟨rfl, by simp [newM], fun q => ⟨fun h => absurd h (by show ¬ (none : Option (List Int × Int)).isSome = true; decide), fun ⟨i, _, h, _⟩ => absurd h (by omega)⟩⟩
theorem find_none {M : AMem} {n a : Int} {ok : Bool} (h : FindIs M n a ok) (hn : n < 1 ∨ 1024 < n) : ok = false := by
  rcases h with ⟨-, j, -, -, h, -⟩ | ⟨h, -⟩
  · unfold okF isB isOk at h
    simp only [Bool.and_eq_true, decide_eq_true_eq] at h
    omega
  · exact h
def placeF (U k : Nat) : Int := 65536 + (U * k : Nat) * 65536
def rowF (U : Nat) : Nat → List Int
  | 0 => []
  | k + 1 => rowF U k ++ [placeF U k]
theorem rowF_len (U k : Nat) : (rowF U k).length = k := by induction k with | zero => rfl | succ k ih => simp [rowF, ih]
def lastF (U : Nat) : Nat → Int
  | 0 => 0
  | k + 1 => placeF U k
theorem place_lt (U k : Nat) (hU : 13 ≤ U) (hU2 : U ≤ 17) (hk : k ≤ 2) : 65536 ≤ placeF U k ∧ placeF U k ≤ 3000000 ∧ lastF U k < placeF U k ∧ 0 ≤ lastF U k := by
  have : U * k ≤ U * 2 := Nat.mul_le_mul_left U hk
  cases k with
  | zero => show 65536 ≤ 65536 + ((U * 0 : Nat) : Int) * 65536 ∧ 65536 + ((U * 0 : Nat) : Int) * 65536 ≤ 3000000 ∧ (0 : Int) < 65536 + ((U * 0 : Nat) : Int) * 65536 ∧ (0 : Int) ≤ 0; omega
  | succ k =>
    show 65536 ≤ 65536 + ((U * (k + 1) : Nat) : Int) * 65536 ∧ 65536 + ((U * (k + 1) : Nat) : Int) * 65536 ≤ 3000000 ∧ 65536 + ((U * k : Nat) : Int) * 65536 < 65536 + ((U * (k + 1) : Nat) : Int) * 65536 ∧ 0 ≤ 65536 + ((U * k : Nat) : Int) * 65536
    rw [Nat.mul_succ] at this ⊢
    generalize U * k = z at *
    omega
theorem rowF3 (U : Nat) (j : Nat) (hj : j ≤ 2) : (rowF U 3).getD j 0 = placeF U j := by
  match j with
  | 0 => rfl
  | 1 => rfl
  | 2 => rfl
end Go.Proofs.Ytdagfddhdnfbkaa
