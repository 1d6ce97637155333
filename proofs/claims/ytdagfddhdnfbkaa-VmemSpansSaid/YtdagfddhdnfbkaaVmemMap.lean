/- (*vmem.Mem).Map: its walk. -/
import Derived.Test.YtdagfddhdnfbkaaVmemIdx
namespace Go.Proofs.Ytdagfddhdnfbkaa
open Go.RowKit
set_option linter.unusedVariables false
set_option linter.unusedSimpArgs false
open Go.Proofs.YtdagfddhdnfbkaaW.PrintWords
theorem build_page (pr : Int) (w : World) : (Instr.build 72 #[(1, .int .i64 pr)]).run Try.prog w = .ok (.agg (pageCells (zeros 4096) pr)) w := by
  kernel_rfl
theorem box_page (pr : Int) (w : World) : (Instr.box 72 (.agg (pageCells (zeros 4096) pr))).run Try.prog w = .ok (.pointer (some ⟨w.heap.size, 0, none⟩)) (w.alloc (.cells (pageCells (zeros 4096) pr) 72)) := by
  rfl
theorem Keeps.cell {S : Nat → Prop} {w w' : World} (h : Keeps S w w') {a : Addr} {v : Value} (hc : w.cell? a = some v) (hn : ¬ S a.block) : w'.cell? a = some v := by
  have hlt : a.block < w.heap.size := by
    by_cases hlt : a.block < w.heap.size
    · exact hlt
    · simp [World.cell?, Array.getElem?_eq_none (Nat.le_of_not_lt hlt)] at hc
  rw [← hc]
  simp only [World.cell?]
  rw [h.block _ hlt hn]
theorem MapIs.ne {w : World} {b : Nat} {l : List (Int × Nat)} (h : MapIs w b l) {a : Addr} {v : Value} (hc : w.cell? a = some v) : ¬ a.block = b := by
  intro e
  obtain ⟨es, clock, hb, -⟩ := h
  simp [World.cell?, e, hb] at hc
theorem rowL_get (p : Int) (N k : Nat) (hk : k < N) : (rowL p N).getD k 0 = p + k * 4096 := by
  induction N with
  | zero => omega
  | succ N ih =>
    simp only [rowL]
    by_cases h : k < N
    · rw [← ih h]
      simp [List.getD_eq_getElem?_getD, List.getElem?_append, rowL_len, h]
    · obtain rfl : k = N := by omega
      simp [List.getD_eq_getElem?_getD, List.getElem?_append, rowL_len]
theorem rowL_mem (p : Int) (N : Nat) (q : Int) : q ∈ rowL p N ↔ ∃ k : Nat, k < N ∧ q = p + k * 4096 := by
  induction N with
  | zero => simp [rowL]
  | succ N ih =>
    simp only [rowL, List.mem_append, ih, List.mem_singleton]
    constructor
    · rintro (⟨k, hk, rfl⟩ | rfl)
      · exact ⟨k, by omega, rfl⟩
      · exact ⟨N, by omega, rfl⟩
    · rintro ⟨k, hk, rfl⟩
      by_cases h : k < N
      · exact .inl ⟨k, h, rfl⟩
      · exact .inr (by rw [show k = N by omega])
/-- l', ct' are l, ct with k pages of noughts mapped behind -/
def Added (l : List (Int × Nat)) (ct : Nat → List Int × Int) (p : Int) (k : Nat) (pr : Int) (l' : List (Int × Nat)) (ct' : Nat → List Int × Int) : Prop :=
  l'.length = l.length + k ∧ ∀ q, (l'.lookup q).map ct' = if q ∈ rowL p k then some (zeros 4096, pr) else (l.lookup q).map ct
theorem bytes_zeros (n : Nat) : Bytes (zeros n) := by
  intro x hx
  rw [zeros, List.mem_replicate] at hx
  rw [hx.2]; decide
theorem lookup_none_notmem {l : List (Int × Nat)} {k : Int} (h : l.lookup k = none) : k ∉ l.map (·.1) := by
  intro hm
  rw [List.mem_map] at hm
  obtain ⟨⟨a, b⟩, hab, rfl⟩ := hm
  rw [List.lookup_eq_none_iff] at h
  have := h _ hab
  simp at this
theorem MemR.lt {w : World} {B bm bp : Nat} {most : Int} {l : List (Int × Nat)} {ct : Nat → List Int × Int} (h : MemR w B bm bp most l ct) :
    bm < w.heap.size ∧ bp < w.heap.size ∧ bm ≠ bp ∧ ∀ x ∈ l, x.2 < w.heap.size ∧ x.2 ≠ bp := by
  have some_lt : ∀ {i : Nat} {o : Obj}, w.heap[i]? = some o → i < w.heap.size := fun hi => by
    obtain ⟨h, -⟩ := Array.getElem?_eq_some_iff.1 hi
    exact h
  obtain ⟨es, clock, hb, -⟩ := h.map
  refine ⟨some_lt h.head, some_lt hb, ?_, fun x hx => ⟨some_lt (h.page x hx).2.1, ?_⟩⟩
  · intro e; rw [← e, h.head] at hb; simp at hb
  · intro e; have := (h.page x hx).2.1; rw [e, hb] at this; simp at this
/-- a page mapped: the world behind it -/
theorem MemR.add {w w2 : World} {B bm bp : Nat} {most : Int} {l : List (Int × Nat)} {ct : Nat → List Int × Int} (h : MemR w B bm bp most l ct) (hB : B ≤ w.heap.size) (a pr : Int) (ha : l.lookup a = none) (h0 : 0 ≤ pr) (h1 : pr ≤ 15)
    (hm : MapIs w2 bp (l ++ [(a, w.heap.size)])) (hk : Keeps (· = bp) (w.alloc (.cells (pageCells (zeros 4096) pr) 72)) w2) :
    MemR w2 B bm bp most (l ++ [(a, w.heap.size)]) (fun b => if b = w.heap.size then (zeros 4096, pr) else ct b) := by
  obtain ⟨l1, l2, l3, l4⟩ := h.lt
  have hsz : (w.alloc (.cells (pageCells (zeros 4096) pr) 72)).heap.size = w.heap.size + 1 := by show (w.heap.push _).size = _; simp
  have old : ∀ i, i < w.heap.size → i ≠ bp → w2.heap[i]? = w.heap[i]? := fun i hi hn => by
    rw [hk.block i (by rw [hsz]; omega) hn]
    exact Below.heap_alloc _ _ _ hi
  have new : w2.heap[w.heap.size]? = some (.cells (pageCells (zeros 4096) pr) 72 (0, 0)) := by
    rw [hk.block _ (by rw [hsz]; omega) (by omega)]
    show (w.heap.push _)[_]? = _
    simp
  refine ⟨by rw [old bm l1 l3]; exact h.head, hm, ?_, ?_, ?_, h.lo⟩
  · rw [List.map_append, List.nodup_append]
    refine ⟨h.keys, by simp, ?_⟩
    intro x hx y hy e
    simp at hy
    subst hy; subst e
    exact lookup_none_notmem ha hx
  · rw [List.map_append, List.nodup_append]
    refine ⟨h.blks, by simp, ?_⟩
    intro x hx y hy e
    simp at hy
    subst hy; subst e
    rw [List.mem_map] at hx
    obtain ⟨z, hz, e⟩ := hx
    have := (l4 z hz).1
    omega
  · intro x hx
    rw [List.mem_append] at hx
    rcases hx with hx | hx
    · have hb := l4 x hx
      rw [if_neg (by omega)]
      obtain ⟨p1, p2, p3⟩ := h.page x hx
      exact ⟨p1, by rw [old _ hb.1 hb.2]; exact p2, p3⟩
    · simp at hx
      subst hx
      rw [if_pos rfl]
      exact ⟨hB, new, List.length_replicate, bytes_zeros _, h0, h1⟩
theorem Added.step {w : World} {B bm bp : Nat} {most : Int} {l l' : List (Int × Nat)} {ct ct' : Nat → List Int × Int} {p pr : Int} {k : Nat} (h : Added l ct p k pr l' ct') (hM : MemR w B bm bp most l' ct') (hn : l'.lookup (p + k * 4096) = none) :
    Added l ct p (k + 1) pr (l' ++ [(p + k * 4096, w.heap.size)]) (fun b => if b = w.heap.size then (zeros 4096, pr) else ct' b) := by
  obtain ⟨-, -, -, l4⟩ := hM.lt
  refine ⟨by rw [List.length_append, h.1]; simp; omega, fun q => ?_⟩
  have hq := h.2 q
  rw [List.lookup_append]
  simp only [rowL, List.mem_append, List.mem_singleton]
  by_cases hqa : q = p + k * 4096
  · subst hqa
    rw [hn]
    simp
  · have e : List.lookup q [(p + k * 4096, w.heap.size)] = none := by
      have : (q == p + k * 4096) = false := by rw [beq_eq_false_iff_ne]; exact hqa
      simp [List.lookup, this]
    rw [e, Option.or_none]
    have hor : (q ∈ rowL p k ∨ q = p + k * 4096) ↔ q ∈ rowL p k := by simp [hqa]
    simp only [hor]
    rw [← hq]
    cases hl : l'.lookup q with
    | none => rfl
    | some b =>
      have hb := (l4 _ (lookup_mem hl)).1
      simp only [Option.map_some]
      rw [if_neg (by simp at hb; omega)]
theorem MemR.keep {w w' : World} {B bm bp : Nat} {most : Int} {l : List (Int × Nat)} {ct : Nat → List Int × Int} (h : MemR w B bm bp most l ct) (hb : Below w.heap.size w w') : MemR w' B bm bp most l ct := by
  obtain ⟨l1, l2, l3, l4⟩ := h.lt
  exact ⟨by rw [hb.block _ l1]; exact h.head, h.map.keep (hb.block _ l2), h.keys, h.blks, fun x hx => ⟨(h.page x hx).1, by rw [hb.block _ (l4 x hx).1]; exact (h.page x hx).2.1, (h.page x hx).2.2⟩, h.lo⟩
/-- what Map leaves behind if it maps -/
def Mapped (w : World) (B bm bp : Nat) (most : Int) (l : List (Int × Nat)) (ct : Nat → List Int × Int) (p : Int) (N : Nat) (pr : Int) (e : Ending) (w' : World) : Prop :=
  e = .returned (.int .i64 0) ∧ ∃ l' ct', MemR w' B bm bp most l' ct' ∧ Added l ct p N pr l' ct' ∧ Keeps (· = bp) w w' ∧ ∀ x ∈ l', x.2 < w.heap.size → x ∈ l
set_option maxHeartbeats 800000 in
theorem Map_may (m : Value) (p n pr : Int) (w : World) (hp0 : 0 ≤ p) (h : mayB p n = false) :
    Calls Try.prog 13 #[m, .int .u64 p, .int .i64 n, .int .i64 pr] w fun e w' => e = .returned (.int .i64 1) ∧ w = w' := by
  have hm := may_calls p n w hp0
  rw [h] at hm
  clear h
  go_enter Try.func13, Try.ntmps13
  go_wp2_with fail
  refine hm.mono ?_
  rintro e w1 ⟨rfl, rfl⟩
  go_wp2
  go_ret
  exact ⟨rfl, rfl⟩
set_option maxHeartbeats 800000 in
theorem Map_prot (m : Value) (p n pr : Int) (w : World) (hp0 : 0 ≤ p) (h : mayB p n = true) (hpr : ¬ (0 ≤ pr ∧ pr ≤ 15)) :
    Calls Try.prog 13 #[m, .int .u64 p, .int .i64 n, .int .i64 pr] w fun e w' => e = .returned (.int .i64 1) ∧ w = w' := by
  have hm := may_calls p n w hp0
  rw [h] at hm
  clear h
  by_cases h0 : pr < 0
  · have d0 : decide (pr < 0) = true := decide_eq_true h0
    clear h0 hpr
    go_enter Try.func13, Try.ntmps13
    go_wp2_with fail
    refine hm.mono ?_
    rintro e w1 ⟨rfl, rfl⟩
    go_wp2
    go_ret
    exact ⟨rfl, rfl⟩
  · have d0 : decide (pr < 0) = false := decide_eq_false h0
    have d1 : decide (15 < pr) = true := decide_eq_true (by omega)
    clear h0 hpr
    go_enter Try.func13, Try.ntmps13
    go_wp2_with fail
    refine hm.mono ?_
    rintro e w1 ⟨rfl, rfl⟩
    go_wp2
    go_ret
    exact ⟨rfl, rfl⟩
theorem bdrew {B : Nat} {a w : World} (h : Below B a w) (n : Nat) : Below B a (w.drewN n) := h.trans ⟨rfl, rfl, rfl, Nat.le_refl _, fun _ _ => rfl⟩
theorem may_row {p n : Int} (h : mayB p n = true) : ∃ N : Nat, n = N ∧ 1 ≤ N ∧ N ≤ 1024 ∧ p + N * 4096 ≤ 140737488355328 ∧ p % 4096 = 0 := by
  unfold mayB at h
  rw [decide_eq_true_eq] at h
  obtain ⟨h1, h2, h3, h4, h5⟩ := h
  obtain ⟨N, rfl⟩ := Int.eq_ofNat_of_zero_le (show 0 ≤ n by omega)
  exact ⟨N, rfl, by omega, by omega, by omega, h1⟩
def isM (l : List (Int × Nat)) (k : Int) : Bool := (l.lookup k).isSome
theorem ContainsIs (B bm bp : Nat) (most : Int) (l : List (Int × Nat)) (ct : Nat → List Int × Int) (A : Option Addr) (n c : Nat) (xs : List Int) (w : World) (hM : MemR w B bm bp most l ct) (hr : ReadsInt w .u64 A n xs) :
    Calls Try.prog 35 #[.slice A n c, .func (.func 37) #[.pointer (some ⟨bm, 0, none⟩)] #[]] w fun e w' => e = .returned (.bool (xs.any (isM l))) ∧ ∃ m, w' = w.drewN m :=
  Contains_is A n c xs _ (isM l) w hr fun k m _ => (is_calls B bm bp most l ct _ _ (hM.drewN m)).mono fun e w' ⟨h1, h2⟩ => ⟨h1, m, h2.symm⟩
set_option maxHeartbeats 800000 in
theorem Map_taken (B bm bp : Nat) (most : Int) (l : List (Int × Nat)) (ct : Nat → List Int × Int) (p : Int) (N : Nat) (pr : Int) (w : World) (hM : MemR w B bm bp most l ct) (hp0 : 0 ≤ p) (h : mayB p N = true) (hpr : 0 ≤ pr ∧ pr ≤ 15)
    (ht : (rowL p N).any (isM l) = true) :
    Calls Try.prog 13 #[.pointer (some ⟨bm, 0, none⟩), .int .u64 p, .int .i64 N, .int .i64 pr] w fun e w' => e = .returned (.int .i64 1) ∧ Below w.heap.size w w' := by
  have hm := may_calls p N w hp0
  obtain ⟨N', e, h1, h2, h3, -⟩ := may_row h
  obtain rfl : N = N' := by omega
  clear e
  rw [h] at hm
  clear h
  have hrow := row_calls p N w hp0 h2 h3
  have HC := Aside0.mk (fun A c w1 hb hr => ContainsIs B bm bp most l ct A N c (rowL p N) w1 (hM.keep hb) hr)
  have d0 : decide (pr < 0) = false := decide_eq_false (by omega)
  have d1 : decide (15 < pr) = false := decide_eq_false (by omega)
  clear hpr hM
  have HT := Aside0.mk ht
  clear ht
  go_enter Try.func13, Try.ntmps13
  go_wp2_with fail
  refine hm.mono ?_
  rintro e w1 ⟨rfl, rfl⟩
  go_wp2_with fail
  refine hrow.mono ?_
  rintro e w1 ⟨v1, rfl, HO, HB⟩
  have HB' := Aside0.mk HB
  rw [rowL_len] at HO
  obtain ⟨A, c, rfl, HR⟩ := own_reads HO
  have hcont := HC.out A c w1 HB HR
  rw [HT.out] at hcont
  clear HO HB HR HC HT hm hrow
  go_wp2_with fail
  refine hcont.mono ?_
  rintro e w2 ⟨rfl, m, rfl⟩
  clear hcont
  go_wp2
  go_ret
  exact ⟨rfl, bdrew HB'.out m⟩
set_option maxHeartbeats 800000 in
theorem Map_full (B bm bp : Nat) (most : Int) (l : List (Int × Nat)) (ct : Nat → List Int × Int) (p : Int) (N : Nat) (pr : Int) (w : World) (hM : MemR w B bm bp most l ct) (hp0 : 0 ≤ p) (h : mayB p N = true) (hpr : 0 ≤ pr ∧ pr ≤ 15)
    (ht : (rowL p N).any (isM l) = false) (g0 : 0 ≤ most) (g1 : most ≤ 1024) (g2 : l.length ≤ 1024) (hf : most - l.length < N) :
    Calls Try.prog 13 #[.pointer (some ⟨bm, 0, none⟩), .int .u64 p, .int .i64 N, .int .i64 pr] w fun e w' => e = .returned (.int .i64 13) ∧ Below w.heap.size w w' := by
  have hm := may_calls p N w hp0
  obtain ⟨N', e, h1, h2, h3, -⟩ := may_row h
  obtain rfl : N = N' := by omega
  clear e
  rw [h] at hm
  clear h
  have hrow := row_calls p N w hp0 h2 h3
  have HC := Aside0.mk (fun A c w1 hb hr => ContainsIs B bm bp most l ct A N c (rowL p N) w1 (hM.keep hb) hr)
  have HF := Aside0.mk (fun w1 hb => Free_calls B bm bp most l ct w1 (hM.keep hb) g0 g1 g2)
  have d0 : decide (pr < 0) = false := decide_eq_false (by omega)
  have d1 : decide (15 < pr) = false := decide_eq_false (by omega)
  have d2 : decide (most - (l.length : Int) < N) = true := decide_eq_true hf
  clear hpr hM hf
  have HT := Aside0.mk ht
  clear ht
  go_enter Try.func13, Try.ntmps13
  go_wp2_with fail
  refine hm.mono ?_
  rintro e w1 ⟨rfl, rfl⟩
  go_wp2_with fail
  refine hrow.mono ?_
  rintro e w1 ⟨v1, rfl, HO, HB⟩
  have HB' := Aside0.mk HB
  rw [rowL_len] at HO
  obtain ⟨A, c, rfl, HR⟩ := own_reads HO
  have hcont := HC.out A c w1 HB HR
  rw [HT.out] at hcont
  clear HO HB HR HC HT hm hrow
  go_wp2_with fail
  refine hcont.mono ?_
  rintro e w2 ⟨rfl, m, rfl⟩
  clear hcont
  have hfree := HF.out (w1.drewN m) (bdrew HB'.out m)
  clear HF
  generalize l.length = L at *
  go_wp2_with fail
  refine hfree.mono ?_
  rintro e w2 ⟨rfl, m2, rfl⟩
  clear hfree
  go_wp2
  go_ret
  exact ⟨rfl, bdrew HB'.out _⟩
theorem lookup_none_of {l' : List (Int × Nat)} {ct' : Nat → List Int × Int} {l : List (Int × Nat)} {ct : Nat → List Int × Int} {p pr : Int} {k N : Nat} (h : Added l ct p k pr l' ct') (hk : k < N) (ht : (rowL p N).any (isM l) = false) : l'.lookup (p + k * 4096) = none := by
  have h1 := h.2 (p + k * 4096)
  have hn : ¬ (p + (k : Int) * 4096) ∈ rowL p k := by rw [rowL_mem]; rintro ⟨j, hj, e⟩; omega
  rw [if_neg hn] at h1
  have h2 : l.lookup (p + k * 4096) = none := by
    rw [List.any_eq_false] at ht
    have := ht (p + k * 4096) ((rowL_mem _ _ _).2 ⟨k, hk, rfl⟩)
    unfold isM at this
    cases hl : l.lookup (p + k * 4096) with
    | none => rfl
    | some b => rw [hl] at this; simp at this
  rw [h2] at h1
  simpa using h1
attribute [-go_sem] Instr.build Instr.fill Instr.box
set_option maxHeartbeats 1000000 in
theorem Map_ok (B bm bp : Nat) (most : Int) (l : List (Int × Nat)) (ct : Nat → List Int × Int) (p : Int) (N : Nat) (pr : Int) (w : World) (hM : MemR w B bm bp most l ct) (hB : B ≤ w.heap.size) (hp0 : 0 ≤ p) (h : mayB p N = true) (hpr : 0 ≤ pr ∧ pr ≤ 15)
    (ht : (rowL p N).any (isM l) = false) (g0 : 0 ≤ most) (g1 : most ≤ 1024) (g2 : l.length ≤ 1024) (hf : N ≤ most - l.length) :
    Calls Try.prog 13 #[.pointer (some ⟨bm, 0, none⟩), .int .u64 p, .int .i64 N, .int .i64 pr] w (Mapped w B bm bp most l ct p N pr) := by
  have hm := may_calls p N w hp0
  obtain ⟨N', e, h1, h2, h3, -⟩ := may_row h
  obtain rfl : N = N' := by omega
  clear e
  rw [h] at hm
  clear h
  have hrow := fun w => row_calls p N w hp0 h2 h3
  have HC := Aside0.mk (fun A c w1 hb hr => ContainsIs B bm bp most l ct A N c (rowL p N) w1 (hM.keep hb) hr)
  have HF := Aside0.mk (fun w1 hb => Free_calls B bm bp most l ct w1 (hM.keep hb) g0 g1 g2)
  have d0 : decide (pr < 0) = false := decide_eq_false (by omega)
  have d1 : decide (15 < pr) = false := decide_eq_false (by omega)
  have d2 : decide (most - (l.length : Int) < N) = false := decide_eq_false (by omega)
  have HM := Aside0.mk hM
  have HP := Aside0.mk hpr
  clear hpr hM hf
  have HT := Aside0.mk ht
  clear ht
  go_enter Try.func13, Try.ntmps13
  go_wp2_with fail
  refine hm.mono ?_
  rintro e w1 ⟨rfl, rfl⟩
  go_wp2_with fail
  refine (hrow _).mono ?_
  rintro e w1 ⟨v1, rfl, HO, HB⟩
  have HB' := Aside0.mk HB
  rw [rowL_len] at HO
  obtain ⟨A, c, rfl, HR⟩ := own_reads HO
  have hcont := HC.out A c w1 HB HR
  rw [HT.out] at hcont
  clear HO HB HR HC hm
  go_wp2_with fail
  refine hcont.mono ?_
  rintro e w2 ⟨rfl, m, rfl⟩
  clear hcont
  have hfree := HF.out (w1.drewN m) (bdrew HB'.out m)
  clear HF
  obtain ⟨L, hL⟩ : ∃ L : Nat, l.length = L := ⟨_, rfl⟩
  rw [hL] at hfree d2
  go_wp2_with fail
  refine hfree.mono ?_
  rintro e w2 ⟨rfl, m2, rfl⟩
  clear hfree
  go_wp2_with fail
  refine (hrow _).mono ?_
  rintro e w3 ⟨v3, rfl, HO, HB⟩
  clear hrow
  have HB3 := Aside0.mk (HB'.out.trans ((bdrew (Below.refl _ w1) _).trans (HB.mono HB'.out.size)))
  have hB3 : w.heap.size ≤ w3.heap.size := HB3.out.size
  have HM3 := Aside0.mk (HM.out.keep HB3.out)
  rw [rowL_len] at HO
  obtain ⟨A, c3, rfl, HR⟩ := own_reads HO
  have HR3 := Aside0.mk HR
  clear HO HB HR HB'
  go_wp2
  go_loopw [41] (fun i wr => ∃ k : Nat, k ≤ N ∧ i = .int .i64 k ∧ ∃ l' ct', MemR wr B bm bp most l' ct' ∧ Added l ct p k pr l' ct' ∧ Keeps (· = bp) w3 wr ∧ ∀ x ∈ l', x.2 < w.heap.size → x ∈ l) (fun i _ => N - (intOf i).toNat)
  case atStart => exact ⟨0, Nat.zero_le _, rfl, l, ct, HM3.out, ⟨rfl, fun q => by simp [rowL]⟩, Keeps.refl _ _, fun x hx _ => hx⟩
  case round =>
  obtain ⟨k, hk, rfl, l', ct', HM', HA, HK, HX⟩ := hrel
  by_cases hlt : k < N
  · obtain ⟨ad, rfl, hcell⟩ := HR3.out.2.2 (by omega)
    have hc := HK.cell (hcell k hlt) (HM3.out.map.ne (hcell k hlt))
    rw [rowL_get p N k hlt] at hc
    clear hcell
    have hn := lookup_none_of HA hlt HT.out
    have hBr : B ≤ wr.heap.size := Nat.le_trans (Nat.le_trans hB hB3) HK.size
    obtain ⟨w4, hrun, hmap4, hk4, hs4⟩ := run_update_new (P := Try.prog) (wr.alloc (.cells (pageCells (zeros 4096) pr) 72)) 63 _ _ Try.underlying63 Try.underlying25 bp l' (HM'.map.keep (Below.heap_alloc _ _ _ HM'.lt.2.1)) (p + k * 4096) hn wr.heap.size
    have HM4 := Aside0.mk (HM'.add hBr _ pr hn HP.out.1 HP.out.2 hmap4 hk4)
    have HA4 := Aside0.mk (HA.step HM' hn)
    have HK4 : Aside0 (Keeps (· = bp) w3 w4) := ⟨HK.trans ((Keeps.of_below (Below.alloc (Below.refl _ _) (Nat.le_refl _) _) _).trans hk4)⟩
    have HX4 : Aside0 (∀ x ∈ l' ++ [(p + (k : Int) * 4096, wr.heap.size)], x.2 < w.heap.size → x ∈ l) := ⟨fun x hx hlt => by
      rw [List.mem_append] at hx
      rcases hx with hx | hx
      · exact HX x hx hlt
      · simp at hx
        subst hx
        have := HK.size
        simp at hlt
        omega⟩
    obtain ⟨c0, -⟩ := HM'.cells
    have hb := build_page pr wr
    have hbox := box_page pr wr
    clear HM' HA HK HX hmap4 hk4 hs4 HR3 HM3 HB3 HT HM HP hn
    generalize pageCells (zeros 4096) pr = PG at hb hbox hrun
    go_wp2
    go_roundw
    case rel => exact ⟨k + 1, by omega, by go_num, _, _, HM4.out, HA4.out, HK4.out, HX4.out⟩
    case measure => simp [intOf]; omega
  obtain rfl : k = N := by omega
  go_wp2
  go_ret
  exact ⟨rfl, l', ct', HM', HA, (Keeps.of_below HB3.out _).trans HK, HX⟩
end Go.Proofs.Ytdagfddhdnfbkaa
