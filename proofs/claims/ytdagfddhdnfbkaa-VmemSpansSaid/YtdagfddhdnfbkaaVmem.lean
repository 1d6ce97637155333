/- Pages in memory: what a *vmem.Mem is, and the contracts of its small functions. -/
import Derived.Test.YtdagfddhdnfbkaaMap
import Derived.Test.YtdagfddhdnfbkaaWWords
import Derived.Test.YtdagfddhdnfbkaaPure0
import Derived.Deep.QuietTactic
import Derived.BigQuiet
import Derived.Carry
namespace Go.Proofs.Ytdagfddhdnfbkaa
open Go.RowKit
set_option linter.unusedVariables false
set_option linter.unusedSimpArgs false
open Go.Proofs.YtdagfddhdnfbkaaW.PrintWords
attribute [local go_sem] b_max2 b_min2 b_max b_min
attribute [local go_sem ↓] cell_set_isSome
theorem info_u64 : (Try.prog.info? 25).map (fun i => (i.zero, i.size, i.bytes)) = some (some (.int .u64 0), 1, 8) := by kernel_rfl
theorem zero_page (w : World) : (zeroValue 69).run Try.prog w = .ok (.pointer none) w := by kernel_rfl
theorem quiet_left {P : Program} {f : FuncId} {args : Array Value} {w : World} {n : Nat} {v : Value}
    (h : Calls P f args (w.drewN n) fun e w' => e = .returned v ∧ w.drewN n = w') : Calls P f args (w.drewN n) fun e w'' => e = .returned v ∧ ∃ m, w'' = w.drewN m :=
  h.mono fun _ _ ⟨he, hm⟩ => ⟨he, n, hm.symm⟩
def zeros (m : Nat) : List Int := List.replicate m 0
/-- a page's cells: its bytes, and its protection -/
def pageCells (bs : List Int) (pr : Int) : Array Value := (nums .u8 bs ++ [Value.int .i64 pr]).toArray
def Page (w : World) (b : Nat) (bs : List Int) (pr : Int) : Prop :=
  w.heap[b]? = some (.cells (pageCells bs pr) 72 (0, 0)) ∧ bs.length = 4096 ∧ Bytes bs ∧ 0 ≤ pr ∧ pr ≤ 15
/-- a *Mem: its head's block bm, its map's block bp; l: each page's address and block; ct: what a block holds -/
structure MemR (w : World) (B bm bp : Nat) (most : Int) (l : List (Int × Nat)) (ct : Nat → List Int × Int) : Prop where
  head : w.heap[bm]? = some (.cells #[.map (some bp), .int .i64 most] 65 (0, 0))
  map : MapIs w bp l
  keys : (l.map (·.1)).Nodup
  blks : (l.map (·.2)).Nodup
  page : ∀ x ∈ l, B ≤ x.2 ∧ Page w x.2 (ct x.2).1 (ct x.2).2
  lo : B ≤ bm ∧ B ≤ bp
theorem MemR.cells {w : World} {B bm bp : Nat} {most : Int} {l : List (Int × Nat)} {ct : Nat → List Int × Int} (h : MemR w B bm bp most l ct) :
    w.cell? ⟨bm, 0, none⟩ = some (.map (some bp)) ∧ w.cell? ⟨bm, 1, none⟩ = some (.int .i64 most) := by
  constructor <;> simp [World.cell?, h.head]
theorem lookup_page (w : World) (bp : Nat) (l : List (Int × Nat)) (h : MapIs w bp l) (k : Int) :
    (Instr.lookup 63 (.map (some bp)) (.int .u64 k) false).run Try.prog w = .ok (ptrV (l.lookup k)) w :=
  run_lookup_ptr w _ _ _ Try.underlying63 Try.underlying25 zero_page bp l h k
theorem MapIs.drewN {w : World} {b : Nat} {l : List (Int × Nat)} (h : MapIs w b l) (n : Nat) : MapIs (w.drewN n) b l := h
theorem MemR.drewN {w : World} {B bm bp : Nat} {most : Int} {l : List (Int × Nat)} {ct : Nat → List Int × Int} (h : MemR w B bm bp most l ct) (n : Nat) : MemR (w.drewN n) B bm bp most l ct :=
  ⟨h.head, h.map, h.keys, h.blks, h.page, h.lo⟩
def mayB (p n : Int) : Bool := decide (p % 4096 = 0 ∧ 1 ≤ n ∧ n ≤ 1024 ∧ p ≤ 140737488355328 ∧ n * 4096 ≤ 140737488355328 - p)
set_option maxHeartbeats 800000 in
theorem may_calls (p n : Int) (w : World) (hp0 : 0 ≤ p) :
    Calls Try.prog 34 #[.int .u64 p, .int .i64 n] w fun e w' => e = .returned (.bool (mayB p n)) ∧ w = w' := by
  by_cases h0 : p % 4096 = 0
  · have d0 : (p % 4096 == 0) = true := by rw [h0]; rfl
    by_cases h1 : 1 ≤ n
    · have d1 : decide (1 ≤ n) = true := decide_eq_true h1
      by_cases h2 : n ≤ 1024
      · have d2 : decide (n ≤ 1024) = true := decide_eq_true h2
        by_cases h3 : p ≤ 140737488355328
        · have d3 : decide (p ≤ 140737488355328) = true := decide_eq_true h3
          have e : mayB p n = decide (n * 4096 ≤ 140737488355328 - p) := by
            unfold mayB; rw [Bool.eq_iff_iff]; simp only [decide_eq_true_eq]; omega
          rw [e]
          clear e h0
          go_enter Try.func34, Try.ntmps34
          go_wp2
          go_ret
          exact ⟨rfl, rfl⟩
        · have d3 : decide (p ≤ 140737488355328) = false := decide_eq_false h3
          rw [show mayB p n = false from decide_eq_false (by omega)]
          clear h0
          go_enter Try.func34, Try.ntmps34
          go_wp2
          go_ret
          exact ⟨rfl, rfl⟩
      · have d2 : decide (n ≤ 1024) = false := decide_eq_false h2
        rw [show mayB p n = false from decide_eq_false (by omega)]
        clear h0
        go_enter Try.func34, Try.ntmps34
        go_wp2
        go_ret
        exact ⟨rfl, rfl⟩
    · have d1 : decide (1 ≤ n) = false := decide_eq_false h1
      rw [show mayB p n = false from decide_eq_false (by omega)]
      clear h0
      go_enter Try.func34, Try.ntmps34
      go_wp2
      go_ret
      exact ⟨rfl, rfl⟩
  · have d0 : (p % 4096 == 0) = false := by rw [beq_eq_false_iff_ne]; exact h0
    rw [show mayB p n = false from decide_eq_false (by omega)]
    clear h0
    go_enter Try.func34, Try.ntmps34
    go_wp2
    go_ret
    exact ⟨rfl, rfl⟩
set_option maxHeartbeats 800000 in
theorem is_calls (B bm bp : Nat) (most : Int) (l : List (Int × Nat)) (ct : Nat → List Int × Int) (k : Int) (w : World) (hM : MemR w B bm bp most l ct) :
    Calls Try.prog 37 #[.pointer (some ⟨bm, 0, none⟩), .int .u64 k] w fun e w' => e = .returned (.bool (l.lookup k).isSome) ∧ w = w' := by
  obtain ⟨c0, c1⟩ := hM.cells
  have hl := lookup_page w bp l hM.map k
  clear hM
  cases hk : l.lookup k with
  | none =>
    rw [hk] at hl
    clear hk
    simp only [ptrV] at hl
    go_enter Try.func37, Try.ntmps37
    go_wp2
    go_ret
    exact ⟨rfl, rfl⟩
  | some b =>
    rw [hk] at hl
    clear hk
    simp only [ptrV] at hl
    go_enter Try.func37, Try.ntmps37
    go_wp2
    go_ret
    exact ⟨rfl, rfl⟩
set_option maxHeartbeats 800000 in
theorem none_calls (B bm bp : Nat) (most : Int) (l : List (Int × Nat)) (ct : Nat → List Int × Int) (k : Int) (w : World) (hM : MemR w B bm bp most l ct) :
    Calls Try.prog 50 #[.pointer (some ⟨bm, 0, none⟩), .int .u64 k] w fun e w' => e = .returned (.bool (l.lookup k).isNone) ∧ w = w' := by
  obtain ⟨c0, c1⟩ := hM.cells
  have hl := lookup_page w bp l hM.map k
  clear hM
  cases hk : l.lookup k with
  | none =>
    rw [hk] at hl
    clear hk
    simp only [ptrV] at hl
    go_enter Try.func50, Try.ntmps50
    go_wp2
    go_ret
    exact ⟨rfl, rfl⟩
  | some b =>
    rw [hk] at hl
    clear hk
    simp only [ptrV] at hl
    go_enter Try.func50, Try.ntmps50
    go_wp2
    go_ret
    exact ⟨rfl, rfl⟩
set_option maxHeartbeats 800000 in
theorem Free_calls (B bm bp : Nat) (most : Int) (l : List (Int × Nat)) (ct : Nat → List Int × Int) (w : World) (hM : MemR w B bm bp most l ct) (h0 : 0 ≤ most) (h1 : most ≤ 1024) (hl : l.length ≤ 1024) :
    Calls Try.prog 22 #[.pointer (some ⟨bm, 0, none⟩)] w fun e w' => e = .returned (.int .i64 (most - l.length)) ∧ ∃ n, w' = w.drewN n := by
  obtain ⟨c0, c1⟩ := hM.cells
  have hlen := fun n => run_len_map (P := Try.prog) (w.drewN n) 63 _ _ 3 Try.underlying63 bp l (hM.map.drewN n)
  have hli : (l.length : Int) ≤ 1024 := by omega
  clear hM hl
  generalize l.length = n at *
  go_enter Try.func22, Try.ntmps22
  go_wp2
  go_quiet (fail)
  go_wp2
  go_ret
  exact ⟨rfl, _, rfl⟩
def baseV (p : Int) : Int := p / 4096 * 4096
theorem andNot_page (p : Int) (h0 : 0 ≤ p) (h1 : p < 18446744073709551616) : bits .andNot .u64 p 4095 = baseV p := by
  obtain ⟨a, rfl⟩ := Int.eq_ofNat_of_zero_le h0
  have e : (BitVec.ofInt 64 (a : Int) &&& ~~~ BitVec.ofInt 64 4095).toNat = a / 4096 * 4096 := by
    have ha : (BitVec.ofInt 64 (a : Int)).toNat = a := by rw [BitVec.ofInt_natCast, BitVec.toNat_ofNat]; exact Nat.mod_eq_of_lt (by omega)
    apply Nat.eq_of_testBit_eq
    intro i
    have hd : a / 4096 * 4096 = (a >>> 12) <<< 12 := by rw [Nat.shiftRight_eq_div_pow, Nat.shiftLeft_eq]
    rw [hd, Nat.testBit_shiftLeft, Nat.testBit_shiftRight, BitVec.toNat_and, Nat.testBit_and, ha]
    have h4 : (~~~ BitVec.ofInt 64 4095).toNat = 18446744073709547520 := by decide
    rw [h4]
    by_cases hi : i < 64
    · have h5 : Nat.testBit 18446744073709547520 i = decide (12 ≤ i) := by
        have : ∀ j, j < 64 → Nat.testBit 18446744073709547520 j = decide (12 ≤ j) := by decide
        exact this i hi
      rw [h5]
      by_cases h12 : 12 ≤ i
      · simp [h12, show 12 + (i - 12) = i by omega]
      · simp [h12]
    · have h6 : Nat.testBit a i = false := Nat.testBit_lt_two_pow (Nat.lt_of_lt_of_le (by omega : a < 2 ^ 64) (Nat.pow_le_pow_right (by decide) (by omega)))
      by_cases h12 : 12 ≤ i
      · rw [show 12 + (i - 12) = i by omega, h6]; simp
      · omega
  show IntKind.u64.wrap ((BitVec.ofInt 64 (a : Int) &&& ~~~ BitVec.ofInt 64 4095).toNat : Int) = _
  rw [e, IntKind.wrap_u64]
  unfold baseV
  omega
set_option maxHeartbeats 800000 in
theorem base_calls (p : Int) (w : World) (h0 : 0 ≤ p) (h1 : p < 18446744073709551616) :
    Calls Try.prog 48 #[.int .u64 p] w fun e w' => e = .returned (.int .u64 (baseV p)) ∧ w = w' := by
  have e := andNot_page p h0 h1
  go_enter Try.func48, Try.ntmps48
  go_wp2
  go_ret
  exact ⟨rfl, rfl⟩
theorem lookup_mem {l : List (Int × Nat)} {k : Int} {b : Nat} (h : l.lookup k = some b) : (k, b) ∈ l := by
  induction l with
  | nil => simp at h
  | cons x l ih =>
    obtain ⟨a, c⟩ := x
    by_cases hk : k = a
    · subst hk; simp [List.lookup] at h; subst h; simp
    · have : (k == a) = false := by rw [beq_eq_false_iff_ne]; exact hk
      simp [List.lookup, this] at h
      exact List.mem_cons_of_mem _ (ih h)
/-- the protection of a byte's page -/
def protO (l : List (Int × Nat)) (ct : Nat → List Int × Int) (p : Int) : Option Int := (l.lookup (baseV p)).map fun b => (ct b).2
theorem page_prot {w : World} {b : Nat} {bs : List Int} {pr : Int} (h : Page w b bs pr) : w.cell? ⟨b, 4096, none⟩ = some (.int .i64 pr) ∧ w.frozen? ⟨b, 4096, none⟩ = false := by
  constructor
  · simp only [World.cell?, h.1]
    simp [pageCells, List.getElem?_append, nums_length, h.2.1]
  · simp [World.frozen?, h.1]
set_option maxHeartbeats 800000 in
theorem Prot_calls (B bm bp : Nat) (most : Int) (l : List (Int × Nat)) (ct : Nat → List Int × Int) (p : Int) (w : World) (hM : MemR w B bm bp most l ct) (h0 : 0 ≤ p) (h1 : p < 18446744073709551616) :
    Calls Try.prog 33 #[.pointer (some ⟨bm, 0, none⟩), .int .u64 p] w fun e w' => e = .returned (.tuple #[.int .i64 ((protO l ct p).getD 0), .bool (protO l ct p).isSome]) ∧ ∃ n, w' = w.drewN n := by
  obtain ⟨c0, c1⟩ := hM.cells
  have hl := fun n => lookup_page (w.drewN n) bp l (hM.map.drewN n) (baseV p)
  unfold protO
  cases hk : l.lookup (baseV p) with
  | none =>
    rw [hk] at hl
    clear hk hM
    simp only [ptrV] at hl
    go_enter Try.func33, Try.ntmps33
    go_wp2
    go_quiet ((go_at_call 48; exact quiet_left (base_calls p _ h0 h1)))
    go_wp2
    go_ret2
    exact ⟨rfl, _, rfl⟩
  | some b =>
    rw [hk] at hl
    obtain ⟨c2, -⟩ := page_prot (hM.page _ (lookup_mem hk)).2
    clear hk hM
    simp only [ptrV] at hl
    go_enter Try.func33, Try.ntmps33
    go_wp2
    go_quiet ((go_at_call 48; exact quiet_left (base_calls p _ h0 h1)))
    go_wp2
    go_ret2
    exact ⟨rfl, _, rfl⟩
/-- a pointer that a call makes -/
def NewMem (w : World) (most : Int) (e : Ending) (w' : World) : Prop :=
  ∃ bm bp, e = .returned (.pointer (some ⟨bm, 0, none⟩)) ∧ (∀ ct, MemR w' w.heap.size bm bp most [] ct) ∧ Below w.heap.size w w'
set_option maxHeartbeats 800000 in
theorem New_calls (n : Int) (w : World) :
    Calls Try.prog 12 #[.int .i64 n] w (NewMem w (min (max n 0) 1024)) := by
  obtain ⟨m1, k1⟩ : ∃ m1 : Int, (if n < 0 then 0 else n) = m1 := ⟨_, rfl⟩
  obtain ⟨m2, k2⟩ : ∃ m2 : Int, (if 1024 < m1 then 1024 else m1) = m2 := ⟨_, rfl⟩
  have HE : Hid (min (max n 0) 1024 = m2) := Lib.hid (by rw [← k2, ← k1]; split <;> split <;> omega)
  rw [HE.out]
  have hmm := @run_makeMap Try.prog
  go_enter Try.func12, Try.ntmps12
  go_wp2
  go_ret
  refine ⟨w.heap.size + 1, w.heap.size, rfl, fun ct => ⟨?_, ⟨#[], 0, ?_, rfl⟩, List.nodup_nil, List.nodup_nil, fun _ h => absurd h (by simp), by omega⟩, ?_⟩
  · show ((w.heap.push _).push _)[_]? = _
    simp [Array.getElem?_push, Array.getElem_push]
  · show ((w.heap.push _).push _)[_]? = _
    simp [Array.getElem?_push, Array.getElem_push]
  · exact (Below.alloc (Below.refl _ _) (Nat.le_refl _) _).alloc (by show _ ≤ (w.heap.push _).size; simp) _
/-- the addresses of pages side by side -/
def rowL (p : Int) : Nat → List Int
  | 0 => []
  | k + 1 => rowL p k ++ [p + k * 4096]
theorem rowL_len (p : Int) (k : Nat) : (rowL p k).length = k := by induction k with | zero => rfl | succ k ih => simp [rowL, ih]
def OwnRow (w : World) (xs : List Int) (e : Ending) (w' : World) : Prop := ∃ v1, e = .returned v1 ∧ w'.ownsRow w.heap.size 25 1 v1 xs.length (nums .u64 xs) ∧ Below w.heap.size w w'
set_option maxHeartbeats 800000 in
theorem row_calls (p : Int) (N : Nat) (w : World) (h0 : 0 ≤ p) (hN : N ≤ 1024) (h1 : p + N * 4096 ≤ 140737488355328) :
    Calls Try.prog 36 #[.int .u64 p, .int .i64 N] w (OwnRow w (rowL p N)) := by
  go_enter Try.func36, Try.ntmps36
  go_wp2
  go_loopw [5, 8] (fun b i wr => ∃ k : Nat, k ≤ N ∧ i = .int .i64 k ∧ wr.ownsRow w.heap.size 25 1 b (rowL p k).length (nums .u64 (rowL p k)) ∧ Below w.heap.size w wr) (fun _ i _ => N - (intOf i).toNat)
  case atStart => exact ⟨0, Nat.zero_le _, rfl, own_nil _ _ _ _, Below.refl _ _⟩
  case round =>
  obtain ⟨k, hk, rfl, HO0, HB0⟩ := hrel
  have HO := Aside0.mk HO0
  have HB := Aside0.mk HB0
  clear HO0 HB0
  by_cases hlt : k < N
  · have hl9 := Aside0.mk (rowL_len p k)
    go_wp2_with (at_builtin; refine print_append_num (w0 := w) w.heap.size rfl (.tmp 11) (.tmp 17) 33 25 .u64 8 rfl Try.underlying33 info_u64 (by decide) _ (rowL p k) _ rfl rfl HO.out HB.out HB.out.size (by rw [hl9.out]; omega) ?_; intro v1 w1 hown hb hg hat; have HO1 := Aside0.mk hown; have HB1 := Aside0.mk hb; clear hown hb hg hat HO HB)
    go_roundw
    case rel => exact ⟨k + 1, by omega, by go_num, HO1.out, HB1.out⟩
    case measure => simp [intOf]; omega
  obtain rfl : k = N := by omega
  go_wp2
  go_ret
  exact ⟨_, rfl, HO.out, HB.out⟩
end Go.Proofs.Ytdagfddhdnfbkaa
