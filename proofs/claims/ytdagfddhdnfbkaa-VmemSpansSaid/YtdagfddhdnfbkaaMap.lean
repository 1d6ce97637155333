/- Laws of a map with uint64 keys and pointer elements: lookup, update, delete, len; no program of the seat is looked into but its types. -/
import Derived.Test.YtdagfddhdnfbkaaBase
import Derived.MapKept
namespace Go.Proofs.Ytdagfddhdnfbkaa
open Go.RowKit
set_option linter.unusedVariables false
set_option linter.unusedSimpArgs false
/-- the pointer that an element is -/
def ptrV : Option Nat → Value
  | none => .pointer none
  | some b => .pointer (some ⟨b, 0, none⟩)
/-- block b is a map that reads as l -/
def MapIs (w : World) (b : Nat) (l : List (Int × Nat)) : Prop :=
  ∃ es clock, w.heap[b]? = some (.map es clock) ∧ es.toList.map (fun e => (e.key, e.val)) = l.map (fun x => (Value.int .u64 x.1, ptrV (some x.2)))
theorem findNow_is (k : Int) : ∀ (es : List MapEntry) (l : List (Int × Nat)) (i : Nat), es.map (fun e => (e.key, e.val)) = l.map (fun x => (Value.int .u64 x.1, ptrV (some x.2))) →
    Instr.findNow (.int .u64) (.int .u64 k) es i = some ((l.findIdx? (·.1 == k)).map fun j => (i + j, ptrV ((l.lookup k))))
  | [], [], i, _ => by simp [Instr.findNow]
  | [], _ :: _, i, h => by simp at h
  | _ :: _, [], i, h => by simp at h
  | e :: es, (a, b) :: l, i, h => by
    simp only [List.map_cons, List.cons.injEq, Prod.mk.injEq] at h
    obtain ⟨⟨hk, hv⟩, hr⟩ := h
    have ih := findNow_is k es l (i + 1) hr
    unfold Instr.findNow
    rw [hk]
    simp only [Instr.sameNow, if_true]
    by_cases hka : k = a
    · subst hka
      simp [List.findIdx?_cons, List.lookup, hv]
    · have h1 : (k == a) = false := by rw [beq_eq_false_iff_ne]; exact hka
      have h2 : (a == k) = false := by rw [beq_eq_false_iff_ne]; exact fun h => hka h.symm
      simp only [h1, List.findIdx?_cons, h2, List.lookup]
      rw [ih]
      simp [Option.map_map, Function.comp_def, Nat.add_assoc, Nat.add_comm 1]
theorem lookup_idx (l : List (Int × Nat)) (k : Int) : (l.findIdx? (·.1 == k)).isSome = (l.lookup k).isSome := by
  induction l with
  | nil => rfl
  | cons x l ih =>
    obtain ⟨a, b⟩ := x
    by_cases h : k = a
    · subst h; simp [List.findIdx?_cons, List.lookup]
    · have h1 : (k == a) = false := by rw [beq_eq_false_iff_ne]; exact h
      have h2 : (a == k) = false := by rw [beq_eq_false_iff_ne]; exact fun h' => h h'.symm
      simp [List.findIdx?_cons, List.lookup, h1, h2, ih]
theorem run_findKey {P : Program} (w : World) (K : TypeId) (hK : P.underlying K = some (.int .u64)) (k : Int) (es : Array MapEntry) (l : List (Int × Nat))
    (h : es.toList.map (fun e => (e.key, e.val)) = l.map (fun x => (Value.int .u64 x.1, ptrV (some x.2)))) :
    (Instr.findKey K (.int .u64 k) es.toList).run P w = .ok ((l.findIdx? (·.1 == k)).map fun j => (j, ptrV (l.lookup k))) w := by
  have := findNow_is k es.toList l 0 h
  simp [Instr.findKey, run_underlying hK, this]
theorem run_checkKey_u64 {P : Program} (w : World) (K : TypeId) (hK : P.underlying K = some (.int .u64)) (k : Int) (e : Bool) :
    (Instr.checkKey e 10000 K (.int .u64 k)).run P w = .ok () w := by
  exact MapKept.run_checkKey hK (show MapKept.IsKey (.int .u64) (.int .u64 k) from rfl) e 9999
theorem run_lookup_ptr {P : Program} (w : World) (T K E : TypeId) (hT : P.underlying T = some (.map K E)) (hK : P.underlying K = some (.int .u64)) (hE : ∀ w : World, (zeroValue E).run P w = .ok (.pointer none) w)
    (b : Nat) (l : List (Int × Nat)) (hm : MapIs w b l) (k : Int) :
    (Instr.lookup T (.map (some b)) (.int .u64 k) false).run P w = .ok (ptrV (l.lookup k)) w := by
  obtain ⟨es, clock, hb, he⟩ := hm
  have hg : (getObj b).run P w = .ok (.map es clock) w := by simp [getObj, Sem.run, hb]
  have hf := run_findKey w K hK k es l he
  have hc := run_checkKey_u64 w K hK k es.isEmpty
  have hi := lookup_idx l k
  cases hx : l.findIdx? (·.1 == k) with
  | none =>
    rw [hx] at hf hi
    have hn : l.lookup k = none := by
      cases hl : l.lookup k with
      | none => rfl
      | some v => rw [hl] at hi; simp at hi
    simp [Instr.lookup, run_underlying hT, hg, hc, hf, hE, hn, ptrV]
  | some j =>
    rw [hx] at hf
    simp [Instr.lookup, run_underlying hT, hg, hc, hf]
/-- all but the blocks of S is as it was -/
structure Keeps (S : Nat → Prop) (w w' : World) : Prop where
  os : w'.os = w.os
  tape : w'.tape = w.tape
  output : w'.output = w.output
  size : w.heap.size ≤ w'.heap.size
  block : ∀ k, k < w.heap.size → ¬ S k → w'.heap[k]? = w.heap[k]?
theorem Keeps.refl (S : Nat → Prop) (w : World) : Keeps S w w := ⟨rfl, rfl, rfl, Nat.le_refl _, fun _ _ _ => rfl⟩
theorem Keeps.trans {S : Nat → Prop} {a b c : World} (h : Keeps S a b) (k : Keeps S b c) : Keeps S a c :=
  ⟨k.os.trans h.os, k.tape.trans h.tape, k.output.trans h.output, Nat.le_trans h.size k.size, fun i hi hs => (k.block i (Nat.lt_of_lt_of_le hi h.size) hs).trans (h.block i hi hs)⟩
theorem Keeps.mono {S T : Nat → Prop} {a b : World} (h : Keeps S a b) (hs : ∀ k, k < a.heap.size → S k → T k) : Keeps T a b :=
  ⟨h.os, h.tape, h.output, h.size, fun i hi hn => h.block i hi (fun x => hn (hs i hi x))⟩
theorem Keeps.of_below {w w' : World} (h : Below w.heap.size w w') (S : Nat → Prop) : Keeps S w w' := ⟨h.os, h.tape, h.output, h.size, fun k hk _ => h.block k hk⟩
theorem Keeps.below {S : Nat → Prop} {w w' : World} (h : Keeps S w w') {B : Nat} (hB : B ≤ w.heap.size) (hs : ∀ k, S k → B ≤ k) : Below B w w' :=
  ⟨h.os, h.tape, h.output, h.size, fun k hk => h.block k (by omega) (fun x => by have := hs k x; omega)⟩
theorem Keeps.drew {S : Nat → Prop} {a w : World} (h : Keeps S a w) : Keeps S a w.drew := ⟨h.os, h.tape, h.output, h.size, h.block⟩
theorem keeps_obj {w : World} {b : Nat} {o : Obj} : Keeps (· = b) w { w with heap := w.heap.setIfInBounds b o } :=
  ⟨rfl, rfl, rfl, by simp, fun k _ hn => by simp only [Array.getElem?_setIfInBounds]; rw [if_neg (fun h => hn h.symm)]⟩
theorem MapIs.keep {w w' : World} {b : Nat} {l : List (Int × Nat)} (h : MapIs w b l) (hk : w'.heap[b]? = w.heap[b]?) : MapIs w' b l := by
  obtain ⟨es, clock, hb, he⟩ := h
  exact ⟨es, clock, hk.trans hb, he⟩
theorem MapIs.lt {w : World} {b : Nat} {l : List (Int × Nat)} (h : MapIs w b l) : b < w.heap.size := by
  obtain ⟨es, clock, hb, _⟩ := h
  exact (Array.getElem?_eq_some_iff.1 hb).1
theorem run_update_new {P : Program} (w : World) (T K E : TypeId) (hT : P.underlying T = some (.map K E)) (hK : P.underlying K = some (.int .u64))
    (b : Nat) (l : List (Int × Nat)) (hm : MapIs w b l) (k : Int) (hk : l.lookup k = none) (p : Nat) :
    ∃ w', (Instr.mapUpdate T (.map (some b)) (.int .u64 k) (.pointer (some ⟨p, 0, none⟩))).run P w = .ok () w' ∧ MapIs w' b (l ++ [(k, p)]) ∧ Keeps (· = b) w w' ∧ w'.heap.size = w.heap.size := by
  have hlt := hm.lt
  obtain ⟨es, clock, hb, he⟩ := hm
  have hg : (getObj b).run P w = .ok (.map es clock) w := by simp [getObj, Sem.run, hb]
  have hf := run_findKey w K hK k es l he
  have hc := run_checkKey_u64 w K hK k false
  have hi := lookup_idx l k
  rw [hk] at hi
  have hx : l.findIdx? (·.1 == k) = none := by
    cases hx : l.findIdx? (·.1 == k) with
    | none => rfl
    | some v => rw [hx] at hi; simp at hi
  rw [hx] at hf
  refine ⟨{ w with heap := w.heap.setIfInBounds b (.map (es.push { key := .int .u64 k, val := .pointer (some ⟨p, 0, none⟩), born := clock }) (clock + 1)) }, ?_, ?_, keeps_obj, by simp⟩
  · simp [Instr.mapUpdate, run_underlying hT, hg, hc, hf]
    simp [setObj, Sem.run, hb]
  · refine ⟨es.push { key := .int .u64 k, val := .pointer (some ⟨p, 0, none⟩), born := clock }, clock + 1, by simp [Array.getElem?_setIfInBounds, hlt], ?_⟩
    simp [he, ptrV]
theorem run_len_map {P : Program} (w : World) (T K E ty : TypeId) (hT : P.underlying T = some (.map K E)) (b : Nat) (l : List (Int × Nat)) (hm : MapIs w b l) :
    (Builtin.len_ #[T] ty #[.map (some b)]).run P w = .ok (.int .i64 l.length) w := by
  obtain ⟨es, clock, hb, he⟩ := hm
  have hg : (getObj b).run P w = .ok (.map es clock) w := by simp [getObj, Sem.run, hb]
  have hl : es.size = l.length := by
    have := congrArg List.length he
    simpa using this
  simp [Builtin.len_, run_underlying hT, hg, goInt, hl]
theorem map_erase {α β : Type} (f : α → β) : ∀ (l : List α) (j : Nat), (l.map f).eraseIdx j = (l.eraseIdx j).map f
  | [], j => by simp
  | x :: l, 0 => by simp
  | x :: l, j + 1 => by simp [map_erase f l j]
theorem run_delete_key {P : Program} (w : World) (T K E ty : TypeId) (hT : P.underlying T = some (.map K E)) (hK : P.underlying K = some (.int .u64))
    (b : Nat) (l : List (Int × Nat)) (hm : MapIs w b l) (k : Int) :
    ∃ w', (Builtin.delete_ #[T, K] ty #[.map (some b), .int .u64 k]).run P w = .ok (.tuple #[]) w' ∧ MapIs w' b (l.eraseP (·.1 == k)) ∧ Keeps (· = b) w w' ∧ w'.heap.size = w.heap.size := by
  have hlt := hm.lt
  obtain ⟨es, clock, hb, he⟩ := hm
  have hg : (getObj b).run P w = .ok (.map es clock) w := by simp [getObj, Sem.run, hb]
  have hf := run_findKey w K hK k es l he
  have hc := run_checkKey_u64 w K hK k es.isEmpty
  cases hx : l.findIdx? (·.1 == k) with
  | none =>
    rw [hx] at hf
    refine ⟨{ w with heap := w.heap.setIfInBounds b (.map es clock) }, ?_, ?_, keeps_obj, by simp⟩
    · simp [Builtin.delete_, run_underlying hT, hg, hc, hf]
      simp [setObj, Sem.run, hb]
    · refine ⟨es, clock, by simp [Array.getElem?_setIfInBounds, hlt], ?_⟩
      rw [he, List.eraseP_of_forall_not]
      intro x hxl
      have := List.findIdx?_eq_none_iff.1 hx x hxl
      simpa using this
  | some j =>
    rw [hx] at hf
    refine ⟨{ w with heap := w.heap.setIfInBounds b (.map (es.eraseIdxIfInBounds j) clock) }, ?_, ?_, keeps_obj, by simp⟩
    · simp [Builtin.delete_, run_underlying hT, hg, hc, hf]
      simp [setObj, Sem.run, hb]
    · refine ⟨es.eraseIdxIfInBounds j, clock, by simp [Array.getElem?_setIfInBounds, hlt], ?_⟩
      have hj := List.findIdx?_eq_some_iff_findIdx_eq.1 hx
      have he2 : l.eraseP (·.1 == k) = l.eraseIdx j := by rw [List.eraseP_eq_eraseIdx, hx]
      rw [he2]
      have := congrArg (fun x => x.eraseIdx j) he
      simp only [map_erase] at this
      rw [← this]
      congr 1
      rw [Array.eraseIdxIfInBounds]
      split
      · simp
      · rename_i hn
        rw [List.eraseIdx_of_length_le (by simpa using hn)]
end Go.Proofs.Ytdagfddhdnfbkaa
