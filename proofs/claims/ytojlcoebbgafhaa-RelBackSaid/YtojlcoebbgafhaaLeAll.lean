/- The contracts of package le at slices of a length that is told apart, and awake of layer 1. -/
import Derived.Test.YtojlcoebbgafhaaLePut
import Derived.Lib.SmallJoins
namespace Go.Proofs.Ytojlcoebbgafhaa
open Go.RowKit
set_option linter.unusedVariables false
set_option linter.unusedSimpArgs false
open Go.Proofs.YtojlcoebbgafhaaW.PrintWords
theorem strOf_bytesOf (s : ByteArray) : strOfNums (bytesOf s) = s := by
  have : (bytesOf s).map (fun n => UInt8.ofNat n.toNat) = s.data.toList := by
    unfold bytesOf
    rw [List.map_map]
    conv => rhs; rw [← List.map_id s.data.toList]
    apply List.map_congr_left
    intro b _
    simp
  unfold strOfNums
  rw [this]
theorem bytesOf_bytes (s : ByteArray) : Bytes (bytesOf s) := by
  intro x hx
  unfold bytesOf at hx
  obtain ⟨b, _, rfl⟩ := List.mem_map.1 hx
  have := b.toNat_lt
  omega
theorem U16_at (A : Option Addr) (n c : Nat) (xs : List Int) (p : Int) (w : World) (hr : ReadsInt w .u8 A n xs) (hc : n ≤ c) (hb : Bytes xs) :
    Calls Try.prog 55 #[.slice A n c, .int .i64 p] w fun e w' => e = .returned (.tuple #[.int .i64 (numV xs p 2), .bool (inB n p 2)]) ∧ w = w' := by
  obtain rfl := hr.1
  exact U16_calls A c xs p w hr hc hb
theorem U32_at (A : Option Addr) (n c : Nat) (xs : List Int) (p : Int) (w : World) (hr : ReadsInt w .u8 A n xs) (hc : n ≤ c) (hb : Bytes xs) :
    Calls Try.prog 49 #[.slice A n c, .int .i64 p] w fun e w' => e = .returned (.tuple #[.int .i64 (numV xs p 4), .bool (inB n p 4)]) ∧ w = w' := by
  obtain rfl := hr.1
  exact U32_calls A c xs p w hr hc hb
theorem U64_at (A : Option Addr) (n c : Nat) (xs : List Int) (p : Int) (w : World) (hr : ReadsInt w .u8 A n xs) (hc : n ≤ c) (hb : Bytes xs) :
    Calls Try.prog 51 #[.slice A n c, .int .i64 p] w fun e w' => e = .returned (.tuple #[.int .u64 (numV xs p 8), .bool (inB n p 8)]) ∧ w = w' := by
  obtain rfl := hr.1
  exact U64_calls A c xs p w hr hc hb
theorem Text_at (A : Option Addr) (n c : Nat) (xs : List Int) (p most : Int) (w : World) (hr : ReadsInt w .u8 A n xs) (hc : n ≤ c) (hb : Bytes xs) :
    Calls Try.prog 56 #[.slice A n c, .int .i64 p, .int .i64 most] w fun e w' => e = .returned (.tuple #[.string (textV xs p most), .bool (textB xs p most)]) ∧ w = w' := by
  obtain rfl := hr.1
  exact Text_calls A c xs p most w hr hc hb
theorem reads_lit (w : World) (g : Nat) (hg : w.heap.size = g) (xs : List Int) (h : xs.length ≤ 9223372036854775807) (fr : Nat × Nat) : ReadsInt (w.alloc (.cells (nums .u8 xs).toArray 5 fr)) .u8 (some ⟨g, 0, none⟩) xs.length xs := by
  subst hg
  refine ⟨rfl, h, fun _ => ⟨_, rfl, fun j hj => ?_⟩⟩
  rw [add_plain]
  have hb := heap_alloc_new w (.cells (nums .u8 xs).toArray 5 fr)
  unfold World.cell?
  rw [hb]
  simp [nums, List.getD_eq_getElem?_getD, List.getElem?_eq_getElem hj]
theorem own_str {w : World} {base n : Nat} {v : Value} {xs : List Int} (h : w.ownsRow base 5 1 v n (nums .u8 xs)) : (convert 29 9 v).run Try.prog w = .ok (.string (strOfNums xs)) w :=
  own_string Try.underlying29 Try.underlying5 Try.underlying9 h
/-- 'string(b[:j])', 'string(b[j:])', 'string(b[i:j])' -/
theorem take_at (A : Option Addr) (n c : Nat) (xs : List Int) (hl : xs.length = n) (hc : n ≤ c) (j : Int) (h0 : 0 ≤ j) (h1 : j ≤ n) :
    ∃ M, (∀ W : World, (Instr.slice 29 (.slice A n c) none (some (.int .i64 j)) none).run Try.prog W = .ok (.slice A M c) W) ∧
      (∀ w, ReadsInt w .u8 A n xs → ReadsInt w .u8 A M (xs.take j.toNat) ∧ ∀ cc, (convert 29 9 (.slice A M cc)).run Try.prog w = .ok (.string (strOfNums (xs.take j.toNat))) w) ∧ M ≤ c := by
  subst hl
  obtain ⟨i0, hi0, _, hsz, _⟩ := info_parts info_u8
  obtain ⟨h1, h2, h3⟩ := print_take_int (P := Try.prog) (k := .u8) 29 5 Try.underlying29 hi0 hsz A c xs j h0 h1 hc
  exact ⟨_, h1, fun w hr => ⟨h2 w hr, fun cc => str_of_read (h2 w hr)⟩, h3⟩
theorem cut_at (A : Option Addr) (n c : Nat) (xs : List Int) (hl : xs.length = n) (hc : n ≤ c) (j : Int) (h0 : 0 ≤ j) (h1 : j ≤ n) :
    ∃ (A' : Option Addr) (M c' : Nat), (∀ W : World, (Instr.slice 29 (.slice A n c) (some (.int .i64 j)) none none).run Try.prog W = .ok (.slice A' M c') W) ∧
      (∀ w, ReadsInt w .u8 A n xs → ReadsInt w .u8 A' M (xs.drop j.toNat) ∧ ∀ cc, (convert 29 9 (.slice A' M cc)).run Try.prog w = .ok (.string (strOfNums (xs.drop j.toNat))) w) ∧ M ≤ c' := by
  subst hl
  obtain ⟨i0, hi0, _, hsz, _⟩ := info_parts info_u8
  obtain ⟨A', h1, h2, h3⟩ := print_cut_int (P := Try.prog) (k := .u8) 29 5 Try.underlying29 hi0 hsz A c xs j h0 h1 hc
  exact ⟨A', _, _, h1, fun w hr => ⟨h2 w hr, fun cc => str_of_read (h2 w hr)⟩, h3⟩
theorem mid_at (A : Option Addr) (n c : Nat) (xs : List Int) (hl : xs.length = n) (hc : n ≤ c) (i j : Int) (h0 : 0 ≤ i) (h1 : 0 ≤ j) (h2 : i + j ≤ n) :
    ∃ (A' : Option Addr) (M c' : Nat), (∀ W : World, (Instr.slice 29 (.slice A n c) (some (.int .i64 i)) (some (.int .i64 (i + j))) none).run Try.prog W = .ok (.slice A' M c') W) ∧
      (∀ w, ReadsInt w .u8 A n xs → ReadsInt w .u8 A' M (seg xs i j) ∧ ∀ cc, (convert 29 9 (.slice A' M cc)).run Try.prog w = .ok (.string (strOfNums (seg xs i j))) w) ∧ M ≤ c' := by
  subst hl
  obtain ⟨i0, hi0, _, hsz, _⟩ := info_parts info_u8
  obtain ⟨A', h1, h2, h3⟩ := print_mid_int (P := Try.prog) (k := .u8) 29 5 Try.underlying29 hi0 hsz A c xs i (i + j) h0 (by omega) h2 hc
  exact ⟨A', _, _, h1, fun w hr => ⟨h2 w hr, fun cc => str_of_read (h2 w hr)⟩, h3⟩
end Go.Proofs.Ytojlcoebbgafhaa
