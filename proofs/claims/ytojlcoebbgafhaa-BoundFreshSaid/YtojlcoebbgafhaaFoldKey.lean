/- The walk of fold.Key. -/
import Derived.Test.YtojlcoebbgafhaaBRow
import Derived.Test.YtojlcoebbgafhaaLeAll
import Derived.Test.YtojlcoebbgafhaaShelf
import Derived.Outline
namespace Go.Proofs.Ytojlcoebbgafhaa
open Go.RowKit
set_option linter.unusedVariables false
set_option linter.unusedSimpArgs false
open Go.Proofs.YtojlcoebbgafhaaW.PrintWords Go.Proofs.YtojlcoebbgafhaaW.PrintLast Go.Proofs.YtojlcoebbgafhaaW.PrintMore
def lowC (c : Int) : Int := if 65 ≤ c ∧ c ≤ 90 then c + 32 else c
def keyP (xs : List Int) : List Int := xs.map lowC ++ (if 46 ∈ xs then [] else [46, 100, 108, 108])
def lowTo (xs : List Int) (k : Nat) : List Int := (xs.take k).map lowC ++ xs.drop k
theorem lowTo_len (xs : List Int) (k : Nat) : (lowTo xs k).length = xs.length := by
  unfold lowTo; rw [List.length_append, List.length_map, List.length_take, List.length_drop]; omega
theorem lowTo_get (xs : List Int) (k : Nat) (h : k < xs.length) : (lowTo xs k).getD k 0 = xs.getD k 0 := by
  unfold lowTo
  rw [List.getD_eq_getElem?_getD, List.getElem?_append_right (by rw [List.length_map, List.length_take]; omega), List.length_map, List.length_take, Nat.min_eq_left (by omega), Nat.sub_self, List.getElem?_drop, Nat.add_zero, ← List.getD_eq_getElem?_getD]
theorem lowTo_set (xs : List Int) (k : Nat) (h : k < xs.length) : (lowTo xs k).set k (lowC (xs.getD k 0)) = lowTo xs (k + 1) := by
  have hd : xs.drop k = xs[k] :: xs.drop (k + 1) := List.drop_eq_getElem_cons h
  have hg : xs.getD k 0 = xs[k] := by rw [List.getD_eq_getElem?_getD, List.getElem?_eq_getElem h]; rfl
  have hl : ((xs.take k).map lowC).length = k := by rw [List.length_map, List.length_take]; omega
  unfold lowTo
  rw [List.take_succ_eq_append_getElem h, List.map_append, hg, List.set_append_right _ _ (by omega), hl, Nat.sub_self, hd, List.set_cons_zero]
  simp
theorem lowTo_same (xs : List Int) (k : Nat) (h : k < xs.length) (hn : lowC (xs.getD k 0) = xs.getD k 0) : lowTo xs k = lowTo xs (k + 1) := by
  rw [← lowTo_set xs k h, hn, ← lowTo_get xs k h]
  refine List.ext_getElem (by rw [List.length_set]) (fun i h1 h2 => ?_)
  rw [List.getElem_set]
  split
  · rename_i e; subst e; rw [List.getD_eq_getElem?_getD, List.getElem?_eq_getElem h1]; rfl
  · rfl
theorem lowTo_end (xs : List Int) : lowTo xs xs.length = xs.map lowC := by
  unfold lowTo; rw [List.take_length, List.drop_length, List.append_nil]
theorem index_dot : ∀ l : List UInt8, -1 ≤ Lib.indexByte l 46 ∧ (Lib.indexByte l 46 = -1 ↔ ¬ (46 : Int) ∈ l.map fun b => (b.toNat : Int)) := by
  intro l
  induction l with
  | nil => simp [Lib.indexByte]
  | cons x l ih =>
    have e : (x == 46) = decide ((x.toNat : Int) = 46) := by
      rw [Bool.eq_iff_iff, beq_iff_eq, decide_eq_true_eq]
      constructor
      · rintro rfl; rfl
      · intro h
        have : x.toNat = (46 : UInt8).toNat := by have : (46 : UInt8).toNat = 46 := rfl; omega
        exact UInt8.toNat_inj.1 this
    simp only [Lib.indexByte, e, decide_eq_true_eq, beq_iff_eq, List.map_cons, List.mem_cons]
    by_cases h : (x.toNat : Int) = 46
    · rw [if_pos h]
      exact ⟨by decide, by constructor; (intro h9; cases h9); (intro h9; exact absurd (.inl h.symm) h9)⟩
    · rw [if_neg h]
      by_cases h2 : Lib.indexByte l 46 = -1
      · rw [if_pos h2]
        exact ⟨by decide, fun _ hm => hm.elim (fun he => h he.symm) (ih.2.1 h2), fun _ => rfl⟩
      · rw [if_neg h2]
        have h3 : (46 : Int) ∈ l.map fun b => (b.toNat : Int) := Classical.byContradiction fun hm => h2 (ih.2.2 hm)
        refine ⟨by omega, ?_⟩
        constructor
        · intro h9; omega
        · intro h9; exact absurd (.inr h3) h9
theorem dot_in (s : ByteArray) : -1 ≤ Lib.indexByte s.data.toList 46 ∧ (Lib.indexByte s.data.toList 46 = -1 ↔ ¬ (46 : Int) ∈ bytesOf s) := index_dot s.data.toList
def KeyPost (w : World) (s : ByteArray) (e : Ending) (w' : World) : Prop := e = .returned (.string (strOfNums (keyP (bytesOf s)))) ∧ Below w.heap.size w w'
set_option maxHeartbeats 4000000 in
set_option maxRecDepth 20000 in
theorem Key_calls (s : ByteArray) (w : World) (hs : s.size ≤ 140737488351232) :
    Calls Try.prog 68 #[.string s] w (KeyPost w s) := by
  have hsl := bytesOf_length s
  have hby := bytesOf_bytes s
  have kb := fun W => print_bytes (P := Try.prog) 9 29 5 Try.underlying9 Try.underlying29 Try.underlying5 s W
  have hconv := BRow.of_conv w 5 s w.heap.size (Nat.le_refl _) (by unfold maxLen; omega)
  have hbel := bytes_below (Below.refl w.heap.size w) (Nat.le_refl _) 5 s
  have hdot := dot_in s
  obtain ⟨xs, hxs⟩ : ∃ xs, bytesOf s = xs := ⟨_, rfl⟩
  obtain ⟨n, hn⟩ : ∃ n, s.size = n := ⟨_, rfl⟩
  rw [hxs] at hconv hsl hdot hby
  rw [hn] at hconv hsl hs
  have HX := Aside0.mk hxs
  go_enter Try.func68, Try.ntmps68
  go_wp2
  obtain ⟨cap, hcap⟩ : ∃ cap, grownCap w n 0 5 = cap := ⟨_, rfl⟩
  obtain ⟨W, hW⟩ : ∃ W, Lib.bytesWorld w 5 s = W := ⟨_, rfl⟩
  rw [hW] at hconv hbel ⊢
  rw [hcap] at hconv ⊢
  obtain ⟨B, hB⟩ : ∃ B, w.heap.size = B := ⟨_, rfl⟩
  rw [hB] at hconv hbel ⊢
  have hBW : B ≤ W.heap.size := by have := hbel.size; omega
  have hn0 := hn
  have HN := Aside0.mk hn
  have HBB := Aside0.mk hB
  have HC := Aside0.mk (show BRow W B (.slice (some ⟨B, 0, none⟩) n cap) (lowTo xs 0) by unfold lowTo; rw [List.take_zero, List.drop_zero]; exact hconv)
  have HBL := Aside0.mk hbel
  have HY := Aside0.mk hby
  have HD := Aside0.mk hdot
  clear hconv hbel hby hdot hcap hW hB hn hn0 kb hxs
  go_loopw [10] (fun i wr => ∃ k : Nat, k ≤ n ∧ i = .int .i64 k ∧ Aside0 (BRow wr B (.slice (some ⟨B, 0, none⟩) n cap) (lowTo xs k)) ∧ Aside0 (Below B w wr) ∧ B ≤ wr.heap.size) (fun i _ => n - (intOf i).toNat)
  case atStart => exact ⟨0, Nat.zero_le _, rfl, HC, HBL, hBW⟩
  case round =>
  clear HC HBL hBW
  obtain ⟨k, hk, rfl, HC, HBL, hBW⟩ := hrel
  by_cases hlt : k < n
  · obtain ⟨hset, hfr, hcell⟩ := HC.out.set k hlt (lowC (xs.getD k 0))
    rw [lowTo_get xs k (by omega)] at hcell
    rw [lowTo_set xs k (by omega)] at hset
    have hx := HY.out.get k
    have hsame := lowTo_same xs k (by omega)
    obtain ⟨c, hc⟩ : ∃ c, xs.getD k 0 = c := ⟨_, rfl⟩
    rw [hc] at hset hcell hx hsame
    have hx0 := hx.1
    have hx1 := hx.2
    by_cases hup : 65 ≤ c ∧ c ≤ 90
    · have hl : lowC c = c + 32 := if_pos hup
      have d1 : decide (65 ≤ c) = true := decide_eq_true hup.1
      have d2 : decide (c ≤ 90) = true := decide_eq_true hup.2
      have h90 : c ≤ 90 := hup.2
      rw [hl] at hset
      have HS := Aside0.mk hset
      clear hset hsame hl hup hx hc HC
      go_wp2
      go_roundw
      case rel => exact ⟨k + 1, by omega, by go_num, HS, ⟨Below.setCell HBL.out (Nat.le_refl _) _⟩, by rw [setCell_size]; exact hBW⟩
      case measure => simp [intOf]; omega
    · have hl : lowC c = c := if_neg hup
      have HS := Aside0.mk (show BRow wr B (.slice (some ⟨B, 0, none⟩) n cap) (lowTo xs (k + 1)) by rw [← hsame hl]; exact HC.out)
      by_cases h65 : 65 ≤ c
      · have d1 : decide (65 ≤ c) = true := decide_eq_true h65
        have d2 : decide (c ≤ 90) = false := decide_eq_false (by omega)
        clear hset hsame hl hup hx hc HC
        go_wp2
        go_roundw
        case rel => exact ⟨k + 1, by omega, by go_num, HS, HBL, hBW⟩
        case measure => simp [intOf]; omega
      · have d1 : decide (65 ≤ c) = false := decide_eq_false h65
        clear hset hsame hl hup hx hc HC
        go_wp2
        go_roundw
        case rel => exact ⟨k + 1, by omega, by go_num, HS, HBL, hBW⟩
        case measure => simp [intOf]; omega
  obtain rfl : k = n := by omega
  have hend : lowTo xs k = xs.map lowC := by rw [← hsl]; exact lowTo_end xs
  rw [hend] at HC
  have hlen : (xs.map lowC).length = k := by rw [List.length_map]; exact hsl
  obtain ⟨hd0, hd1⟩ := HD.out
  obtain ⟨d, hd⟩ : ∃ d, Lib.indexByte s.data.toList 46 = d := ⟨_, rfl⟩
  rw [hd] at hd0 hd1
  have hidx := Try.strings_IndexByte s 46
  have hcast : (46 : Int).toNat.toUInt8 = (46 : UInt8) := rfl
  rw [hcast, hd] at hidx
  clear hcast hend hd
  by_cases hin : (46 : Int) ∈ xs
  · have hdn : ¬ d < 0 := by have : ¬ d = -1 := fun h => hd1.1 h hin; omega
    have dd : decide (d < 0) = false := decide_eq_false hdn
    have hkey : keyP (bytesOf s) = xs.map lowC := by rw [HX.out]; unfold keyP; rw [if_pos hin, List.append_nil]
    have hstr := str_of_read (c := cap) HC.out.reads.1
    clear hd1 hdn
    go_wp2_with fail
    refine (hidx _).mono ?_
    rintro e w2 ⟨rfl, rfl⟩
    go_wp2
    go_ret
    rw [← hkey]
    have hB := HBB.out
    subst hB
    exact ⟨rfl, HBL.out⟩
  · have hdn : d = -1 := hd1.2 hin
    have dd : decide (d < 0) = true := decide_eq_true (by omega)
    have hkey : keyP (bytesOf s) = xs.map lowC ++ [46, 100, 108, 108] := by rw [HX.out]; unfold keyP; rw [if_neg hin]
    clear hd1 hdn
    go_wp2_with fail
    refine (hidx _).mono ?_
    rintro e w2 ⟨rfl, rfl⟩
    go_wp2_with (first | (at_builtin; refine wpList_bappend_str (w0 := w) B rfl (.tmp 30) _ 29 9 5 rfl Try.underlying29 Try.underlying9 info_u8 (.slice (some ⟨B, 0, none⟩) k cap) (xs.map lowC) ⟨#[46, 100, 108, 108]⟩ rfl rfl HC.out HBL.out hBW ?aL ?_; (case aL => rw [hlen]; show k + 4 ≤ _; omega); intro v1 w1 hrow hb1))
    have hb4 : bytesOf ⟨#[46, 100, 108, 108]⟩ = [46, 100, 108, 108] := rfl
    rw [hb4] at hrow
    obtain ⟨A5, c5, hv5, _⟩ := hrow.slice
    obtain ⟨m, hm⟩ : ∃ m, (xs.map lowC ++ [46, 100, 108, 108]).length = m := ⟨_, rfl⟩
    rw [hm] at hv5
    subst hv5
    have hstr := str_of_read (c := c5) hrow.reads.1
    clear hm
    have HB1 := Aside0.mk hb1
    clear hrow hb1 hb4
    go_wp2
    rw [hstr]
    go_wp2
    go_ret
    rw [← hkey]
    have hB := HBB.out
    subst hB
    exact ⟨rfl, HB1.out⟩
end Go.Proofs.Ytojlcoebbgafhaa
