/- The walk of rel.Parse. -/
import Derived.Test.YtojlcoebbgafhaaRel2
namespace Go.Proofs.Ytojlcoebbgafhaa
open Go.RowKit
set_option linter.unusedVariables false
set_option linter.unusedSimpArgs false
open PR
open Go.Proofs.YtojlcoebbgafhaaW.PrintWords Go.Proofs.YtojlcoebbgafhaaW.PrintLast Go.Proofs.YtojlcoebbgafhaaW.PrintMore
def errOf (r : Option (List S46)) : Int := if r.isSome = true then 0 else 9
def ParsePost (B : Nat) (w : World) (r : Option (List S46)) (e : Ending) (w' : World) : Prop :=
  ∃ v, e = .returned (.tuple #[v, .int .i64 (errOf r)]) ∧ Kd.R k46 46 w' B (fun _ => True) v (r.getD []) ∧ Below B w w'
theorem RdIs.new (W : World) (B : Nat) (A : Option Addr) (n c : Nat) (hB : B ≤ W.heap.size) (hn : n ≤ 140737488355328) :
    RdIs ((W.alloc (.cells (madeCells #[.int .u8 0] n) 5)).alloc (.cells #[.slice A n c, .slice none 0 0, .slice (some ⟨W.heap.size, 0, none⟩) n n] 96)) B (W.heap.size + 1) A n c W.heap.size (tkL n []) [] (.slice none 0 0) := by
  refine ⟨?_, ?_, Kd.R_nil _ _ _ _ _⟩
  · have := blk_new (W.alloc (.cells (madeCells #[.int .u8 0] n) 5)) (.cells #[.slice A n c, .slice none 0 0, .slice (some ⟨W.heap.size, 0, none⟩) n n] 96)
    rw [World.size_alloc] at this
    exact this
  · refine Kd.R_alloc ?_ _
    rw [tkL_nil]
    have := own_made W B 5 .u8 n hB (by omega)
    exact Kd.R_of_own (h1 := fun _ => rfl) (enc := Value.int .u8) (xs := List.replicate n (0 : Int)) (by rw [List.length_replicate]; exact this) (fun _ _ => trivial)
set_option maxHeartbeats 4000000 in
theorem Parse_calls (A : Option Addr) (n c : Nat) (xs : List Int) (w : World) (hn : n ≤ 140737488355328) (hc : n ≤ c) (hr : ReadsInt w .u8 A n xs) (hby : Bytes xs) (rva size : Int) :
    Calls Try.prog 19 #[.slice A n c, .agg #[.int .i64 rva, .int .i64 size]] w (ParsePost w.heap.size w (parseP xs rva size)) := by
  have hxs : xs.length = n := hr.1
  have hu := Try.underlying32
  have hmk := print_make (P := Try.prog) 29 5 .u8 1 Try.underlying29 info_u8 (by decide) n (by omega)
  have hE : parseP xs rva size = if rva = 0 then some [] else if inR n rva size = true then blocksP xs (rva + size) size.toNat rva [] else none := by unfold parseP; rw [hxs]
  rw [hE]
  clear hE
  have HI := Aside0.mk hr
  have HY := Aside0.mk hby
  clear hr hby
  by_cases h0 : rva = 0
  · rw [if_pos h0]
    have d : (rva == 0) = true := beq_iff_eq.2 h0
    clear h0
    go_enter Try.func19, Try.ntmps19
    go_wp2
    go_ret2
    exact ⟨_, rfl, Kd.R_nil _ _ _ _ _, Below.alloc (Below.refl _ _) (Nat.le_refl _) _⟩
  rw [if_neg h0]
  have d : (rva == 0) = false := beq_eq_false_iff_ne.2 h0
  have hin := fun w => leIn_calls n rva size w (by omega)
  cases hi : inR n rva size with
  | false =>
    rw [if_neg (by decide)]
    rw [hi] at hin
    go_enter Try.func19, Try.ntmps19
    go_wp2_with fail
    refine (hin _).mono ?_
    rintro e w1 ⟨rfl, rfl⟩
    go_wp2
    go_ret2
    exact ⟨_, rfl, Kd.R_nil _ _ _ _ _, Below.alloc (Below.refl _ _) (Nat.le_refl _) _⟩
  | true =>
  rw [if_pos rfl]
  rw [hi] at hin
  have hi' := of_decide_eq_true hi
  have hrv0 : 0 ≤ rva := hi'.1
  have hsz0 : 0 ≤ size := hi'.2.1
  have hend : rva + size ≤ n := by omega
  have hrn : rva ≤ n := hi'.2.2.1
  obtain ⟨r, hr0⟩ : ∃ r, blocksP xs (rva + size) size.toNat rva [] = r := ⟨_, rfl⟩
  rw [hr0]
  have HR := Aside0.mk hr0
  obtain ⟨en, hen⟩ : ∃ en : Int, en = rva + size := ⟨_, rfl⟩
  rw [← hen] at HR hend
  have HEN := Aside0.mk hen
  have hwr : wrap64 (rva + size) = en := by rw [hen]; unfold wrap64; omega
  clear hr0 hi hi' hen
  go_enter Try.func19, Try.ntmps19
  go_wp2_with fail
  refine (hin _).mono ?_
  rintro e w1 ⟨rfl, rfl⟩
  clear hin
  go_wp2
  rw [hwr]
  have hnew := RdIs.new (w.alloc (.cells #[.int .i64 rva, .int .i64 size] 32)) w.heap.size A n c (by simp) hn
  rw [World.size_alloc] at hnew
  have hbl : Below w.heap.size w (((w.alloc (.cells #[.int .i64 rva, .int .i64 size] 32)).alloc (.cells (madeCells #[.int .u8 0] n) 5)).alloc (.cells #[.slice A n c, .slice none 0 0, .slice (some ⟨w.heap.size + 1, 0, none⟩) n n] 96)) :=
    Below.alloc (Below.alloc (Below.alloc (Below.refl _ _) (Nat.le_refl _) _) (by simp) _) (by simp; omega) _
  obtain ⟨w3, hw3⟩ : ∃ w3, (((w.alloc (.cells #[.int .i64 rva, .int .i64 size] 32)).alloc (.cells (madeCells #[.int .u8 0] n) 5)).alloc (.cells #[.slice A n c, .slice none 0 0, .slice (some ⟨w.heap.size + 1, 0, none⟩) n n] 96)) = w3 := ⟨_, rfl⟩
  rw [hw3] at hnew hbl ⊢
  have HS := Aside0.mk hnew
  have HB := Aside0.mk hbl
  have HO := Aside0.mk (OutOk.nil n)
  obtain ⟨B, hB⟩ : ∃ B, w.heap.size = B := ⟨_, rfl⟩
  have hB' := Aside0.mk hB
  rw [hB] at HS HB ⊢
  obtain ⟨rd, hrd⟩ : ∃ rd, B + 1 + 1 = rd := ⟨_, rfl⟩
  rw [hrd] at HS ⊢
  obtain ⟨tk, htk⟩ : ∃ tk, B + 1 = tk := ⟨_, rfl⟩
  rw [htk] at HS ⊢
  have hrdB : B ≤ rd := by omega
  have hen0 : rva ≤ en := by have := HEN.out; omega
  have hfu : en - rva ≤ (size.toNat : Int) := by have := HEN.out; omega
  clear hnew hbl hw3 hB hmk hwr hrd htk hu
  go_loopw [8] (fun kv wr => ∃ (p : Int) (o : List S46) (v' : Value) (f : Nat), kv = .int .i64 p ∧ 0 ≤ p ∧ p ≤ en ∧ en - p ≤ (f : Int) ∧ Aside0 (RdIs wr B rd A n c tk (tkL n o) o v') ∧ Aside0 (OutOk n o) ∧ Aside0 (Below B w wr) ∧ Aside0 (blocksP xs en f p o = r)) (fun kv _ => (en - intOf kv).toNat)
  case atStart => exact ⟨rva, [], _, size.toNat, rfl, hrv0, hen0, hfu, HS, HO, HB, HR⟩
  case round =>
  clear HS HO HB HR hrv0 hen0 hfu hrn
  obtain ⟨p, o, v', f, rfl, hp0, hpe, hf, HS, HO, HB, HR⟩ := hrel
  by_cases hlt : p < en
  · have hd : decide (p < en) = true := decide_eq_true hlt
    obtain ⟨f', rfl⟩ : ∃ f', f = f' + 1 := ⟨f - 1, by omega⟩
    obtain ⟨rb, hrb⟩ : ∃ rb, blockP xs p en o = rb := ⟨_, rfl⟩
    have HR2 := Aside0.mk (show (rb.bind fun r => blocksP xs en f' (p + r.1) r.2) = r by rw [← hrb, ← HR.out]; exact (if_pos hlt).symm)
    have hblk := block_calls w B rd A n c tk xs o v' wr hB'.out hn hc hxs HI.out HY.out HS.out HO.out HB.out hrdB p en hp0 (by omega) (by omega) hend
    have HE := Aside0.mk (show ∀ q, rb = some q → OutOk n q.2 ∧ 8 ≤ q.1 ∧ q.1 ≤ en - p by intro q h; have := blockP_ok (xs := xs) (by rw [hxs]; exact HO.out) (hrb.trans h); rw [hxs] at this; exact this)
    rw [hrb] at hblk
    clear HR hrb
    cases rb with
    | none =>
      have hblk2 : Calls Try.prog 42 #[.pointer (some ⟨rd, 0, none⟩), .int .i64 p, .int .i64 en] wr fun e w' => e = .returned (.tuple #[.int .i64 0, .bool false]) ∧ Below B w w' := hblk.mono fun _ _ h => ⟨h.1, h.2.1⟩
      clear hblk
      go_wp2_with fail
      refine hblk2.mono ?_
      rintro e1 w4 ⟨rfl, hb4⟩
      go_wp2
      go_ret2
      rw [← HR2.out]
      exact ⟨_, rfl, Kd.R_nil _ _ _ _ _, hb4⟩
    | some q =>
      obtain ⟨s, o'⟩ := q
      obtain ⟨hq1, hq2, hq3⟩ := HE.out _ rfl
      have HO' := Aside0.mk hq1
      have hq2' : 8 ≤ s := hq2
      have hq3' : s ≤ en - p := hq3
      have hblk2 : Calls Try.prog 42 #[.pointer (some ⟨rd, 0, none⟩), .int .i64 p, .int .i64 en] wr fun e w' => e = .returned (.tuple #[.int .i64 s, .bool true]) ∧ Below B w w' ∧ ∃ v4, RdIs w' B rd A n c tk (tkL n o') o' v4 := hblk.mono fun _ _ h => ⟨h.1, h.2.1, h.2.2 _ rfl⟩
      clear hblk
      go_wp2_with fail
      refine hblk2.mono ?_
      rintro e1 w4 ⟨rfl, hb4, v4, hS4⟩
      have HS4 := Aside0.mk hS4
      have HB4 := Aside0.mk hb4
      clear hb4 hS4 hq1 hq2 hq3 hblk2
      go_wp2
      go_roundw
      case rel => exact ⟨p + s, o', v4, f', by go_num, by omega, by omega, by omega, HS4, HO', HB4, HR2⟩
      case measure => simp [intOf]; omega
  · obtain rfl : p = en := by omega
    have er : r = some o := by
      rw [← HR.out]
      cases f with
      | zero => rfl
      | succ f => exact if_neg (by omega)
    have hx1 := (blk_cell HS.out.blk 1).trans rfl
    go_wp2
    go_ret2
    (try rw [er])
    have e9 := hB'.out
    subst e9
    exact ⟨_, rfl, HS.out.row, HB.out⟩
end Go.Proofs.Ytojlcoebbgafhaa
