/- The walk of rel.block and rel.Parse. -/
import Derived.Test.YtojlcoebbgafhaaRel
namespace Go.Proofs.Ytojlcoebbgafhaa
open Go.RowKit
set_option linter.unusedVariables false
set_option linter.unusedSimpArgs false
open PR
open Go.Proofs.YtojlcoebbgafhaaW.PrintWords Go.Proofs.YtojlcoebbgafhaaW.PrintLast Go.Proofs.YtojlcoebbgafhaaW.PrintMore
def BlockPost (W0 : World) (B rd : Nat) (A : Option Addr) (n c tk : Nat) (r : Option (Int × List S46)) (e : Ending) (w' : World) : Prop :=
  e = .returned (.tuple #[.int .i64 ((r.map (·.1)).getD 0), .bool r.isSome]) ∧ Below B W0 w' ∧ ∀ o, r = some o → ∃ v', RdIs w' B rd A n c tk (tkL n o.2) o.2 v'
theorem rowV_drop (xs : List Int) (p : Int) (m j : Nat) (h : j < m) : (rowV xs p m).drop j = numV xs (p + 2 * (j : Int)) 2 :: (rowV xs p m).drop (j + 1) := by
  have hl : (rowV xs p m).length = m := by simp [rowV]
  rw [List.drop_eq_getElem_cons (by omega)]
  congr 1
  simp [rowV]
theorem rowV_end (xs : List Int) (p : Int) (m : Nat) : (rowV xs p m).drop m = [] := List.drop_eq_nil_of_le (by simp [rowV])
set_option maxHeartbeats 4000000 in
theorem block_calls (W0 : World) (B rd : Nat) (A : Option Addr) (n c tk : Nat) (xs : List Int) (out : List S46) (v : Value) (w : World) (hBW : W0.heap.size = B) (hn : n ≤ 140737488355328) (hc : n ≤ c) (hxs : xs.length = n) (hr : ReadsInt W0 .u8 A n xs) (hby : Bytes xs)
    (hS : RdIs w B rd A n c tk (tkL n out) out v) (ho : OutOk n out) (hb : Below B W0 w) (hrd : B ≤ rd) (p e : Int) (h0 : 0 ≤ p) (h1 : p ≤ n) (h2 : 0 ≤ e) (h3 : e ≤ n) :
    Calls Try.prog 42 #[.pointer (some ⟨rd, 0, none⟩), .int .i64 p, .int .i64 e] w (BlockPost W0 B rd A n c tk (blockP xs p e out)) := by
  have hx0 := (blk_cell hS.blk 0).trans rfl
  obtain ⟨page, hpage⟩ : ∃ q : Int, q = numV xs p 4 := ⟨_, rfl⟩
  obtain ⟨size, hsize⟩ : ∃ q : Int, q = numV xs (p + 4) 4 := ⟨_, rfl⟩
  have hp01 := numV_lt xs p 4 hby (by decide) 4 rfl
  have hs01 := numV_lt xs (p + 4) 4 hby (by decide) 4 rfl
  rw [← hpage] at hp01
  rw [← hsize] at hs01
  have hp01' : page < 4294967296 := hp01.2
  have hs01' : size < 4294967296 := hs01.2
  have hE : blockP xs p e out = if e - p < 8 then none else if formB page size (e - p) = true then (rowP n page (rowV xs (p + 8) ((size - 8) / 2).toNat) out).map (fun o => (size, o)) else none := by
    unfold blockP
    rw [← hpage, ← hsize, hxs]
  rw [hE]
  obtain ⟨r, hr0⟩ : ∃ r, (if e - p < 8 then none else if formB page size (e - p) = true then (rowP n page (rowV xs (p + 8) ((size - 8) / 2).toNat) out).map (fun o => (size, o)) else none) = r := ⟨_, rfl⟩
  rw [hr0]
  have HR := Aside0.mk hr0
  have HI := Aside0.mk hr
  have HY := Aside0.mk hby
  have HS := Aside0.mk hS
  have HB := Aside0.mk hb
  have HO := Aside0.mk ho
  have hU1 := fun w (hr : ReadsInt w .u8 A n xs) => U32_at A n c xs p w hr hc hby
  have hU2 := fun w (hr : ReadsInt w .u8 A n xs) => U32_at A n c xs (p + 4) w hr hc hby
  rw [← hpage] at hU1
  rw [← hsize] at hU2
  have HI1 := Aside0.mk (hr.below (by rw [hBW]; exact hb))
  have HBW := Aside0.mk hBW
  have HP := Aside0.mk hpage
  have HZ := Aside0.mk hsize
  clear hE hr0 hr hby hS hb ho hpage hsize hBW
  by_cases h8 : e - p < 8
  · have er : r = none := by rw [← HR.out, if_pos h8]
    have d : decide (e - p < 8) = true := decide_eq_true h8
    go_enter Try.func42, Try.ntmps42
    go_wp2
    go_ret2
    rw [er]
    exact ⟨rfl, HB.out, fun o e => by cases e⟩
  have d : decide (e - p < 8) = false := decide_eq_false h8
  have HR3 := Aside0.mk (show (if formB page size (e - p) = true then (rowP n page (rowV xs (p + 8) ((size - 8) / 2).toNat) out).map (fun o => (size, o)) else none) = r by rw [← HR.out, if_neg h8])
  clear HR
  go_enter Try.func42, Try.ntmps42
  go_wp2_with fail
  refine (hU1 _ HI1.out).mono ?_
  rintro e1 w1 ⟨rfl, rfl⟩
  go_wp2_with fail
  refine (hU2 _ HI1.out).mono ?_
  rintro e1 w1 ⟨rfl, rfl⟩
  have ht1 : page.tmod 4096 = page % 4096 := Int.tmod_eq_emod_of_nonneg hp01.1
  have ht2 : size.tmod 4 = size % 4 := Int.tmod_eq_emod_of_nonneg hs01.1
  by_cases hf : formB page size (e - p) = true
  · have hf' := of_decide_eq_true hf
    have c1 : (page % 4096 != 0) = false := bne_eq_false_iff_eq.2 hf'.1
    have c2 : decide (size < 8) = false := decide_eq_false (by omega)
    have c3 : (size % 4 != 0) = false := bne_eq_false_iff_eq.2 hf'.2.2.1
    have c4 : decide (e - p < size) = false := decide_eq_false (by omega)
    obtain ⟨m, hm⟩ : ∃ m : Nat, size = 8 + 2 * (m : Int) := ⟨((size - 8) / 2).toNat, by omega⟩
    have em : ((size - 8) / 2).toNat = m := by omega
    have HR1 : (rowP n page (rowV xs (p + 8) m) out).map (fun o => (size, o)) = r := by rw [← HR3.out, if_pos hf, em]
    have HR2 := Aside0.mk HR1
    have hm1 : p + 8 + 2 * (m : Int) ≤ n := by omega
    have HM := Aside0.mk hm
    have hsz : 0 ≤ size ∧ size ≤ n := by omega
    clear hf' hf HR3 em HR1 hm
    go_wp2
    go_loopw [12] (fun kv wr => ∃ (j : Nat) (k : Int) (o : List S46) (v' : Value), j ≤ m ∧ kv = .int .i64 k ∧ Aside0 (k = 8 + 2 * (j : Int)) ∧ Aside0 (RdIs wr B rd A n c tk (tkL n o) o v') ∧ Aside0 (OutOk n o) ∧ Aside0 (Below B W0 wr) ∧
      Aside0 ((rowP n page ((rowV xs (p + 8) m).drop j) o).map (fun o => (size, o)) = r)) (fun kv _ => (size - intOf kv).toNat)
    case atStart => exact ⟨0, 8, out, v, Nat.zero_le _, rfl, ⟨rfl⟩, HS, HO, HB, HR2⟩
    case round =>
    clear HS HO HB HR2 hx0
    obtain ⟨j, k, o, v', hj, rfl, HK, HS, HO, HB, HR2⟩ := hrel
    have hx0 := (blk_cell HS.out.blk 0).trans rfl
    have hk8 : 8 ≤ k := by have := HK.out; omega
    by_cases hlt : j < m
    · have hks : k + 2 ≤ size := by have := HK.out; have := HM.out; omega
      have hkd : decide (k < size) = true := decide_eq_true (by omega)
      have hpk : p + k ≤ n := by have := HM.out; omega
      have hdr := rowV_drop xs (p + 8) m j hlt
      rw [show p + 8 + 2 * (j : Int) = p + k by have := HK.out; omega] at hdr
      rw [hdr] at HR2
      obtain ⟨val, hval⟩ : ∃ q : Int, q = numV xs (p + k) 2 := ⟨_, rfl⟩
      have hv01 := numV_lt xs (p + k) 2 HY.out (by decide) 2 rfl
      have hU3 := fun w (hr : ReadsInt w .u8 A n xs) => U16_at A n c xs (p + k) w hr hc HY.out
      rw [← hval] at hv01 hU3 HR2
      have hv1 : val < 65536 := hv01.2
      have HV := Aside0.mk hval
      have HIr := Aside0.mk (HI.out.below (by rw [HBW.out]; exact HB.out))
      have hent := entry_calls W0 B rd A n c tk o v' wr hn HS.out HO.out HB.out (Nat.le_trans hrd (Nat.le_of_lt (blk_lt HS.out.blk))) hrd page val hp01.1 hp01' hv01.1 hv1
      obtain ⟨re, hre⟩ : ∃ re, entryP n o (val / 4096) (page + val % 4096) = re := ⟨_, rfl⟩
      have HR4 := Aside0.mk (show ((re).bind (rowP n page ((rowV xs (p + 8) m).drop (j + 1)))).map (fun o => (size, o)) = r by rw [← hre]; exact HR2.out)
      have HE1 := Aside0.mk (show ∀ o', re = some o' → OutOk n o' by intro o' h; exact entryP_ok HO.out (hre.trans h))
      rw [hre] at hent
      clear hdr hval HR2 hre
      cases re with
      | none =>
        go_wp2_with fail
        refine (hU3 _ HIr.out).mono ?_
        rintro e1 w1 ⟨rfl, rfl⟩
        clear hU3
        go_wp2_with fail
        refine hent.mono ?_
        rintro e1 w2 ⟨rfl, hb2, _⟩
        go_wp2
        go_ret2
        rw [← HR4.out]
        exact ⟨rfl, hb2, fun o e => by cases e⟩
      | some o' =>
        go_wp2_with fail
        refine (hU3 _ HIr.out).mono ?_
        rintro e1 w1 ⟨rfl, rfl⟩
        clear hU3
        go_wp2_with fail
        refine hent.mono ?_
        rintro e1 w2 ⟨rfl, hb2, hS2⟩
        obtain ⟨v2, hS2⟩ := hS2 o' rfl
        have HS2 := Aside0.mk hS2
        have HB2 := Aside0.mk hb2
        clear hS2 hb2
        go_wp2
        go_roundw
        case rel => exact ⟨j + 1, k + 2, o', v2, hlt, by go_num, ⟨by have := HK.out; omega⟩, HS2, ⟨HE1.out o' rfl⟩, HB2, HR4⟩
        case measure => simp [intOf]; omega
    · obtain rfl : j = m := by omega
      have hks : k = size := by have := HK.out; have := HM.out; omega
      subst hks
      rw [rowV_end] at HR2
      clear HK
      go_wp2
      go_ret2
      rw [← HR2.out]
      exact ⟨rfl, HB.out, fun o e => by obtain rfl := Option.some.inj e; exact ⟨_, HS.out⟩⟩
  · have er : r = none := by rw [← HR3.out, if_neg hf]
    have hf' : ¬ (page % 4096 = 0 ∧ 8 ≤ size ∧ size % 4 = 0 ∧ size ≤ e - p) := fun h => hf (decide_eq_true h)
    clear HR3 hf
    go_wp2
    all_goals first | (exfalso; omega) | (go_ret2; (try rw [er]); exact ⟨rfl, HB.out, fun o e => by cases e⟩)
end Go.Proofs.Ytojlcoebbgafhaa
