/- The walk of rel.Apply. -/
import Derived.Test.YtojlcoebbgafhaaRelS
namespace Go.Proofs.Ytojlcoebbgafhaa
open Go.RowKit
set_option linter.unusedVariables false
set_option linter.unusedSimpArgs false
open PR
open Go.Proofs.YtojlcoebbgafhaaW.PrintWords Go.Proofs.YtojlcoebbgafhaaW.PrintLast Go.Proofs.YtojlcoebbgafhaaW.PrintMore
def apply1 (xs : List Int) (s : S61) (d : Int) : List Int := if inR xs.length s.f0 s.f1 = true then putV xs s.f0 s.f1 ((numV xs s.f0 s.f1 + d) % 18446744073709551616) else xs
def applyP (xs : List Int) (ss : List S61) (d : Int) : List Int := ss.foldl (fun ys s => apply1 ys s d) xs
theorem apply1_len (xs : List Int) (s : S61) (d : Int) : (apply1 xs s d).length = xs.length := by
  unfold apply1; split
  · exact putV_len _ _ _ _
  · rfl
theorem apply1_bytes {xs : List Int} (h : Bytes xs) (s : S61) (d : Int) : Bytes (apply1 xs s d) := by
  unfold apply1; split
  · exact putV_bytes _ _ _ _ h
  · exact h
theorem applyP_len (ss : List S61) (d : Int) : ∀ xs : List Int, (applyP xs ss d).length = xs.length := by
  induction ss with
  | nil => intro xs; rfl
  | cons s ss ih => intro xs; show (applyP (apply1 xs s d) ss d).length = _; rw [ih, apply1_len]
theorem applyP_bytes (ss : List S61) (d : Int) : ∀ xs : List Int, Bytes xs → Bytes (applyP xs ss d) := by
  induction ss with
  | nil => intro xs h; exact h
  | cons s ss ih => intro xs h; exact ih _ (apply1_bytes h s d)
theorem applyP_take (xs : List Int) (ss : List S61) (d : Int) (k : Nat) (h : k < ss.length) : applyP xs (ss.take (k + 1)) d = apply1 (applyP xs (ss.take k) d) ss[k] d := by
  unfold applyP
  rw [List.take_succ_eq_append_getElem h, List.foldl_append]
  rfl
set_option maxHeartbeats 4000000 in
set_option maxRecDepth 20000 in
theorem Apply_calls (A : Option Addr) (n c : Nat) (xs : List Int) (A1 : Option Addr) (c1 : Nat) (l : List S46) (d : Int) (w : World) (hn : n ≤ 140737488355328) (hc : n ≤ c) (hr : ReadsInt w .u8 A n xs) (hby : Bytes xs)
    (hr1 : Kd.C k46 w A1 l.length l) (hc1 : l.length ≤ c1) (hl : l.length ≤ 4398046511104) (hd0 : 0 ≤ d) (hd1 : d < 18446744073709551616) :
    Calls Try.prog 26 #[.slice A n c, .slice A1 l.length c1, .int .u64 d] w (ClonePost w.heap.size n (applyP xs (sitesP l) d) w) := by
  have hxs : xs.length = n := hr.1
  have hcl := Clone_calls A n c xs w hn hr
  clear hr
  obtain ⟨B, hB⟩ : ∃ B, w.heap.size = B := ⟨_, rfl⟩
  rw [hB] at hcl ⊢
  obtain ⟨r, hr⟩ : ∃ r, applyP xs (sitesP l) d = r := ⟨_, rfl⟩
  rw [hr]
  have HR := Aside0.mk (show applyP xs ((sitesP l).drop 0) d = r from hr)
  clear hr
  have HR1 := Aside0.mk hr1
  have HC1 := Aside0.mk hc1
  have HXS := Aside0.mk hxs
  have HBY := Aside0.mk hby
  clear hr1 hc1 hxs hby
  go_enter Try.func26, Try.ntmps26
  go_wp2_with fail
  refine hcl.mono ?_
  rintro e w1 ⟨v, rfl, HO, HB⟩
  have hxn : (nums .u8 xs).length = n := by rw [nums_length]; exact HXS.out
  have HO := Aside0.mk (show Kd.R (Kd.int .u8) 5 w1 B (fun _ => True) v xs from Kd.R_of_own (h1 := fun _ => rfl) (by rw [HXS.out]; exact HO) (fun _ _ => trivial))
  have hB1 : B ≤ w1.heap.size := by have := HB.size; omega
  have HB := Aside0.mk HB
  have HR2 := Aside0.mk (Kd.C_below HR1.out (show Below w.heap.size w w1 by rw [hB]; exact HB.out))
  clear hcl HR1
  go_wp2_with fail
  refine (Sites_at A1 c1 l _ HR2.out HC1.out hl).mono ?_
  rintro e w2 ⟨sv, rfl, HS, hb2⟩
  obtain ⟨B1, hB2⟩ : ∃ B1, w1.heap.size = B1 := ⟨_, rfl⟩
  rw [hB2] at HS hb2 hB1
  obtain ⟨ss, hss⟩ : ∃ ss, sitesP l = ss := ⟨_, rfl⟩
  have hsl : ss.length ≤ 4398046511104 := by rw [← hss]; exact Nat.le_trans (sitesP_len l) hl
  have HIN := Aside0.mk (show ∀ x ∈ ss, x.f1 = 4 ∨ x.f1 = 8 by rw [← hss]; intro x hx; obtain ⟨_, _, _, _, h⟩ := sitesP_in l x hx; exact h)
  rw [hss] at HS HR
  obtain ⟨Av, cv, rfl⟩ := Kd.R_slice HS
  have HS := Aside0.mk (Kd.R_mono (Kd.R_bound HS) (ok' := fun k => B1 ≤ k) (fun k hk => hk.2.1))
  have HO2 := Aside0.mk (Kd.R_below HO.out (by rw [hB2]; exact hb2))
  have HB2 := Aside0.mk (HB.out.trans (hb2.mono hB1))
  have hB12 : B1 ≤ w2.heap.size := by have := hb2.size; omega
  clear hb2 HO HB HR2 HC1 hss hB hl
  go_wp2
  have hsz0 := Aside0.mk (show xs.length = n from HXS.out)
  obtain ⟨A2, c2, hv⟩ := Kd.R_slice HO2.out
  rw [HXS.out] at hv
  subst hv
  clear HXS hxn
  go_loopw [19] (fun i wr => ∃ (k : Nat) (ys : List Int), k ≤ ss.length ∧ i = .int .i64 k ∧ Aside0 (ys.length = n) ∧ Aside0 (Bytes ys) ∧ Aside0 (applyP ys (ss.drop k) d = r) ∧ Aside0 (Kd.R (Kd.int .u8) 5 wr B (fun _ => True) (.slice A2 n c2) ys) ∧ Aside0 (Kd.R k61 61 wr B1 (fun k => B1 ≤ k) (.slice Av ss.length cv) ss) ∧ Aside0 (Below B w wr) ∧ B1 ≤ wr.heap.size) (fun i _ => ss.length - (intOf i).toNat)
  case atStart => exact ⟨0, xs, Nat.zero_le _, rfl, hsz0, HBY, HR, HO2, HS, HB2, hB12⟩
  case round =>
  clear HBY HR HO2 HS HB2 hB12 hsz0
  obtain ⟨k, ys, hk, rfl, HL, HY, HR, HO, HS, HB, hB12⟩ := hrel
  by_cases hlt : k < ss.length
  · obtain ⟨ad, rfl, hc0, hc1⟩ := at_T61 (Kd.R_reads' HS.out).2.2 (k : Int) (by omega) (by omega)
    rw [Int.toNat_natCast] at hc0 hc1
    have hsk : rd_T61 ss (k : Int) = ss[k] := by
      unfold rd_T61
      rw [Int.toNat_natCast, List.getD_eq_getElem?_getD, List.getElem?_eq_getElem hlt]; rfl
    obtain ⟨s, hs⟩ : ∃ s, ss[k] = s := ⟨_, rfl⟩
    rw [hsk, hs] at hc0 hc1
    have hf1 : s.f1 = 4 ∨ s.f1 = 8 := HIN.out s (by rw [← hs]; exact List.getElem_mem hlt)
    have hd : ss.drop k = s :: ss.drop (k + 1) := by rw [← hs]; exact List.drop_eq_getElem_cons hlt
    have HR' := Aside0.mk (show applyP (apply1 ys s d) (ss.drop (k + 1)) d = r by have := HR.out; rw [hd] at this; exact this)
    have hin := fun w => leIn_calls n s.f0 s.f1 w (by omega)
    clear HR hd hsk hs
    obtain ⟨p, q⟩ := s
    dsimp only at hc0 hc1 hf1 hin HR'
    cases hi : inR n p q with
    | false =>
      rw [hi] at hin
      have HR2 := Aside0.mk (show applyP ys (ss.drop (k + 1)) d = r by have := HR'.out; unfold apply1 at this; rw [HL.out, if_neg (by rw [hi]; decide)] at this; exact this)
      clear HR' hi hf1
      go_wp2_with fail
      refine (hin _).mono ?_
      rintro e w3 ⟨rfl, rfl⟩
      clear hin
      go_wp2
      go_roundw
      case rel => exact ⟨k + 1, ys, by omega, by go_num, HL, HY, HR2, ⟨Kd.R_alloc HO.out _⟩, ⟨Kd.R_alloc HS.out _⟩, ⟨Below.alloc HB.out (Nat.le_trans hB1 hB12) _⟩, by simp; omega⟩
      case measure => simp [intOf]; omega
    | true =>
    have hi' := of_decide_eq_true hi
    rw [hi] at hin
    obtain ⟨g, rfl⟩ : ∃ g, A2 = some ⟨g, 0, none⟩ := by
      rcases (Kd.own_of_R HO.out).2 with ⟨_, h0⟩ | ⟨g, cap, cur, hv, _⟩
      · rw [HL.out] at h0; omega
      · injection hv with h1; exact ⟨g, h1⟩
    rcases hf1 with rfl | rfl
    · skip
      have hput := fun w => Put_at B g c2 n ys HL.out p 4 ((numV ys p 4 + d) % 18446744073709551616) w
      have hrd := fun w => U32_at (some ⟨g, 0, none⟩) n c2 ys p w
      have hbk := numV_lt ys p 4 HY.out (by decide) 4 rfl
      have hw : IntKind.u64.wrap (numV ys p 4 + d) = (numV ys p 4 + d) % 18446744073709551616 := by rw [IntKind.wrap_u64]
      obtain ⟨x, hx⟩ : ∃ x, numV ys p 4 = x := ⟨_, rfl⟩
      rw [hx] at hw hbk hput hrd
      have hx0 : 0 ≤ x := hbk.1
      have hx1 : x < 256 ^ 4 := hbk.2
      obtain ⟨z, hz⟩ : ∃ z, (x + d) % 18446744073709551616 = z := ⟨_, rfl⟩
      rw [hz] at hw hput
      have hz0 : 0 ≤ z := by omega
      have hz1 : z < 18446744073709551616 := by omega
      have ha1 : apply1 ys ⟨p, 4⟩ d = putV ys p 4 z := by unfold apply1; rw [HL.out, if_pos (by exact hi)]; dsimp only; rw [hx, hz]
      rw [ha1] at HR'
      have hlen := putV_len ys p 4 z
      rw [HL.out] at hlen
      have HL' := Aside0.mk hlen
      have HY' := Aside0.mk (putV_bytes ys p 4 z HY.out)
      have HR2 := Aside0.mk HR'.out
      clear HR' ha1 hi hbk hlen hx hz
      go_wp2_with fail
      refine (hin _).mono ?_
      rintro e w3 ⟨rfl, rfl⟩
      have HO3 := Aside0.mk (Kd.R_alloc HO.out (.cells #[.int .i64 p, .int .i64 4] 61))
      have HS3 := Aside0.mk (Kd.R_alloc HS.out (.cells #[.int .i64 p, .int .i64 4] 61))
      have HB3 := Aside0.mk (Below.alloc HB.out (Nat.le_trans hB1 hB12) (.cells #[.int .i64 p, .int .i64 4] 61))
      have HW3 := Aside0.mk (show (wr.alloc (.cells #[.int .i64 p, .int .i64 4] 61)).ownsRow B 5 1 (.slice (some ⟨g, 0, none⟩) n c2) n (nums .u8 ys) by have := Kd.own_of_R HO3.out; rw [HL.out] at this; exact this)
      obtain ⟨hr3, hc3, _⟩ := reads_u8 HO3.out
      have HR3 := Aside0.mk hr3
      have hty := Kd.R_typed HO3.out
      have HT := Aside0.mk hty
      have hgB : B ≤ g := Kd.R_base HO3.out g rfl
      have hgB1 := Kd.R_base HO.out g rfl
      clear hin HO HS HB hr3 hty HO3
      go_wp2_with fail
      refine (hrd _ HR3.out hc3 HY.out).mono ?_
      rintro e w4 ⟨rfl, rfl⟩
      clear hrd HR3
      go_wp2_with fail
      refine (hput _ HW3.out hz0 hz1).mono ?_
      rintro e w4 ⟨rfl, hown4, hg4⟩
      have HO4 := Aside0.mk (show Kd.R (Kd.int .u8) 5 w4 B (fun _ => True) (.slice (some ⟨g, 0, none⟩) n c2) (putV ys p 4 z) from Kd.R_of_own (h1 := fun _ => rfl) (by rw [HL'.out]; exact hown4) (fun _ _ => trivial))
      have HS4 := Aside0.mk (Kd.R_over' HS3.out HT.out (by decide) hg4)
      have HB4 := Aside0.mk (below_grown HB3.out hg4 (by simp; omega) (fun k hk => by injection hk with hk; omega))
      have hB14 : B1 ≤ w4.heap.size := by have := hg4.size; simp at this; omega
      clear hput HW3 hown4 hg4 HS3 HB3 HT
      go_wp2
      go_roundw
      case rel => exact ⟨k + 1, _, by omega, by go_num, HL', HY', HR2, HO4, HS4, HB4, hB14⟩
      case measure => simp [intOf]; omega
    · skip
      have hput := fun w => Put_at B g c2 n ys HL.out p 8 ((numV ys p 8 + d) % 18446744073709551616) w
      have hrd := fun w => U64_at (some ⟨g, 0, none⟩) n c2 ys p w
      have hbk := numV_lt ys p 8 HY.out (by decide) 8 rfl
      have hw : IntKind.u64.wrap (numV ys p 8 + d) = (numV ys p 8 + d) % 18446744073709551616 := by rw [IntKind.wrap_u64]
      obtain ⟨x, hx⟩ : ∃ x, numV ys p 8 = x := ⟨_, rfl⟩
      rw [hx] at hw hbk hput hrd
      have hx0 : 0 ≤ x := hbk.1
      have hx1 : x < 256 ^ 8 := hbk.2
      obtain ⟨z, hz⟩ : ∃ z, (x + d) % 18446744073709551616 = z := ⟨_, rfl⟩
      rw [hz] at hw hput
      have hz0 : 0 ≤ z := by omega
      have hz1 : z < 18446744073709551616 := by omega
      have ha1 : apply1 ys ⟨p, 8⟩ d = putV ys p 8 z := by unfold apply1; rw [HL.out, if_pos (by exact hi)]; dsimp only; rw [hx, hz]
      rw [ha1] at HR'
      have hlen := putV_len ys p 8 z
      rw [HL.out] at hlen
      have HL' := Aside0.mk hlen
      have HY' := Aside0.mk (putV_bytes ys p 8 z HY.out)
      have HR2 := Aside0.mk HR'.out
      clear HR' ha1 hi hbk hlen hx hz
      go_wp2_with fail
      refine (hin _).mono ?_
      rintro e w3 ⟨rfl, rfl⟩
      have HO3 := Aside0.mk (Kd.R_alloc HO.out (.cells #[.int .i64 p, .int .i64 8] 61))
      have HS3 := Aside0.mk (Kd.R_alloc HS.out (.cells #[.int .i64 p, .int .i64 8] 61))
      have HB3 := Aside0.mk (Below.alloc HB.out (Nat.le_trans hB1 hB12) (.cells #[.int .i64 p, .int .i64 8] 61))
      have HW3 := Aside0.mk (show (wr.alloc (.cells #[.int .i64 p, .int .i64 8] 61)).ownsRow B 5 1 (.slice (some ⟨g, 0, none⟩) n c2) n (nums .u8 ys) by have := Kd.own_of_R HO3.out; rw [HL.out] at this; exact this)
      obtain ⟨hr3, hc3, _⟩ := reads_u8 HO3.out
      have HR3 := Aside0.mk hr3
      have hty := Kd.R_typed HO3.out
      have HT := Aside0.mk hty
      have hgB : B ≤ g := Kd.R_base HO3.out g rfl
      have hgB1 := Kd.R_base HO.out g rfl
      clear hin HO HS HB hr3 hty HO3
      go_wp2_with fail
      refine (hrd _ HR3.out hc3 HY.out).mono ?_
      rintro e w4 ⟨rfl, rfl⟩
      clear hrd HR3
      go_wp2_with fail
      refine (hput _ HW3.out hz0 hz1).mono ?_
      rintro e w4 ⟨rfl, hown4, hg4⟩
      have HO4 := Aside0.mk (show Kd.R (Kd.int .u8) 5 w4 B (fun _ => True) (.slice (some ⟨g, 0, none⟩) n c2) (putV ys p 8 z) from Kd.R_of_own (h1 := fun _ => rfl) (by rw [HL'.out]; exact hown4) (fun _ _ => trivial))
      have HS4 := Aside0.mk (Kd.R_over' HS3.out HT.out (by decide) hg4)
      have HB4 := Aside0.mk (below_grown HB3.out hg4 (by simp; omega) (fun k hk => by injection hk with hk; omega))
      have hB14 : B1 ≤ w4.heap.size := by have := hg4.size; simp at this; omega
      clear hput HW3 hown4 hg4 HS3 HB3 HT
      go_wp2
      go_roundw
      case rel => exact ⟨k + 1, _, by omega, by go_num, HL', HY', HR2, HO4, HS4, HB4, hB14⟩
      case measure => simp [intOf]; omega
  obtain rfl : k = ss.length := by omega
  rw [List.drop_length] at HR
  have er : ys = r := HR.out
  subst er
  go_wp2
  go_ret
  refine ⟨_, rfl, ?_, HB.out⟩
  have := Kd.own_of_R HO.out
  rw [HL.out] at this
  exact this
end Go.Proofs.Ytojlcoebbgafhaa
