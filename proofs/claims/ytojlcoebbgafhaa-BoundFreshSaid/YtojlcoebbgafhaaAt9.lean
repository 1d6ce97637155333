/- The walk of law 9's At. -/
import Derived.Test.YtojlcoebbgafhaaFoldKey
import Derived.Test.YtojlcoebbgafhaaRef1
import Derived.Test.YtojlcoebbgafhaaB0
import Derived.Deep.RegionWith
import Derived.Deep.RegionHeld3
import Derived.StillTailTactics
namespace Go.Proofs.Ytojlcoebbgafhaa
open Go.RowKit
set_option linter.unusedVariables false
set_option linter.unusedSimpArgs false
open PB
open Go.Proofs.YtojlcoebbgafhaaW.PrintWords Go.Proofs.YtojlcoebbgafhaaW.PrintLast Go.Proofs.YtojlcoebbgafhaaW.PrintMore
attribute [local go_sem] b_max2 b_min2 b_max b_min
def more9 (more : List Int) (i : Nat) : Int := if i < more.length then Go.bits .and .i64 (more.getD i 0) 3 else 0
def step9 (start : Int) (more : List Int) (b : List Int) (i : Nat) (x : S25) : List Int :=
  putV (putV (putV b (start + 8 * i) 4 (IntKind.u64.wrap x.f1)) (start + 4 + 8 * i) 2 (b.length - start)) (start + 6 + 8 * i) 2 (more9 more i) ++ bytesOf x.f0 ++ [0]
def at9 (start : Int) (more : List Int) : Nat → List Int → List S25 → List Int
  | _, b, [] => b
  | i, b, x :: l => at9 start more (i + 1) (step9 start more b i x) l
def at9P (start : Nat) (l : List S25) (more : List Int) : List Int := at9 start more 0 (List.replicate (start + 8 * min l.length 34 + 8) 0) (l.take 34)
theorem step9_len (start : Int) (more : List Int) (b : List Int) (i : Nat) (x : S25) : (step9 start more b i x).length = b.length + x.f0.size + 1 := by
  unfold step9
  rw [List.length_append, List.length_append, putV_len, putV_len, putV_len, bytesOf_length]; rfl
theorem step9_bytes (start : Int) (more : List Int) (b : List Int) (i : Nat) (x : S25) (h : Bytes b) : Bytes (step9 start more b i x) := by
  unfold step9
  refine ((putV_bytes _ _ _ _ (putV_bytes _ _ _ _ (putV_bytes _ _ _ _ h))).append (bytesOf_bytes _)).append ?_
  intro y hy
  obtain rfl := List.mem_singleton.1 hy
  omega
theorem wrap_lin (s n N : Nat) (h : N = s + 8 * n + 8) (h1 : s ≤ 1000000) (h2 : n ≤ 34) : wrap64 ((s : Int) + 8 * (n : Int) + 8) = (N : Int) := by unfold wrap64; omega
theorem min34 (m n : Nat) (h : n = min m 34) : (if (m : Int) < 34 then (m : Int) else 34) = (n : Int) := by split <;> omega
theorem min34b (m n : Nat) (h : n = min m 34) : (if (34 : Int) < (m : Int) then (34 : Int) else (m : Int)) = (n : Int) := by split <;> omega
abbrev TS9 (a : Addr) (v : Value) (t1 t2 : TypeId) (sl : Value) (s : ByteArray) (w w' : World) : Prop := w'.cell? a = some v ∧ (convert t1 t2 sl).run Try.prog w' = .ok (.string s) w' ∧ Below w.heap.size w w'
def At9Post (w : World) (r : List Int) (e : Ending) (w' : World) : Prop := ∃ v, e = .returned v ∧ BRow w' w.heap.size v r ∧ Below w.heap.size w w'
set_option maxHeartbeats 4000000 in
set_option maxRecDepth 20000 in
theorem At9_calls (start : Nat) (A1 : Option Addr) (c1 : Nat) (l : List S25) (A2 : Option Addr) (c2 : Nat) (more : List Int) (w : World) (hst : start ≤ 1000000) (hl : Kd.C k25 w A1 l.length l) (hc1 : l.length ≤ c1)
    (hm : Kd.C (Kd.int .i64) w A2 more.length more) (hc2 : more.length ≤ c2) (hll : l.length ≤ 1000000000) (hml : more.length ≤ 1000000000) (hsz : ∀ x ∈ l, x.f0.size ≤ 1000000) :
    Calls Try.prog 39 #[.int .i64 start, .slice A1 l.length c1, .slice A2 more.length c2] w (At9Post w (at9P start l more)) := by
  have HL := Aside0.mk hl
  have HM := Aside0.mk (Kd.reads_of_C (d := (0 : Int)) hm)
  have HSZ := Aside0.mk hsz
  obtain ⟨n, hn⟩ : ∃ n, n = min l.length 34 := ⟨_, rfl⟩
  have hn34 : n ≤ 34 := by omega
  have hnl : n ≤ l.length := by omega
  obtain ⟨N, hN⟩ : ∃ N : Nat, N = start + 8 * n + 8 := ⟨_, rfl⟩
  have hNle : N ≤ 1000300 := by omega
  have hNst : start < N := by omega
  have hmk := print_make (P := Try.prog) 29 5 .u8 1 Try.underlying29 info_u8 (by decide) N (by omega)
  have hw1 : (start : Int) + 8 * (n : Int) + 8 = (N : Int) := by omega
  have hmin : (if (l.length : Int) < 34 then (l.length : Int) else 34) = (n : Int) := min34 l.length n hn
  have hmin2 : (if (34 : Int) < (l.length : Int) then (34 : Int) else (l.length : Int)) = (n : Int) := min34b l.length n hn
  obtain ⟨r, hr⟩ : ∃ r, at9P start l more = r := ⟨_, rfl⟩
  rw [hr]
  have HR := Aside0.mk (show at9 start more 0 (List.replicate N 0) ((l.take 34).drop 0) = r by rw [← hr, hN, hn]; rfl)
  have HN := Aside0.mk hn
  clear hl hm hsz hr hn hN
  go_enter Try.func39, Try.ntmps39
  go_wp2
  have hB0 := BRow.of_own (e := 5) (xs := List.replicate N 0) (by rw [List.length_replicate]; exact own_made w w.heap.size 5 .u8 N (Nat.le_refl _) (by omega))
  have hbl := Below.alloc (Below.refl w.heap.size w) (Nat.le_refl _) (.cells (madeCells #[.int .u8 0] N) 5)
  obtain ⟨B, hB⟩ : ∃ B, w.heap.size = B := ⟨_, rfl⟩
  obtain ⟨w1, hw⟩ : ∃ w1, w.alloc (.cells (madeCells #[.int .u8 0] N) 5) = w1 := ⟨_, rfl⟩
  rw [hw, hB] at hB0 hbl
  rw [hw, hB]
  have HBB := Aside0.mk hB
  have HB := Aside0.mk hB0
  have HBL := Aside0.mk hbl
  have HY := Aside0.mk (show Bytes (List.replicate N 0) from fun x hx => by have := (List.mem_replicate.1 hx).2; omega)
  have hbN : (List.replicate N (0 : Int)).length ≤ N + 1000001 * 0 := by rw [List.length_replicate]; omega
  clear hB0 hbl hB hw hmk hmin hmin2 hw1
  go_loopw [8, 9] (fun v i wr => ∃ (k : Nat) (b : List Int), k ≤ n ∧ i = .int .i64 k ∧ Aside0 (BRow wr B v b) ∧ Aside0 (Bytes b) ∧ Aside0 (at9 start more k b ((l.take 34).drop k) = r) ∧ b.length ≤ N + 1000001 * k ∧ N ≤ b.length ∧ Aside0 (Below B w wr)) (fun _ i _ => n - (intOf i).toNat)
  case atStart => exact ⟨0, _, Nat.zero_le _, rfl, HB, HY, HR, hbN, by rw [List.length_replicate]; exact Nat.le_refl _, HBL⟩
  case round =>
  clear HB HY HR hbN HBL
  obtain ⟨k, b, hk, rfl, HB, HY, HR, hbN, hNb, HBL⟩ := hrel
  have hB := HBB.out
  have hBW : B ≤ wr.heap.size := by have := HBL.out.size; rw [hB] at this; exact this
  obtain ⟨A3, c3, rfl, _⟩ := HB.out.slice
  by_cases hlt : k < n
  · have hbl2 : b.length ≤ 36000000 := by omega
    have HLr := Aside0.mk (Kd.C_below HL.out (show Below w.heap.size w wr by rw [hB]; exact HBL.out))
    obtain ⟨ad, rfl, hx0, hx1⟩ := at_T25 HLr.out (k : Int) (by omega) (by omega)
    rw [Int.toNat_natCast] at hx0 hx1
    obtain ⟨x, hx⟩ : ∃ x, rd_T25 l (k : Int) = x := ⟨_, rfl⟩
    rw [hx] at hx0 hx1
    have HX := Aside0.mk hx
    have hstr := str_of_read (c := c3) HB.out.reads.1
    have hk0 : (0 : Int) ≤ (k : Int) := Int.natCast_nonneg _
    have hkl : (k : Int) < (l.length : Int) := by omega
    obtain ⟨m, hm⟩ : ∃ m, b.length = m := ⟨_, rfl⟩
    rw [hm] at hstr hbN hbl2 HB hNb
    rw [hm]
    have HMM := Aside0.mk hm
    clear hx hm hB
    have hput1 := fun W => rPut_calls (strOfNums b) b (bytesOf_strOf b HY.out) (start + 8 * k) 4 (IntKind.u64.wrap x.f1) W (by rw [strOf_size, HMM.out]; omega) (by rw [IntKind.wrap_u64]; omega) (by rw [IntKind.wrap_u64]; omega)
    obtain ⟨pa, hpa⟩ : ∃ pa : Addr, (⟨(ad.add (k * 2)).block, (ad.add (k * 2)).off + 1, none⟩ : Addr) = pa := ⟨_, rfl⟩
    have hTS : ∀ w', Below wr.heap.size wr w' → TS9 ⟨(ad.add (k * 2)).block, (ad.add (k * 2)).off + 1, none⟩ (.int .i64 x.f1) 29 9 (.slice A3 m c3) (strOfNums b) wr w' := fun w' hb =>
      ⟨(hb.cell (World.block_lt_of_cell? wr _ hx1)).trans hx1, str_of_read (c := c3) (HB.out.below hb).reads.1, hb⟩
    have HTS := Aside0.mk hTS
    have hs1 : IntKind.i64.wrap (8 * (k : Int)) = 8 * (k : Int) := by rw [IntKind.wrap_i64]; omega
    have hs2 : IntKind.i64.wrap ((start : Int) + 8 * (k : Int)) = (start : Int) + 8 * (k : Int) := by rw [IntKind.wrap_i64]; omega
    clear hTS hpa
    go_wp2
    go_region_held3 (fun w' => TS9 ⟨(ad.add (k * 2)).block, (ad.add (k * 2)).off + 1, none⟩ (.int .i64 x.f1) 29 9 (.slice A3 m c3) (strOfNums b) wr w')
      (first | exact HTS.out _ (Below.drew (Below.refl _ _)) | exact HTS.out _ hb9)
      ((go_at_call 34; (with_reducible refine (hput1 _).mono ?_); rintro e w9 ⟨rfl, hb8⟩; have hb9 : Below wr.heap.size wr w9 := (Below.drew (Below.refl _ _)).trans (hb8.mono (Nat.le_refl _))))
    obtain ⟨b1, hb1⟩ : ∃ b1, putV b (start + 8 * k) 4 (IntKind.u64.wrap x.f1) = b1 := ⟨_, rfl⟩
    have hl1 : b1.length = m := by rw [← hb1, putV_len]; exact HMM.out
    have hy1 : Bytes b1 := by rw [← hb1]; exact putV_bytes _ _ _ _ HY.out
    rw [hb1]
    have HB1 := Aside0.mk hb1
    have HL9 := Aside0.mk (Kd.C_below HLr.out hb9)
    have hbel9 : Below B w w9 := HBL.out.trans (hb9.mono hBW)
    have HBL9 := Aside0.mk hbel9
    have hBW9 : B ≤ w9.heap.size := by have := hb9.size; omega
    have hput2 := fun W => rPut_calls (strOfNums b1) b1 (bytesOf_strOf b1 hy1) (start + 4 + 8 * k) 2 ((m : Int) - start) W (by rw [strOf_size, hl1]; omega) (by omega) (by omega)
    clear hb1 hput1 HTS hs1 hs2 hb9 hb8 hbel9 hx0 hx1 hstr
    go_wp2_with fail
    with_reducible refine (hput2 _).mono ?_
    rintro e w10 ⟨rfl, hb10⟩
    obtain ⟨b2, hb2⟩ : ∃ b2, putV b1 (start + 4 + 8 * k) 2 ((m : Int) - start) = b2 := ⟨_, rfl⟩
    have hl2 : b2.length = m := by rw [← hb2, putV_len]; exact hl1
    have hy2 : Bytes b2 := by rw [← hb2]; exact putV_bytes _ _ _ _ hy1
    rw [hb2]
    have HB2 := Aside0.mk hb2
    have HL10 := Aside0.mk (Kd.C_below HL9.out hb10)
    have HBL10 := Aside0.mk (HBL9.out.trans (hb10.mono hBW9))
    have hBW10 : B ≤ w10.heap.size := by have := hb10.size; omega
    have hkk : 0 ≤ more9 more k ∧ more9 more k ≤ 3 := by
      unfold more9; split
      · exact and_i64 _ 3 (by decide)
      · decide
    obtain ⟨kk, hkk2⟩ : ∃ kk, more9 more k = kk := ⟨_, rfl⟩
    rw [hkk2] at hkk
    have hput3 := fun W => rPut_calls (strOfNums b2) b2 (bytesOf_strOf b2 hy2) (start + 6 + 8 * k) 2 kk W (by rw [strOf_size, hl2]; omega) (by omega) (by omega)
    have HKK := Aside0.mk hkk2
    have hkw : IntKind.u64.wrap kk = kk := by rw [IntKind.wrap_u64]; omega
    clear hb2 hput2 hb10 HL9 HBL9 hBW9 hkk2
    have HM10 := Aside0.mk (show ReadsInt w10 .i64 A2 more.length more from (HM.out.below (show Below w.heap.size w w10 by rw [HBB.out]; exact HBL10.out)))
    by_cases hmk : k < more.length
    · obtain ⟨adm, hadm, hmc⟩ := HM10.out.at_ k (by omega) (by omega)
      have d1 : decide ((k : Int) < (more.length : Int)) = true := decide_eq_true (by omega)
      have d2 : decide (k < more.length) = true := decide_eq_true hmk
      have hrd : rd more (k : Int) = more.getD k 0 := by unfold rd; rw [Int.toNat_natCast]
      have hkk3 : Go.bits .and .i64 (more.getD k 0) 3 = kk := by have := HKK.out; unfold more9 at this; rw [if_pos hmk] at this; exact this
      rw [Int.toNat_natCast, hrd] at hmc
      subst hadm
      generalize more.getD k 0 = y at *
      clear hrd
      go_wp2_with fail
      with_reducible refine (hput3 _).mono ?_
      rintro e w11 ⟨rfl, hb11⟩
      obtain ⟨b3, hb3⟩ : ∃ b3, putV b2 (start + 6 + 8 * k) 2 kk = b3 := ⟨_, rfl⟩
      have hl3 : b3.length = m := by rw [← hb3, putV_len]; exact hl2
      have hy3 : Bytes b3 := by rw [← hb3]; exact putV_bytes _ _ _ _ hy2
      rw [hb3]
      have HBL11 := HBL10.out.trans (hb11.mono hBW10)
      have hBW11 : B ≤ w11.heap.size := by have := hb11.size; omega
      have hstep : b3 ++ bytesOf x.f0 ++ [0] = step9 start more b k x := by unfold step9; rw [HB1.out, HMM.out, HB2.out, HKK.out, hb3]
      have hxs : x.f0.size ≤ 1000000 := HSZ.out x (by rw [← HX.out]; unfold rd_T25; rw [Int.toNat_natCast, List.getD_eq_getElem?_getD, List.getElem?_eq_getElem (by omega)]; exact List.getElem_mem _)
      have hs3 : (strOfNums b3).size = m := by rw [strOf_size]; exact hl3
      have hconv := BRow.of_conv w11 5 (strOfNums b3) B hBW11 (by rw [hs3]; unfold maxLen; omega)
      have kb := print_bytes (P := Try.prog) 9 29 5 Try.underlying9 Try.underlying29 Try.underlying5 (strOfNums b3) w11
      have hbw := bytes_below HBL11 hBW11 5 (strOfNums b3)
      rw [bytesOf_strOf b3 hy3, hs3] at hconv
      rw [hs3] at kb
      obtain ⟨W12, hW12⟩ : ∃ W, Lib.bytesWorld w11 5 (strOfNums b3) = W := ⟨_, rfl⟩
      obtain ⟨cap, hcap⟩ : ∃ c, grownCap w11 m 0 5 = c := ⟨_, rfl⟩
      obtain ⟨g5, hg5⟩ : ∃ g, w11.heap.size = g := ⟨_, rfl⟩
      rw [hW12, hcap, hg5] at kb hconv
      rw [hW12] at hbw
      have hBW12 : B ≤ W12.heap.size := by have := hbw.size; rw [HBB.out] at this; exact this
      obtain ⟨ad', had, hx0, hx1⟩ := at_T25 (Kd.C_below HL.out (show Below w.heap.size w W12 by rw [HBB.out]; exact hbw)) (k : Int) (by omega) (by omega)
      injection had with had
      subst had
      rw [Int.toNat_natCast, HX.out] at hx0 hx1
      have hR2 : at9 start more (k + 1) (step9 start more b k x) ((l.take 34).drop (k + 1)) = r := by
        have h0 := HR.out
        have hd : (l.take 34).drop k = x :: (l.take 34).drop (k + 1) := by
          rw [List.drop_eq_getElem_cons (by rw [List.length_take]; omega)]
          congr 1
          rw [← HX.out]; unfold rd_T25
          rw [Int.toNat_natCast, List.getD_eq_getElem?_getD, List.getElem?_eq_getElem (by omega)]
          simp
        rw [hd] at h0
        exact h0
      have hst2 := step9_len start more b k x
      rw [HMM.out] at hst2
      have HST := Aside0.mk (show (step9 start more b k x).length = m + x.f0.size + 1 from hst2)
      have HYS := Aside0.mk (step9_bytes start more b k x HY.out)
      have HRS := Aside0.mk hR2
      have HSTEP := Aside0.mk hstep
      have HCV := Aside0.mk hconv
      have HBW := Aside0.mk hbw
      have HL3 := Aside0.mk hl3
      clear hb11 hb3 HBL11 hBW11 hstep hs3 hconv hbw hW12 hcap hg5 hR2 hst2 hl3 hput3 hbl2
      go_wp2_with (first
        | (at_builtin; refine wpList_bappend_str (w0 := w) B rfl (.tmp 80) (.tmp 85) 29 9 5 rfl Try.underlying29 Try.underlying9 info_u8 (.slice (some ⟨g5, 0, none⟩) m cap) b3 x.f0 rfl rfl HCV.out HBW.out hBW12 (by rw [HL3.out]; omega) ?_; intro v1 w13 hrow1 hbel1; have hBW13 : B ≤ w13.heap.size := by have := hbel1.size; rw [HBB.out] at this; exact this)
        | (at_builtin; refine wpList_bappend (w0 := w) B rfl (.tmp 86) (.tmp 87) 29 5 rfl Try.underlying29 info_u8 v1 (b3 ++ bytesOf x.f0) ⟨w13.heap.size, 0, none⟩ 1 1 [0] rfl rfl rfl (World.news_of_block (cs := #[.int .u8 0]) (t := 5) (fr := (0, 0)) (heap_alloc_new w13 _)) (hrow1.alloc _) (Below.alloc hbel1 hBW13 _) (by simp; omega) (by rw [List.length_append, HL3.out, bytesOf_length]; omega) ?_; intro v2 w14 hrow2 hbel2))
      rw [HSTEP.out] at hrow2
      have HR2 := Aside0.mk hrow2
      have HB2' := Aside0.mk hbel2
      clear hrow1 hbel1 hrow2 hbel2
      go_wp2
      go_roundw
      case rel => exact ⟨k + 1, _, by omega, by go_num, HR2, HYS, HRS, by rw [HST.out]; omega, by rw [HST.out]; omega, HB2'⟩
      case measure => simp [intOf]; omega
    · have d1 : decide ((k : Int) < (more.length : Int)) = false := decide_eq_false (by omega)
      have d2 : decide (k < more.length) = false := decide_eq_false hmk
      have hkk3 : kk = 0 := by have := HKK.out; unfold more9 at this; rw [if_neg hmk] at this; exact this.symm
      subst hkk3
      go_wp2_with fail
      with_reducible refine (hput3 _).mono ?_
      rintro e w11 ⟨rfl, hb11⟩
      obtain ⟨b3, hb3⟩ : ∃ b3, putV b2 (start + 6 + 8 * k) 2 0 = b3 := ⟨_, rfl⟩
      have hl3 : b3.length = m := by rw [← hb3, putV_len]; exact hl2
      have hy3 : Bytes b3 := by rw [← hb3]; exact putV_bytes _ _ _ _ hy2
      rw [hb3]
      have HBL11 := HBL10.out.trans (hb11.mono hBW10)
      have hBW11 : B ≤ w11.heap.size := by have := hb11.size; omega
      have hstep : b3 ++ bytesOf x.f0 ++ [0] = step9 start more b k x := by unfold step9; rw [HB1.out, HMM.out, HB2.out, HKK.out, hb3]
      have hxs : x.f0.size ≤ 1000000 := HSZ.out x (by rw [← HX.out]; unfold rd_T25; rw [Int.toNat_natCast, List.getD_eq_getElem?_getD, List.getElem?_eq_getElem (by omega)]; exact List.getElem_mem _)
      have hs3 : (strOfNums b3).size = m := by rw [strOf_size]; exact hl3
      have hconv := BRow.of_conv w11 5 (strOfNums b3) B hBW11 (by rw [hs3]; unfold maxLen; omega)
      have kb := print_bytes (P := Try.prog) 9 29 5 Try.underlying9 Try.underlying29 Try.underlying5 (strOfNums b3) w11
      have hbw := bytes_below HBL11 hBW11 5 (strOfNums b3)
      rw [bytesOf_strOf b3 hy3, hs3] at hconv
      rw [hs3] at kb
      obtain ⟨W12, hW12⟩ : ∃ W, Lib.bytesWorld w11 5 (strOfNums b3) = W := ⟨_, rfl⟩
      obtain ⟨cap, hcap⟩ : ∃ c, grownCap w11 m 0 5 = c := ⟨_, rfl⟩
      obtain ⟨g5, hg5⟩ : ∃ g, w11.heap.size = g := ⟨_, rfl⟩
      rw [hW12, hcap, hg5] at kb hconv
      rw [hW12] at hbw
      have hBW12 : B ≤ W12.heap.size := by have := hbw.size; rw [HBB.out] at this; exact this
      obtain ⟨ad', had, hx0, hx1⟩ := at_T25 (Kd.C_below HL.out (show Below w.heap.size w W12 by rw [HBB.out]; exact hbw)) (k : Int) (by omega) (by omega)
      injection had with had
      subst had
      rw [Int.toNat_natCast, HX.out] at hx0 hx1
      have hR2 : at9 start more (k + 1) (step9 start more b k x) ((l.take 34).drop (k + 1)) = r := by
        have h0 := HR.out
        have hd : (l.take 34).drop k = x :: (l.take 34).drop (k + 1) := by
          rw [List.drop_eq_getElem_cons (by rw [List.length_take]; omega)]
          congr 1
          rw [← HX.out]; unfold rd_T25
          rw [Int.toNat_natCast, List.getD_eq_getElem?_getD, List.getElem?_eq_getElem (by omega)]
          simp
        rw [hd] at h0
        exact h0
      have hst2 := step9_len start more b k x
      rw [HMM.out] at hst2
      have HST := Aside0.mk (show (step9 start more b k x).length = m + x.f0.size + 1 from hst2)
      have HYS := Aside0.mk (step9_bytes start more b k x HY.out)
      have HRS := Aside0.mk hR2
      have HSTEP := Aside0.mk hstep
      have HCV := Aside0.mk hconv
      have HBW := Aside0.mk hbw
      have HL3 := Aside0.mk hl3
      clear hb11 hb3 HBL11 hBW11 hstep hs3 hconv hbw hW12 hcap hg5 hR2 hst2 hl3 hput3 hbl2
      go_wp2_with (first
        | (at_builtin; refine wpList_bappend_str (w0 := w) B rfl (.tmp 80) (.tmp 85) 29 9 5 rfl Try.underlying29 Try.underlying9 info_u8 (.slice (some ⟨g5, 0, none⟩) m cap) b3 x.f0 rfl rfl HCV.out HBW.out hBW12 (by rw [HL3.out]; omega) ?_; intro v1 w13 hrow1 hbel1; have hBW13 : B ≤ w13.heap.size := by have := hbel1.size; rw [HBB.out] at this; exact this)
        | (at_builtin; refine wpList_bappend (w0 := w) B rfl (.tmp 86) (.tmp 87) 29 5 rfl Try.underlying29 info_u8 v1 (b3 ++ bytesOf x.f0) ⟨w13.heap.size, 0, none⟩ 1 1 [0] rfl rfl rfl (World.news_of_block (cs := #[.int .u8 0]) (t := 5) (fr := (0, 0)) (heap_alloc_new w13 _)) (hrow1.alloc _) (Below.alloc hbel1 hBW13 _) (by simp; omega) (by rw [List.length_append, HL3.out, bytesOf_length]; omega) ?_; intro v2 w14 hrow2 hbel2))
      rw [HSTEP.out] at hrow2
      have HR2 := Aside0.mk hrow2
      have HB2' := Aside0.mk hbel2
      clear hrow1 hbel1 hrow2 hbel2
      go_wp2
      go_roundw
      case rel => exact ⟨k + 1, _, by omega, by go_num, HR2, HYS, HRS, by rw [HST.out]; omega, by rw [HST.out]; omega, HB2'⟩
      case measure => simp [intOf]; omega
  obtain rfl : k = n := by omega
  have hend : (l.take 34).drop k = [] := by rw [List.drop_of_length_le]; rw [List.length_take, HN.out]; omega
  rw [hend] at HR
  have er : b = r := HR.out
  subst er
  go_wp2
  go_ret
  subst hB
  exact ⟨_, rfl, HB.out, HBL.out⟩
end Go.Proofs.Ytojlcoebbgafhaa
