/- (*vmem.Mem): ask, Read, Fetch, Write. -/
import Derived.Test.YtdagfddhdnfbkaaVmemA
namespace Go.Proofs.Ytdagfddhdnfbkaa
open Go.RowKit
set_option linter.unusedVariables false
set_option linter.unusedSimpArgs false
open Go.Proofs.YtdagfddhdnfbkaaW.PrintWords
attribute [local go_sem] b_max2 b_min2 b_max b_min
/-- what an access of one byte is told: 0 nothing, or the fault's kind -/
def askK (M : AMem) (prot kind a : Int) : Int := match M.pg (baseV a) with
  | none => 1
  | some x => if 8 ≤ x.2 then 5 else if bits .and .i64 x.2 prot = 0 then kind else 0
/-- the first byte that is not given -/
def askI (M : AMem) (prot kind p : Int) (n : Nat) : Option Nat := (List.range n).find? fun i => askK M prot kind (aT p i) != 0
def askF (M : AMem) (p n prot kind : Int) : Int × Int := if 65536 < n then (1, p) else match askI M prot kind p n.toNat with
  | none => (0, 0)
  | some i => (askK M prot kind (aT p i), aT p i)
def clearG (M : AMem) (a : Int) : AMem := match M.pg (baseV a) with
  | none => M
  | some x => if 8 ≤ x.2 then setPage M (baseV a) (x.1, x.2 - 8) else M
def askM (M : AMem) (p n prot kind : Int) : AMem := if 65536 < n then M else match askI M prot kind p n.toNat with
  | none => M
  | some i => clearG M (aT p i)
theorem askI_none {M : AMem} {prot kind p : Int} {n : Nat} (h : ∀ i, i < n → askK M prot kind (aT p i) = 0) : askI M prot kind p n = none := by
  unfold askI
  rw [List.find?_eq_none]
  intro i hi
  simp [h i (List.mem_range.1 hi)]
theorem askI_some {M : AMem} {prot kind p : Int} {n i : Nat} (hi : i < n) (h0 : ∀ j, j < i → askK M prot kind (aT p j) = 0) (h : askK M prot kind (aT p i) ≠ 0) : askI M prot kind p n = some i := by
  unfold askI
  rw [List.find?_range_eq_some]
  exact ⟨by simpa using h, List.mem_range.2 hi, fun j hj => by simp [h0 j hj]⟩
theorem askK_same (M : AMem) (prot kind : Int) {a b : Int} (h : baseV a = baseV b) : askK M prot kind a = askK M prot kind b := by unfold askK; rw [h]
theorem ask_upto {M : AMem} {prot kind p : Int} {n k : Nat} (h : k < numT p n) (h0 : ∀ i, i < cT p n k → askK M prot kind (aT p i) = 0) (h1 : askK M prot kind (aT p (cT p n k)) = 0) :
    ∀ i, i < cT p n (k + 1) → askK M prot kind (aT p i) = 0 := by
  intro i hi
  rcases Nat.lt_or_ge i (cT p n k) with g | g
  · exact h0 i g
  · rw [askK_same M prot kind (touch_base p n k i h g hi).1]; exact h1
theorem and8 (x : Int) (h0 : 0 ≤ x) (h1 : x ≤ 15) : bits .and .i64 x 8 = if 8 ≤ x then 8 else 0 := by
  have : x = 0 ∨ x = 1 ∨ x = 2 ∨ x = 3 ∨ x = 4 ∨ x = 5 ∨ x = 6 ∨ x = 7 ∨ x = 8 ∨ x = 9 ∨ x = 10 ∨ x = 11 ∨ x = 12 ∨ x = 13 ∨ x = 14 ∨ x = 15 := by omega
  rcases this with rfl | rfl | rfl | rfl | rfl | rfl | rfl | rfl | rfl | rfl | rfl | rfl | rfl | rfl | rfl | rfl <;> decide
theorem andNot8 (x : Int) (h0 : 8 ≤ x) (h1 : x ≤ 15) : bits .andNot .i64 x 8 = x - 8 := by
  have : x = 8 ∨ x = 9 ∨ x = 10 ∨ x = 11 ∨ x = 12 ∨ x = 13 ∨ x = 14 ∨ x = 15 := by omega
  rcases this with rfl | rfl | rfl | rfl | rfl | rfl | rfl | rfl <;> decide
def AskPost (w : World) (F : Nat → Prop) (bm : Nat) (M' : AMem) (f : Int × Int) (e : Ending) (w' : World) : Prop :=
  e = .returned (.agg #[.int .i64 f.1, .int .u64 f.2]) ∧ Has w' F bm M' ∧ Keeps F w w'
theorem Keeps.above {F : Nat → Prop} {w X Y : World} {g : Nat} (h : Keeps F w X) (k : Keeps (· = g) X Y) (hg : w.heap.size ≤ g) : Keeps F w Y :=
  ⟨k.os.trans h.os, k.tape.trans h.tape, k.output.trans h.output, Nat.le_trans h.size k.size, fun i hi hn => (k.block i (Nat.lt_of_lt_of_le hi h.size) (fun e => by omega)).trans (h.block i hi hn)⟩
theorem two_stores (w : World) (g : Nat) (u v : Value) : Keeps (· = g) w ((w.setCell ⟨g, 0, none⟩ u).setCell ⟨g, 1, none⟩ v) :=
  (keeps_setCell w ⟨g, 0, none⟩ u).trans (keeps_setCell _ ⟨g, 1, none⟩ v)
theorem ask_stored {w wr : World} (h : Below w.heap.size w wr) (n : Nat) (u v : Value) : Below w.heap.size w (((wr.drewN n).setCell ⟨w.heap.size, 0, none⟩ u).setCell ⟨w.heap.size, 1, none⟩ v) :=
  ((bdrew h n).setCell (Nat.le_refl _) _).setCell (Nat.le_refl _) _
set_option maxHeartbeats 1600000 in
set_option maxRecDepth 100000 in
theorem ask_calls (F : Nat → Prop) (bm : Nat) (M : AMem) (p n prot kind : Int) (w : World) (hM : Has w F bm M) (h0 : 0 ≤ p) (h1 : p < 18446744073709551616) (hk : 2 ≤ kind ∧ kind ≤ 4) (hn0 : 0 ≤ n) :
    Calls Try.prog 42 #[.pointer (some ⟨bm, 0, none⟩), .int .u64 p, .int .i64 n, .int .i64 prot, .int .i64 kind] w (AskPost w F bm (askM M p n prot kind) (askF M p n prot kind)) := by
  have hu := Try.underlying45
  have HM := Aside0.mk hM
  by_cases hn : 65536 < n
  · have e1 : askM M p n prot kind = M := if_pos hn
    have e2 : askF M p n prot kind = (1, p) := if_pos hn
    rw [e1, e2]
    clear hM e1 e2
    go_enter Try.func42, Try.ntmps42
    go_wp2
    refine bodyPost_ret (v := .agg #[.int .i64 1, .int .u64 p]) (by simp [results, Try.results42, go_sem]) rfl ⟨rfl, HM.out.keep (Below.alloc (Below.refl _ _) (Nat.le_refl _) _), Keeps.of_below (Below.alloc (Below.refl _ _) (Nat.le_refl _) _) _⟩
  · obtain ⟨N, rfl⟩ := Int.eq_ofNat_of_zero_le hn0
    have e1 : askM M p N prot kind = match askI M prot kind p N with | none => M | some i => clearG M (aT p i) := if_neg hn
    have e2 : askF M p N prot kind = match askI M prot kind p N with | none => (0, 0) | some i => (askK M prot kind (aT p i), aT p i) := if_neg hn
    have E1 := Aside0.mk e1
    have E2 := Aside0.mk e2
    clear e1 e2
    have ht := fun w => touched_calls p N w h0 h1 (by omega)
    have hN := numT_le p N
    clear hM
    go_enter Try.func42, Try.ntmps42
    go_wp2_with fail
    refine (ht _).mono ?_
    rintro e w1 ⟨v1, rfl, HT0, HB1⟩
    have HBW : Aside0 (Below w.heap.size w w1) := ⟨(Below.alloc (Below.refl _ w) (Nat.le_refl _) _).trans (HB1.mono (by simp))⟩
    have HM1 := Aside0.mk (HM.out.keep HBW.out)
    have hblk := blk_below (blk_new w _) HB1
    have HBK := Aside0.mk hblk
    rw [touchL_len] at HT0
    obtain ⟨A9, ct9, rfl, HR0⟩ := own_reads HT0
    have HR1 := Aside0.mk HR0
    have c8 := blk_cell hblk 0
    have c9 := blk_cell hblk 1
    have f8 := blk_frozen hblk 0
    have f9 := blk_frozen hblk 1
    simp at c8 c9
    have hz := blk_lt hblk
    clear HT0 HB1 HR0 ht hblk
    go_wp2
    go_loopw [22] (fun iv wr => ∃ (k m : Nat), k ≤ numT p N ∧ iv = .int .i64 k ∧ wr = w1.drewN m ∧ Aside0 (∀ i, i < cT p N k → askK M prot kind (aT p i) = 0)) (fun iv _ => numT p N - (intOf iv).toNat)
    case atStart => exact ⟨0, 0, Nat.zero_le _, rfl, rfl, ⟨fun i hi => absurd hi (by rw [cT_zero]; omega)⟩⟩
    case round =>
    obtain ⟨k, m, hkk, rfl, hwr, HU⟩ := hrel
    have HWR := Aside0.mk hwr
    have HMr : Aside0 (Has wr F bm M) := ⟨by rw [hwr]; exact HM1.out.keep (bdrew (Below.refl _ _) m)⟩
    have hc8 : wr.cell? ⟨w.heap.size, 0, none⟩ = some (.int .i64 0) := by rw [hwr]; exact c8
    have hc9 : wr.cell? ⟨w.heap.size, 1, none⟩ = some (.int .u64 0) := by rw [hwr]; exact c9
    have hf8 : wr.frozen? ⟨w.heap.size, 0, none⟩ = false := by rw [hwr]; exact f8
    have hf9 : wr.frozen? ⟨w.heap.size, 1, none⟩ = false := by rw [hwr]; exact f9
    have hzr : w.heap.size < wr.heap.size := by rw [hwr]; exact hz
    have HBR : Aside0 (Below w.heap.size w wr) := ⟨by rw [hwr]; exact bdrew HBW.out m⟩
    have HRR : Aside0 (ReadsInt wr .u64 A9 (numT p N) (touchL p N (numT p N))) := ⟨by rw [hwr]; exact HR1.out⟩
    clear hwr HM1 c8 c9 f8 f9 hz HR1 HBW HBK
    by_cases hlt : k < numT p N
    · obtain ⟨ad, rfl, hcell⟩ := HRR.out.2.2 (by omega)
      have hc := hcell k hlt
      rw [touchL_get p N _ k hlt] at hc
      clear hcell
      obtain ⟨a0, a1⟩ := aT_range p (cT p N k)
      have hcl := cT_lt p N k hlt
      have hbase := fun w => quiet_left (base_calls (aT p (cT p N k)) (wr.drewN w) a0 a1)
      obtain ⟨bp, l, ct, k1, k2, k3, k4, k5, k6, k7⟩ := id HMr.out
      obtain ⟨c0, -⟩ := k1.cells
      have hl := fun n => lookup_page (wr.drewN n) bp l (k1.map.drewN n) (baseV (aT p (cT p N k)))
      have hpg := k3 (baseV (aT p (cT p N k)))
      have HUP := Aside0.mk (fun h => ask_upto hlt HU.out h)
      have HSM := Aside0.mk (fun h => askI_some hcl HU.out h)
      cases hb : l.lookup (baseV (aT p (cT p N k))) with
      | none =>
        rw [hb] at hl hpg
        simp only [ptrV] at hl
        have hk1 : askK M prot kind (aT p (cT p N k)) = 1 := by unfold askK; rw [hpg]; rfl
        have e3 := HSM.out (by rw [hk1]; decide)
        have e4 : clearG M (aT p (cT p N k)) = M := by unfold clearG; rw [hpg]; rfl
        have EF : Aside0 (askF M p N prot kind = (1, aT p (cT p N k))) := ⟨E2.out.trans (by rw [e3]; simp only [hk1])⟩
        have EM : Aside0 (askM M p N prot kind = M) := ⟨E1.out.trans (by rw [e3]; exact e4)⟩
        clear e3 e4 hk1 HUP HSM hpg hb hcl E1 E2 k1 k2 k3 k4 k5 k6 k7
        generalize baseV (aT p (cT p N k)) = bv at *
        generalize aT p (cT p N k) = a at *
        go_wp2
        go_quiet ((go_at_call 48; exact hbase _))
        go_wp2
        refine bodyPost_ret (v := .agg #[.int .i64 1, .int .u64 a]) (by simp [results, Try.results42, go_sem, hc8, hc9]) rfl ⟨by rw [EF.out], ?_, ?_⟩
        · rw [EM.out]; exact HM.out.keep (ask_stored HBR.out _ _ _)
        · exact Keeps.of_below (ask_stored HBR.out _ _ _) _
      | some b =>
        rw [hb] at hl hpg
        simp only [ptrV] at hl
        have hpage := has_page k1 hb
        have hset := fun (w2 : World) (y : List Int × Int) hp hk => Has.set (w2 := w2) (x := y) HMr.out k1 k2 k3 k7 hb hp hk
        clear k1 k2 k3 k4 k5 k6 k7
        obtain ⟨bs, hbs⟩ : ∃ bs, (ct b).1 = bs := ⟨_, rfl⟩
        obtain ⟨pr, hpr⟩ : ∃ pr, (ct b).2 = pr := ⟨_, rfl⟩
        have hpg' : M.pg (baseV (aT p (cT p N k))) = some (bs, pr) := by rw [hpg, ← hbs, ← hpr]; rfl
        rw [hbs, hpr] at hpage
        have hpp := hpage.2.2.2
        obtain ⟨p1, p2⟩ := page_prot hpage
        clear hpg hbs hpr
        by_cases hg : 8 ≤ pr
        · have hk1 : askK M prot kind (aT p (cT p N k)) = 5 := by unfold askK; rw [hpg']; exact if_pos hg
          have e3 := HSM.out (by rw [hk1]; decide)
          have e4 : clearG M (aT p (cT p N k)) = setPage M (baseV (aT p (cT p N k))) (bs, pr - 8) := by unfold clearG; rw [hpg']; exact if_pos hg
          have EF : Aside0 (askF M p N prot kind = (5, aT p (cT p N k))) := ⟨E2.out.trans (by rw [e3]; simp only [hk1])⟩
          have EM : Aside0 (askM M p N prot kind = setPage M (baseV (aT p (cT p N k))) (bs, pr - 8)) := ⟨E1.out.trans (by rw [e3]; exact e4)⟩
          have HP9 := Aside0.mk hpage
          have HSET := Aside0.mk hset
          have e8 : bits .and .i64 pr 8 = 8 := (and8 pr hpp.1 hpp.2).trans (if_pos hg)
          have e9 : bits .andNot .i64 pr 8 = pr - 8 := andNot8 pr hg hpp.2
          clear e3 e4 hk1 HUP HSM hpg' hb hcl E1 E2 hpage hset
          generalize baseV (aT p (cT p N k)) = bv at *
          generalize aT p (cT p N k) = a at *
          go_wp2
          go_quiet ((go_at_call 48; exact hbase _))
          go_wp2
          have hk4 : ∀ nq, Keeps (· = b) wr ((wr.drewN nq).setCell ⟨b, 4096, none⟩ (.int .i64 (pr - 8))) := fun nq => (Keeps.of_below (bdrew (Below.refl _ wr) nq) _).trans (keeps_setCell (wr.drewN nq) ⟨b, 4096, none⟩ _)
          have hs4 := fun nq => HSET.out _ (bs, pr - 8) (page_setProt (w := wr.drewN nq) HP9.out (pr - 8) (by omega) (by omega)) (hk4 nq)
          refine bodyPost_ret (v := .agg #[.int .i64 5, .int .u64 a]) (by simp [results, Try.results42, go_sem, hc8, hc9]) rfl ⟨by rw [EF.out], ?_, ?_⟩
          · rw [EM.out]; exact (hs4 _).1.keeps (two_stores _ _ _ _) (fun z hz e => by have := HM.out.lt z hz; omega)
          · exact (((Keeps.of_below HBR.out F).trans ((hk4 _).mono fun _ _ e => e ▸ (hs4 0).2)).above (two_stores _ _ _ _) (Nat.le_refl _))
        · have e8 : bits .and .i64 pr 8 = 0 := (and8 pr hpp.1 hpp.2).trans (if_neg hg)
          by_cases hz : bits .and .i64 pr prot = 0
          · have hk1 : askK M prot kind (aT p (cT p N k)) = kind := by unfold askK; rw [hpg']; show (if 8 ≤ pr then (5 : Int) else _) = _; rw [if_neg hg]; exact if_pos hz
            have e3 := HSM.out (by rw [hk1]; omega)
            have e4 : clearG M (aT p (cT p N k)) = M := by unfold clearG; rw [hpg']; exact if_neg hg
            have EF : Aside0 (askF M p N prot kind = (kind, aT p (cT p N k))) := ⟨E2.out.trans (by rw [e3]; simp only [hk1])⟩
            have EM : Aside0 (askM M p N prot kind = M) := ⟨E1.out.trans (by rw [e3]; exact e4)⟩
            clear e3 e4 hk1 HUP HSM hpg' hb hcl E1 E2 hpage hset hg
            generalize baseV (aT p (cT p N k)) = bv at *
            generalize aT p (cT p N k) = a at *
            go_wp2
            go_quiet ((go_at_call 48; exact hbase _))
            go_wp2
            refine bodyPost_ret (v := .agg #[.int .i64 kind, .int .u64 a]) (by simp [results, Try.results42, go_sem, hc8, hc9]) rfl ⟨by rw [EF.out], ?_, ?_⟩
            · rw [EM.out]; exact HM.out.keep (ask_stored HBR.out _ _ _)
            · exact Keeps.of_below (ask_stored HBR.out _ _ _) _
          · have hk1 : askK M prot kind (aT p (cT p N k)) = 0 := by unfold askK; rw [hpg']; show (if 8 ≤ pr then (5 : Int) else _) = _; rw [if_neg hg]; exact if_neg hz
            have HU1 := Aside0.mk (HUP.out hk1)
            have dz : (bits .and .i64 pr prot == 0) = false := by rw [beq_eq_false_iff_ne]; exact hz
            clear hk1 HUP HSM hpg' hb hcl E1 E2 hpage hset hg hz
            generalize baseV (aT p (cT p N k)) = bv at *
            generalize aT p (cT p N k) = a at *
            go_wp2
            go_quiet ((go_at_call 48; exact hbase _))
            go_wp2
            refine ⟨⟨k + 1, _, by omega, by go_num, by rw [HWR.out, World.drewN_drewN], HU1⟩, ?_⟩
            simp [intOf]; omega
    · obtain rfl : k = numT p N := by omega
      rw [cT_end] at HU
      have e3 := askI_none HU.out
      have EF : Aside0 (askF M p N prot kind = (0, 0)) := ⟨E2.out.trans (by rw [e3])⟩
      have EM : Aside0 (askM M p N prot kind = M) := ⟨E1.out.trans (by rw [e3])⟩
      clear e3 E1 E2
      go_wp2
      refine bodyPost_ret (v := .agg #[.int .i64 0, .int .u64 0]) (by simp [results, Try.results42, go_sem, hc8, hc9]) rfl ⟨by rw [EF.out], ?_, ?_⟩
      · rw [EM.out]; exact HM.out.keep (ask_stored HBR.out 0 _ _)
      · exact Keeps.of_below (ask_stored HBR.out 0 _ _) _
end Go.Proofs.Ytdagfddhdnfbkaa
