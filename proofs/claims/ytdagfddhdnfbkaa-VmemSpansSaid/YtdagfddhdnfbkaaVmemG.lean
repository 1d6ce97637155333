/- (*vmem.Mem): bytes are read: get, Peek. -/
import Derived.Test.YtdagfddhdnfbkaaVmemT
import Derived.StillTailTactics
import Derived.Outline
import Derived.Deep.RegionHeld3
namespace Go.Proofs.Ytdagfddhdnfbkaa
open Go.RowKit
set_option linter.unusedVariables false
set_option linter.unusedSimpArgs false
open Go.Proofs.YtdagfddhdnfbkaaW.PrintWords
attribute [local go_sem] b_max2 b_min2 b_max b_min
def byteM (M : AMem) (a : Int) : Int := match M.pg (baseV a) with | some x => x.1.getD (a % 4096).toNat 0 | none => 0
def bytesM (M : AMem) (p : Int) (m : Nat) : List Int := (List.range m).map fun i => byteM M (aT p i)
theorem bytesM_len (M : AMem) (p : Int) (m : Nat) : (bytesM M p m).length = m := by simp [bytesM]
theorem bytesM_get (M : AMem) (p : Int) (m i : Nat) (h : i < m) : (bytesM M p m).getD i 0 = byteM M (aT p i) := by
  simp [bytesM, List.getD_eq_getElem?_getD, h]
theorem list_ext_getD {xs ys : List Int} (hl : xs.length = ys.length) (h : ∀ i, i < xs.length → xs.getD i 0 = ys.getD i 0) : xs = ys := by
  apply List.ext_getElem hl
  intro i h1 h2
  have := h i h1
  simpa [List.getD_eq_getElem?_getD, h1, h2] using this
theorem getD_append_l {xs ys : List Int} {i : Nat} (h : i < xs.length) : (xs ++ ys).getD i 0 = xs.getD i 0 := by
  simp [List.getD_eq_getElem?_getD, List.getElem?_append, h]
theorem getD_append_r {xs ys : List Int} {i : Nat} (h : xs.length ≤ i) : (xs ++ ys).getD i 0 = ys.getD (i - xs.length) 0 := by
  simp [List.getD_eq_getElem?_getD, List.getElem?_append, Nat.not_lt.2 h]
theorem getD_take {xs : List Int} {n i : Nat} (h : i < n) : (xs.take n).getD i 0 = xs.getD i 0 := by
  simp [List.getD_eq_getElem?_getD, List.getElem?_take, h]
theorem getD_drop {xs : List Int} {n i : Nat} : (xs.drop n).getD i 0 = xs.getD (n + i) 0 := by
  simp [List.getD_eq_getElem?_getD, List.getElem?_drop]
theorem bytesM_step (M : AMem) (p : Int) (n k : Nat) (h : k < numT p n) (bs : List Int) (pr : Int) (hl : bs.length = 4096) (hp : M.pg (baseV (aT p (cT p n k))) = some (bs, pr)) :
    bytesM M p (cT p n (k + 1)) = bytesM M p (cT p n k) ++ (bs.drop (aT p (cT p n k) % 4096).toNat).take (cT p n (k + 1) - cT p n k) := by
  have hs := cT_step p n k h
  obtain ⟨a0, a1⟩ := aT_range p (cT p n k)
  have hm : 0 ≤ aT p (cT p n k) % 4096 ∧ aT p (cT p n k) % 4096 < 4096 := by omega
  have hlt := cT_lt p n k h
  apply list_ext_getD
  · rw [List.length_append, bytesM_len, bytesM_len, List.length_take, List.length_drop, hl]; omega
  · intro i hi
    rw [bytesM_len] at hi
    rw [bytesM_get M p _ i hi]
    by_cases hc : i < cT p n k
    · rw [getD_append_l (by rw [bytesM_len]; exact hc), bytesM_get M p _ i hc]
    · obtain ⟨e1, e2⟩ := touch_base p n k i h (by omega) hi
      rw [getD_append_r (by rw [bytesM_len]; omega), bytesM_len, getD_take (by omega), getD_drop]
      unfold byteM
      rw [e1, hp, e2]
      show bs.getD _ 0 = bs.getD _ 0
      congr 1
      have : (aT p (cT p n k) + ((i - cT p n k : Nat) : Int)) % 4096 = aT p (cT p n k) % 4096 + ((i - cT p n k : Nat) : Int) := by
        have : ((i - cT p n k : Nat) : Int) < 4096 - aT p (cT p n k) % 4096 := by omega
        omega
      rw [this]; omega
theorem has_page {w : World} {bp : Nat} {bm : Nat} {most : Int} {l : List (Int × Nat)} {ct : Nat → List Int × Int} (h : MemR w 0 bm bp most l ct) {q : Int} {b : Nat} (hb : l.lookup q = some b) : Page w b (ct b).1 (ct b).2 := (h.page _ (lookup_mem hb)).2
/-- what a page's cells read as -/
theorem page_reads {w : World} {b : Nat} {bs : List Int} {pr : Int} (h : Page w b bs pr) (o m : Nat) (hm : o + m ≤ 4096) : ReadsInt w .u8 (some ⟨b, o, none⟩) m ((bs.drop o).take m) := by
  refine ⟨by rw [List.length_take, List.length_drop, h.2.1]; omega, by omega, fun _ => ⟨_, rfl, fun j hj => ?_⟩⟩
  rw [getD_take hj, getD_drop]
  have e : (⟨b, o, none⟩ : Addr).add j = ⟨b, o + j, none⟩ := by
    cases j with
    | zero => simp [Addr.add]
    | succ j => simp [Addr.add]
  rw [e]
  simp only [World.cell?, h.1]
  have : o + j < bs.length := by rw [h.2.1]; omega
  simp [pageCells, List.getElem?_append, nums_length, this, nums, List.getD_eq_getElem?_getD]
theorem own_below {w w1 : World} {base : Nat} {e : TypeId} {size n : Nat} {v : Value} {xs : List Value} (h : w.ownsRow base e size v n xs) (hb : Below w.heap.size w w1) : w1.ownsRow base e size v n xs :=
  own_move h fun k hk => hb.block k (own_lt h k hk)
def OwnB (w : World) (xs : List Int) (e : Ending) (w' : World) : Prop := ∃ v1, e = .returned v1 ∧ w'.ownsRow w.heap.size 5 1 v1 xs.length (nums .u8 xs) ∧ Below w.heap.size w w'
theorem Has.grown {W w1 : World} {F : Nat → Prop} {bm : Nat} {M : AMem} (h : Has W F bm M) {base n size : Nat} {e : TypeId} {v : Value} {xs : List Value} (he1 : e ≠ 72) (he2 : e ≠ 65) (hr : W.ownsRow base e size v n xs)
    (hg : W.grownBy w1 v.ownBlock) : Has w1 F bm M := by
  refine h.keeps (S := fun b => some b = v.ownBlock) ⟨hg.os, hg.tape, hg.output, hg.size, fun k hk hn => hg.block k hk hn⟩ (fun b hb hs => ?_)
  obtain ⟨bp, l, ct, h1, h2, h3, h4, h5, h6, h7⟩ := h
  obtain ⟨cells, hg⟩ := own_typed hr b hs.symm
  rcases (h7 b).1 hb with rfl | rfl | ⟨x, hx, rfl⟩
  · rw [h1.head] at hg
    simp only [Option.some.injEq, Obj.cells.injEq] at hg
    exact he2 hg.2.1.symm
  · obtain ⟨es, clock, hm, -⟩ := h1.map
    rw [hm] at hg; simp at hg
  · rw [(h1.page x hx).2.1] at hg
    simp only [Option.some.injEq, Obj.cells.injEq] at hg
    exact he1 hg.2.1.symm
theorem still_of {P : Program} {f : FuncId} {args : Array Value} {w : World} {v : Value} (h : Calls P f args w fun e w' => e = .returned v ∧ w = w') : Calls P f args w fun e w' => e = .returned v ∧ w' = w := h.mono fun _ _ ⟨a, b⟩ => ⟨a, b.symm⟩
theorem size_u8 (w : World) : (sizeOf 5).run Try.prog w = .ok 1 w := by kernel_rfl
theorem slice_page_lh (w : World) (b : Nat) (kl kh : IntKind) (f m : Int) (h0 : 0 ≤ f) (h1 : 0 ≤ m) (h2 : f + m ≤ 4096) (h3 : f < 4096) :
    (Instr.sliceAt 70 (.pointer (some ⟨b, 0, none⟩)) (some (.int kl f)) (some (.int kh (f + m))) none).run Try.prog w = .ok (.slice (some ⟨b, f.toNat, none⟩) m.toNat (4096 - f).toNat) w := by
  obtain ⟨h, hh⟩ : ∃ h, f + m = h := ⟨_, rfl⟩
  rw [hh] at h2 ⊢
  have e1 : (Instr.sliceBound (.int kh h) 4096 .sliceAlen).run Try.prog w = .ok h.toNat w := run_sliceBound w kh h 4096 _ (by omega) h2
  have e2 : (Instr.sliceBound (.int kl f) h.toNat .sliceB).run Try.prog w = .ok f.toNat w := run_sliceBound w kl f _ _ h0 (by omega)
  have e3 : ¬ 4096 = f.toNat := by omega
  simp [Instr.sliceAt, run_underlying Try.underlying70, Instr.sureAddr, Instr.sliceBounds, e1, e2, size_u8, e3]
  refine ⟨?_, by omega, by omega⟩
  unfold Addr.add
  split
  · rename_i h; simp [h]
  · simp
theorem slice_page_l (w : World) (b : Nat) (kl : IntKind) (f : Int) (h0 : 0 ≤ f) (h3 : f < 4096) :
    (Instr.sliceAt 70 (.pointer (some ⟨b, 0, none⟩)) (some (.int kl f)) none none).run Try.prog w = .ok (.slice (some ⟨b, f.toNat, none⟩) (4096 - f).toNat (4096 - f).toNat) w := by
  have e2 : (Instr.sliceBound (.int kl f) 4096 .sliceB).run Try.prog w = .ok f.toNat w := run_sliceBound w kl f _ _ h0 (by omega)
  have e3 : ¬ 4096 = f.toNat := by omega
  simp [Instr.sliceAt, run_underlying Try.underlying70, Instr.sureAddr, Instr.sliceBounds, e2, size_u8, e3]
  refine ⟨?_, by omega⟩
  unfold Addr.add
  split
  · rename_i h; simp [h]
  · simp
theorem info_u8' : ∃ i0, Try.prog.info? 5 = some i0 ∧ i0.zero = some (.int .u8 0) ∧ i0.size = 1 ∧ i0.bytes = 1 := by
  obtain ⟨i0, hi, hz⟩ := Option.map_eq_some_iff.1 (show (Try.prog.info? 5).map (fun i => (i.zero, i.size, i.bytes)) = some (some (.int .u8 0), 1, 1) from by kernel_rfl)
  simp only [Prod.mk.injEq] at hz
  exact ⟨i0, hi, hz⟩
theorem Below.of_grown {w w' : World} (h : w.grownBy w' none) : Below w.heap.size w w' := ⟨h.os, h.tape, h.output, h.size, fun k hk => h.block k hk (by simp)⟩
set_option maxHeartbeats 1600000 in
set_option maxRecDepth 100000 in
theorem get_calls (F : Nat → Prop) (bm : Nat) (M : AMem) (p : Int) (n : Nat) (w : World) (hM : Has w F bm M) (h0 : 0 ≤ p) (h1 : p < 18446744073709551616) (hn : n ≤ 65536) (hall : allM M p n = true) :
    Calls Try.prog 43 #[.pointer (some ⟨bm, 0, none⟩), .int .u64 p, .int .i64 n] w (OwnB w (bytesM M p n)) := by
  have ht := fun w => touched_calls p n w h0 h1 hn
  have HA := Aside0.mk ((allM_iff M p n).1 hall)
  have hN := numT_le p n
  obtain ⟨i0, hi, hz0, hz1, hz2⟩ := info_u8'
  obtain ⟨w0, hmk, hown, hgr⟩ := run_make_own (P := Try.prog) w w.heap.size 43 5 i0 _ 1 Try.underlying43 hi hz0 hz1 .i64 .i64 n (by rw [hz2]; omega) (by unfold maxLen; omega) (Nat.le_refl _)
  clear hi hz0 hz1 hz2 hall
  have HO := Aside0.mk hown
  have hb0 := Below.of_grown hgr
  have HB := Aside0.mk hb0
  have HM := Aside0.mk (hM.keep hb0)
  clear hM hown hgr hb0
  go_enter Try.func43, Try.ntmps43
  go_wp2_with fail
  refine (ht _).mono ?_
  rintro e w1 ⟨v1, rfl, HT0, HB1⟩
  have HM1 := Aside0.mk (HM.out.keep HB1)
  have HBB := Aside0.mk (HB.out.trans (HB1.mono HB.out.size))
  have HO1 := Aside0.mk (own_below HO.out HB1)
  rw [touchL_len] at HT0
  obtain ⟨A, ct9, rfl, -⟩ := own_reads HT0
  have HR1 := Aside0.mk HT0
  clear HT0 HB1 HM HB HO ht hmk
  go_wp2
  go_loopw [7, 18] (fun b iv wr => ∃ k : Nat, k ≤ numT p n ∧ iv = .int .i64 k ∧ Aside0 (wr.ownsRow w.heap.size 5 1 b (bytesM M p (cT p n k)).length (nums .u8 (bytesM M p (cT p n k)))) ∧ Aside0 (Below w.heap.size w wr) ∧ Aside0 (Has wr F bm M) ∧ Aside0 (wr.ownsRow w0.heap.size 25 1 (.slice A (numT p n) ct9) (numT p n) (nums .u64 (touchL p n (numT p n))))) (fun _ iv _ => numT p n - (intOf iv).toNat)
  case atStart => exact ⟨0, Nat.zero_le _, rfl, HO1, HBB, HM1, HR1⟩
  case round =>
  clear HO1 HBB HM1 HR1
  obtain ⟨k, hk, rfl, HO, HB, HM, HR⟩ := hrel
  by_cases hlt : k < numT p n
  · obtain ⟨ad, rfl, hcell⟩ := (own_reads' HR.out).2.2 (by omega)
    have hc := hcell k hlt
    rw [touchL_get p n _ k hlt] at hc
    clear hcell
    obtain ⟨a0, a1⟩ := aT_range p (cT p n k)
    have hcl := cT_lt p n k hlt
    have hs := cT_step p n k hlt
    obtain ⟨bp, l, ct, k1, k2, k3, -⟩ := HM.out
    have hsome := HA.out _ hcl
    rw [k3] at hsome
    cases hb : l.lookup (baseV (aT p (cT p n k))) with
    | none => rw [hb] at hsome; simp at hsome
    | some b =>
    have hpg := has_page k1 hb
    have hbs := bytesM_step M p n k hlt (ct b).1 (ct b).2 hpg.2.1 (by rw [k3, hb]; rfl)
    have HS := Aside0.mk hbs
    obtain ⟨c0, -⟩ := k1.cells
    have hl := lookup_page wr.drew bp l (k1.map.drewN 1) (baseV (aT p (cT p n k)))
    rw [hb] at hl
    simp only [ptrV] at hl
    have hlen := Aside0.mk (bytesM_len M p (cT p n k))
    have hbv : 0 ≤ baseV (aT p (cT p n k)) ∧ baseV (aT p (cT p n k)) ≤ aT p (cT p n k) ∧ aT p (cT p n k) - baseV (aT p (cT p n k)) ≤ 4095 := by unfold baseV; omega
    have hfm : aT p (cT p n k) % 4096 = aT p (cT p n k) - baseV (aT p (cT p n k)) := by unfold baseV; omega
    have hbase := fun w => still_of (base_calls (aT p (cT p n k)) w a0 a1)
    rw [hfm] at hs
    rw [hfm] at HS
    generalize baseV (aT p (cT p n k)) = bv at *
    generalize aT p (cT p n k) = av at *
    obtain ⟨c, hcc⟩ : ∃ c : Nat, cT p n k = c := ⟨_, rfl⟩
    obtain ⟨c', hcc'⟩ : ∃ c : Nat, cT p n (k + 1) = c := ⟨_, rfl⟩
    rw [hcc] at hcl hs HS hlen HO
    rw [hcc'] at hs HS
    have HC' := Aside0.mk hcc'
    obtain ⟨kk, hkk⟩ : ∃ kk : Int, (if 4096 - (av - bv) < n - c then 4096 - (av - bv) else (n : Int) - c) = kk := ⟨_, rfl⟩
    have hk2 : Aside0 (kk = (c' : Int) - c) := ⟨by rw [← hkk]; split <;> omega⟩
    have hk3 : 1 ≤ kk ∧ av - bv + kk ≤ 4096 := by rw [← hkk]; split <;> omega
    clear hcc hcc' hs hfm k1 k2 k3 hb
    have hle : (bytesM M p c).length ≤ 65536 := by rw [hlen.out]; omega
    have hl9 : ((bytesM M p c).length : Int) = c := by rw [hlen.out]
    obtain ⟨A8, c8, rfl, -⟩ := own_reads HO.out
    have hHO := HO.out
    rw [hlen.out] at hHO HO ⊢
    have HO' := Aside0.mk hHO
    clear hHO hle hl9
    go_wp2_with fail
    refine (hbase _).mono ?_
    rintro e w2 ⟨rfl, rfl⟩
    go_wp2_with fail
    have hsum : IntKind.i64.wrap (av - bv + kk) = av - bv + kk := by rw [IntKind.wrap_i64]; omega
    have hsl := slice_page_lh w2.drew b .i64 .i64 (av - bv) kk (by omega) (by omega) (by omega) (by omega)
    go_still_tail 15, (by kernel_rfl)
    change wpStill _ _ w2.drew _ _ _
    still_call (hbase _)
    repeat still_step
    refine wpStill_nil ?_
    have hpr := page_reads hpg (av - bv).toNat kk.toNat (by omega)
    have e5 : kk.toNat = c' - c := by have := hk2.out; omega
    have HPR : ReadsInt w2.drew .u8 (some ⟨b, (av - bv).toNat, none⟩) kk.toNat (((ct b).1.drop (av - bv).toNat).take (c' - c)) := by rw [← e5]; exact hpr
    have hc9 : c' ≤ 65536 := by have := cT_le p n (k + 1); have := HC'.out; omega
    refine print_append_row (w0 := w) w.heap.size rfl (.tmp 34) (.tmp 48) 43 5 .u8 1 rfl Try.underlying43 (by kernel_rfl) (by decide) _ (bytesM M p c) _ _ _ _ rfl rfl (by rw [hlen.out]; exact own_drew HO'.out) HPR HB.out.drew HB.out.size (by rw [hlen.out]; omega) ?_
    intro v1 w1 hown hb1 hg hat
    have HM2 := Aside0.mk (Has.grown (W := w2.drew) (HM.out.keep (Below.refl _ _).drew) (by decide) (by decide) (own_drew HO'.out) hg)
    have HR2 := Aside0.mk (own_other (own_drew HR.out) hg (own_type_ne (own_drew HR.out) (own_drew HO'.out) (by decide)))
    rw [← HS.out] at hown
    have HO2 := Aside0.mk hown
    have HB2 := Aside0.mk hb1
    clear hown hb1 hg hat HO' HO HR HM HB hpr e5 HPR
    go_wp2
    go_roundw
    case rel => exact ⟨k + 1, by omega, by go_num, by rw [HC'.out]; exact HO2, HB2, HM2, HR2⟩
    case measure => simp [intOf]; omega
  · obtain rfl : k = numT p n := by omega
    rw [cT_end] at HO
    go_wp2
    go_ret
    exact ⟨_, rfl, HO.out, HB.out⟩
def peekB (M : AMem) (p n : Int) : Bool := decide (0 ≤ n ∧ n ≤ 65536) && allM M p n.toNat
def peekL (M : AMem) (p n : Int) : List Int := if peekB M p n = true then bytesM M p n.toNat else []
def OwnB2 (w : World) (xs : List Int) (b : Bool) (e : Ending) (w' : World) : Prop := ∃ v1, e = .returned (.tuple #[v1, .bool b]) ∧ w'.ownsRow w.heap.size 5 1 v1 xs.length (nums .u8 xs) ∧ Below w.heap.size w w'
set_option maxHeartbeats 800000 in
theorem Peek_calls (F : Nat → Prop) (bm : Nat) (M : AMem) (p n : Int) (w : World) (hM : Has w F bm M) (h0 : 0 ≤ p) (h1 : p < 18446744073709551616) :
    Calls Try.prog 28 #[.pointer (some ⟨bm, 0, none⟩), .int .u64 p, .int .i64 n] w (OwnB2 w (peekL M p n) (peekB M p n)) := by
  have e0 : ∀ (v1 : Value) (w' : World), v1 = .slice none 0 0 → Below w.heap.size w w' → OwnB2 w [] false (.returned (.tuple #[v1, .bool false])) w' := fun v1 w' e hb => ⟨_, rfl, e ▸ own_nil _ _ _ _, hb⟩
  have E0 := Aside0.mk e0
  clear e0
  by_cases hn0 : n < 0
  · have e : peekB M p n = false := by unfold peekB; rw [decide_eq_false (by omega)]; rfl
    unfold peekL
    rw [e]
    clear hM e
    go_enter Try.func28, Try.ntmps28
    go_wp2
    go_ret2
    exact E0.out _ _ rfl (Below.refl _ _)
  by_cases hn1 : 65536 < n
  · have e : peekB M p n = false := by unfold peekB; rw [decide_eq_false (by omega)]; rfl
    unfold peekL
    rw [e]
    clear hM e
    go_enter Try.func28, Try.ntmps28
    go_wp2
    go_ret2
    exact E0.out _ _ rfl (Below.refl _ _)
  obtain ⟨N, rfl⟩ := Int.eq_ofNat_of_zero_le (show 0 ≤ n by omega)
  have e : peekB M p N = allM M p N := by unfold peekB; rw [decide_eq_true (by omega)]; rfl
  unfold peekL
  rw [e, Int.toNat_natCast]
  clear e
  have hall := all_calls F bm M p N w hM h0 h1 (by omega)
  cases ha : allM M p N with
  | false =>
    rw [ha] at hall
    clear hM ha
    go_enter Try.func28, Try.ntmps28
    go_wp2_with fail
    refine hall.mono ?_
    rintro e w1 ⟨rfl, HB⟩
    have HB1 := Aside0.mk HB
    clear HB hall
    go_wp2
    go_ret2
    exact E0.out _ _ rfl HB1.out
  | true =>
    rw [ha] at hall
    have HG : Aside0 (∀ w1, Below w.heap.size w w1 → Calls Try.prog 43 #[.pointer (some ⟨bm, 0, none⟩), .int .u64 p, .int .i64 N] w1 (OwnB w1 (bytesM M p N))) := ⟨fun w1 hb => get_calls F bm M p N w1 (hM.keep hb) h0 h1 (by omega) ha⟩
    clear hM ha
    generalize bytesM M p N = xs at HG ⊢
    go_enter Try.func28, Try.ntmps28
    go_wp2_with fail
    refine hall.mono ?_
    rintro e w1 ⟨rfl, HB⟩
    have HB1 := Aside0.mk HB
    have hg := HG.out w1 HB
    clear HB hall HG
    go_wp2_with fail
    refine hg.mono ?_
    rintro e w2 ⟨v1, rfl, HO, HB⟩
    have HO2 := Aside0.mk (own_weaken HO HB1.out.size)
    have HB2 := Aside0.mk (HB1.out.trans (HB.mono HB1.out.size))
    clear HB HO hg
    go_wp2
    go_ret2
    exact ⟨_, rfl, HO2.out, HB2.out⟩
end Go.Proofs.Ytdagfddhdnfbkaa
