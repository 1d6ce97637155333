/- (*vmem.Mem): Poke, Protect, ask. -/
import Derived.Test.YtdagfddhdnfbkaaVmemP
namespace Go.Proofs.Ytdagfddhdnfbkaa
open Go.RowKit
set_option linter.unusedVariables false
set_option linter.unusedSimpArgs false
open Go.Proofs.YtdagfddhdnfbkaaW.PrintWords
attribute [local go_sem] b_max2 b_min2 b_max b_min
def pokeB (M : AMem) (p : Int) (n : Nat) : Bool := decide (n ≤ 65536) && allM M p n
def pokeM (M : AMem) (p : Int) (xs : List Int) : AMem := if pokeB M p xs.length = true then putM M p xs else M
set_option maxHeartbeats 800000 in
theorem Poke_calls (F : Nat → Prop) (bm : Nat) (M : AMem) (p : Int) (xs : List Int) (A : Option Addr) (n c : Nat) (w : World) (hM : Has w F bm M) (hr : ReadsInt w .u8 A n xs) (hA : NotIn F A n) (hnc : n ≤ c) (hby : Bytes xs) (h0 : 0 ≤ p) (h1 : p < 18446744073709551616) :
    Calls Try.prog 29 #[.pointer (some ⟨bm, 0, none⟩), .int .u64 p, .slice A n c] w fun e w' => e = .returned (.bool (pokeB M p n)) ∧ Has w' F bm (pokeM M p xs) ∧ Keeps F w w' := by
  have hl := hr.1
  have hn63 := hr.2.1
  unfold pokeM
  rw [hl]
  by_cases hn : 65536 < n
  · have e : pokeB M p n = false := by unfold pokeB; rw [decide_eq_false (by omega)]; rfl
    rw [e]
    have HM := Aside0.mk hM
    clear hM e hr hl
    go_enter Try.func29, Try.ntmps29
    go_wp2
    go_ret
    exact ⟨rfl, HM.out, Keeps.refl _ _⟩
  have e : pokeB M p n = allM M p n := by unfold pokeB; rw [decide_eq_true (by omega)]; rfl
  rw [e]
  clear e
  have hall := all_calls F bm M p n w hM h0 h1 (by omega)
  have HM := Aside0.mk hM
  cases ha : allM M p n with
  | false =>
    rw [ha] at hall
    clear hM ha hr hl
    go_enter Try.func29, Try.ntmps29
    go_wp2_with fail
    refine hall.mono ?_
    rintro e w1 ⟨rfl, HB⟩
    have HB1 := Aside0.mk HB
    clear HB hall
    go_wp2
    go_ret
    exact ⟨rfl, HM.out.keep HB1.out, Keeps.of_below HB1.out _⟩
  | true =>
    rw [ha] at hall
    have HG : Aside0 (∀ w1, Below w.heap.size w w1 → Calls Try.prog 44 #[.pointer (some ⟨bm, 0, none⟩), .int .u64 p, .slice A n c] w1 fun e w' => e = .returned (.tuple #[]) ∧ Has w' F bm (putM M p xs) ∧ Keeps F w1 w') :=
      ⟨fun w1 hb => put_calls F bm M p xs A n c w1 (hM.keep hb) (hr.below hb) hA hnc hby h0 h1 (by omega) ha⟩
    clear hM ha hr hl
    go_enter Try.func29, Try.ntmps29
    go_wp2_with fail
    refine hall.mono ?_
    rintro e w1 ⟨rfl, HB⟩
    have HB1 := Aside0.mk HB
    have hg := HG.out w1 HB
    clear HB hall HG
    go_wp2_with fail
    refine hg.mono ?_
    rintro e w2 ⟨rfl, HM2, HK⟩
    have HM2' := Aside0.mk HM2
    have HK2 : Aside0 (Keeps F w w2) := ⟨(Keeps.of_below HB1.out F).trans HK⟩
    clear HM2 HK hg
    go_wp2
    go_ret
    exact ⟨rfl, HM2'.out, HK2.out⟩
/-- another protection of a page -/
theorem page_setProt {w : World} {b : Nat} {bs : List Int} {pr : Int} (h : Page w b bs pr) (v : Int) (h0 : 0 ≤ v) (h1 : v ≤ 15) : Page (w.setCell ⟨b, 4096, none⟩ (.int .i64 v)) b bs v := by
  refine ⟨?_, h.2.1, h.2.2.1, h0, h1⟩
  rw [blk_set h.1]
  congr 2
  unfold pageCells
  rw [List.setIfInBounds_toArray]
  congr 1
  rw [List.set_append_right _ _ (by rw [nums_length, h.2.1]; exact Nat.le_refl _)]
  simp [nums_length, h.2.1]
theorem keeps_setCell (w : World) (a : Addr) (v : Value) : Keeps (· = a.block) w (w.setCell a v) :=
  ⟨rfl, rfl, rfl, Nat.le_of_eq (by simp [World.setCell]), fun k hk hn => Below.heap_setCell w a v k hn⟩
def protectB (M : AMem) (p n pr : Int) : Bool := decide (0 ≤ pr ∧ pr ≤ 15) && thereM M p n
def setProtM (M : AMem) (p : Int) (N : Nat) (pr : Int) : AMem := ⟨M.most, M.cnt, fun q => if q ∈ rowL p N then (M.pg q).map fun x => (x.1, pr) else M.pg q⟩
def protectM (M : AMem) (p n pr : Int) : AMem := if protectB M p n pr = true then setProtM M p n.toNat pr else M
theorem setProt_step (M : AMem) (p : Int) (k : Nat) (pr : Int) (x : List Int × Int) (h : M.pg (p + k * 4096) = some x) : setPage (setProtM M p k pr) (p + k * 4096) (x.1, pr) = setProtM M p (k + 1) pr := by
  unfold setPage setProtM
  congr 1
  funext q
  by_cases hq : q = p + k * 4096
  · subst hq
    rw [if_pos rfl, if_pos ((rowL_mem _ _ _).2 ⟨k, by omega, rfl⟩), h]
    rfl
  · rw [if_neg hq]
    show (if q ∈ rowL p k then _ else _) = _
    have : q ∈ rowL p (k + 1) ↔ q ∈ rowL p k := by simp [rowL, hq]
    by_cases h2 : q ∈ rowL p k
    · rw [if_pos h2, if_pos (this.2 h2)]
    · rw [if_neg h2, if_neg (fun h => h2 (this.1 h))]
theorem setProt_zero (M : AMem) (p pr : Int) : setProtM M p 0 pr = M := by
  unfold setProtM; simp [rowL]
theorem setProt_pg (M : AMem) (p : Int) (k : Nat) (pr : Int) : (setProtM M p k pr).pg (p + k * 4096) = M.pg (p + k * 4096) := by
  show (if _ then _ else _) = _
  rw [if_neg]
  rw [rowL_mem]; rintro ⟨j, hj, e⟩; omega
set_option maxHeartbeats 1600000 in
theorem Protect_calls (F : Nat → Prop) (bm : Nat) (M : AMem) (p n pr : Int) (w : World) (hM : Has w F bm M) (hp0 : 0 ≤ p) :
    Calls Try.prog 32 #[.pointer (some ⟨bm, 0, none⟩), .int .u64 p, .int .i64 n, .int .i64 pr] w fun e w' => e = .returned (.bool (protectB M p n pr)) ∧ Has w' F bm (protectM M p n pr) ∧ Keeps F w w' := by
  unfold protectM
  by_cases hpr : pr < 0 ∨ 15 < pr
  · have e : protectB M p n pr = false := by unfold protectB; rw [decide_eq_false (by omega)]; rfl
    rw [e]
    have HM := Aside0.mk hM
    clear hM e
    rcases hpr with h | h
    · go_enter Try.func32, Try.ntmps32
      go_wp2
      go_ret
      exact ⟨rfl, HM.out, Keeps.refl _ _⟩
    · go_enter Try.func32, Try.ntmps32
      go_wp2
      go_ret
      exact ⟨rfl, HM.out, Keeps.refl _ _⟩
  have e : protectB M p n pr = thereM M p n := by unfold protectB; rw [decide_eq_true (by omega)]; rfl
  rw [e]
  clear e
  have d0 : decide (pr < 0) = false := decide_eq_false (by omega)
  have d1 : decide (15 < pr) = false := decide_eq_false (by omega)
  have HPR : Aside0 (0 ≤ pr ∧ pr ≤ 15) := ⟨by omega⟩
  clear hpr
  obtain ⟨bp, l, ct, k1, k2, k3, k4, k5, k6, k7⟩ := id hM
  have he : thereM M p n = thereL l p n := by
    unfold thereM thereL
    congr 2
    congr 1
    funext q
    rw [k3 q, Option.isNone_map]; rfl
  have hth := there_calls 0 bm bp M.most l ct p n w k1 hp0
  rw [← he] at hth
  clear k1 k2 k3 k4 k5 k6 k7 he
  have HM := Aside0.mk hM
  cases ht : thereM M p n with
  | false =>
    rw [ht] at hth
    clear hM ht
    go_enter Try.func32, Try.ntmps32
    go_wp2_with fail
    refine hth.mono ?_
    rintro e w1 ⟨rfl, HB⟩
    have HB1 := Aside0.mk HB
    clear HB hth
    go_wp2
    go_ret
    exact ⟨rfl, HM.out.keep HB1.out, Keeps.of_below HB1.out _⟩
  | true =>
    rw [ht] at hth
    unfold thereM at ht
    rw [Bool.and_eq_true] at ht
    obtain ⟨ht1, ht2⟩ := ht
    obtain ⟨N, rfl, h1, h2, h3, -⟩ := may_row ht1
    rw [Int.toNat_natCast] at ht2 ⊢
    have hall : Aside0 (∀ k : Nat, k < N → (M.pg (p + k * 4096)).isSome = true) := ⟨fun k hk => by
      have : (rowL p N).any (fun q => (M.pg q).isNone) = false := by simpa using ht2
      rw [List.any_eq_false] at this
      have := this (p + k * 4096) ((rowL_mem _ _ _).2 ⟨k, hk, rfl⟩)
      cases hl : M.pg (p + k * 4096) with
      | none => rw [hl] at this; simp at this
      | some b => rfl⟩
    clear ht1 ht2 hM
    have hrow := fun w => row_calls p N w hp0 h2 h3
    go_enter Try.func32, Try.ntmps32
    go_wp2_with fail
    refine hth.mono ?_
    rintro e w1 ⟨rfl, HB⟩
    clear hth
    have HM1 := Aside0.mk (HM.out.keep HB)
    have HB1 := Aside0.mk HB
    clear HB HM
    go_wp2_with fail
    refine (hrow _).mono ?_
    rintro e w3 ⟨v3, rfl, HO, HB⟩
    clear hrow
    have HB3 := Aside0.mk (HB1.out.trans (HB.mono HB1.out.size))
    have HM3 := Aside0.mk (HM1.out.keep HB)
    rw [rowL_len] at HO
    obtain ⟨A, c3, rfl, -⟩ := own_reads HO
    have HR3 := Aside0.mk HO
    clear HO HB HB1 HM1
    go_wp2
    go_loopw [28] (fun i wr => ∃ k : Nat, k ≤ N ∧ i = .int .i64 k ∧ Aside0 (Has wr F bm (setProtM M p k pr)) ∧ Aside0 (Keeps F w3 wr) ∧ Aside0 (wr.ownsRow w1.heap.size 25 1 (.slice A N c3) N (nums .u64 (rowL p N)))) (fun i _ => N - (intOf i).toNat)
    case atStart => exact ⟨0, Nat.zero_le _, rfl, ⟨by rw [setProt_zero]; exact HM3.out⟩, ⟨Keeps.refl _ _⟩, HR3⟩
    case round =>
    clear HM3 HR3
    obtain ⟨k, hk, rfl, HM, HK, HR⟩ := hrel
    by_cases hlt : k < N
    · obtain ⟨ad, rfl, hcell⟩ := (own_reads' HR.out).2.2 (by omega)
      have hc := hcell k hlt
      rw [rowL_get p N k hlt] at hc
      clear hcell
      obtain ⟨bp, l, ct, k1, k2, k3, k4, k5, k6, k7⟩ := id HM.out
      obtain ⟨x, hx⟩ := Option.isSome_iff_exists.1 (hall.out k hlt)
      have hgq := k3 (p + k * 4096)
      rw [setProt_pg, hx] at hgq
      cases hb : l.lookup (p + k * 4096) with
      | none => rw [hb] at hgq; cases hgq
      | some b =>
      rw [hb] at hgq
      have hct : ct b = x := by simpa using hgq.symm
      have hpg := has_page k1 hb
      rw [hct] at hpg
      have HST := Aside0.mk (setProt_step M p k pr x hx)
      obtain ⟨c0, -⟩ := k1.cells
      have hl := lookup_page wr bp l k1.map (p + k * 4096)
      rw [hb] at hl
      simp only [ptrV] at hl
      obtain ⟨hp1, hp2⟩ := page_prot hpg
      obtain ⟨w4, hw4⟩ : ∃ w4, wr.setCell ⟨b, 4096, none⟩ (.int .i64 pr) = w4 := ⟨_, rfl⟩
      have hk4 : Keeps (· = b) wr w4 := hw4 ▸ keeps_setCell wr ⟨b, 4096, none⟩ _
      have hp4 : Page w4 b x.1 pr := hw4 ▸ page_setProt hpg pr HPR.out.1 HPR.out.2
      obtain ⟨HM4', hFb⟩ := Has.set (w2 := w4) (x := (x.1, pr)) HM.out k1 k2 k3 k7 hb hp4 hk4
      rw [HST.out] at HM4'
      have HM4 := Aside0.mk HM4'
      have HK4 : Aside0 (Keeps F w3 w4) := ⟨HK.out.trans (hk4.mono fun _ _ e => e ▸ hFb)⟩
      have HR4 := Aside0.mk (own_move HR.out (w1 := w4) (fun z hz => hk4.block z (own_lt HR.out z hz) (fun e => by
        obtain ⟨cells, hh⟩ := own_typed HR.out z hz
        rw [e, hpg.1] at hh
        simp only [Option.some.injEq, Obj.cells.injEq] at hh
        exact absurd hh.2.1 (by decide))))
      have HW4 := Aside0.mk hw4
      clear hw4 hk4 hp4 HM4' hFb HM HK HR hpg hct hgq k1 k2 k3 k4 k5 k6 k7 hb hx HST hall
      go_wp2
      rw [HW4.out]
      go_roundw
      case rel => exact ⟨k + 1, by omega, by go_num, HM4, HK4, HR4⟩
      case measure => simp [intOf]; omega
    · obtain rfl : k = N := by omega
      have HKK : Aside0 (Keeps F w wr) := ⟨(Keeps.of_below HB3.out F).trans HK.out⟩
      go_wp2
      go_ret
      exact ⟨rfl, HM.out, HKK.out⟩
end Go.Proofs.Ytdagfddhdnfbkaa
