/- The walk of rel.entry. -/
import Derived.Test.YtojlcoebbgafhaaRelP
import Derived.Deep.RegionHeld3
import Derived.StillTailTactics
import Derived.Outline
import Derived.Deep.RegionLaw
import Derived.Deep.AppendLies
namespace Go.Proofs.Ytojlcoebbgafhaa
open Go.RowKit
set_option linter.unusedVariables false
set_option linter.unusedSimpArgs false
open PR
open Go.Proofs.YtojlcoebbgafhaaW.PrintWords Go.Proofs.YtojlcoebbgafhaaW.PrintLast Go.Proofs.YtojlcoebbgafhaaW.PrintMore
theorem bdrew {B : Nat} {a w : World} (h : Below B a w) (n : Nat) : Below B a (w.drewN n) := h.trans ⟨rfl, rfl, rfl, Nat.le_refl _, fun _ _ => rfl⟩
theorem quiet_left {P : Program} {f : FuncId} {args : Array Value} {w : World} {n : Nat} {v : Value}
    (h : Calls P f args (w.drewN n) fun e w' => e = .returned v ∧ w.drewN n = w') : Calls P f args (w.drewN n) fun e w'' => e = .returned v ∧ ∃ m, w'' = w.drewN m :=
  h.mono fun _ _ ⟨he, hm⟩ => ⟨he, n, hm.symm⟩
theorem reads_u8 {w : World} {B : Nat} {ok : Nat → Prop} {A : Option Addr} {n c : Nat} {xs : List Int} (h : Kd.R (Kd.int .u8) 5 w B ok (.slice A n c) xs) : ReadsInt w .u8 A n xs ∧ n ≤ c ∧ xs.length = n := by
  obtain ⟨h1, h2, h3⟩ := Kd.R_reads' h
  rw [← h1] at h3
  exact ⟨Kd.reads_of_C (d := (0 : Int)) h3, h2, h1.symm⟩
structure RdIs (w : World) (B rd : Nat) (A : Option Addr) (n c tk : Nat) (ts : List Int) (out : List S46) (v : Value) : Prop where
  blk : w.heap[rd]? = some (.cells #[.slice A n c, v, .slice (some ⟨tk, 0, none⟩) n n] 96 (0, 0))
  tak : Kd.R (Kd.int .u8) 5 w B (fun _ => True) (.slice (some ⟨tk, 0, none⟩) n n) ts
  row : Kd.R k46 46 w B (fun _ => True) v out
theorem RdIs.below {w w1 : World} {B rd : Nat} {A : Option Addr} {n c tk : Nat} {ts : List Int} {out : List S46} {v : Value} (h : RdIs w B rd A n c tk ts out v) (hb : Below w.heap.size w w1) : RdIs w1 B rd A n c tk ts out v :=
  ⟨blk_below h.blk hb, Kd.R_below h.tak hb, Kd.R_below h.row hb⟩
theorem RdIs.cell {w : World} {B rd : Nat} {A : Option Addr} {n c tk : Nat} {ts : List Int} {out : List S46} {v : Value} (h : RdIs w B rd A n c tk ts out v) (q : Nat) (hq : q < n) :
    w.cell? ⟨tk, q, none⟩ = some (.int .u8 (ts.getD q 0)) ∧ w.frozen? ⟨tk, q, none⟩ = false := by
  have := Kd.R_celln (d := (0 : Int)) h.tak (q : Int) (by omega) (by omega)
  rw [Int.toNat_natCast] at this
  exact this
theorem RdIs.put {w : World} {B rd : Nat} {A : Option Addr} {n c tk : Nat} {ts : List Int} {out : List S46} {v : Value} (h : RdIs w B rd A n c tk ts out v) (q : Nat) (x : Int) :
    RdIs (w.setCell ⟨tk, q, none⟩ (.int .u8 x)) B rd A n c tk (ts.set q x) out v := by
  obtain ⟨cells, hc⟩ := Kd.R_typed h.tak tk rfl
  refine ⟨blk_far h.blk (blk_ne h.blk hc (by decide)) _, ?_, Kd.R_set h.row hc (by decide) q _⟩
  have := Kd.R_putn h.tak (q : Int) x
  rw [Int.toNat_natCast] at this
  exact this
theorem RdIs.tkB {w : World} {B rd : Nat} {A : Option Addr} {n c tk : Nat} {ts : List Int} {out : List S46} {v : Value} (h : RdIs w B rd A n c tk ts out v) : B ≤ tk ∧ ∃ cells, w.heap[tk]? = some (.cells cells 5 (0, 0)) :=
  ⟨Kd.R_base h.tak tk rfl, Kd.R_typed h.tak tk rfl⟩
theorem long_calls (k : Int) (w : World) : Calls Try.prog 43 #[.int .i64 k] w fun e w' => e = .returned (.int .i64 (longK k)) ∧ w = w' := by
  by_cases h3 : k = 3
  · rw [show longK k = 4 from if_pos h3]
    have d : (k == 3) = true := beq_iff_eq.2 h3
    clear h3
    go_enter Try.func43, Try.ntmps43
    go_wp2
    go_ret
    exact ⟨rfl, rfl⟩
  · have d : (k == 3) = false := beq_eq_false_iff_ne.2 h3
    by_cases h10 : k = 10
    · rw [show longK k = 8 by unfold longK; rw [if_neg h3, if_pos h10]]
      have d2 : (k == 10) = true := beq_iff_eq.2 h10
      clear h3 h10
      go_enter Try.func43, Try.ntmps43
      go_wp2
      go_ret
      exact ⟨rfl, rfl⟩
    · rw [show longK k = 0 by unfold longK; rw [if_neg h3, if_neg h10]]
      have d2 : (k == 10) = false := beq_eq_false_iff_ne.2 h10
      clear h3 h10
      go_enter Try.func43, Try.ntmps43
      go_wp2
      go_ret
      exact ⟨rfl, rfl⟩
abbrev TS (rd g : Nat) (v1 v2 v3 : Value) (w' : World) : Prop := w'.cell? ⟨rd, 1, none⟩ = some v1 ∧ w'.frozen? ⟨rd, 1, none⟩ = false ∧ w'.cell? ⟨g, 0, none⟩ = some v2 ∧ w'.cell? ⟨g, 1, none⟩ = some v3
theorem TS_of {w : World} {rd g : Nat} {v1 v2 v3 : Value} {x y : Value} {t u : TypeId} (h : w.heap[rd]? = some (.cells #[x, v1, y] t (0, 0))) (k : w.heap[g]? = some (.cells #[v2, v3] u (0, 0))) : TS rd g v1 v2 v3 w :=
  ⟨(blk_cell h 1).trans rfl, blk_frozen h 1, (blk_cell k 0).trans rfl, (blk_cell k 1).trans rfl⟩
theorem below_grown {B : Nat} {W0 W w5 : World} {row : Option Nat} (hb : Below B W0 W) (hg : W.grownBy w5 row) (hB : B ≤ W.heap.size) (hr : ∀ k, row = some k → B ≤ k) : Below B W0 w5 :=
  hb.trans ⟨hg.os, hg.tape, hg.output, hg.size, fun k hk => hg.block k (by omega) (fun e => by have := hr k e.symm; omega)⟩
def EntryPost (W0 : World) (B rd : Nat) (A : Option Addr) (n c tk : Nat) (r : Option (List S46)) (e : Ending) (w' : World) : Prop :=
  e = .returned (.bool r.isSome) ∧ Below B W0 w' ∧ ∀ o, r = some o → ∃ v', RdIs w' B rd A n c tk (tkL n o) o v'
set_option maxHeartbeats 4000000 in
set_option maxRecDepth 100000 in
theorem entry_calls (W0 : World) (B rd : Nat) (A : Option Addr) (n c tk : Nat) (out : List S46) (v : Value) (w : World) (hn : n ≤ 140737488355328) (hS : RdIs w B rd A n c tk (tkL n out) out v) (ho : OutOk n out)
    (hb : Below B W0 w) (hB : B ≤ w.heap.size) (hrd : B ≤ rd) (page val : Int) (h0 : 0 ≤ page) (h1 : page < 4294967296) (h2 : 0 ≤ val) (h3 : val < 65536) :
    Calls Try.prog 59 #[.pointer (some ⟨rd, 0, none⟩), .int .i64 page, .int .i64 val] w (EntryPost W0 B rd A n c tk (entryP n out (val / 4096) (page + val % 4096))) := by
  have ha := and4095 val h2 h3
  obtain ⟨a, ea⟩ : ∃ a : Int, a = val % 4096 := ⟨_, rfl⟩
  have ha0 : 0 ≤ a := by omega
  have ha1 : a < 4096 := by omega
  rw [← ea] at ha ⊢
  obtain ⟨p, hp⟩ : ∃ p : Int, p = page + a := ⟨_, rfl⟩
  have hw : wrap64 (page + a) = p := by rw [hp]; unfold wrap64; omega
  rw [← hp]
  have hp0 : 0 ≤ p := by omega
  have hp1 : p < 4294971392 := by omega
  obtain ⟨K, hK⟩ : ∃ K : Int, K = val / 4096 := ⟨_, rfl⟩
  have hK' : val / 4096 = K := hK.symm
  rw [hK']
  obtain ⟨Av, cv, rfl⟩ := Kd.R_slice hS.row
  have hx0 := (blk_cell hS.blk 0).trans rfl
  have hx1 := (blk_cell hS.blk 1).trans rfl
  have hx2 := (blk_cell hS.blk 2).trans rfl
  obtain ⟨g, hg⟩ : ∃ g, w.heap.size = g := ⟨_, rfl⟩
  obtain ⟨w1, hw1⟩ : ∃ w1, w.alloc (.cells #[.int .i64 K, .int .i64 p] 46) = w1 := ⟨_, rfl⟩
  have hb1 : Below w.heap.size w w1 := by rw [← hw1]; exact Below.alloc (Below.refl _ _) (Nat.le_refl _) _
  have BK := Aside0.mk (show w1.heap[g]? = some (.cells #[.int .i64 K, .int .i64 p] 46 (0, 0)) by rw [← hw1, ← hg]; exact blk_new w _)
  have HB := Aside0.mk (hb.trans (hb1.mono hB))
  have hgB : B ≤ g := by omega
  have HS := Aside0.mk (hS.below hb1)
  have hrdg : rd ≠ g := by have := blk_lt hS.blk; omega
  have HG := Aside0.mk (Kd.R_mono (Kd.R_bound hS.row) (ok' := fun k => k ≠ g) (fun k hk => by have := hk.2.2.1; omega))
  have HG1 := Aside0.mk (Kd.R_below HG.out hb1)
  have HO := Aside0.mk ho
  have QG := Aside0.mk hg
  have QW := Aside0.mk hw1
  clear hS ho hb hp ea hK h0 h1 ha0 ha1 HG hb1 hg hw1 hB
  by_cases hk0 : K = 0
  · rw [show entryP n out K p = some out from if_pos hk0]
    have d : (K == 0) = true := beq_iff_eq.2 hk0
    clear hk0
    go_enter Try.func59, Try.ntmps59
    go_wp2
    rw [QW.out]
    go_ret
    exact ⟨rfl, HB.out, fun o e => by obtain rfl := Option.some.inj e; exact ⟨_, HS.out⟩⟩
  have d : (K == 0) = false := beq_eq_false_iff_ne.2 hk0
  obtain ⟨L, hL⟩ : ∃ L : Int, L = longK K := ⟨_, rfl⟩
  have hE : entryP n out K p = if badB n out K p = true then none else some (out ++ [⟨K, p⟩]) := if_neg hk0
  unfold badB at hE
  rw [← hL] at hE
  obtain ⟨r, hr⟩ : ∃ r, entryP n out K p = r := ⟨_, rfl⟩
  rw [hr] at hE ⊢
  have HE := Aside0.mk hE
  have HL := Aside0.mk hL
  clear hE hr hL
  have hcl := fun w => long_calls K w
  rw [← HL.out] at hcl
  go_enter Try.func59, Try.ntmps59
  go_wp2_with fail
  rw [QG.out, QW.out]
  refine (hcl _).mono ?_
  rintro e w2 ⟨rfl, rfl⟩
  clear QW QG
  have hk0 := (blk_cell BK.out 0).trans rfl
  have hk1 := (blk_cell BK.out 1).trans rfl
  go_wp2
  have hx0 := (blk_cell HS.out.blk 0).trans rfl
  have hx1 := (blk_cell HS.out.blk 1).trans rfl
  have hx2 := (blk_cell HS.out.blk 2).trans rfl
  by_cases hL0 : L = 0
  · have er : r = none := by rw [HE.out, if_pos (by simp [hL0])]
    have d1 : (L == 0) = true := beq_iff_eq.2 hL0
    clear hL0
    go_quiet (fail)
    go_wp2
    go_ret
    rw [er]
    exact ⟨rfl, (HB.out).trans (bdrew (Below.refl _ _) _), fun o e => by cases e⟩
  have d1 : (L == 0) = false := beq_eq_false_iff_ne.2 hL0
  have hin := fun m => quiet_left (n := m) (leIn_calls n p L (w1.drewN m) (by omega))
  cases hb2 : inR n p L with
  | false =>
    have er : r = none := by rw [HE.out, if_pos (by simp [hb2])]
    rw [hb2] at hin
    go_quiet ((go_at_call 41; exact hin _))
    go_wp2
    go_ret
    rw [er]
    exact ⟨rfl, (HB.out).trans (bdrew (Below.refl _ _) _), fun o e => by cases e⟩
  | true =>
  rw [hb2] at hin
  by_cases h512 : out.length = 512
  · have er : r = none := by rw [HE.out, if_pos (by simp [h512])]
    have d3 : ((out.length : Int) == 512) = true := beq_iff_eq.2 (by omega)
    clear h512
    go_quiet ((go_at_call 41; exact hin _))
    go_wp2
    go_ret
    rw [er]
    exact ⟨rfl, (HB.out).trans (bdrew (Below.refl _ _) _), fun o e => by cases e⟩
  have d3 : ((out.length : Int) == 512) = false := beq_eq_false_iff_ne.2 (by omega)
  obtain ⟨P, rfl⟩ := Int.eq_ofNat_of_zero_le hp0
  have hi := of_decide_eq_true hb2
  obtain ⟨M, rfl⟩ := Int.eq_ofNat_of_zero_le hi.2.1
  have hM8 : M ≤ 8 ∧ 0 < M := by have := longK_range K; have := HL.out; omega
  have hPM : P + M ≤ n := by omega
  obtain ⟨hr, _, hrl⟩ := reads_u8 HS.out.tak
  obtain ⟨A', m', c', hcut, hrd', _⟩ := mid_at (some ⟨tk, 0, none⟩) n n _ hrl (Nat.le_refl _) P M (by omega) (by omega) (by omega)
  have hz := fun m => quiet_left (n := m) ((Zero_calls A' m' c' _ (w1.drewN m) ((hrd' w1 hr).1.drewN m)).mono fun _ _ h => ⟨h.1, h.2.symm⟩)
  rw [tk_hit n out HO.out P M hM8.2 (by omega)] at hz
  clear hr hrl hrd'
  cases hh : hitB out P M with
  | true =>
    have er : r = none := by rw [HE.out, if_pos (by simp [hh])]
    rw [hh] at hz
    go_quiet ((first | (go_at_call 41; exact hin _) | (go_at_call 54; exact hz _)))
    go_wp2
    go_ret
    rw [er]
    exact ⟨rfl, (HB.out).trans (bdrew (Below.refl _ _) _), fun o e => by cases e⟩
  | false =>
  have er : r = some (out ++ [⟨K, P⟩]) := by rw [HE.out, if_neg (by simp only [hL0, h512, hb2, hh, decide_false, Bool.not_true, Bool.or_self]; decide)]
  clear HE
  rw [hh] at hz
  go_quiet ((first | (go_at_call 41; exact hin _) | (go_at_call 54; exact hz _)))
  go_wp2
  obtain ⟨w2, hw2⟩ : ∃ w2, w2 = w1.drewN nq := ⟨_, rfl⟩
  have HS2 := Aside0.mk (show RdIs w2 B rd A n c tk (tkI n out P 0) out (.slice Av out.length cv) by rw [hw2, tkI_zero]; exact HS.out.below (bdrew (Below.refl _ _) _))
  have BK2 := Aside0.mk (show w2.heap[g]? = some (.cells #[.int .i64 K, .int .i64 P] 46 (0, 0)) by rw [hw2]; exact BK.out)
  have HG2 := Aside0.mk (show Kd.R k46 46 w2 B (fun k => k ≠ g) (.slice Av out.length cv) out by rw [hw2]; exact Kd.R_drewN HG1.out _)
  have HB2 := Aside0.mk (show Below B W0 w2 by rw [hw2]; exact bdrew HB.out _)
  rw [← hw2]
  clear HS BK HG1 HB hw2 hx0 hx1 hx2 hk0 hk1 hin hz hcut hcl d d1 d3
  go_loopw [61] (fun i wr => ∃ j : Nat, j ≤ M ∧ i = .int .i64 j ∧ Aside0 (RdIs wr B rd A n c tk (tkI n out P j) out (.slice Av out.length cv)) ∧ Aside0 (wr.heap[g]? = some (.cells #[.int .i64 K, .int .i64 P] 46 (0, 0))) ∧ Aside0 (Kd.R k46 46 wr B (fun k => k ≠ g) (.slice Av out.length cv) out) ∧ Aside0 (Below B W0 wr)) (fun i _ => M - (intOf i).toNat)
  case atStart => exact ⟨0, Nat.zero_le _, rfl, HS2, BK2, HG2, HB2⟩
  case round =>
  clear HS2 BK2 HG2 HB2
  obtain ⟨j, hj, rfl, HS, BK, HG1, HB⟩ := hrel
  have hx0 := (blk_cell HS.out.blk 0).trans rfl
  have hx1 := (blk_cell HS.out.blk 1).trans rfl
  have hx2 := (blk_cell HS.out.blk 2).trans rfl
  have hk0 := (blk_cell BK.out 0).trans rfl
  have hk1 := (blk_cell BK.out 1).trans rfl
  by_cases hlt : j < M
  · have hq5 : P + j < n := Nat.lt_of_lt_of_le (Nat.add_lt_add_left hlt P) hPM
    obtain ⟨hq1, hq2⟩ := HS.out.cell (P + j) hq5
    go_wp2
    go_region
    go_wp2
    obtain ⟨htB, cells, hct⟩ := HS.out.tkB
    refine ⟨⟨j + 1, hlt, by go_num, ⟨?_⟩, ⟨blk_drew (blk_far BK.out (blk_ne BK.out hct (by decide)) _)⟩, ⟨Kd.R_drew (Kd.R_set HG1.out hct (by decide) _ _)⟩, ⟨Below.drew (HB.out.setCell htB _)⟩⟩, by simp [intOf]; omega⟩
    have h5 := HS.out.put (P + j) 1
    rw [tkI_step n out P j hq5] at h5
    exact h5.below (Below.drew (Below.refl _ _))
  obtain rfl : j = M := by omega
  rw [tkI_end n out K P j HL.out.symm] at HS
  have hle : out.length ≤ 512 := HO.out.1
  have hsz : B ≤ wr.heap.size := Nat.le_of_lt (Nat.lt_of_le_of_lt hgB (blk_lt BK.out))
  go_wp2
  have hfz := blk_frozen HS.out.blk 1
  have e1 := Kd.R_ne HG1.out HS.out.blk (by decide)
  have e2 := Kd.R_away HG1.out (g := g) (fun _ hk => hk)
  have hTS0 : ∀ m : Nat, TS rd g (.slice Av out.length cv) (.int .i64 K) (.int .i64 P) (wr.drewN m) := fun m => TS_of (blk_drewN HS.out.blk m) (blk_drewN BK.out m)
  have hTS1 : ∀ o : Obj, TS rd g (.slice Av out.length cv) (.int .i64 K) (.int .i64 P) (wr.alloc o).drew := fun o => TS_of (blk_drew (blk_alloc HS.out.blk o)) (blk_drew (blk_alloc BK.out o))
  have hRD := Kd.R_drew (Kd.R_alloc HG1.out (.cells #[.int .i64 K, .int .i64 P] 46))
  have hblk1 := blk_drew (blk_alloc HS.out.blk (.cells #[.int .i64 K, .int .i64 P] 46))
  have hblk2 := blk_drew (blk_alloc BK.out (.cells #[.int .i64 K, .int .i64 P] 46))
  obtain ⟨h0, inner, hown, hreps⟩ := id hRD
  obtain ⟨i0, hi0, hz0, hz1, hz2⟩ := info_parts info46
  have hml : out.length + 1 ≤ maxLen := by unfold maxLen; omega
  have hmb : (out.length + 1) * 16 ≤ 140737488355328 := by omega
  have hsz' : B ≤ (wr.alloc (.cells #[.int .i64 K, .int .i64 P] 46)).drew.heap.size := by simp; omega
  have hx1 := (blk_cell hblk1 1).trans rfl
  have hx2 := blk_frozen hblk1 1
  have hx3 := (blk_cell hblk2 0).trans rfl
  have hx4 := (blk_cell hblk2 1).trans rfl
  go_region_law
    ((refine step_append_lies _ (by rfl) _ _ _ (by rfl) B 46 i0 _ 2 16 Try.underlying42 hi0 hz0 hz1 hz2 rfl (by decide) (.slice Av out.length cv) out.length inner (by rfl) hown
        ⟨wr.heap.size, 0, none⟩ 1 1 [.int .i64 K, .int .i64 P] (by rfl) (by rfl) (World.news_of_block (cs := #[.int .i64 K, .int .i64 P]) (t := 46) (fr := (0, 0)) (heap_alloc_new wr _)) (by simp [Value.oneCell'])
        (by decide) hml hmb hsz' (wr.heap.size + 1) (by simp) ?_; intro gg cap w5 hown1 hg5 hat5 hlt5; obtain ⟨f1, f2, f3, f4⟩ : TS rd g (.slice Av out.length cv) (.int .i64 K) (.int .i64 P) w5 := TS_of (blk_grown hblk1 hg5 e1) (blk_grown hblk2 hg5 e2)))
  all_goals
    clear f1 f2 f3 f4
    have ho : Kd.R k46 46 w5 B (fun k => k ≠ g) (.slice (some ⟨gg, 0, none⟩) (out.length + 1) cap) (out ++ [⟨K, P⟩]) :=
      Kd.R_appended h0 hreps (k46_mkM _ _ (fun _ => False) (⟨K, P⟩ : S46)) (fun _ hk => hk.elim) (fun k hk => by have := blk_lt hblk2; omega) hown1 hg5 (by rcases hat5 with h | h; exact .inl h.symm; exact .inr ⟨gg, rfl, by rw [h]; simp⟩)
    have hblk5 := blk_grown hblk1 hg5 e1
    have htak5 := Kd.R_over (Kd.R_drew (Kd.R_alloc HS.out.tak (.cells #[.int .i64 K, .int .i64 P] 46))) hRD (by decide) hg5
    have hb5 : Below B W0 w5 := below_grown (HB.out.trans (Below.drew (Below.alloc (Below.refl _ _) hsz _))) hg5 hsz' (fun k hk => Kd.R_base hRD k hk)
    go_wp2
    go_ret
    refine ⟨rfl, hb5.setCell hrd _, fun o e => ?_⟩
    obtain rfl := Option.some.inj e
    exact ⟨_, blk_put hblk5 1 _ rfl, Kd.R_set htak5 hblk5 (by decide) 1 _, Kd.R_mono (Kd.R_set ho hblk5 (by decide) 1 _) (fun _ _ => trivial)⟩
end Go.Proofs.Ytojlcoebbgafhaa
