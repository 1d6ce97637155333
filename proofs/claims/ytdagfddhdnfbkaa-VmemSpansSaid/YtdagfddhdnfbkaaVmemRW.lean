/- (*vmem.Mem): Read, Fetch, Write. -/
import Derived.Test.YtdagfddhdnfbkaaVmemR
namespace Go.Proofs.Ytdagfddhdnfbkaa
open Go.RowKit
set_option linter.unusedVariables false
set_option linter.unusedSimpArgs false
open Go.Proofs.YtdagfddhdnfbkaaW.PrintWords
attribute [local go_sem] b_max2 b_min2 b_max b_min
theorem ask_ok {M : AMem} {p prot kind : Int} {n : Int} (h : (askF M p n prot kind).1 = 0) (hk : 2 ≤ kind) : n ≤ 65536 ∧ (∀ i, i < n.toNat → askK M prot kind (aT p i) = 0) ∧ askM M p n prot kind = M ∧ askF M p n prot kind = (0, 0) ∧ allM M p n.toNat = true := by
  unfold askF askM at *
  by_cases hn : 65536 < n
  · rw [if_pos hn] at h; exact absurd h (fun h => by cases h)
  · rw [if_neg hn] at h ⊢
    rw [if_neg hn]
    cases he : askI M prot kind p n.toNat with
    | none =>
      have hall : ∀ i, i < n.toNat → askK M prot kind (aT p i) = 0 := fun i hi => by
        unfold askI at he
        rw [List.find?_eq_none] at he
        have := he i (List.mem_range.2 hi)
        simpa using this
      refine ⟨by omega, hall, rfl, rfl, (allM_iff M p _).2 fun i hi => ?_⟩
      have := hall i hi
      unfold askK at this
      cases hg : M.pg (baseV (aT p i)) with
      | none => rw [hg] at this; exact absurd this (fun h => by cases h)
      | some x => rfl
    | some i =>
      rw [he] at h
      unfold askI at he
      have := List.find?_some he
      simp at this
      exact absurd h this
theorem Keeps.alloc_ {S : Nat → Prop} {w X : World} (h : Keeps S w X) (o : Obj) : Keeps S w (X.alloc o) := h.trans (Keeps.of_below (Below.alloc (Below.refl _ _) (Nat.le_refl _) _) _)
theorem Keeps.drewN_ {S : Nat → Prop} {w X : World} (h : Keeps S w X) (n : Nat) : Keeps S w (X.drewN n) := h.trans (Keeps.of_below (bdrew (Below.refl _ _) n) _)
theorem Keeps.setCell_ {S : Nat → Prop} {w X : World} (h : Keeps S w X) (a : Addr) (ha : S a.block ∨ w.heap.size ≤ a.block) (v : Value) : Keeps S w (X.setCell a v) :=
  ⟨h.os, h.tape, h.output, by rw [show (X.setCell a v).heap.size = X.heap.size from by simp [World.setCell]]; exact h.size, fun k hk hn => (Below.heap_setCell X a v k (by rintro rfl; rcases ha with ha | ha; exact hn ha; omega)).trans (h.block k hk hn)⟩
theorem own_kept {w w1 : World} {base g : Nat} {e : TypeId} {size n : Nat} {v : Value} {xs : List Value} (h : w.ownsRow base e size v n xs) (hk : Keeps (· = g) w w1) (hg : g < base) : w1.ownsRow base e size v n xs :=
  own_move h fun k hk' => hk.block k (own_lt h k hk') (fun e => by have := own_base h k hk'; omega)
def readL (M : AMem) (p n prot kind : Int) : List Int := if (askF M p (max n 0) prot kind).1 = 0 then bytesM M p n.toNat else []
def ReadPost (w : World) (F : Nat → Prop) (bm : Nat) (M' : AMem) (xs : List Int) (f : Int × Int) (e : Ending) (w' : World) : Prop :=
  ∃ v1, e = .returned (.tuple #[v1, .agg #[.int .i64 f.1, .int .u64 f.2]]) ∧ w'.ownsRow w.heap.size 5 1 v1 xs.length (nums .u8 xs) ∧ Has w' F bm M' ∧ Keeps F w w'
set_option maxHeartbeats 1600000 in
set_option maxRecDepth 100000 in
theorem Read_calls (F : Nat → Prop) (bm : Nat) (M : AMem) (p n : Int) (w : World) (hM : Has w F bm M) (h0 : 0 ≤ p) (h1 : p < 18446744073709551616) :
    Calls Try.prog 23 #[.pointer (some ⟨bm, 0, none⟩), .int .u64 p, .int .i64 n] w (ReadPost w F bm (askM M p (max n 0) 1 2) (readL M p n 1 2) (askF M p (max n 0) 1 2)) := by
  have hu := Try.underlying45
  have hnF : ¬ F w.heap.size := fun h => by have := hM.lt _ h; omega
  have hall := Below.alloc (Below.refl _ w) (Nat.le_refl _) (.cells #[.int .i64 0, .int .u64 0] 45)
  obtain ⟨m, hm⟩ : ∃ m : Int, (if n < 0 then 0 else n) = m := ⟨_, rfl⟩
  have hm0 : 0 ≤ m := by rw [← hm]; split <;> omega
  have HMX : Aside0 (max n 0 = m ∧ n.toNat = m.toNat) := ⟨by rw [← hm]; split <;> omega⟩
  have hask := Aside0.mk (ask_calls F bm M p m 1 2 (w.alloc (.cells #[.int .i64 0, .int .u64 0] 45)) (hM.keep hall) h0 h1 (by decide) hm0)
  have HF := Aside0.mk hnF
  have HM := Aside0.mk hM
  unfold readL
  rw [HMX.out.1, HMX.out.2]
  clear hM hall hnF
  obtain ⟨⟨fk, fa⟩, hf⟩ : ∃ f, askF M p m 1 2 = f := ⟨_, rfl⟩
  obtain ⟨M1, hM1⟩ : ∃ M1, askM M p m 1 2 = M1 := ⟨_, rfl⟩
  rw [hf, hM1] at hask ⊢
  by_cases hfk : fk = 0
  · subst hfk
    obtain ⟨o1, -, o3, o4, o5⟩ := ask_ok (by rw [hf] : (askF M p m 1 2).1 = 0) (by decide)
    rw [hf] at o4
    obtain rfl : fa = 0 := by simpa using congrArg Prod.snd o4
    rw [hM1] at o3
    subst o3
    have HG := Aside0.mk (fun w (h : Has w F bm M1) => get_calls F bm M1 p m.toNat w h h0 h1 (by omega) o5)
    rw [Int.toNat_of_nonneg hm0] at HG
    clear o4 o5 hM1 hf
    generalize bytesM M1 p m.toNat = xs at HG ⊢
    go_enter Try.func23, Try.ntmps23
    go_wp2_with fail
    refine hask.out.mono ?_
    rintro e w1 ⟨rfl, HM1, HK1⟩
    have hblk : w1.heap[w.heap.size]? = some (.cells #[.int .i64 0, .int .u64 0] 45 (0, 0)) := (HK1.block _ (by simp) HF.out).trans (blk_new w _)
    have hc8 := blk_cell hblk 0
    have hc9 := blk_cell hblk 1
    have hf8 := blk_frozen hblk 0
    have hf9 := blk_frozen hblk 1
    simp at hc8 hc9
    have hz := blk_lt hblk
    have HM2 := Aside0.mk HM1
    have HK2 : Aside0 (Keeps F w w1) := ⟨((Keeps.refl F w).alloc_ _).trans HK1⟩
    clear HM1 HK1 hblk hask
    have HG1 := Aside0.mk (HG.out _ (HM2.out.keep (Below.alloc (Below.refl _ _) (Nat.le_refl _) (.cells #[.int .i64 0, .int .u64 0] 45))))
    go_wp2_with fail
    refine HG1.out.mono ?_
    rintro e w2 ⟨v1, rfl, HO, HB⟩
    have HB2 : Aside0 (Below w1.heap.size w1 w2) := ⟨(Below.alloc (Below.refl _ _) (Nat.le_refl _) _).trans (HB.mono (by simp))⟩
    obtain ⟨q1, q2⟩ := bcell HB2.out
    have hd8 := (q1 w.heap.size 0 hz).trans hc8
    have hd9 := (q1 w.heap.size 1 hz).trans hc9
    have he8 := (q2 w.heap.size 0 hz).trans hf8
    have he9 := (q2 w.heap.size 1 hz).trans hf9
    have HO2 := Aside0.mk (own_weaken HO (base' := w.heap.size + 1) (by simp; omega))
    have hz2 : w.heap.size < w2.heap.size := Nat.lt_of_lt_of_le hz HB2.out.size
    clear HO HB q1 q2 hc8 hc9 hf8 hf9 HG HG1
    go_wp2
    have HKY : ∀ u v, Keeps (· = w.heap.size) w2 ((w2.setCell ⟨w.heap.size, 0, none⟩ u).setCell ⟨w.heap.size, 1, none⟩ v) := fun u v => two_stores w2 w.heap.size u v
    refine bodyPost_ret (v := .tuple #[v1, .agg #[.int .i64 0, .int .u64 0]]) (by simp [results, Try.results23, go_sem, hd8, hd9, hz2]) rfl ⟨_, rfl, own_weaken (own_kept HO2.out (HKY _ _) (by omega)) (by omega), ?_, ?_⟩
    · exact (HM2.out.keep HB2.out).keeps (HKY _ _) (fun b hb e => HF.out (e ▸ hb))
    · exact (HK2.out.trans (Keeps.of_below HB2.out F)).above (HKY _ _) (Nat.le_refl _)
  · clear hM1 hf
    go_enter Try.func23, Try.ntmps23
    go_wp2_with fail
    refine hask.out.mono ?_
    rintro e w1 ⟨rfl, HM1, HK1⟩
    have hblk : w1.heap[w.heap.size]? = some (.cells #[.int .i64 0, .int .u64 0] 45 (0, 0)) := (HK1.block _ (by simp) HF.out).trans (blk_new w _)
    have hc8 := blk_cell hblk 0
    have hc9 := blk_cell hblk 1
    have hf8 := blk_frozen hblk 0
    have hf9 := blk_frozen hblk 1
    simp at hc8 hc9
    have hz := blk_lt hblk
    have HM2 := Aside0.mk HM1
    have HK2 : Aside0 (Keeps F w w1) := ⟨((Keeps.refl F w).alloc_ _).trans HK1⟩
    have dk : (fk != 0) = true := by rw [bne_iff_ne]; exact hfk
    clear HM1 HK1 hblk hask
    go_wp2
    go_region
    go_wp2
    refine bodyPost_ret (v := .tuple #[.slice none 0 0, .agg #[.int .i64 fk, .int .u64 fa]]) (by simp [results, Try.results23, go_sem, hc8, hc9, hz, Nat.ne_of_lt hz]) rfl ⟨_, rfl, own_nil _ _ _ _, ?_, ?_⟩
    · refine HM2.out.keeps (S := (· = w.heap.size)) ?_ (fun b hb e => HF.out (e ▸ hb))
      repeat (first | (with_reducible exact Keeps.refl _ _) | (with_reducible refine Keeps.drew ?_) | (with_reducible refine Keeps.drewN_ ?_ _) | (with_reducible refine Keeps.setCell_ ?_ _ (by first | (exact .inl rfl) | (right; first | (simp; done) | (simp; omega) | omega)) _) | (with_reducible refine Keeps.alloc_ ?_ _))
    · repeat (first | (with_reducible exact HK2.out) | (with_reducible refine Keeps.drew ?_) | (with_reducible refine Keeps.drewN_ ?_ _) | (with_reducible refine Keeps.setCell_ ?_ _ (by first | (exact .inl rfl) | (right; first | (simp; done) | (simp; omega) | omega)) _) | (with_reducible refine Keeps.alloc_ ?_ _))
set_option maxHeartbeats 1600000 in
set_option maxRecDepth 100000 in
theorem Fetch_calls (F : Nat → Prop) (bm : Nat) (M : AMem) (p n : Int) (w : World) (hM : Has w F bm M) (h0 : 0 ≤ p) (h1 : p < 18446744073709551616) :
    Calls Try.prog 25 #[.pointer (some ⟨bm, 0, none⟩), .int .u64 p, .int .i64 n] w (ReadPost w F bm (askM M p (max n 0) 4 4) (readL M p n 4 4) (askF M p (max n 0) 4 4)) := by
  have hu := Try.underlying45
  have hnF : ¬ F w.heap.size := fun h => by have := hM.lt _ h; omega
  have hall := Below.alloc (Below.refl _ w) (Nat.le_refl _) (.cells #[.int .i64 0, .int .u64 0] 45)
  obtain ⟨m, hm⟩ : ∃ m : Int, (if n < 0 then 0 else n) = m := ⟨_, rfl⟩
  have hm0 : 0 ≤ m := by rw [← hm]; split <;> omega
  have HMX : Aside0 (max n 0 = m ∧ n.toNat = m.toNat) := ⟨by rw [← hm]; split <;> omega⟩
  have hask := Aside0.mk (ask_calls F bm M p m 4 4 (w.alloc (.cells #[.int .i64 0, .int .u64 0] 45)) (hM.keep hall) h0 h1 (by decide) hm0)
  have HF := Aside0.mk hnF
  have HM := Aside0.mk hM
  unfold readL
  rw [HMX.out.1, HMX.out.2]
  clear hM hall hnF
  obtain ⟨⟨fk, fa⟩, hf⟩ : ∃ f, askF M p m 4 4 = f := ⟨_, rfl⟩
  obtain ⟨M1, hM1⟩ : ∃ M1, askM M p m 4 4 = M1 := ⟨_, rfl⟩
  rw [hf, hM1] at hask ⊢
  by_cases hfk : fk = 0
  · subst hfk
    obtain ⟨o1, -, o3, o4, o5⟩ := ask_ok (by rw [hf] : (askF M p m 4 4).1 = 0) (by decide)
    rw [hf] at o4
    obtain rfl : fa = 0 := by simpa using congrArg Prod.snd o4
    rw [hM1] at o3
    subst o3
    have HG := Aside0.mk (fun w (h : Has w F bm M1) => get_calls F bm M1 p m.toNat w h h0 h1 (by omega) o5)
    rw [Int.toNat_of_nonneg hm0] at HG
    clear o4 o5 hM1 hf
    generalize bytesM M1 p m.toNat = xs at HG ⊢
    go_enter Try.func25, Try.ntmps25
    go_wp2_with fail
    refine hask.out.mono ?_
    rintro e w1 ⟨rfl, HM1, HK1⟩
    have hblk : w1.heap[w.heap.size]? = some (.cells #[.int .i64 0, .int .u64 0] 45 (0, 0)) := (HK1.block _ (by simp) HF.out).trans (blk_new w _)
    have hc8 := blk_cell hblk 0
    have hc9 := blk_cell hblk 1
    have hf8 := blk_frozen hblk 0
    have hf9 := blk_frozen hblk 1
    simp at hc8 hc9
    have hz := blk_lt hblk
    have HM2 := Aside0.mk HM1
    have HK2 : Aside0 (Keeps F w w1) := ⟨((Keeps.refl F w).alloc_ _).trans HK1⟩
    clear HM1 HK1 hblk hask
    have HG1 := Aside0.mk (HG.out _ (HM2.out.keep (Below.alloc (Below.refl _ _) (Nat.le_refl _) (.cells #[.int .i64 0, .int .u64 0] 45))))
    go_wp2_with fail
    refine HG1.out.mono ?_
    rintro e w2 ⟨v1, rfl, HO, HB⟩
    have HB2 : Aside0 (Below w1.heap.size w1 w2) := ⟨(Below.alloc (Below.refl _ _) (Nat.le_refl _) _).trans (HB.mono (by simp))⟩
    obtain ⟨q1, q2⟩ := bcell HB2.out
    have hd8 := (q1 w.heap.size 0 hz).trans hc8
    have hd9 := (q1 w.heap.size 1 hz).trans hc9
    have he8 := (q2 w.heap.size 0 hz).trans hf8
    have he9 := (q2 w.heap.size 1 hz).trans hf9
    have HO2 := Aside0.mk (own_weaken HO (base' := w.heap.size + 1) (by simp; omega))
    have hz2 : w.heap.size < w2.heap.size := Nat.lt_of_lt_of_le hz HB2.out.size
    clear HO HB q1 q2 hc8 hc9 hf8 hf9 HG HG1
    go_wp2
    have HKY : ∀ u v, Keeps (· = w.heap.size) w2 ((w2.setCell ⟨w.heap.size, 0, none⟩ u).setCell ⟨w.heap.size, 1, none⟩ v) := fun u v => two_stores w2 w.heap.size u v
    refine bodyPost_ret (v := .tuple #[v1, .agg #[.int .i64 0, .int .u64 0]]) (by simp [results, Try.results25, go_sem, hd8, hd9, hz2]) rfl ⟨_, rfl, own_weaken (own_kept HO2.out (HKY _ _) (by omega)) (by omega), ?_, ?_⟩
    · exact (HM2.out.keep HB2.out).keeps (HKY _ _) (fun b hb e => HF.out (e ▸ hb))
    · exact (HK2.out.trans (Keeps.of_below HB2.out F)).above (HKY _ _) (Nat.le_refl _)
  · clear hM1 hf
    go_enter Try.func25, Try.ntmps25
    go_wp2_with fail
    refine hask.out.mono ?_
    rintro e w1 ⟨rfl, HM1, HK1⟩
    have hblk : w1.heap[w.heap.size]? = some (.cells #[.int .i64 0, .int .u64 0] 45 (0, 0)) := (HK1.block _ (by simp) HF.out).trans (blk_new w _)
    have hc8 := blk_cell hblk 0
    have hc9 := blk_cell hblk 1
    have hf8 := blk_frozen hblk 0
    have hf9 := blk_frozen hblk 1
    simp at hc8 hc9
    have hz := blk_lt hblk
    have HM2 := Aside0.mk HM1
    have HK2 : Aside0 (Keeps F w w1) := ⟨((Keeps.refl F w).alloc_ _).trans HK1⟩
    have dk : (fk != 0) = true := by rw [bne_iff_ne]; exact hfk
    clear HM1 HK1 hblk hask
    go_wp2
    go_region
    go_wp2
    refine bodyPost_ret (v := .tuple #[.slice none 0 0, .agg #[.int .i64 fk, .int .u64 fa]]) (by simp [results, Try.results25, go_sem, hc8, hc9, hz, Nat.ne_of_lt hz]) rfl ⟨_, rfl, own_nil _ _ _ _, ?_, ?_⟩
    · refine HM2.out.keeps (S := (· = w.heap.size)) ?_ (fun b hb e => HF.out (e ▸ hb))
      repeat (first | (with_reducible exact Keeps.refl _ _) | (with_reducible refine Keeps.drew ?_) | (with_reducible refine Keeps.drewN_ ?_ _) | (with_reducible refine Keeps.setCell_ ?_ _ (by first | (exact .inl rfl) | (right; first | (simp; done) | (simp; omega) | omega)) _) | (with_reducible refine Keeps.alloc_ ?_ _))
    · repeat (first | (with_reducible exact HK2.out) | (with_reducible refine Keeps.drew ?_) | (with_reducible refine Keeps.drewN_ ?_ _) | (with_reducible refine Keeps.setCell_ ?_ _ (by first | (exact .inl rfl) | (right; first | (simp; done) | (simp; omega) | omega)) _) | (with_reducible refine Keeps.alloc_ ?_ _))
def writeM (M : AMem) (p : Int) (xs : List Int) : AMem := if (askF M p xs.length 2 3).1 = 0 then putM M p xs else askM M p xs.length 2 3
set_option maxHeartbeats 1600000 in
set_option maxRecDepth 100000 in
theorem Write_calls (F : Nat → Prop) (bm : Nat) (M : AMem) (p : Int) (xs : List Int) (A : Option Addr) (n c : Nat) (w : World) (hM : Has w F bm M) (hr : ReadsInt w .u8 A n xs) (hA : NotIn F A n) (hnc : n ≤ c) (hby : Bytes xs) (h0 : 0 ≤ p) (h1 : p < 18446744073709551616) :
    Calls Try.prog 26 #[.pointer (some ⟨bm, 0, none⟩), .int .u64 p, .slice A n c] w (AskPost w F bm (writeM M p xs) (askF M p xs.length 2 3)) := by
  have hu := Try.underlying45
  have hnF : ¬ F w.heap.size := fun h => by have := hM.lt _ h; omega
  have hall := Below.alloc (Below.refl _ w) (Nat.le_refl _) (.cells #[.int .i64 0, .int .u64 0] 45)
  have hask := Aside0.mk (ask_calls F bm M p n 2 3 (w.alloc (.cells #[.int .i64 0, .int .u64 0] 45)) (hM.keep hall) h0 h1 (by decide) (by omega))
  have HF := Aside0.mk hnF
  have HM := Aside0.mk hM
  have hn63 := hr.2.1
  unfold writeM
  rw [hr.1]
  have HRD := Aside0.mk hr
  have HNI := Aside0.mk hA
  clear hM hall hnF hr hA
  obtain ⟨⟨fk, fa⟩, hf⟩ : ∃ f, askF M p n 2 3 = f := ⟨_, rfl⟩
  obtain ⟨M1, hM1⟩ : ∃ M1, askM M p n 2 3 = M1 := ⟨_, rfl⟩
  rw [hf, hM1] at hask ⊢
  by_cases hfk : fk = 0
  · subst hfk
    obtain ⟨o1, -, o3, o4, o5⟩ := ask_ok (by rw [hf] : (askF M p n 2 3).1 = 0) (by decide)
    rw [hf] at o4
    obtain rfl : fa = 0 := by simpa using congrArg Prod.snd o4
    rw [hM1] at o3
    subst o3
    rw [Int.toNat_natCast] at o5
    have HG := Aside0.mk (fun w (h : Has w F bm M1) hr => put_calls F bm M1 p xs A n c w h hr HNI.out hnc hby h0 h1 (by omega) o5)
    clear o4 o5 hM1 hf hby
    obtain ⟨M2, hM2⟩ : ∃ M2, putM M1 p xs = M2 := ⟨_, rfl⟩
    rw [if_pos rfl]
    rw [hM2] at HG ⊢
    clear hM2
    go_enter Try.func26, Try.ntmps26
    go_wp2_with fail
    refine hask.out.mono ?_
    rintro e w1 ⟨rfl, HM1, HK1⟩
    have hblk : w1.heap[w.heap.size]? = some (.cells #[.int .i64 0, .int .u64 0] 45 (0, 0)) := (HK1.block _ (by simp) HF.out).trans (blk_new w _)
    have HBK := Aside0.mk hblk
    have hz := blk_lt hblk
    have HK2 : Aside0 (Keeps F w w1) := ⟨((Keeps.refl F w).alloc_ _).trans HK1⟩
    have HRD1 := reads_keeps HRD.out HK2.out HNI.out
    have hall := Below.alloc (Below.refl _ w1) (Nat.le_refl _) (.cells #[.int .i64 0, .int .u64 0] 45)
    have HG1 := Aside0.mk (HG.out _ (HM1.keep hall) (HRD1.below hall))
    clear HM1 HK1 hblk hask HRD1 hall
    go_wp2_with fail
    refine HG1.out.mono ?_
    rintro e w2 ⟨rfl, HM2, HK3⟩
    have HKK : Aside0 (Keeps F w1 w2) := ⟨((Keeps.refl F w1).alloc_ _).trans HK3⟩
    have hblk2 := (HKK.out.block _ hz HF.out).trans HBK.out
    have hc8 := blk_cell hblk2 0
    have hc9 := blk_cell hblk2 1
    have hf8 := blk_frozen hblk2 0
    have hf9 := blk_frozen hblk2 1
    simp at hc8 hc9
    have hz2 := blk_lt hblk2
    have HM3 := Aside0.mk HM2
    clear HM2 HK3 HG HG1 hblk2 HBK
    go_wp2
    have HKY : ∀ u v, Keeps (· = w.heap.size) w2 ((w2.setCell ⟨w.heap.size, 0, none⟩ u).setCell ⟨w.heap.size, 1, none⟩ v) := fun u v => two_stores w2 w.heap.size u v
    refine bodyPost_ret (v := .agg #[.int .i64 0, .int .u64 0]) (by simp [results, Try.results26, go_sem, hc8, hc9, hz2]) rfl ⟨rfl, ?_, ?_⟩
    · exact HM3.out.keeps (HKY _ _) (fun b hb e => HF.out (e ▸ hb))
    · exact (HK2.out.trans HKK.out).above (HKY _ _) (Nat.le_refl _)
  · clear hM1 hf
    rw [if_neg hfk]
    go_enter Try.func26, Try.ntmps26
    go_wp2_with fail
    refine hask.out.mono ?_
    rintro e w1 ⟨rfl, HM1, HK1⟩
    have hblk : w1.heap[w.heap.size]? = some (.cells #[.int .i64 0, .int .u64 0] 45 (0, 0)) := (HK1.block _ (by simp) HF.out).trans (blk_new w _)
    have hc8 := blk_cell hblk 0
    have hc9 := blk_cell hblk 1
    have hf8 := blk_frozen hblk 0
    have hf9 := blk_frozen hblk 1
    simp at hc8 hc9
    have hz := blk_lt hblk
    have HM2 := Aside0.mk HM1
    have HK2 : Aside0 (Keeps F w w1) := ⟨((Keeps.refl F w).alloc_ _).trans HK1⟩
    have dk : (fk != 0) = true := by rw [bne_iff_ne]; exact hfk
    clear HM1 HK1 hblk hask
    go_wp2
    refine bodyPost_ret (v := .agg #[.int .i64 fk, .int .u64 fa]) (by simp [results, Try.results26, go_sem, hc8, hc9, hz, Nat.ne_of_lt hz]) rfl ⟨rfl, ?_, ?_⟩
    · refine HM2.out.keeps (S := (· = w.heap.size)) ?_ (fun b hb e => HF.out (e ▸ hb))
      repeat (first | (with_reducible exact Keeps.refl _ _) | (with_reducible refine Keeps.drew ?_) | (with_reducible refine Keeps.drewN_ ?_ _) | (with_reducible refine Keeps.setCell_ ?_ _ (by first | (exact .inl rfl) | (right; first | (simp; done) | (simp; omega) | omega)) _) | (with_reducible refine Keeps.alloc_ ?_ _))
    · repeat (first | (with_reducible exact HK2.out) | (with_reducible refine Keeps.drew ?_) | (with_reducible refine Keeps.drewN_ ?_ _) | (with_reducible refine Keeps.setCell_ ?_ _ (by first | (exact .inl rfl) | (right; first | (simp; done) | (simp; omega) | omega)) _) | (with_reducible refine Keeps.alloc_ ?_ _))
end Go.Proofs.Ytdagfddhdnfbkaa
