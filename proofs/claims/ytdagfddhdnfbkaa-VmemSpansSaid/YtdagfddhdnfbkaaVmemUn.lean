/- (*vmem.Mem).there and .Unmap: their walks. -/
import Derived.Test.YtdagfddhdnfbkaaVmemAbs
namespace Go.Proofs.Ytdagfddhdnfbkaa
open Go.RowKit
set_option linter.unusedVariables false
set_option linter.unusedSimpArgs false
open Go.Proofs.YtdagfddhdnfbkaaW.PrintWords
def noM (l : List (Int × Nat)) (k : Int) : Bool := (l.lookup k).isNone
theorem ContainsNone (B bm bp : Nat) (most : Int) (l : List (Int × Nat)) (ct : Nat → List Int × Int) (A : Option Addr) (n c : Nat) (xs : List Int) (w : World) (hM : MemR w B bm bp most l ct) (hr : ReadsInt w .u64 A n xs) :
    Calls Try.prog 35 #[.slice A n c, .func (.func 50) #[.pointer (some ⟨bm, 0, none⟩)] #[]] w fun e w' => e = .returned (.bool (xs.any (noM l))) ∧ ∃ m, w' = w.drewN m :=
  Contains_none A n c xs _ (noM l) w hr fun k m _ => (none_calls B bm bp most l ct _ _ (hM.drewN m)).mono fun e w' ⟨h1, h2⟩ => ⟨h1, m, h2.symm⟩
def thereL (l : List (Int × Nat)) (p n : Int) : Bool := mayB p n && !((rowL p n.toNat).any (noM l))
set_option maxHeartbeats 800000 in
theorem there_calls (B bm bp : Nat) (most : Int) (l : List (Int × Nat)) (ct : Nat → List Int × Int) (p n : Int) (w : World) (hM : MemR w B bm bp most l ct) (hp0 : 0 ≤ p) :
    Calls Try.prog 41 #[.pointer (some ⟨bm, 0, none⟩), .int .u64 p, .int .i64 n] w fun e w' => e = .returned (.bool (thereL l p n)) ∧ Below w.heap.size w w' := by
  have hm := may_calls p n w hp0
  unfold thereL
  cases h : mayB p n with
  | false =>
    rw [h] at hm
    clear h hM
    go_enter Try.func41, Try.ntmps41
    go_wp2_with fail
    refine hm.mono ?_
    rintro e w1 ⟨rfl, rfl⟩
    go_wp2
    go_ret
    exact ⟨rfl, Below.refl _ _⟩
  | true =>
    obtain ⟨N, rfl, h1, h2, h3, -⟩ := may_row h
    rw [h] at hm
    rw [Int.toNat_natCast, Bool.true_and]
    clear h
    have hrow := row_calls p N w hp0 h2 h3
    have HC := Aside0.mk (fun A c w1 hb hr => ContainsNone B bm bp most l ct A N c (rowL p N) w1 (hM.keep hb) hr)
    clear hM
    generalize (rowL p N).any (noM l) = t at HC
    go_enter Try.func41, Try.ntmps41
    go_wp2_with fail
    refine hm.mono ?_
    rintro e w1 ⟨rfl, rfl⟩
    go_wp2_with fail
    refine hrow.mono ?_
    rintro e w1 ⟨v1, rfl, HO, HB⟩
    have HB' := Aside0.mk HB
    rw [rowL_len] at HO
    obtain ⟨A, c, rfl, HR⟩ := own_reads HO
    have hcont := HC.out A c w1 HB HR
    clear HO HB HR HC hm hrow
    go_wp2_with fail
    refine hcont.mono ?_
    rintro e w2 ⟨rfl, m, rfl⟩
    clear hcont
    go_wp2
    go_ret
    exact ⟨rfl, bdrew HB'.out m⟩
set_option maxHeartbeats 800000 in
theorem Unmap_no (B bm bp : Nat) (most : Int) (l : List (Int × Nat)) (ct : Nat → List Int × Int) (p n : Int) (w : World) (hM : MemR w B bm bp most l ct) (hp0 : 0 ≤ p) (ht : thereL l p n = false) :
    Calls Try.prog 21 #[.pointer (some ⟨bm, 0, none⟩), .int .u64 p, .int .i64 n] w fun e w' => e = .returned (.bool false) ∧ Below w.heap.size w w' := by
  have hth := there_calls B bm bp most l ct p n w hM hp0
  rw [ht] at hth
  clear hM ht
  go_enter Try.func21, Try.ntmps21
  go_wp2_with fail
  refine hth.mono ?_
  rintro e w1 ⟨rfl, HB⟩
  have HB' := Aside0.mk HB
  clear HB
  go_wp2
  go_ret
  exact ⟨rfl, HB'.out⟩
/-- l' is l without the first k pages from p -/
def Gone (l : List (Int × Nat)) (p : Int) (k : Nat) (l' : List (Int × Nat)) : Prop :=
  l'.length + k = l.length ∧ (∀ q, l'.lookup q = if q ∈ rowL p k then none else l.lookup q) ∧ ∀ x ∈ l', x ∈ l
theorem lookup_eraseP (l : List (Int × Nat)) (k q : Int) (hn : (l.map (·.1)).Nodup) : (l.eraseP (·.1 == k)).lookup q = if q = k then none else l.lookup q := by
  induction l with
  | nil => simp
  | cons x l ih =>
    obtain ⟨a, b⟩ := x
    simp only [List.map_cons, List.nodup_cons] at hn
    by_cases hak : a = k
    · subst hak
      simp only [List.eraseP_cons, beq_self_eq_true, cond_true]
      by_cases hq : q = a
      · subst hq
        rw [if_pos rfl]
        cases h : l.lookup q with
        | none => rfl
        | some b => exact absurd (List.mem_map.2 ⟨_, lookup_mem h, rfl⟩) hn.1
      · rw [if_neg hq]
        have : (q == a) = false := by rw [beq_eq_false_iff_ne]; exact hq
        simp [List.lookup, this]
    · have h1 : (a == k) = false := by rw [beq_eq_false_iff_ne]; exact hak
      simp only [List.eraseP_cons, h1]
      by_cases hq : q = a
      · subst hq
        simp [List.lookup, hak]
      · have : (q == a) = false := by rw [beq_eq_false_iff_ne]; exact hq
        have ih' := ih hn.2
        simpa [List.lookup, this] using ih'
theorem Gone.step {l l' : List (Int × Nat)} {p : Int} {k : Nat} (h : Gone l p k l') (hn : (l'.map (·.1)).Nodup) (hs : (l'.lookup (p + k * 4096)).isSome = true) : Gone l p (k + 1) (l'.eraseP (·.1 == p + k * 4096)) := by
  obtain ⟨b, hb⟩ := Option.isSome_iff_exists.1 hs
  have hm := lookup_mem hb
  refine ⟨?_, fun q => ?_, fun x hx => h.2.2 x (List.mem_of_mem_eraseP hx)⟩
  · have := List.length_eraseP_of_mem (p := fun x : Int × Nat => x.1 == p + k * 4096) hm (by simp)
    rw [this]
    have h1 := h.1
    have h2 : 0 < l'.length := List.length_pos_of_mem hm
    omega
  · rw [lookup_eraseP _ _ _ hn, h.2.1 q]
    simp only [rowL, List.mem_append, List.mem_singleton]
    by_cases h1 : q = p + k * 4096 <;> by_cases h2 : q ∈ rowL p k <;> simp [h1, h2]
theorem MemR.del {w w2 : World} {B bm bp : Nat} {most : Int} {l : List (Int × Nat)} {ct : Nat → List Int × Int} (h : MemR w B bm bp most l ct) (k : Int) (hm : MapIs w2 bp (l.eraseP (·.1 == k))) (hk : Keeps (· = bp) w w2) :
    MemR w2 B bm bp most (l.eraseP (·.1 == k)) ct := by
  obtain ⟨l1, l2, l3, l4⟩ := h.lt
  refine ⟨by rw [hk.block _ l1 l3]; exact h.head, hm, ?_, ?_, fun x hx => ?_, h.lo⟩
  · exact List.Nodup.sublist (List.Sublist.map _ List.eraseP_sublist) h.keys
  · exact List.Nodup.sublist (List.Sublist.map _ List.eraseP_sublist) h.blks
  · have hx' := List.mem_of_mem_eraseP hx
    obtain ⟨a, b, c⟩ := h.page x hx'
    exact ⟨a, by rw [hk.block _ (l4 x hx').1 (l4 x hx').2]; exact b, c⟩
def Unmapped (w : World) (B bm bp : Nat) (most : Int) (l : List (Int × Nat)) (ct : Nat → List Int × Int) (p : Int) (N : Nat) (e : Ending) (w' : World) : Prop :=
  e = .returned (.bool true) ∧ ∃ l', MemR w' B bm bp most l' ct ∧ Gone l p N l' ∧ Keeps (· = bp) w w'
set_option maxHeartbeats 1000000 in
theorem Unmap_ok (B bm bp : Nat) (most : Int) (l : List (Int × Nat)) (ct : Nat → List Int × Int) (p : Int) (N : Nat) (w : World) (hM : MemR w B bm bp most l ct) (hp0 : 0 ≤ p) (ht : thereL l p N = true) :
    Calls Try.prog 21 #[.pointer (some ⟨bm, 0, none⟩), .int .u64 p, .int .i64 N] w (Unmapped w B bm bp most l ct p N) := by
  have hth := there_calls B bm bp most l ct p N w hM hp0
  rw [ht] at hth
  unfold thereL at ht
  rw [Bool.and_eq_true, Int.toNat_natCast] at ht
  obtain ⟨ht1, ht2⟩ := ht
  obtain ⟨N', e, h1, h2, h3, -⟩ := may_row ht1
  obtain rfl : N = N' := by omega
  have hall : Aside0 (∀ k : Nat, k < N → (l.lookup (p + k * 4096)).isSome = true) := ⟨fun k hk => by
    have : (rowL p N).any (noM l) = false := by simpa using ht2
    rw [List.any_eq_false] at this
    have := this (p + k * 4096) ((rowL_mem _ _ _).2 ⟨k, hk, rfl⟩)
    unfold noM at this
    cases hl : l.lookup (p + k * 4096) with
    | none => rw [hl] at this; simp at this
    | some b => rfl⟩
  clear e ht1 ht2
  have hrow := fun w => row_calls p N w hp0 h2 h3
  have HM := Aside0.mk hM
  clear hM
  go_enter Try.func21, Try.ntmps21
  go_wp2_with fail
  refine hth.mono ?_
  rintro e w1 ⟨rfl, HB⟩
  clear hth
  have HM1 := Aside0.mk (HM.out.keep HB)
  have HB1 := Aside0.mk HB
  clear HB HM
  go_wp2_with fail
  refine (hrow _).mono ?_
  rintro e w3 ⟨v3, rfl, HO, HB⟩
  clear hrow
  have HB3 := Aside0.mk (HB1.out.trans (HB.mono HB1.out.size))
  have HM3 := Aside0.mk (HM1.out.keep HB)
  rw [rowL_len] at HO
  obtain ⟨A, c3, rfl, HR⟩ := own_reads HO
  have HR3 := Aside0.mk HR
  clear HO HB HR HB1 HM1
  go_wp2
  go_loopw [18] (fun i wr => ∃ k : Nat, k ≤ N ∧ i = .int .i64 k ∧ ∃ l', MemR wr B bm bp most l' ct ∧ Gone l p k l' ∧ Keeps (· = bp) w3 wr) (fun i _ => N - (intOf i).toNat)
  case atStart => exact ⟨0, Nat.zero_le _, rfl, l, HM3.out, ⟨rfl, fun q => by simp [rowL], fun x hx => hx⟩, Keeps.refl _ _⟩
  case round =>
  obtain ⟨k, hk, rfl, l', HM', HA, HK⟩ := hrel
  by_cases hlt : k < N
  · obtain ⟨ad, rfl, hcell⟩ := HR3.out.2.2 (by omega)
    have hc := HK.cell (hcell k hlt) (HM3.out.map.ne (hcell k hlt))
    rw [rowL_get p N k hlt] at hc
    clear hcell
    have hs : (l'.lookup (p + k * 4096)).isSome = true := by
      rw [HA.2.1, if_neg]
      · exact hall.out k hlt
      · rw [rowL_mem]; rintro ⟨j, hj, e⟩; omega
    obtain ⟨w4, hrun, hmap4, hk4, hs4⟩ := run_delete_key (P := Try.prog) wr 63 25 _ 0 Try.underlying63 Try.underlying25 bp l' HM'.map (p + k * 4096)
    have HM4 := Aside0.mk (HM'.del _ hmap4 hk4)
    have HA4 := Aside0.mk (HA.step HM'.keys hs)
    have HK4 : Aside0 (Keeps (· = bp) w3 w4) := ⟨HK.trans hk4⟩
    obtain ⟨c0, -⟩ := HM'.cells
    clear HM' HA HK hmap4 hk4 hs4 HR3 HM3 HB3 hs hall
    go_wp2
    go_roundw
    case rel => exact ⟨k + 1, by omega, by go_num, _, HM4.out, HA4.out, HK4.out⟩
    case measure => simp [intOf]; omega
  obtain rfl : k = N := by omega
  go_wp2
  go_ret
  exact ⟨rfl, l', HM', HA, (Keeps.of_below HB3.out _).trans HK⟩
def thereM (M : AMem) (p n : Int) : Bool := mayB p n && !((rowL p n.toNat).any fun q => (M.pg q).isNone)
def unM (M : AMem) (p n : Int) : AMem := if thereM M p n = true then ⟨M.most, M.cnt - n.toNat, fun q => if q ∈ rowL p n.toNat then none else M.pg q⟩ else M
theorem UnmapH_calls (F : Nat → Prop) (bm : Nat) (M : AMem) (p n : Int) (w : World) (hM : Has w F bm M) (hp0 : 0 ≤ p) :
    Calls Try.prog 21 #[.pointer (some ⟨bm, 0, none⟩), .int .u64 p, .int .i64 n] w fun e w' => e = .returned (.bool (thereM M p n)) ∧ After w w' F bm (unM M p n) := by
  obtain ⟨bp, l, ct, h1, h2, h3, h4, h5, h6, h7⟩ := id hM
  have he : thereM M p n = thereL l p n := by
    unfold thereM thereL
    congr 2
    congr 1
    funext q
    rw [h3 q, Option.isNone_map]; rfl
  unfold unM
  rw [he]
  cases ht : thereL l p n with
  | false => exact (Unmap_no 0 bm bp M.most l ct p n w h1 hp0 ht).mono fun e w' ⟨a, b⟩ => ⟨a, After.same hM b⟩
  | true =>
    have hmay : mayB p n = true := by unfold thereL at ht; rw [Bool.and_eq_true] at ht; exact ht.1
    obtain ⟨N, rfl, n1, n2, n3, n4⟩ := may_row hmay
    refine (Unmap_ok 0 bm bp M.most l ct p N w h1 hp0 ht).mono ?_
    rintro e w' ⟨rfl, l', a1, a2, a3⟩
    rw [if_pos rfl]
    refine ⟨rfl, fun b => b = bm ∨ b = bp ∨ ∃ x ∈ l', x.2 = b, ⟨bp, l', ct, a1, ?_, ?_, h4, h5, ?_, fun b => Iff.rfl⟩, a3.mono fun k _ e => (h7 k).2 (.inr (.inl e)), ?_⟩
    · show M.cnt - _ = _
      have := a2.1
      rw [Int.toNat_natCast]; omega
    · intro q
      show (if _ then _ else _) = _
      rw [a2.2.1 q, Int.toNat_natCast, h3 q]
      split <;> rfl
    · show ((M.cnt - ((N : Int)).toNat : Nat) : Int) ≤ M.most
      omega
    · rintro b (h | h | ⟨x, hx, rfl⟩)
      · exact .inl ((h7 b).2 (.inl h))
      · exact .inl ((h7 b).2 (.inr (.inl h)))
      · exact .inl ((h7 _).2 (.inr (.inr ⟨x, a2.2.2 x hx, rfl⟩)))
end Go.Proofs.Ytdagfddhdnfbkaa
