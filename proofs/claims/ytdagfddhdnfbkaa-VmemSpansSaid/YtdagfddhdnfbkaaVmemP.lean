/- (*vmem.Mem): bytes are written: put, Poke. -/
import Derived.Test.YtdagfddhdnfbkaaVmemG
import Derived.Laws.CopyOwn
namespace Go.Proofs.Ytdagfddhdnfbkaa
open Go.RowKit
set_option linter.unusedVariables false
set_option linter.unusedSimpArgs false
open Go.Proofs.YtdagfddhdnfbkaaW.PrintWords
/-- a page in another one's place -/
def setPage (M : AMem) (q0 : Int) (x : List Int × Int) : AMem := ⟨M.most, M.cnt, fun q => if q = q0 then some x else M.pg q⟩
theorem lookup_inj {l : List (Int × Nat)} (hn : (l.map (·.2)).Nodup) {q q' : Int} {b : Nat} (h : l.lookup q = some b) (h' : l.lookup q' = some b) : q = q' := by
  have m1 := lookup_mem h
  have m2 := lookup_mem h'
  induction l with
  | nil => simp at m1
  | cons x l ih =>
    obtain ⟨a, c⟩ := x
    simp only [List.map_cons, List.nodup_cons] at hn
    have notin : ∀ z : Int, (z, c) ∈ l → False := fun z hz => hn.1 (List.mem_map.2 ⟨_, hz, rfl⟩)
    rcases List.mem_cons.1 m1 with e1 | e1 <;> rcases List.mem_cons.1 m2 with e2 | e2
    · simp only [Prod.mk.injEq] at e1 e2; rw [e1.1, e2.1]
    · simp only [Prod.mk.injEq] at e1; rw [e1.2] at e2; exact (notin _ e2).elim
    · simp only [Prod.mk.injEq] at e2; rw [e2.2] at e1; exact (notin _ e1).elim
    · have hq : q ≠ a := by
        rintro rfl
        simp [List.lookup] at h
        rw [← h] at e1; exact notin _ e1
      have hq' : q' ≠ a := by
        rintro rfl
        simp [List.lookup] at h'
        rw [← h'] at e2; exact notin _ e2
      have b1 : (q == a) = false := by rw [beq_eq_false_iff_ne]; exact hq
      have b2 : (q' == a) = false := by rw [beq_eq_false_iff_ne]; exact hq'
      simp only [List.lookup, b1] at h
      simp only [List.lookup, b2] at h'
      exact ih hn.2 h h' e1 e2
/-- the world behind a write into one page -/
theorem MemR.set {w w2 : World} {B bm bp : Nat} {most : Int} {l : List (Int × Nat)} {ct : Nat → List Int × Int} (h : MemR w B bm bp most l ct) {q0 : Int} {b : Nat} (hb : l.lookup q0 = some b) {x : List Int × Int}
    (hp : Page w2 b x.1 x.2) (hk : Keeps (· = b) w w2) : MemR w2 B bm bp most l (fun b' => if b' = b then x else ct b') := by
  obtain ⟨l1, l2, l3, l4⟩ := h.lt
  have hbm := lookup_mem hb
  have n1 : bm ≠ b := by
    rintro rfl
    have := (h.page _ hbm).2.1
    rw [h.head] at this
    simp only [Option.some.injEq, Obj.cells.injEq] at this
    exact absurd this.2.1 (by decide)
  refine ⟨by rw [hk.block _ l1 n1]; exact h.head, h.map.keep (hk.block _ l2 (fun e => (l4 _ hbm).2 e.symm)), h.keys, h.blks, fun y hy => ?_, h.lo⟩
  obtain ⟨a1, a2, a3⟩ := h.page y hy
  refine ⟨a1, ?_⟩
  by_cases e : y.2 = b
  · rw [if_pos e, e]; exact hp
  · rw [if_neg e]
    exact ⟨by rw [hk.block _ (l4 y hy).1 e]; exact a2, a3⟩
theorem Has.set {w w2 : World} {F : Nat → Prop} {bm : Nat} {M : AMem} (h : Has w F bm M) {bp : Nat} {l : List (Int × Nat)} {ct : Nat → List Int × Int} (k1 : MemR w 0 bm bp M.most l ct) (k2 : M.cnt = l.length) (k3 : ∀ q, M.pg q = (l.lookup q).map ct)
    (k7 : ∀ b, F b ↔ b = bm ∨ b = bp ∨ ∃ x ∈ l, x.2 = b) {q0 : Int} {b : Nat} (hb : l.lookup q0 = some b) {x : List Int × Int} (hp : Page w2 b x.1 x.2) (hk : Keeps (· = b) w w2) : Has w2 F bm (setPage M q0 x) ∧ F b := by
  obtain ⟨-, -, -, -, -, -, h4, h5, h6, -⟩ := h
  refine ⟨⟨bp, l, _, k1.set hb hp hk, k2, fun q => ?_, h4, h5, h6, k7⟩, (k7 b).2 (.inr (.inr ⟨_, lookup_mem hb, rfl⟩))⟩
  show (if q = q0 then some x else M.pg q) = _
  by_cases e : q = q0
  · subst e; rw [if_pos rfl, hb]; simp
  · rw [if_neg e, k3]
    cases hl : l.lookup q with
    | none => rfl
    | some b' =>
      have : b' ≠ b := by rintro rfl; exact e (lookup_inj k1.blks hl hb)
      simp [this]
/-- a page's bytes with others laid over them, from p on -/
def putP (bs : List Int) (q p : Int) (xs : List Int) : List Int :=
  (List.range bs.length).map fun (j : Nat) => if ((q + j - p) % 18446744073709551616).toNat < xs.length ∧ baseV (aT p ((q + j - p) % 18446744073709551616).toNat) = q then xs.getD ((q + j - p) % 18446744073709551616).toNat 0 else bs.getD j 0
def putM (M : AMem) (p : Int) (xs : List Int) : AMem := ⟨M.most, M.cnt, fun q => (M.pg q).map fun x => (putP x.1 q p xs, x.2)⟩
theorem putP_len (bs : List Int) (q p : Int) (xs : List Int) : (putP bs q p xs).length = bs.length := by simp [putP]
theorem putP_get (bs : List Int) (q p : Int) (xs : List Int) (j : Nat) (hj : j < bs.length) :
    (putP bs q p xs).getD j 0 = if ((q + j - p) % 18446744073709551616).toNat < xs.length ∧ baseV (aT p ((q + j - p) % 18446744073709551616).toNat) = q then xs.getD ((q + j - p) % 18446744073709551616).toNat 0 else bs.getD j 0 := by
  simp [putP, List.getD_eq_getElem?_getD, hj]
theorem putP_bytes (bs : List Int) (q p : Int) (xs : List Int) (h : Bytes bs) (h2 : Bytes xs) : Bytes (putP bs q p xs) := by
  intro x hx
  simp only [putP, List.mem_map] at hx
  obtain ⟨j, -, rfl⟩ := hx
  split
  · exact h2.get _
  · exact h.get _
theorem putM_nil (M : AMem) (p : Int) : putM M p [] = M := by
  obtain ⟨a, b, f⟩ := M
  unfold putM
  congr 1
  funext q
  show (f q).map (fun x => (putP x.1 q p [], x.2)) = f q
  cases hq : f q with
  | none => rfl
  | some x =>
    show some (putP x.1 q p [], x.2) = some x
    have : putP x.1 q p [] = x.1 := list_ext_getD (putP_len _ _ _ _) fun i hi => by
      rw [putP_len] at hi
      rw [putP_get _ _ _ _ i hi, if_neg (by rintro ⟨h, -⟩; simp at h)]
    rw [this]
theorem putM_step (M : AMem) (p : Int) (xs : List Int) (k : Nat) (hn : xs.length ≤ 65536) (h : k < numT p xs.length) (x : List Int × Int) (hl : x.1.length = 4096) (hp : M.pg (baseV (aT p (cT p xs.length k))) = some x) :
    setPage (putM M p (xs.take (cT p xs.length k))) (baseV (aT p (cT p xs.length k)))
      ((putP x.1 (baseV (aT p (cT p xs.length k))) p (xs.take (cT p xs.length k))).take (aT p (cT p xs.length k) % 4096).toNat ++ (((xs.drop (cT p xs.length k)).take (cT p xs.length (k + 1) - cT p xs.length k)) ++ (putP x.1 (baseV (aT p (cT p xs.length k))) p (xs.take (cT p xs.length k))).drop ((aT p (cT p xs.length k) % 4096).toNat + (cT p xs.length (k + 1) - cT p xs.length k))), x.2)
      = putM M p (xs.take (cT p xs.length (k + 1))) := by
  have hs := cT_step p xs.length k h
  have hlt := cT_lt p xs.length k h
  have hle := cT_le p xs.length (k + 1)
  have hle0 := cT_le p xs.length k
  obtain ⟨a0, a1⟩ := aT_range p (cT p xs.length k)
  have tb := fun i h1 h2 => touch_base p xs.length k i h h1 h2
  have key : ∀ i : Nat, cT p xs.length k ≤ i → i < cT p xs.length (k + 1) → baseV (aT p i) = baseV (aT p (cT p xs.length k)) ∧ aT p i = aT p (cT p xs.length k) + (i - cT p xs.length k : Nat) := tb
  have hap : aT p (cT p xs.length k) = (p + cT p xs.length k) % 18446744073709551616 := rfl
  obtain ⟨c, hc⟩ : ∃ c, cT p xs.length k = c := ⟨_, rfl⟩
  obtain ⟨c', hc'⟩ : ∃ c, cT p xs.length (k + 1) = c := ⟨_, rfl⟩
  rw [hc] at hp hs hlt hle0 a0 a1 key hap ⊢
  rw [hc'] at hs hle key ⊢
  clear tb hc hc'
  generalize ha : aT p c = a at *
  have hf : 0 ≤ a % 4096 ∧ a % 4096 < 4096 := by omega
  have hcc : c ≤ c' := by omega
  have hfc : a % 4096 + (c' - c : Nat) ≤ 4096 := by omega
  unfold setPage putM
  congr 1
  funext q
  by_cases hq : q = baseV a
  · subst hq
    rw [if_pos rfl]
    simp only [hp, Option.map_some]
    congr 1
    refine Prod.ext ?_ rfl
    show _ = putP x.1 (baseV a) p (xs.take c')
    have hlen : ((putP x.1 (baseV a) p (xs.take c)).take (a % 4096).toNat).length = (a % 4096).toNat := by rw [List.length_take, putP_len, hl]; omega
    have hlen2 : ((xs.drop c).take (c' - c)).length = c' - c := by rw [List.length_take, List.length_drop]; omega
    apply list_ext_getD
    · rw [List.length_append, List.length_append, hlen, hlen2, List.length_drop, putP_len, putP_len, hl]; omega
    · intro j hj
      rw [List.length_append, List.length_append, hlen, hlen2, List.length_drop, putP_len, hl] at hj
      have hj' : j < x.1.length := by omega
      rw [putP_get _ _ _ _ j hj', List.length_take, Nat.min_eq_left hle]
      have hb : baseV a + a % 4096 = a := by unfold baseV; omega
      have hb0 : 0 ≤ baseV a := by unfold baseV; omega
      obtain ⟨i, hi⟩ : ∃ i : Nat, ((baseV a + (j : Int) - p) % 18446744073709551616).toNat = i := ⟨_, rfl⟩
      rw [hi]
      by_cases h1 : j < (a % 4096).toNat
      · rw [getD_append_l (by rw [hlen]; exact h1), getD_take h1, putP_get _ _ _ _ j hj', hi, List.length_take, Nat.min_eq_left hle0]
        have out : ¬ (c ≤ i ∧ i < c' ∧ baseV (aT p i) = baseV a) := by
          rintro ⟨g1, g2, -⟩
          obtain ⟨-, e2⟩ := key i g1 g2
          have e3 : aT p i = (p + i) % 18446744073709551616 := rfl
          omega
        by_cases g : i < c ∧ baseV (aT p i) = baseV a
        · rw [if_pos g, if_pos ⟨by omega, g.2⟩, getD_take g.1, getD_take (by omega)]
        · rw [if_neg g, if_neg (fun g' => by
            rcases Nat.lt_or_ge i c with h | h
            · exact g ⟨h, g'.2⟩
            · exact out ⟨h, g'.1, g'.2⟩)]
      · by_cases h2 : j < (a % 4096).toNat + (c' - c)
        · rw [getD_append_r (by rw [hlen]; omega), hlen, getD_append_l (by rw [hlen2]; omega), getD_take (by omega), getD_drop]
          have e : i = c + (j - (a % 4096).toNat) := by omega
          obtain ⟨e1, -⟩ := key i (by omega) (by omega)
          rw [if_pos ⟨by omega, e1⟩, getD_take (by omega), e]
        · rw [getD_append_r (by rw [hlen]; omega), hlen, getD_append_r (by rw [hlen2]; omega), hlen2, getD_drop]
          rw [show (a % 4096).toNat + (c' - c) + (j - (a % 4096).toNat - (c' - c)) = j by omega]
          rw [putP_get _ _ _ _ j hj', hi, List.length_take, Nat.min_eq_left hle0]
          have out : ¬ (c ≤ i ∧ i < c' ∧ baseV (aT p i) = baseV a) := by
            rintro ⟨g1, g2, -⟩
            obtain ⟨-, e2⟩ := key i g1 g2
            have e3 : aT p i = (p + i) % 18446744073709551616 := rfl
            omega
          by_cases g : i < c ∧ baseV (aT p i) = baseV a
          · rw [if_pos g, if_pos ⟨by omega, g.2⟩, getD_take g.1, getD_take (by omega)]
          · rw [if_neg g, if_neg (fun g' => by
              rcases Nat.lt_or_ge i c with h | h
              · exact g ⟨h, g'.2⟩
              · exact out ⟨h, g'.1, g'.2⟩)]
  · rw [if_neg hq]
    show (M.pg q).map (fun x => (putP x.1 q p (xs.take c), x.2)) = (M.pg q).map (fun x => (putP x.1 q p (xs.take c'), x.2))
    cases hx : M.pg q with
    | none => rfl
    | some y =>
      show some (putP y.1 q p (xs.take c), y.2) = some (putP y.1 q p (xs.take c'), y.2)
      congr 2
      apply list_ext_getD
      · rw [putP_len, putP_len]
      · intro j hj
        rw [putP_len] at hj
        rw [putP_get _ _ _ _ j hj, putP_get _ _ _ _ j hj, List.length_take, List.length_take, Nat.min_eq_left hle, Nat.min_eq_left hle0]
        obtain ⟨i, hi⟩ : ∃ i : Nat, ((q + (j : Int) - p) % 18446744073709551616).toNat = i := ⟨_, rfl⟩
        rw [hi]
        by_cases g : i < c ∧ baseV (aT p i) = q
        · rw [if_pos g, if_pos ⟨by omega, g.2⟩, getD_take g.1, getD_take (by omega)]
        · rw [if_neg g, if_neg (fun g' => by
            rcases Nat.lt_or_ge i c with h | h
            · exact g ⟨h, g'.2⟩
            · obtain ⟨e1, -⟩ := key i h g'.1
              exact hq (g'.2.symm.trans e1))]
theorem Has.pages {w : World} {F : Nat → Prop} {bm : Nat} {M : AMem} (h : Has w F bm M) {q : Int} {x : List Int × Int} (hx : M.pg q = some x) : x.1.length = 4096 ∧ Bytes x.1 ∧ 0 ≤ x.2 ∧ x.2 ≤ 15 := by
  obtain ⟨bp, l, ct, k1, k2, k3, -⟩ := h
  rw [k3] at hx
  cases hl : l.lookup q with
  | none => rw [hl] at hx; cases hx
  | some b =>
    rw [hl] at hx
    cases hx
    exact (has_page k1 hl).2
theorem nums_get {k : IntKind} {ys : List Int} {j : Nat} (h : j < ys.length) : (nums k ys)[j]? = some (.int k (ys.getD j 0)) := by simp [nums, List.getD_eq_getElem?_getD, h]
def NotIn (F : Nat → Prop) (A : Option Addr) (n : Nat) : Prop := ∀ ad, 0 < n → A = some ad → ¬ F ad.block
def cutA (A : Option Addr) (c m : Nat) : Option Addr := if c = m then A else A.map fun x => x.add m
theorem add_block (a : Addr) (m : Nat) : (a.add m).block = a.block := by unfold Addr.add; split <;> rfl
theorem NotIn.cut {F : Nat → Prop} {A : Option Addr} {n : Nat} (h : NotIn F A n) (c m : Nat) : NotIn F (cutA A c m) (n - m) := by
  intro ad hn he
  unfold cutA at he
  split at he
  · exact h ad (by omega) he
  · cases A with
    | none => cases he
    | some a => cases he; rw [add_block]; exact h a (by omega) rfl
theorem slice_cut (W : World) (A : Option Addr) (n c m : Nat) (hm : m ≤ n) :
    (Instr.slice 43 (.slice A n c) (some (.int .i64 m)) none none).run Try.prog W = .ok (.slice (cutA A c m) (n - m) (c - m)) W := by
  have hel : Try.prog.elem 43 = 5 := by simp [Program.elem, Try.underlying43]
  have hu : Try.prog.underlying 43 = some (.slice (Try.prog.elem 43)) := by rw [hel]; exact Try.underlying43
  rw [run_slice_l W _ A n c hu .i64 m (by omega) (by omega), hel, size_u8]
  simp [sliced, Result.andThen, cutA]
theorem reads_cut {w : World} {A : Option Addr} {n c m : Nat} {xs : List Int} (h : ReadsInt w .u8 A n xs) (hm : m ≤ n) (hc : n ≤ c) : ReadsInt w .u8 (cutA A c m) (n - m) (xs.drop m) :=
  ReadsOf.drop_ (c := c) h m hm hc
theorem page_copy {bs ys : List Int} {pr : Int} {f m : Nat} (hf : f + m ≤ bs.length) (hm : ys.length = m) :
    ((pageCells bs pr).toList.take f ++ (nums .u8 ys ++ (pageCells bs pr).toList.drop (f + (nums .u8 ys).length))).toArray = pageCells (bs.take f ++ (ys ++ bs.drop (f + m))) pr := by
  have e : (nums .u8 ys).length = m := by rw [nums_length, hm]
  rw [e]
  unfold pageCells
  congr 1
  simp only [nums, List.map_append, List.map_take, List.map_drop]
  rw [List.take_append_of_le_length (by simp; omega), List.drop_append_of_le_length (by simp; omega)]
  simp
theorem keeps_setRow (w : World) (b : Nat) (cs : Array Value) : Keeps (· = b) w (w.drew.setRow b cs) :=
  ⟨rfl, rfl, rfl, Nat.le_of_eq (by simp [World.setRow]), fun k hk hn => setRow_other w.drew b k cs (fun e => hn e)⟩
theorem reads_keeps {S : Nat → Prop} {w w' : World} {k : IntKind} {A : Option Addr} {n : Nat} {xs : List Int} (h : ReadsInt w k A n xs) (hk : Keeps S w w') (hn : ∀ ad, 0 < n → A = some ad → ¬ S ad.block) : ReadsInt w' k A n xs :=
  ⟨h.1, h.2.1, fun h0 => by
    obtain ⟨ad, rfl, hc⟩ := h.2.2 h0
    exact ⟨ad, rfl, fun j hj => hk.cell (hc j hj) (by rw [add_block]; exact hn ad h0 rfl)⟩⟩
set_option maxHeartbeats 1600000 in
set_option maxRecDepth 100000 in
theorem put_calls (F : Nat → Prop) (bm : Nat) (M : AMem) (p : Int) (xs : List Int) (A : Option Addr) (n c : Nat) (w : World) (hM : Has w F bm M) (hr : ReadsInt w .u8 A n xs) (hA : NotIn F A n) (hnc : n ≤ c) (hby : Bytes xs) (h0 : 0 ≤ p) (h1 : p < 18446744073709551616) (hn : n ≤ 65536) (hall : allM M p n = true) :
    Calls Try.prog 44 #[.pointer (some ⟨bm, 0, none⟩), .int .u64 p, .slice A n c] w fun e w' => e = .returned (.tuple #[]) ∧ Has w' F bm (putM M p xs) ∧ Keeps F w w' := by
  have hlen := hr.1
  subst hlen
  have ht := fun w => touched_calls p xs.length w h0 h1 hn
  have HA := Aside0.mk ((allM_iff M p xs.length).1 hall)
  have HP := Aside0.mk (fun q x => Has.pages (q := q) (x := x) hM)
  have hN := numT_le p xs.length
  have HM := Aside0.mk hM
  have HR := Aside0.mk hr
  have HY := Aside0.mk hby
  have HNI := Aside0.mk hA
  clear hM hall hr hby hA
  obtain ⟨n, hxn⟩ : ∃ n, xs.length = n := ⟨_, rfl⟩
  go_enter Try.func44, Try.ntmps44
  rw [hxn] at hn hnc ht HA HR hN HNI ⊢
  have HX := Aside0.mk hxn
  clear hxn
  go_wp2_with fail
  refine (ht _).mono ?_
  rintro e w1 ⟨v1, rfl, HT0, HB1⟩
  have HM1 := Aside0.mk (HM.out.keep HB1)
  have HBB := Aside0.mk HB1
  have HRR := Aside0.mk (HR.out.below HB1)
  rw [touchL_len] at HT0
  obtain ⟨A9, ct9, rfl, -⟩ := own_reads HT0
  have HR1 := Aside0.mk HT0
  clear HT0 HB1 HM HR ht
  have hz : cT p n 0 = 0 := rfl
  go_wp2
  go_loopw [2, 14] (fun b iv wr => ∃ (k : Nat) (A1 : Option Addr) (c1 : Nat), k ≤ numT p n ∧ iv = .int .i64 k ∧ b = .slice A1 (n - cT p n k) c1 ∧ n - cT p n k ≤ c1 ∧ Aside0 (NotIn F A1 (n - cT p n k)) ∧ Aside0 (ReadsInt wr .u8 A1 (n - cT p n k) (xs.drop (cT p n k))) ∧ Aside0 (Keeps F w1 wr) ∧ Aside0 (Has wr F bm (putM M p (xs.take (cT p n k)))) ∧ Aside0 (wr.ownsRow w.heap.size 25 1 (.slice A9 (numT p n) ct9) (numT p n) (nums .u64 (touchL p n (numT p n))))) (fun _ iv _ => numT p n - (intOf iv).toNat)
  case atStart => exact ⟨0, A, c, Nat.zero_le _, rfl, rfl, hnc, HNI, HRR, ⟨Keeps.refl _ _⟩, ⟨by rw [hz, List.take_zero, putM_nil]; exact HM1.out⟩, HR1⟩
  case round =>
  clear HM1 HR1 HRR HNI hz
  obtain ⟨k, A1, c1, hk, rfl, rfl, hc1, HNI, HS, HK, HM, HR⟩ := hrel
  by_cases hlt : k < numT p n
  · obtain ⟨ad, rfl, hcell⟩ := (own_reads' HR.out).2.2 (by omega)
    have hc := hcell k hlt
    rw [touchL_get p n _ k hlt] at hc
    clear hcell
    obtain ⟨a0, a1⟩ := aT_range p (cT p n k)
    have hcl := cT_lt p n k hlt
    have hs := cT_step p n k hlt
    have hstep := fun x hl hp => putM_step M p xs k (by rw [HX.out]; exact hn) (by rw [HX.out]; exact hlt) x hl hp
    rw [HX.out] at hstep
    obtain ⟨bp, l, ct, k1, k2, k3, k4, k5, k6, k7⟩ := id HM.out
    obtain ⟨x, hx⟩ := Option.isSome_iff_exists.1 (HA.out _ hcl)
    obtain ⟨q1, q2, q3, q4⟩ := HP.out _ _ hx
    have hgq := k3 (baseV (aT p (cT p n k)))
    have hgq' : (M.pg (baseV (aT p (cT p n k)))).map (fun x => (putP x.1 (baseV (aT p (cT p n k))) p (xs.take (cT p n k)), x.2)) = _ := hgq
    rw [hx] at hgq'
    clear hgq
    cases hb : l.lookup (baseV (aT p (cT p n k))) with
    | none => rw [hb] at hgq'; cases hgq'
    | some b =>
    rw [hb] at hgq'
    have hct : ct b = (putP x.1 (baseV (aT p (cT p n k))) p (xs.take (cT p n k)), x.2) := by simpa using hgq'.symm
    have hpg := has_page k1 hb
    rw [hct] at hpg
    have hst := hstep x q1 hx
    clear hstep hgq' hct
    obtain ⟨c0, -⟩ := k1.cells
    have hl := lookup_page wr.drew bp l (k1.map.drewN 1) (baseV (aT p (cT p n k)))
    rw [hb] at hl
    simp only [ptrV] at hl
    have hbv : 0 ≤ baseV (aT p (cT p n k)) ∧ baseV (aT p (cT p n k)) ≤ aT p (cT p n k) ∧ aT p (cT p n k) - baseV (aT p (cT p n k)) ≤ 4095 := by unfold baseV; omega
    have hfm : aT p (cT p n k) % 4096 = aT p (cT p n k) - baseV (aT p (cT p n k)) := by unfold baseV; omega
    have hbase := fun w => still_of (base_calls (aT p (cT p n k)) w a0 a1)
    rw [hfm] at hs hst
    have hset := fun (w2 : World) (y : List Int × Int) hp hk => Has.set (w2 := w2) (x := y) HM.out k1 k2 k3 k7 hb hp hk
    generalize baseV (aT p (cT p n k)) = bv at *
    generalize aT p (cT p n k) = av at *
    obtain ⟨c', hcc'⟩ : ∃ c : Nat, cT p n (k + 1) = c := ⟨_, rfl⟩
    have hcle := cT_le p n (k + 1)
    rw [hcc'] at hs hst hcle
    have HC' := Aside0.mk hcc'
    obtain ⟨c, hcc⟩ : ∃ c : Nat, cT p n k = c := ⟨_, rfl⟩
    rw [hcc] at hcl hs hst hset hc1 HS HM hpg HNI ⊢
    obtain ⟨m, hm⟩ : ∃ m, c' - c = m := ⟨_, rfl⟩
    rw [hm] at hst
    have hm2 : (m : Int) = min ((n : Int) - c) (4096 - (av - bv)) ∧ c' = c + m := by omega
    have HMM := Aside0.mk hm2
    have hm3 : 1 ≤ m ∧ m ≤ n - c ∧ (av - bv).toNat + m ≤ 4096 := by omega
    obtain ⟨ad1, rfl, hcell1⟩ := HS.out.2.2 (by omega)
    have HCELL := Aside0.mk hcell1
    have HST := Aside0.mk hst
    have HSET := Aside0.mk hset
    have HPG := Aside0.mk hpg
    have hq4 : Aside0 (Bytes x.1 ∧ 0 ≤ x.2 ∧ x.2 ≤ 15 ∧ x.1.length = 4096) := ⟨q2, q3, q4, q1⟩
    clear hcc hcc' hfm k1 k2 k3 k4 k5 k6 k7 hb hst hset hpg q1 q2 q3 q4 hx hcell1 hm hm2 hs
    have hsub : IntKind.u64.wrap (av - bv) = av - bv := by rw [IntKind.wrap_u64]; omega
    have hsl := slice_page_l wr.drew b .u64 (av - bv) (by omega) (by omega)
    go_wp2_with fail
    go_still_tail 15, (by kernel_rfl)
    change wpStill _ _ wr.drew _ _ _
    still_call (hbase _)
    repeat still_step
    still_call (hbase _)
    repeat still_step
    refine wpStill_nil ?_
    change wpList _ _ _ _ _ wr.drew
    have hys : ((xs.drop c).take m).length = m := by rw [List.length_take, List.length_drop, HX.out]; omega
    have hnl : (nums .u8 ((xs.drop c).take m)).length = m := by rw [nums_length, hys]
    have hpl := putP_len x.1 bv p (xs.take c)
    have hb9 : Bytes ((putP x.1 bv p (xs.take c)).take (av - bv).toNat ++ ((xs.drop c).take m ++ (putP x.1 bv p (xs.take c)).drop ((av - bv).toNat + m))) :=
      ((putP_bytes _ _ _ _ hq4.out.1 (HY.out.take c)).take _).append (((HY.out.drop c).take m).append ((putP_bytes _ _ _ _ hq4.out.1 (HY.out.take c)).drop _))
    refine wpList_copy_own rfl (.tmp 31) (.tmp 32) 43 43 rfl 5 Try.underlying43 (by kernel_rfl) b (av - bv).toNat _ _ ad1 _ _ rfl rfl (pageCells (putP x.1 bv p (xs.take c)) x.2) 72 HPG.out.1 (nums .u8 ((xs.drop c).take m)) ?c1 ?c2 ?c3 ?c4 ?_
    case c1 => rw [hnl]; have := HMM.out; show m = min _ _; omega
    case c2 =>
      intro j v hv
      have hj : j < m := by
        rcases Nat.lt_or_ge j m with h | h
        · exact h
        · rw [List.getElem?_eq_none (by rw [hnl]; exact h)] at hv; cases hv
      have hcj := HCELL.out j (by omega)
      rw [show wr.drew.cell? (ad1.add j) = wr.cell? (ad1.add j) from rfl, hcj, ← hv, nums_get (by rw [hys]; exact hj), getD_take hj]
    case c3 => rw [hnl]; simp [pageCells, nums_length, hpl, hq4.out.2.2.2]; omega
    case c4 => intro u hu; simp only [nums, List.mem_map] at hu; obtain ⟨z, -, rfl⟩ := hu; rfl
    rw [page_copy (m := m) (by rw [hpl, hq4.out.2.2.2]; omega) hys, hnl]
    obtain ⟨w3, hw3⟩ : ∃ w3, wr.drew.setRow b (pageCells ((putP x.1 bv p (xs.take c)).take (av - bv).toNat ++ ((xs.drop c).take m ++ (putP x.1 bv p (xs.take c)).drop ((av - bv).toNat + m))) x.2) = w3 := ⟨_, rfl⟩
    rw [hw3]
    have hk3 : Keeps (· = b) wr w3 := hw3 ▸ keeps_setRow wr b _
    have hp3 : Page w3 b ((putP x.1 bv p (xs.take c)).take (av - bv).toNat ++ ((xs.drop c).take m ++ (putP x.1 bv p (xs.take c)).drop ((av - bv).toNat + m))) x.2 := by
      refine ⟨by rw [← hw3]; exact setRow_heap wr.drew b _ _ _ _ HPG.out.1, ?_, hb9, hq4.out.2.1, hq4.out.2.2.1⟩
      rw [List.length_append, List.length_append, List.length_take, List.length_drop, hys, hpl, hq4.out.2.2.2]; omega
    obtain ⟨HM3', hFb⟩ := HSET.out w3 (_, _) hp3 hk3
    rw [HST.out] at HM3'
    have HM3 := Aside0.mk HM3'
    have HK3 : Aside0 (Keeps F w1 w3) := ⟨HK.out.trans (hk3.mono fun _ _ e => e ▸ hFb)⟩
    have HS3 := Aside0.mk (reads_cut (reads_keeps HS.out hk3 (fun ad g e h => HNI.out ad g e (h ▸ hFb))) hm3.2.1 hc1)
    have HNI3 := Aside0.mk (HNI.out.cut c1 m)
    rw [show n - c - m = n - (c + m) from by omega] at HNI3
    have HR3 := Aside0.mk (own_move HR.out (w1 := w3) (fun z hz => hk3.block z (own_lt HR.out z hz) (fun e => by
      obtain ⟨cells, hh⟩ := own_typed HR.out z hz
      rw [e, HPG.out.1] at hh
      simp only [Option.some.injEq, Obj.cells.injEq] at hh
      exact absurd hh.2.1 (by decide))))
    rw [List.drop_drop] at HS3
    have hcut := slice_cut w3 (some ad1) (n - c) c1 m hm3.2.1
    have e9 : n - c - m = n - (c + m) := by omega
    rw [e9] at HS3 hcut
    rw [HMM.out.2] at HM3 HC'
    clear hys hnl hpl hb9 hw3 hk3 hp3 HM3' hFb HSET HST HPG HCELL HK HS HNI HR HM e9 hl hsl hsub hq4
    generalize cutA (some ad1) c1 m = A2 at hcut HS3 HNI3
    go_wp2
    go_roundw
    case rel => exact ⟨k + 1, A2, c1 - m, by omega, by go_num, by rw [HC'.out], by rw [HC'.out]; omega, ⟨by rw [HC'.out]; exact HNI3.out⟩, ⟨by rw [HC'.out]; exact HS3.out⟩, HK3, ⟨by rw [HC'.out]; exact HM3.out⟩, HR3⟩
    case measure => simp [intOf]; omega
  · obtain rfl : k = numT p n := by omega
    rw [cT_end, ← HX.out, List.take_length] at HM
    have HKK : Aside0 (Keeps F w wr) := ⟨(Keeps.of_below HBB.out F).trans HK.out⟩
    go_wp2
    go_end0
    exact ⟨rfl, HM.out, HKK.out⟩
end Go.Proofs.Ytdagfddhdnfbkaa
