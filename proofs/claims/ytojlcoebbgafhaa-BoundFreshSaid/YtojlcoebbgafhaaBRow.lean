/- Rows of bytes that may bear a conversion's mark: read, stored into, appended to. -/
import Derived.Test.YtojlcoebbgafhaaAppS
import Derived.Test.YtojlcoebbgafhaaBase
import Derived.ArgAppend
import Derived.Lib.ConvBytes
import Derived.Laws.IdiomCopy
namespace Go.Proofs.Ytojlcoebbgafhaa
open Go.RowKit Go.Proofs.YtojlcoebbgafhaaW.PrintWords Go.Proofs.YtojlcoebbgafhaaW.PrintLast Go.Proofs.YtojlcoebbgafhaaW.PrintMore
set_option linter.unusedVariables false
def BSome (w : World) (base : Nat) (v : Value) (xs : List Int) (g cap : Nat) : Prop :=
  v = .slice (some ⟨g, 0, none⟩) xs.length cap ∧ base ≤ g ∧ g < w.heap.size ∧ xs.length ≤ cap ∧ cap ≤ maxLen ∧ (∀ j, j < xs.length → w.cell? ⟨g, j, none⟩ = some (.int .u8 (xs.getD j 0))) ∧
    (∀ j, j < cap → (w.cell? ⟨g, j, none⟩).isSome = true) ∧ ∀ j, j < cap → w.frozen? ⟨g, j, none⟩ = false
def BRow (w : World) (base : Nat) (v : Value) (xs : List Int) : Prop := (v = .slice none 0 0 ∧ xs = []) ∨ ∃ g cap, BSome w base v xs g cap
theorem BRow.slice {w : World} {base : Nat} {v : Value} {xs : List Int} (h : BRow w base v xs) : ∃ A c, v = .slice A xs.length c ∧ xs.length ≤ c := by
  rcases h with ⟨rfl, rfl⟩ | ⟨g, cap, rfl, _, _, h, _⟩
  · exact ⟨_, _, rfl, Nat.le_refl _⟩
  · exact ⟨_, _, rfl, h⟩
theorem BRow.reads {w : World} {base : Nat} {A : Option Addr} {n c : Nat} {xs : List Int} (h : BRow w base (.slice A n c) xs) : ReadsInt w .u8 A n xs ∧ n ≤ c ∧ xs.length = n := by
  rcases h with ⟨h, rfl⟩ | ⟨g, cap, h, _, _, h1, h2, h3, _⟩
  · injection h with e1 e2 e3
    subst e1 e2 e3
    exact ⟨⟨rfl, by decide, fun h => absurd h (by decide)⟩, Nat.le_refl _, rfl⟩
  · injection h with e1 e2 e3
    subst e1 e2 e3
    refine ⟨⟨rfl, by unfold maxLen at h2; omega, fun _ => ⟨_, rfl, fun j hj => ?_⟩⟩, h1, rfl⟩
    rw [add_plain]
    exact h3 j hj
theorem BRow.below {w w1 : World} {base : Nat} {v : Value} {xs : List Int} (h : BRow w base v xs) (hb : Below w.heap.size w w1) : BRow w1 base v xs := by
  rcases h with h | ⟨g, cap, h0, h1, h2, h3, h4, h5, h6, h7⟩
  · exact .inl h
  · refine .inr ⟨g, cap, h0, h1, Nat.lt_of_lt_of_le h2 hb.size, h3, h4, fun j hj => ?_, fun j hj => ?_, fun j hj => ?_⟩
    · rw [hb.cell (p := ⟨g, j, none⟩) h2]; exact h5 j hj
    · rw [hb.cell (p := ⟨g, j, none⟩) h2]; exact h6 j hj
    · rw [hb.frozen (p := ⟨g, j, none⟩) h2]; exact h7 j hj
theorem BRow.alloc {w : World} {base : Nat} {v : Value} {xs : List Int} (h : BRow w base v xs) (o : Obj) : BRow (w.alloc o) base v xs := h.below (Below.alloc (Below.refl _ _) (Nat.le_refl _) o)
theorem BRow.drew {w : World} {base : Nat} {v : Value} {xs : List Int} (h : BRow w base v xs) : BRow w.drew base v xs := h.below (Below.drew (Below.refl _ _))
theorem BRow.drewN {w : World} {base : Nat} {v : Value} {xs : List Int} (h : BRow w base v xs) (n : Nat) : BRow (w.drewN n) base v xs := h.below (pw_below_drewN (Below.refl _ _) n)
theorem BRow.lower {w : World} {base base' : Nat} {v : Value} {xs : List Int} (h : BRow w base v xs) (hb : base' ≤ base) : BRow w base' v xs := by
  rcases h with h | ⟨g, cap, h0, h1, hr⟩
  · exact .inl h
  · exact .inr ⟨g, cap, h0, Nat.le_trans hb h1, hr⟩
theorem BRow.base_le {w : World} {base : Nat} {v : Value} {xs : List Int} (h : BRow w base v xs) : ∀ k, v.ownBlock = some k → base ≤ k := by
  intro k hk
  rcases h with ⟨rfl, _⟩ | ⟨g, cap, rfl, h1, _⟩
  · simp [Value.ownBlock] at hk
  · simp [Value.ownBlock] at hk; omega
theorem BRow.of_own {w : World} {base : Nat} {e : TypeId} {v : Value} {xs : List Int} (h : w.ownsRow base e 1 v xs.length (nums .u8 xs)) : BRow w base v xs := by
  rcases h.2 with ⟨rfl, h0⟩ | ⟨g, cap, cur, rfl, hb, hg, hn, hc, hs, ht⟩
  · exact .inl ⟨rfl, List.length_eq_zero_iff.1 h0⟩
  · have hsz : cur.size = cap := by simpa using hs
    have hcell : ∀ j, w.cell? ⟨g, j, none⟩ = cur[j]? := fun j => cell_of_row w g j cur e (0, 0) hg
    refine .inr ⟨g, cap, rfl, hb, blk_lt hg, hn, hc, fun j hj => ?_, fun j hj => ?_, fun j hj => ?_⟩
    · rw [hcell]
      have h1 : (cur.toList.take (xs.length * 1))[j]? = (nums .u8 xs)[j]? := by rw [ht]
      rw [List.getElem?_take_of_lt (by omega)] at h1
      rw [← Array.getElem?_toList, h1]
      simp [nums, List.getD_eq_getElem?_getD, List.getElem?_eq_getElem hj]
    · rw [hcell, Array.getElem?_eq_getElem (by omega)]; rfl
    · simp [World.frozen?, hg]
theorem BRow.of_conv (w : World) (e : TypeId) (s : ByteArray) (base : Nat) (hb : base ≤ w.heap.size) (hs : s.size ≤ maxLen) : BRow (Lib.bytesWorld w e s) base (.slice (some ⟨w.heap.size, 0, none⟩) s.size (grownCap w s.size 0 e)) (bytesOf s) := by
  have hl := bytesOf_length s
  have hge := grownCap_ge w s.size 0 e
  have hle := grownCap_le_maxLen w s.size 0 e hs
  have hg := Lib.bytesWorld_at_new w e s
  have hcs : (Lib.bytesCells w e s).size = grownCap w s.size 0 e := by
    unfold Lib.bytesCells
    rw [Array.size_append, Array.size_map, Array.size_replicate]
    have : s.data.size = s.size := rfl
    omega
  refine .inr ⟨w.heap.size, grownCap w s.size 0 e, by rw [hl], hb, by rw [Lib.bytesWorld_size]; omega, by rw [hl]; exact hge, hle, fun j hj => ?_, fun j hj => ?_, fun j hj => ?_⟩
  · rw [hl] at hj
    rw [Lib.bytesWorld_cell w e s j hj]
    have h' : j < s.data.toList.length := by rw [data_length]; exact hj
    simp [bytesOf, List.getD_eq_getElem?_getD, List.getElem?_eq_getElem h']
  · rw [cell_of_row _ _ _ _ _ _ hg, Array.getElem?_eq_getElem (by rw [hcs]; exact hj)]; rfl
  · simp only [World.frozen?, hg]
    rw [hcs]
    simp; omega
theorem setCell_size (w : World) (a : Addr) (v : Value) : (w.setCell a v).heap.size = w.heap.size := by simp [World.setCell]
theorem setCells_grown (g : Nat) : ∀ (vs : List Value) (o : Nat) (w : World), w.grownBy (w.setCells g o vs) (some g) := by
  intro vs
  induction vs with
  | nil => intro o w; exact ⟨rfl, rfl, rfl, Nat.le_refl _, fun _ _ _ => rfl⟩
  | cons v vs ih =>
    intro o w
    have h := ih (o + 1) (w.setCell ⟨g, o, none⟩ v)
    refine ⟨h.os, h.tape, h.output, ?_, fun k hk hne => ?_⟩
    · have := h.size; rw [setCell_size] at this; exact this
    · have h2 := h.block k (by rw [setCell_size]; exact hk) hne
      refine h2.trans (Below.heap_setCell w ⟨g, o, none⟩ v k (fun e => hne (by rw [e])))
/-- cells behind the row's end are written -/
theorem BSome.put {w : World} {base : Nat} {v : Value} {xs ys : List Int} {g cap : Nat} (h : BSome w base v xs g cap) (hf : xs.length + ys.length ≤ cap) :
    BRow (w.setCells g xs.length (nums .u8 ys)) base (.slice (some ⟨g, 0, none⟩) (xs.length + ys.length) cap) (xs ++ ys) := by
  obtain ⟨rfl, h1, h2, h3, h4, h5, h6, h7⟩ := h
  have hg := setCells_grown g (nums .u8 ys) xs.length w
  refine .inr ⟨g, cap, by rw [List.length_append], h1, Nat.lt_of_lt_of_le h2 hg.size, by rw [List.length_append]; exact hf, h4, fun j hj => ?_, fun j hj => World.isSome_setCells g _ _ _ _ (h6 j hj), fun j hj => by rw [World.frozen?_setCells]; exact h7 j hj⟩
  rw [List.length_append] at hj
  by_cases hlt : j < xs.length
  · rw [World.cell?_setCells_out g _ _ _ ⟨g, j, none⟩ (fun _ _ => .inl hlt), h5 j hlt]
    rw [List.getD_eq_getElem?_getD, List.getD_eq_getElem?_getD, List.getElem?_append_left hlt]
  · have hk : j - xs.length < (nums .u8 ys).length := by rw [nums_length]; omega
    have := World.cell?_setCells_in g (nums .u8 ys) xs.length w (fun i hi => h6 _ (by rw [nums_length] at hi; omega)) (j - xs.length) hk
    rw [show xs.length + (j - xs.length) = j by omega] at this
    rw [this]
    have hk2 : j - xs.length < ys.length := by omega
    simp [nums, List.getD_eq_getElem?_getD, List.getElem?_append_right (show xs.length ≤ j by omega), List.getElem?_eq_getElem hk2]
section
variable {P : Program} {ops : Array Oper} {rest : List Oper} {o : Oper} {a : Act} {Q : Exit → Act → World → Prop}
theorem strCells_nums (s : ByteArray) : Lib.strCells s = nums .u8 (bytesOf s) := by simp [nums, bytesOf, Lib.strCells]
theorem run_bappend_str (w : World) (base : Nat) (t u ty e : TypeId) (i : TypeInfo) (ht : P.underlying t = some (.slice e)) (hu : P.underlying u = some .string) (hi : P.info? e = some i) (hz : i.zero = some (.int .u8 0))
    (hsize : i.size = 1) (hby : i.bytes = 1) (v : Value) (xs : List Int) (h : BRow w base v xs) (s : ByteArray) (hl : xs.length + s.size ≤ 140737488355328) (hbase : base ≤ w.heap.size) :
    ∃ v' w', (Builtin.append_ #[t, u] ty #[v, .string s]).run P w = .ok v' w' ∧ BRow w' base v' (xs ++ bytesOf s) ∧ w.grownBy w' v.ownBlock := by
  have hlb := bytesOf_length s
  rcases h with ⟨rfl, rfl⟩ | ⟨g, cap, hb⟩
  · obtain ⟨v', w', hr, ho, hg, _⟩ := Lib.run_append_own_string (P := P) w base t u ty e i ht hu hi hz hsize hby (.slice none 0 0) 0 [] (World.ownsRow_nil w base e 1) s (by simp only [maxLen, List.length_nil] at *; omega) (by simpa using hl) hbase
    refine ⟨v', w', hr, BRow.of_own (e := e) ?_, hg⟩
    rw [List.nil_append, hlb, ← strCells_nums]
    simpa using ho
  · obtain ⟨rfl, h1, h2, h3, h4, h5, h6, h7⟩ := id hb
    by_cases hroom : xs.length + s.size ≤ cap
    · have hput := hb.put (ys := bytesOf s) (by rw [hlb]; exact hroom)
      refine ⟨_, _, ?_, hput, setCells_grown g _ _ w⟩
      have hf := Lib.run_firstCells_string (P := P) w 1 s
      have hst := run_storeCells_cells (P := P) g xs.length (Lib.strCells s) 0 w (fun j hj => by rw [Lib.strCells_length] at hj; exact h6 _ (by omega)) (fun j hj => by rw [Lib.strCells_length] at hj; exact h7 _ (by omega)) (Lib.strCells_oneCell s)
      simp only [Nat.add_zero] at hst
      rw [hlb, ← strCells_nums]
      simp [Builtin.append_, run_underlying ht, run_underlying hu, sizeOf, typeInfo, hi, hsize, Builtin.lenOf, hroom, hf, Addr.add_lit, hst]
    · have holds : ∀ j u, (nums .u8 xs)[j]? = some u → w.cell? ((⟨g, 0, none⟩ : Addr).add j) = some u := by
        intro j u hu'
        have hj : j < xs.length := by
          rcases Nat.lt_or_ge j xs.length with h | h
          · exact h
          · rw [List.getElem?_eq_none (by rw [nums_length]; exact h)] at hu'; cases hu'
        rw [add_plain, h5 j hj]
        simp [nums, List.getElem?_eq_getElem hj] at hu'
        simp [List.getD_eq_getElem?_getD, List.getElem?_eq_getElem hj, hu']
      have hr := Lib.run_append_grow_string (P := P) w t u ty e i (.int .u8 0) ht hu hi hz ⟨g, 0, none⟩ xs.length cap (nums .u8 xs) (by rw [hsize, nums_length]; omega) holds s (by omega) (by omega) (by rw [hby]; exact growslice_fits (by omega) (by omega))
      have hge := grownCap_ge w (xs.length + s.size) cap e
      have hcm := grownCap_le_maxLen w (xs.length + s.size) cap e (by unfold maxLen; omega)
      refine ⟨_, _, hr, BRow.of_own (e := e) ⟨?_, .inr ⟨w.heap.size, _, _, ?_, hbase, heap_alloc_new w.drew _, ?_, hcm, ?_, ?_⟩⟩, ⟨rfl, rfl, rfl, by simp, fun k hk _ => (heap_alloc_old w.drew _ (by simpa using hk))⟩⟩
      · rw [nums_length]; omega
      · rw [List.length_append, hlb]
      · rw [List.length_append, hlb]; exact hge
      · have hz1 : (Value.int IntKind.u8 0).cells.size = 1 := rfl
        simp only [Array.size_append, List.size_toArray, size_zeroCells, hz1, nums_length, Lib.strCells_length]
        omega
      · simp only [Array.toList_append, List.append_assoc]
        rw [strCells_nums, ← List.append_assoc, ← nums_append, Nat.mul_one]
        exact List.take_left' (by rw [nums_length])
theorem wpList_bappend_str {w0 W : World} (base : Nat) (hgd : o.guard = none) (s x : Operand) (t u e : TypeId)
    (ho : o.op = .call { callee := .builtin .append, args := #[s, x], argTypes := #[t, u] })
    (ht : P.underlying t = some (.slice e)) (hu : P.underlying u = some .string) (hinfo : (P.info? e).map (fun i => (i.zero, i.size, i.bytes)) = some (some (.int .u8 0), 1, 1))
    (v : Value) (xs : List Int) (y : ByteArray) (hs : a.eval s = v) (hx : a.eval x = .string y)
    (HO : BRow W base v xs) (HB : Below base w0 W) (hbase : base ≤ W.heap.size) (hl : xs.length + y.size ≤ 140737488355328)
    (h : ∀ v1 w1, BRow w1 base v1 (xs ++ bytesOf y) → Below base w0 w1 → wpList P ops Q rest (a.put o.dst v1) w1) :
    wpList P ops Q (o :: rest) a W := by
  obtain ⟨i0, hi, hzz⟩ := Option.map_eq_some_iff.1 hinfo
  simp only [Prod.mk.injEq] at hzz
  obtain ⟨hz0, hz1, hz2⟩ := hzz
  obtain ⟨v1, w1, hr, h2, h3⟩ := run_bappend_str (P := P) W base t u o.type e i0 ht hu hi hz0 hz1 hz2 v xs HO y hl hbase
  refine wpList_plain hgd fun K hK => ?_
  unfold Oper.wp execOp
  simp only [ho, resolve, invoke, builtin, Sem.run_bind, Sem.run_pure, Result.andThen_ok, List.map_toArray, List.map_cons, List.map_nil, hs, hx, hr]
  exact hK _ _ (h v1 w1 h2 (HB.grown h3 hbase HO.base_le))
theorem run_bappend (w : World) (base : Nat) (t ty e : TypeId) (i : TypeInfo) (ht : P.underlying t = some (.slice e)) (hi : P.info? e = some i) (hz : i.zero = some (.int .u8 0))
    (hsize : i.size = 1) (hby : i.bytes = 1) (v : Value) (xs : List Int) (h : BRow w base v xs) (ad : Addr) (m c : Nat) (ys : List Int) (hm : ys.length = m) (hc : ∀ j u, (nums .u8 ys)[j]? = some u → w.cell? (ad.add j) = some u) (hl : xs.length + m ≤ 140737488355328) (hbase : base ≤ w.heap.size) :
    ∃ v' w', (Builtin.append_ #[t, t] ty #[v, .slice (some ad) m c]).run P w = .ok v' w' ∧ BRow w' base v' (xs ++ ys) ∧ w.grownBy w' v.ownBlock := by
  have h1c : ∀ u ∈ nums .u8 ys, u.oneCell' = true := by intro u hu; simp only [nums, List.mem_map] at hu; obtain ⟨q, _, rfl⟩ := hu; rfl
  rcases h with ⟨rfl, rfl⟩ | ⟨g, cap, hb⟩
  · obtain ⟨v', w', hr, ho, hg, _⟩ := run_append_own (P := P) w base t ty e i (.int .u8 0) 1 1 ht hi hz hsize hby rfl (by decide) (.slice none 0 0) 0 [] (World.ownsRow_nil w base e 1) ad m c (nums .u8 ys) (by rw [nums_length]; omega) hc h1c (by simp only [maxLen, List.length_nil] at *; omega) (by simpa using hl) hbase
    refine ⟨v', w', hr, BRow.of_own (e := e) ?_, hg⟩
    rw [List.nil_append, hm]
    simpa using ho
  · obtain ⟨rfl, h1, h2, h3, h4, h5, h6, h7⟩ := id hb
    by_cases hroom : xs.length + m ≤ cap
    · have hput := hb.put (ys := ys) (by rw [hm]; exact hroom)
      have hr := run_append_room_cells (P := P) w t ty e i ht hi g 0 xs.length cap ad m c (nums .u8 ys) (by rw [hsize, nums_length]; omega) hc h1c hroom (fun j hj => by rw [nums_length] at hj; rw [hsize]; exact h6 _ (by omega)) (fun j hj => by rw [nums_length] at hj; rw [hsize]; exact h7 _ (by omega))
      rw [hsize, Nat.zero_add, Nat.mul_one] at hr
      rw [hm] at hput
      exact ⟨_, _, hr, hput, setCells_grown g _ _ w⟩
    · have holds : ∀ j u, (nums .u8 xs)[j]? = some u → w.cell? ((⟨g, 0, none⟩ : Addr).add j) = some u := by
        intro j u hu'
        have hj : j < xs.length := by
          rcases Nat.lt_or_ge j xs.length with h | h
          · exact h
          · rw [List.getElem?_eq_none (by rw [nums_length]; exact h)] at hu'; cases hu'
        rw [add_plain, h5 j hj]
        simp [nums, List.getElem?_eq_getElem hj] at hu'
        simp [List.getD_eq_getElem?_getD, List.getElem?_eq_getElem hj, hu']
      obtain ⟨v', w', hr, ho, hg⟩ := run_append_arg_grows (P := P) w t ty e i (.int .u8 0) 1 1 ht hi hz hsize hby rfl (by decide) ⟨g, 0, none⟩ xs.length cap (nums .u8 xs) (by rw [nums_length]; omega) holds ad m c (nums .u8 ys) (by rw [nums_length]; omega) hc (by omega) (by unfold maxLen; omega) (by omega)
      refine ⟨v', w', hr, (BRow.of_own (e := e) ?_).lower hbase, ⟨hg.os, hg.tape, hg.output, hg.size, fun k hk _ => hg.block k hk (by simp)⟩⟩
      rw [List.length_append, hm, nums_append]
      exact ho
theorem wpList_bappend {w0 W : World} (base : Nat) (hgd : o.guard = none) (s x : Operand) (t e : TypeId)
    (ho : o.op = .call { callee := .builtin .append, args := #[s, x], argTypes := #[t, t] })
    (ht : P.underlying t = some (.slice e)) (hinfo : (P.info? e).map (fun i => (i.zero, i.size, i.bytes)) = some (some (.int .u8 0), 1, 1))
    (v : Value) (xs : List Int) (ad : Addr) (m c : Nat) (ys : List Int) (hs : a.eval s = v) (hx : a.eval x = .slice (some ad) m c) (hm : ys.length = m) (hc : ∀ j u, (nums .u8 ys)[j]? = some u → W.cell? (ad.add j) = some u)
    (HO : BRow W base v xs) (HB : Below base w0 W) (hbase : base ≤ W.heap.size) (hl : xs.length + m ≤ 140737488355328)
    (h : ∀ v1 w1, BRow w1 base v1 (xs ++ ys) → Below base w0 w1 → wpList P ops Q rest (a.put o.dst v1) w1) :
    wpList P ops Q (o :: rest) a W := by
  obtain ⟨i0, hi, hzz⟩ := Option.map_eq_some_iff.1 hinfo
  simp only [Prod.mk.injEq] at hzz
  obtain ⟨hz0, hz1, hz2⟩ := hzz
  obtain ⟨v1, w1, hr, h2, h3⟩ := run_bappend (P := P) W base t o.type e i0 ht hi hz0 hz1 hz2 v xs HO ad m c ys hm hc hl hbase
  refine wpList_plain hgd fun K hK => ?_
  unfold Oper.wp execOp
  simp only [ho, resolve, invoke, builtin, Sem.run_bind, Sem.run_pure, Result.andThen_ok, List.map_toArray, List.map_cons, List.map_nil, hs, hx, hr]
  exact hK _ _ (h v1 w1 h2 (HB.grown h3 hbase HO.base_le))
theorem BRow.set {w : World} {base g n cap : Nat} {xs : List Int} (h : BRow w base (.slice (some ⟨g, 0, none⟩) n cap) xs) (i : Nat) (hi : i < n) (x : Int) :
    BRow (w.setCell ⟨g, i, none⟩ (.int .u8 x)) base (.slice (some ⟨g, 0, none⟩) n cap) (xs.set i x) ∧ w.frozen? ⟨g, i, none⟩ = false ∧ w.cell? ⟨g, i, none⟩ = some (.int .u8 (xs.getD i 0)) := by
  rcases h with ⟨h, _⟩ | ⟨g', cap', h0, h1, h2, h3, h4, h5, h6, h7⟩
  · cases h
  · injection h0 with e1 e2 e3
    injection e1 with e1
    injection e1 with e1
    subst e1 e2 e3
    refine ⟨.inr ⟨g, cap, by rw [List.length_set], h1, by rw [setCell_size]; exact h2, by rw [List.length_set]; exact h3, h4, fun j hj => ?_, fun j hj => ?_, fun j hj => ?_⟩, h7 i (by omega), h5 i hi⟩
    · rw [List.length_set] at hj
      by_cases e : j = i
      · subst e
        rw [World.cell?_setCell_same _ _ _ (h5 j (by omega))]
        simp [List.getD_eq_getElem?_getD, List.getElem?_set, hj]
      · rw [World.cell?_setCell_other _ _ _ _ (fun h => e (by injection h with _ h2 _; first | exact h2 | exact h2.symm)), h5 j hj]
        simp [List.getD_eq_getElem?_getD, Ne.symm e]
    · rw [cell_set_isSome]; exact h6 j hj
    · rw [World.frozen?_setCell]; exact h7 j hj
end
end Go.Proofs.Ytojlcoebbgafhaa
