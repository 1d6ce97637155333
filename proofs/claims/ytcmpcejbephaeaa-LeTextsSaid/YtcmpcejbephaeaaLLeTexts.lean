/- The law LeTexts holds: for any bytes ahead and any text (every input) it returns true and its arguments read as before; no condition. -/
import Derived.Test.YtcmpcejbephaeaaLeAll
import Derived.Test.YtcmpcejbephaeaaRowKit
namespace Go.Proofs.Ytcmpcejbephaeaa
open Go.ChangeShapes Go.WideShapes Go.ChangeAt Go.RowKit
open Go.ChangeMaps (open_string shut_string)
set_option linter.unusedVariables false
set_option linter.unusedSimpArgs false
open Go.Proofs.YtcmpcejbephaeaaW.PrintWords
theorem own_reads' {w : World} {base n c : Nat} {e : TypeId} {k : IntKind} {A : Option Addr} {xs : List Int} (h : w.ownsRow base e 1 (.slice A n c) n (nums k xs)) : ReadsInt w k A n xs ∧ n ≤ c := by
  obtain ⟨A', c', he, hr⟩ := own_reads h
  simp only [Value.slice.injEq] at he
  obtain ⟨rfl, _, rfl⟩ := he
  exact ⟨hr, own_le h⟩
theorem bytesOf_ne (s : ByteArray) (h : ∀ j : Nat, j < s.size → bt s j ≠ 0) : ∀ y ∈ bytesOf s, y ≠ 0 := by
  intro y hy
  obtain ⟨i, hi, rfl⟩ := List.getElem_of_mem hy
  have h1 := h i (by rw [← bytesOf_length]; exact hi)
  rw [← rd_bytesOf] at h1
  simpa [rd, List.getD_eq_getElem?_getD, List.getElem?_eq_getElem hi] using h1
theorem texts_facts (xs : List Int) (n : Nat) (hn : xs.length = n) (s : ByteArray) (h : ∀ j : Nat, j < s.size → bt s j ≠ 0) (L : List Int) (hL : L = [] ++ xs ++ bytesOf s ++ [0]) :
    textB L n s.size = true ∧ textV L n s.size = s ∧ (0 < s.size → textB L n ((s.size : Int) - 1) = false) ∧ textB (L.take (((n + s.size + 1 : Nat) : Int) - 1).toNat) n 200 = false ∧ L.length = n + s.size + 1 := by
  have hl : (bytesOf s).length = s.size := bytesOf_length s
  have hLl : L.length = n + s.size + 1 := by rw [hL]; simp [hl, hn]; omega
  have hd : L.drop n = bytesOf s ++ 0 :: [] := by
    rw [hL, List.nil_append, List.append_assoc, ← hn, List.drop_left]
  have hN : textN L n = s.size := by
    unfold textN
    rw [Int.toNat_natCast, hd, nil0_app _ (bytesOf_ne s h), hl]
  have e1 : textB L n s.size = true := by
    unfold textB
    rw [hN]
    exact decide_eq_true (by omega)
  refine ⟨e1, ?_, ?_, ?_, hLl⟩
  · unfold textV
    rw [if_pos e1, hN, seg_nat _ _ _ (by omega) (by omega), Int.toNat_natCast, Int.toNat_natCast, hd, ← hl, List.take_left, strOf_bytesOf]
  · intro hp
    unfold textB
    rw [hN]
    exact decide_eq_false (by omega)
  · have ht : L.take (((n + s.size + 1 : Nat) : Int) - 1).toNat = xs ++ bytesOf s := by
      rw [hL, List.nil_append, List.take_left' (by rw [List.length_append, hl, hn]; omega)]
    rw [ht]
    unfold textB
    have : textN (xs ++ bytesOf s) n = -1 := by
      unfold textN
      rw [Int.toNat_natCast, ← hn, List.drop_left, nil0_none _ (bytesOf_ne s h)]
    rw [this]
    exact decide_eq_false (by omega)
set_option maxHeartbeats 4000000 in
set_option maxRecDepth 100000 in
theorem LeTexts_walk (A : Option Addr) (n c : Nat) (xs : List Int) (s : ByteArray) (w : World) (hr : ReadsInt w .u8 A n xs) (hc : n ≤ c) (hm : c ≤ maxLen) (hb : Bytes xs) :
    Calls Try.prog 3 #[.slice A n c, .string s] w fun e w' => e = .returned (.bool true) ∧ Below w.heap.size w w' := by
  by_cases h1 : 100 < n
  · have d1 : decide ((100 : Int) < n) = true := decide_eq_true (by omega)
    go_enter Try.func3, Try.ntmps3
    go_wp2_with fail
    refine (le_awake _).mono ?_
    rintro e w1 ⟨rfl, hbl⟩
    go_wp2
    go_ret
    exact ⟨rfl, hbl⟩
  have d1 : decide ((100 : Int) < n) = false := decide_eq_false (by omega)
  by_cases h2 : 100 < s.size
  · have d2 : decide ((100 : Int) < s.size) = true := decide_eq_true (by omega)
    go_enter Try.func3, Try.ntmps3
    go_wp2_with fail
    refine (le_awake _).mono ?_
    rintro e w1 ⟨rfl, hbl⟩
    go_wp2
    go_ret
    exact ⟨rfl, hbl⟩
  have d2 : decide ((100 : Int) < s.size) = false := decide_eq_false (by omega)
  have hs' : (s.size : Int) ≤ 100 := by omega
  have HR := Aside0.mk hr
  have HY := Aside0.mk hb
  clear hr hb
  go_enter Try.func3, Try.ntmps3
  go_wp2
  go_loop [5] (fun i => ∃ k : Nat, k ≤ s.size ∧ i = .int .i64 k ∧ Aside0 (∀ j, j < k → bt s j ≠ 0)) (fun i => s.size - (intOf i).toNat)
  case atStart => exact ⟨0, Nat.zero_le _, rfl, ⟨fun j hj => by omega⟩⟩
  case round =>
  obtain ⟨k, hk, rfl, HN⟩ := hrel
  by_cases hlt : k < s.size
  · by_cases hz : ((s[k].toNat : Int)) = 0
    · have d3 : ((s[k].toNat : Int) == 0) = true := by rw [hz]; rfl
      clear hz
      go_wp2_with fail
      refine (le_awake _).mono ?_
      rintro e w1 ⟨rfl, hbl⟩
      go_wp2
      go_ret
      exact ⟨rfl, hbl⟩
    · have d3 : ((s[k].toNat : Int) == 0) = false := by rw [beq_eq_false_iff_ne]; exact hz
      have HN1 : Aside0 (∀ j, j < k + 1 → bt s j ≠ 0) := ⟨fun j hj => by
        by_cases h : j < k
        · exact HN.out j h
        · obtain rfl : j = k := by omega
          have := bt_at s (j : Int) (by simpa using hlt)
          rw [← this]
          simpa using hz⟩
      clear hz
      go_wp2
      go_round
      case rel => exact ⟨k + 1, by omega, by go_num, HN1⟩
      case measure => simp [intOf]; omega
  obtain rfl : k = s.size := by omega
  clear hlt
  have HO0 := Aside0.mk (own_lit w w.heap.size 5 .u8 [] (Nat.le_refl _) (by decide))
  have HB0 : Aside0 (Below w.heap.size w (w.alloc (.cells #[] 5))) := ⟨(Below.refl _ _).alloc (Nat.le_refl _) _⟩
  have HR0 := Aside0.mk (HR.out.below ((Below.refl _ _).alloc (Nat.le_refl _) (.cells #[] 5)))
  have hxl : xs.length = n := HR.out.1
  have HX := Lib.hid hxl
  clear hxl
  go_wp2_with (first
    | (at_builtin; refine print_append_row (w0 := w) w.heap.size rfl (.tmp 33) (.tmp 34) 22 5 .u8 1 rfl Try.underlying22 info_u8 (by decide) _ [] xs A n c rfl rfl HO0.out HR0.out HB0.out HB0.out.size (by simp; omega) ?_; intro v1 w1 ho hb hg hat; have HO1 := Aside0.mk ho; have HB1 := Aside0.mk hb; clear ho hb hg hat)
    | (at_builtin; refine print_append_str (w0 := w) w.heap.size rfl (.tmp 35) (.tmp 36) 22 9 5 rfl Try.underlying22 Try.underlying9 info_u8 _ _ s rfl rfl HO1.out HB1.out HB1.out.size (by rw [List.nil_append, HX.out]; omega) ?_; intro v2 w2 ho hb hg; have HO2 := Aside0.mk ho; have HB2 := Aside0.mk hb; clear ho hb hg)
    | (at_builtin; refine print_append_num (w0 := w) w.heap.size rfl (.tmp 37) (.tmp 38) 22 5 .u8 1 rfl Try.underlying22 info_u8 (by decide) _ _ _ rfl rfl HO2.out HB2.out HB2.out.size (by rw [List.nil_append, List.length_append, HX.out, bytesOf_length]; omega) ?_; intro v3 w3 ho hb hg hat; obtain ⟨L, hL⟩ : ∃ L, L = [] ++ xs ++ bytesOf s ++ [0] := (⟨_, rfl⟩); rw [← hL] at ho; have HL := Lib.hid hL; clear hL; generalize hN : L.length = N at ho; have HN2 := Lib.hid hN; clear hN; obtain ⟨A3, c3, rfl, hr3⟩ := own_reads ho; have hc3 := own_le ho; have HR3 := Aside0.mk hr3; have HB3 := Aside0.mk hb; clear ho hb hg hat hr3))
  obtain ⟨f1, f2, f3, f4, f5⟩ := texts_facts xs n HX.out s HN.out L HL.out
  have hNe : N = n + s.size + 1 := by rw [← HN2.out]; exact f5
  have HY3 : Aside0 (Bytes L) := ⟨by rw [HL.out]; exact ((HY.out.append (bytesOf_bytes s)).append (fun x hx => by simp at hx; omega))⟩
  obtain ⟨i0, hi0, _, hsz, _⟩ := info_parts info_u8
  obtain ⟨hcut, hA, hcl⟩ := print_take_int (P := Try.prog) (k := .u8) 22 5 Try.underlying22 hi0 hsz A3 c3 L ((N : Int) - 1) (by omega) (by rw [HN2.out]; omega) (by rw [HN2.out]; exact hc3)
  rw [HN2.out] at hcut hA
  have HR4 := Aside0.mk (hA w3 HR3.out)
  have HY4 : Aside0 (Bytes (L.take ((N : Int) - 1).toNat)) := ⟨HY3.out.take _⟩
  rw [← hNe] at f4
  have hNi : (N : Int) ≤ 201 := by omega
  have hNp : 1 ≤ (N : Int) := by omega
  clear hA hi0 hsz f5 hNe HL HN2
  obtain ⟨T, hT⟩ : ∃ T, T = L.take ((N : Int) - 1).toNat := ⟨_, rfl⟩
  rw [← hT] at hcut HR4 HY4 f4 hcl
  clear hT
  generalize T.length = M at hcut HR4 hcl
  refine (Text_at A3 N c3 L _ _ _ HR3.out hc3 HY3.out).mono ?_
  rintro e w4 ⟨rfl, rfl⟩
  by_cases hz : s.size = 0
  · have z1 : ((s.size : Int) == 0) = true := by rw [hz]; rfl
    clear f3 hz
    go_wp2_with fail
    refine (Text_at A3 N c3 L _ _ _ HR3.out hc3 HY3.out).mono ?_
    rintro e w4 ⟨rfl, rfl⟩
    go_wp2_with fail
    refine (Text_at A3 _ c3 _ _ _ _ HR4.out hcl HY4.out).mono ?_
    rintro e w4 ⟨rfl, rfl⟩
    go_wp2_with fail
    refine (le_awake _).mono ?_
    rintro e w5 ⟨rfl, hbl⟩
    go_wp2
    go_ret
    exact ⟨rfl, HB3.out.trans (hbl.mono HB3.out.size)⟩
  · have z1 : ((s.size : Int) == 0) = false := by rw [beq_eq_false_iff_ne]; omega
    have f3' := f3 (by omega)
    clear f3 hz
    go_wp2_with fail
    refine (Text_at A3 N c3 L _ _ _ HR3.out hc3 HY3.out).mono ?_
    rintro e w4 ⟨rfl, rfl⟩
    go_wp2_with fail
    refine (Text_at A3 _ c3 _ _ _ _ HR4.out hcl HY4.out).mono ?_
    rintro e w4 ⟨rfl, rfl⟩
    go_wp2_with fail
    refine (le_awake _).mono ?_
    rintro e w5 ⟨rfl, hbl⟩
    go_wp2
    go_ret
    exact ⟨rfl, HB3.out.trans (hbl.mono HB3.out.size)⟩
set_option maxRecDepth 100000 in
theorem LeTexts_lifted (os : Os) (started : os.Started) (H : Type) (enc : TypeId × Value → H) :
    ReturnsInHanded {} Try.checked os 3 .any (Rows.leTextsSpec.pre6 enc Try.prog Try.f3 Rows.leTextsRow.domain false) (Rows.leTextsSpec.post enc Try.prog Try.f3 false true false false) := by
  refine returnsInHanded_of_change (C := Try.checked) row_own started (by kernel_rfl) Try.func3
    (ChangeSpec.witness6 (enc := enc) (C := Try.checked) false ⟨#[], #[.slice none 0 0, .string ⟨#[]⟩], []⟩ 8 (by kernel_rfl) (by kernel_rfl) (by kernel_rfl) (by kernel_rfl)) ?_
  intro W base args ds gs before hval0 hW hcnd _
  have hval : ∀ (j : Nat) t v, Try.f3.params[j]? = some t → args[j]? = some v → Value.okWide Try.prog W .any base t v := hval0
  have hW' := hW
  obtain ⟨p, q, hA0, hV, rfl, hfz, hnd⟩ := hW
  have hA : DataW.TrodAll enc Try.prog W 0 (fun _ => true) true Try.f3.params.toList args.toList ds p := hA0
  rw [Try.params3] at hA hval
  obtain ⟨v0, vs0, d0, ds0, p0, q0, hargs, rfl, rfl, h0, r0⟩ := trodAll_cons hA
  obtain ⟨v1, vs1, d1, ds1, p1, q1, rfl, rfl, rfl, h1, r1⟩ := trodAll_cons r0
  obtain ⟨rfl, rfl, rfl⟩ := trodAll_nil r1
  obtain rfl : args = #[v0, v1] := by cases args; simp_all
  obtain ⟨rfl, rfl⟩ := trodVars_none hV
  have k0 := h0
  have lt0 : ∀ x ∈ p0, x.block < W.heap.size := by obtain ⟨m, hm⟩ := k0; exact DataW.trod_lt m _ _ _ hm
  obtain ⟨a0, len0, cap0, rfl⟩ := okWide_slice Try.underlying22 (hval 0 22 v0 rfl rfl)
  obtain ⟨x0, w0⟩ := open_bytes h0
  have k1 := h1
  have lt1 : ∀ x ∈ p1, x.block < W.heap.size := by obtain ⟨m, hm⟩ := k1; exact DataW.trod_lt m _ _ _ hm
  obtain ⟨a1, rfl, rfl, rfl, w1⟩ := open_string Try.underlying9 (hval 1 9 v1 rfl rfl) h1
  clear hA0 hval0
  refine (LeTexts_walk a0 len0 cap0 x0 a1 W w0.1 w0.2.1 w0.2.2.1 w0.2.2.2).mono fun e W' ⟨he, bel⟩ => ?_
  subst he
  exact ⟨_, rfl, _, _, _, [], _, [], hW', trodAll_mk1 (shut_bool Try.underlying4 _), (trodAll_cons_mk (Below.trod row_laidOut (by kernel_rfl) (of_decide_eq_true (by kernel_rfl)) k0 bel lt0) (trodAll_cons_mk (Below.trod row_laidOut (by kernel_rfl) (of_decide_eq_true (by kernel_rfl)) k1 bel lt1) trodAll_mk0)), rfl, bel.frame _, fun h => by cases h⟩
theorem LeTexts_over : Rows.leTextsRow.holds Try.pinned (OpenSpec.ofChange Rows.leTextsSpec) :=
  OpenClaim.holds_of_wide 3 Try.f3 rfl rfl rfl rfl rfl rfl rfl ⟨rfl, rfl, rfl, rfl, rfl⟩ rfl rfl rfl rfl rfl (by kernel_rfl) Try.func3 (by kernel_rfl)
    (of_decide_eq_true (by kernel_rfl)) (by unfold Func.isWrapper; first | (rw [if_pos (by decide +kernel)]; kernel_rfl) | (rw [if_neg (by decide +kernel)]; exact ⟨rfl, rfl⟩))
    (fun os started H enc _ => LeTexts_lifted os started H enc)
theorem LeTexts_holds : Rows.LeTextsSaid := LeTexts_over

#print axioms LeTexts_holds
end Go.Proofs.Ytcmpcejbephaeaa
