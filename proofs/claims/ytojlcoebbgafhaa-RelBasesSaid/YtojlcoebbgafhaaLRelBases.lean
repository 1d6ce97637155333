/- RelBases: laid over by two differences, bytes differ just at the sites, by the differences' difference; by one and then by what takes it back they are as they were: for any bytes, any sites and any two differences (every input) the law returns true and its arguments read as before; no condition. -/
import Derived.Test.YtojlcoebbgafhaaRelAp
import Derived.Test.YtojlcoebbgafhaaRelAw
import Derived.Test.YtojlcoebbgafhaaRD8
import Derived.Test.YtojlcoebbgafhaaRF8
import Derived.Test.YtojlcoebbgafhaaRowRel
namespace Go.Proofs.Ytojlcoebbgafhaa
open Go.RowKit
set_option linter.unusedVariables false
set_option linter.unusedSimpArgs false
open PR
open Go.Proofs.YtojlcoebbgafhaaW.PrintWords Go.Proofs.YtojlcoebbgafhaaW.PrintLast Go.Proofs.YtojlcoebbgafhaaW.PrintMore
theorem awake_ev : Ev (fun q => (slipwaylaw10_awake.f q).bind fun t => some t) true := ⟨100, fun k hk => by show ((slipwaylaw10_awake.f k).bind fun t => some t) = some true; rw [rel_awake_k k hk]; rfl⟩
def tb (n : Nat) (out : List S46) : List Bool := (List.range n).map fun i => covB out i
def tbI (n : Nat) (out : List S46) (p : Int) (j : Nat) : List Bool := (List.range n).map fun i => covB out i || decide (p ≤ (i : Int) ∧ (i : Int) < p + j)
theorem tb_len (n : Nat) (out : List S46) : (tb n out).length = n := by simp [tb]
theorem tbI_len (n : Nat) (out : List S46) (p : Int) (j : Nat) : (tbI n out p j).length = n := by simp [tbI]
theorem tbI_zero (n : Nat) (out : List S46) (p : Int) : tbI n out p 0 = tb n out := by
  unfold tbI tb
  refine List.map_congr_left (fun i hi => ?_)
  rw [decide_eq_false (by omega), Bool.or_false]
theorem tbI_step (n : Nat) (out : List S46) (p : Nat) (j : Nat) (h : p + j < n) : (tbI n out p j).set (p + j) true = tbI n out p (j + 1) := by
  refine List.ext_getElem (by rw [List.length_set, tbI_len, tbI_len]) (fun i h1 h2 => ?_)
  rw [List.getElem_set]
  simp only [tbI, List.getElem_map, List.getElem_range]
  by_cases e : p + j = i
  · rw [if_pos e, decide_eq_true (by omega), Bool.or_true]
  · rw [if_neg e]
    congr 1
    rw [decide_eq_decide]
    omega
theorem tbI_end (n : Nat) (out : List S46) (s : S46) (m : Nat) (hm : longK s.f0 = m) : tbI n out s.f1 m = tb n (out ++ [s]) := by
  unfold tbI tb
  refine List.map_congr_left (fun i hi => ?_)
  rw [covB_app, hm]
theorem tb_nil (n : Nat) : List.replicate n false = tb n [] := by
  refine List.ext_getElem (by rw [tb_len, List.length_replicate]) (fun i h1 h2 => ?_)
  simp [tb, covB]
theorem tb_rd (n : Nat) (out : List S46) (i : Nat) (h : i < n) : rdOf false (tb n out) (i : Int) = covB out i := by
  unfold rdOf
  rw [Int.toNat_natCast, List.getD_eq_getElem?_getD, List.getElem?_eq_getElem (by rw [tb_len]; exact h)]
  simp [tb]
theorem mask32 (z : Int) (h0 : 0 ≤ z) (h1 : z < 18446744073709551616) : Go.bits .and .u64 z 4294967295 = z % 4294967296 :=
  bits_mask .u64 64 (by decide) (fun n h0 h1 => by rw [IntKind.wrap_u64]; omega) 32 (by decide) z h0 (by omega)
theorem not_cov {out : List S46} (hk : ∀ s ∈ out, s.f0 = 3 ∨ s.f0 = 10) {i : Nat} (h : covB out i = false) : ∀ s ∈ sitesP out, ¬ covers s i := by
  rw [sites_map out hk]
  intro s hs hc
  obtain ⟨x, hx, rfl⟩ := List.mem_map.1 hs
  unfold covB at h
  rw [List.any_eq_false] at h
  exact h x hx (decide_eq_true hc)
section
variable (x0 xp xq : List Int) (own : List S46) (x y : Int) (N : Nat)
theorem rb_l2 (hx : x0.length = N) (hp : xp.length = N) (hq : xq.length = N) (hN : N ≤ 300) (hu : ∀ i, i < N → covB own i = false → xp.getD i 0 = x0.getD i 0 ∧ xq.getD i 0 = x0.getD i 0) :
    ∀ (d i : Nat), i + d = N → Ev (fun q => slipwaylaw10_RelBases.l2 q x0 xp xq (tb N own) (i : Int)) true := by
  intro d
  induction d with
  | zero =>
    intro i hi
    refine Ev.step (f := fun q => (slipwaylaw10_awake.f q).bind fun t => some t) (fun q => ?_) awake_ev
    simp only [slipwaylaw10_RelBases.l2]
    rw [if_neg (by omega)]
  | succ d ih =>
    intro i hi
    have hw : wrap64 ((i : Int) + 1) = ((i + 1 : Nat) : Int) := by unfold wrap64; omega
    have hr : ∀ l : List Int, rd l (i : Int) = l.getD i 0 := fun l => by unfold rd; rw [Int.toNat_natCast]
    have htl := tb_len N own
    refine Ev.step (f := fun q => slipwaylaw10_RelBases.l2 q x0 xp xq (tb N own) ((i + 1 : Nat) : Int)) (fun q => ?_) (ih (i + 1) (by omega))
    simp only [slipwaylaw10_RelBases.l2]
    rw [if_pos (by omega), if_pos (by omega), if_pos (by omega), tb_rd N own i (by omega), hw]
    cases hc : covB own i with
    | true => rw [if_pos rfl]
    | false =>
      obtain ⟨h1, h2⟩ := hu i (by omega) hc
      rw [if_neg (by decide), if_pos (by omega), if_pos (by rw [hr, hr]; exact h1), if_pos (by omega), if_pos (by rw [hr, hr]; exact h2)]
theorem rb_l1 (hN : N ≤ 300) (hol : own.length ≤ 40) (i : Nat) (hi : i < own.length) (s : S46) (hs : own[i] = s) (hr0 : 0 ≤ s.f1) (hr1 : s.f1 + longK s.f0 ≤ N) (r : Bool) (out : List S46)
    (hnext : Ev (fun q => slipwaylaw10_RelBases.l0 q x0 x y own xp xq (tb N (out ++ [s])) ((i + 1 : Nat) : Int)) r) :
    ∀ (d c : Nat), (c : Int) + d = longK s.f0 → Ev (fun q => slipwaylaw10_RelBases.l1 q x0 x y own xp xq (tbI N out s.f1 c) (i : Int) (longK s.f0) (c : Int)) r := by
  have hw0 : wrap64 ((i : Int) + 1) = ((i + 1 : Nat) : Int) := by unfold wrap64; omega
  have hl := longK_range s.f0
  intro d
  induction d with
  | zero =>
    intro c hc
    refine Ev.step (fun q => ?_) hnext
    simp only [slipwaylaw10_RelBases.l1]
    rw [if_neg (by omega), hw0, tbI_end N out s c (by omega)]
  | succ d ih =>
    intro c hc
    have hw1 : wrap64 ((c : Int) + 1) = ((c + 1 : Nat) : Int) := by unfold wrap64; omega
    have hw2 : wrap64 (s.f1 + (c : Int)) = s.f1 + c := by unfold wrap64; omega
    obtain ⟨p, hp⟩ := Int.eq_ofNat_of_zero_le hr0
    have hlen := tbI_len N out s.f1 c
    have hst := tbI_step N out p c (by omega)
    rw [← hp] at hst
    refine Ev.step (fun q => ?_) (ih (c + 1) (by omega))
    simp only [slipwaylaw10_RelBases.l1]
    rw [if_pos (by omega), if_pos (by omega), if_pos (by omega), rd46 own i hi, hs, hw2, if_pos (by omega), if_pos (by omega), hw1, show (s.f1 + (c : Int)).toNat = p + c by omega, hst]
theorem rb_l0 (hN : N ≤ 300) (hol : own.length ≤ 40) (hown : ApOk N own) (hx : x0.length = N) (hp : xp.length = N) (hq : xq.length = N) (bp : Bytes xp) (bq : Bytes xq) (hx0 : 0 ≤ x) (hx1 : x < 18446744073709551616) (hy0 : 0 ≤ y) (hy1 : y < 18446744073709551616)
    (hu : ∀ i, i < N → covB own i = false → xp.getD i 0 = x0.getD i 0 ∧ xq.getD i 0 = x0.getD i 0)
    (hd : ∀ s ∈ own, (numV xp s.f1 (longK s.f0) - numV xq s.f1 (longK s.f0)) % 256 ^ (longK s.f0).toNat = (x - y) % 256 ^ (longK s.f0).toNat) :
    ∀ (d i : Nat), i + d = own.length → Ev (fun q => slipwaylaw10_RelBases.l0 q x0 x y own xp xq (tb N (own.take i)) (i : Int)) true := by
  intro d
  induction d with
  | zero =>
    intro i hi
    rw [List.take_of_length_le (by omega)]
    refine Ev.step (f := fun q => slipwaylaw10_RelBases.l2 q x0 xp xq (tb N own) ((0 : Nat) : Int)) (fun q => ?_) (rb_l2 x0 xp xq own N hx hp hq hN hu N 0 (by omega))
    simp only [slipwaylaw10_RelBases.l0]
    rw [if_neg (by omega)]
    rfl
  | succ d ih =>
    intro i hi
    have hlt : i < own.length := by omega
    obtain ⟨s, hs⟩ : ∃ s, own[i] = s := ⟨_, rfl⟩
    have hmem : s ∈ own := by rw [← hs]; exact List.getElem_mem hlt
    obtain ⟨hk, hr0, hr1⟩ := hown.row s hmem
    have hds := hd s hmem
    have hnext := ih (i + 1) (by omega)
    rw [List.take_succ_eq_append_getElem hlt, hs] at hnext
    have h1 := rb_l1 x0 xp xq own x y N hN hol i hlt s hs hr0 hr1 true (own.take i) hnext (longK s.f0).toNat 0 (by rcases hk with h | h <;> rw [h] <;> rfl)
    rw [tbI_zero] at h1
    have hnum : ∀ l : List Int, l.length = N → Bytes l → slipwayref1_Num.f (strOfNums l) s.f1 (longK s.f0) = some (numV l s.f1 (longK s.f0), inB N s.f1 (longK s.f0)) := by
      intro l hl hb
      unfold slipwayref1_Num.f
      rw [if_pos (by rw [strOf_size, hl]; have := longK_range s.f0; omega), bytesOf_strOf l hb, strOf_size, hl]
    have bpr := numV_lt xp s.f1 (longK s.f0) bp (by have := longK_range s.f0; omega) 8
    have key : ∃ u : Int, (Ev (fun q => slipwaylaw10_RelBases.j4 q x0 x y own xp xq (tb N (own.take i)) (i : Int) (longK s.f0) u u) true) ∧
        ∀ q, (if longK s.f0 = 4 then slipwaylaw10_RelBases.j4 q x0 x y own xp xq (tb N (own.take i)) (i : Int) (longK s.f0) (Go.bits .and .u64 (IntKind.u64.wrap (numV xp s.f1 (longK s.f0) - numV xq s.f1 (longK s.f0))) 4294967295) (Go.bits .and .u64 (IntKind.u64.wrap (x - y)) 4294967295)
          else slipwaylaw10_RelBases.j4 q x0 x y own xp xq (tb N (own.take i)) (i : Int) (longK s.f0) (IntKind.u64.wrap (numV xp s.f1 (longK s.f0) - numV xq s.f1 (longK s.f0))) (IntKind.u64.wrap (x - y))) =
          slipwaylaw10_RelBases.j4 q x0 x y own xp xq (tb N (own.take i)) (i : Int) (longK s.f0) u u := by
      have hj4 : ∀ u : Int, Ev (fun q => slipwaylaw10_RelBases.j4 q x0 x y own xp xq (tb N (own.take i)) (i : Int) (longK s.f0) u u) true := by
        intro u
        refine Ev.step (fun q => ?_) h1
        simp only [slipwaylaw10_RelBases.j4]
        rw [if_pos trivial]
        rfl
      clear hnum bpr h1 hnext ih hu hd
      generalize numV xp s.f1 (longK s.f0) - numV xq s.f1 (longK s.f0) = z at *
      rcases hk with h | h
      · have hl : longK s.f0 = 4 := by rw [h]; rfl
        rw [hl] at hds hj4 ⊢
        have hds' : z % 4294967296 = (x - y) % 4294967296 := hds
        refine ⟨(x - y) % 4294967296, hj4 _, fun q => ?_⟩
        rw [if_pos rfl, mask32 _ (by rw [IntKind.wrap_u64]; omega) (by rw [IntKind.wrap_u64]; omega), mask32 _ (by rw [IntKind.wrap_u64]; omega) (by rw [IntKind.wrap_u64]; omega), IntKind.wrap_u64, IntKind.wrap_u64]
        rw [show z % 18446744073709551616 % 4294967296 = (x - y) % 4294967296 by omega, show (x - y) % 18446744073709551616 % 4294967296 = (x - y) % 4294967296 by omega]
      · have hl : longK s.f0 = 8 := by rw [h]; rfl
        rw [hl] at hds hj4 ⊢
        have hds' : z % 18446744073709551616 = (x - y) % 18446744073709551616 := hds
        refine ⟨(x - y) % 18446744073709551616, hj4 _, fun q => ?_⟩
        rw [if_neg (by decide), IntKind.wrap_u64, IntKind.wrap_u64, hds']
    obtain ⟨u, hu1, hu2⟩ := key
    refine Ev.step (f := fun q => slipwaylaw10_RelBases.j3 q x0 x y own xp xq (tb N (own.take i)) (i : Int) (longK s.f0)) (fun q => ?_) (Ev.step (fun q => ?_) hu1)
    · simp only [slipwaylaw10_RelBases.l0]
      rw [if_pos (by omega), if_pos (by omega), rd46 own i hlt, hs]
      rcases hk with h | h
      · rw [h, if_neg (by decide)]; rfl
      · rw [h, if_pos rfl]; rfl
    · simp only [slipwaylaw10_RelBases.j3]
      rw [if_pos (by omega), if_pos (by omega), rd46 own i hlt, hs, hnum xp hp bp, hnum xq hq bq]
      simp only [Option.bind_some]
      exact hu2 q
end
theorem apply_f (l : List Int) (hb : Bytes l) (hl : l.length ≤ 300) (own : List S46) (ho : own.length ≤ 40) (d : Int) (h0 : 0 ≤ d) (h1 : d < 18446744073709551616) : rel_Apply.f l own d = some (applyP l (sitesP own) d) := by
  unfold rel_Apply.f
  rw [if_pos ((bytesB_iff l).2 hb), if_pos (by omega)]
theorem rb_all (b : List Int) (hb : Bytes b) (l : List S46) (x y : Int) (hx0 : 0 ≤ x) (hx1 : x < 18446744073709551616) (hy0 : 0 ≤ y) (hy1 : y < 18446744073709551616) :
    Ev (fun q => slipwaylaw10_RelBases.f q b l x y) true := by
  have haw : Ev (fun q => slipwaylaw10_RelBases.j0 q b l x y true) true := by
    refine Ev.step (fun q => ?_) awake_ev
    simp only [slipwaylaw10_RelBases.j0]
    rw [if_pos trivial]
  by_cases h8 : b.length < 8
  · refine Ev.congr (fun q => ?_) haw
    unfold slipwaylaw10_RelBases.f
    rw [if_pos (by omega)]
  by_cases h300 : b.length > 300
  · refine Ev.congr (fun q => ?_) haw
    unfold slipwaylaw10_RelBases.f
    rw [if_neg (by omega), decide_eq_true (by omega)]
  have hn : b.length ≤ 300 := by omega
  obtain ⟨own, hown, hol, hev⟩ := Apart_ev l b.length (by omega) (by omega)
  have hsep := hown.sep
  have hlp := applyP_len (sitesP own) x b
  have hlq := applyP_len (sitesP own) y b
  have hbp := applyP_bytes (sitesP own) x b hb
  have hbq := applyP_bytes (sitesP own) y b hb
  have hwx : IntKind.u64.wrap (-x) = (-x) % 18446744073709551616 := by rw [IntKind.wrap_u64]
  have hback := apply_back b hb (sitesP own) hsep x ((-x) % 18446744073709551616) (by omega)
  have hzero := apply_zero b hb (sitesP own) hsep
  have hk : ∀ s ∈ own, s.f0 = 3 ∨ s.f0 = 10 := fun s hs => (hown.row s hs).1
  have hl0 := rb_l0 b (applyP b (sitesP own) x) (applyP b (sitesP own) y) own x y b.length hn hol hown rfl hlp hlq hbp hbq hx0 hx1 hy0 hy1
    (fun i hi hc => ⟨applyP_out x i _ _ hsep.row (not_cov hk hc), applyP_out y i _ _ hsep.row (not_cov hk hc)⟩)
    (fun s hs => apply_diff b (sitesP own) hsep x y ⟨s.f1, longK s.f0⟩ (by rw [sites_map own hk]; exact List.mem_map.2 ⟨s, hs, rfl⟩)) own.length 0 (by omega)
  have hj1 : Ev (fun q => slipwaylaw10_RelBases.j1 q b x y own (applyP b (sitesP own) x) (applyP b (sitesP own) y) false) true := by
    refine Ev.step (fun q => ?_) hl0
    simp only [slipwaylaw10_RelBases.j1]
    rw [if_neg (by decide), if_pos (by omega), if_pos (by omega), show ((b.length : Int)).toNat = b.length by omega, tb_nil, List.take_zero]
    rfl
  refine Ev.congr (f := fun q => slipwaylaw10_RelBases.j0 q b l x y false) (fun q => ?_) ?_
  · unfold slipwaylaw10_RelBases.f
    rw [if_neg (by omega), decide_eq_false (by omega)]
  refine Ev.step (f := ?f) (fun q => ?h) ?g
  case h =>
    simp only [slipwaylaw10_RelBases.j0]
    rw [if_neg (by decide)]
  case g =>
    refine Ev.bind hev ?_
    refine Ev.congr (fun q => ?_) hj1
    rw [apply_f b hb hn own hol x hx0 hx1, apply_f b hb hn own hol y hy0 hy1]
    simp only [Option.bind_some]
    rw [hwx, apply_f _ hbp (by omega) own hol _ (by omega) (by omega), hback]
    simp only [Option.bind_some]
    rw [if_pos (by omega), if_pos (by omega), if_pos trivial, apply_f b hb hn own hol 0 (by omega) (by omega), hzero]
    simp only [Option.bind_some, bne_self_eq_false]
end Go.Proofs.Ytojlcoebbgafhaa
namespace Go.Proofs.Ytojlcoebbgafhaa
open Go.ChangeShapes Go.WideShapes Go.ChangeAt Go.RowKit
open Go.ChangeMaps (open_string shut_string)
set_option linter.unusedVariables false
set_option linter.unusedSimpArgs false
open Go.Proofs.Ytojlcoebbgafhaa.PR Go.Proofs.YtojlcoebbgafhaaW.PrintWords
theorem RelBases_walk (A0 : Option Addr) (n0 c0 : Nat) (xs : List Int) (A1 : Option Addr) (n1 c1 : Nat) (l : List S46) (x y : Int) (w : World) (hr : ReadsInt w .u8 A0 n0 xs) (hc : n0 ≤ c0) (hb : Bytes xs)
    (hl : Kd.C k46 w A1 n1 l) (hc1 : n1 ≤ c1) (hn : l.length = n1) (hx : (Lit.int .u64 x).wf = true) (hy : (Lit.int .u64 y).wf = true) :
    Calls Try.prog 8 #[.slice A0 n0 c0, .slice A1 n1 c1, .int .u64 x, .int .u64 y] w fun e w' => e = .returned (.bool true) ∧ Below w.heap.size w w' := by
  obtain rfl := hr.1
  subst hn
  obtain ⟨h0, h1⟩ := wf_u64' hx
  obtain ⟨h2, h3⟩ := wf_u64' hy
  obtain ⟨k, hk⟩ := (rb_all xs hb l x y h0 h1 h2 h3).rounds
  exact slipwaylaw10_RelBases.calls k A0 c0 xs A1 c1 l x y true w (Kd.C_of_reads (d := (0 : Int)) (h1 := fun _ => rfl) hr) hc hl hc1 hk
set_option maxRecDepth 100000 in
theorem RelBases_lifted (os : Os) (started : os.Started) (H : Type) (enc : TypeId × Value → H) :
    ReturnsInHanded {} Try.checked os 8 .any (Rows.relBasesSpec.pre6 enc Try.prog Try.f8 Rows.relBasesRow.domain false) (Rows.relBasesSpec.post enc Try.prog Try.f8 false true false false) := by
  refine returnsInHanded_of_change (C := Try.checked) row_own started (by kernel_rfl) Try.func8
    (ChangeSpec.witness6 (enc := enc) (C := Try.checked) false ⟨#[], #[.slice none 0 0, .slice none 0 0, .int .u64 0, .int .u64 0], []⟩ 8 (by kernel_rfl) (by kernel_rfl) (by kernel_rfl) (by kernel_rfl)) ?_
  intro W base args ds gs before hval0 hW hcnd _
  have hval : ∀ (j : Nat) t v, Try.f8.params[j]? = some t → args[j]? = some v → Value.okWide Try.prog W .any base t v := hval0
  have hW' := hW
  obtain ⟨p, q, hA0, hV, rfl, hfz, hnd⟩ := hW
  have hA : DataW.TrodAll enc Try.prog W 0 (fun _ => true) true Try.f8.params.toList args.toList ds p := hA0
  rw [Try.params8] at hA hval
  obtain ⟨v0, vs0, d0, ds0, p0, q0, hargs, rfl, rfl, h0, r0⟩ := trodAll_cons hA
  obtain ⟨v1, vs1, d1, ds1, p1, q1, rfl, rfl, rfl, h1, r1⟩ := trodAll_cons r0
  obtain ⟨v2, vs2, d2, ds2, p2, q2, rfl, rfl, rfl, h2, r2⟩ := trodAll_cons r1
  obtain ⟨v3, vs3, d3, ds3, p3, q3, rfl, rfl, rfl, h3, r3⟩ := trodAll_cons r2
  obtain ⟨rfl, rfl, rfl⟩ := trodAll_nil r3
  obtain rfl : args = #[v0, v1, v2, v3] := by cases args; simp_all
  obtain ⟨rfl, rfl⟩ := trodVars_none hV
  have k0 := h0
  have lt0 : ∀ x ∈ p0, x.block < W.heap.size := by obtain ⟨m, hm⟩ := k0; exact DataW.trod_lt m _ _ _ hm
  obtain ⟨a0, len0, cap0, rfl⟩ := okWide_slice Try.underlying29 (hval 0 29 v0 rfl rfl)
  obtain ⟨x0, w0⟩ := open_bytes h0
  have k1 := h1
  have lt1 : ∀ x ∈ p1, x.block < W.heap.size := by obtain ⟨m, hm⟩ := k1; exact DataW.trod_lt m _ _ _ hm
  obtain ⟨a1, len1, cap1, rfl⟩ := okWide_slice Try.underlying42 (hval 1 42 v1 rfl rfl)
  obtain ⟨x1, w1⟩ := open_rels h1
  have k2 := h2
  have lt2 : ∀ x ∈ p2, x.block < W.heap.size := by obtain ⟨m, hm⟩ := k2; exact DataW.trod_lt m _ _ _ hm
  obtain ⟨a2, rfl, rfl, rfl, w2⟩ := open_int Try.underlying51 (hval 2 51 v2 rfl rfl) h2
  have k3 := h3
  have lt3 : ∀ x ∈ p3, x.block < W.heap.size := by obtain ⟨m, hm⟩ := k3; exact DataW.trod_lt m _ _ _ hm
  obtain ⟨a3, rfl, rfl, rfl, w3⟩ := open_int Try.underlying51 (hval 3 51 v3 rfl rfl) h3
  clear hA0 hval0
  refine (RelBases_walk a0 len0 cap0 x0 a1 len1 cap1 x1 a2 a3 W w0.1 w0.2.1 w0.2.2.2 w1.1 w1.2.1 w1.2.2 w2 w3).mono fun e W' ⟨he, bel⟩ => ?_
  subst he
  exact ⟨_, rfl, _, _, _, [], _, [], hW', trodAll_mk1 (shut_bool Try.underlying4 _), (trodAll_cons_mk (Below.trod row_laidOut (by kernel_rfl) (of_decide_eq_true (by kernel_rfl)) k0 bel lt0) (trodAll_cons_mk (Below.trod row_laidOut (by kernel_rfl) (of_decide_eq_true (by kernel_rfl)) k1 bel lt1) (trodAll_cons_mk (Below.trod row_laidOut (by kernel_rfl) (of_decide_eq_true (by kernel_rfl)) k2 bel lt2) (trodAll_cons_mk (Below.trod row_laidOut (by kernel_rfl) (of_decide_eq_true (by kernel_rfl)) k3 bel lt3) trodAll_mk0)))), rfl, bel.frame _, fun h => by cases h⟩
theorem RelBases_over : Rows.relBasesRow.holds Try.pinned (OpenSpec.ofChange Rows.relBasesSpec) :=
  OpenClaim.holds_of_wide 8 Try.f8 rfl rfl rfl rfl rfl rfl rfl ⟨rfl, rfl, rfl, rfl, rfl⟩ rfl rfl rfl rfl rfl (by kernel_rfl) Try.func8 (by kernel_rfl)
    (of_decide_eq_true (by kernel_rfl)) (by unfold Func.isWrapper; first | (rw [if_pos (by decide +kernel)]; kernel_rfl) | (rw [if_neg (by decide +kernel)]; exact ⟨rfl, rfl⟩))
    (fun os started H enc _ => RelBases_lifted os started H enc)
theorem RelBases_holds : Rows.RelBasesSaid := RelBases_over

#print axioms RelBases_holds
end Go.Proofs.Ytojlcoebbgafhaa
