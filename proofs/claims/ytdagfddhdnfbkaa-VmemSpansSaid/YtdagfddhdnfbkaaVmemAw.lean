/- Plain words on what is asked of pages; the law 3's awake. -/
import Derived.Test.YtdagfddhdnfbkaaVmemOn
namespace Go.Proofs.Ytdagfddhdnfbkaa
open Go.RowKit
set_option linter.unusedVariables false
set_option linter.unusedSimpArgs false
open Go.Proofs.YtdagfddhdnfbkaaW.PrintWords
theorem aT_zero (p : Int) (h0 : 0 ≤ p) (h1 : p < 18446744073709551616) : aT p 0 = p := by unfold aT; omega
theorem askF_first {M : AMem} {p n prot kind k : Int} (h0 : 0 ≤ p) (h1 : p < 18446744073709551616) (hn : 1 ≤ n) (hn2 : n ≤ 65536) (hk : askK M prot kind p = k) (hk0 : k ≠ 0) : askF M p n prot kind = (k, p) ∧ askM M p n prot kind = clearG M p := by
  have e : askI M prot kind p n.toNat = some 0 := askI_some (by omega) (fun j hj => by omega) (by rw [aT_zero p h0 h1, hk]; exact hk0)
  unfold askF askM
  rw [if_neg (by omega), if_neg (by omega), e]
  refine ⟨?_, ?_⟩
  · show (askK M prot kind (aT p 0), aT p 0) = _
    rw [aT_zero p h0 h1, hk]
  · show clearG M (aT p 0) = _
    rw [aT_zero p h0 h1]
theorem askF_at {M : AMem} {p n prot kind k : Int} (i : Nat) (hi : (i : Int) < n) (hn2 : n ≤ 65536) (hb : ∀ j, j < i → askK M prot kind (aT p j) = 0) (hk : askK M prot kind (aT p i) = k) (hk0 : k ≠ 0) : askF M p n prot kind = (k, aT p i) ∧ askM M p n prot kind = clearG M (aT p i) := by
  have e : askI M prot kind p n.toNat = some i := askI_some (by omega) hb (by rw [hk]; exact hk0)
  unfold askF askM
  rw [if_neg (by omega), if_neg (by omega), e]
  refine ⟨?_, rfl⟩
  show (askK M prot kind (aT p i), aT p i) = _
  rw [hk]
theorem askF_all {M : AMem} {p n prot kind : Int} (hn2 : n ≤ 65536) (hb : ∀ j : Nat, (j : Int) < n → askK M prot kind (aT p j) = 0) : askF M p n prot kind = (0, 0) ∧ askM M p n prot kind = M := by
  have e : askI M prot kind p n.toNat = none := askI_none fun i hi => hb i (by omega)
  unfold askF askM
  rw [if_neg (by omega), if_neg (by omega), e]
  exact ⟨rfl, rfl⟩
theorem clearG_none {M : AMem} {a : Int} (h : M.pg (baseV a) = none) : clearG M a = M := by unfold clearG; rw [h]
theorem clearG_low {M : AMem} {a : Int} {x : List Int × Int} (h : M.pg (baseV a) = some x) (hx : x.2 < 8) : clearG M a = M := by unfold clearG; rw [h]; exact if_neg (by omega)
theorem clearG_high {M : AMem} {a : Int} {x : List Int × Int} (h : M.pg (baseV a) = some x) (hx : 8 ≤ x.2) : clearG M a = setPage M (baseV a) (x.1, x.2 - 8) := by unfold clearG; rw [h]; exact if_pos hx
theorem askK_none {M : AMem} {prot kind a : Int} (h : M.pg (baseV a) = none) : askK M prot kind a = 1 := by unfold askK; rw [h]
theorem askK_some {M : AMem} {prot kind a : Int} {x : List Int × Int} (h : M.pg (baseV a) = some x) : askK M prot kind a = if 8 ≤ x.2 then 5 else if bits .and .i64 x.2 prot = 0 then kind else 0 := by unfold askK; rw [h]
theorem setPage_pg (M : AMem) (q0 : Int) (x : List Int × Int) (q : Int) : (setPage M q0 x).pg q = if q = q0 then some x else M.pg q := rfl
theorem putM_pg (M : AMem) (p : Int) (xs : List Int) (q : Int) : (putM M p xs).pg q = (M.pg q).map fun x => (putP x.1 q p xs, x.2) := rfl
/-- a memory of one page -/
def oneM (most : Int) (q0 : Int) (pr : Int) : AMem := ⟨most, 1, fun q => if q = q0 then some (zeros 4096, pr) else none⟩
theorem map_one {most q0 pr : Int} (h : mapCode (newM most) q0 1 pr = 0) : mapM (newM most) q0 1 pr = oneM (min (max most 0) 1024) q0 pr := by
  rw [mapM_is h]
  unfold oneM newM
  congr 1
  funext q
  have := rowL_one q0 q
  show (if q ∈ rowL q0 1 then _ else _) = _
  by_cases hq : q = q0
  · rw [if_pos hq, if_pos (this.2 hq)]
  · rw [if_neg hq, if_neg (fun h => hq (this.1 h))]
theorem ask312 : (if (8 : Int) ≤ 3 then (5 : Int) else if bits .and .i64 3 1 = 0 then 2 else 0) = 0 := by decide
theorem ask323 : (if (8 : Int) ≤ 3 then (5 : Int) else if bits .and .i64 3 2 = 0 then 3 else 0) = 0 := by decide
structure AwakeSays (M1 M2 : AMem) : Prop where
  c0 : mapCode (newM 4) 4096 1 3 = 0
  m0 : mapM (newM 4) 4096 1 3 = M1
  f1 : askF M1 4100 1 2 3 = (0, 0)
  m1 : writeM M1 4100 [7] = M2
  f2 : askF M2 4100 1 1 2 = (0, 0)
  m2 : askM M2 4100 1 1 2 = M2
  r2 : readL M2 4100 1 1 2 = [7]
  f3 : askF M2 4096 1 4 4 = (4, 4096)
  m3 : askM M2 4096 1 4 4 = M2
  f4 : askF M2 4095 2 1 2 = (1, 4095)
  m4 : askM M2 4095 2 1 2 = M2
  n4 : M2.most - M2.cnt = 3
theorem awake_says : ∃ M1 M2, AwakeSays M1 M2 := by
  have c0 : mapCode (newM 4) 4096 1 3 = 0 := by decide
  have g1 : ∀ q, (oneM 4 4096 3).pg q = if q = 4096 then some (zeros 4096, 3) else none := fun _ => rfl
  have z1 : (oneM 4 4096 3).pg 4096 = some (zeros 4096, 3) := by rw [g1]; rfl
  have b1 : baseV 4100 = 4096 := by decide
  have b2 : baseV 4096 = 4096 := by decide
  have b3 : baseV 4095 = 0 := by decide
  have hz : (zeros 4096).length = 4096 := List.length_replicate
  have f1 : askF (oneM 4 4096 3) 4100 1 2 3 = (0, 0) := (askF_all (by decide) (fun j hj => by
    obtain rfl : j = 0 := by omega
    rw [aT_zero _ (by decide) (by decide), askK_some (by rw [b1, z1])]; exact ask323)).1
  have m1 : writeM (oneM 4 4096 3) 4100 [7] = putM (oneM 4 4096 3) 4100 [7] := if_pos (by rw [show (([7] : List Int).length : Int) = 1 from rfl, f1])
  obtain ⟨M2, hM2⟩ : ∃ M2, putM (oneM 4 4096 3) 4100 [7] = M2 := ⟨_, rfl⟩
  have g2 : ∃ bs, M2.pg 4096 = some (bs, 3) := ⟨_, by rw [← hM2, putM_pg, z1]; rfl⟩
  obtain ⟨bs, g2⟩ := g2
  have g3 : M2.pg 0 = none := by rw [← hM2, putM_pg, g1]; rfl
  have f2 := askF_all (M := M2) (p := 4100) (n := 1) (prot := 1) (kind := 2) (by decide) (fun j hj => by
    obtain rfl : j = 0 := by omega
    rw [aT_zero _ (by decide) (by decide), askK_some (by rw [b1, g2])]; exact ask312)
  have f3 := askF_first (M := M2) (p := 4096) (n := 1) (prot := 4) (kind := 4) (k := 4) (by decide) (by decide) (by decide) (by decide) (by rw [askK_some (by rw [b2, g2])]; exact (by decide : (if (8 : Int) ≤ 3 then (5 : Int) else if bits .and .i64 3 4 = 0 then 4 else 0) = 4)) (by decide)
  have f4 := askF_first (M := M2) (p := 4095) (n := 2) (prot := 1) (kind := 2) (k := 1) (by decide) (by decide) (by decide) (by decide) (askK_none (by rw [b3, g3])) (by decide)
  refine ⟨oneM 4 4096 3, M2, c0, map_one c0, f1, by rw [m1, hM2], f2.1, f2.2, ?_, f3.1, by rw [f3.2, clearG_low (by rw [b2, g2]) (by dsimp only; decide)], f4.1, by rw [f4.2, clearG_none (by rw [b3, g3])], by rw [← hM2]; rfl⟩
  unfold readL
  rw [show max (1 : Int) 0 = 1 from by decide, f2.1, if_pos rfl]
  show [byteM M2 (aT 4100 0)] = [7]
  rw [aT_zero _ (by decide) (by decide), ← hM2, byteM_put _ _ _ _ (by decide) (by decide) (by decide) (by decide) (by rw [b1, z1]; rfl) (by rw [b1, z1]; rintro x ⟨⟩; exact hz)]
  rfl
set_option maxHeartbeats 1600000 in
set_option maxRecDepth 100000 in
theorem awake3_calls (w : World) : Calls Try.prog 24 #[] w fun e w' => e = .returned (.bool true) ∧ Below w.heap.size w w' := by
  obtain ⟨M1, M2, hsays⟩ := awake_says
  have H := Aside0.mk hsays
  clear hsays
  have hu := Try.underlying45
  go_enter Try.func24, Try.ntmps24
  go_wp2_with fail
  refine (OnNew 4 w).mono ?_
  rintro e w1 ⟨bm, rfl, HO⟩
  have HO1 := Aside0.mk HO
  clear HO
  go_wp2_with fail
  refine (OnMapK HO1.out 4096 1 3 (by decide)).mono ?_
  rw [H.out.c0, H.out.m0]
  rintro e w2 ⟨rfl, HO, -⟩
  have HO2 := Aside0.mk HO
  clear HO HO1
  have HL := own_lit w2 w.heap.size 5 .u8 [7] HO2.out.out.size (by decide)
  have HLA := Aside0.mk HL
  clear HL
  go_wp2_with fail
  refine (OnWriteOwn (M := M1) (HO2.out.alloc_ _) 4100 [7] _ 1 1 _ HLA.out (fun x hx => by simp at hx; omega) (by decide) (by decide)).mono ?_
  rw [show ((1 : Nat) : Int) = 1 from rfl, H.out.f1, H.out.m1]
  rintro e w3 ⟨rfl, HO, -⟩
  have HO3 := Aside0.mk HO
  clear HO HO2 HLA
  have hs := Sits.add (Sits.nil w3) (cs := #[.int .i64 0, .int .u64 0]) (t := 45) (by decide) (by decide)
  have HS3 := Aside0.mk hs
  clear hs
  go_wp2_with fail
  refine (OnRead (M := M2) (HO3.out.alloc_ _) 4100 1 (by decide) (by decide)).mono ?_
  rw [show max (1 : Int) 0 = 1 from by decide, H.out.f2, H.out.m2, H.out.r2]
  rintro e w4 ⟨v1, rfl, hv, HO, HK⟩
  have HO4 := Aside0.mk HO
  have hv4 := own_weaken hv (base' := w.heap.size) (by have := HO3.out.out.size; simp; omega)
  have HV4 := Aside0.mk hv4
  have hs := Sits.add (HS3.out.keep HK) (cs := #[.int .i64 0, .int .u64 0]) (t := 45) (by decide) (by decide)
  have HS4 := Aside0.mk hs
  clear HO HO3 HS3 HK hv hv4 hs
  go_wp2_with fail
  refine (OnFetch (M := M2) (HO4.out.alloc_ _) 4096 1 (by decide) (by decide)).mono ?_
  rw [show max (1 : Int) 0 = 1 from by decide, H.out.f3, H.out.m3]
  rintro e w5 ⟨v2, rfl, -, HO, HK⟩
  have HO5 := Aside0.mk HO
  have HV5 := Aside0.mk (HK.own (by decide) (by decide) (HV4.out.alloc _))
  have hs := Sits.add (HS4.out.keep HK) (cs := #[.int .i64 4, .int .u64 4096]) (t := 45) (by decide) (by decide)
  have HS5 := Aside0.mk hs
  clear HO HO4 HS4 HK HV4 hs
  go_wp2_with fail
  refine (OnRead (M := M2) (HO5.out.alloc_ _) 4095 2 (by decide) (by decide)).mono ?_
  rw [show max (2 : Int) 0 = 2 from by decide, H.out.f4, H.out.m4]
  rintro e w6 ⟨v3, rfl, -, HO, HK⟩
  have HO6 := Aside0.mk HO
  have HV6 := Aside0.mk (HK.own (by decide) (by decide) (HV5.out.alloc _))
  have hs := Sits.add (HS5.out.keep HK) (cs := #[.int .i64 1, .int .u64 4095]) (t := 45) (by decide) (by decide)
  have HS6 := Aside0.mk hs
  clear HO HO5 HS5 HK HV5 hs
  have b3 := HS6.out.blk w3.heap.size _ _ (.tail _ (.tail _ (.tail _ (.head _))))
  have b4 := HS6.out.blk w4.heap.size _ _ (.tail _ (.tail _ (.head _)))
  have b5 := HS6.out.blk w5.heap.size _ _ (.tail _ (.head _))
  have b6 := HS6.out.blk w6.heap.size _ _ (.head _)
  have c30 := blk_cell b3 0
  have c40 := blk_cell b4 0
  have c50 := blk_cell b5 0
  have c51 := blk_cell b5 1
  have hcv := own_string Try.underlying43 Try.underlying5 Try.underlying9 (HV6.out.alloc (.cells #[.int .i64 1, .int .u64 4095] 45))
  rw [show strOfNums [7] = ⟨#[7]⟩ from by decide] at hcv
  have hfree := OnFree (HO6.out.alloc_ (.cells #[.int .i64 1, .int .u64 4095] 45))
  rw [H.out.n4] at hfree
  have HF := Aside0.mk hfree
  clear HS6 HO6 HV6 b3 b4 b5 b6 hfree
  simp only [List.getElem?_toArray, List.getElem?_cons_zero, List.getElem?_cons_succ] at c30 c40 c50 c51
  go_wp2_with fail
  refine HF.out.mono ?_
  rintro e w7 ⟨rfl, HO, -⟩
  have HB := Aside0.mk HO.out
  clear HO HF
  go_wp2
  go_ret
  exact ⟨rfl, HB.out⟩
end Go.Proofs.Ytdagfddhdnfbkaa
