/- A memory of the call's own: each method's contract, what else the call owns is kept. -/
import Derived.Test.YtdagfddhdnfbkaaVmemRW
namespace Go.Proofs.Ytdagfddhdnfbkaa
open Go.RowKit
set_option linter.unusedVariables false
set_option linter.unusedSimpArgs false
open Go.Proofs.YtdagfddhdnfbkaaW.PrintWords
/-- a memory that the call made tells M -/
def On (w0 w : World) (bm : Nat) (M : AMem) : Prop := ∃ F : Nat → Prop, Has w F bm M ∧ (∀ b, F b → w0.heap.size ≤ b) ∧ Below w0.heap.size w0 w
theorem On.drew {w0 w : World} {bm : Nat} {M : AMem} (h : On w0 w bm M) (n : Nat) : On w0 (w.drewN n) bm M := by
  obtain ⟨F, h1, h2, h3⟩ := h
  exact ⟨F, h1.keep (bdrew (Below.refl _ _) n), h2, bdrew h3 n⟩
theorem On.below {w0 w w' : World} {bm : Nat} {M : AMem} (h : On w0 w bm M) (hb : Below w.heap.size w w') : On w0 w' bm M := by
  obtain ⟨F, h1, h2, h3⟩ := h
  exact ⟨F, h1.keep hb, h2, h3.trans (hb.mono h3.size)⟩
theorem On.after {w0 w w' : World} {F : Nat → Prop} {bm : Nat} {M' : AMem} (h2 : ∀ b, F b → w0.heap.size ≤ b) (h3 : Below w0.heap.size w0 w) (h : After w w' F bm M') : On w0 w' bm M' := by
  obtain ⟨F', k1, k2, k3⟩ := h
  exact ⟨F', k1, fun b hb => (k3 b hb).elim (h2 b) (fun x => Nat.le_trans h3.size x), h3.trans (k2.below h3.size h2)⟩
theorem On.out {w0 w : World} {bm : Nat} {M : AMem} (h : On w0 w bm M) : Below w0.heap.size w0 w := by obtain ⟨F, h1, h2, h3⟩ := h; exact h3
/-- blocks of cells but of pages and memories stand -/
def KeepOwn (w w' : World) : Prop := ∀ (g : Nat) (cs : Array Value) (t : TypeId), t ≠ 72 → t ≠ 65 → w.heap[g]? = some (.cells cs t (0, 0)) → w'.heap[g]? = some (.cells cs t (0, 0))
theorem KeepOwn.trans {a b c : World} (h : KeepOwn a b) (k : KeepOwn b c) : KeepOwn a c := fun g cs t e1 e2 hr => k g cs t e1 e2 (h g cs t e1 e2 hr)
theorem KeepOwn.refl (a : World) : KeepOwn a a := fun _ _ _ _ _ hr => hr
theorem KeepOwn.own {w w' : World} (h : KeepOwn w w') {base e size n : Nat} {v : Value} {xs : List Value} (e1 : e ≠ 72) (e2 : e ≠ 65) (hr : w.ownsRow base e size v n xs) : w'.ownsRow base e size v n xs :=
  own_move hr fun k hk => by
    obtain ⟨cells, hh⟩ := own_typed hr k hk
    rw [h k cells e e1 e2 hh, hh]
/-- what stands in the call's own blocks -/
def Sits (w : World) (l : List (Nat × Array Value × TypeId)) : Prop := ∀ x ∈ l, w.heap[x.1]? = some (.cells x.2.1 x.2.2 (0, 0)) ∧ x.2.2 ≠ 72 ∧ x.2.2 ≠ 65
theorem Sits.nil (w : World) : Sits w [] := fun _ h => absurd h (by simp)
theorem Sits.keep {w w' : World} {l : List (Nat × Array Value × TypeId)} (h : Sits w l) (k : KeepOwn w w') : Sits w' l := fun x hx => ⟨k _ _ _ (h x hx).2.1 (h x hx).2.2 (h x hx).1, (h x hx).2⟩
theorem Sits.below {w w' : World} {l : List (Nat × Array Value × TypeId)} (h : Sits w l) (k : Below w.heap.size w w') : Sits w' l := fun x hx => ⟨blk_below (h x hx).1 k, (h x hx).2⟩
theorem Sits.alloc_ {w : World} {l : List (Nat × Array Value × TypeId)} (h : Sits w l) (o : Obj) : Sits (w.alloc o) l := h.below (Below.alloc (Below.refl _ _) (Nat.le_refl _) _)
theorem Sits.drewN_ {w : World} {l : List (Nat × Array Value × TypeId)} (h : Sits w l) (n : Nat) : Sits (w.drewN n) l := h
theorem Sits.add {w : World} {l : List (Nat × Array Value × TypeId)} (h : Sits w l) {cs : Array Value} {t : TypeId} (e1 : t ≠ 72) (e2 : t ≠ 65) : Sits (w.alloc (.cells cs t)) ((w.heap.size, cs, t) :: l) := fun x hx => by
  rcases List.mem_cons.1 hx with rfl | hx
  · exact ⟨blk_new w _, e1, e2⟩
  · exact h.alloc_ _ x hx
theorem Sits.blk {w : World} {l : List (Nat × Array Value × TypeId)} (h : Sits w l) (g : Nat) (cs : Array Value) (t : TypeId) (hm : (g, cs, t) ∈ l) : w.heap[g]? = some (.cells cs t (0, 0)) := (h _ hm).1
theorem Has.ne_blk {w : World} {F : Nat → Prop} {bm : Nat} {M : AMem} (h : Has w F bm M) {g : Nat} {cs : Array Value} {t : TypeId} (he1 : t ≠ 72) (he2 : t ≠ 65) (hg : w.heap[g]? = some (.cells cs t (0, 0))) : ¬ F g := by
  obtain ⟨bp, l, ct, h1, h2, h3, h4, h5, h6, h7⟩ := h
  intro hb
  rcases (h7 g).1 hb with rfl | rfl | ⟨x, hx, rfl⟩
  · rw [h1.head] at hg
    simp only [Option.some.injEq, Obj.cells.injEq] at hg
    exact he2 hg.2.1.symm
  · obtain ⟨es, clock, hm, -⟩ := h1.map
    rw [hm] at hg; simp at hg
  · rw [(h1.page x hx).2.1] at hg
    simp only [Option.some.injEq, Obj.cells.injEq] at hg
    exact he1 hg.2.1.symm
theorem Has.ne_row {w : World} {F : Nat → Prop} {bm : Nat} {M : AMem} (h : Has w F bm M) {base n size : Nat} {e : TypeId} {v : Value} {xs : List Value} (he1 : e ≠ 72) (he2 : e ≠ 65) (hr : w.ownsRow base e size v n xs) (b : Nat) (hb : F b) : v.ownBlock ≠ some b := fun hv => by
  obtain ⟨cells, hg⟩ := own_typed hr b hv
  exact h.ne_blk he1 he2 hg hb
theorem own_keeps {S : Nat → Prop} {w w' : World} {base n size : Nat} {e : TypeId} {v : Value} {xs : List Value} (hr : w.ownsRow base e size v n xs) (hk : Keeps S w w') (hn : ∀ b, S b → v.ownBlock ≠ some b) : w'.ownsRow base e size v n xs :=
  own_move hr fun k hk' => hk.block k (own_lt hr k hk') (fun e => hn k e hk')
theorem KeepOwn.below {w w' : World} (h : Below w.heap.size w w') : KeepOwn w w' := fun _ _ _ _ _ hr => blk_below hr h
theorem KeepOwn.keeps {w w' : World} {F : Nat → Prop} {bm : Nat} {M : AMem} (h : Has w F bm M) (hk : Keeps F w w') : KeepOwn w w' := fun g _ _ e1 e2 hr => (hk.block g (blk_lt hr) (h.ne_blk e1 e2 hr)).trans hr
theorem KeepOwn.after {w w' : World} {F : Nat → Prop} {bm : Nat} {M M' : AMem} (h : Has w F bm M) (h2 : After w w' F bm M') : KeepOwn w w' := by
  obtain ⟨F', -, hk, -⟩ := h2
  exact KeepOwn.keeps h hk
theorem On.alloc_ {w0 w : World} {bm : Nat} {M : AMem} (h : On w0 w bm M) (o : Obj) : On w0 (w.alloc o) bm M := h.below (Below.alloc (Below.refl _ _) (Nat.le_refl _) _)
theorem On.append {w0 W w1 : World} {bm : Nat} {M : AMem} (h : On w0 W bm M) {base n size : Nat} {e : TypeId} {v : Value} {xs : List Value} (he1 : e ≠ 72) (he2 : e ≠ 65) (hr : W.ownsRow base e size v n xs)
    (hb : Below w0.heap.size w0 w1) (hg : W.grownBy w1 v.ownBlock) : On w0 w1 bm M := by
  obtain ⟨F, h1, h2, h3⟩ := h
  exact ⟨F, h1.grown he1 he2 hr hg, h2, hb⟩
/-- a store into a block of the call's own that is none of the memory's -/
theorem On.kept {w0 w w' : World} {bm : Nat} {M : AMem} {S : Nat → Prop} (h : On w0 w bm M) (hk : Keeps S w w') (hS : ∀ F b, Has w F bm M → F b → ¬ S b) (hS2 : ∀ b, S b → w0.heap.size ≤ b) : On w0 w' bm M := by
  obtain ⟨F, h1, h2, h3⟩ := h
  exact ⟨F, h1.keeps hk (fun b hb => hS F b h1 hb), h2, h3.trans (hk.below h3.size hS2)⟩
theorem OnNew (n : Int) (w : World) : Calls Try.prog 12 #[.int .i64 n] w fun e w' => ∃ bm, e = .returned (.pointer (some ⟨bm, 0, none⟩)) ∧ On w w' bm (newM n) :=
  (NewH_calls n w).mono fun e w' ⟨bm, F, h1, h2, h3, h4⟩ => ⟨bm, h1, F, h2, h4, h3⟩
theorem OnMapK {w0 w : World} {bm : Nat} {M : AMem} (h : On w0 w bm M) (p n pr : Int) (hp0 : 0 ≤ p) :
    Calls Try.prog 13 #[.pointer (some ⟨bm, 0, none⟩), .int .u64 p, .int .i64 n, .int .i64 pr] w fun e w' => e = .returned (.int .i64 (mapCode M p n pr)) ∧ On w0 w' bm (mapM M p n pr) ∧ KeepOwn w w' := by
  obtain ⟨F, h1, h2, h3⟩ := h
  exact (Map_calls F bm M p n pr w h1 hp0).mono fun e w' ⟨a, b⟩ => ⟨a, On.after h2 h3 b, KeepOwn.after h1 b⟩
theorem OnUnmapK {w0 w : World} {bm : Nat} {M : AMem} (h : On w0 w bm M) (p n : Int) (hp0 : 0 ≤ p) :
    Calls Try.prog 21 #[.pointer (some ⟨bm, 0, none⟩), .int .u64 p, .int .i64 n] w fun e w' => e = .returned (.bool (thereM M p n)) ∧ On w0 w' bm (unM M p n) ∧ KeepOwn w w' := by
  obtain ⟨F, h1, h2, h3⟩ := h
  exact (UnmapH_calls F bm M p n w h1 hp0).mono fun e w' ⟨a, b⟩ => ⟨a, On.after h2 h3 b, KeepOwn.after h1 b⟩
theorem After.of {w w' : World} {F : Nat → Prop} {bm : Nat} {M' : AMem} (h : Has w' F bm M') (hk : Keeps F w w') : After w w' F bm M' := ⟨F, h, hk, fun _ x => .inl x⟩
theorem OnProtectK {w0 w : World} {bm : Nat} {M : AMem} (h : On w0 w bm M) (p n pr : Int) (hp0 : 0 ≤ p) :
    Calls Try.prog 32 #[.pointer (some ⟨bm, 0, none⟩), .int .u64 p, .int .i64 n, .int .i64 pr] w fun e w' => e = .returned (.bool (protectB M p n pr)) ∧ On w0 w' bm (protectM M p n pr) ∧ KeepOwn w w' := by
  obtain ⟨F, h1, h2, h3⟩ := h
  exact (Protect_calls F bm M p n pr w h1 hp0).mono fun e w' ⟨a, b, c⟩ => ⟨a, On.after h2 h3 (After.of b c), KeepOwn.keeps h1 c⟩
theorem OnFree {w0 w : World} {bm : Nat} {M : AMem} (h : On w0 w bm M) :
    Calls Try.prog 22 #[.pointer (some ⟨bm, 0, none⟩)] w fun e w' => e = .returned (.int .i64 (M.most - M.cnt)) ∧ On w0 w' bm M ∧ ∃ n, w' = w.drewN n := by
  obtain ⟨F, h1, h2, h3⟩ := id h
  exact (FreeH_calls F bm M w h1).mono fun e w' ⟨a, m, b⟩ => ⟨a, b ▸ h.drew m, m, b⟩
theorem OnProt {w0 w : World} {bm : Nat} {M : AMem} (h : On w0 w bm M) (p : Int) (h0 : 0 ≤ p) (h1 : p < 18446744073709551616) :
    Calls Try.prog 33 #[.pointer (some ⟨bm, 0, none⟩), .int .u64 p] w fun e w' => e = .returned (.tuple #[.int .i64 ((protM M p).getD 0), .bool (protM M p).isSome]) ∧ On w0 w' bm M ∧ ∃ n, w' = w.drewN n := by
  obtain ⟨F, k1, k2, k3⟩ := id h
  exact (ProtH_calls F bm M p w k1 h0 h1).mono fun e w' ⟨a, m, b⟩ => ⟨a, b ▸ h.drew m, m, b⟩
theorem OnPeek {w0 w : World} {bm : Nat} {M : AMem} (h : On w0 w bm M) (p n : Int) (h0 : 0 ≤ p) (h1 : p < 18446744073709551616) :
    Calls Try.prog 28 #[.pointer (some ⟨bm, 0, none⟩), .int .u64 p, .int .i64 n] w fun e w' => ∃ v1, e = .returned (.tuple #[v1, .bool (peekB M p n)]) ∧ w'.ownsRow w.heap.size 5 1 v1 (peekL M p n).length (nums .u8 (peekL M p n)) ∧ On w0 w' bm M ∧ Below w.heap.size w w' := by
  obtain ⟨F, k1, k2, k3⟩ := id h
  exact (Peek_calls F bm M p n w k1 h0 h1).mono fun e w' ⟨v1, a, b, c⟩ => ⟨v1, a, b, h.below c, c⟩
/-- of the bytes handed in: the call's own, or such as were there -/
theorem notIn_own {w : World} {F : Nat → Prop} {bm : Nat} {M : AMem} (h : Has w F bm M) {base n c : Nat} {A : Option Addr} {xs : List Value} (hr : w.ownsRow base 5 1 (.slice A n c) n xs) : NotIn F A n := by
  rintro ad hn rfl hF
  have : (Value.slice (some ad) n c).ownBlock = some ad.block := by
    rcases hr.2 with ⟨e, -⟩ | ⟨g, cap, cur, e, -⟩
    · cases e
    · cases e; rfl
  exact h.ne_row (by decide) (by decide) hr _ hF this
theorem notIn_arg {w0 : World} {F : Nat → Prop} {A : Option Addr} {n : Nat} {k : IntKind} {xs : List Int} (hF : ∀ b, F b → w0.heap.size ≤ b) (hr : ReadsInt w0 k A n xs) : NotIn F A n := by
  rintro ad hn rfl hb
  obtain ⟨a, e, hc⟩ := hr.2.2 hn
  cases e
  have := World.block_lt_of_cell? w0 _ (hc 0 hn)
  rw [add_block] at this
  have := hF _ hb
  omega
theorem OnPokeArg {w0 w : World} {bm : Nat} {M : AMem} (h : On w0 w bm M) (p : Int) (xs : List Int) (A : Option Addr) (n c : Nat) (hr : ReadsInt w0 .u8 A n xs) (hnc : n ≤ c) (hby : Bytes xs) (h0 : 0 ≤ p) (h1 : p < 18446744073709551616) :
    Calls Try.prog 29 #[.pointer (some ⟨bm, 0, none⟩), .int .u64 p, .slice A n c] w fun e w' => e = .returned (.bool (pokeB M p n)) ∧ On w0 w' bm (pokeM M p xs) ∧ KeepOwn w w' := by
  obtain ⟨F, k1, k2, k3⟩ := id h
  exact (Poke_calls F bm M p xs A n c w k1 (hr.below k3) (notIn_arg k2 hr) hnc hby h0 h1).mono fun e w' ⟨a, b, d⟩ => ⟨a, On.after k2 k3 (After.of b d), KeepOwn.keeps k1 d⟩
theorem OnPokeOwn {w0 w : World} {bm : Nat} {M : AMem} (h : On w0 w bm M) (p : Int) (xs : List Int) (A : Option Addr) (n c base : Nat) (hr : w.ownsRow base 5 1 (.slice A n c) n (nums .u8 xs)) (hby : Bytes xs) (h0 : 0 ≤ p) (h1 : p < 18446744073709551616) :
    Calls Try.prog 29 #[.pointer (some ⟨bm, 0, none⟩), .int .u64 p, .slice A n c] w fun e w' => e = .returned (.bool (pokeB M p n)) ∧ On w0 w' bm (pokeM M p xs) ∧ KeepOwn w w' := by
  obtain ⟨F, k1, k2, k3⟩ := id h
  exact (Poke_calls F bm M p xs A n c w k1 (own_reads' hr) (notIn_own k1 hr) (own_le hr) hby h0 h1).mono fun e w' ⟨a, b, d⟩ => ⟨a, On.after k2 k3 (After.of b d), KeepOwn.keeps k1 d⟩
theorem OnWriteArg {w0 w : World} {bm : Nat} {M : AMem} (h : On w0 w bm M) (p : Int) (xs : List Int) (A : Option Addr) (n c : Nat) (hr : ReadsInt w0 .u8 A n xs) (hnc : n ≤ c) (hby : Bytes xs) (h0 : 0 ≤ p) (h1 : p < 18446744073709551616) :
    Calls Try.prog 26 #[.pointer (some ⟨bm, 0, none⟩), .int .u64 p, .slice A n c] w fun e w' => e = .returned (.agg #[.int .i64 (askF M p n 2 3).1, .int .u64 (askF M p n 2 3).2]) ∧ On w0 w' bm (writeM M p xs) ∧ KeepOwn w w' := by
  obtain ⟨F, k1, k2, k3⟩ := id h
  have hl := hr.1
  exact (Write_calls F bm M p xs A n c w k1 (hr.below k3) (notIn_arg k2 hr) hnc hby h0 h1).mono fun e w' ⟨a, b, d⟩ => ⟨by rw [a, hl], On.after k2 k3 (After.of b d), KeepOwn.keeps k1 d⟩
theorem OnWriteOwn {w0 w : World} {bm : Nat} {M : AMem} (h : On w0 w bm M) (p : Int) (xs : List Int) (A : Option Addr) (n c base : Nat) (hr : w.ownsRow base 5 1 (.slice A n c) n (nums .u8 xs)) (hby : Bytes xs) (h0 : 0 ≤ p) (h1 : p < 18446744073709551616) :
    Calls Try.prog 26 #[.pointer (some ⟨bm, 0, none⟩), .int .u64 p, .slice A n c] w fun e w' => e = .returned (.agg #[.int .i64 (askF M p n 2 3).1, .int .u64 (askF M p n 2 3).2]) ∧ On w0 w' bm (writeM M p xs) ∧ KeepOwn w w' := by
  obtain ⟨F, k1, k2, k3⟩ := id h
  have hl := (own_reads' hr).1
  exact (Write_calls F bm M p xs A n c w k1 (own_reads' hr) (notIn_own k1 hr) (own_le hr) hby h0 h1).mono fun e w' ⟨a, b, d⟩ => ⟨by rw [a, hl], On.after k2 k3 (After.of b d), KeepOwn.keeps k1 d⟩
theorem OnRead {w0 w : World} {bm : Nat} {M : AMem} (h : On w0 w bm M) (p n : Int) (h0 : 0 ≤ p) (h1 : p < 18446744073709551616) :
    Calls Try.prog 23 #[.pointer (some ⟨bm, 0, none⟩), .int .u64 p, .int .i64 n] w fun e w' => ∃ v1, e = .returned (.tuple #[v1, .agg #[.int .i64 (askF M p (max n 0) 1 2).1, .int .u64 (askF M p (max n 0) 1 2).2]]) ∧ w'.ownsRow w.heap.size 5 1 v1 (readL M p n 1 2).length (nums .u8 (readL M p n 1 2)) ∧ On w0 w' bm (askM M p (max n 0) 1 2) ∧ KeepOwn w w' := by
  obtain ⟨F, k1, k2, k3⟩ := id h
  exact (Read_calls F bm M p n w k1 h0 h1).mono fun e w' ⟨v1, a, b, c, d⟩ => ⟨v1, a, b, On.after k2 k3 (After.of c d), KeepOwn.keeps k1 d⟩
theorem OnFetch {w0 w : World} {bm : Nat} {M : AMem} (h : On w0 w bm M) (p n : Int) (h0 : 0 ≤ p) (h1 : p < 18446744073709551616) :
    Calls Try.prog 25 #[.pointer (some ⟨bm, 0, none⟩), .int .u64 p, .int .i64 n] w fun e w' => ∃ v1, e = .returned (.tuple #[v1, .agg #[.int .i64 (askF M p (max n 0) 4 4).1, .int .u64 (askF M p (max n 0) 4 4).2]]) ∧ w'.ownsRow w.heap.size 5 1 v1 (readL M p n 4 4).length (nums .u8 (readL M p n 4 4)) ∧ On w0 w' bm (askM M p (max n 0) 4 4) ∧ KeepOwn w w' := by
  obtain ⟨F, k1, k2, k3⟩ := id h
  exact (Fetch_calls F bm M p n w k1 h0 h1).mono fun e w' ⟨v1, a, b, c, d⟩ => ⟨v1, a, b, On.after k2 k3 (After.of c d), KeepOwn.keeps k1 d⟩
theorem Map_refused (F : Nat → Prop) (bm : Nat) (M : AMem) (p n pr : Int) (w : World) (hM : Has w F bm M) (hp0 : 0 ≤ p) (hc : mapCode M p n pr ≠ 0) :
    Calls Try.prog 13 #[.pointer (some ⟨bm, 0, none⟩), .int .u64 p, .int .i64 n, .int .i64 pr] w fun e w' => e = .returned (.int .i64 (mapCode M p n pr)) ∧ Below w.heap.size w w' := by
  obtain ⟨bp, l, ct, h1, h2, h3, h4, h5, h6, h7⟩ := id hM
  have hany : ∀ N, anyP M p N = (rowL p N).any (isM l) := fun N => by
    unfold anyP
    congr 1
    funext q
    rw [h3 q, Option.isSome_map]; rfl
  unfold mapCode at hc ⊢
  by_cases c1 : mayB p n = true
  · obtain ⟨N, rfl, n1, n2, n3, n4⟩ := may_row c1
    rw [Int.toNat_natCast] at hc ⊢
    by_cases c2 : 0 ≤ pr ∧ pr ≤ 15
    · cases c3 : anyP M p N with
      | true =>
        rw [if_neg (fun h => absurd h.2.2 (by decide))]
        exact Map_taken 0 bm bp M.most l ct p N pr w h1 hp0 c1 c2 (by rw [← hany]; exact c3)
      | false =>
        rw [if_pos ⟨c1, c2, rfl⟩]
        rw [c3, if_pos ⟨c1, c2, rfl⟩] at hc
        by_cases c4 : M.most - M.cnt < (N : Int)
        · rw [if_pos c4]
          exact Map_full 0 bm bp M.most l ct p N pr w h1 hp0 c1 c2 (by rw [← hany]; exact c3) h4 h5 (by omega) (by omega)
        · rw [if_neg c4] at hc; exact absurd rfl hc
    · rw [if_neg (fun h => c2 h.2.1)]
      exact (Map_prot _ p N pr w hp0 c1 c2).mono fun e w' ⟨a, b⟩ => ⟨a, b ▸ Below.refl _ _⟩
  · rw [if_neg (fun h => c1 h.1)]
    exact (Map_may _ p n pr w hp0 (by simpa using c1)).mono fun e w' ⟨a, b⟩ => ⟨a, b ▸ Below.refl _ _⟩
theorem OnMapNo {w0 w : World} {bm : Nat} {M : AMem} (h : On w0 w bm M) (p n pr k : Int) (hp0 : 0 ≤ p) (hc : mapCode M p n pr = k) (hk : k ≠ 0) :
    Calls Try.prog 13 #[.pointer (some ⟨bm, 0, none⟩), .int .u64 p, .int .i64 n, .int .i64 pr] w fun e w' => e = .returned (.int .i64 k) ∧ Below w.heap.size w w' := by
  obtain ⟨F, h1, h2, h3⟩ := h
  have := Map_refused F bm M p n pr w h1 hp0 (by rw [hc]; exact hk)
  rwa [hc] at this
theorem anyM_false {M : AMem} {p : Int} {N : Nat} : anyP M p N = false ↔ ∀ k : Nat, k < N → M.pg (p + k * 4096) = none := by
  unfold anyP
  rw [List.any_eq_false]
  constructor
  · intro h k hk
    have := h _ ((rowL_mem p N _).2 ⟨k, hk, rfl⟩)
    simpa using this
  · intro h q hq
    obtain ⟨k, hk, rfl⟩ := (rowL_mem p N q).1 hq
    rw [h k hk]; decide
theorem mapC_ok {M : AMem} {p n pr : Int} (c1 : mayB p n = true) (c2 : 0 ≤ pr ∧ pr ≤ 15) (c3 : anyP M p n.toNat = false) (c4 : n ≤ M.most - M.cnt) : mapCode M p n pr = 0 := by
  unfold mapCode
  rw [if_pos ⟨c1, c2, c3⟩, if_neg (by omega)]
theorem mapC_full {M : AMem} {p n pr : Int} (c1 : mayB p n = true) (c2 : 0 ≤ pr ∧ pr ≤ 15) (c3 : anyP M p n.toNat = false) (c4 : M.most - M.cnt < n) : mapCode M p n pr = 13 := by
  unfold mapCode
  rw [if_pos ⟨c1, c2, c3⟩, if_pos c4]
theorem mapC_bad {M : AMem} {p n pr : Int} (c1 : ¬ (mayB p n = true ∧ (0 ≤ pr ∧ pr ≤ 15) ∧ anyP M p n.toNat = false)) : mapCode M p n pr = 1 := by
  unfold mapCode
  rw [if_neg c1]
theorem may_ok {p n : Int} (h : p % 4096 = 0 ∧ 1 ≤ n ∧ n ≤ 1024 ∧ p ≤ 140737488355328 ∧ n * 4096 ≤ 140737488355328 - p) : mayB p n = true := decide_eq_true h
theorem may_bad {p n : Int} (h : ¬ (p % 4096 = 0 ∧ 1 ≤ n ∧ n ≤ 1024 ∧ p ≤ 140737488355328 ∧ n * 4096 ≤ 140737488355328 - p)) : ¬ mayB p n = true := fun h' => h (of_decide_eq_true h')
theorem mapM_is {M : AMem} {p n pr : Int} (h : mapCode M p n pr = 0) : mapM M p n pr = ⟨M.most, M.cnt + n.toNat, fun q => if q ∈ rowL p n.toNat then some (zeros 4096, pr) else M.pg q⟩ := if_pos h
theorem rowL_one (p q : Int) : q ∈ rowL p 1 ↔ q = p := by simp [rowL]
theorem byteM_put (M : AMem) (p : Int) (xs : List Int) (a : Int) (h0 : 0 ≤ a) (h1 : a < 18446744073709551616) (hp : 0 ≤ p) (hp1 : p < 18446744073709551616) (hx : (M.pg (baseV a)).isSome = true) (hl : ∀ x, M.pg (baseV a) = some x → x.1.length = 4096) :
    byteM (putM M p xs) a = if ((a - p) % 18446744073709551616).toNat < xs.length then xs.getD ((a - p) % 18446744073709551616).toNat 0 else byteM M a := by
  obtain ⟨x, hx⟩ := Option.isSome_iff_exists.1 hx
  have hl := hl x hx
  unfold byteM
  have e : (putM M p xs).pg (baseV a) = some (putP x.1 (baseV a) p xs, x.2) := by show (M.pg (baseV a)).map _ = _; rw [hx]; rfl
  rw [e, hx]
  show (putP x.1 (baseV a) p xs).getD _ 0 = if _ then _ else x.1.getD _ 0
  have hj : (a % 4096).toNat < x.1.length := by rw [hl]; omega
  rw [putP_get _ _ _ _ _ hj]
  have ea : baseV a + (((a % 4096).toNat : Nat) : Int) = a := by unfold baseV; omega
  rw [ea]
  have e2 : aT p ((a - p) % 18446744073709551616).toNat = a := by unfold aT; omega
  rw [e2]
  by_cases c : ((a - p) % 18446744073709551616).toNat < xs.length
  · rw [if_pos ⟨c, rfl⟩, if_pos c]
  · rw [if_neg (fun h => c h.1), if_neg c]
end Go.Proofs.Ytdagfddhdnfbkaa
