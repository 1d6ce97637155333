/-
  No cell of these rows narrows 'for every input' (looked for: loops, veiled, ifaces, maps, wideKeys, modest, calm, conditions, laid).
  DERIVED. THE GIVEN ROWS OF THIS SEAT. 12 by the template 'for every input the law returns true; each argument reads behind the call as it read before'; 0 by the template 'total and deterministic' (their statements: YtcmpcejbephaeaaTotals.lean).
  GIVEN WITH THE SEED: the statements are not yours to turn. If you find one false, say at which input.
  Laid BY PROGRAM, IN A SANDBOX (cutbox-rows.mjs): the forced cells as the released guide's own fill.sh prints them over the translation 979d3bf802cd4dda… (all of the seat's roots in one cut). By AI agents, Wed Nov 11 2026. No macro, syntax, notation, axiom, sorry.
-/
import Derived.Test.YtcmpcejbephaeaaChecked
import GoSem.Claim
import GoSem.ClaimJoined
import GoSem.ClaimMapViews
import Derived.JoinedTies
import Derived.KernelRfl
namespace Go.Proofs.Ytcmpcejbephaeaa
/- THE CELL 'sum', in the pinned program and in every row, IS THE sha256 OF THE DUMP (.gsa) THAT YtcmpcejbephaeaaProg.lean LOADS. Nothing in Lean hashes anything: it is a label: what it is worth is what the hold of that sum in a sandbox is worth. -/
noncomputable def Try.pinned : Pinned := { name := "ytcmpcejbephaeaa", sum := "979d3bf802cd4dda861b470f61afe0c97cd303963afcc772d8b045aa82fab662", checked := Try.checked }
namespace Rows
def none {H : Type} : Left H := { results := [], args := [] }

/-- 'slipwaylaw1.LeTexts': WHATEVER THE INPUT: true; the input reads as it did. -/
def leTextsSpec : ChangeSpec := { name := "leTexts", fn := fun _ => fun
  | [d1, d2] => { results := [.lit (.bool true)], args := [d1, d2] }
  | _ => none }
def leTextsRow : OpenClaim := { program := "ytcmpcejbephaeaa", sum := "979d3bf802cd4dda861b470f61afe0c97cd303963afcc772d8b045aa82fab662", func := "slipway/slipwaylaw1.LeTexts", spec := "leTexts", inPlace := ["internal/bytealg.IndexByte"], apart := false }
def LeTextsSaid : Prop := leTextsRow.holds Try.pinned (OpenSpec.ofChange leTextsSpec)

/-- ITS FALSE NEIGHBOUR: 'it returns false'. Refute it at one input. -/
def leTextsWrong : ChangeSpec := { name := "leTexts", fn := fun _ => fun
  | [d1, d2] => { results := [.lit (.bool false)], args := [d1, d2] }
  | _ => none }
def LeTextsWrongFalsely : Prop := leTextsRow.holds Try.pinned (OpenSpec.ofChange leTextsWrong)

/-- 'slipwaylaw1.LeParts': WHATEVER THE INPUT: true; the input reads as it did. -/
def lePartsSpec : ChangeSpec := { name := "leParts", fn := fun _ => fun
  | [d1, d2] => { results := [.lit (.bool true)], args := [d1, d2] }
  | _ => none }
def lePartsRow : OpenClaim := { program := "ytcmpcejbephaeaa", sum := "979d3bf802cd4dda861b470f61afe0c97cd303963afcc772d8b045aa82fab662", func := "slipway/slipwaylaw1.LeParts", spec := "leParts", inPlace := ["internal/bytealg.IndexByte"], apart := false }
def LePartsSaid : Prop := lePartsRow.holds Try.pinned (OpenSpec.ofChange lePartsSpec)

/-- ITS FALSE NEIGHBOUR: 'it returns false'. Refute it at one input. -/
def lePartsWrong : ChangeSpec := { name := "leParts", fn := fun _ => fun
  | [d1, d2] => { results := [.lit (.bool false)], args := [d1, d2] }
  | _ => none }
def LePartsWrongFalsely : Prop := lePartsRow.holds Try.pinned (OpenSpec.ofChange lePartsWrong)

/-- 'slipwaylaw1.LeReads': WHATEVER THE INPUT: true; the input reads as it did. -/
def leReadsSpec : ChangeSpec := { name := "leReads", fn := fun _ => fun
  | [d1, d2, d3] => { results := [.lit (.bool true)], args := [d1, d2, d3] }
  | _ => none }
def leReadsRow : OpenClaim := { program := "ytcmpcejbephaeaa", sum := "979d3bf802cd4dda861b470f61afe0c97cd303963afcc772d8b045aa82fab662", func := "slipway/slipwaylaw1.LeReads", spec := "leReads", inPlace := ["internal/bytealg.IndexByte"], apart := false }
def LeReadsSaid : Prop := leReadsRow.holds Try.pinned (OpenSpec.ofChange leReadsSpec)

/-- ITS FALSE NEIGHBOUR: 'it returns false'. Refute it at one input. -/
def leReadsWrong : ChangeSpec := { name := "leReads", fn := fun _ => fun
  | [d1, d2, d3] => { results := [.lit (.bool false)], args := [d1, d2, d3] }
  | _ => none }
def LeReadsWrongFalsely : Prop := leReadsRow.holds Try.pinned (OpenSpec.ofChange leReadsWrong)

/-- 'slipwaylaw1.LePuts': WHATEVER THE INPUT: true; the input reads as it did. -/
def lePutsSpec : ChangeSpec := { name := "lePuts", fn := fun _ => fun
  | [d1, d2, d3, d4] => { results := [.lit (.bool true)], args := [d1, d2, d3, d4] }
  | _ => none }
def lePutsRow : OpenClaim := { program := "ytcmpcejbephaeaa", sum := "979d3bf802cd4dda861b470f61afe0c97cd303963afcc772d8b045aa82fab662", func := "slipway/slipwaylaw1.LePuts", spec := "lePuts", inPlace := ["internal/bytealg.IndexByte"], apart := false }
def LePutsSaid : Prop := lePutsRow.holds Try.pinned (OpenSpec.ofChange lePutsSpec)

/-- ITS FALSE NEIGHBOUR: 'it returns false'. Refute it at one input. -/
def lePutsWrong : ChangeSpec := { name := "lePuts", fn := fun _ => fun
  | [d1, d2, d3, d4] => { results := [.lit (.bool false)], args := [d1, d2, d3, d4] }
  | _ => none }
def LePutsWrongFalsely : Prop := lePutsRow.holds Try.pinned (OpenSpec.ofChange lePutsWrong)

/-- 'slipwaylaw1.LeEnds': WHATEVER THE INPUT: true; the input reads as it did. -/
def leEndsSpec : ChangeSpec := { name := "leEnds", fn := fun _ => fun
  | [d] => { results := [.lit (.bool true)], args := [d] }
  | _ => none }
def leEndsRow : OpenClaim := { program := "ytcmpcejbephaeaa", sum := "979d3bf802cd4dda861b470f61afe0c97cd303963afcc772d8b045aa82fab662", func := "slipway/slipwaylaw1.LeEnds", spec := "leEnds", inPlace := ["internal/bytealg.IndexByte"], apart := false }
def LeEndsSaid : Prop := leEndsRow.holds Try.pinned (OpenSpec.ofChange leEndsSpec)

/-- ITS FALSE NEIGHBOUR: 'it returns false'. Refute it at one input. -/
def leEndsWrong : ChangeSpec := { name := "leEnds", fn := fun _ => fun
  | [d] => { results := [.lit (.bool false)], args := [d] }
  | _ => none }
def LeEndsWrongFalsely : Prop := leEndsRow.holds Try.pinned (OpenSpec.ofChange leEndsWrong)

/-- 'slipwaylaw1.LeBack': WHATEVER THE INPUT: true; the input reads as it did. -/
def leBackSpec : ChangeSpec := { name := "leBack", fn := fun _ => fun
  | [d1, d2, d3] => { results := [.lit (.bool true)], args := [d1, d2, d3] }
  | _ => none }
def leBackRow : OpenClaim := { program := "ytcmpcejbephaeaa", sum := "979d3bf802cd4dda861b470f61afe0c97cd303963afcc772d8b045aa82fab662", func := "slipway/slipwaylaw1.LeBack", spec := "leBack", inPlace := ["internal/bytealg.IndexByte"], apart := false }
def LeBackSaid : Prop := leBackRow.holds Try.pinned (OpenSpec.ofChange leBackSpec)

/-- ITS FALSE NEIGHBOUR: 'it returns false'. Refute it at one input. -/
def leBackWrong : ChangeSpec := { name := "leBack", fn := fun _ => fun
  | [d1, d2, d3] => { results := [.lit (.bool false)], args := [d1, d2, d3] }
  | _ => none }
def LeBackWrongFalsely : Prop := leBackRow.holds Try.pinned (OpenSpec.ofChange leBackWrong)

/-- 'slipwaylaw14.AluShifts': WHATEVER THE INPUT: true; the input reads as it did. -/
def aluShiftsSpec : ChangeSpec := { name := "aluShifts", fn := fun _ => fun
  | [d1, d2, d3] => { results := [.lit (.bool true)], args := [d1, d2, d3] }
  | _ => none }
def aluShiftsRow : OpenClaim := { program := "ytcmpcejbephaeaa", sum := "979d3bf802cd4dda861b470f61afe0c97cd303963afcc772d8b045aa82fab662", func := "slipway/slipwaylaw14.AluShifts", spec := "aluShifts", apart := false }
def AluShiftsSaid : Prop := aluShiftsRow.holds Try.pinned (OpenSpec.ofChange aluShiftsSpec)

/-- ITS FALSE NEIGHBOUR: 'it returns false'. Refute it at one input. -/
def aluShiftsWrong : ChangeSpec := { name := "aluShifts", fn := fun _ => fun
  | [d1, d2, d3] => { results := [.lit (.bool false)], args := [d1, d2, d3] }
  | _ => none }
def AluShiftsWrongFalsely : Prop := aluShiftsRow.holds Try.pinned (OpenSpec.ofChange aluShiftsWrong)

/-- 'slipwaylaw14.AluCarries': WHATEVER THE INPUT: true; the input reads as it did. -/
def aluCarriesSpec : ChangeSpec := { name := "aluCarries", fn := fun _ => fun
  | [d1, d2, d3, d4] => { results := [.lit (.bool true)], args := [d1, d2, d3, d4] }
  | _ => none }
def aluCarriesRow : OpenClaim := { program := "ytcmpcejbephaeaa", sum := "979d3bf802cd4dda861b470f61afe0c97cd303963afcc772d8b045aa82fab662", func := "slipway/slipwaylaw14.AluCarries", spec := "aluCarries", apart := false }
def AluCarriesSaid : Prop := aluCarriesRow.holds Try.pinned (OpenSpec.ofChange aluCarriesSpec)

/-- ITS FALSE NEIGHBOUR: 'it returns false'. Refute it at one input. -/
def aluCarriesWrong : ChangeSpec := { name := "aluCarries", fn := fun _ => fun
  | [d1, d2, d3, d4] => { results := [.lit (.bool false)], args := [d1, d2, d3, d4] }
  | _ => none }
def AluCarriesWrongFalsely : Prop := aluCarriesRow.holds Try.pinned (OpenSpec.ofChange aluCarriesWrong)

/-- 'slipwaylaw14.AluSigns': WHATEVER THE INPUT: true; the input reads as it did. -/
def aluSignsSpec : ChangeSpec := { name := "aluSigns", fn := fun _ => fun
  | [d1, d2] => { results := [.lit (.bool true)], args := [d1, d2] }
  | _ => none }
def aluSignsRow : OpenClaim := { program := "ytcmpcejbephaeaa", sum := "979d3bf802cd4dda861b470f61afe0c97cd303963afcc772d8b045aa82fab662", func := "slipway/slipwaylaw14.AluSigns", spec := "aluSigns", apart := false }
def AluSignsSaid : Prop := aluSignsRow.holds Try.pinned (OpenSpec.ofChange aluSignsSpec)

/-- ITS FALSE NEIGHBOUR: 'it returns false'. Refute it at one input. -/
def aluSignsWrong : ChangeSpec := { name := "aluSigns", fn := fun _ => fun
  | [d1, d2] => { results := [.lit (.bool false)], args := [d1, d2] }
  | _ => none }
def AluSignsWrongFalsely : Prop := aluSignsRow.holds Try.pinned (OpenSpec.ofChange aluSignsWrong)

/-- 'slipwaylaw14.AluTells': WHATEVER THE INPUT: true; the input reads as it did. -/
def aluTellsSpec : ChangeSpec := { name := "aluTells", fn := fun _ => fun
  | [d1, d2, d3, d4, d5] => { results := [.lit (.bool true)], args := [d1, d2, d3, d4, d5] }
  | _ => none }
def aluTellsRow : OpenClaim := { program := "ytcmpcejbephaeaa", sum := "979d3bf802cd4dda861b470f61afe0c97cd303963afcc772d8b045aa82fab662", func := "slipway/slipwaylaw14.AluTells", spec := "aluTells", apart := false }
def AluTellsSaid : Prop := aluTellsRow.holds Try.pinned (OpenSpec.ofChange aluTellsSpec)

/-- ITS FALSE NEIGHBOUR: 'it returns false'. Refute it at one input. -/
def aluTellsWrong : ChangeSpec := { name := "aluTells", fn := fun _ => fun
  | [d1, d2, d3, d4, d5] => { results := [.lit (.bool false)], args := [d1, d2, d3, d4, d5] }
  | _ => none }
def AluTellsWrongFalsely : Prop := aluTellsRow.holds Try.pinned (OpenSpec.ofChange aluTellsWrong)

/-- 'slipwaylaw14.AluUndoes': WHATEVER THE INPUT: true; the input reads as it did. -/
def aluUndoesSpec : ChangeSpec := { name := "aluUndoes", fn := fun _ => fun
  | [d1, d2, d3] => { results := [.lit (.bool true)], args := [d1, d2, d3] }
  | _ => none }
def aluUndoesRow : OpenClaim := { program := "ytcmpcejbephaeaa", sum := "979d3bf802cd4dda861b470f61afe0c97cd303963afcc772d8b045aa82fab662", func := "slipway/slipwaylaw14.AluUndoes", spec := "aluUndoes", apart := false }
def AluUndoesSaid : Prop := aluUndoesRow.holds Try.pinned (OpenSpec.ofChange aluUndoesSpec)

/-- ITS FALSE NEIGHBOUR: 'it returns false'. Refute it at one input. -/
def aluUndoesWrong : ChangeSpec := { name := "aluUndoes", fn := fun _ => fun
  | [d1, d2, d3] => { results := [.lit (.bool false)], args := [d1, d2, d3] }
  | _ => none }
def AluUndoesWrongFalsely : Prop := aluUndoesRow.holds Try.pinned (OpenSpec.ofChange aluUndoesWrong)

/-- 'slipwaylaw14.AluOrders': WHATEVER THE INPUT: true; the input reads as it did. -/
def aluOrdersSpec : ChangeSpec := { name := "aluOrders", fn := fun _ => fun
  | [d1, d2] => { results := [.lit (.bool true)], args := [d1, d2] }
  | _ => none }
def aluOrdersRow : OpenClaim := { program := "ytcmpcejbephaeaa", sum := "979d3bf802cd4dda861b470f61afe0c97cd303963afcc772d8b045aa82fab662", func := "slipway/slipwaylaw14.AluOrders", spec := "aluOrders", apart := false }
def AluOrdersSaid : Prop := aluOrdersRow.holds Try.pinned (OpenSpec.ofChange aluOrdersSpec)

/-- ITS FALSE NEIGHBOUR: 'it returns false'. Refute it at one input. -/
def aluOrdersWrong : ChangeSpec := { name := "aluOrders", fn := fun _ => fun
  | [d1, d2] => { results := [.lit (.bool false)], args := [d1, d2] }
  | _ => none }
def AluOrdersWrongFalsely : Prop := aluOrdersRow.holds Try.pinned (OpenSpec.ofChange aluOrdersWrong)

/- THE SECOND FORM. 'bulk': how many values and letters a reading holds, each counted each time it is reached (what is shared counts as often as it is met; a slice's spare places count too). A statement '..UptoSaid' is the law's where the arguments, and the package variables that the reading takes, are together of bulk at most 1048576: NARROWER than '..Said'. Prove '..Said' where nothing that the law and all that it calls make is longer than what came in: it says more and counts as full. Else prove '..UptoSaid'. A law counts once. -/
mutual
def uptoBulk {H : Type} : DataW H → Nat
  | .lit (.string bytes) => bytes.length + 1
  | .lit _ => 1
  | .nil => 1
  | .ptr d => uptoBulk d + 1
  | .slice elems spare => uptoBulkAll elems + uptoBulkAll spare + 1
  | .agg parts => uptoBulkAll parts + 1
  | .iface _ d => uptoBulk d + 1
  | .map entries => uptoBulkEntries entries + 1
  | .held _ => 1
def uptoBulkAll {H : Type} : List (DataW H) → Nat
  | [] => 0
  | d :: r => uptoBulk d + uptoBulkAll r
def uptoBulkEntries {H : Type} : List (Lit × DataW H) → Nat
  | [] => 0
  | x :: r => uptoBulkEntry x + uptoBulkEntries r
def uptoBulkEntry {H : Type} : Lit × DataW H → Nat
  | (.string bytes, d) => bytes.length + uptoBulk d + 1
  | (_, d) => uptoBulk d + 1
 end
def uptoSmall : (H : Type) → List (DataW H) → Bool := fun _ ds => decide (uptoBulkAll ds ≤ 1048576)
def OpenSpec.upto (s : _root_.Go.ChangeSpec) : _root_.Go.OpenSpec := { _root_.Go.OpenSpec.ofChange s with cond := some uptoSmall }

/-- 'slipwaylaw1.LeTexts', WHERE WHAT IT READS IS OF BULK AT MOST 1048576: true; the input reads as it did. -/
def leTextsUptoRow : OpenClaim := { program := "ytcmpcejbephaeaa", sum := "979d3bf802cd4dda861b470f61afe0c97cd303963afcc772d8b045aa82fab662", func := "slipway/slipwaylaw1.LeTexts", spec := "leTexts", inPlace := ["internal/bytealg.IndexByte"], apart := false, narrowed := true }
def LeTextsUptoSaid : Prop := leTextsUptoRow.holds Try.pinned (OpenSpec.upto leTextsSpec)

/-- 'slipwaylaw1.LeParts', WHERE WHAT IT READS IS OF BULK AT MOST 1048576: true; the input reads as it did. -/
def lePartsUptoRow : OpenClaim := { program := "ytcmpcejbephaeaa", sum := "979d3bf802cd4dda861b470f61afe0c97cd303963afcc772d8b045aa82fab662", func := "slipway/slipwaylaw1.LeParts", spec := "leParts", inPlace := ["internal/bytealg.IndexByte"], apart := false, narrowed := true }
def LePartsUptoSaid : Prop := lePartsUptoRow.holds Try.pinned (OpenSpec.upto lePartsSpec)

/-- 'slipwaylaw1.LeReads', WHERE WHAT IT READS IS OF BULK AT MOST 1048576: true; the input reads as it did. -/
def leReadsUptoRow : OpenClaim := { program := "ytcmpcejbephaeaa", sum := "979d3bf802cd4dda861b470f61afe0c97cd303963afcc772d8b045aa82fab662", func := "slipway/slipwaylaw1.LeReads", spec := "leReads", inPlace := ["internal/bytealg.IndexByte"], apart := false, narrowed := true }
def LeReadsUptoSaid : Prop := leReadsUptoRow.holds Try.pinned (OpenSpec.upto leReadsSpec)

/-- 'slipwaylaw1.LePuts', WHERE WHAT IT READS IS OF BULK AT MOST 1048576: true; the input reads as it did. -/
def lePutsUptoRow : OpenClaim := { program := "ytcmpcejbephaeaa", sum := "979d3bf802cd4dda861b470f61afe0c97cd303963afcc772d8b045aa82fab662", func := "slipway/slipwaylaw1.LePuts", spec := "lePuts", inPlace := ["internal/bytealg.IndexByte"], apart := false, narrowed := true }
def LePutsUptoSaid : Prop := lePutsUptoRow.holds Try.pinned (OpenSpec.upto lePutsSpec)

/-- 'slipwaylaw1.LeEnds', WHERE WHAT IT READS IS OF BULK AT MOST 1048576: true; the input reads as it did. -/
def leEndsUptoRow : OpenClaim := { program := "ytcmpcejbephaeaa", sum := "979d3bf802cd4dda861b470f61afe0c97cd303963afcc772d8b045aa82fab662", func := "slipway/slipwaylaw1.LeEnds", spec := "leEnds", inPlace := ["internal/bytealg.IndexByte"], apart := false, narrowed := true }
def LeEndsUptoSaid : Prop := leEndsUptoRow.holds Try.pinned (OpenSpec.upto leEndsSpec)

/-- 'slipwaylaw1.LeBack', WHERE WHAT IT READS IS OF BULK AT MOST 1048576: true; the input reads as it did. -/
def leBackUptoRow : OpenClaim := { program := "ytcmpcejbephaeaa", sum := "979d3bf802cd4dda861b470f61afe0c97cd303963afcc772d8b045aa82fab662", func := "slipway/slipwaylaw1.LeBack", spec := "leBack", inPlace := ["internal/bytealg.IndexByte"], apart := false, narrowed := true }
def LeBackUptoSaid : Prop := leBackUptoRow.holds Try.pinned (OpenSpec.upto leBackSpec)

/-- 'slipwaylaw14.AluShifts', WHERE WHAT IT READS IS OF BULK AT MOST 1048576: true; the input reads as it did. -/
def aluShiftsUptoRow : OpenClaim := { program := "ytcmpcejbephaeaa", sum := "979d3bf802cd4dda861b470f61afe0c97cd303963afcc772d8b045aa82fab662", func := "slipway/slipwaylaw14.AluShifts", spec := "aluShifts", apart := false, narrowed := true }
def AluShiftsUptoSaid : Prop := aluShiftsUptoRow.holds Try.pinned (OpenSpec.upto aluShiftsSpec)

/-- 'slipwaylaw14.AluCarries', WHERE WHAT IT READS IS OF BULK AT MOST 1048576: true; the input reads as it did. -/
def aluCarriesUptoRow : OpenClaim := { program := "ytcmpcejbephaeaa", sum := "979d3bf802cd4dda861b470f61afe0c97cd303963afcc772d8b045aa82fab662", func := "slipway/slipwaylaw14.AluCarries", spec := "aluCarries", apart := false, narrowed := true }
def AluCarriesUptoSaid : Prop := aluCarriesUptoRow.holds Try.pinned (OpenSpec.upto aluCarriesSpec)

/-- 'slipwaylaw14.AluSigns', WHERE WHAT IT READS IS OF BULK AT MOST 1048576: true; the input reads as it did. -/
def aluSignsUptoRow : OpenClaim := { program := "ytcmpcejbephaeaa", sum := "979d3bf802cd4dda861b470f61afe0c97cd303963afcc772d8b045aa82fab662", func := "slipway/slipwaylaw14.AluSigns", spec := "aluSigns", apart := false, narrowed := true }
def AluSignsUptoSaid : Prop := aluSignsUptoRow.holds Try.pinned (OpenSpec.upto aluSignsSpec)

/-- 'slipwaylaw14.AluTells', WHERE WHAT IT READS IS OF BULK AT MOST 1048576: true; the input reads as it did. -/
def aluTellsUptoRow : OpenClaim := { program := "ytcmpcejbephaeaa", sum := "979d3bf802cd4dda861b470f61afe0c97cd303963afcc772d8b045aa82fab662", func := "slipway/slipwaylaw14.AluTells", spec := "aluTells", apart := false, narrowed := true }
def AluTellsUptoSaid : Prop := aluTellsUptoRow.holds Try.pinned (OpenSpec.upto aluTellsSpec)

/-- 'slipwaylaw14.AluUndoes', WHERE WHAT IT READS IS OF BULK AT MOST 1048576: true; the input reads as it did. -/
def aluUndoesUptoRow : OpenClaim := { program := "ytcmpcejbephaeaa", sum := "979d3bf802cd4dda861b470f61afe0c97cd303963afcc772d8b045aa82fab662", func := "slipway/slipwaylaw14.AluUndoes", spec := "aluUndoes", apart := false, narrowed := true }
def AluUndoesUptoSaid : Prop := aluUndoesUptoRow.holds Try.pinned (OpenSpec.upto aluUndoesSpec)

/-- 'slipwaylaw14.AluOrders', WHERE WHAT IT READS IS OF BULK AT MOST 1048576: true; the input reads as it did. -/
def aluOrdersUptoRow : OpenClaim := { program := "ytcmpcejbephaeaa", sum := "979d3bf802cd4dda861b470f61afe0c97cd303963afcc772d8b045aa82fab662", func := "slipway/slipwaylaw14.AluOrders", spec := "aluOrders", apart := false, narrowed := true }
def AluOrdersUptoSaid : Prop := aluOrdersUptoRow.holds Try.pinned (OpenSpec.upto aluOrdersSpec)

end Rows
end Go.Proofs.Ytcmpcejbephaeaa
