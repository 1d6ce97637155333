/-
  No cell of these rows narrows 'for every input' (looked for: loops, veiled, ifaces, maps, wideKeys, modest, calm, conditions, laid).
  DERIVED. THE GIVEN ROWS OF THIS SEAT. 10 by the template 'for every input the law returns true; each argument reads behind the call as it read before'; 0 by the template 'total and deterministic' (their statements: YtojlcoebbgafhaaTotals.lean).
  GIVEN WITH THE SEED: the statements are not yours to turn. If you find one false, say at which input.
  Laid BY PROGRAM, IN A SANDBOX (cutbox-rows.mjs): the forced cells as the released guide's own fill.sh prints them over the translation 2d6bb62665bf0a09… (all of the seat's roots in one cut). By AI agents, Wed Nov 11 2026. No macro, syntax, notation, axiom, sorry.
-/
import Derived.Test.YtojlcoebbgafhaaChecked
import GoSem.Claim
import GoSem.ClaimJoined
import GoSem.ClaimMapViews
import Derived.JoinedTies
import Derived.KernelRfl
namespace Go.Proofs.Ytojlcoebbgafhaa
/- THE CELL 'sum', in the pinned program and in every row, IS THE sha256 OF THE DUMP (.gsa) THAT YtojlcoebbgafhaaProg.lean LOADS. Nothing in Lean hashes anything: it is a label: what it is worth is what the hold of that sum in a sandbox is worth. -/
noncomputable def Try.pinned : Pinned := { name := "ytojlcoebbgafhaa", sum := "2d6bb62665bf0a0992df17b7dcfeca8e02473c363af40557e5bcead70974981e", checked := Try.checked }
namespace Rows
def none {H : Type} : Left H := { results := [], args := [] }

/-- 'slipwaylaw9.BoundBounds': WHATEVER THE INPUT: true; the input reads as it did. -/
def boundBoundsSpec : ChangeSpec := { name := "boundBounds", fn := fun _ => fun
  | [d1, d2, d3] => { results := [.lit (.bool true)], args := [d1, d2, d3] }
  | _ => none }
def boundBoundsRow : OpenClaim := { program := "ytojlcoebbgafhaa", sum := "2d6bb62665bf0a0992df17b7dcfeca8e02473c363af40557e5bcead70974981e", func := "slipway/slipwaylaw9.BoundBounds", spec := "boundBounds", inPlace := ["internal/bytealg.IndexByte", "internal/bytealg.IndexByteString"], unfollowed := true, recurses := true, apart := false }
def BoundBoundsSaid : Prop := boundBoundsRow.holds Try.pinned (OpenSpec.ofChange boundBoundsSpec)

/-- ITS FALSE NEIGHBOUR: 'it returns false'. Refute it at one input. -/
def boundBoundsWrong : ChangeSpec := { name := "boundBounds", fn := fun _ => fun
  | [d1, d2, d3] => { results := [.lit (.bool false)], args := [d1, d2, d3] }
  | _ => none }
def BoundBoundsWrongFalsely : Prop := boundBoundsRow.holds Try.pinned (OpenSpec.ofChange boundBoundsWrong)

/-- 'slipwaylaw9.BoundFresh': WHATEVER THE INPUT: true; the input reads as it did. -/
def boundFreshSpec : ChangeSpec := { name := "boundFresh", fn := fun _ => fun
  | [d1, d2, d3] => { results := [.lit (.bool true)], args := [d1, d2, d3] }
  | _ => none }
def boundFreshRow : OpenClaim := { program := "ytojlcoebbgafhaa", sum := "2d6bb62665bf0a0992df17b7dcfeca8e02473c363af40557e5bcead70974981e", func := "slipway/slipwaylaw9.BoundFresh", spec := "boundFresh", inPlace := ["internal/bytealg.IndexByteString", "internal/bytealg.IndexByte"], unfollowed := true, recurses := true, apart := false }
def BoundFreshSaid : Prop := boundFreshRow.holds Try.pinned (OpenSpec.ofChange boundFreshSpec)

/-- ITS FALSE NEIGHBOUR: 'it returns false'. Refute it at one input. -/
def boundFreshWrong : ChangeSpec := { name := "boundFresh", fn := fun _ => fun
  | [d1, d2, d3] => { results := [.lit (.bool false)], args := [d1, d2, d3] }
  | _ => none }
def BoundFreshWrongFalsely : Prop := boundFreshRow.holds Try.pinned (OpenSpec.ofChange boundFreshWrong)

/-- 'slipwaylaw10.RelBounds': WHATEVER THE INPUT: true; the input reads as it did. -/
def relBoundsSpec : ChangeSpec := { name := "relBounds", fn := fun _ => fun
  | [d1, d2] => { results := [.lit (.bool true)], args := [d1, d2] }
  | _ => none }
def relBoundsRow : OpenClaim := { program := "ytojlcoebbgafhaa", sum := "2d6bb62665bf0a0992df17b7dcfeca8e02473c363af40557e5bcead70974981e", func := "slipway/slipwaylaw10.RelBounds", spec := "relBounds", unfollowed := true, recurses := true, apart := false }
def RelBoundsSaid : Prop := relBoundsRow.holds Try.pinned (OpenSpec.ofChange relBoundsSpec)

/-- ITS FALSE NEIGHBOUR: 'it returns false'. Refute it at one input. -/
def relBoundsWrong : ChangeSpec := { name := "relBounds", fn := fun _ => fun
  | [d1, d2] => { results := [.lit (.bool false)], args := [d1, d2] }
  | _ => none }
def RelBoundsWrongFalsely : Prop := relBoundsRow.holds Try.pinned (OpenSpec.ofChange relBoundsWrong)

/-- 'slipwaylaw10.RelForms': WHATEVER THE INPUT: true; the input reads as it did. -/
def relFormsSpec : ChangeSpec := { name := "relForms", fn := fun _ => fun
  | [d] => { results := [.lit (.bool true)], args := [d] }
  | _ => none }
def relFormsRow : OpenClaim := { program := "ytojlcoebbgafhaa", sum := "2d6bb62665bf0a0992df17b7dcfeca8e02473c363af40557e5bcead70974981e", func := "slipway/slipwaylaw10.RelForms", spec := "relForms", unfollowed := true, recurses := true, apart := false }
def RelFormsSaid : Prop := relFormsRow.holds Try.pinned (OpenSpec.ofChange relFormsSpec)

/-- ITS FALSE NEIGHBOUR: 'it returns false'. Refute it at one input. -/
def relFormsWrong : ChangeSpec := { name := "relForms", fn := fun _ => fun
  | [d] => { results := [.lit (.bool false)], args := [d] }
  | _ => none }
def RelFormsWrongFalsely : Prop := relFormsRow.holds Try.pinned (OpenSpec.ofChange relFormsWrong)

/-- 'slipwaylaw10.RelTells': WHATEVER THE INPUT: true; the input reads as it did. -/
def relTellsSpec : ChangeSpec := { name := "relTells", fn := fun _ => fun
  | [d1, d2, d3, d4, d5, d6, d7] => { results := [.lit (.bool true)], args := [d1, d2, d3, d4, d5, d6, d7] }
  | _ => none }
def relTellsRow : OpenClaim := { program := "ytojlcoebbgafhaa", sum := "2d6bb62665bf0a0992df17b7dcfeca8e02473c363af40557e5bcead70974981e", func := "slipway/slipwaylaw10.RelTells", spec := "relTells", unfollowed := true, recurses := true, apart := false }
def RelTellsSaid : Prop := relTellsRow.holds Try.pinned (OpenSpec.ofChange relTellsSpec)

/-- ITS FALSE NEIGHBOUR: 'it returns false'. Refute it at one input. -/
def relTellsWrong : ChangeSpec := { name := "relTells", fn := fun _ => fun
  | [d1, d2, d3, d4, d5, d6, d7] => { results := [.lit (.bool false)], args := [d1, d2, d3, d4, d5, d6, d7] }
  | _ => none }
def RelTellsWrongFalsely : Prop := relTellsRow.holds Try.pinned (OpenSpec.ofChange relTellsWrong)

/-- 'slipwaylaw10.RelBases': WHATEVER THE INPUT: true; the input reads as it did. -/
def relBasesSpec : ChangeSpec := { name := "relBases", fn := fun _ => fun
  | [d1, d2, d3, d4] => { results := [.lit (.bool true)], args := [d1, d2, d3, d4] }
  | _ => none }
def relBasesRow : OpenClaim := { program := "ytojlcoebbgafhaa", sum := "2d6bb62665bf0a0992df17b7dcfeca8e02473c363af40557e5bcead70974981e", func := "slipway/slipwaylaw10.RelBases", spec := "relBases", unfollowed := true, recurses := true, apart := false }
def RelBasesSaid : Prop := relBasesRow.holds Try.pinned (OpenSpec.ofChange relBasesSpec)

/-- ITS FALSE NEIGHBOUR: 'it returns false'. Refute it at one input. -/
def relBasesWrong : ChangeSpec := { name := "relBases", fn := fun _ => fun
  | [d1, d2, d3, d4] => { results := [.lit (.bool false)], args := [d1, d2, d3, d4] }
  | _ => none }
def RelBasesWrongFalsely : Prop := relBasesRow.holds Try.pinned (OpenSpec.ofChange relBasesWrong)

/-- 'slipwaylaw10.RelBack': WHATEVER THE INPUT: true; the input reads as it did. -/
def relBackSpec : ChangeSpec := { name := "relBack", fn := fun _ => fun
  | [d1, d2] => { results := [.lit (.bool true)], args := [d1, d2] }
  | _ => none }
def relBackRow : OpenClaim := { program := "ytojlcoebbgafhaa", sum := "2d6bb62665bf0a0992df17b7dcfeca8e02473c363af40557e5bcead70974981e", func := "slipway/slipwaylaw10.RelBack", spec := "relBack", unfollowed := true, recurses := true, apart := false }
def RelBackSaid : Prop := relBackRow.holds Try.pinned (OpenSpec.ofChange relBackSpec)

/-- ITS FALSE NEIGHBOUR: 'it returns false'. Refute it at one input. -/
def relBackWrong : ChangeSpec := { name := "relBack", fn := fun _ => fun
  | [d1, d2] => { results := [.lit (.bool false)], args := [d1, d2] }
  | _ => none }
def RelBackWrongFalsely : Prop := relBackRow.holds Try.pinned (OpenSpec.ofChange relBackWrong)

/-- 'slipwaylaw8.ImpsBounds': WHATEVER THE INPUT: true; the input reads as it did. -/
def impsBoundsSpec : ChangeSpec := { name := "impsBounds", fn := fun _ => fun
  | [d1, d2, d3] => { results := [.lit (.bool true)], args := [d1, d2, d3] }
  | _ => none }
def impsBoundsRow : OpenClaim := { program := "ytojlcoebbgafhaa", sum := "2d6bb62665bf0a0992df17b7dcfeca8e02473c363af40557e5bcead70974981e", func := "slipway/slipwaylaw8.ImpsBounds", spec := "impsBounds", inPlace := ["internal/bytealg.IndexByte"], unfollowed := true, recurses := true, apart := false }
def ImpsBoundsSaid : Prop := impsBoundsRow.holds Try.pinned (OpenSpec.ofChange impsBoundsSpec)

/-- ITS FALSE NEIGHBOUR: 'it returns false'. Refute it at one input. -/
def impsBoundsWrong : ChangeSpec := { name := "impsBounds", fn := fun _ => fun
  | [d1, d2, d3] => { results := [.lit (.bool false)], args := [d1, d2, d3] }
  | _ => none }
def ImpsBoundsWrongFalsely : Prop := impsBoundsRow.holds Try.pinned (OpenSpec.ofChange impsBoundsWrong)

/-- 'slipwaylaw8.ImpsThunks': WHATEVER THE INPUT: true; the input reads as it did. -/
def impsThunksSpec : ChangeSpec := { name := "impsThunks", fn := fun _ => fun
  | [d1, d2] => { results := [.lit (.bool true)], args := [d1, d2] }
  | _ => none }
def impsThunksRow : OpenClaim := { program := "ytojlcoebbgafhaa", sum := "2d6bb62665bf0a0992df17b7dcfeca8e02473c363af40557e5bcead70974981e", func := "slipway/slipwaylaw8.ImpsThunks", spec := "impsThunks", inPlace := ["internal/bytealg.IndexByte"], unfollowed := true, recurses := true, apart := false }
def ImpsThunksSaid : Prop := impsThunksRow.holds Try.pinned (OpenSpec.ofChange impsThunksSpec)

/-- ITS FALSE NEIGHBOUR: 'it returns false'. Refute it at one input. -/
def impsThunksWrong : ChangeSpec := { name := "impsThunks", fn := fun _ => fun
  | [d1, d2] => { results := [.lit (.bool false)], args := [d1, d2] }
  | _ => none }
def ImpsThunksWrongFalsely : Prop := impsThunksRow.holds Try.pinned (OpenSpec.ofChange impsThunksWrong)

/-- 'slipwaylaw8.ImpsBack': WHATEVER THE INPUT: true; the input reads as it did. -/
def impsBackSpec : ChangeSpec := { name := "impsBack", fn := fun _ => fun
  | [d1, d2] => { results := [.lit (.bool true)], args := [d1, d2] }
  | _ => none }
def impsBackRow : OpenClaim := { program := "ytojlcoebbgafhaa", sum := "2d6bb62665bf0a0992df17b7dcfeca8e02473c363af40557e5bcead70974981e", func := "slipway/slipwaylaw8.ImpsBack", spec := "impsBack", inPlace := ["internal/bytealg.IndexByte"], unfollowed := true, recurses := true, apart := false }
def ImpsBackSaid : Prop := impsBackRow.holds Try.pinned (OpenSpec.ofChange impsBackSpec)

/-- ITS FALSE NEIGHBOUR: 'it returns false'. Refute it at one input. -/
def impsBackWrong : ChangeSpec := { name := "impsBack", fn := fun _ => fun
  | [d1, d2] => { results := [.lit (.bool false)], args := [d1, d2] }
  | _ => none }
def ImpsBackWrongFalsely : Prop := impsBackRow.holds Try.pinned (OpenSpec.ofChange impsBackWrong)

/- THE SECOND FORM. 'bulk': how many values and letters a reading holds, each counted each time it is reached (what is shared counts as often as it is met; a slice's spare places count too). A statement '..UptoSaid' is the law's where the arguments, and the package variables that the reading takes, are together of bulk at most 1048576: NARROWER than '..Said'. Prove '..Said' where nothing that the law and all that it calls make is longer than what came in: it says more and counts as full. Else prove '..UptoSaid'. A law counts once. -/
mutual
def uptoBulk {H : Type} : DataW H → Nat
  | .lit (.string bytes) => bytes.length + 1
  | .lit _ => 1
  | .nil => 1
  | .ptr d => uptoBulk d + 1
  | .slice elems spare => uptoBulkAll elems + uptoBulkAll spare + 1
  | .agg parts => uptoBulkAll parts + 1
  | .iface _ d => uptoBulk d + 1
  | .map entries => uptoBulkEntries entries + 1
  | .held _ => 1
def uptoBulkAll {H : Type} : List (DataW H) → Nat
  | [] => 0
  | d :: r => uptoBulk d + uptoBulkAll r
def uptoBulkEntries {H : Type} : List (Lit × DataW H) → Nat
  | [] => 0
  | x :: r => uptoBulkEntry x + uptoBulkEntries r
def uptoBulkEntry {H : Type} : Lit × DataW H → Nat
  | (.string bytes, d) => bytes.length + uptoBulk d + 1
  | (_, d) => uptoBulk d + 1
 end
def uptoSmall : (H : Type) → List (DataW H) → Bool := fun _ ds => decide (uptoBulkAll ds ≤ 1048576)
def OpenSpec.upto (s : _root_.Go.ChangeSpec) : _root_.Go.OpenSpec := { _root_.Go.OpenSpec.ofChange s with cond := some uptoSmall }

/-- 'slipwaylaw9.BoundBounds', WHERE WHAT IT READS IS OF BULK AT MOST 1048576: true; the input reads as it did. -/
def boundBoundsUptoRow : OpenClaim := { program := "ytojlcoebbgafhaa", sum := "2d6bb62665bf0a0992df17b7dcfeca8e02473c363af40557e5bcead70974981e", func := "slipway/slipwaylaw9.BoundBounds", spec := "boundBounds", inPlace := ["internal/bytealg.IndexByte", "internal/bytealg.IndexByteString"], unfollowed := true, recurses := true, apart := false, narrowed := true }
def BoundBoundsUptoSaid : Prop := boundBoundsUptoRow.holds Try.pinned (OpenSpec.upto boundBoundsSpec)

/-- 'slipwaylaw9.BoundFresh', WHERE WHAT IT READS IS OF BULK AT MOST 1048576: true; the input reads as it did. -/
def boundFreshUptoRow : OpenClaim := { program := "ytojlcoebbgafhaa", sum := "2d6bb62665bf0a0992df17b7dcfeca8e02473c363af40557e5bcead70974981e", func := "slipway/slipwaylaw9.BoundFresh", spec := "boundFresh", inPlace := ["internal/bytealg.IndexByteString", "internal/bytealg.IndexByte"], unfollowed := true, recurses := true, apart := false, narrowed := true }
def BoundFreshUptoSaid : Prop := boundFreshUptoRow.holds Try.pinned (OpenSpec.upto boundFreshSpec)

/-- 'slipwaylaw10.RelBounds', WHERE WHAT IT READS IS OF BULK AT MOST 1048576: true; the input reads as it did. -/
def relBoundsUptoRow : OpenClaim := { program := "ytojlcoebbgafhaa", sum := "2d6bb62665bf0a0992df17b7dcfeca8e02473c363af40557e5bcead70974981e", func := "slipway/slipwaylaw10.RelBounds", spec := "relBounds", unfollowed := true, recurses := true, apart := false, narrowed := true }
def RelBoundsUptoSaid : Prop := relBoundsUptoRow.holds Try.pinned (OpenSpec.upto relBoundsSpec)

/-- 'slipwaylaw10.RelForms', WHERE WHAT IT READS IS OF BULK AT MOST 1048576: true; the input reads as it did. -/
def relFormsUptoRow : OpenClaim := { program := "ytojlcoebbgafhaa", sum := "2d6bb62665bf0a0992df17b7dcfeca8e02473c363af40557e5bcead70974981e", func := "slipway/slipwaylaw10.RelForms", spec := "relForms", unfollowed := true, recurses := true, apart := false, narrowed := true }
def RelFormsUptoSaid : Prop := relFormsUptoRow.holds Try.pinned (OpenSpec.upto relFormsSpec)

/-- 'slipwaylaw10.RelTells', WHERE WHAT IT READS IS OF BULK AT MOST 1048576: true; the input reads as it did. -/
def relTellsUptoRow : OpenClaim := { program := "ytojlcoebbgafhaa", sum := "2d6bb62665bf0a0992df17b7dcfeca8e02473c363af40557e5bcead70974981e", func := "slipway/slipwaylaw10.RelTells", spec := "relTells", unfollowed := true, recurses := true, apart := false, narrowed := true }
def RelTellsUptoSaid : Prop := relTellsUptoRow.holds Try.pinned (OpenSpec.upto relTellsSpec)

/-- 'slipwaylaw10.RelBases', WHERE WHAT IT READS IS OF BULK AT MOST 1048576: true; the input reads as it did. -/
def relBasesUptoRow : OpenClaim := { program := "ytojlcoebbgafhaa", sum := "2d6bb62665bf0a0992df17b7dcfeca8e02473c363af40557e5bcead70974981e", func := "slipway/slipwaylaw10.RelBases", spec := "relBases", unfollowed := true, recurses := true, apart := false, narrowed := true }
def RelBasesUptoSaid : Prop := relBasesUptoRow.holds Try.pinned (OpenSpec.upto relBasesSpec)

/-- 'slipwaylaw10.RelBack', WHERE WHAT IT READS IS OF BULK AT MOST 1048576: true; the input reads as it did. -/
def relBackUptoRow : OpenClaim := { program := "ytojlcoebbgafhaa", sum := "2d6bb62665bf0a0992df17b7dcfeca8e02473c363af40557e5bcead70974981e", func := "slipway/slipwaylaw10.RelBack", spec := "relBack", unfollowed := true, recurses := true, apart := false, narrowed := true }
def RelBackUptoSaid : Prop := relBackUptoRow.holds Try.pinned (OpenSpec.upto relBackSpec)

/-- 'slipwaylaw8.ImpsBounds', WHERE WHAT IT READS IS OF BULK AT MOST 1048576: true; the input reads as it did. -/
def impsBoundsUptoRow : OpenClaim := { program := "ytojlcoebbgafhaa", sum := "2d6bb62665bf0a0992df17b7dcfeca8e02473c363af40557e5bcead70974981e", func := "slipway/slipwaylaw8.ImpsBounds", spec := "impsBounds", inPlace := ["internal/bytealg.IndexByte"], unfollowed := true, recurses := true, apart := false, narrowed := true }
def ImpsBoundsUptoSaid : Prop := impsBoundsUptoRow.holds Try.pinned (OpenSpec.upto impsBoundsSpec)

/-- 'slipwaylaw8.ImpsThunks', WHERE WHAT IT READS IS OF BULK AT MOST 1048576: true; the input reads as it did. -/
def impsThunksUptoRow : OpenClaim := { program := "ytojlcoebbgafhaa", sum := "2d6bb62665bf0a0992df17b7dcfeca8e02473c363af40557e5bcead70974981e", func := "slipway/slipwaylaw8.ImpsThunks", spec := "impsThunks", inPlace := ["internal/bytealg.IndexByte"], unfollowed := true, recurses := true, apart := false, narrowed := true }
def ImpsThunksUptoSaid : Prop := impsThunksUptoRow.holds Try.pinned (OpenSpec.upto impsThunksSpec)

/-- 'slipwaylaw8.ImpsBack', WHERE WHAT IT READS IS OF BULK AT MOST 1048576: true; the input reads as it did. -/
def impsBackUptoRow : OpenClaim := { program := "ytojlcoebbgafhaa", sum := "2d6bb62665bf0a0992df17b7dcfeca8e02473c363af40557e5bcead70974981e", func := "slipway/slipwaylaw8.ImpsBack", spec := "impsBack", inPlace := ["internal/bytealg.IndexByte"], unfollowed := true, recurses := true, apart := false, narrowed := true }
def ImpsBackUptoSaid : Prop := impsBackUptoRow.holds Try.pinned (OpenSpec.upto impsBackSpec)

end Rows
end Go.Proofs.Ytojlcoebbgafhaa
