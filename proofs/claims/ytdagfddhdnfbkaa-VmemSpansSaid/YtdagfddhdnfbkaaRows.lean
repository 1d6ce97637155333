/-
  No cell of these rows narrows 'for every input' (looked for: loops, veiled, ifaces, maps, wideKeys, modest, calm, conditions, laid).
  DERIVED. THE GIVEN ROWS OF THIS SEAT. 9 by the template 'for every input the law returns true; each argument reads behind the call as it read before'; 0 by the template 'total and deterministic' (their statements: YtdagfddhdnfbkaaTotals.lean).
  GIVEN WITH THE SEED: the statements are not yours to turn. If you find one false, say at which input.
  Laid BY PROGRAM, IN A SANDBOX (cutbox-rows.mjs): the forced cells as the released guide's own fill.sh prints them over the translation aaa8ef46107519b2… (all of the seat's roots in one cut). By AI agents, Wed Nov 11 2026. No macro, syntax, notation, axiom, sorry.
-/
import Derived.Test.YtdagfddhdnfbkaaChecked
import GoSem.Claim
import GoSem.ClaimJoined
import GoSem.ClaimMapViews
import Derived.JoinedTies
import Derived.KernelRfl
namespace Go.Proofs.Ytdagfddhdnfbkaa
/- THE CELL 'sum', in the pinned program and in every row, IS THE sha256 OF THE DUMP (.gsa) THAT YtdagfddhdnfbkaaProg.lean LOADS. Nothing in Lean hashes anything: it is a label: what it is worth is what the hold of that sum in a sandbox is worth. -/
noncomputable def Try.pinned : Pinned := { name := "ytdagfddhdnfbkaa", sum := "aaa8ef46107519b2fa558cbfbdfeee7b7aa5547dc8e45f8dc55633005ba29e0a", checked := Try.checked }
namespace Rows
def none {H : Type} : Left H := { results := [], args := [] }

/-- 'slipwaylaw4.RoomGaps': WHATEVER THE INPUT: true; the input reads as it did. -/
def roomGapsSpec : ChangeSpec := { name := "roomGaps", fn := fun _ => fun
  | [d1, d2] => { results := [.lit (.bool true)], args := [d1, d2] }
  | _ => none }
def roomGapsRow : OpenClaim := { program := "ytdagfddhdnfbkaa", sum := "aaa8ef46107519b2fa558cbfbdfeee7b7aa5547dc8e45f8dc55633005ba29e0a", func := "slipway/slipwaylaw4.RoomGaps", spec := "roomGaps", unfollowed := true, recurses := true, apart := false }
def RoomGapsSaid : Prop := roomGapsRow.holds Try.pinned (OpenSpec.ofChange roomGapsSpec)

/-- ITS FALSE NEIGHBOUR: 'it returns false'. Refute it at one input. -/
def roomGapsWrong : ChangeSpec := { name := "roomGaps", fn := fun _ => fun
  | [d1, d2] => { results := [.lit (.bool false)], args := [d1, d2] }
  | _ => none }
def RoomGapsWrongFalsely : Prop := roomGapsRow.holds Try.pinned (OpenSpec.ofChange roomGapsWrong)

/-- 'slipwaylaw4.RoomTells': WHATEVER THE INPUT: true; the input reads as it did. -/
def roomTellsSpec : ChangeSpec := { name := "roomTells", fn := fun _ => fun
  | [d1, d2, d3] => { results := [.lit (.bool true)], args := [d1, d2, d3] }
  | _ => none }
def roomTellsRow : OpenClaim := { program := "ytdagfddhdnfbkaa", sum := "aaa8ef46107519b2fa558cbfbdfeee7b7aa5547dc8e45f8dc55633005ba29e0a", func := "slipway/slipwaylaw4.RoomTells", spec := "roomTells", unfollowed := true, recurses := true, apart := false }
def RoomTellsSaid : Prop := roomTellsRow.holds Try.pinned (OpenSpec.ofChange roomTellsSpec)

/-- ITS FALSE NEIGHBOUR: 'it returns false'. Refute it at one input. -/
def roomTellsWrong : ChangeSpec := { name := "roomTells", fn := fun _ => fun
  | [d1, d2, d3] => { results := [.lit (.bool false)], args := [d1, d2, d3] }
  | _ => none }
def RoomTellsWrongFalsely : Prop := roomTellsRow.holds Try.pinned (OpenSpec.ofChange roomTellsWrong)

/-- 'slipwaylaw4.RoomFills': WHATEVER THE INPUT: true; the input reads as it did. -/
def roomFillsSpec : ChangeSpec := { name := "roomFills", fn := fun _ => fun
  | [d1, d2] => { results := [.lit (.bool true)], args := [d1, d2] }
  | _ => none }
def roomFillsRow : OpenClaim := { program := "ytdagfddhdnfbkaa", sum := "aaa8ef46107519b2fa558cbfbdfeee7b7aa5547dc8e45f8dc55633005ba29e0a", func := "slipway/slipwaylaw4.RoomFills", spec := "roomFills", unfollowed := true, recurses := true, apart := false }
def RoomFillsSaid : Prop := roomFillsRow.holds Try.pinned (OpenSpec.ofChange roomFillsSpec)

/-- ITS FALSE NEIGHBOUR: 'it returns false'. Refute it at one input. -/
def roomFillsWrong : ChangeSpec := { name := "roomFills", fn := fun _ => fun
  | [d1, d2] => { results := [.lit (.bool false)], args := [d1, d2] }
  | _ => none }
def RoomFillsWrongFalsely : Prop := roomFillsRow.holds Try.pinned (OpenSpec.ofChange roomFillsWrong)

/-- 'slipwaylaw3.VmemFull': WHATEVER THE INPUT: true; the input reads as it did. -/
def vmemFullSpec : ChangeSpec := { name := "vmemFull", fn := fun _ => fun
  | [d] => { results := [.lit (.bool true)], args := [d] }
  | _ => none }
def vmemFullRow : OpenClaim := { program := "ytdagfddhdnfbkaa", sum := "aaa8ef46107519b2fa558cbfbdfeee7b7aa5547dc8e45f8dc55633005ba29e0a", func := "slipway/slipwaylaw3.VmemFull", spec := "vmemFull", unfollowed := true, recurses := true, apart := false }
def VmemFullSaid : Prop := vmemFullRow.holds Try.pinned (OpenSpec.ofChange vmemFullSpec)

/-- ITS FALSE NEIGHBOUR: 'it returns false'. Refute it at one input. -/
def vmemFullWrong : ChangeSpec := { name := "vmemFull", fn := fun _ => fun
  | [d] => { results := [.lit (.bool false)], args := [d] }
  | _ => none }
def VmemFullWrongFalsely : Prop := vmemFullRow.holds Try.pinned (OpenSpec.ofChange vmemFullWrong)

/-- 'slipwaylaw3.VmemGuards': WHATEVER THE INPUT: true; the input reads as it did. -/
def vmemGuardsSpec : ChangeSpec := { name := "vmemGuards", fn := fun _ => fun
  | [d1, d2, d3, d4] => { results := [.lit (.bool true)], args := [d1, d2, d3, d4] }
  | _ => none }
def vmemGuardsRow : OpenClaim := { program := "ytdagfddhdnfbkaa", sum := "aaa8ef46107519b2fa558cbfbdfeee7b7aa5547dc8e45f8dc55633005ba29e0a", func := "slipway/slipwaylaw3.VmemGuards", spec := "vmemGuards", unfollowed := true, recurses := true, apart := false }
def VmemGuardsSaid : Prop := vmemGuardsRow.holds Try.pinned (OpenSpec.ofChange vmemGuardsSpec)

/-- ITS FALSE NEIGHBOUR: 'it returns false'. Refute it at one input. -/
def vmemGuardsWrong : ChangeSpec := { name := "vmemGuards", fn := fun _ => fun
  | [d1, d2, d3, d4] => { results := [.lit (.bool false)], args := [d1, d2, d3, d4] }
  | _ => none }
def VmemGuardsWrongFalsely : Prop := vmemGuardsRow.holds Try.pinned (OpenSpec.ofChange vmemGuardsWrong)

/-- 'slipwaylaw3.VmemRights': WHATEVER THE INPUT: true; the input reads as it did. -/
def vmemRightsSpec : ChangeSpec := { name := "vmemRights", fn := fun _ => fun
  | [d1, d2, d3, d4] => { results := [.lit (.bool true)], args := [d1, d2, d3, d4] }
  | _ => none }
def vmemRightsRow : OpenClaim := { program := "ytdagfddhdnfbkaa", sum := "aaa8ef46107519b2fa558cbfbdfeee7b7aa5547dc8e45f8dc55633005ba29e0a", func := "slipway/slipwaylaw3.VmemRights", spec := "vmemRights", unfollowed := true, recurses := true, apart := false }
def VmemRightsSaid : Prop := vmemRightsRow.holds Try.pinned (OpenSpec.ofChange vmemRightsSpec)

/-- ITS FALSE NEIGHBOUR: 'it returns false'. Refute it at one input. -/
def vmemRightsWrong : ChangeSpec := { name := "vmemRights", fn := fun _ => fun
  | [d1, d2, d3, d4] => { results := [.lit (.bool false)], args := [d1, d2, d3, d4] }
  | _ => none }
def VmemRightsWrongFalsely : Prop := vmemRightsRow.holds Try.pinned (OpenSpec.ofChange vmemRightsWrong)

/-- 'slipwaylaw3.VmemSpans': WHATEVER THE INPUT: true; the input reads as it did. -/
def vmemSpansSpec : ChangeSpec := { name := "vmemSpans", fn := fun _ => fun
  | [d1, d2, d3] => { results := [.lit (.bool true)], args := [d1, d2, d3] }
  | _ => none }
def vmemSpansRow : OpenClaim := { program := "ytdagfddhdnfbkaa", sum := "aaa8ef46107519b2fa558cbfbdfeee7b7aa5547dc8e45f8dc55633005ba29e0a", func := "slipway/slipwaylaw3.VmemSpans", spec := "vmemSpans", unfollowed := true, recurses := true, apart := false }
def VmemSpansSaid : Prop := vmemSpansRow.holds Try.pinned (OpenSpec.ofChange vmemSpansSpec)

/-- ITS FALSE NEIGHBOUR: 'it returns false'. Refute it at one input. -/
def vmemSpansWrong : ChangeSpec := { name := "vmemSpans", fn := fun _ => fun
  | [d1, d2, d3] => { results := [.lit (.bool false)], args := [d1, d2, d3] }
  | _ => none }
def VmemSpansWrongFalsely : Prop := vmemSpansRow.holds Try.pinned (OpenSpec.ofChange vmemSpansWrong)

/-- 'slipwaylaw3.VmemTurns': WHATEVER THE INPUT: true; the input reads as it did. -/
def vmemTurnsSpec : ChangeSpec := { name := "vmemTurns", fn := fun _ => fun
  | [d1, d2, d3] => { results := [.lit (.bool true)], args := [d1, d2, d3] }
  | _ => none }
def vmemTurnsRow : OpenClaim := { program := "ytdagfddhdnfbkaa", sum := "aaa8ef46107519b2fa558cbfbdfeee7b7aa5547dc8e45f8dc55633005ba29e0a", func := "slipway/slipwaylaw3.VmemTurns", spec := "vmemTurns", unfollowed := true, recurses := true, apart := false }
def VmemTurnsSaid : Prop := vmemTurnsRow.holds Try.pinned (OpenSpec.ofChange vmemTurnsSpec)

/-- ITS FALSE NEIGHBOUR: 'it returns false'. Refute it at one input. -/
def vmemTurnsWrong : ChangeSpec := { name := "vmemTurns", fn := fun _ => fun
  | [d1, d2, d3] => { results := [.lit (.bool false)], args := [d1, d2, d3] }
  | _ => none }
def VmemTurnsWrongFalsely : Prop := vmemTurnsRow.holds Try.pinned (OpenSpec.ofChange vmemTurnsWrong)

/-- 'slipwaylaw3.VmemCopies': WHATEVER THE INPUT: true; the input reads as it did. -/
def vmemCopiesSpec : ChangeSpec := { name := "vmemCopies", fn := fun _ => fun
  | [d1, d2, d3] => { results := [.lit (.bool true)], args := [d1, d2, d3] }
  | _ => none }
def vmemCopiesRow : OpenClaim := { program := "ytdagfddhdnfbkaa", sum := "aaa8ef46107519b2fa558cbfbdfeee7b7aa5547dc8e45f8dc55633005ba29e0a", func := "slipway/slipwaylaw3.VmemCopies", spec := "vmemCopies", unfollowed := true, recurses := true, apart := false }
def VmemCopiesSaid : Prop := vmemCopiesRow.holds Try.pinned (OpenSpec.ofChange vmemCopiesSpec)

/-- ITS FALSE NEIGHBOUR: 'it returns false'. Refute it at one input. -/
def vmemCopiesWrong : ChangeSpec := { name := "vmemCopies", fn := fun _ => fun
  | [d1, d2, d3] => { results := [.lit (.bool false)], args := [d1, d2, d3] }
  | _ => none }
def VmemCopiesWrongFalsely : Prop := vmemCopiesRow.holds Try.pinned (OpenSpec.ofChange vmemCopiesWrong)

/- THE SECOND FORM. 'bulk': how many values and letters a reading holds, each counted each time it is reached (what is shared counts as often as it is met; a slice's spare places count too). A statement '..UptoSaid' is the law's where the arguments, and the package variables that the reading takes, are together of bulk at most 1048576: NARROWER than '..Said'. Prove '..Said' where nothing that the law and all that it calls make is longer than what came in: it says more and counts as full. Else prove '..UptoSaid'. A law counts once. -/
mutual
def uptoBulk {H : Type} : DataW H → Nat
  | .lit (.string bytes) => bytes.length + 1
  | .lit _ => 1
  | .nil => 1
  | .ptr d => uptoBulk d + 1
  | .slice elems spare => uptoBulkAll elems + uptoBulkAll spare + 1
  | .agg parts => uptoBulkAll parts + 1
  | .iface _ d => uptoBulk d + 1
  | .map entries => uptoBulkEntries entries + 1
  | .held _ => 1
def uptoBulkAll {H : Type} : List (DataW H) → Nat
  | [] => 0
  | d :: r => uptoBulk d + uptoBulkAll r
def uptoBulkEntries {H : Type} : List (Lit × DataW H) → Nat
  | [] => 0
  | x :: r => uptoBulkEntry x + uptoBulkEntries r
def uptoBulkEntry {H : Type} : Lit × DataW H → Nat
  | (.string bytes, d) => bytes.length + uptoBulk d + 1
  | (_, d) => uptoBulk d + 1
 end
def uptoSmall : (H : Type) → List (DataW H) → Bool := fun _ ds => decide (uptoBulkAll ds ≤ 1048576)
def OpenSpec.upto (s : _root_.Go.ChangeSpec) : _root_.Go.OpenSpec := { _root_.Go.OpenSpec.ofChange s with cond := some uptoSmall }

/-- 'slipwaylaw4.RoomGaps', WHERE WHAT IT READS IS OF BULK AT MOST 1048576: true; the input reads as it did. -/
def roomGapsUptoRow : OpenClaim := { program := "ytdagfddhdnfbkaa", sum := "aaa8ef46107519b2fa558cbfbdfeee7b7aa5547dc8e45f8dc55633005ba29e0a", func := "slipway/slipwaylaw4.RoomGaps", spec := "roomGaps", unfollowed := true, recurses := true, apart := false, narrowed := true }
def RoomGapsUptoSaid : Prop := roomGapsUptoRow.holds Try.pinned (OpenSpec.upto roomGapsSpec)

/-- 'slipwaylaw4.RoomTells', WHERE WHAT IT READS IS OF BULK AT MOST 1048576: true; the input reads as it did. -/
def roomTellsUptoRow : OpenClaim := { program := "ytdagfddhdnfbkaa", sum := "aaa8ef46107519b2fa558cbfbdfeee7b7aa5547dc8e45f8dc55633005ba29e0a", func := "slipway/slipwaylaw4.RoomTells", spec := "roomTells", unfollowed := true, recurses := true, apart := false, narrowed := true }
def RoomTellsUptoSaid : Prop := roomTellsUptoRow.holds Try.pinned (OpenSpec.upto roomTellsSpec)

/-- 'slipwaylaw4.RoomFills', WHERE WHAT IT READS IS OF BULK AT MOST 1048576: true; the input reads as it did. -/
def roomFillsUptoRow : OpenClaim := { program := "ytdagfddhdnfbkaa", sum := "aaa8ef46107519b2fa558cbfbdfeee7b7aa5547dc8e45f8dc55633005ba29e0a", func := "slipway/slipwaylaw4.RoomFills", spec := "roomFills", unfollowed := true, recurses := true, apart := false, narrowed := true }
def RoomFillsUptoSaid : Prop := roomFillsUptoRow.holds Try.pinned (OpenSpec.upto roomFillsSpec)

/-- 'slipwaylaw3.VmemFull', WHERE WHAT IT READS IS OF BULK AT MOST 1048576: true; the input reads as it did. -/
def vmemFullUptoRow : OpenClaim := { program := "ytdagfddhdnfbkaa", sum := "aaa8ef46107519b2fa558cbfbdfeee7b7aa5547dc8e45f8dc55633005ba29e0a", func := "slipway/slipwaylaw3.VmemFull", spec := "vmemFull", unfollowed := true, recurses := true, apart := false, narrowed := true }
def VmemFullUptoSaid : Prop := vmemFullUptoRow.holds Try.pinned (OpenSpec.upto vmemFullSpec)

/-- 'slipwaylaw3.VmemGuards', WHERE WHAT IT READS IS OF BULK AT MOST 1048576: true; the input reads as it did. -/
def vmemGuardsUptoRow : OpenClaim := { program := "ytdagfddhdnfbkaa", sum := "aaa8ef46107519b2fa558cbfbdfeee7b7aa5547dc8e45f8dc55633005ba29e0a", func := "slipway/slipwaylaw3.VmemGuards", spec := "vmemGuards", unfollowed := true, recurses := true, apart := false, narrowed := true }
def VmemGuardsUptoSaid : Prop := vmemGuardsUptoRow.holds Try.pinned (OpenSpec.upto vmemGuardsSpec)

/-- 'slipwaylaw3.VmemRights', WHERE WHAT IT READS IS OF BULK AT MOST 1048576: true; the input reads as it did. -/
def vmemRightsUptoRow : OpenClaim := { program := "ytdagfddhdnfbkaa", sum := "aaa8ef46107519b2fa558cbfbdfeee7b7aa5547dc8e45f8dc55633005ba29e0a", func := "slipway/slipwaylaw3.VmemRights", spec := "vmemRights", unfollowed := true, recurses := true, apart := false, narrowed := true }
def VmemRightsUptoSaid : Prop := vmemRightsUptoRow.holds Try.pinned (OpenSpec.upto vmemRightsSpec)

/-- 'slipwaylaw3.VmemSpans', WHERE WHAT IT READS IS OF BULK AT MOST 1048576: true; the input reads as it did. -/
def vmemSpansUptoRow : OpenClaim := { program := "ytdagfddhdnfbkaa", sum := "aaa8ef46107519b2fa558cbfbdfeee7b7aa5547dc8e45f8dc55633005ba29e0a", func := "slipway/slipwaylaw3.VmemSpans", spec := "vmemSpans", unfollowed := true, recurses := true, apart := false, narrowed := true }
def VmemSpansUptoSaid : Prop := vmemSpansUptoRow.holds Try.pinned (OpenSpec.upto vmemSpansSpec)

/-- 'slipwaylaw3.VmemTurns', WHERE WHAT IT READS IS OF BULK AT MOST 1048576: true; the input reads as it did. -/
def vmemTurnsUptoRow : OpenClaim := { program := "ytdagfddhdnfbkaa", sum := "aaa8ef46107519b2fa558cbfbdfeee7b7aa5547dc8e45f8dc55633005ba29e0a", func := "slipway/slipwaylaw3.VmemTurns", spec := "vmemTurns", unfollowed := true, recurses := true, apart := false, narrowed := true }
def VmemTurnsUptoSaid : Prop := vmemTurnsUptoRow.holds Try.pinned (OpenSpec.upto vmemTurnsSpec)

/-- 'slipwaylaw3.VmemCopies', WHERE WHAT IT READS IS OF BULK AT MOST 1048576: true; the input reads as it did. -/
def vmemCopiesUptoRow : OpenClaim := { program := "ytdagfddhdnfbkaa", sum := "aaa8ef46107519b2fa558cbfbdfeee7b7aa5547dc8e45f8dc55633005ba29e0a", func := "slipway/slipwaylaw3.VmemCopies", spec := "vmemCopies", unfollowed := true, recurses := true, apart := false, narrowed := true }
def VmemCopiesUptoSaid : Prop := vmemCopiesUptoRow.holds Try.pinned (OpenSpec.upto vmemCopiesSpec)

end Rows
end Go.Proofs.Ytdagfddhdnfbkaa
