/-
  No cell of these rows narrows 'for every input' (looked for: loops, veiled, ifaces, maps, wideKeys, modest, calm, conditions, laid).
  DERIVED. THE GIVEN ROWS OF THIS SEAT. 9 by the template 'for every input the law returns true; each argument reads behind the call as it read before'; 0 by the template 'total and deterministic' (their statements: YtgljfjmffiofkaaTotals.lean).
  GIVEN WITH THE SEED: the statements are not yours to turn. If you find one false, say at which input.
  Laid BY PROGRAM, IN A SANDBOX (cutbox-rows.mjs): the forced cells as the released guide's own fill.sh prints them over the translation 714d846f8b7d6fa5… (all of the seat's roots in one cut). By AI agents, Wed Nov 11 2026. No macro, syntax, notation, axiom, sorry.
-/
import Derived.Test.YtgljfjmffiofkaaChecked
import GoSem.Claim
import GoSem.ClaimJoined
import GoSem.ClaimMapViews
import Derived.JoinedTies
import Derived.KernelRfl
namespace Go.Proofs.Ytgljfjmffiofkaa
/- THE CELL 'sum', in the pinned program and in every row, IS THE sha256 OF THE DUMP (.gsa) THAT YtgljfjmffiofkaaProg.lean LOADS. Nothing in Lean hashes anything: it is a label: what it is worth is what the hold of that sum in a sandbox is worth. -/
noncomputable def Try.pinned : Pinned := { name := "ytgljfjmffiofkaa", sum := "714d846f8b7d6fa5c38bb7a94740a5710ac609449de575f1bb179197098ac86e", checked := Try.checked }
namespace Rows
def none {H : Type} : Left H := { results := [], args := [] }

/-- 'nacellelaw20.IntegrityNumbers': WHATEVER THE INPUT: true; the input reads as it did. -/
def integrityNumbersSpec : ChangeSpec := { name := "integrityNumbers", fn := fun _ => fun
  | [d1, d2] => { results := [.lit (.bool true)], args := [d1, d2] }
  | _ => none }
def integrityNumbersRow : OpenClaim := { program := "ytgljfjmffiofkaa", sum := "714d846f8b7d6fa5c38bb7a94740a5710ac609449de575f1bb179197098ac86e", func := "nacelle/nacellelaw20.IntegrityNumbers", spec := "integrityNumbers", unfollowed := true, recurses := true, apart := false }
def IntegrityNumbersSaid : Prop := integrityNumbersRow.holds Try.pinned (OpenSpec.ofChange integrityNumbersSpec)

/-- ITS FALSE NEIGHBOUR: 'it returns false'. Refute it at one input. -/
def integrityNumbersWrong : ChangeSpec := { name := "integrityNumbers", fn := fun _ => fun
  | [d1, d2] => { results := [.lit (.bool false)], args := [d1, d2] }
  | _ => none }
def IntegrityNumbersWrongFalsely : Prop := integrityNumbersRow.holds Try.pinned (OpenSpec.ofChange integrityNumbersWrong)

/-- 'nacellelaw20.IntegrityGap': WHATEVER THE INPUT: true; the input reads as it did. -/
def integrityGapSpec : ChangeSpec := { name := "integrityGap", fn := fun _ => fun
  | [d1, d2] => { results := [.lit (.bool true)], args := [d1, d2] }
  | _ => none }
def integrityGapRow : OpenClaim := { program := "ytgljfjmffiofkaa", sum := "714d846f8b7d6fa5c38bb7a94740a5710ac609449de575f1bb179197098ac86e", func := "nacelle/nacellelaw20.IntegrityGap", spec := "integrityGap", unfollowed := true, recurses := true, apart := false }
def IntegrityGapSaid : Prop := integrityGapRow.holds Try.pinned (OpenSpec.ofChange integrityGapSpec)

/-- ITS FALSE NEIGHBOUR: 'it returns false'. Refute it at one input. -/
def integrityGapWrong : ChangeSpec := { name := "integrityGap", fn := fun _ => fun
  | [d1, d2] => { results := [.lit (.bool false)], args := [d1, d2] }
  | _ => none }
def IntegrityGapWrongFalsely : Prop := integrityGapRow.holds Try.pinned (OpenSpec.ofChange integrityGapWrong)

/-- 'nacellelaw20.IntegrityDistances': WHATEVER THE INPUT: true; the input reads as it did. -/
def integrityDistancesSpec : ChangeSpec := { name := "integrityDistances", fn := fun _ => fun
  | [d1, d2] => { results := [.lit (.bool true)], args := [d1, d2] }
  | _ => none }
def integrityDistancesRow : OpenClaim := { program := "ytgljfjmffiofkaa", sum := "714d846f8b7d6fa5c38bb7a94740a5710ac609449de575f1bb179197098ac86e", func := "nacelle/nacellelaw20.IntegrityDistances", spec := "integrityDistances", unfollowed := true, recurses := true, apart := false }
def IntegrityDistancesSaid : Prop := integrityDistancesRow.holds Try.pinned (OpenSpec.ofChange integrityDistancesSpec)

/-- ITS FALSE NEIGHBOUR: 'it returns false'. Refute it at one input. -/
def integrityDistancesWrong : ChangeSpec := { name := "integrityDistances", fn := fun _ => fun
  | [d1, d2] => { results := [.lit (.bool false)], args := [d1, d2] }
  | _ => none }
def IntegrityDistancesWrongFalsely : Prop := integrityDistancesRow.holds Try.pinned (OpenSpec.ofChange integrityDistancesWrong)

/-- 'nacellelaw20.IntegrityFlow': WHATEVER THE INPUT: true; the input reads as it did. -/
def integrityFlowSpec : ChangeSpec := { name := "integrityFlow", fn := fun _ => fun
  | [d1, d2, d3] => { results := [.lit (.bool true)], args := [d1, d2, d3] }
  | _ => none }
def integrityFlowRow : OpenClaim := { program := "ytgljfjmffiofkaa", sum := "714d846f8b7d6fa5c38bb7a94740a5710ac609449de575f1bb179197098ac86e", func := "nacelle/nacellelaw20.IntegrityFlow", spec := "integrityFlow", unfollowed := true, recurses := true, apart := false }
def IntegrityFlowSaid : Prop := integrityFlowRow.holds Try.pinned (OpenSpec.ofChange integrityFlowSpec)

/-- ITS FALSE NEIGHBOUR: 'it returns false'. Refute it at one input. -/
def integrityFlowWrong : ChangeSpec := { name := "integrityFlow", fn := fun _ => fun
  | [d1, d2, d3] => { results := [.lit (.bool false)], args := [d1, d2, d3] }
  | _ => none }
def IntegrityFlowWrongFalsely : Prop := integrityFlowRow.holds Try.pinned (OpenSpec.ofChange integrityFlowWrong)

/-- 'nacellelaw20.IntegrityTwice': WHATEVER THE INPUT: true; the input reads as it did. -/
def integrityTwiceSpec : ChangeSpec := { name := "integrityTwice", fn := fun _ => fun
  | [d1, d2, d3] => { results := [.lit (.bool true)], args := [d1, d2, d3] }
  | _ => none }
def integrityTwiceRow : OpenClaim := { program := "ytgljfjmffiofkaa", sum := "714d846f8b7d6fa5c38bb7a94740a5710ac609449de575f1bb179197098ac86e", func := "nacelle/nacellelaw20.IntegrityTwice", spec := "integrityTwice", unfollowed := true, recurses := true, apart := false }
def IntegrityTwiceSaid : Prop := integrityTwiceRow.holds Try.pinned (OpenSpec.ofChange integrityTwiceSpec)

/-- ITS FALSE NEIGHBOUR: 'it returns false'. Refute it at one input. -/
def integrityTwiceWrong : ChangeSpec := { name := "integrityTwice", fn := fun _ => fun
  | [d1, d2, d3] => { results := [.lit (.bool false)], args := [d1, d2, d3] }
  | _ => none }
def IntegrityTwiceWrongFalsely : Prop := integrityTwiceRow.holds Try.pinned (OpenSpec.ofChange integrityTwiceWrong)

/-- 'nacellelaw20.IntegrityTells': WHATEVER THE INPUT: true; the input reads as it did. -/
def integrityTellsSpec : ChangeSpec := { name := "integrityTells", fn := fun _ => fun
  | [d] => { results := [.lit (.bool true)], args := [d] }
  | _ => none }
def integrityTellsRow : OpenClaim := { program := "ytgljfjmffiofkaa", sum := "714d846f8b7d6fa5c38bb7a94740a5710ac609449de575f1bb179197098ac86e", func := "nacelle/nacellelaw20.IntegrityTells", spec := "integrityTells", unfollowed := true, recurses := true, apart := false }
def IntegrityTellsSaid : Prop := integrityTellsRow.holds Try.pinned (OpenSpec.ofChange integrityTellsSpec)

/-- ITS FALSE NEIGHBOUR: 'it returns false'. Refute it at one input. -/
def integrityTellsWrong : ChangeSpec := { name := "integrityTells", fn := fun _ => fun
  | [d] => { results := [.lit (.bool false)], args := [d] }
  | _ => none }
def IntegrityTellsWrongFalsely : Prop := integrityTellsRow.holds Try.pinned (OpenSpec.ofChange integrityTellsWrong)

/-- 'nacellelaw20.IntegritySmall': WHATEVER THE INPUT: true; the input reads as it did. -/
def integritySmallSpec : ChangeSpec := { name := "integritySmall", fn := fun _ => fun
  | [] => { results := [.lit (.bool true)], args := [] }
  | _ => none }
def integritySmallRow : OpenClaim := { program := "ytgljfjmffiofkaa", sum := "714d846f8b7d6fa5c38bb7a94740a5710ac609449de575f1bb179197098ac86e", func := "nacelle/nacellelaw20.IntegritySmall", spec := "integritySmall", unfollowed := true, recurses := true, apart := false }
def IntegritySmallSaid : Prop := integritySmallRow.holds Try.pinned (OpenSpec.ofChange integritySmallSpec)

/-- ITS FALSE NEIGHBOUR: 'it returns false'. Refute it at one input. -/
def integritySmallWrong : ChangeSpec := { name := "integritySmall", fn := fun _ => fun
  | [] => { results := [.lit (.bool false)], args := [] }
  | _ => none }
def IntegritySmallWrongFalsely : Prop := integritySmallRow.holds Try.pinned (OpenSpec.ofChange integritySmallWrong)

/-- 'nacellelaw20.IntegrityCounts': WHATEVER THE INPUT: true; the input reads as it did. -/
def integrityCountsSpec : ChangeSpec := { name := "integrityCounts", fn := fun _ => fun
  | [d] => { results := [.lit (.bool true)], args := [d] }
  | _ => none }
def integrityCountsRow : OpenClaim := { program := "ytgljfjmffiofkaa", sum := "714d846f8b7d6fa5c38bb7a94740a5710ac609449de575f1bb179197098ac86e", func := "nacelle/nacellelaw20.IntegrityCounts", spec := "integrityCounts", unfollowed := true, recurses := true, apart := false }
def IntegrityCountsSaid : Prop := integrityCountsRow.holds Try.pinned (OpenSpec.ofChange integrityCountsSpec)

/-- ITS FALSE NEIGHBOUR: 'it returns false'. Refute it at one input. -/
def integrityCountsWrong : ChangeSpec := { name := "integrityCounts", fn := fun _ => fun
  | [d] => { results := [.lit (.bool false)], args := [d] }
  | _ => none }
def IntegrityCountsWrongFalsely : Prop := integrityCountsRow.holds Try.pinned (OpenSpec.ofChange integrityCountsWrong)

/-- 'nacellelaw20.IntegrityNone': WHATEVER THE INPUT: true; the input reads as it did. -/
def integrityNoneSpec : ChangeSpec := { name := "integrityNone", fn := fun _ => fun
  | [d] => { results := [.lit (.bool true)], args := [d] }
  | _ => none }
def integrityNoneRow : OpenClaim := { program := "ytgljfjmffiofkaa", sum := "714d846f8b7d6fa5c38bb7a94740a5710ac609449de575f1bb179197098ac86e", func := "nacelle/nacellelaw20.IntegrityNone", spec := "integrityNone", unfollowed := true, recurses := true, apart := false }
def IntegrityNoneSaid : Prop := integrityNoneRow.holds Try.pinned (OpenSpec.ofChange integrityNoneSpec)

/-- ITS FALSE NEIGHBOUR: 'it returns false'. Refute it at one input. -/
def integrityNoneWrong : ChangeSpec := { name := "integrityNone", fn := fun _ => fun
  | [d] => { results := [.lit (.bool false)], args := [d] }
  | _ => none }
def IntegrityNoneWrongFalsely : Prop := integrityNoneRow.holds Try.pinned (OpenSpec.ofChange integrityNoneWrong)

/- THE SECOND FORM. 'bulk': how many values and letters a reading holds, each counted each time it is reached (what is shared counts as often as it is met; a slice's spare places count too). A statement '..UptoSaid' is the law's where the arguments, and the package variables that the reading takes, are together of bulk at most 1048576: NARROWER than '..Said'. Prove '..Said' where nothing that the law and all that it calls make is longer than what came in: it says more and counts as full. Else prove '..UptoSaid'. A law counts once. -/
mutual
def uptoBulk {H : Type} : DataW H → Nat
  | .lit (.string bytes) => bytes.length + 1
  | .lit _ => 1
  | .nil => 1
  | .ptr d => uptoBulk d + 1
  | .slice elems spare => uptoBulkAll elems + uptoBulkAll spare + 1
  | .agg parts => uptoBulkAll parts + 1
  | .iface _ d => uptoBulk d + 1
  | .map entries => uptoBulkEntries entries + 1
  | .held _ => 1
def uptoBulkAll {H : Type} : List (DataW H) → Nat
  | [] => 0
  | d :: r => uptoBulk d + uptoBulkAll r
def uptoBulkEntries {H : Type} : List (Lit × DataW H) → Nat
  | [] => 0
  | x :: r => uptoBulkEntry x + uptoBulkEntries r
def uptoBulkEntry {H : Type} : Lit × DataW H → Nat
  | (.string bytes, d) => bytes.length + uptoBulk d + 1
  | (_, d) => uptoBulk d + 1
 end
def uptoSmall : (H : Type) → List (DataW H) → Bool := fun _ ds => decide (uptoBulkAll ds ≤ 1048576)
def OpenSpec.upto (s : _root_.Go.ChangeSpec) : _root_.Go.OpenSpec := { _root_.Go.OpenSpec.ofChange s with cond := some uptoSmall }

/-- 'nacellelaw20.IntegrityNumbers', WHERE WHAT IT READS IS OF BULK AT MOST 1048576: true; the input reads as it did. -/
def integrityNumbersUptoRow : OpenClaim := { program := "ytgljfjmffiofkaa", sum := "714d846f8b7d6fa5c38bb7a94740a5710ac609449de575f1bb179197098ac86e", func := "nacelle/nacellelaw20.IntegrityNumbers", spec := "integrityNumbers", unfollowed := true, recurses := true, apart := false, narrowed := true }
def IntegrityNumbersUptoSaid : Prop := integrityNumbersUptoRow.holds Try.pinned (OpenSpec.upto integrityNumbersSpec)

/-- 'nacellelaw20.IntegrityGap', WHERE WHAT IT READS IS OF BULK AT MOST 1048576: true; the input reads as it did. -/
def integrityGapUptoRow : OpenClaim := { program := "ytgljfjmffiofkaa", sum := "714d846f8b7d6fa5c38bb7a94740a5710ac609449de575f1bb179197098ac86e", func := "nacelle/nacellelaw20.IntegrityGap", spec := "integrityGap", unfollowed := true, recurses := true, apart := false, narrowed := true }
def IntegrityGapUptoSaid : Prop := integrityGapUptoRow.holds Try.pinned (OpenSpec.upto integrityGapSpec)

/-- 'nacellelaw20.IntegrityDistances', WHERE WHAT IT READS IS OF BULK AT MOST 1048576: true; the input reads as it did. -/
def integrityDistancesUptoRow : OpenClaim := { program := "ytgljfjmffiofkaa", sum := "714d846f8b7d6fa5c38bb7a94740a5710ac609449de575f1bb179197098ac86e", func := "nacelle/nacellelaw20.IntegrityDistances", spec := "integrityDistances", unfollowed := true, recurses := true, apart := false, narrowed := true }
def IntegrityDistancesUptoSaid : Prop := integrityDistancesUptoRow.holds Try.pinned (OpenSpec.upto integrityDistancesSpec)

/-- 'nacellelaw20.IntegrityFlow', WHERE WHAT IT READS IS OF BULK AT MOST 1048576: true; the input reads as it did. -/
def integrityFlowUptoRow : OpenClaim := { program := "ytgljfjmffiofkaa", sum := "714d846f8b7d6fa5c38bb7a94740a5710ac609449de575f1bb179197098ac86e", func := "nacelle/nacellelaw20.IntegrityFlow", spec := "integrityFlow", unfollowed := true, recurses := true, apart := false, narrowed := true }
def IntegrityFlowUptoSaid : Prop := integrityFlowUptoRow.holds Try.pinned (OpenSpec.upto integrityFlowSpec)

/-- 'nacellelaw20.IntegrityTwice', WHERE WHAT IT READS IS OF BULK AT MOST 1048576: true; the input reads as it did. -/
def integrityTwiceUptoRow : OpenClaim := { program := "ytgljfjmffiofkaa", sum := "714d846f8b7d6fa5c38bb7a94740a5710ac609449de575f1bb179197098ac86e", func := "nacelle/nacellelaw20.IntegrityTwice", spec := "integrityTwice", unfollowed := true, recurses := true, apart := false, narrowed := true }
def IntegrityTwiceUptoSaid : Prop := integrityTwiceUptoRow.holds Try.pinned (OpenSpec.upto integrityTwiceSpec)

/-- 'nacellelaw20.IntegrityTells', WHERE WHAT IT READS IS OF BULK AT MOST 1048576: true; the input reads as it did. -/
def integrityTellsUptoRow : OpenClaim := { program := "ytgljfjmffiofkaa", sum := "714d846f8b7d6fa5c38bb7a94740a5710ac609449de575f1bb179197098ac86e", func := "nacelle/nacellelaw20.IntegrityTells", spec := "integrityTells", unfollowed := true, recurses := true, apart := false, narrowed := true }
def IntegrityTellsUptoSaid : Prop := integrityTellsUptoRow.holds Try.pinned (OpenSpec.upto integrityTellsSpec)

/-- 'nacellelaw20.IntegritySmall', WHERE WHAT IT READS IS OF BULK AT MOST 1048576: true; the input reads as it did. -/
def integritySmallUptoRow : OpenClaim := { program := "ytgljfjmffiofkaa", sum := "714d846f8b7d6fa5c38bb7a94740a5710ac609449de575f1bb179197098ac86e", func := "nacelle/nacellelaw20.IntegritySmall", spec := "integritySmall", unfollowed := true, recurses := true, apart := false, narrowed := true }
def IntegritySmallUptoSaid : Prop := integritySmallUptoRow.holds Try.pinned (OpenSpec.upto integritySmallSpec)

/-- 'nacellelaw20.IntegrityCounts', WHERE WHAT IT READS IS OF BULK AT MOST 1048576: true; the input reads as it did. -/
def integrityCountsUptoRow : OpenClaim := { program := "ytgljfjmffiofkaa", sum := "714d846f8b7d6fa5c38bb7a94740a5710ac609449de575f1bb179197098ac86e", func := "nacelle/nacellelaw20.IntegrityCounts", spec := "integrityCounts", unfollowed := true, recurses := true, apart := false, narrowed := true }
def IntegrityCountsUptoSaid : Prop := integrityCountsUptoRow.holds Try.pinned (OpenSpec.upto integrityCountsSpec)

/-- 'nacellelaw20.IntegrityNone', WHERE WHAT IT READS IS OF BULK AT MOST 1048576: true; the input reads as it did. -/
def integrityNoneUptoRow : OpenClaim := { program := "ytgljfjmffiofkaa", sum := "714d846f8b7d6fa5c38bb7a94740a5710ac609449de575f1bb179197098ac86e", func := "nacelle/nacellelaw20.IntegrityNone", spec := "integrityNone", unfollowed := true, recurses := true, apart := false, narrowed := true }
def IntegrityNoneUptoSaid : Prop := integrityNoneUptoRow.holds Try.pinned (OpenSpec.upto integrityNoneSpec)

end Rows
end Go.Proofs.Ytgljfjmffiofkaa
