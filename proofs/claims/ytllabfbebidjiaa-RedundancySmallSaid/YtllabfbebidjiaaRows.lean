/-
  No cell of these rows narrows 'for every input' (looked for: loops, veiled, ifaces, maps, wideKeys, modest, calm, conditions, laid).
  DERIVED. THE GIVEN ROWS OF THIS SEAT. 9 by the template 'for every input the law returns true; each argument reads behind the call as it read before'; 0 by the template 'total and deterministic' (their statements: YtllabfbebidjiaaTotals.lean).
  GIVEN WITH THE SEED: the statements are not yours to turn. If you find one false, say at which input.
  Laid BY PROGRAM, IN A SANDBOX (cutbox-rows.mjs): the forced cells as the released guide's own fill.sh prints them over the translation b458df31e774b546… (all of the seat's roots in one cut). By AI agents, Wed Nov 11 2026. No macro, syntax, notation, axiom, sorry.
-/
import Derived.Test.YtllabfbebidjiaaChecked
import GoSem.Claim
import GoSem.ClaimJoined
import GoSem.ClaimMapViews
import Derived.JoinedTies
import Derived.KernelRfl
namespace Go.Proofs.Ytllabfbebidjiaa
/- THE CELL 'sum', in the pinned program and in every row, IS THE sha256 OF THE DUMP (.gsa) THAT YtllabfbebidjiaaProg.lean LOADS. Nothing in Lean hashes anything: it is a label: what it is worth is what the hold of that sum in a sandbox is worth. -/
noncomputable def Try.pinned : Pinned := { name := "ytllabfbebidjiaa", sum := "b458df31e774b546244db4372e0bf081c867b09e5392c6dadb0bc8dcced9a334", checked := Try.checked }
namespace Rows
def none {H : Type} : Left H := { results := [], args := [] }

/-- 'nacellelaw21.RedundancyMerges': WHATEVER THE INPUT: true; the input reads as it did. -/
def redundancyMergesSpec : ChangeSpec := { name := "redundancyMerges", fn := fun _ => fun
  | [d1, d2] => { results := [.lit (.bool true)], args := [d1, d2] }
  | _ => none }
def redundancyMergesRow : OpenClaim := { program := "ytllabfbebidjiaa", sum := "b458df31e774b546244db4372e0bf081c867b09e5392c6dadb0bc8dcced9a334", func := "nacelle/nacellelaw21.RedundancyMerges", spec := "redundancyMerges", unfollowed := true, recurses := true, apart := false }
def RedundancyMergesSaid : Prop := redundancyMergesRow.holds Try.pinned (OpenSpec.ofChange redundancyMergesSpec)

/-- ITS FALSE NEIGHBOUR: 'it returns false'. Refute it at one input. -/
def redundancyMergesWrong : ChangeSpec := { name := "redundancyMerges", fn := fun _ => fun
  | [d1, d2] => { results := [.lit (.bool false)], args := [d1, d2] }
  | _ => none }
def RedundancyMergesWrongFalsely : Prop := redundancyMergesRow.holds Try.pinned (OpenSpec.ofChange redundancyMergesWrong)

/-- 'nacellelaw21.RedundancyOnce': WHATEVER THE INPUT: true; the input reads as it did. -/
def redundancyOnceSpec : ChangeSpec := { name := "redundancyOnce", fn := fun _ => fun
  | [d1, d2, d3] => { results := [.lit (.bool true)], args := [d1, d2, d3] }
  | _ => none }
def redundancyOnceRow : OpenClaim := { program := "ytllabfbebidjiaa", sum := "b458df31e774b546244db4372e0bf081c867b09e5392c6dadb0bc8dcced9a334", func := "nacelle/nacellelaw21.RedundancyOnce", spec := "redundancyOnce", unfollowed := true, recurses := true, apart := false }
def RedundancyOnceSaid : Prop := redundancyOnceRow.holds Try.pinned (OpenSpec.ofChange redundancyOnceSpec)

/-- ITS FALSE NEIGHBOUR: 'it returns false'. Refute it at one input. -/
def redundancyOnceWrong : ChangeSpec := { name := "redundancyOnce", fn := fun _ => fun
  | [d1, d2, d3] => { results := [.lit (.bool false)], args := [d1, d2, d3] }
  | _ => none }
def RedundancyOnceWrongFalsely : Prop := redundancyOnceRow.holds Try.pinned (OpenSpec.ofChange redundancyOnceWrong)

/-- 'nacellelaw21.RedundancyApart': WHATEVER THE INPUT: true; the input reads as it did. -/
def redundancyApartSpec : ChangeSpec := { name := "redundancyApart", fn := fun _ => fun
  | [d1, d2] => { results := [.lit (.bool true)], args := [d1, d2] }
  | _ => none }
def redundancyApartRow : OpenClaim := { program := "ytllabfbebidjiaa", sum := "b458df31e774b546244db4372e0bf081c867b09e5392c6dadb0bc8dcced9a334", func := "nacelle/nacellelaw21.RedundancyApart", spec := "redundancyApart", unfollowed := true, recurses := true, apart := false }
def RedundancyApartSaid : Prop := redundancyApartRow.holds Try.pinned (OpenSpec.ofChange redundancyApartSpec)

/-- ITS FALSE NEIGHBOUR: 'it returns false'. Refute it at one input. -/
def redundancyApartWrong : ChangeSpec := { name := "redundancyApart", fn := fun _ => fun
  | [d1, d2] => { results := [.lit (.bool false)], args := [d1, d2] }
  | _ => none }
def RedundancyApartWrongFalsely : Prop := redundancyApartRow.holds Try.pinned (OpenSpec.ofChange redundancyApartWrong)

/-- 'nacellelaw21.RedundancyShift': WHATEVER THE INPUT: true; the input reads as it did. -/
def redundancyShiftSpec : ChangeSpec := { name := "redundancyShift", fn := fun _ => fun
  | [d1, d2, d3, d4, d5] => { results := [.lit (.bool true)], args := [d1, d2, d3, d4, d5] }
  | _ => none }
def redundancyShiftRow : OpenClaim := { program := "ytllabfbebidjiaa", sum := "b458df31e774b546244db4372e0bf081c867b09e5392c6dadb0bc8dcced9a334", func := "nacelle/nacellelaw21.RedundancyShift", spec := "redundancyShift", unfollowed := true, recurses := true, apart := false }
def RedundancyShiftSaid : Prop := redundancyShiftRow.holds Try.pinned (OpenSpec.ofChange redundancyShiftSpec)

/-- ITS FALSE NEIGHBOUR: 'it returns false'. Refute it at one input. -/
def redundancyShiftWrong : ChangeSpec := { name := "redundancyShift", fn := fun _ => fun
  | [d1, d2, d3, d4, d5] => { results := [.lit (.bool false)], args := [d1, d2, d3, d4, d5] }
  | _ => none }
def RedundancyShiftWrongFalsely : Prop := redundancyShiftRow.holds Try.pinned (OpenSpec.ofChange redundancyShiftWrong)

/-- 'nacellelaw21.RedundancyNets': WHATEVER THE INPUT: true; the input reads as it did. -/
def redundancyNetsSpec : ChangeSpec := { name := "redundancyNets", fn := fun _ => fun
  | [d1, d2] => { results := [.lit (.bool true)], args := [d1, d2] }
  | _ => none }
def redundancyNetsRow : OpenClaim := { program := "ytllabfbebidjiaa", sum := "b458df31e774b546244db4372e0bf081c867b09e5392c6dadb0bc8dcced9a334", func := "nacelle/nacellelaw21.RedundancyNets", spec := "redundancyNets", unfollowed := true, recurses := true, apart := false }
def RedundancyNetsSaid : Prop := redundancyNetsRow.holds Try.pinned (OpenSpec.ofChange redundancyNetsSpec)

/-- ITS FALSE NEIGHBOUR: 'it returns false'. Refute it at one input. -/
def redundancyNetsWrong : ChangeSpec := { name := "redundancyNets", fn := fun _ => fun
  | [d1, d2] => { results := [.lit (.bool false)], args := [d1, d2] }
  | _ => none }
def RedundancyNetsWrongFalsely : Prop := redundancyNetsRow.holds Try.pinned (OpenSpec.ofChange redundancyNetsWrong)

/-- 'nacellelaw21.RedundancyRecent': WHATEVER THE INPUT: true; the input reads as it did. -/
def redundancyRecentSpec : ChangeSpec := { name := "redundancyRecent", fn := fun _ => fun
  | [d1, d2, d3] => { results := [.lit (.bool true)], args := [d1, d2, d3] }
  | _ => none }
def redundancyRecentRow : OpenClaim := { program := "ytllabfbebidjiaa", sum := "b458df31e774b546244db4372e0bf081c867b09e5392c6dadb0bc8dcced9a334", func := "nacelle/nacellelaw21.RedundancyRecent", spec := "redundancyRecent", unfollowed := true, recurses := true, apart := false }
def RedundancyRecentSaid : Prop := redundancyRecentRow.holds Try.pinned (OpenSpec.ofChange redundancyRecentSpec)

/-- ITS FALSE NEIGHBOUR: 'it returns false'. Refute it at one input. -/
def redundancyRecentWrong : ChangeSpec := { name := "redundancyRecent", fn := fun _ => fun
  | [d1, d2, d3] => { results := [.lit (.bool false)], args := [d1, d2, d3] }
  | _ => none }
def RedundancyRecentWrongFalsely : Prop := redundancyRecentRow.holds Try.pinned (OpenSpec.ofChange redundancyRecentWrong)

/-- 'nacellelaw21.RedundancyTells': WHATEVER THE INPUT: true; the input reads as it did. -/
def redundancyTellsSpec : ChangeSpec := { name := "redundancyTells", fn := fun _ => fun
  | [d1, d2] => { results := [.lit (.bool true)], args := [d1, d2] }
  | _ => none }
def redundancyTellsRow : OpenClaim := { program := "ytllabfbebidjiaa", sum := "b458df31e774b546244db4372e0bf081c867b09e5392c6dadb0bc8dcced9a334", func := "nacelle/nacellelaw21.RedundancyTells", spec := "redundancyTells", unfollowed := true, recurses := true, apart := false }
def RedundancyTellsSaid : Prop := redundancyTellsRow.holds Try.pinned (OpenSpec.ofChange redundancyTellsSpec)

/-- ITS FALSE NEIGHBOUR: 'it returns false'. Refute it at one input. -/
def redundancyTellsWrong : ChangeSpec := { name := "redundancyTells", fn := fun _ => fun
  | [d1, d2] => { results := [.lit (.bool false)], args := [d1, d2] }
  | _ => none }
def RedundancyTellsWrongFalsely : Prop := redundancyTellsRow.holds Try.pinned (OpenSpec.ofChange redundancyTellsWrong)

/-- 'nacellelaw21.RedundancySmall': WHATEVER THE INPUT: true; the input reads as it did. -/
def redundancySmallSpec : ChangeSpec := { name := "redundancySmall", fn := fun _ => fun
  | [] => { results := [.lit (.bool true)], args := [] }
  | _ => none }
def redundancySmallRow : OpenClaim := { program := "ytllabfbebidjiaa", sum := "b458df31e774b546244db4372e0bf081c867b09e5392c6dadb0bc8dcced9a334", func := "nacelle/nacellelaw21.RedundancySmall", spec := "redundancySmall", unfollowed := true, recurses := true, apart := false }
def RedundancySmallSaid : Prop := redundancySmallRow.holds Try.pinned (OpenSpec.ofChange redundancySmallSpec)

/-- ITS FALSE NEIGHBOUR: 'it returns false'. Refute it at one input. -/
def redundancySmallWrong : ChangeSpec := { name := "redundancySmall", fn := fun _ => fun
  | [] => { results := [.lit (.bool false)], args := [] }
  | _ => none }
def RedundancySmallWrongFalsely : Prop := redundancySmallRow.holds Try.pinned (OpenSpec.ofChange redundancySmallWrong)

/-- 'nacellelaw21.RedundancyNone': WHATEVER THE INPUT: true; the input reads as it did. -/
def redundancyNoneSpec : ChangeSpec := { name := "redundancyNone", fn := fun _ => fun
  | [d1, d2] => { results := [.lit (.bool true)], args := [d1, d2] }
  | _ => none }
def redundancyNoneRow : OpenClaim := { program := "ytllabfbebidjiaa", sum := "b458df31e774b546244db4372e0bf081c867b09e5392c6dadb0bc8dcced9a334", func := "nacelle/nacellelaw21.RedundancyNone", spec := "redundancyNone", unfollowed := true, recurses := true, apart := false }
def RedundancyNoneSaid : Prop := redundancyNoneRow.holds Try.pinned (OpenSpec.ofChange redundancyNoneSpec)

/-- ITS FALSE NEIGHBOUR: 'it returns false'. Refute it at one input. -/
def redundancyNoneWrong : ChangeSpec := { name := "redundancyNone", fn := fun _ => fun
  | [d1, d2] => { results := [.lit (.bool false)], args := [d1, d2] }
  | _ => none }
def RedundancyNoneWrongFalsely : Prop := redundancyNoneRow.holds Try.pinned (OpenSpec.ofChange redundancyNoneWrong)

/- THE SECOND FORM. 'bulk': how many values and letters a reading holds, each counted each time it is reached (what is shared counts as often as it is met; a slice's spare places count too). A statement '..UptoSaid' is the law's where the arguments, and the package variables that the reading takes, are together of bulk at most 1048576: NARROWER than '..Said'. Prove '..Said' where nothing that the law and all that it calls make is longer than what came in: it says more and counts as full. Else prove '..UptoSaid'. A law counts once. -/
mutual
def uptoBulk {H : Type} : DataW H → Nat
  | .lit (.string bytes) => bytes.length + 1
  | .lit _ => 1
  | .nil => 1
  | .ptr d => uptoBulk d + 1
  | .slice elems spare => uptoBulkAll elems + uptoBulkAll spare + 1
  | .agg parts => uptoBulkAll parts + 1
  | .iface _ d => uptoBulk d + 1
  | .map entries => uptoBulkEntries entries + 1
  | .held _ => 1
def uptoBulkAll {H : Type} : List (DataW H) → Nat
  | [] => 0
  | d :: r => uptoBulk d + uptoBulkAll r
def uptoBulkEntries {H : Type} : List (Lit × DataW H) → Nat
  | [] => 0
  | x :: r => uptoBulkEntry x + uptoBulkEntries r
def uptoBulkEntry {H : Type} : Lit × DataW H → Nat
  | (.string bytes, d) => bytes.length + uptoBulk d + 1
  | (_, d) => uptoBulk d + 1
 end
def uptoSmall : (H : Type) → List (DataW H) → Bool := fun _ ds => decide (uptoBulkAll ds ≤ 1048576)
def OpenSpec.upto (s : _root_.Go.ChangeSpec) : _root_.Go.OpenSpec := { _root_.Go.OpenSpec.ofChange s with cond := some uptoSmall }

/-- 'nacellelaw21.RedundancyMerges', WHERE WHAT IT READS IS OF BULK AT MOST 1048576: true; the input reads as it did. -/
def redundancyMergesUptoRow : OpenClaim := { program := "ytllabfbebidjiaa", sum := "b458df31e774b546244db4372e0bf081c867b09e5392c6dadb0bc8dcced9a334", func := "nacelle/nacellelaw21.RedundancyMerges", spec := "redundancyMerges", unfollowed := true, recurses := true, apart := false, narrowed := true }
def RedundancyMergesUptoSaid : Prop := redundancyMergesUptoRow.holds Try.pinned (OpenSpec.upto redundancyMergesSpec)

/-- 'nacellelaw21.RedundancyOnce', WHERE WHAT IT READS IS OF BULK AT MOST 1048576: true; the input reads as it did. -/
def redundancyOnceUptoRow : OpenClaim := { program := "ytllabfbebidjiaa", sum := "b458df31e774b546244db4372e0bf081c867b09e5392c6dadb0bc8dcced9a334", func := "nacelle/nacellelaw21.RedundancyOnce", spec := "redundancyOnce", unfollowed := true, recurses := true, apart := false, narrowed := true }
def RedundancyOnceUptoSaid : Prop := redundancyOnceUptoRow.holds Try.pinned (OpenSpec.upto redundancyOnceSpec)

/-- 'nacellelaw21.RedundancyApart', WHERE WHAT IT READS IS OF BULK AT MOST 1048576: true; the input reads as it did. -/
def redundancyApartUptoRow : OpenClaim := { program := "ytllabfbebidjiaa", sum := "b458df31e774b546244db4372e0bf081c867b09e5392c6dadb0bc8dcced9a334", func := "nacelle/nacellelaw21.RedundancyApart", spec := "redundancyApart", unfollowed := true, recurses := true, apart := false, narrowed := true }
def RedundancyApartUptoSaid : Prop := redundancyApartUptoRow.holds Try.pinned (OpenSpec.upto redundancyApartSpec)

/-- 'nacellelaw21.RedundancyShift', WHERE WHAT IT READS IS OF BULK AT MOST 1048576: true; the input reads as it did. -/
def redundancyShiftUptoRow : OpenClaim := { program := "ytllabfbebidjiaa", sum := "b458df31e774b546244db4372e0bf081c867b09e5392c6dadb0bc8dcced9a334", func := "nacelle/nacellelaw21.RedundancyShift", spec := "redundancyShift", unfollowed := true, recurses := true, apart := false, narrowed := true }
def RedundancyShiftUptoSaid : Prop := redundancyShiftUptoRow.holds Try.pinned (OpenSpec.upto redundancyShiftSpec)

/-- 'nacellelaw21.RedundancyNets', WHERE WHAT IT READS IS OF BULK AT MOST 1048576: true; the input reads as it did. -/
def redundancyNetsUptoRow : OpenClaim := { program := "ytllabfbebidjiaa", sum := "b458df31e774b546244db4372e0bf081c867b09e5392c6dadb0bc8dcced9a334", func := "nacelle/nacellelaw21.RedundancyNets", spec := "redundancyNets", unfollowed := true, recurses := true, apart := false, narrowed := true }
def RedundancyNetsUptoSaid : Prop := redundancyNetsUptoRow.holds Try.pinned (OpenSpec.upto redundancyNetsSpec)

/-- 'nacellelaw21.RedundancyRecent', WHERE WHAT IT READS IS OF BULK AT MOST 1048576: true; the input reads as it did. -/
def redundancyRecentUptoRow : OpenClaim := { program := "ytllabfbebidjiaa", sum := "b458df31e774b546244db4372e0bf081c867b09e5392c6dadb0bc8dcced9a334", func := "nacelle/nacellelaw21.RedundancyRecent", spec := "redundancyRecent", unfollowed := true, recurses := true, apart := false, narrowed := true }
def RedundancyRecentUptoSaid : Prop := redundancyRecentUptoRow.holds Try.pinned (OpenSpec.upto redundancyRecentSpec)

/-- 'nacellelaw21.RedundancyTells', WHERE WHAT IT READS IS OF BULK AT MOST 1048576: true; the input reads as it did. -/
def redundancyTellsUptoRow : OpenClaim := { program := "ytllabfbebidjiaa", sum := "b458df31e774b546244db4372e0bf081c867b09e5392c6dadb0bc8dcced9a334", func := "nacelle/nacellelaw21.RedundancyTells", spec := "redundancyTells", unfollowed := true, recurses := true, apart := false, narrowed := true }
def RedundancyTellsUptoSaid : Prop := redundancyTellsUptoRow.holds Try.pinned (OpenSpec.upto redundancyTellsSpec)

/-- 'nacellelaw21.RedundancySmall', WHERE WHAT IT READS IS OF BULK AT MOST 1048576: true; the input reads as it did. -/
def redundancySmallUptoRow : OpenClaim := { program := "ytllabfbebidjiaa", sum := "b458df31e774b546244db4372e0bf081c867b09e5392c6dadb0bc8dcced9a334", func := "nacelle/nacellelaw21.RedundancySmall", spec := "redundancySmall", unfollowed := true, recurses := true, apart := false, narrowed := true }
def RedundancySmallUptoSaid : Prop := redundancySmallUptoRow.holds Try.pinned (OpenSpec.upto redundancySmallSpec)

/-- 'nacellelaw21.RedundancyNone', WHERE WHAT IT READS IS OF BULK AT MOST 1048576: true; the input reads as it did. -/
def redundancyNoneUptoRow : OpenClaim := { program := "ytllabfbebidjiaa", sum := "b458df31e774b546244db4372e0bf081c867b09e5392c6dadb0bc8dcced9a334", func := "nacelle/nacellelaw21.RedundancyNone", spec := "redundancyNone", unfollowed := true, recurses := true, apart := false, narrowed := true }
def RedundancyNoneUptoSaid : Prop := redundancyNoneUptoRow.holds Try.pinned (OpenSpec.upto redundancyNoneSpec)

end Rows
end Go.Proofs.Ytllabfbebidjiaa
