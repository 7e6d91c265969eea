/-
  No cell of these rows narrows 'for every input' (looked for: loops, veiled, ifaces, maps, wideKeys, modest, calm, conditions, laid).
  DERIVED. THE GIVEN ROWS OF THIS SEAT. 7 by the template 'for every input the law returns true; each argument reads behind the call as it read before'; 0 by the template 'total and deterministic' (their statements: YtcjbjhkmnfegnaaTotals.lean).
  GIVEN WITH THE SEED: the statements are not yours to turn. If you find one false, say at which input.
  Laid BY PROGRAM, IN A SANDBOX (cutbox-rows.mjs): the forced cells as the released guide's own fill.sh prints them over the translation 45232b6cd3ba39b6… (all of the seat's roots in one cut). By AI agents, Wed Nov 11 2026. No macro, syntax, notation, axiom, sorry.
-/
import Derived.Test.YtcjbjhkmnfegnaaChecked
import GoSem.Claim
import GoSem.ClaimJoined
import GoSem.ClaimMapViews
import Derived.JoinedTies
import Derived.KernelRfl
namespace Go.Proofs.Ytcjbjhkmnfegnaa
/- THE CELL 'sum', in the pinned program and in every row, IS THE sha256 OF THE DUMP (.gsa) THAT YtcjbjhkmnfegnaaProg.lean LOADS. Nothing in Lean hashes anything: it is a label: what it is worth is what the hold of that sum in a sandbox is worth. -/
noncomputable def Try.pinned : Pinned := { name := "ytcjbjhkmnfegnaa", sum := "45232b6cd3ba39b60713e08b4b00d65bf62b65673073089e03d31e918f1f3cb4", checked := Try.checked }
namespace Rows
def none {H : Type} : Left H := { results := [], args := [] }

/-- 'nacellelaw39.CompatComplete': WHATEVER THE INPUT: true; the input reads as it did. -/
def compatCompleteSpec : ChangeSpec := { name := "compatComplete", fn := fun _ => fun
  | [d1, d2, d3] => { results := [.lit (.bool true)], args := [d1, d2, d3] }
  | _ => none }
def compatCompleteRow : OpenClaim := { program := "ytcjbjhkmnfegnaa", sum := "45232b6cd3ba39b60713e08b4b00d65bf62b65673073089e03d31e918f1f3cb4", func := "nacelle/nacellelaw39.CompatComplete", spec := "compatComplete", unfollowed := true, recurses := true, apart := false }
def CompatCompleteSaid : Prop := compatCompleteRow.holds Try.pinned (OpenSpec.ofChange compatCompleteSpec)

/-- ITS FALSE NEIGHBOUR: 'it returns false'. Refute it at one input. -/
def compatCompleteWrong : ChangeSpec := { name := "compatComplete", fn := fun _ => fun
  | [d1, d2, d3] => { results := [.lit (.bool false)], args := [d1, d2, d3] }
  | _ => none }
def CompatCompleteWrongFalsely : Prop := compatCompleteRow.holds Try.pinned (OpenSpec.ofChange compatCompleteWrong)

/-- 'nacellelaw39.CompatBack': WHATEVER THE INPUT: true; the input reads as it did. -/
def compatBackSpec : ChangeSpec := { name := "compatBack", fn := fun _ => fun
  | [d1, d2, d3] => { results := [.lit (.bool true)], args := [d1, d2, d3] }
  | _ => none }
def compatBackRow : OpenClaim := { program := "ytcjbjhkmnfegnaa", sum := "45232b6cd3ba39b60713e08b4b00d65bf62b65673073089e03d31e918f1f3cb4", func := "nacelle/nacellelaw39.CompatBack", spec := "compatBack", unfollowed := true, recurses := true, apart := false }
def CompatBackSaid : Prop := compatBackRow.holds Try.pinned (OpenSpec.ofChange compatBackSpec)

/-- ITS FALSE NEIGHBOUR: 'it returns false'. Refute it at one input. -/
def compatBackWrong : ChangeSpec := { name := "compatBack", fn := fun _ => fun
  | [d1, d2, d3] => { results := [.lit (.bool false)], args := [d1, d2, d3] }
  | _ => none }
def CompatBackWrongFalsely : Prop := compatBackRow.holds Try.pinned (OpenSpec.ofChange compatBackWrong)

/-- 'nacellelaw39.CompatMore': WHATEVER THE INPUT: true; the input reads as it did. -/
def compatMoreSpec : ChangeSpec := { name := "compatMore", fn := fun _ => fun
  | [d1, d2, d3, d4] => { results := [.lit (.bool true)], args := [d1, d2, d3, d4] }
  | _ => none }
def compatMoreRow : OpenClaim := { program := "ytcjbjhkmnfegnaa", sum := "45232b6cd3ba39b60713e08b4b00d65bf62b65673073089e03d31e918f1f3cb4", func := "nacelle/nacellelaw39.CompatMore", spec := "compatMore", unfollowed := true, recurses := true, apart := false }
def CompatMoreSaid : Prop := compatMoreRow.holds Try.pinned (OpenSpec.ofChange compatMoreSpec)

/-- ITS FALSE NEIGHBOUR: 'it returns false'. Refute it at one input. -/
def compatMoreWrong : ChangeSpec := { name := "compatMore", fn := fun _ => fun
  | [d1, d2, d3, d4] => { results := [.lit (.bool false)], args := [d1, d2, d3, d4] }
  | _ => none }
def CompatMoreWrongFalsely : Prop := compatMoreRow.holds Try.pinned (OpenSpec.ofChange compatMoreWrong)

/-- 'nacellelaw39.CompatPairs': WHATEVER THE INPUT: true; the input reads as it did. -/
def compatPairsSpec : ChangeSpec := { name := "compatPairs", fn := fun _ => fun
  | [d1, d2, d3] => { results := [.lit (.bool true)], args := [d1, d2, d3] }
  | _ => none }
def compatPairsRow : OpenClaim := { program := "ytcjbjhkmnfegnaa", sum := "45232b6cd3ba39b60713e08b4b00d65bf62b65673073089e03d31e918f1f3cb4", func := "nacelle/nacellelaw39.CompatPairs", spec := "compatPairs", unfollowed := true, recurses := true, apart := false }
def CompatPairsSaid : Prop := compatPairsRow.holds Try.pinned (OpenSpec.ofChange compatPairsSpec)

/-- ITS FALSE NEIGHBOUR: 'it returns false'. Refute it at one input. -/
def compatPairsWrong : ChangeSpec := { name := "compatPairs", fn := fun _ => fun
  | [d1, d2, d3] => { results := [.lit (.bool false)], args := [d1, d2, d3] }
  | _ => none }
def CompatPairsWrongFalsely : Prop := compatPairsRow.holds Try.pinned (OpenSpec.ofChange compatPairsWrong)

/-- 'nacellelaw39.CompatWrong': WHATEVER THE INPUT: true; the input reads as it did. -/
def compatWrongSpec : ChangeSpec := { name := "compatWrong", fn := fun _ => fun
  | [d1, d2, d3, d4] => { results := [.lit (.bool true)], args := [d1, d2, d3, d4] }
  | _ => none }
def compatWrongRow : OpenClaim := { program := "ytcjbjhkmnfegnaa", sum := "45232b6cd3ba39b60713e08b4b00d65bf62b65673073089e03d31e918f1f3cb4", func := "nacelle/nacellelaw39.CompatWrong", spec := "compatWrong", unfollowed := true, recurses := true, apart := false }
def CompatWrongSaid : Prop := compatWrongRow.holds Try.pinned (OpenSpec.ofChange compatWrongSpec)

/-- ITS FALSE NEIGHBOUR: 'it returns false'. Refute it at one input. -/
def compatWrongWrong : ChangeSpec := { name := "compatWrong", fn := fun _ => fun
  | [d1, d2, d3, d4] => { results := [.lit (.bool false)], args := [d1, d2, d3, d4] }
  | _ => none }
def CompatWrongWrongFalsely : Prop := compatWrongRow.holds Try.pinned (OpenSpec.ofChange compatWrongWrong)

/-- 'nacellelaw39.CompatTells': WHATEVER THE INPUT: true; the input reads as it did. -/
def compatTellsSpec : ChangeSpec := { name := "compatTells", fn := fun _ => fun
  | [d1, d2, d3, d4, d5, d6] => { results := [.lit (.bool true)], args := [d1, d2, d3, d4, d5, d6] }
  | _ => none }
def compatTellsRow : OpenClaim := { program := "ytcjbjhkmnfegnaa", sum := "45232b6cd3ba39b60713e08b4b00d65bf62b65673073089e03d31e918f1f3cb4", func := "nacelle/nacellelaw39.CompatTells", spec := "compatTells", unfollowed := true, recurses := true, apart := false }
def CompatTellsSaid : Prop := compatTellsRow.holds Try.pinned (OpenSpec.ofChange compatTellsSpec)

/-- ITS FALSE NEIGHBOUR: 'it returns false'. Refute it at one input. -/
def compatTellsWrong : ChangeSpec := { name := "compatTells", fn := fun _ => fun
  | [d1, d2, d3, d4, d5, d6] => { results := [.lit (.bool false)], args := [d1, d2, d3, d4, d5, d6] }
  | _ => none }
def CompatTellsWrongFalsely : Prop := compatTellsRow.holds Try.pinned (OpenSpec.ofChange compatTellsWrong)

/-- 'nacellelaw39.CompatSafe': WHATEVER THE INPUT: true; the input reads as it did. -/
def compatSafeSpec : ChangeSpec := { name := "compatSafe", fn := fun _ => fun
  | [d1, d2, d3] => { results := [.lit (.bool true)], args := [d1, d2, d3] }
  | _ => none }
def compatSafeRow : OpenClaim := { program := "ytcjbjhkmnfegnaa", sum := "45232b6cd3ba39b60713e08b4b00d65bf62b65673073089e03d31e918f1f3cb4", func := "nacelle/nacellelaw39.CompatSafe", spec := "compatSafe", unfollowed := true, recurses := true, apart := false }
def CompatSafeSaid : Prop := compatSafeRow.holds Try.pinned (OpenSpec.ofChange compatSafeSpec)

/-- ITS FALSE NEIGHBOUR: 'it returns false'. Refute it at one input. -/
def compatSafeWrong : ChangeSpec := { name := "compatSafe", fn := fun _ => fun
  | [d1, d2, d3] => { results := [.lit (.bool false)], args := [d1, d2, d3] }
  | _ => none }
def CompatSafeWrongFalsely : Prop := compatSafeRow.holds Try.pinned (OpenSpec.ofChange compatSafeWrong)

/- THE SECOND FORM. 'bulk': how many values and letters a reading holds, each counted each time it is reached (what is shared counts as often as it is met; a slice's spare places count too). A statement '..UptoSaid' is the law's where the arguments, and the package variables that the reading takes, are together of bulk at most 1048576: NARROWER than '..Said'. Prove '..Said' where nothing that the law and all that it calls make is longer than what came in: it says more and counts as full. Else prove '..UptoSaid'. A law counts once. -/
mutual
def uptoBulk {H : Type} : DataW H → Nat
  | .lit (.string bytes) => bytes.length + 1
  | .lit _ => 1
  | .nil => 1
  | .ptr d => uptoBulk d + 1
  | .slice elems spare => uptoBulkAll elems + uptoBulkAll spare + 1
  | .agg parts => uptoBulkAll parts + 1
  | .iface _ d => uptoBulk d + 1
  | .map entries => uptoBulkEntries entries + 1
  | .held _ => 1
def uptoBulkAll {H : Type} : List (DataW H) → Nat
  | [] => 0
  | d :: r => uptoBulk d + uptoBulkAll r
def uptoBulkEntries {H : Type} : List (Lit × DataW H) → Nat
  | [] => 0
  | x :: r => uptoBulkEntry x + uptoBulkEntries r
def uptoBulkEntry {H : Type} : Lit × DataW H → Nat
  | (.string bytes, d) => bytes.length + uptoBulk d + 1
  | (_, d) => uptoBulk d + 1
 end
def uptoSmall : (H : Type) → List (DataW H) → Bool := fun _ ds => decide (uptoBulkAll ds ≤ 1048576)
def OpenSpec.upto (s : _root_.Go.ChangeSpec) : _root_.Go.OpenSpec := { _root_.Go.OpenSpec.ofChange s with cond := some uptoSmall }

/-- 'nacellelaw39.CompatComplete', WHERE WHAT IT READS IS OF BULK AT MOST 1048576: true; the input reads as it did. -/
def compatCompleteUptoRow : OpenClaim := { program := "ytcjbjhkmnfegnaa", sum := "45232b6cd3ba39b60713e08b4b00d65bf62b65673073089e03d31e918f1f3cb4", func := "nacelle/nacellelaw39.CompatComplete", spec := "compatComplete", unfollowed := true, recurses := true, apart := false, narrowed := true }
def CompatCompleteUptoSaid : Prop := compatCompleteUptoRow.holds Try.pinned (OpenSpec.upto compatCompleteSpec)

/-- 'nacellelaw39.CompatBack', WHERE WHAT IT READS IS OF BULK AT MOST 1048576: true; the input reads as it did. -/
def compatBackUptoRow : OpenClaim := { program := "ytcjbjhkmnfegnaa", sum := "45232b6cd3ba39b60713e08b4b00d65bf62b65673073089e03d31e918f1f3cb4", func := "nacelle/nacellelaw39.CompatBack", spec := "compatBack", unfollowed := true, recurses := true, apart := false, narrowed := true }
def CompatBackUptoSaid : Prop := compatBackUptoRow.holds Try.pinned (OpenSpec.upto compatBackSpec)

/-- 'nacellelaw39.CompatMore', WHERE WHAT IT READS IS OF BULK AT MOST 1048576: true; the input reads as it did. -/
def compatMoreUptoRow : OpenClaim := { program := "ytcjbjhkmnfegnaa", sum := "45232b6cd3ba39b60713e08b4b00d65bf62b65673073089e03d31e918f1f3cb4", func := "nacelle/nacellelaw39.CompatMore", spec := "compatMore", unfollowed := true, recurses := true, apart := false, narrowed := true }
def CompatMoreUptoSaid : Prop := compatMoreUptoRow.holds Try.pinned (OpenSpec.upto compatMoreSpec)

/-- 'nacellelaw39.CompatPairs', WHERE WHAT IT READS IS OF BULK AT MOST 1048576: true; the input reads as it did. -/
def compatPairsUptoRow : OpenClaim := { program := "ytcjbjhkmnfegnaa", sum := "45232b6cd3ba39b60713e08b4b00d65bf62b65673073089e03d31e918f1f3cb4", func := "nacelle/nacellelaw39.CompatPairs", spec := "compatPairs", unfollowed := true, recurses := true, apart := false, narrowed := true }
def CompatPairsUptoSaid : Prop := compatPairsUptoRow.holds Try.pinned (OpenSpec.upto compatPairsSpec)

/-- 'nacellelaw39.CompatWrong', WHERE WHAT IT READS IS OF BULK AT MOST 1048576: true; the input reads as it did. -/
def compatWrongUptoRow : OpenClaim := { program := "ytcjbjhkmnfegnaa", sum := "45232b6cd3ba39b60713e08b4b00d65bf62b65673073089e03d31e918f1f3cb4", func := "nacelle/nacellelaw39.CompatWrong", spec := "compatWrong", unfollowed := true, recurses := true, apart := false, narrowed := true }
def CompatWrongUptoSaid : Prop := compatWrongUptoRow.holds Try.pinned (OpenSpec.upto compatWrongSpec)

/-- 'nacellelaw39.CompatTells', WHERE WHAT IT READS IS OF BULK AT MOST 1048576: true; the input reads as it did. -/
def compatTellsUptoRow : OpenClaim := { program := "ytcjbjhkmnfegnaa", sum := "45232b6cd3ba39b60713e08b4b00d65bf62b65673073089e03d31e918f1f3cb4", func := "nacelle/nacellelaw39.CompatTells", spec := "compatTells", unfollowed := true, recurses := true, apart := false, narrowed := true }
def CompatTellsUptoSaid : Prop := compatTellsUptoRow.holds Try.pinned (OpenSpec.upto compatTellsSpec)

/-- 'nacellelaw39.CompatSafe', WHERE WHAT IT READS IS OF BULK AT MOST 1048576: true; the input reads as it did. -/
def compatSafeUptoRow : OpenClaim := { program := "ytcjbjhkmnfegnaa", sum := "45232b6cd3ba39b60713e08b4b00d65bf62b65673073089e03d31e918f1f3cb4", func := "nacelle/nacellelaw39.CompatSafe", spec := "compatSafe", unfollowed := true, recurses := true, apart := false, narrowed := true }
def CompatSafeUptoSaid : Prop := compatSafeUptoRow.holds Try.pinned (OpenSpec.upto compatSafeSpec)

end Rows
end Go.Proofs.Ytcjbjhkmnfegnaa
