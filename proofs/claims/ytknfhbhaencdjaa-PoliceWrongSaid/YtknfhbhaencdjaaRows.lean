/-
  No cell of these rows narrows 'for every input' (looked for: loops, veiled, ifaces, maps, wideKeys, modest, calm, conditions, laid).
  DERIVED. THE GIVEN ROWS OF THIS SEAT. 7 by the template 'for every input the law returns true; each argument reads behind the call as it read before'; 0 by the template 'total and deterministic' (their statements: YtknfhbhaencdjaaTotals.lean).
  GIVEN WITH THE SEED: the statements are not yours to turn. If you find one false, say at which input.
  Laid BY PROGRAM, IN A SANDBOX (cutbox-rows.mjs): the forced cells as the released guide's own fill.sh prints them over the translation cffcced652c3d228… (all of the seat's roots in one cut). By AI agents, Wed Nov 11 2026. No macro, syntax, notation, axiom, sorry.
-/
import Derived.Test.YtknfhbhaencdjaaChecked
import GoSem.Claim
import GoSem.ClaimJoined
import GoSem.ClaimMapViews
import Derived.JoinedTies
import Derived.KernelRfl
namespace Go.Proofs.Ytknfhbhaencdjaa
/- THE CELL 'sum', in the pinned program and in every row, IS THE sha256 OF THE DUMP (.gsa) THAT YtknfhbhaencdjaaProg.lean LOADS. Nothing in Lean hashes anything: it is a label: what it is worth is what the hold of that sum in a sandbox is worth. -/
noncomputable def Try.pinned : Pinned := { name := "ytknfhbhaencdjaa", sum := "cffcced652c3d228a23e86144100c6a4384e3e4e188585f8dd1186e153208ce6", checked := Try.checked }
namespace Rows
def none {H : Type} : Left H := { results := [], args := [] }

/-- 'nacellelaw19.PoliceBound': WHATEVER THE INPUT: true; the input reads as it did. -/
def policeBoundSpec : ChangeSpec := { name := "policeBound", fn := fun _ => fun
  | [d1, d2, d3, d4] => { results := [.lit (.bool true)], args := [d1, d2, d3, d4] }
  | _ => none }
def policeBoundRow : OpenClaim := { program := "ytknfhbhaencdjaa", sum := "cffcced652c3d228a23e86144100c6a4384e3e4e188585f8dd1186e153208ce6", func := "nacelle/nacellelaw19.PoliceBound", spec := "policeBound", unfollowed := true, recurses := true, apart := false }
def PoliceBoundSaid : Prop := policeBoundRow.holds Try.pinned (OpenSpec.ofChange policeBoundSpec)

/-- ITS FALSE NEIGHBOUR: 'it returns false'. Refute it at one input. -/
def policeBoundWrong : ChangeSpec := { name := "policeBound", fn := fun _ => fun
  | [d1, d2, d3, d4] => { results := [.lit (.bool false)], args := [d1, d2, d3, d4] }
  | _ => none }
def PoliceBoundWrongFalsely : Prop := policeBoundRow.holds Try.pinned (OpenSpec.ofChange policeBoundWrong)

/-- 'nacellelaw19.PolicePasses': WHATEVER THE INPUT: true; the input reads as it did. -/
def policePassesSpec : ChangeSpec := { name := "policePasses", fn := fun _ => fun
  | [d1, d2, d3, d4, d5, d6] => { results := [.lit (.bool true)], args := [d1, d2, d3, d4, d5, d6] }
  | _ => none }
def policePassesRow : OpenClaim := { program := "ytknfhbhaencdjaa", sum := "cffcced652c3d228a23e86144100c6a4384e3e4e188585f8dd1186e153208ce6", func := "nacelle/nacellelaw19.PolicePasses", spec := "policePasses", unfollowed := true, recurses := true, apart := false }
def PolicePassesSaid : Prop := policePassesRow.holds Try.pinned (OpenSpec.ofChange policePassesSpec)

/-- ITS FALSE NEIGHBOUR: 'it returns false'. Refute it at one input. -/
def policePassesWrong : ChangeSpec := { name := "policePasses", fn := fun _ => fun
  | [d1, d2, d3, d4, d5, d6] => { results := [.lit (.bool false)], args := [d1, d2, d3, d4, d5, d6] }
  | _ => none }
def PolicePassesWrongFalsely : Prop := policePassesRow.holds Try.pinned (OpenSpec.ofChange policePassesWrong)

/-- 'nacellelaw19.PoliceRefills': WHATEVER THE INPUT: true; the input reads as it did. -/
def policeRefillsSpec : ChangeSpec := { name := "policeRefills", fn := fun _ => fun
  | [d1, d2, d3, d4] => { results := [.lit (.bool true)], args := [d1, d2, d3, d4] }
  | _ => none }
def policeRefillsRow : OpenClaim := { program := "ytknfhbhaencdjaa", sum := "cffcced652c3d228a23e86144100c6a4384e3e4e188585f8dd1186e153208ce6", func := "nacelle/nacellelaw19.PoliceRefills", spec := "policeRefills", unfollowed := true, recurses := true, apart := false }
def PoliceRefillsSaid : Prop := policeRefillsRow.holds Try.pinned (OpenSpec.ofChange policeRefillsSpec)

/-- ITS FALSE NEIGHBOUR: 'it returns false'. Refute it at one input. -/
def policeRefillsWrong : ChangeSpec := { name := "policeRefills", fn := fun _ => fun
  | [d1, d2, d3, d4] => { results := [.lit (.bool false)], args := [d1, d2, d3, d4] }
  | _ => none }
def PoliceRefillsWrongFalsely : Prop := policeRefillsRow.holds Try.pinned (OpenSpec.ofChange policeRefillsWrong)

/-- 'nacellelaw19.PoliceBounds': WHATEVER THE INPUT: true; the input reads as it did. -/
def policeBoundsSpec : ChangeSpec := { name := "policeBounds", fn := fun _ => fun
  | [d1, d2, d3, d4, d5] => { results := [.lit (.bool true)], args := [d1, d2, d3, d4, d5] }
  | _ => none }
def policeBoundsRow : OpenClaim := { program := "ytknfhbhaencdjaa", sum := "cffcced652c3d228a23e86144100c6a4384e3e4e188585f8dd1186e153208ce6", func := "nacelle/nacellelaw19.PoliceBounds", spec := "policeBounds", unfollowed := true, recurses := true, apart := false }
def PoliceBoundsSaid : Prop := policeBoundsRow.holds Try.pinned (OpenSpec.ofChange policeBoundsSpec)

/-- ITS FALSE NEIGHBOUR: 'it returns false'. Refute it at one input. -/
def policeBoundsWrong : ChangeSpec := { name := "policeBounds", fn := fun _ => fun
  | [d1, d2, d3, d4, d5] => { results := [.lit (.bool false)], args := [d1, d2, d3, d4, d5] }
  | _ => none }
def PoliceBoundsWrongFalsely : Prop := policeBoundsRow.holds Try.pinned (OpenSpec.ofChange policeBoundsWrong)

/-- 'nacellelaw19.PoliceTwice': WHATEVER THE INPUT: true; the input reads as it did. -/
def policeTwiceSpec : ChangeSpec := { name := "policeTwice", fn := fun _ => fun
  | [d1, d2, d3, d4, d5] => { results := [.lit (.bool true)], args := [d1, d2, d3, d4, d5] }
  | _ => none }
def policeTwiceRow : OpenClaim := { program := "ytknfhbhaencdjaa", sum := "cffcced652c3d228a23e86144100c6a4384e3e4e188585f8dd1186e153208ce6", func := "nacelle/nacellelaw19.PoliceTwice", spec := "policeTwice", unfollowed := true, recurses := true, apart := false }
def PoliceTwiceSaid : Prop := policeTwiceRow.holds Try.pinned (OpenSpec.ofChange policeTwiceSpec)

/-- ITS FALSE NEIGHBOUR: 'it returns false'. Refute it at one input. -/
def policeTwiceWrong : ChangeSpec := { name := "policeTwice", fn := fun _ => fun
  | [d1, d2, d3, d4, d5] => { results := [.lit (.bool false)], args := [d1, d2, d3, d4, d5] }
  | _ => none }
def PoliceTwiceWrongFalsely : Prop := policeTwiceRow.holds Try.pinned (OpenSpec.ofChange policeTwiceWrong)

/-- 'nacellelaw19.PoliceScaled': WHATEVER THE INPUT: true; the input reads as it did. -/
def policeScaledSpec : ChangeSpec := { name := "policeScaled", fn := fun _ => fun
  | [d1, d2, d3, d4, d5, d6] => { results := [.lit (.bool true)], args := [d1, d2, d3, d4, d5, d6] }
  | _ => none }
def policeScaledRow : OpenClaim := { program := "ytknfhbhaencdjaa", sum := "cffcced652c3d228a23e86144100c6a4384e3e4e188585f8dd1186e153208ce6", func := "nacelle/nacellelaw19.PoliceScaled", spec := "policeScaled", unfollowed := true, recurses := true, apart := false }
def PoliceScaledSaid : Prop := policeScaledRow.holds Try.pinned (OpenSpec.ofChange policeScaledSpec)

/-- ITS FALSE NEIGHBOUR: 'it returns false'. Refute it at one input. -/
def policeScaledWrong : ChangeSpec := { name := "policeScaled", fn := fun _ => fun
  | [d1, d2, d3, d4, d5, d6] => { results := [.lit (.bool false)], args := [d1, d2, d3, d4, d5, d6] }
  | _ => none }
def PoliceScaledWrongFalsely : Prop := policeScaledRow.holds Try.pinned (OpenSpec.ofChange policeScaledWrong)

/-- 'nacellelaw19.PoliceWrong': WHATEVER THE INPUT: true; the input reads as it did. -/
def policeWrongSpec : ChangeSpec := { name := "policeWrong", fn := fun _ => fun
  | [d1, d2, d3, d4] => { results := [.lit (.bool true)], args := [d1, d2, d3, d4] }
  | _ => none }
def policeWrongRow : OpenClaim := { program := "ytknfhbhaencdjaa", sum := "cffcced652c3d228a23e86144100c6a4384e3e4e188585f8dd1186e153208ce6", func := "nacelle/nacellelaw19.PoliceWrong", spec := "policeWrong", unfollowed := true, recurses := true, apart := false }
def PoliceWrongSaid : Prop := policeWrongRow.holds Try.pinned (OpenSpec.ofChange policeWrongSpec)

/-- ITS FALSE NEIGHBOUR: 'it returns false'. Refute it at one input. -/
def policeWrongWrong : ChangeSpec := { name := "policeWrong", fn := fun _ => fun
  | [d1, d2, d3, d4] => { results := [.lit (.bool false)], args := [d1, d2, d3, d4] }
  | _ => none }
def PoliceWrongWrongFalsely : Prop := policeWrongRow.holds Try.pinned (OpenSpec.ofChange policeWrongWrong)

/- THE SECOND FORM. 'bulk': how many values and letters a reading holds, each counted each time it is reached (what is shared counts as often as it is met; a slice's spare places count too). A statement '..UptoSaid' is the law's where the arguments, and the package variables that the reading takes, are together of bulk at most 1048576: NARROWER than '..Said'. Prove '..Said' where nothing that the law and all that it calls make is longer than what came in: it says more and counts as full. Else prove '..UptoSaid'. A law counts once. -/
mutual
def uptoBulk {H : Type} : DataW H → Nat
  | .lit (.string bytes) => bytes.length + 1
  | .lit _ => 1
  | .nil => 1
  | .ptr d => uptoBulk d + 1
  | .slice elems spare => uptoBulkAll elems + uptoBulkAll spare + 1
  | .agg parts => uptoBulkAll parts + 1
  | .iface _ d => uptoBulk d + 1
  | .map entries => uptoBulkEntries entries + 1
  | .held _ => 1
def uptoBulkAll {H : Type} : List (DataW H) → Nat
  | [] => 0
  | d :: r => uptoBulk d + uptoBulkAll r
def uptoBulkEntries {H : Type} : List (Lit × DataW H) → Nat
  | [] => 0
  | x :: r => uptoBulkEntry x + uptoBulkEntries r
def uptoBulkEntry {H : Type} : Lit × DataW H → Nat
  | (.string bytes, d) => bytes.length + uptoBulk d + 1
  | (_, d) => uptoBulk d + 1
 end
def uptoSmall : (H : Type) → List (DataW H) → Bool := fun _ ds => decide (uptoBulkAll ds ≤ 1048576)
def OpenSpec.upto (s : _root_.Go.ChangeSpec) : _root_.Go.OpenSpec := { _root_.Go.OpenSpec.ofChange s with cond := some uptoSmall }

/-- 'nacellelaw19.PoliceBound', WHERE WHAT IT READS IS OF BULK AT MOST 1048576: true; the input reads as it did. -/
def policeBoundUptoRow : OpenClaim := { program := "ytknfhbhaencdjaa", sum := "cffcced652c3d228a23e86144100c6a4384e3e4e188585f8dd1186e153208ce6", func := "nacelle/nacellelaw19.PoliceBound", spec := "policeBound", unfollowed := true, recurses := true, apart := false, narrowed := true }
def PoliceBoundUptoSaid : Prop := policeBoundUptoRow.holds Try.pinned (OpenSpec.upto policeBoundSpec)

/-- 'nacellelaw19.PolicePasses', WHERE WHAT IT READS IS OF BULK AT MOST 1048576: true; the input reads as it did. -/
def policePassesUptoRow : OpenClaim := { program := "ytknfhbhaencdjaa", sum := "cffcced652c3d228a23e86144100c6a4384e3e4e188585f8dd1186e153208ce6", func := "nacelle/nacellelaw19.PolicePasses", spec := "policePasses", unfollowed := true, recurses := true, apart := false, narrowed := true }
def PolicePassesUptoSaid : Prop := policePassesUptoRow.holds Try.pinned (OpenSpec.upto policePassesSpec)

/-- 'nacellelaw19.PoliceRefills', WHERE WHAT IT READS IS OF BULK AT MOST 1048576: true; the input reads as it did. -/
def policeRefillsUptoRow : OpenClaim := { program := "ytknfhbhaencdjaa", sum := "cffcced652c3d228a23e86144100c6a4384e3e4e188585f8dd1186e153208ce6", func := "nacelle/nacellelaw19.PoliceRefills", spec := "policeRefills", unfollowed := true, recurses := true, apart := false, narrowed := true }
def PoliceRefillsUptoSaid : Prop := policeRefillsUptoRow.holds Try.pinned (OpenSpec.upto policeRefillsSpec)

/-- 'nacellelaw19.PoliceBounds', WHERE WHAT IT READS IS OF BULK AT MOST 1048576: true; the input reads as it did. -/
def policeBoundsUptoRow : OpenClaim := { program := "ytknfhbhaencdjaa", sum := "cffcced652c3d228a23e86144100c6a4384e3e4e188585f8dd1186e153208ce6", func := "nacelle/nacellelaw19.PoliceBounds", spec := "policeBounds", unfollowed := true, recurses := true, apart := false, narrowed := true }
def PoliceBoundsUptoSaid : Prop := policeBoundsUptoRow.holds Try.pinned (OpenSpec.upto policeBoundsSpec)

/-- 'nacellelaw19.PoliceTwice', WHERE WHAT IT READS IS OF BULK AT MOST 1048576: true; the input reads as it did. -/
def policeTwiceUptoRow : OpenClaim := { program := "ytknfhbhaencdjaa", sum := "cffcced652c3d228a23e86144100c6a4384e3e4e188585f8dd1186e153208ce6", func := "nacelle/nacellelaw19.PoliceTwice", spec := "policeTwice", unfollowed := true, recurses := true, apart := false, narrowed := true }
def PoliceTwiceUptoSaid : Prop := policeTwiceUptoRow.holds Try.pinned (OpenSpec.upto policeTwiceSpec)

/-- 'nacellelaw19.PoliceScaled', WHERE WHAT IT READS IS OF BULK AT MOST 1048576: true; the input reads as it did. -/
def policeScaledUptoRow : OpenClaim := { program := "ytknfhbhaencdjaa", sum := "cffcced652c3d228a23e86144100c6a4384e3e4e188585f8dd1186e153208ce6", func := "nacelle/nacellelaw19.PoliceScaled", spec := "policeScaled", unfollowed := true, recurses := true, apart := false, narrowed := true }
def PoliceScaledUptoSaid : Prop := policeScaledUptoRow.holds Try.pinned (OpenSpec.upto policeScaledSpec)

/-- 'nacellelaw19.PoliceWrong', WHERE WHAT IT READS IS OF BULK AT MOST 1048576: true; the input reads as it did. -/
def policeWrongUptoRow : OpenClaim := { program := "ytknfhbhaencdjaa", sum := "cffcced652c3d228a23e86144100c6a4384e3e4e188585f8dd1186e153208ce6", func := "nacelle/nacellelaw19.PoliceWrong", spec := "policeWrong", unfollowed := true, recurses := true, apart := false, narrowed := true }
def PoliceWrongUptoSaid : Prop := policeWrongUptoRow.holds Try.pinned (OpenSpec.upto policeWrongSpec)

end Rows
end Go.Proofs.Ytknfhbhaencdjaa
