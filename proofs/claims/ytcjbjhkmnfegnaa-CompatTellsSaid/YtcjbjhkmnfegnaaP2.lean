/-
  Plain law: what Order computes. No program in sight; no condition.
-/
import Derived.Test.YtcjbjhkmnfegnaaP1
namespace Go.Proofs.Ytcjbjhkmnfegnaa
open Go.RowKit
/-- the number of all changed units among the first k -/
def gl (S T : Nat → U) : Nat → Nat
  | 0 => 0
  | k + 1 => if df S T k = true then up (gl S T k) k else gl S T k
theorem gl_lt (S T : Nat → U) : ∀ {k : Nat}, k ≤ 8 → gl S T k < 256
  | 0, _ => by simp [gl]
  | k + 1, h => by
    have := gl_lt S T (k := k) (by omega)
    rw [gl]
    split
    · exact up_lt this (by omega)
    · exact this
/-- the marks of Order, behind the first c numbers from the goal g downwards -/
def ld (m : Nat) (Rw : Nat → R) (n : Nat) (S T : Nat → U) (g : Nat) : Nat → Nat → Bool
  | 0, b => decide (b = g)
  | c + 1, b => if b = g - c then ld m Rw n S T g c b || (elsS m Rw n S T (g - c) n).any (fun x => ld m Rw n S T g c x.2) else ld m Rw n S T g c b
/-- does a number lead to the goal -/
def lead (m : Nat) (Rw : Nat → R) (n : Nat) (S T : Nat → U) (b : Nat) : Bool := ld m Rw n S T (gl S T n) (gl S T n + 1) b
/-- the first unit to change next, if there is one -/
def nxt (m : Nat) (Rw : Nat → R) (n : Nat) (S T : Nat → U) (b : Nat) : Option Nat := ((elsS m Rw n S T b n).find? (fun x => lead m Rw n S T x.2)).map (·.1)
/-- the road that Order takes, from 0 on -/
inductive Gp (m : Nat) (Rw : Nat → R) (n : Nat) (S T : Nat → U) : List Nat → Nat → Prop
  | start : Gp m Rw n S T [] 0
  | more {p : List Nat} {b k : Nat} : Gp m Rw n S T p b → b ≠ gl S T n → nxt m Rw n S T b = some k → Gp m Rw n S T (p ++ [k]) (up b k)
end Go.Proofs.Ytcjbjhkmnfegnaa
