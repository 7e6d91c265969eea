/-
  Plain law: steps of a change, what they lead to. No program in sight; no condition.
-/
import Derived.Test.YtcjbjhkmnfegnaaC6
namespace Go.Proofs.Ytcjbjhkmnfegnaa
open Go.RowKit
/-- is the unit changed -/
def df (S T : Nat → U) (k : Nat) : Bool := !(decide ((S k).1 = (T k).1) && ((S k).2 == (T k).2))
/-- the number with one unit more -/
def up (b k : Nat) : Nat := b ||| 2 ^ k
/-- may unit k be changed next -/
def stp (m : Nat) (Rw : Nat → R) (n : Nat) (S T : Nat → U) (b k : Nat) : Bool := !b.testBit k && df S T k && cmp m Rw (mx S T (up b k)) n
/-- what steps yields, of the first k units -/
def elsS (m : Nat) (Rw : Nat → R) (n : Nat) (S T : Nat → U) (b : Nat) : Nat → List (Nat × Nat)
  | 0 => []
  | k + 1 => elsS m Rw n S T b k ++ (if stp m Rw n S T b k = true then [(k, up b k)] else [])
theorem elsS_len (m : Nat) (Rw : Nat → R) (n : Nat) (S T : Nat → U) (b : Nat) : ∀ k, (elsS m Rw n S T b k).length ≤ k
  | 0 => Nat.le_refl _
  | k + 1 => by
    have := elsS_len m Rw n S T b k
    rw [elsS, List.length_append]
    split <;> simp <;> omega
theorem elsS_mem {m : Nat} {Rw : Nat → R} {n : Nat} {S T : Nat → U} {b : Nat} : ∀ {j : Nat} {x : Nat × Nat}, x ∈ elsS m Rw n S T b j → x.1 < j ∧ stp m Rw n S T b x.1 = true ∧ x.2 = up b x.1
  | 0, x, h => by simp [elsS] at h
  | j + 1, x, h => by
    rw [elsS] at h
    rcases List.mem_append.1 h with h | h
    · obtain ⟨a, b, c⟩ := elsS_mem h
      exact ⟨by omega, b, c⟩
    · split at h
      · rename_i hs
        simp at h
        subst h
        exact ⟨by omega, hs, rfl⟩
      · simp at h
theorem elsS_has {m : Nat} {Rw : Nat → R} {n : Nat} {S T : Nat → U} {b : Nat} : ∀ {j k : Nat}, k < j → stp m Rw n S T b k = true → (k, up b k) ∈ elsS m Rw n S T b j
  | 0, k, h, _ => by omega
  | j + 1, k, h, hs => by
    rw [elsS]
    rcases Nat.lt_or_ge k j with h' | h'
    · exact List.mem_append_left _ (elsS_has h' hs)
    · obtain rfl : k = j := by omega
      rw [if_pos hs]
      simp
theorem up_tab : ∀ b : Fin 256, ∀ k : Fin 8, bits .or .i64 ((b.val : Nat) : Int) (2 ^ k.val) = ((up b.val k.val : Nat) : Int) ∧ up b.val k.val < 256 ∧ b.val ≤ up b.val k.val ∧ (up b.val k.val = b.val ↔ b.val.testBit k.val = true) := by decide +kernel
theorem up_int {b k : Nat} (hb : b < 256) (hk : k < 8) : bits .or .i64 (b : Int) (2 ^ k) = ((up b k : Nat) : Int) := (up_tab ⟨b, hb⟩ ⟨k, hk⟩).1
theorem up_lt {b k : Nat} (hb : b < 256) (hk : k < 8) : up b k < 256 := (up_tab ⟨b, hb⟩ ⟨k, hk⟩).2.1
theorem up_le {b k : Nat} (hb : b < 256) (hk : k < 8) : b ≤ up b k := (up_tab ⟨b, hb⟩ ⟨k, hk⟩).2.2.1
theorem up_same {b k : Nat} (hb : b < 256) (hk : k < 8) : up b k = b ↔ b.testBit k = true := (up_tab ⟨b, hb⟩ ⟨k, hk⟩).2.2.2
/-- two worlds agree below a block -/
def Agree (B : Nat) (w w' : World) : Prop := B ≤ w'.heap.size ∧ ∀ k, k < B → w'.heap[k]? = w.heap[k]?
theorem UnitsIn.agree {w w' : World} {A : Option Addr} {n : Nat} {S : Nat → U} (h : UnitsIn w A n S) (hg : Agree w.heap.size w w') : UnitsIn w' A n S := by
  refine ⟨h.1, fun hn => ?_⟩
  obtain ⟨b, off, hA, hlt, hc⟩ := h.2 hn
  exact ⟨b, off, hA, Nat.lt_of_lt_of_le hlt hg.1, fun k hk => ⟨(World.cell?_of_block (hg.2 b hlt)).trans (hc k hk).1, (World.cell?_of_block (hg.2 b hlt)).trans (hc k hk).2⟩⟩
theorem RowsIn.agree {w w' : World} {A : Option Addr} {n : Nat} {Rw : Nat → R} (h : RowsIn w A n Rw) (hg : Agree w.heap.size w w') : RowsIn w' A n Rw := by
  refine ⟨h.1, fun hn => ?_⟩
  obtain ⟨b, off, hA, hlt, hc⟩ := h.2 hn
  exact ⟨b, off, hA, Nat.lt_of_lt_of_le hlt hg.1, fun k hk => ⟨(World.cell?_of_block (hg.2 b hlt)).trans (hc k hk).1, (World.cell?_of_block (hg.2 b hlt)).trans (hc k hk).2.1, (World.cell?_of_block (hg.2 b hlt)).trans (hc k hk).2.2.1, (World.cell?_of_block (hg.2 b hlt)).trans (hc k hk).2.2.2⟩⟩
end Go.Proofs.Ytcjbjhkmnfegnaa
