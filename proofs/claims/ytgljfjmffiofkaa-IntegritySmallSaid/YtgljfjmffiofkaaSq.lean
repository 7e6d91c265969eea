/-
  Plain laws about sequence numbers: what the successors of a number are, and the distance between two. No condition; no program in sight.
-/
import Derived.Test.YtgljfjmffiofkaaI1
namespace Go.Proofs.Ytgljfjmffiofkaa
def itr (a : Int) : Nat → Int
  | 0 => a
  | k + 1 => nx (itr a k)
/-- the distance from a to b -/
def dst (a b : Int) : Int := if isN a = true ∧ isN b = true then (if a = 0 then b else if b = 0 then -1 else (b - a) % 255) else -1
theorem nx_num {n : Int} (h0 : 0 ≤ n) (h1 : n ≤ 255) : nx n = if n = 255 then 1 else n + 1 := by unfold nx; rw [if_pos (isN_mk h0 h1)]
theorem itr_zero : ∀ k : Nat, k ≤ 255 → itr 0 k = k
  | 0, _ => rfl
  | k + 1, h => by
    show nx (itr 0 k) = _
    rw [itr_zero k (by omega), nx_num (by omega) (by omega), if_neg (by omega)]
    omega
theorem itr_pos {a : Int} (h1 : 1 ≤ a) (h2 : a ≤ 255) : ∀ k : Nat, itr a k = (a - 1 + k) % 255 + 1
  | 0 => by show a = _; omega
  | k + 1 => by
    show nx (itr a k) = _
    rw [itr_pos h1 h2 k, nx_num (by omega) (by omega)]
    split <;> omega
theorem dst_at {a b : Int} {k : Nat} (ha : isN a = true) (hb : isN b = true) (hk : k ≤ 255) (hn : ∀ i, i < k → itr a i ≠ b) (h : itr a k = b) : dst a b = k := by
  obtain ⟨a0, a1⟩ := isN_true ha
  obtain ⟨b0, b1⟩ := isN_true hb
  unfold dst
  rw [if_pos ⟨ha, hb⟩]
  by_cases hz : a = 0
  · subst hz
    rw [if_pos rfl, ← h, itr_zero k hk]
  · rw [if_neg hz]
    rw [itr_pos (by omega) a1] at h
    rw [if_neg (by omega)]
    by_cases h5 : k = 255
    · subst h5
      have := hn 0 (by omega)
      rw [itr_pos (by omega) a1] at this
      omega
    · omega
theorem dst_none {a b : Int} (ha : isN a = true) (hb : isN b = true) (hn : ∀ i, i < 256 → itr a i ≠ b) : dst a b = -1 := by
  obtain ⟨a0, a1⟩ := isN_true ha
  obtain ⟨b0, b1⟩ := isN_true hb
  unfold dst
  rw [if_pos ⟨ha, hb⟩]
  by_cases hz : a = 0
  · subst hz
    have := hn b.toNat (by omega)
    rw [itr_zero _ (by omega)] at this
    omega
  · rw [if_neg hz]
    by_cases h0 : b = 0
    · rw [if_pos h0]
    · have := hn ((b - a) % 255).toNat (by omega)
      rw [itr_pos (by omega) a1] at this
      omega
theorem dst_not {a b : Int} (h : ¬ (isN a = true ∧ isN b = true)) : dst a b = -1 := if_neg h

def els (a : Int) (k : Nat) : List (Nat × Int) := (List.range k).map fun i => (i, itr a i)
theorem els_succ (a : Int) (k : Nat) : els a (k + 1) = els a k ++ [(k, itr a k)] := by unfold els; rw [List.range_succ, List.map_append]; rfl
theorem els_len (a : Int) (k : Nat) : (els a k).length = k := by simp [els]
end Go.Proofs.Ytgljfjmffiofkaa
