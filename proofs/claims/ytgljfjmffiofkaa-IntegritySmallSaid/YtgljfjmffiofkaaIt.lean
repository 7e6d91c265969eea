/-
  The contract of the iterator of successors (its closure): the number and its successors, 256 in all. No condition.
-/
import Derived.Test.YtgljfjmffiofkaaSq
import Derived.Test.YtgljfjmffiofkaaRF
import Derived.RangeFuncNested
import Derived.RangeFuncCalls
import Derived.Shelf.Abstract
import Derived.Shelf.RegionOpen
import Derived.OwnWalkIn
import Derived.TacticsInMore
import Derived.LoopNIn
import Derived.LoopIn
namespace Go.Proofs.Ytgljfjmffiofkaa
open Go.RowKit Go.Shelf
attribute [local go_sem] Oper.semAt_some

abbrev encs (x : Nat × Int) : Array Value := #[.int .i64 (x.1 : Int), .int .i64 x.2]
/-- what a round keeps: the number's box, and all that lay below n₀ -/
def KpI (n₀ nb : Nat) (W W' : World) : Prop := W.heap.size ≤ W'.heap.size ∧ ∀ k, k < n₀ ∨ k = nb → W'.heap[k]? = W.heap[k]?
/-- the iterator's own steps: the number's box -/
def RI (nb : Nat) (W W' : World) : Prop := W.grownBy W' (some nb) ∧ ∃ cs, Blk W' nb 3 cs
def SI (a : Int) (xs : List (Nat × Int)) : Prop := xs = els a 256
def SpI (a : Int) (pre : List (Nat × Int)) : Prop := ∃ k, k < 256 ∧ pre = els a (k + 1)

set_option maxRecDepth 100000 in
set_option maxHeartbeats 4000000 in
theorem succ1 (n l n₀ nb : Nat) (a : Int) (J0 Jx : List (Nat × Int) → World → Prop) (hJ : ∀ s A B, J0 s A → RI nb A B → J0 s B) (W : World) (hnb : Blk W nb 3 #[.int .i64 a]) (h1n : 1 ≤ n) (hn : n₀ ≤ nb)
    (hY : ∀ pre x W1, J0 pre W1 → pre.length < 256 → YieldAt Fence.wide (n - 1) Try.prog l (encs x) W1 fun e W' =>
      (e = .returned (.bool true) ∧ J0 (pre ++ [x]) W' ∧ KpI n₀ nb W1 W') ∨ (e = .returned (.bool false) ∧ Jx (pre ++ [x]) W'))
    (h0 : J0 [] W) :
    CallsIn Fence.wide n Try.prog 37 #[.func (.yield l) #[] #[], .pointer (some ⟨nb, 0, none⟩)] W fun e W' => (∃ v, e = .returned v) ∧ ((∃ xs, SI a xs ∧ J0 xs W') ∨ (∃ pre, SpI a pre ∧ Jx pre W')) := by
  have HJ := Lib.hid hJ
  have HY := Lib.hid hY
  clear hJ hY
  refine callsIn_of_wp Try.func37 rfl trivial ?_ rfl
  simp only [Try.ntmps37, List.size_toArray, List.length_cons, List.length_nil, Nat.reduceAdd, Nat.reduceSub, Array.replicate_succ, Array.replicate_zero, List.push_toArray, List.append_toArray, List.nil_append, List.cons_append]
  gi_wp2
  gi_loopw [3] (fun i wr => ∃ k : Nat, k ≤ 256 ∧ i = .int .i64 k ∧ J0 (els a k) wr ∧ Blk wr nb 3 #[.int .i64 (itr a k)] ∧ W.heap.size ≤ wr.heap.size ∧ (∀ k, k < n₀ → wr.heap[k]? = W.heap[k]?))
    (fun i _ => 256 - (intOf i).toNat)
  case atStart => exact ⟨0, Nat.zero_le _, rfl, h0, hnb, Nat.le_refl _, fun _ _ => rfl⟩
  case round =>
    obtain ⟨k, hk, rfl, hJk, hbk, hszk, holdk⟩ := hrel
    have HOld := Lib.hid holdk
    clear holdk
    by_cases hlt : k < 256
    · have y0 : wr.cell? ⟨nb, 0, none⟩ = some (.int .i64 (itr a k)) := hbk.cell 0
      obtain ⟨fn, tmps, assign, body, hy, hR⟩ := HY.out _ (k, itr a k) wr hJk (by rw [els_len]; exact hlt)
      dsimp only [encs] at hy
      have HE := Lib.hid (els_succ a k)
      gi_wp2
      refine hR.mono ?_
      rintro e W3 (⟨rfl, hJ3, hk3⟩ | ⟨rfl, hJx3⟩)
      · have hb3 : Blk W3 nb 3 #[.int .i64 (itr a k)] := (hk3.2 nb (.inr rfl)).trans hbk
        have y3 : W3.cell? ⟨nb, 0, none⟩ = some (.int .i64 (itr a k)) := hb3.cell 0
        have y4 : W3.frozen? ⟨nb, 0, none⟩ = false := hb3.free 0
        have hz3 : W.heap.size ≤ W3.heap.size := Nat.le_trans hszk hk3.1
        have ho3 : Hid (∀ k, k < n₀ → W3.heap[k]? = W.heap[k]?) := Lib.hid (fun j hj => (hk3.2 j (.inl hj)).trans (HOld.out j hj))
        clear hk3 y0
        gi_wp2_with (refine ⟨trivial, ?_⟩; gi_at_call 12; refine (callsIn_wide.2 (next_any _ _)).mono ?_; rintro e w1 ⟨rfl, rfl⟩)
        have hb4 := hb3.put 0 (.int .i64 (nx (itr a k)))
        go_roundw
        case rel => exact ⟨k + 1, by omega, by go_num, by rw [HE.out]; exact HJ.out _ _ _ hJ3 ⟨gb_put (World.grownBy.refl _ _) 0 _, _, hb4⟩, hb4, by simpa using hz3, fun j hj => (heap_setCell_other W3 _ j _ (by show j ≠ nb; omega)).trans (ho3.out j hj)⟩
        case measure => simp [intOf]; omega
      · gi_wp2
        refine bodyPost_ret (results_none rfl _ _ _) rfl ?_
        exact ⟨⟨_, rfl⟩, .inr ⟨_, ⟨k, hlt, rfl⟩, by rw [HE.out]; exact hJx3⟩⟩
    · obtain rfl : k = 256 := by omega
      gi_wp2
      go_end0
      exact ⟨⟨_, rfl⟩, .inl ⟨_, rfl, hJk⟩⟩
end Go.Proofs.Ytgljfjmffiofkaa
