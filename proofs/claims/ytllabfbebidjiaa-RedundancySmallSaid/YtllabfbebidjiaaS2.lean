/-
  Recent: the iterator over the numbers that are recent at a time, and the list that Recent makes of it. No condition.
-/
import Derived.Test.YtllabfbebidjiaaS1
import Derived.Test.YtllabfbebidjiaaRF
import Derived.RangeFuncNested
import Derived.RangeFuncCalls
import Derived.RangeFuncBox
import Derived.Shelf.Abstract
import Derived.Shelf.RegionOpen
import Derived.OwnWalkIn
import Derived.TacticsInMore
import Derived.LoopNIn
import Derived.LoopIn
import Derived.Deep.MidRow
namespace Go.Proofs.Ytllabfbebidjiaa
open Go.RowKit Go.Shelf
attribute [local go_sem] Oper.semAt_some
/-- the numbers below k that are recent at time t -/
def rcs (nx : Nat → Int) (t : Int) : Nat → List Nat
  | 0 => []
  | k + 1 => if t < nx k then rcs nx t k ++ [k] else rcs nx t k
theorem rcs_len (nx : Nat → Int) (t : Int) : ∀ k, (rcs nx t k).length ≤ k
  | 0 => by simp [rcs]
  | k + 1 => by
    have := rcs_len nx t k
    rw [rcs]
    split
    · simp; omega
    · omega
theorem rcs_mem {nx : Nat → Int} {t : Int} {x : Nat} : ∀ {k : Nat}, x ∈ rcs nx t k ↔ (x < k ∧ t < nx x)
  | 0 => by simp [rcs]
  | k + 1 => by
    rw [rcs]
    by_cases h : t < nx k
    · rw [if_pos h, List.mem_append, rcs_mem, List.mem_singleton]
      constructor
      · rintro (h1 | rfl)
        · exact ⟨by omega, h1.2⟩
        · exact ⟨by omega, h⟩
      · intro h1
        by_cases e : x = k
        · exact .inr e
        · exact .inl ⟨by omega, h1.2⟩
    · rw [if_neg h, rcs_mem]
      constructor
      · intro h1; exact ⟨by omega, h1.2⟩
      · intro h1
        have : x ≠ k := fun e => h (e ▸ h1.2)
        exact ⟨by omega, h1.2⟩
abbrev encN (x : Nat) : Array Value := #[.int .i64 (x : Int)]
def nV (z : List Nat) : List Value := z.map fun (x : Nat) => Value.int .i64 ((x : Nat) : Int)
/-- the array of a selector as a value -/
def aV (f : Nat → Int) : List Value := (List.range 256).map fun i => .int .i64 (f i)
theorem aV_len (f : Nat → Int) : (aV f).length = 256 := by simp [aV]
theorem aV_at (f : Nat → Int) {i : Nat} (hi : i < 256) : (aV f)[i]? = some (.int .i64 (f i)) := by simp [aV, hi]
theorem SelW.load {w : World} {b : Nat} {s : St} (h : SelW w b s) : (Instr.loadAt 56 (.pointer (some ⟨b, 2, none⟩))).run Try.prog w = .ok (.agg (aV s.nxt).toArray) w :=
  run_loadAt_mid w b 2 56 (aV s.nxt) _ (fun j v hv => by
    have hj : j < 256 := by have := (List.getElem?_eq_some_iff.1 hv).1; rwa [aV_len] at this
    rw [aV_at _ hj] at hv
    cases hv
    exact h.nxt hj) Try.underlying56 rfl (by rw [aV_len]; kernel_rfl)
theorem index56 {ar : Array Value} {k : Nat} {v : Value} (w : World) (hs : ar.size = 256) (h : ar[k]? = some v) (hk : k < 256) : (Instr.index 56 (.agg ar) (.int .i64 (k : Int))).run Try.prog w = .ok v w := by
  obtain ⟨_, hv⟩ := Array.getElem?_eq_some_iff.1 h
  simp [Instr.index, run_underlying Try.underlying56, go_sem, hs, hk]
  exact hv
theorem wpIn_of_run {F : Fence} {n : Nat} {P : Program} {o : Oper} {a : Act} {w w' : World} {K : Act → World → Prop} {Q : Exit → Act → World → Prop} {v : Value} (hro : F.round = none) (hab : ∀ f, o.about P w a.eval = some f → F.fn f)
    (h : (execOp a.eval o).run P w = .ok (.value v) w') (hK : K (a.put o.dst v) w') : Oper.wpIn F n P o a w K Q := by
  unfold Oper.wpIn
  rw [hro, Oper.semAt_none, h]
  exact ⟨hab, hK⟩
/-- what a round keeps: the box of the time, all that lay below n₀ -/
def KpN (n₀ tb : Nat) (W W' : World) : Prop := W.heap.size ≤ W'.heap.size ∧ ∀ k, k < n₀ ∨ k = tb → W'.heap[k]? = W.heap[k]?
def SN (nx : Nat → Int) (t : Int) (xs : List Nat) : Prop := xs = rcs nx t 256
def SpN (_ : List Nat) : Prop := True

set_option maxRecDepth 100000 in
set_option maxHeartbeats 4000000 in
theorem recent1 (n l n₀ sb qb tb : Nat) (s : St) (t : Int) (J0 Jx : List Nat → World → Prop) (W : World) (hs : SelW W sb s) (hq : Blk W qb 39 #[.pointer (some ⟨sb, 0, none⟩)]) (ht : Blk W tb 3 #[.int .i64 t]) (h1n : 1 ≤ n)
    (hY : ∀ pre x W1, J0 pre W1 → pre.length < 256 → YieldAt Fence.wide (n - 1) Try.prog l (encN x) W1 fun e W' =>
      (e = .returned (.bool true) ∧ J0 (pre ++ [x]) W' ∧ KpN n₀ tb W1 W') ∨ (e = .returned (.bool false) ∧ Jx (pre ++ [x]) W'))
    (h0 : J0 [] W) :
    CallsIn Fence.wide n Try.prog 45 #[.func (.yield l) #[] #[], .pointer (some ⟨qb, 0, none⟩), .pointer (some ⟨tb, 0, none⟩)] W fun e W' => (∃ v, e = .returned v) ∧ ((∃ xs, SN s.nxt t xs ∧ J0 xs W') ∨ (∃ pre, SpN pre ∧ Jx pre W')) := by
  have HY := Lib.hid hY
  have hld := hs.load
  have yq : W.cell? ⟨qb, 0, none⟩ = some (.pointer (some ⟨sb, 0, none⟩)) := hq.cell 0
  obtain ⟨nx, hnx⟩ : ∃ nx, s.nxt = nx := ⟨_, rfl⟩
  rw [hnx] at hld ⊢
  obtain ⟨ar, har⟩ : ∃ ar : Array Value, (aV nx).toArray = ar := ⟨_, rfl⟩
  have HX : Hid (∀ k, k < 256 → ar[k]? = some (.int .i64 (nx k))) := Lib.hid (fun k hk => by rw [← har]; simpa using aV_at nx hk)
  have HSZ : Hid (ar.size = 256) := Lib.hid (by rw [← har]; simp [aV_len])
  rw [har] at hld
  clear hY har hs hq hnx
  refine callsIn_of_wp Try.func45 rfl trivial ?_ rfl
  simp only [Try.ntmps45, List.size_toArray, List.length_cons, List.length_nil, Nat.reduceAdd, Nat.reduceSub, Array.replicate_succ, Array.replicate_zero, List.push_toArray, List.append_toArray, List.nil_append, List.cons_append]
  gi_wp2_with fail
  refine wpIn_of_run rfl (fun _ _ => trivial) (v := .agg ar) (w' := W) (by simp [execOp, Act.eval, hld, Result.andThen]) ?_
  clear hld
  gi_wp2_with fail
  gi_loopw [10] (fun i wr => ∃ k : Nat, k ≤ 256 ∧ i = .int .i64 k ∧ J0 (rcs nx t k) wr ∧ Blk wr tb 3 #[.int .i64 t])
    (fun i _ => 256 - (intOf i).toNat)
  case atStart => exact ⟨0, Nat.zero_le _, rfl, h0, ht⟩
  case round =>
    obtain ⟨k, hk, rfl, hJk, hbk⟩ := hrel
    have HJ := Lib.hid hJk
    have HB := Lib.hid hbk
    have y0 : wr.cell? ⟨tb, 0, none⟩ = some (.int .i64 t) := hbk.cell 0
    clear hJk hbk
    by_cases hlt : k < 256
    · have hidx := index56 wr HSZ.out (HX.out k hlt) hlt
      have hlt2 : (k : Int) < 256 := by omega
      by_cases htx : t < nx k
      · have HR1 : Hid (rcs nx t (k + 1) = rcs nx t k ++ [k]) := Lib.hid (by rw [rcs, if_pos htx])
        obtain ⟨fn, tmps, assign, body, hy, hR⟩ := HY.out _ k wr HJ.out (Nat.lt_of_le_of_lt (rcs_len nx t k) hlt)
        dsimp only [encN] at hy
        gi_wp2
        refine hR.mono ?_
        rintro e W3 (⟨rfl, hJ3, hk3⟩ | ⟨rfl, hJx3⟩)
        · have hb3 : Blk W3 tb 3 #[.int .i64 t] := (hk3.2 tb (.inr rfl)).trans HB.out
          gi_wp2
          go_roundw
          case rel => exact ⟨k + 1, by omega, by go_num, by rw [HR1.out]; exact hJ3, hb3⟩
          case measure => simp [intOf]; omega
        · gi_wp2
          refine bodyPost_ret (results_none rfl _ _ _) rfl ?_
          exact ⟨⟨_, rfl⟩, .inr ⟨_, trivial, hJx3⟩⟩
      · have HR1 : Hid (rcs nx t (k + 1) = rcs nx t k) := Lib.hid (by rw [rcs, if_neg htx])
        gi_wp2
        refine ⟨(fun _ h => by cases h), ?_⟩
        gi_wp2
        go_roundw
        case rel => exact ⟨k + 1, by omega, by go_num, by rw [HR1.out]; exact HJ.out, HB.out⟩
        case measure => simp [intOf]; omega
    · have hk2 : k = 256 := by omega
      have hge : ¬ (k : Int) < 256 := by omega
      have HE : Hid (SN nx t (rcs nx t k)) := Lib.hid (by unfold SN; rw [hk2])
      clear hk2
      gi_wp2
      go_end0
      exact ⟨⟨_, rfl⟩, .inl ⟨_, HE.out, HJ.out⟩⟩
theorem recent_any (sb : Nat) (t : Int) (w : World) :
    Calls Try.prog 35 #[.pointer (some ⟨sb, 0, none⟩), .int .i64 t] w fun e w' => e = .returned (.func (.func 45) #[] #[.pointer (some ⟨w.heap.size, 0, none⟩), .pointer (some ⟨w.heap.size + 1, 0, none⟩)]) ∧
      (w.alloc (.cells #[.pointer (some ⟨sb, 0, none⟩)] 39)).alloc (.cells #[.int .i64 t] 3) = w' := by
  go_enter Try.func35, Try.ntmps35
  go_wp2
  go_ret
  exact ⟨rfl, rfl⟩
end Go.Proofs.Ytllabfbebidjiaa
