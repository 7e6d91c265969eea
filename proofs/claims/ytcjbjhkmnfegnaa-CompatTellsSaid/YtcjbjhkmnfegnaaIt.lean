/-
  The contract of the iterator of a change's steps (its closure). No condition.
-/
import Derived.Test.YtcjbjhkmnfegnaaP1
import Derived.Test.YtcjbjhkmnfegnaaRF
import Derived.Test.YtcjbjhkmnfegnaaHI
import Derived.RangeFuncNested
import Derived.RangeFuncCalls
import Derived.Shelf.Abstract
import Derived.Shelf.RegionOpen
import Derived.OwnWalkIn
import Derived.TacticsInMore
import Derived.LoopNIn
import Derived.LoopIn
namespace Go.Proofs.Ytcjbjhkmnfegnaa
open Go.RowKit Go.Shelf
attribute [local go_sem] Oper.semAt_some

abbrev encs (x : Nat × Nat) : Array Value := #[.int .i64 (x.1 : Int), .int .i64 (x.2 : Int)]
/-- the iterator's own steps: it makes memory -/
def RI (W W' : World) : Prop := Below W.heap.size W W'
/-- what a round keeps: all below block B, and two boxes -/
def KpI (B g1 g2 : Nat) (W W' : World) : Prop := W.heap.size ≤ W'.heap.size ∧ ∀ k, k < B ∨ k = g1 ∨ k = g2 → W'.heap[k]? = W.heap[k]?
/-- what the iterator wants of memory where the loop is left -/
def ZI (w0 : World) (g1 g2 : Nat) (cs : Array Value) (b : Nat) (W : World) : Prop := Agree w0.heap.size w0 W ∧ Blk W g1 56 cs ∧ Blk W g2 3 #[.int .i64 (b : Int)]
/-- what is yielded -/
def OkI (m : Nat) (Rw : Nat → R) (n : Nat) (S T : Nat → U) (b : Nat) (x : Nat × Nat) : Prop := x.1 < n ∧ stp m Rw n S T b x.1 = true ∧ x.2 = up b x.1
def SI (m : Nat) (Rw : Nat → R) (n : Nat) (S T : Nat → U) (b : Nat) (xs : List (Nat × Nat)) : Prop := xs = elsS m Rw n S T b n
def SpI (m : Nat) (Rw : Nat → R) (n : Nat) (S T : Nat → U) (b : Nat) (pre : List (Nat × Nat)) : Prop := ∃ k, k < n ∧ stp m Rw n S T b k = true ∧ pre = elsS m Rw n S T b k ++ [(k, up b k)]

theorem below_of_drew {w w' : World} (h : Below w.drew.heap.size w.drew w') : Below w.heap.size w w' := ⟨h.os, h.tape, h.output, h.size, h.block⟩
theorem wrap_two {k : Nat} (hk : k < 8) : IntKind.i64.wrap ((2 : Int) ^ k) = 2 ^ k := by
  have : ∀ k : Fin 8, IntKind.i64.wrap ((2 : Int) ^ k.val) = 2 ^ k.val := by decide +kernel
  exact this ⟨k, hk⟩
set_option maxRecDepth 100000 in
set_option maxHeartbeats 4000000 in
theorem steps1 (nn l g1 g2 : Nat) (A1 A2 A3 : Option Addr) (n c1 c2 m c3 b : Nat) (S T : Nat → U) (Rw : Nat → R) (w0 : World) (hS : UnitsIn w0 A1 n S) (hT : UnitsIn w0 A2 n T) (hR : RowsIn w0 A3 m Rw) (hn : n ≤ 8) (hb : b < 256) (hM : ∀ k, k < n → (S k).1 = (T k).1)
    (J0 Jx : List (Nat × Nat) → World → Prop) (hJ : ∀ s A B, J0 s A → RI A B → J0 s B) (hZ : ∀ s A, Jx s A → ZI w0 g1 g2 #[.slice A1 n c1, .slice A2 n c2, .slice A3 m c3] b A) (W : World) (hg1 : Blk W g1 56 #[.slice A1 n c1, .slice A2 n c2, .slice A3 m c3]) (hg2 : Blk W g2 3 #[.int .i64 b]) (hag : Agree w0.heap.size w0 W) (h1n : 1 ≤ nn)
    (hY : ∀ pre x W1, OkI m Rw n S T b x → J0 pre W1 → pre.length < 8 → YieldAt Fence.wide (nn - 1) Try.prog l (encs x) W1 fun e W' =>
      (e = .returned (.bool true) ∧ J0 (pre ++ [x]) W' ∧ KpI w0.heap.size g1 g2 W1 W') ∨ (e = .returned (.bool false) ∧ Jx (pre ++ [x]) W'))
    (h0 : J0 [] W) :
    CallsIn Fence.wide nn Try.prog 42 #[.func (.yield l) #[] #[], .pointer (some ⟨g1, 0, none⟩), .pointer (some ⟨g2, 0, none⟩)] W fun e W' => (∃ v, e = .returned v) ∧ ((∃ xs, SI m Rw n S T b xs ∧ J0 xs W') ∨ (∃ pre, SpI m Rw n S T b pre ∧ Jx pre W')) := by
  obtain ⟨l1, hS'⟩ := id hS
  obtain ⟨l2, hT'⟩ := id hT
  have HS := Lib.hid hS
  have HT := Lib.hid hT
  have HS' := Lib.hid hS'
  have HT' := Lib.hid hT'
  have HR := Lib.hid hR
  have HJ := Lib.hid hJ
  have HZ := Lib.hid hZ
  have HY := Lib.hid hY
  have z0 : W.cell? ⟨g1, 0, none⟩ = some (.slice A1 n c1) := hg1.cell 0
  clear hS hT hS' hT' hR hJ hY hZ
  refine callsIn_of_wp Try.func42 rfl trivial ?_ rfl
  simp only [Try.ntmps42, List.size_toArray, List.length_cons, List.length_nil, Nat.reduceAdd, Nat.reduceSub, Array.replicate_succ, Array.replicate_zero, List.push_toArray, List.append_toArray, List.nil_append, List.cons_append]
  gi_wp2
  gi_loopw [9] (fun i wr => ∃ k : Nat, k ≤ n ∧ i = .int .i64 k ∧ J0 (elsS m Rw n S T b k) wr ∧ Blk wr g1 56 #[.slice A1 n c1, .slice A2 n c2, .slice A3 m c3] ∧ Blk wr g2 3 #[.int .i64 b] ∧ Agree w0.heap.size w0 wr)
    (fun i _ => n - (intOf i).toNat)
  case atStart => exact ⟨0, Nat.zero_le _, rfl, h0, hg1, hg2, hag⟩
  case round =>
    obtain ⟨k, hk, rfl, hJk, h1, h2, hagr⟩ := hrel
    by_cases hlt : k < n
    · have k8 : k < 8 := by omega
      have y2 : wr.cell? ⟨g2, 0, none⟩ = some (.int .i64 b) := h2.cell 0
      gi_wp2
      refine region_S (fun w' : World => w'.cell? ⟨g2, 0, none⟩ = some (.int .i64 b)) (by kernel_rfl) (by exact y2) (fun hS0 => ?_)
      refine as_take (i := 0) (v := ?_) (some 12) (by kernel_rfl) rfl rfl (by kernel_rfl) (by kernel_rfl) (by kernel_rfl) (fun _ _ _ h => h) (fun _ _ _ => trivial) (by kernel_rfl) ?_ (by assumption) ?_
      rotate_left
      · (intro w hSw; (try dsimp only at hSw); go_simp; (first | done | with_reducible rfl))
      simp only [Act.put, List.setIfInBounds_toArray, List.set_cons_zero, List.set_cons_succ]
      refine as_take (i := 1) (v := ?_) (some 13) (by kernel_rfl) rfl rfl (by kernel_rfl) (by kernel_rfl) (by kernel_rfl) (fun _ _ _ h => h) (fun _ _ _ => trivial) (by kernel_rfl) ?_ (by assumption) ?_
      rotate_left
      · (intro w hSw; (try dsimp only at hSw); go_simp; (first | done | with_reducible rfl))
      simp only [Act.put, List.setIfInBounds_toArray, List.set_cons_zero, List.set_cons_succ]
      refine as_take (i := 2) (v := ?_) (some 14) (by kernel_rfl) rfl rfl (by kernel_rfl) (by kernel_rfl) (by kernel_rfl) (fun _ _ _ h => h) (fun _ _ _ => trivial) (by kernel_rfl) ?_ (by assumption) ?_
      rotate_left
      · (intro w hSw; (try dsimp only at hSw); go_simp; (first | done | with_reducible rfl))
      simp only [Act.put, List.setIfInBounds_toArray, List.set_cons_zero, List.set_cons_succ]
      refine as_take (i := 3) (v := ?_) (some 15) (by kernel_rfl) rfl rfl (by kernel_rfl) (by kernel_rfl) (by kernel_rfl) (fun _ _ _ h => h) (fun _ _ _ => trivial) (by kernel_rfl) ?_ (by assumption) ?_
      rotate_left
      · (intro w hSw; (try dsimp only at hSw); go_simp; (first | done | with_reducible rfl))
      simp only [Act.put, List.setIfInBounds_toArray, List.set_cons_zero, List.set_cons_succ]
      refine as_take (i := 4) (v := ?_) (some 5) (by kernel_rfl) rfl rfl (by kernel_rfl) (by kernel_rfl) (by kernel_rfl) (fun _ _ _ h => h) (fun _ _ _ => trivial) (by kernel_rfl) ?_ (by assumption) ?_
      rotate_left
      · (intro w hSw; (try dsimp only at hSw); go_simp; (first | done | with_reducible rfl))
      simp only [Act.put, List.setIfInBounds_toArray, List.set_cons_zero, List.set_cons_succ]
      refine as_done (by kernel_rfl) ?_ _
      rw [wrap_two k8, up_int hb k8]
      clear hS0
      have hJd : J0 (elsS m Rw n S T b k) wr.drew := HJ.out _ _ _ hJk (Below.drew (Below.refl _ _))
      have h1d : Blk wr.drew g1 56 #[.slice A1 n c1, .slice A2 n c2, .slice A3 m c3] := h1
      have h2d : Blk wr.drew g2 3 #[.int .i64 b] := h2
      have hagd : Agree w0.heap.size w0 wr.drew := hagr
      clear hJk h1 h2 hagr y2
      generalize wr.drew = wd at *
      have y2 : wd.cell? ⟨g2, 0, none⟩ = some (.int .i64 b) := h2d.cell 0
      have y3 : wd.cell? ⟨g1, 0, none⟩ = some (.slice A1 n c1) := h1d.cell 0
      have y4 : wd.cell? ⟨g1, 1, none⟩ = some (.slice A2 n c2) := h1d.cell 1
      have y5 : wd.cell? ⟨g1, 2, none⟩ = some (.slice A3 m c3) := h1d.cell 2
      obtain ⟨ob, off, rfl, hob0, hcell⟩ := HS.out.2 (by omega)
      obtain ⟨q6, q7⟩ := hcell k hlt
      clear hcell
      obtain ⟨ob2, off2, rfl, hob20, hcell⟩ := HT.out.2 (by omega)
      obtain ⟨q8, q9⟩ := hcell k hlt
      clear hcell
      have y6 := (World.cell?_of_block (a := ⟨ob, off + k * 2, none⟩) (hagd.2 ob hob0)).trans q6
      have y7 := (World.cell?_of_block (a := ⟨ob, off + k * 2 + 1, none⟩) (hagd.2 ob hob0)).trans q7
      have y8 := (World.cell?_of_block (a := ⟨ob2, off2 + k * 2, none⟩) (hagd.2 ob2 hob20)).trans q8
      have y9 := (World.cell?_of_block (a := ⟨ob2, off2 + k * 2 + 1, none⟩) (hagd.2 ob2 hob20)).trans q9
      have hob : ob < wd.heap.size := Nat.lt_of_lt_of_le hob0 hagd.1
      have hob2 : ob2 < wd.heap.size := Nat.lt_of_lt_of_le hob20 hagd.1
      have Q6 := Lib.hid q6
      have Q7 := Lib.hid q7
      have Q8 := Lib.hid q8
      have Q9 := Lib.hid q9
      clear q6 q7 q8 q9
      have g0 : decide (n ≤ k) = false := decide_eq_false (by omega)
      have g1' : decide ((k : Int) < 0) = false := decide_eq_false (by omega)
      have HJd := Lib.hid hJd
      have H1d := Lib.hid h1d
      have H2d := Lib.hid h2d
      have HAd := Lib.hid hagd
      clear hJd h1d h2d hagd
      cases ht : b.testBit k with
      | true =>
        have HST : Hid (elsS m Rw n S T b (k + 1) = elsS m Rw n S T b k) := Lib.hid (by rw [elsS, if_neg (by simp [stp, ht])]; simp)
        rw [(up_same hb k8).2 ht]
        clear ht
        gi_wp2
        refine region_S (fun w' : World => w'.cell? ⟨g2, 0, none⟩ = some (.int .i64 b) ∧ w'.cell? ⟨g1, 0, none⟩ = some (.slice (some ⟨ob, off, none⟩) n c1) ∧ w'.cell? ⟨g1, 1, none⟩ = some (.slice (some ⟨ob2, off2, none⟩) n c2) ∧ w'.cell? ⟨g1, 2, none⟩ = some (.slice A3 m c3) ∧ w'.cell? ⟨ob, off + k * 2, none⟩ = some (.string (S k).1) ∧ w'.cell? ⟨ob, off + k * 2 + 1, none⟩ = some (.int .i64 (S k).2) ∧ w'.cell? ⟨ob2, off2 + k * 2, none⟩ = some (.string (T k).1) ∧ w'.cell? ⟨ob2, off2 + k * 2 + 1, none⟩ = some (.int .i64 (T k).2)) (by kernel_rfl) (by exact ⟨y2, y3, y4, y5, y6, y7, y8, y9⟩) (fun hS0 => ?_)
        refine as_take (i := 0) (v := ?_) (some 16) (by kernel_rfl) rfl rfl (by kernel_rfl) (by kernel_rfl) (by kernel_rfl) (fun _ _ _ h => h) (fun _ _ _ => trivial) (by kernel_rfl) ?_ (by assumption) ?_
        rotate_left
        · (intro w hSw; (try dsimp only at hSw); go_simp; (first | done | with_reducible rfl))
        simp only [Act.put, List.setIfInBounds_toArray, List.set_cons_zero, List.set_cons_succ]
        refine as_take (i := 1) (v := ?_) (some 17) (by kernel_rfl) rfl rfl (by kernel_rfl) (by kernel_rfl) (by kernel_rfl) (fun _ _ _ h => h) (fun _ _ _ => trivial) (by kernel_rfl) ?_ (by assumption) ?_
        rotate_left
        · (intro w hSw; (try dsimp only at hSw); go_simp; (first | done | with_reducible rfl))
        simp only [Act.put, List.setIfInBounds_toArray, List.set_cons_zero, List.set_cons_succ]
        refine as_take (i := 2) (v := ?_) (some 18) (by kernel_rfl) rfl rfl (by kernel_rfl) (by kernel_rfl) (by kernel_rfl) (fun _ _ _ h => h) (fun _ _ _ => trivial) (by kernel_rfl) ?_ (by assumption) ?_
        rotate_left
        · (intro w hSw; (try dsimp only at hSw); go_simp; (first | done | with_reducible rfl))
        simp only [Act.put, List.setIfInBounds_toArray, List.set_cons_zero, List.set_cons_succ]
        refine as_take (i := 3) (v := ?_) (some 19) (by kernel_rfl) rfl rfl (by kernel_rfl) (by kernel_rfl) (by kernel_rfl) (fun _ _ _ h => h) (fun _ _ _ => trivial) (by kernel_rfl) ?_ (by assumption) ?_
        rotate_left
        · (intro w hSw; (try dsimp only at hSw); go_simp; (first | done | with_reducible rfl))
        simp only [Act.put, List.setIfInBounds_toArray, List.set_cons_zero, List.set_cons_succ]
        refine as_skip (i := 4) (some 20) (by kernel_rfl) rfl rfl (by kernel_rfl) (by kernel_rfl) (by kernel_rfl) (fun _ _ _ h => h) (fun _ _ _ => trivial) (by kernel_rfl) (by assumption) ?_
        simp only [Act.put, List.setIfInBounds_toArray, List.set_cons_zero, List.set_cons_succ]
        refine as_skip (i := 5) (some 21) (by kernel_rfl) rfl rfl (by kernel_rfl) (by kernel_rfl) (by kernel_rfl) (fun _ _ _ h => h) (fun _ _ _ => trivial) (by kernel_rfl) (by assumption) ?_
        simp only [Act.put, List.setIfInBounds_toArray, List.set_cons_zero, List.set_cons_succ]
        refine as_skip (i := 6) (some 22) (by kernel_rfl) rfl rfl (by kernel_rfl) (by kernel_rfl) (by kernel_rfl) (fun _ _ _ h => h) (fun _ _ _ => trivial) (by kernel_rfl) (by assumption) ?_
        simp only [Act.put, List.setIfInBounds_toArray, List.set_cons_zero, List.set_cons_succ]
        refine as_skip (i := 7) (some 23) (by kernel_rfl) rfl rfl (by kernel_rfl) (by kernel_rfl) (by kernel_rfl) (fun _ _ _ h => h) (fun _ _ _ => trivial) (by kernel_rfl) (by assumption) ?_
        simp only [Act.put, List.setIfInBounds_toArray, List.set_cons_zero, List.set_cons_succ]
        refine as_skip (i := 8) (some 24) (by kernel_rfl) rfl rfl (by kernel_rfl) (by kernel_rfl) (by kernel_rfl) (fun _ _ _ h => h) (fun _ _ _ => trivial) (by kernel_rfl) (by assumption) ?_
        simp only [Act.put, List.setIfInBounds_toArray, List.set_cons_zero, List.set_cons_succ]
        refine as_skip (i := 9) (some 25) (by kernel_rfl) rfl rfl (by kernel_rfl) (by kernel_rfl) (by kernel_rfl) (fun _ _ _ h => h) (fun _ _ _ => trivial) (by kernel_rfl) (by assumption) ?_
        simp only [Act.put, List.setIfInBounds_toArray, List.set_cons_zero, List.set_cons_succ]
        refine as_skip (i := 10) (some 26) (by kernel_rfl) rfl rfl (by kernel_rfl) (by kernel_rfl) (by kernel_rfl) (fun _ _ _ h => h) (fun _ _ _ => trivial) (by kernel_rfl) (by assumption) ?_
        simp only [Act.put, List.setIfInBounds_toArray, List.set_cons_zero, List.set_cons_succ]
        refine as_skip (i := 11) (some 27) (by kernel_rfl) rfl rfl (by kernel_rfl) (by kernel_rfl) (by kernel_rfl) (fun _ _ _ h => h) (fun _ _ _ => trivial) (by kernel_rfl) (by assumption) ?_
        simp only [Act.put, List.setIfInBounds_toArray, List.set_cons_zero, List.set_cons_succ]
        refine as_skip (i := 12) (some 28) (by kernel_rfl) rfl rfl (by kernel_rfl) (by kernel_rfl) (by kernel_rfl) (fun _ _ _ h => h) (fun _ _ _ => trivial) (by kernel_rfl) (by assumption) ?_
        simp only [Act.put, List.setIfInBounds_toArray, List.set_cons_zero, List.set_cons_succ]
        refine as_skip (i := 13) (some 29) (by kernel_rfl) rfl rfl (by kernel_rfl) (by kernel_rfl) (by kernel_rfl) (fun _ _ _ h => h) (fun _ _ _ => trivial) (by kernel_rfl) (by assumption) ?_
        simp only [Act.put, List.setIfInBounds_toArray, List.set_cons_zero, List.set_cons_succ]
        refine as_skip (i := 14) (some 30) (by kernel_rfl) rfl rfl (by kernel_rfl) (by kernel_rfl) (by kernel_rfl) (fun _ _ _ h => h) (fun _ _ _ => trivial) (by kernel_rfl) (by assumption) ?_
        simp only [Act.put, List.setIfInBounds_toArray, List.set_cons_zero, List.set_cons_succ]
        refine as_take (i := 15) (v := ?_) (some 31) (by kernel_rfl) rfl rfl (by kernel_rfl) (by kernel_rfl) (by kernel_rfl) (fun _ _ _ h => h) (fun _ _ _ => trivial) (by kernel_rfl) ?_ (by assumption) ?_
        rotate_left
        · (intro w hSw; (try dsimp only at hSw); go_simp; (first | done | with_reducible rfl))
        simp only [Act.put, List.setIfInBounds_toArray, List.set_cons_zero, List.set_cons_succ]
        refine as_take (i := 16) (v := ?_) (some 32) (by kernel_rfl) rfl rfl (by kernel_rfl) (by kernel_rfl) (by kernel_rfl) (fun _ _ _ h => h) (fun _ _ _ => trivial) (by kernel_rfl) ?_ (by assumption) ?_
        rotate_left
        · (intro w hSw; (try dsimp only at hSw); go_simp; (first | done | with_reducible rfl))
        simp only [Act.put, List.setIfInBounds_toArray, List.set_cons_zero, List.set_cons_succ]
        refine as_skip (i := 17) (some 33) (by kernel_rfl) rfl rfl (by kernel_rfl) (by kernel_rfl) (by kernel_rfl) (fun _ _ _ h => h) (fun _ _ _ => trivial) (by kernel_rfl) (by assumption) ?_
        simp only [Act.put, List.setIfInBounds_toArray, List.set_cons_zero, List.set_cons_succ]
        refine as_skip (i := 18) (some 34) (by kernel_rfl) rfl rfl (by kernel_rfl) (by kernel_rfl) (by kernel_rfl) (fun _ _ _ h => h) (fun _ _ _ => trivial) (by kernel_rfl) (by assumption) ?_
        simp only [Act.put, List.setIfInBounds_toArray, List.set_cons_zero, List.set_cons_succ]
        refine as_skip (i := 19) (some 35) (by kernel_rfl) rfl rfl (by kernel_rfl) (by kernel_rfl) (by kernel_rfl) (fun _ _ _ h => h) (fun _ _ _ => trivial) (by kernel_rfl) (by assumption) ?_
        simp only [Act.put, List.setIfInBounds_toArray, List.set_cons_zero, List.set_cons_succ]
        refine as_skip (i := 20) (some 36) (by kernel_rfl) rfl rfl (by kernel_rfl) (by kernel_rfl) (by kernel_rfl) (fun _ _ _ h => h) (fun _ _ _ => trivial) (by kernel_rfl) (by assumption) ?_
        simp only [Act.put, List.setIfInBounds_toArray, List.set_cons_zero, List.set_cons_succ]
        refine as_skip (i := 21) (some 37) (by kernel_rfl) rfl rfl (by kernel_rfl) (by kernel_rfl) (by kernel_rfl) (fun _ _ _ h => h) (fun _ _ _ => trivial) (by kernel_rfl) (by assumption) ?_
        simp only [Act.put, List.setIfInBounds_toArray, List.set_cons_zero, List.set_cons_succ]
        refine as_skip (i := 22) (some 38) (by kernel_rfl) rfl rfl (by kernel_rfl) (by kernel_rfl) (by kernel_rfl) (fun _ _ _ h => h) (fun _ _ _ => trivial) (by kernel_rfl) (by assumption) ?_
        simp only [Act.put, List.setIfInBounds_toArray, List.set_cons_zero, List.set_cons_succ]
        refine as_take (i := 23) (v := ?_) (some 39) (by kernel_rfl) rfl rfl (by kernel_rfl) (by kernel_rfl) (by kernel_rfl) (fun _ _ _ h => h) (fun _ _ _ => trivial) (by kernel_rfl) ?_ (by assumption) ?_
        rotate_left
        · (intro w hSw; (try dsimp only at hSw); go_simp; (first | done | with_reducible rfl))
        simp only [Act.put, List.setIfInBounds_toArray, List.set_cons_zero, List.set_cons_succ]
        refine as_take (i := 24) (v := ?_) (some 40) (by kernel_rfl) rfl rfl (by kernel_rfl) (by kernel_rfl) (by kernel_rfl) (fun _ _ _ h => h) (fun _ _ _ => trivial) (by kernel_rfl) ?_ (by assumption) ?_
        rotate_left
        · (intro w hSw; (try dsimp only at hSw); go_simp; (first | done | with_reducible rfl))
        simp only [Act.put, List.setIfInBounds_toArray, List.set_cons_zero, List.set_cons_succ]
        refine as_skip (i := 25) (some 41) (by kernel_rfl) rfl rfl (by kernel_rfl) (by kernel_rfl) (by kernel_rfl) (fun _ _ _ h => h) (fun _ _ _ => trivial) (by kernel_rfl) (by assumption) ?_
        simp only [Act.put, List.setIfInBounds_toArray, List.set_cons_zero, List.set_cons_succ]
        refine as_skip (i := 26) (some 42) (by kernel_rfl) rfl rfl (by kernel_rfl) (by kernel_rfl) (by kernel_rfl) (fun _ _ _ h => h) (fun _ _ _ => trivial) (by kernel_rfl) (by assumption) ?_
        simp only [Act.put, List.setIfInBounds_toArray, List.set_cons_zero, List.set_cons_succ]
        refine as_skip (i := 27) (some 43) (by kernel_rfl) rfl rfl (by kernel_rfl) (by kernel_rfl) (by kernel_rfl) (fun _ _ _ h => h) (fun _ _ _ => trivial) (by kernel_rfl) (by assumption) ?_
        simp only [Act.put, List.setIfInBounds_toArray, List.set_cons_zero, List.set_cons_succ]
        refine as_skip (i := 28) (some 44) (by kernel_rfl) rfl rfl (by kernel_rfl) (by kernel_rfl) (by kernel_rfl) (fun _ _ _ h => h) (fun _ _ _ => trivial) (by kernel_rfl) (by assumption) ?_
        simp only [Act.put, List.setIfInBounds_toArray, List.set_cons_zero, List.set_cons_succ]
        refine as_skip (i := 29) (some 45) (by kernel_rfl) rfl rfl (by kernel_rfl) (by kernel_rfl) (by kernel_rfl) (fun _ _ _ h => h) (fun _ _ _ => trivial) (by kernel_rfl) (by assumption) ?_
        simp only [Act.put, List.setIfInBounds_toArray, List.set_cons_zero, List.set_cons_succ]
        refine as_take (i := 30) (v := ?_) (some 46) (by kernel_rfl) rfl rfl (by kernel_rfl) (by kernel_rfl) (by kernel_rfl) (fun _ _ _ h => h) (fun _ _ _ => trivial) (by kernel_rfl) ?_ (by assumption) ?_
        rotate_left
        · (intro w hSw; (try dsimp only at hSw); go_simp; (first | done | with_reducible rfl))
        simp only [Act.put, List.setIfInBounds_toArray, List.set_cons_zero, List.set_cons_succ]
        refine as_done (by kernel_rfl) ?_ _
        gi_wp2
        go_roundw
        case rel => exact ⟨k + 1, by omega, by go_num, by rw [HST.out]; exact HJ.out _ _ _ HJd.out (Below.drew (Below.refl _ _)), H1d.out, H2d.out, HAd.out⟩
        case measure => simp [intOf]; omega
      | false =>
        have hne := (Bool.eq_false_iff.2 (fun e => by rw [(up_same hb k8).1 (by simpa using e)] at ht; cases ht) : (up b k == b) = false)
        have hne2 : (((up b k : Nat) : Int) != ((b : Nat) : Int)) = true := by simp at hne ⊢; omega
        have hmk := hM k hlt
        rw [← hmk] at y8
        obtain ⟨sa, hsa⟩ : ∃ sa, (S k).1 = sa := ⟨_, rfl⟩
        obtain ⟨sv, hsv⟩ : ∃ sv, (S k).2 = sv := ⟨_, rfl⟩
        obtain ⟨tv, htv⟩ : ∃ tv, (T k).2 = tv := ⟨_, rfl⟩
        have hdf : Hid (df S T k = !(sv == tv)) := Lib.hid (by unfold df; rw [hmk, hsv, htv]; simp)
        rw [← hmk] at Q8
        rw [hsa] at y6 y8 Q6 Q8
        rw [hsv] at y7 Q7
        rw [htv] at y9 Q9
        clear hsa hsv htv hmk
        by_cases hv : sv = tv
        · subst hv
          have HST : Hid (elsS m Rw n S T b (k + 1) = elsS m Rw n S T b k) := Lib.hid (by rw [elsS, if_neg (by simp [stp, hdf.out])]; simp)
          clear ht
          gi_wp2
          refine region_S (fun w' : World => w'.cell? ⟨g2, 0, none⟩ = some (.int .i64 b) ∧ w'.cell? ⟨g1, 0, none⟩ = some (.slice (some ⟨ob, off, none⟩) n c1) ∧ w'.cell? ⟨g1, 1, none⟩ = some (.slice (some ⟨ob2, off2, none⟩) n c2) ∧ w'.cell? ⟨g1, 2, none⟩ = some (.slice A3 m c3) ∧ w'.cell? ⟨ob, off + k * 2, none⟩ = some (.string sa) ∧ w'.cell? ⟨ob, off + k * 2 + 1, none⟩ = some (.int .i64 sv) ∧ w'.cell? ⟨ob2, off2 + k * 2, none⟩ = some (.string sa) ∧ w'.cell? ⟨ob2, off2 + k * 2 + 1, none⟩ = some (.int .i64 sv)) (by kernel_rfl) (by exact ⟨y2, y3, y4, y5, y6, y7, y8, y9⟩) (fun hS0 => ?_)
          refine as_take (i := 0) (v := ?_) (some 16) (by kernel_rfl) rfl rfl (by kernel_rfl) (by kernel_rfl) (by kernel_rfl) (fun _ _ _ h => h) (fun _ _ _ => trivial) (by kernel_rfl) ?_ (by assumption) ?_
          rotate_left
          · (intro w hSw; (try dsimp only at hSw); go_simp; (first | done | with_reducible rfl))
          simp only [Act.put, List.setIfInBounds_toArray, List.set_cons_zero, List.set_cons_succ]
          refine as_take (i := 1) (v := ?_) (some 17) (by kernel_rfl) rfl rfl (by kernel_rfl) (by kernel_rfl) (by kernel_rfl) (fun _ _ _ h => h) (fun _ _ _ => trivial) (by kernel_rfl) ?_ (by assumption) ?_
          rotate_left
          · (intro w hSw; (try dsimp only at hSw); go_simp; (first | done | with_reducible rfl))
          simp only [Act.put, List.setIfInBounds_toArray, List.set_cons_zero, List.set_cons_succ]
          refine as_take (i := 2) (v := ?_) (some 18) (by kernel_rfl) rfl rfl (by kernel_rfl) (by kernel_rfl) (by kernel_rfl) (fun _ _ _ h => h) (fun _ _ _ => trivial) (by kernel_rfl) ?_ (by assumption) ?_
          rotate_left
          · (intro w hSw; (try dsimp only at hSw); go_simp; (first | done | with_reducible rfl))
          simp only [Act.put, List.setIfInBounds_toArray, List.set_cons_zero, List.set_cons_succ]
          refine as_take (i := 3) (v := ?_) (some 19) (by kernel_rfl) rfl rfl (by kernel_rfl) (by kernel_rfl) (by kernel_rfl) (fun _ _ _ h => h) (fun _ _ _ => trivial) (by kernel_rfl) ?_ (by assumption) ?_
          rotate_left
          · (intro w hSw; (try dsimp only at hSw); go_simp; (first | done | with_reducible rfl))
          simp only [Act.put, List.setIfInBounds_toArray, List.set_cons_zero, List.set_cons_succ]
          refine as_take (i := 4) (v := ?_) (some 20) (by kernel_rfl) rfl rfl (by kernel_rfl) (by kernel_rfl) (by kernel_rfl) (fun _ _ _ h => h) (fun _ _ _ => trivial) (by kernel_rfl) ?_ (by assumption) ?_
          rotate_left
          · (intro w hSw; (try dsimp only at hSw); go_simp; (first | done | with_reducible rfl))
          simp only [Act.put, List.setIfInBounds_toArray, List.set_cons_zero, List.set_cons_succ]
          refine as_take (i := 5) (v := ?_) (some 21) (by kernel_rfl) rfl rfl (by kernel_rfl) (by kernel_rfl) (by kernel_rfl) (fun _ _ _ h => h) (fun _ _ _ => trivial) (by kernel_rfl) ?_ (by assumption) ?_
          rotate_left
          · (intro w hSw; (try dsimp only at hSw); go_simp; (first | done | with_reducible rfl))
          simp only [Act.put, List.setIfInBounds_toArray, List.set_cons_zero, List.set_cons_succ]
          refine as_take (i := 6) (v := ?_) (some 22) (by kernel_rfl) rfl rfl (by kernel_rfl) (by kernel_rfl) (by kernel_rfl) (fun _ _ _ h => h) (fun _ _ _ => trivial) (by kernel_rfl) ?_ (by assumption) ?_
          rotate_left
          · (intro w hSw; (try dsimp only at hSw); go_simp; (first | done | with_reducible rfl))
          simp only [Act.put, List.setIfInBounds_toArray, List.set_cons_zero, List.set_cons_succ]
          refine as_take (i := 7) (v := ?_) (some 23) (by kernel_rfl) rfl rfl (by kernel_rfl) (by kernel_rfl) (by kernel_rfl) (fun _ _ _ h => h) (fun _ _ _ => trivial) (by kernel_rfl) ?_ (by assumption) ?_
          rotate_left
          · (intro w hSw; (try dsimp only at hSw); go_simp; (first | done | with_reducible rfl))
          simp only [Act.put, List.setIfInBounds_toArray, List.set_cons_zero, List.set_cons_succ]
          refine as_take (i := 8) (v := ?_) (some 24) (by kernel_rfl) rfl rfl (by kernel_rfl) (by kernel_rfl) (by kernel_rfl) (fun _ _ _ h => h) (fun _ _ _ => trivial) (by kernel_rfl) ?_ (by assumption) ?_
          rotate_left
          · (intro w hSw; (try dsimp only at hSw); go_simp; (first | done | with_reducible rfl))
          simp only [Act.put, List.setIfInBounds_toArray, List.set_cons_zero, List.set_cons_succ]
          refine as_take (i := 9) (v := ?_) (some 25) (by kernel_rfl) rfl rfl (by kernel_rfl) (by kernel_rfl) (by kernel_rfl) (fun _ _ _ h => h) (fun _ _ _ => trivial) (by kernel_rfl) ?_ (by assumption) ?_
          rotate_left
          · (intro w hSw; (try dsimp only at hSw); go_simp; (first | done | with_reducible rfl))
          simp only [Act.put, List.setIfInBounds_toArray, List.set_cons_zero, List.set_cons_succ]
          refine as_take (i := 10) (v := ?_) (some 26) (by kernel_rfl) rfl rfl (by kernel_rfl) (by kernel_rfl) (by kernel_rfl) (fun _ _ _ h => h) (fun _ _ _ => trivial) (by kernel_rfl) ?_ (by assumption) ?_
          rotate_left
          · (intro w hSw; (try dsimp only at hSw); go_simp; (first | done | with_reducible rfl))
          simp only [Act.put, List.setIfInBounds_toArray, List.set_cons_zero, List.set_cons_succ]
          refine as_take (i := 11) (v := ?_) (some 27) (by kernel_rfl) rfl rfl (by kernel_rfl) (by kernel_rfl) (by kernel_rfl) (fun _ _ _ h => h) (fun _ _ _ => trivial) (by kernel_rfl) ?_ (by assumption) ?_
          rotate_left
          · (intro w hSw; (try dsimp only at hSw); go_simp; (first | done | with_reducible rfl))
          simp only [Act.put, List.setIfInBounds_toArray, List.set_cons_zero, List.set_cons_succ]
          refine as_take (i := 12) (v := ?_) (some 28) (by kernel_rfl) rfl rfl (by kernel_rfl) (by kernel_rfl) (by kernel_rfl) (fun _ _ _ h => h) (fun _ _ _ => trivial) (by kernel_rfl) ?_ (by assumption) ?_
          rotate_left
          · (intro w hSw; (try dsimp only at hSw); go_simp; (first | done | with_reducible rfl))
          simp only [Act.put, List.setIfInBounds_toArray, List.set_cons_zero, List.set_cons_succ]
          refine as_take (i := 13) (v := ?_) (some 29) (by kernel_rfl) rfl rfl (by kernel_rfl) (by kernel_rfl) (by kernel_rfl) (fun _ _ _ h => h) (fun _ _ _ => trivial) (by kernel_rfl) ?_ (by assumption) ?_
          rotate_left
          · (intro w hSw; (try dsimp only at hSw); go_simp; (first | done | with_reducible rfl))
          simp only [Act.put, List.setIfInBounds_toArray, List.set_cons_zero, List.set_cons_succ]
          refine as_take (i := 14) (v := ?_) (some 30) (by kernel_rfl) rfl rfl (by kernel_rfl) (by kernel_rfl) (by kernel_rfl) (fun _ _ _ h => h) (fun _ _ _ => trivial) (by kernel_rfl) ?_ (by assumption) ?_
          rotate_left
          · (intro w hSw; (try dsimp only at hSw); go_simp; (first | done | with_reducible rfl))
          simp only [Act.put, List.setIfInBounds_toArray, List.set_cons_zero, List.set_cons_succ]
          refine as_take (i := 15) (v := ?_) (some 31) (by kernel_rfl) rfl rfl (by kernel_rfl) (by kernel_rfl) (by kernel_rfl) (fun _ _ _ h => h) (fun _ _ _ => trivial) (by kernel_rfl) ?_ (by assumption) ?_
          rotate_left
          · (intro w hSw; (try dsimp only at hSw); go_simp; (first | done | with_reducible rfl))
          simp only [Act.put, List.setIfInBounds_toArray, List.set_cons_zero, List.set_cons_succ]
          refine as_take (i := 16) (v := ?_) (some 32) (by kernel_rfl) rfl rfl (by kernel_rfl) (by kernel_rfl) (by kernel_rfl) (fun _ _ _ h => h) (fun _ _ _ => trivial) (by kernel_rfl) ?_ (by assumption) ?_
          rotate_left
          · (intro w hSw; (try dsimp only at hSw); go_simp; (first | done | with_reducible rfl))
          simp only [Act.put, List.setIfInBounds_toArray, List.set_cons_zero, List.set_cons_succ]
          refine as_skip (i := 17) (some 33) (by kernel_rfl) rfl rfl (by kernel_rfl) (by kernel_rfl) (by kernel_rfl) (fun _ _ _ h => h) (fun _ _ _ => trivial) (by kernel_rfl) (by assumption) ?_
          simp only [Act.put, List.setIfInBounds_toArray, List.set_cons_zero, List.set_cons_succ]
          refine as_skip (i := 18) (some 34) (by kernel_rfl) rfl rfl (by kernel_rfl) (by kernel_rfl) (by kernel_rfl) (fun _ _ _ h => h) (fun _ _ _ => trivial) (by kernel_rfl) (by assumption) ?_
          simp only [Act.put, List.setIfInBounds_toArray, List.set_cons_zero, List.set_cons_succ]
          refine as_skip (i := 19) (some 35) (by kernel_rfl) rfl rfl (by kernel_rfl) (by kernel_rfl) (by kernel_rfl) (fun _ _ _ h => h) (fun _ _ _ => trivial) (by kernel_rfl) (by assumption) ?_
          simp only [Act.put, List.setIfInBounds_toArray, List.set_cons_zero, List.set_cons_succ]
          refine as_skip (i := 20) (some 36) (by kernel_rfl) rfl rfl (by kernel_rfl) (by kernel_rfl) (by kernel_rfl) (fun _ _ _ h => h) (fun _ _ _ => trivial) (by kernel_rfl) (by assumption) ?_
          simp only [Act.put, List.setIfInBounds_toArray, List.set_cons_zero, List.set_cons_succ]
          refine as_skip (i := 21) (some 37) (by kernel_rfl) rfl rfl (by kernel_rfl) (by kernel_rfl) (by kernel_rfl) (fun _ _ _ h => h) (fun _ _ _ => trivial) (by kernel_rfl) (by assumption) ?_
          simp only [Act.put, List.setIfInBounds_toArray, List.set_cons_zero, List.set_cons_succ]
          refine as_skip (i := 22) (some 38) (by kernel_rfl) rfl rfl (by kernel_rfl) (by kernel_rfl) (by kernel_rfl) (fun _ _ _ h => h) (fun _ _ _ => trivial) (by kernel_rfl) (by assumption) ?_
          simp only [Act.put, List.setIfInBounds_toArray, List.set_cons_zero, List.set_cons_succ]
          refine as_take (i := 23) (v := ?_) (some 39) (by kernel_rfl) rfl rfl (by kernel_rfl) (by kernel_rfl) (by kernel_rfl) (fun _ _ _ h => h) (fun _ _ _ => trivial) (by kernel_rfl) ?_ (by assumption) ?_
          rotate_left
          · (intro w hSw; (try dsimp only at hSw); go_simp; (first | done | with_reducible rfl))
          simp only [Act.put, List.setIfInBounds_toArray, List.set_cons_zero, List.set_cons_succ]
          refine as_take (i := 24) (v := ?_) (some 40) (by kernel_rfl) rfl rfl (by kernel_rfl) (by kernel_rfl) (by kernel_rfl) (fun _ _ _ h => h) (fun _ _ _ => trivial) (by kernel_rfl) ?_ (by assumption) ?_
          rotate_left
          · (intro w hSw; (try dsimp only at hSw); go_simp; (first | done | with_reducible rfl))
          simp only [Act.put, List.setIfInBounds_toArray, List.set_cons_zero, List.set_cons_succ]
          refine as_skip (i := 25) (some 41) (by kernel_rfl) rfl rfl (by kernel_rfl) (by kernel_rfl) (by kernel_rfl) (fun _ _ _ h => h) (fun _ _ _ => trivial) (by kernel_rfl) (by assumption) ?_
          simp only [Act.put, List.setIfInBounds_toArray, List.set_cons_zero, List.set_cons_succ]
          refine as_skip (i := 26) (some 42) (by kernel_rfl) rfl rfl (by kernel_rfl) (by kernel_rfl) (by kernel_rfl) (fun _ _ _ h => h) (fun _ _ _ => trivial) (by kernel_rfl) (by assumption) ?_
          simp only [Act.put, List.setIfInBounds_toArray, List.set_cons_zero, List.set_cons_succ]
          refine as_skip (i := 27) (some 43) (by kernel_rfl) rfl rfl (by kernel_rfl) (by kernel_rfl) (by kernel_rfl) (fun _ _ _ h => h) (fun _ _ _ => trivial) (by kernel_rfl) (by assumption) ?_
          simp only [Act.put, List.setIfInBounds_toArray, List.set_cons_zero, List.set_cons_succ]
          refine as_skip (i := 28) (some 44) (by kernel_rfl) rfl rfl (by kernel_rfl) (by kernel_rfl) (by kernel_rfl) (fun _ _ _ h => h) (fun _ _ _ => trivial) (by kernel_rfl) (by assumption) ?_
          simp only [Act.put, List.setIfInBounds_toArray, List.set_cons_zero, List.set_cons_succ]
          refine as_skip (i := 29) (some 45) (by kernel_rfl) rfl rfl (by kernel_rfl) (by kernel_rfl) (by kernel_rfl) (fun _ _ _ h => h) (fun _ _ _ => trivial) (by kernel_rfl) (by assumption) ?_
          simp only [Act.put, List.setIfInBounds_toArray, List.set_cons_zero, List.set_cons_succ]
          refine as_take (i := 30) (v := ?_) (some 46) (by kernel_rfl) rfl rfl (by kernel_rfl) (by kernel_rfl) (by kernel_rfl) (fun _ _ _ h => h) (fun _ _ _ => trivial) (by kernel_rfl) ?_ (by assumption) ?_
          rotate_left
          · (intro w hSw; (try dsimp only at hSw); go_simp; (first | done | with_reducible rfl))
          simp only [Act.put, List.setIfInBounds_toArray, List.set_cons_zero, List.set_cons_succ]
          refine as_done (by kernel_rfl) ?_ _
          gi_wp2
          go_roundw
          case rel => exact ⟨k + 1, by omega, by go_num, by rw [HST.out]; exact HJ.out _ _ _ HJd.out (Below.drew (Below.refl _ _)), H1d.out, H2d.out, HAd.out⟩
          case measure => simp [intOf]; omega
        · have hdt : Hid (df S T k = true) := Lib.hid (by rw [hdf.out]; simpa using hv)
          clear hdf
          cases hcx : cmp m Rw (mx S T (up b k)) n with
          | false =>
            have HCX := Lib.hid hcx
            have HST : Hid (elsS m Rw n S T b (k + 1) = elsS m Rw n S T b k) := Lib.hid (by rw [elsS, if_neg (by simp [stp, hcx])]; simp)
            clear hcx ht
            gi_wp2
            refine region_S (fun w' : World => w'.cell? ⟨g2, 0, none⟩ = some (.int .i64 b) ∧ w'.cell? ⟨g1, 0, none⟩ = some (.slice (some ⟨ob, off, none⟩) n c1) ∧ w'.cell? ⟨g1, 1, none⟩ = some (.slice (some ⟨ob2, off2, none⟩) n c2) ∧ w'.cell? ⟨g1, 2, none⟩ = some (.slice A3 m c3) ∧ w'.cell? ⟨ob, off + k * 2, none⟩ = some (.string sa) ∧ w'.cell? ⟨ob, off + k * 2 + 1, none⟩ = some (.int .i64 sv) ∧ w'.cell? ⟨ob2, off2 + k * 2, none⟩ = some (.string sa) ∧ w'.cell? ⟨ob2, off2 + k * 2 + 1, none⟩ = some (.int .i64 tv)) (by kernel_rfl) (by exact ⟨y2, y3, y4, y5, y6, y7, y8, y9⟩) (fun hS0 => ?_)
            refine as_take (i := 0) (v := ?_) (some 16) (by kernel_rfl) rfl rfl (by kernel_rfl) (by kernel_rfl) (by kernel_rfl) (fun _ _ _ h => h) (fun _ _ _ => trivial) (by kernel_rfl) ?_ (by assumption) ?_
            rotate_left
            · (intro w hSw; (try dsimp only at hSw); go_simp; (first | done | with_reducible rfl))
            simp only [Act.put, List.setIfInBounds_toArray, List.set_cons_zero, List.set_cons_succ]
            refine as_take (i := 1) (v := ?_) (some 17) (by kernel_rfl) rfl rfl (by kernel_rfl) (by kernel_rfl) (by kernel_rfl) (fun _ _ _ h => h) (fun _ _ _ => trivial) (by kernel_rfl) ?_ (by assumption) ?_
            rotate_left
            · (intro w hSw; (try dsimp only at hSw); go_simp; (first | done | with_reducible rfl))
            simp only [Act.put, List.setIfInBounds_toArray, List.set_cons_zero, List.set_cons_succ]
            refine as_take (i := 2) (v := ?_) (some 18) (by kernel_rfl) rfl rfl (by kernel_rfl) (by kernel_rfl) (by kernel_rfl) (fun _ _ _ h => h) (fun _ _ _ => trivial) (by kernel_rfl) ?_ (by assumption) ?_
            rotate_left
            · (intro w hSw; (try dsimp only at hSw); go_simp; (first | done | with_reducible rfl))
            simp only [Act.put, List.setIfInBounds_toArray, List.set_cons_zero, List.set_cons_succ]
            refine as_take (i := 3) (v := ?_) (some 19) (by kernel_rfl) rfl rfl (by kernel_rfl) (by kernel_rfl) (by kernel_rfl) (fun _ _ _ h => h) (fun _ _ _ => trivial) (by kernel_rfl) ?_ (by assumption) ?_
            rotate_left
            · (intro w hSw; (try dsimp only at hSw); go_simp; (first | done | with_reducible rfl))
            simp only [Act.put, List.setIfInBounds_toArray, List.set_cons_zero, List.set_cons_succ]
            refine as_take (i := 4) (v := ?_) (some 20) (by kernel_rfl) rfl rfl (by kernel_rfl) (by kernel_rfl) (by kernel_rfl) (fun _ _ _ h => h) (fun _ _ _ => trivial) (by kernel_rfl) ?_ (by assumption) ?_
            rotate_left
            · (intro w hSw; (try dsimp only at hSw); go_simp; (first | done | with_reducible rfl))
            simp only [Act.put, List.setIfInBounds_toArray, List.set_cons_zero, List.set_cons_succ]
            refine as_take (i := 5) (v := ?_) (some 21) (by kernel_rfl) rfl rfl (by kernel_rfl) (by kernel_rfl) (by kernel_rfl) (fun _ _ _ h => h) (fun _ _ _ => trivial) (by kernel_rfl) ?_ (by assumption) ?_
            rotate_left
            · (intro w hSw; (try dsimp only at hSw); go_simp; (first | done | with_reducible rfl))
            simp only [Act.put, List.setIfInBounds_toArray, List.set_cons_zero, List.set_cons_succ]
            refine as_take (i := 6) (v := ?_) (some 22) (by kernel_rfl) rfl rfl (by kernel_rfl) (by kernel_rfl) (by kernel_rfl) (fun _ _ _ h => h) (fun _ _ _ => trivial) (by kernel_rfl) ?_ (by assumption) ?_
            rotate_left
            · (intro w hSw; (try dsimp only at hSw); go_simp; (first | done | with_reducible rfl))
            simp only [Act.put, List.setIfInBounds_toArray, List.set_cons_zero, List.set_cons_succ]
            refine as_take (i := 7) (v := ?_) (some 23) (by kernel_rfl) rfl rfl (by kernel_rfl) (by kernel_rfl) (by kernel_rfl) (fun _ _ _ h => h) (fun _ _ _ => trivial) (by kernel_rfl) ?_ (by assumption) ?_
            rotate_left
            · (intro w hSw; (try dsimp only at hSw); go_simp; (first | done | with_reducible rfl))
            simp only [Act.put, List.setIfInBounds_toArray, List.set_cons_zero, List.set_cons_succ]
            refine as_take (i := 8) (v := ?_) (some 24) (by kernel_rfl) rfl rfl (by kernel_rfl) (by kernel_rfl) (by kernel_rfl) (fun _ _ _ h => h) (fun _ _ _ => trivial) (by kernel_rfl) ?_ (by assumption) ?_
            rotate_left
            · (intro w hSw; (try dsimp only at hSw); go_simp; (first | done | with_reducible rfl))
            simp only [Act.put, List.setIfInBounds_toArray, List.set_cons_zero, List.set_cons_succ]
            refine as_take (i := 9) (v := ?_) (some 25) (by kernel_rfl) rfl rfl (by kernel_rfl) (by kernel_rfl) (by kernel_rfl) (fun _ _ _ h => h) (fun _ _ _ => trivial) (by kernel_rfl) ?_ (by assumption) ?_
            rotate_left
            · (intro w hSw; (try dsimp only at hSw); go_simp; (first | done | with_reducible rfl))
            simp only [Act.put, List.setIfInBounds_toArray, List.set_cons_zero, List.set_cons_succ]
            refine as_take (i := 10) (v := ?_) (some 26) (by kernel_rfl) rfl rfl (by kernel_rfl) (by kernel_rfl) (by kernel_rfl) (fun _ _ _ h => h) (fun _ _ _ => trivial) (by kernel_rfl) ?_ (by assumption) ?_
            rotate_left
            · (intro w hSw; (try dsimp only at hSw); go_simp; (first | done | with_reducible rfl))
            simp only [Act.put, List.setIfInBounds_toArray, List.set_cons_zero, List.set_cons_succ]
            refine as_take (i := 11) (v := ?_) (some 27) (by kernel_rfl) rfl rfl (by kernel_rfl) (by kernel_rfl) (by kernel_rfl) (fun _ _ _ h => h) (fun _ _ _ => trivial) (by kernel_rfl) ?_ (by assumption) ?_
            rotate_left
            · (intro w hSw; (try dsimp only at hSw); go_simp; (first | done | with_reducible rfl))
            simp only [Act.put, List.setIfInBounds_toArray, List.set_cons_zero, List.set_cons_succ]
            refine as_take (i := 12) (v := ?_) (some 28) (by kernel_rfl) rfl rfl (by kernel_rfl) (by kernel_rfl) (by kernel_rfl) (fun _ _ _ h => h) (fun _ _ _ => trivial) (by kernel_rfl) ?_ (by assumption) ?_
            rotate_left
            · (intro w hSw; (try dsimp only at hSw); go_simp; (first | done | with_reducible rfl))
            simp only [Act.put, List.setIfInBounds_toArray, List.set_cons_zero, List.set_cons_succ]
            refine as_take (i := 13) (v := ?_) (some 29) (by kernel_rfl) rfl rfl (by kernel_rfl) (by kernel_rfl) (by kernel_rfl) (fun _ _ _ h => h) (fun _ _ _ => trivial) (by kernel_rfl) ?_ (by assumption) ?_
            rotate_left
            · (intro w hSw; (try dsimp only at hSw); go_simp; (first | done | with_reducible rfl))
            simp only [Act.put, List.setIfInBounds_toArray, List.set_cons_zero, List.set_cons_succ]
            refine as_take (i := 14) (v := ?_) (some 30) (by kernel_rfl) rfl rfl (by kernel_rfl) (by kernel_rfl) (by kernel_rfl) (fun _ _ _ h => h) (fun _ _ _ => trivial) (by kernel_rfl) ?_ (by assumption) ?_
            rotate_left
            · (intro w hSw; (try dsimp only at hSw); go_simp; (first | done | with_reducible rfl))
            simp only [Act.put, List.setIfInBounds_toArray, List.set_cons_zero, List.set_cons_succ]
            refine as_take (i := 15) (v := ?_) (some 31) (by kernel_rfl) rfl rfl (by kernel_rfl) (by kernel_rfl) (by kernel_rfl) (fun _ _ _ h => h) (fun _ _ _ => trivial) (by kernel_rfl) ?_ (by assumption) ?_
            rotate_left
            · (intro w hSw; (try dsimp only at hSw); go_simp; (first | done | with_reducible rfl))
            simp only [Act.put, List.setIfInBounds_toArray, List.set_cons_zero, List.set_cons_succ]
            refine as_take (i := 16) (v := ?_) (some 32) (by kernel_rfl) rfl rfl (by kernel_rfl) (by kernel_rfl) (by kernel_rfl) (fun _ _ _ h => h) (fun _ _ _ => trivial) (by kernel_rfl) ?_ (by assumption) ?_
            rotate_left
            · (intro w hSw; (try dsimp only at hSw); go_simp; (first | done | with_reducible rfl))
            simp only [Act.put, List.setIfInBounds_toArray, List.set_cons_zero, List.set_cons_succ]
            refine as_take (i := 17) (v := ?_) (some 33) (by kernel_rfl) rfl rfl (by kernel_rfl) (by kernel_rfl) (by kernel_rfl) (fun _ _ _ h => h) (fun _ _ _ => trivial) (by kernel_rfl) ?_ (by assumption) ?_
            rotate_left
            · (intro w hSw; (try dsimp only at hSw); go_simp; (first | done | with_reducible rfl))
            simp only [Act.put, List.setIfInBounds_toArray, List.set_cons_zero, List.set_cons_succ]
            refine as_take (i := 18) (v := ?_) (some 34) (by kernel_rfl) rfl rfl (by kernel_rfl) (by kernel_rfl) (by kernel_rfl) (fun _ _ _ h => h) (fun _ _ _ => trivial) (by kernel_rfl) ?_ (by assumption) ?_
            rotate_left
            · (intro w hSw; (try dsimp only at hSw); go_simp; (first | done | with_reducible rfl))
            simp only [Act.put, List.setIfInBounds_toArray, List.set_cons_zero, List.set_cons_succ]
            refine as_take (i := 19) (v := ?_) (some 35) (by kernel_rfl) rfl rfl (by kernel_rfl) (by kernel_rfl) (by kernel_rfl) (fun _ _ _ h => h) (fun _ _ _ => trivial) (by kernel_rfl) ?_ (by assumption) ?_
            rotate_left
            · (intro w hSw; (try dsimp only at hSw); go_simp; (first | done | with_reducible rfl))
            simp only [Act.put, List.setIfInBounds_toArray, List.set_cons_zero, List.set_cons_succ]
            refine as_take (i := 20) (v := ?_) (some 36) (by kernel_rfl) rfl rfl (by kernel_rfl) (by kernel_rfl) (by kernel_rfl) (fun _ _ _ h => h) (fun _ _ _ => trivial) (by kernel_rfl) ?_ (by assumption) ?_
            rotate_left
            · (intro w hSw; (try dsimp only at hSw); go_simp; (first | done | with_reducible rfl))
            simp only [Act.put, List.setIfInBounds_toArray, List.set_cons_zero, List.set_cons_succ]
            refine as_one (i := 21) (by kernel_rfl) rfl (fun K hK => ?_)
            go_simp
            refine ⟨trivial, ?_⟩
            refine (callsIn_wide.2 (mixed_any (some ⟨ob, off, none⟩) (some ⟨ob2, off2, none⟩) A3 n c1 c2 m c3 (up b k) S T _ (by exact HS.out.agree HAd.out) (by exact HT.out.agree HAd.out) hn (up_lt hb k8))).mono ?_
            rintro e w1 ⟨⟨A, c, rfl, hu, hc⟩, k1'⟩
            have k1 := below_of_drew k1'
            have x1 := H1d.out.below k1 H1d.out.lt
            have x2 := H2d.out.below k1 H2d.out.lt
            have d2 : w1.cell? ⟨g2, 0, none⟩ = some (.int .i64 b) := x2.cell 0
            have d3 : w1.cell? ⟨g1, 0, none⟩ = some (.slice (some ⟨ob, off, none⟩) n c1) := x1.cell 0
            have d4 : w1.cell? ⟨g1, 1, none⟩ = some (.slice (some ⟨ob2, off2, none⟩) n c2) := x1.cell 1
            have d5 : w1.cell? ⟨g1, 2, none⟩ = some (.slice A3 m c3) := x1.cell 2
            have d6 : w1.cell? ⟨ob, off + k * 2, none⟩ = some (.string sa) := (k1.cell (p := ⟨ob, off + k * 2, none⟩) hob).trans y6
            have d7 : w1.cell? ⟨ob, off + k * 2 + 1, none⟩ = some (.int .i64 sv) := (k1.cell (p := ⟨ob, off + k * 2 + 1, none⟩) hob).trans y7
            have d8 : w1.cell? ⟨ob2, off2 + k * 2, none⟩ = some (.string sa) := (k1.cell (p := ⟨ob2, off2 + k * 2, none⟩) hob2).trans y8
            have d9 : w1.cell? ⟨ob2, off2 + k * 2 + 1, none⟩ = some (.int .i64 tv) := (k1.cell (p := ⟨ob2, off2 + k * 2 + 1, none⟩) hob2).trans y9
            have hob1 : ob < w1.heap.size := Nat.lt_of_lt_of_le hob k1.size
            have hob21 : ob2 < w1.heap.size := Nat.lt_of_lt_of_le hob2 k1.size
            have X1 := Lib.hid x1
            have X2 := Lib.hid x2
            have HU := Lib.hid hu
            have HA1 : Hid (Agree w0.heap.size w0 w1) := Lib.hid ⟨Nat.le_trans HAd.out.1 k1.size, fun j hj => (k1.block j (Nat.lt_of_lt_of_le hj HAd.out.1)).trans (HAd.out.2 j hj)⟩
            have HJ1 := Lib.hid (HJ.out _ _ _ HJd.out k1)
            clear x1 x2 hu k1 k1'
            refine hK _ _ ⟨by exact ⟨d2, d3, d4, d5, d6, d7, d8, d9⟩, ?_⟩
            clear hK K hS0
            have hS0 := And.intro d2 (And.intro d3 (And.intro d4 (And.intro d5 (And.intro d6 (And.intro d7 (And.intro d8 (d9)))))))
            try simp only [Act.put, List.setIfInBounds_toArray, List.set_cons_zero, List.set_cons_succ]
            refine as_one (i := 22) (by kernel_rfl) rfl (fun K hK => ?_)
            go_simp
            refine ⟨trivial, ?_⟩
            refine (callsIn_wide.2 (compat_any A3 A m c3 n c Rw (mx S T (up b k)) w1 (HR.out.agree HA1.out) HU.out hc)).mono ?_
            rintro e w2 ⟨rfl, k2⟩
            have x1 := X1.out.below k2 X1.out.lt
            have x2 := X2.out.below k2 X2.out.lt
            have e2 : w2.cell? ⟨g2, 0, none⟩ = some (.int .i64 b) := x2.cell 0
            have e3 : w2.cell? ⟨g1, 0, none⟩ = some (.slice (some ⟨ob, off, none⟩) n c1) := x1.cell 0
            have e4 : w2.cell? ⟨g1, 1, none⟩ = some (.slice (some ⟨ob2, off2, none⟩) n c2) := x1.cell 1
            have e5 : w2.cell? ⟨g1, 2, none⟩ = some (.slice A3 m c3) := x1.cell 2
            have e6 : w2.cell? ⟨ob, off + k * 2, none⟩ = some (.string sa) := (k2.cell (p := ⟨ob, off + k * 2, none⟩) hob1).trans d6
            have e7 : w2.cell? ⟨ob, off + k * 2 + 1, none⟩ = some (.int .i64 sv) := (k2.cell (p := ⟨ob, off + k * 2 + 1, none⟩) hob1).trans d7
            have e8 : w2.cell? ⟨ob2, off2 + k * 2, none⟩ = some (.string sa) := (k2.cell (p := ⟨ob2, off2 + k * 2, none⟩) hob21).trans d8
            have e9 : w2.cell? ⟨ob2, off2 + k * 2 + 1, none⟩ = some (.int .i64 tv) := (k2.cell (p := ⟨ob2, off2 + k * 2 + 1, none⟩) hob21).trans d9
            have Z1 := Lib.hid x1
            have Z2 := Lib.hid x2
            have HA2 : Hid (Agree w0.heap.size w0 w2) := Lib.hid ⟨Nat.le_trans HA1.out.1 k2.size, fun j hj => (k2.block j (Nat.lt_of_lt_of_le hj HA1.out.1)).trans (HA1.out.2 j hj)⟩
            have HJ2 := Lib.hid (HJ.out _ _ _ HJ1.out k2)
            rw [HCX.out]
            clear x1 x2 k2
            refine hK _ _ ⟨by exact ⟨e2, e3, e4, e5, e6, e7, e8, e9⟩, ?_⟩
            clear hK K hS0
            have hS0 := And.intro e2 (And.intro e3 (And.intro e4 (And.intro e5 (And.intro e6 (And.intro e7 (And.intro e8 (e9)))))))
            try simp only [Act.put, List.setIfInBounds_toArray, List.set_cons_zero, List.set_cons_succ]
            refine as_take (i := 23) (v := ?_) (some 39) (by kernel_rfl) rfl rfl (by kernel_rfl) (by kernel_rfl) (by kernel_rfl) (fun _ _ _ h => h) (fun _ _ _ => trivial) (by kernel_rfl) ?_ (by assumption) ?_
            rotate_left
            · (intro w hSw; (try dsimp only at hSw); go_simp; (first | done | with_reducible rfl))
            simp only [Act.put, List.setIfInBounds_toArray, List.set_cons_zero, List.set_cons_succ]
            refine as_take (i := 24) (v := ?_) (some 40) (by kernel_rfl) rfl rfl (by kernel_rfl) (by kernel_rfl) (by kernel_rfl) (fun _ _ _ h => h) (fun _ _ _ => trivial) (by kernel_rfl) ?_ (by assumption) ?_
            rotate_left
            · (intro w hSw; (try dsimp only at hSw); go_simp; (first | done | with_reducible rfl))
            simp only [Act.put, List.setIfInBounds_toArray, List.set_cons_zero, List.set_cons_succ]
            refine as_skip (i := 25) (some 41) (by kernel_rfl) rfl rfl (by kernel_rfl) (by kernel_rfl) (by kernel_rfl) (fun _ _ _ h => h) (fun _ _ _ => trivial) (by kernel_rfl) (by assumption) ?_
            simp only [Act.put, List.setIfInBounds_toArray, List.set_cons_zero, List.set_cons_succ]
            refine as_skip (i := 26) (some 42) (by kernel_rfl) rfl rfl (by kernel_rfl) (by kernel_rfl) (by kernel_rfl) (fun _ _ _ h => h) (fun _ _ _ => trivial) (by kernel_rfl) (by assumption) ?_
            simp only [Act.put, List.setIfInBounds_toArray, List.set_cons_zero, List.set_cons_succ]
            refine as_skip (i := 27) (some 43) (by kernel_rfl) rfl rfl (by kernel_rfl) (by kernel_rfl) (by kernel_rfl) (fun _ _ _ h => h) (fun _ _ _ => trivial) (by kernel_rfl) (by assumption) ?_
            simp only [Act.put, List.setIfInBounds_toArray, List.set_cons_zero, List.set_cons_succ]
            refine as_skip (i := 28) (some 44) (by kernel_rfl) rfl rfl (by kernel_rfl) (by kernel_rfl) (by kernel_rfl) (fun _ _ _ h => h) (fun _ _ _ => trivial) (by kernel_rfl) (by assumption) ?_
            simp only [Act.put, List.setIfInBounds_toArray, List.set_cons_zero, List.set_cons_succ]
            refine as_skip (i := 29) (some 45) (by kernel_rfl) rfl rfl (by kernel_rfl) (by kernel_rfl) (by kernel_rfl) (fun _ _ _ h => h) (fun _ _ _ => trivial) (by kernel_rfl) (by assumption) ?_
            simp only [Act.put, List.setIfInBounds_toArray, List.set_cons_zero, List.set_cons_succ]
            refine as_take (i := 30) (v := ?_) (some 46) (by kernel_rfl) rfl rfl (by kernel_rfl) (by kernel_rfl) (by kernel_rfl) (fun _ _ _ h => h) (fun _ _ _ => trivial) (by kernel_rfl) ?_ (by assumption) ?_
            rotate_left
            · (intro w hSw; (try dsimp only at hSw); go_simp; (first | done | with_reducible rfl))
            simp only [Act.put, List.setIfInBounds_toArray, List.set_cons_zero, List.set_cons_succ]
            refine as_done (by kernel_rfl) ?_ _
            gi_wp2
            go_roundw
            case rel => exact ⟨k + 1, by omega, by go_num, by rw [HST.out]; exact HJ2.out, Z1.out, Z2.out, HA2.out⟩
            case measure => simp [intOf]; omega
          | true =>
            have HCX := Lib.hid hcx
            have hst : stp m Rw n S T b k = true := by simp [stp, hcx, ht, hdt.out]
            have HST : Hid (elsS m Rw n S T b (k + 1) = elsS m Rw n S T b k ++ [(k, up b k)]) := Lib.hid (by rw [elsS, if_pos hst])
            have Hst := Lib.hid hst
            clear hcx ht hst
            gi_wp2
            refine region_S (fun w' : World => w'.cell? ⟨g2, 0, none⟩ = some (.int .i64 b) ∧ w'.cell? ⟨g1, 0, none⟩ = some (.slice (some ⟨ob, off, none⟩) n c1) ∧ w'.cell? ⟨g1, 1, none⟩ = some (.slice (some ⟨ob2, off2, none⟩) n c2) ∧ w'.cell? ⟨g1, 2, none⟩ = some (.slice A3 m c3) ∧ w'.cell? ⟨ob, off + k * 2, none⟩ = some (.string sa) ∧ w'.cell? ⟨ob, off + k * 2 + 1, none⟩ = some (.int .i64 sv) ∧ w'.cell? ⟨ob2, off2 + k * 2, none⟩ = some (.string sa) ∧ w'.cell? ⟨ob2, off2 + k * 2 + 1, none⟩ = some (.int .i64 tv)) (by kernel_rfl) (by exact ⟨y2, y3, y4, y5, y6, y7, y8, y9⟩) (fun hS0 => ?_)
            refine as_take (i := 0) (v := ?_) (some 16) (by kernel_rfl) rfl rfl (by kernel_rfl) (by kernel_rfl) (by kernel_rfl) (fun _ _ _ h => h) (fun _ _ _ => trivial) (by kernel_rfl) ?_ (by assumption) ?_
            rotate_left
            · (intro w hSw; (try dsimp only at hSw); go_simp; (first | done | with_reducible rfl))
            simp only [Act.put, List.setIfInBounds_toArray, List.set_cons_zero, List.set_cons_succ]
            refine as_take (i := 1) (v := ?_) (some 17) (by kernel_rfl) rfl rfl (by kernel_rfl) (by kernel_rfl) (by kernel_rfl) (fun _ _ _ h => h) (fun _ _ _ => trivial) (by kernel_rfl) ?_ (by assumption) ?_
            rotate_left
            · (intro w hSw; (try dsimp only at hSw); go_simp; (first | done | with_reducible rfl))
            simp only [Act.put, List.setIfInBounds_toArray, List.set_cons_zero, List.set_cons_succ]
            refine as_take (i := 2) (v := ?_) (some 18) (by kernel_rfl) rfl rfl (by kernel_rfl) (by kernel_rfl) (by kernel_rfl) (fun _ _ _ h => h) (fun _ _ _ => trivial) (by kernel_rfl) ?_ (by assumption) ?_
            rotate_left
            · (intro w hSw; (try dsimp only at hSw); go_simp; (first | done | with_reducible rfl))
            simp only [Act.put, List.setIfInBounds_toArray, List.set_cons_zero, List.set_cons_succ]
            refine as_take (i := 3) (v := ?_) (some 19) (by kernel_rfl) rfl rfl (by kernel_rfl) (by kernel_rfl) (by kernel_rfl) (fun _ _ _ h => h) (fun _ _ _ => trivial) (by kernel_rfl) ?_ (by assumption) ?_
            rotate_left
            · (intro w hSw; (try dsimp only at hSw); go_simp; (first | done | with_reducible rfl))
            simp only [Act.put, List.setIfInBounds_toArray, List.set_cons_zero, List.set_cons_succ]
            refine as_take (i := 4) (v := ?_) (some 20) (by kernel_rfl) rfl rfl (by kernel_rfl) (by kernel_rfl) (by kernel_rfl) (fun _ _ _ h => h) (fun _ _ _ => trivial) (by kernel_rfl) ?_ (by assumption) ?_
            rotate_left
            · (intro w hSw; (try dsimp only at hSw); go_simp; (first | done | with_reducible rfl))
            simp only [Act.put, List.setIfInBounds_toArray, List.set_cons_zero, List.set_cons_succ]
            refine as_take (i := 5) (v := ?_) (some 21) (by kernel_rfl) rfl rfl (by kernel_rfl) (by kernel_rfl) (by kernel_rfl) (fun _ _ _ h => h) (fun _ _ _ => trivial) (by kernel_rfl) ?_ (by assumption) ?_
            rotate_left
            · (intro w hSw; (try dsimp only at hSw); go_simp; (first | done | with_reducible rfl))
            simp only [Act.put, List.setIfInBounds_toArray, List.set_cons_zero, List.set_cons_succ]
            refine as_take (i := 6) (v := ?_) (some 22) (by kernel_rfl) rfl rfl (by kernel_rfl) (by kernel_rfl) (by kernel_rfl) (fun _ _ _ h => h) (fun _ _ _ => trivial) (by kernel_rfl) ?_ (by assumption) ?_
            rotate_left
            · (intro w hSw; (try dsimp only at hSw); go_simp; (first | done | with_reducible rfl))
            simp only [Act.put, List.setIfInBounds_toArray, List.set_cons_zero, List.set_cons_succ]
            refine as_take (i := 7) (v := ?_) (some 23) (by kernel_rfl) rfl rfl (by kernel_rfl) (by kernel_rfl) (by kernel_rfl) (fun _ _ _ h => h) (fun _ _ _ => trivial) (by kernel_rfl) ?_ (by assumption) ?_
            rotate_left
            · (intro w hSw; (try dsimp only at hSw); go_simp; (first | done | with_reducible rfl))
            simp only [Act.put, List.setIfInBounds_toArray, List.set_cons_zero, List.set_cons_succ]
            refine as_take (i := 8) (v := ?_) (some 24) (by kernel_rfl) rfl rfl (by kernel_rfl) (by kernel_rfl) (by kernel_rfl) (fun _ _ _ h => h) (fun _ _ _ => trivial) (by kernel_rfl) ?_ (by assumption) ?_
            rotate_left
            · (intro w hSw; (try dsimp only at hSw); go_simp; (first | done | with_reducible rfl))
            simp only [Act.put, List.setIfInBounds_toArray, List.set_cons_zero, List.set_cons_succ]
            refine as_take (i := 9) (v := ?_) (some 25) (by kernel_rfl) rfl rfl (by kernel_rfl) (by kernel_rfl) (by kernel_rfl) (fun _ _ _ h => h) (fun _ _ _ => trivial) (by kernel_rfl) ?_ (by assumption) ?_
            rotate_left
            · (intro w hSw; (try dsimp only at hSw); go_simp; (first | done | with_reducible rfl))
            simp only [Act.put, List.setIfInBounds_toArray, List.set_cons_zero, List.set_cons_succ]
            refine as_take (i := 10) (v := ?_) (some 26) (by kernel_rfl) rfl rfl (by kernel_rfl) (by kernel_rfl) (by kernel_rfl) (fun _ _ _ h => h) (fun _ _ _ => trivial) (by kernel_rfl) ?_ (by assumption) ?_
            rotate_left
            · (intro w hSw; (try dsimp only at hSw); go_simp; (first | done | with_reducible rfl))
            simp only [Act.put, List.setIfInBounds_toArray, List.set_cons_zero, List.set_cons_succ]
            refine as_take (i := 11) (v := ?_) (some 27) (by kernel_rfl) rfl rfl (by kernel_rfl) (by kernel_rfl) (by kernel_rfl) (fun _ _ _ h => h) (fun _ _ _ => trivial) (by kernel_rfl) ?_ (by assumption) ?_
            rotate_left
            · (intro w hSw; (try dsimp only at hSw); go_simp; (first | done | with_reducible rfl))
            simp only [Act.put, List.setIfInBounds_toArray, List.set_cons_zero, List.set_cons_succ]
            refine as_take (i := 12) (v := ?_) (some 28) (by kernel_rfl) rfl rfl (by kernel_rfl) (by kernel_rfl) (by kernel_rfl) (fun _ _ _ h => h) (fun _ _ _ => trivial) (by kernel_rfl) ?_ (by assumption) ?_
            rotate_left
            · (intro w hSw; (try dsimp only at hSw); go_simp; (first | done | with_reducible rfl))
            simp only [Act.put, List.setIfInBounds_toArray, List.set_cons_zero, List.set_cons_succ]
            refine as_take (i := 13) (v := ?_) (some 29) (by kernel_rfl) rfl rfl (by kernel_rfl) (by kernel_rfl) (by kernel_rfl) (fun _ _ _ h => h) (fun _ _ _ => trivial) (by kernel_rfl) ?_ (by assumption) ?_
            rotate_left
            · (intro w hSw; (try dsimp only at hSw); go_simp; (first | done | with_reducible rfl))
            simp only [Act.put, List.setIfInBounds_toArray, List.set_cons_zero, List.set_cons_succ]
            refine as_take (i := 14) (v := ?_) (some 30) (by kernel_rfl) rfl rfl (by kernel_rfl) (by kernel_rfl) (by kernel_rfl) (fun _ _ _ h => h) (fun _ _ _ => trivial) (by kernel_rfl) ?_ (by assumption) ?_
            rotate_left
            · (intro w hSw; (try dsimp only at hSw); go_simp; (first | done | with_reducible rfl))
            simp only [Act.put, List.setIfInBounds_toArray, List.set_cons_zero, List.set_cons_succ]
            refine as_take (i := 15) (v := ?_) (some 31) (by kernel_rfl) rfl rfl (by kernel_rfl) (by kernel_rfl) (by kernel_rfl) (fun _ _ _ h => h) (fun _ _ _ => trivial) (by kernel_rfl) ?_ (by assumption) ?_
            rotate_left
            · (intro w hSw; (try dsimp only at hSw); go_simp; (first | done | with_reducible rfl))
            simp only [Act.put, List.setIfInBounds_toArray, List.set_cons_zero, List.set_cons_succ]
            refine as_take (i := 16) (v := ?_) (some 32) (by kernel_rfl) rfl rfl (by kernel_rfl) (by kernel_rfl) (by kernel_rfl) (fun _ _ _ h => h) (fun _ _ _ => trivial) (by kernel_rfl) ?_ (by assumption) ?_
            rotate_left
            · (intro w hSw; (try dsimp only at hSw); go_simp; (first | done | with_reducible rfl))
            simp only [Act.put, List.setIfInBounds_toArray, List.set_cons_zero, List.set_cons_succ]
            refine as_take (i := 17) (v := ?_) (some 33) (by kernel_rfl) rfl rfl (by kernel_rfl) (by kernel_rfl) (by kernel_rfl) (fun _ _ _ h => h) (fun _ _ _ => trivial) (by kernel_rfl) ?_ (by assumption) ?_
            rotate_left
            · (intro w hSw; (try dsimp only at hSw); go_simp; (first | done | with_reducible rfl))
            simp only [Act.put, List.setIfInBounds_toArray, List.set_cons_zero, List.set_cons_succ]
            refine as_take (i := 18) (v := ?_) (some 34) (by kernel_rfl) rfl rfl (by kernel_rfl) (by kernel_rfl) (by kernel_rfl) (fun _ _ _ h => h) (fun _ _ _ => trivial) (by kernel_rfl) ?_ (by assumption) ?_
            rotate_left
            · (intro w hSw; (try dsimp only at hSw); go_simp; (first | done | with_reducible rfl))
            simp only [Act.put, List.setIfInBounds_toArray, List.set_cons_zero, List.set_cons_succ]
            refine as_take (i := 19) (v := ?_) (some 35) (by kernel_rfl) rfl rfl (by kernel_rfl) (by kernel_rfl) (by kernel_rfl) (fun _ _ _ h => h) (fun _ _ _ => trivial) (by kernel_rfl) ?_ (by assumption) ?_
            rotate_left
            · (intro w hSw; (try dsimp only at hSw); go_simp; (first | done | with_reducible rfl))
            simp only [Act.put, List.setIfInBounds_toArray, List.set_cons_zero, List.set_cons_succ]
            refine as_take (i := 20) (v := ?_) (some 36) (by kernel_rfl) rfl rfl (by kernel_rfl) (by kernel_rfl) (by kernel_rfl) (fun _ _ _ h => h) (fun _ _ _ => trivial) (by kernel_rfl) ?_ (by assumption) ?_
            rotate_left
            · (intro w hSw; (try dsimp only at hSw); go_simp; (first | done | with_reducible rfl))
            simp only [Act.put, List.setIfInBounds_toArray, List.set_cons_zero, List.set_cons_succ]
            refine as_one (i := 21) (by kernel_rfl) rfl (fun K hK => ?_)
            go_simp
            refine ⟨trivial, ?_⟩
            refine (callsIn_wide.2 (mixed_any (some ⟨ob, off, none⟩) (some ⟨ob2, off2, none⟩) A3 n c1 c2 m c3 (up b k) S T _ (by exact HS.out.agree HAd.out) (by exact HT.out.agree HAd.out) hn (up_lt hb k8))).mono ?_
            rintro e w1 ⟨⟨A, c, rfl, hu, hc⟩, k1'⟩
            have k1 := below_of_drew k1'
            have x1 := H1d.out.below k1 H1d.out.lt
            have x2 := H2d.out.below k1 H2d.out.lt
            have d2 : w1.cell? ⟨g2, 0, none⟩ = some (.int .i64 b) := x2.cell 0
            have d3 : w1.cell? ⟨g1, 0, none⟩ = some (.slice (some ⟨ob, off, none⟩) n c1) := x1.cell 0
            have d4 : w1.cell? ⟨g1, 1, none⟩ = some (.slice (some ⟨ob2, off2, none⟩) n c2) := x1.cell 1
            have d5 : w1.cell? ⟨g1, 2, none⟩ = some (.slice A3 m c3) := x1.cell 2
            have d6 : w1.cell? ⟨ob, off + k * 2, none⟩ = some (.string sa) := (k1.cell (p := ⟨ob, off + k * 2, none⟩) hob).trans y6
            have d7 : w1.cell? ⟨ob, off + k * 2 + 1, none⟩ = some (.int .i64 sv) := (k1.cell (p := ⟨ob, off + k * 2 + 1, none⟩) hob).trans y7
            have d8 : w1.cell? ⟨ob2, off2 + k * 2, none⟩ = some (.string sa) := (k1.cell (p := ⟨ob2, off2 + k * 2, none⟩) hob2).trans y8
            have d9 : w1.cell? ⟨ob2, off2 + k * 2 + 1, none⟩ = some (.int .i64 tv) := (k1.cell (p := ⟨ob2, off2 + k * 2 + 1, none⟩) hob2).trans y9
            have hob1 : ob < w1.heap.size := Nat.lt_of_lt_of_le hob k1.size
            have hob21 : ob2 < w1.heap.size := Nat.lt_of_lt_of_le hob2 k1.size
            have X1 := Lib.hid x1
            have X2 := Lib.hid x2
            have HU := Lib.hid hu
            have HA1 : Hid (Agree w0.heap.size w0 w1) := Lib.hid ⟨Nat.le_trans HAd.out.1 k1.size, fun j hj => (k1.block j (Nat.lt_of_lt_of_le hj HAd.out.1)).trans (HAd.out.2 j hj)⟩
            have HJ1 := Lib.hid (HJ.out _ _ _ HJd.out k1)
            clear x1 x2 hu k1 k1'
            refine hK _ _ ⟨by exact ⟨d2, d3, d4, d5, d6, d7, d8, d9⟩, ?_⟩
            clear hK K hS0
            have hS0 := And.intro d2 (And.intro d3 (And.intro d4 (And.intro d5 (And.intro d6 (And.intro d7 (And.intro d8 (d9)))))))
            try simp only [Act.put, List.setIfInBounds_toArray, List.set_cons_zero, List.set_cons_succ]
            refine as_one (i := 22) (by kernel_rfl) rfl (fun K hK => ?_)
            go_simp
            refine ⟨trivial, ?_⟩
            refine (callsIn_wide.2 (compat_any A3 A m c3 n c Rw (mx S T (up b k)) w1 (HR.out.agree HA1.out) HU.out hc)).mono ?_
            rintro e w2 ⟨rfl, k2⟩
            have x1 := X1.out.below k2 X1.out.lt
            have x2 := X2.out.below k2 X2.out.lt
            have e2 : w2.cell? ⟨g2, 0, none⟩ = some (.int .i64 b) := x2.cell 0
            have e3 : w2.cell? ⟨g1, 0, none⟩ = some (.slice (some ⟨ob, off, none⟩) n c1) := x1.cell 0
            have e4 : w2.cell? ⟨g1, 1, none⟩ = some (.slice (some ⟨ob2, off2, none⟩) n c2) := x1.cell 1
            have e5 : w2.cell? ⟨g1, 2, none⟩ = some (.slice A3 m c3) := x1.cell 2
            have e6 : w2.cell? ⟨ob, off + k * 2, none⟩ = some (.string sa) := (k2.cell (p := ⟨ob, off + k * 2, none⟩) hob1).trans d6
            have e7 : w2.cell? ⟨ob, off + k * 2 + 1, none⟩ = some (.int .i64 sv) := (k2.cell (p := ⟨ob, off + k * 2 + 1, none⟩) hob1).trans d7
            have e8 : w2.cell? ⟨ob2, off2 + k * 2, none⟩ = some (.string sa) := (k2.cell (p := ⟨ob2, off2 + k * 2, none⟩) hob21).trans d8
            have e9 : w2.cell? ⟨ob2, off2 + k * 2 + 1, none⟩ = some (.int .i64 tv) := (k2.cell (p := ⟨ob2, off2 + k * 2 + 1, none⟩) hob21).trans d9
            have Z1 := Lib.hid x1
            have Z2 := Lib.hid x2
            have HA2 : Hid (Agree w0.heap.size w0 w2) := Lib.hid ⟨Nat.le_trans HA1.out.1 k2.size, fun j hj => (k2.block j (Nat.lt_of_lt_of_le hj HA1.out.1)).trans (HA1.out.2 j hj)⟩
            have HJ2 := Lib.hid (HJ.out _ _ _ HJ1.out k2)
            rw [HCX.out]
            clear x1 x2 k2
            refine hK _ _ ⟨by exact ⟨e2, e3, e4, e5, e6, e7, e8, e9⟩, ?_⟩
            clear hK K hS0
            have hS0 := And.intro e2 (And.intro e3 (And.intro e4 (And.intro e5 (And.intro e6 (And.intro e7 (And.intro e8 (e9)))))))
            try simp only [Act.put, List.setIfInBounds_toArray, List.set_cons_zero, List.set_cons_succ]
            refine as_take (i := 23) (v := ?_) (some 39) (by kernel_rfl) rfl rfl (by kernel_rfl) (by kernel_rfl) (by kernel_rfl) (fun _ _ _ h => h) (fun _ _ _ => trivial) (by kernel_rfl) ?_ (by assumption) ?_
            rotate_left
            · (intro w hSw; (try dsimp only at hSw); go_simp; (first | done | with_reducible rfl))
            simp only [Act.put, List.setIfInBounds_toArray, List.set_cons_zero, List.set_cons_succ]
            refine as_take (i := 24) (v := ?_) (some 40) (by kernel_rfl) rfl rfl (by kernel_rfl) (by kernel_rfl) (by kernel_rfl) (fun _ _ _ h => h) (fun _ _ _ => trivial) (by kernel_rfl) ?_ (by assumption) ?_
            rotate_left
            · (intro w hSw; (try dsimp only at hSw); go_simp; (first | done | with_reducible rfl))
            simp only [Act.put, List.setIfInBounds_toArray, List.set_cons_zero, List.set_cons_succ]
            refine as_take (i := 25) (v := ?_) (some 41) (by kernel_rfl) rfl rfl (by kernel_rfl) (by kernel_rfl) (by kernel_rfl) (fun _ _ _ h => h) (fun _ _ _ => trivial) (by kernel_rfl) ?_ (by assumption) ?_
            rotate_left
            · (intro w hSw; (try dsimp only at hSw); go_simp; (first | done | with_reducible rfl))
            simp only [Act.put, List.setIfInBounds_toArray, List.set_cons_zero, List.set_cons_succ]
            refine as_take (i := 26) (v := ?_) (some 42) (by kernel_rfl) rfl rfl (by kernel_rfl) (by kernel_rfl) (by kernel_rfl) (fun _ _ _ h => h) (fun _ _ _ => trivial) (by kernel_rfl) ?_ (by assumption) ?_
            rotate_left
            · (intro w hSw; (try dsimp only at hSw); go_simp; (first | done | with_reducible rfl))
            simp only [Act.put, List.setIfInBounds_toArray, List.set_cons_zero, List.set_cons_succ]
            refine as_take (i := 27) (v := ?_) (some 43) (by kernel_rfl) rfl rfl (by kernel_rfl) (by kernel_rfl) (by kernel_rfl) (fun _ _ _ h => h) (fun _ _ _ => trivial) (by kernel_rfl) ?_ (by assumption) ?_
            rotate_left
            · (intro w hSw; (try dsimp only at hSw); go_simp; (first | done | with_reducible rfl))
            simp only [Act.put, List.setIfInBounds_toArray, List.set_cons_zero, List.set_cons_succ]
            obtain ⟨fn, tmps, assign, body, hy, hRd⟩ := HY.out _ (k, up b k) w2 ⟨hlt, Hst.out, rfl⟩ HJ2.out (Nat.lt_of_le_of_lt (elsS_len m Rw n S T b k) k8)
            dsimp only [encs] at hy
            refine as_one (i := 28) (by kernel_rfl) rfl (fun K hK => ?_)
            go_simp
            refine hRd.mono ?_
            rintro e W3 (⟨rfl, hJ3, hk3⟩ | ⟨rfl, hJx3⟩)
            · have x1 : Blk W3 g1 56 #[.slice (some ⟨ob, off, none⟩) n c1, .slice (some ⟨ob2, off2, none⟩) n c2, .slice A3 m c3] := (hk3.2 g1 (.inr (.inl rfl))).trans Z1.out
              have x2 : Blk W3 g2 3 #[.int .i64 b] := (hk3.2 g2 (.inr (.inr rfl))).trans Z2.out
              have xa : Agree w0.heap.size w0 W3 := ⟨Nat.le_trans HA2.out.1 hk3.1, fun j hj => (hk3.2 j (.inl hj)).trans (HA2.out.2 j hj)⟩
              have e2 : W3.cell? ⟨g2, 0, none⟩ = some (.int .i64 b) := x2.cell 0
              have e3 : W3.cell? ⟨g1, 0, none⟩ = some (.slice (some ⟨ob, off, none⟩) n c1) := x1.cell 0
              have e4 : W3.cell? ⟨g1, 1, none⟩ = some (.slice (some ⟨ob2, off2, none⟩) n c2) := x1.cell 1
              have e5 : W3.cell? ⟨g1, 2, none⟩ = some (.slice A3 m c3) := x1.cell 2
              have e6 := (World.cell?_of_block (a := ⟨ob, off + k * 2, none⟩) (xa.2 ob hob0)).trans Q6.out
              have e7 := (World.cell?_of_block (a := ⟨ob, off + k * 2 + 1, none⟩) (xa.2 ob hob0)).trans Q7.out
              have e8 := (World.cell?_of_block (a := ⟨ob2, off2 + k * 2, none⟩) (xa.2 ob2 hob20)).trans Q8.out
              have e9 := (World.cell?_of_block (a := ⟨ob2, off2 + k * 2 + 1, none⟩) (xa.2 ob2 hob20)).trans Q9.out
              refine hK _ _ ⟨by exact ⟨e2, e3, e4, e5, e6, e7, e8, e9⟩, ?_⟩
              clear hK K hS0
              have hS0 := And.intro e2 (And.intro e3 (And.intro e4 (And.intro e5 (And.intro e6 (And.intro e7 (And.intro e8 (e9)))))))
              try simp only [Act.put, List.setIfInBounds_toArray, List.set_cons_zero, List.set_cons_succ]
              refine as_take (i := 29) (v := ?_) (some 45) (by kernel_rfl) rfl rfl (by kernel_rfl) (by kernel_rfl) (by kernel_rfl) (fun _ _ _ h => h) (fun _ _ _ => trivial) (by kernel_rfl) ?_ (by assumption) ?_
              rotate_left
              · (intro w hSw; (try dsimp only at hSw); go_simp; (first | done | with_reducible rfl))
              simp only [Act.put, List.setIfInBounds_toArray, List.set_cons_zero, List.set_cons_succ]
              refine as_take (i := 30) (v := ?_) (some 46) (by kernel_rfl) rfl rfl (by kernel_rfl) (by kernel_rfl) (by kernel_rfl) (fun _ _ _ h => h) (fun _ _ _ => trivial) (by kernel_rfl) ?_ (by assumption) ?_
              rotate_left
              · (intro w hSw; (try dsimp only at hSw); go_simp; (first | done | with_reducible rfl))
              simp only [Act.put, List.setIfInBounds_toArray, List.set_cons_zero, List.set_cons_succ]
              refine as_done (by kernel_rfl) ?_ _
              clear e2 e3 e4 e5 e6 e7 e8 e9 hS0
              gi_wp2
              go_roundw
              case rel => exact ⟨k + 1, by omega, by go_num, by rw [HST.out]; exact hJ3, x1, x2, xa⟩
              case measure => simp [intOf]; omega
            · obtain ⟨xa, x1, x2⟩ := HZ.out _ _ hJx3
              have e2 : W3.cell? ⟨g2, 0, none⟩ = some (.int .i64 b) := x2.cell 0
              have e3 : W3.cell? ⟨g1, 0, none⟩ = some (.slice (some ⟨ob, off, none⟩) n c1) := x1.cell 0
              have e4 : W3.cell? ⟨g1, 1, none⟩ = some (.slice (some ⟨ob2, off2, none⟩) n c2) := x1.cell 1
              have e5 : W3.cell? ⟨g1, 2, none⟩ = some (.slice A3 m c3) := x1.cell 2
              have e6 := (World.cell?_of_block (a := ⟨ob, off + k * 2, none⟩) (xa.2 ob hob0)).trans Q6.out
              have e7 := (World.cell?_of_block (a := ⟨ob, off + k * 2 + 1, none⟩) (xa.2 ob hob0)).trans Q7.out
              have e8 := (World.cell?_of_block (a := ⟨ob2, off2 + k * 2, none⟩) (xa.2 ob2 hob20)).trans Q8.out
              have e9 := (World.cell?_of_block (a := ⟨ob2, off2 + k * 2 + 1, none⟩) (xa.2 ob2 hob20)).trans Q9.out
              refine hK _ _ ⟨by exact ⟨e2, e3, e4, e5, e6, e7, e8, e9⟩, ?_⟩
              clear hK K hS0
              have hS0 := And.intro e2 (And.intro e3 (And.intro e4 (And.intro e5 (And.intro e6 (And.intro e7 (And.intro e8 (e9)))))))
              try simp only [Act.put, List.setIfInBounds_toArray, List.set_cons_zero, List.set_cons_succ]
              refine as_take (i := 29) (v := ?_) (some 45) (by kernel_rfl) rfl rfl (by kernel_rfl) (by kernel_rfl) (by kernel_rfl) (fun _ _ _ h => h) (fun _ _ _ => trivial) (by kernel_rfl) ?_ (by assumption) ?_
              rotate_left
              · (intro w hSw; (try dsimp only at hSw); go_simp; (first | done | with_reducible rfl))
              simp only [Act.put, List.setIfInBounds_toArray, List.set_cons_zero, List.set_cons_succ]
              refine as_take (i := 30) (v := ?_) (some 46) (by kernel_rfl) rfl rfl (by kernel_rfl) (by kernel_rfl) (by kernel_rfl) (fun _ _ _ h => h) (fun _ _ _ => trivial) (by kernel_rfl) ?_ (by assumption) ?_
              rotate_left
              · (intro w hSw; (try dsimp only at hSw); go_simp; (first | done | with_reducible rfl))
              simp only [Act.put, List.setIfInBounds_toArray, List.set_cons_zero, List.set_cons_succ]
              refine as_done (by kernel_rfl) ?_ _
              clear e2 e3 e4 e5 e6 e7 e8 e9 hS0
              gi_wp2
              refine bodyPost_ret (results_none rfl _ _ _) rfl ?_
              exact ⟨⟨_, rfl⟩, .inr ⟨_, ⟨k, hlt, Hst.out, rfl⟩, hJx3⟩⟩
    · obtain rfl : k = n := by omega
      gi_wp2
      go_end0
      exact ⟨⟨_, rfl⟩, .inl ⟨_, rfl, hJk⟩⟩
end Go.Proofs.Ytcjbjhkmnfegnaa
