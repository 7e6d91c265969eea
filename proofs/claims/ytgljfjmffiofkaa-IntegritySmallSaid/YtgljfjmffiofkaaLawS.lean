/-
  The walk of the law IntegritySmall: it returns true and leaves what was there as it was. No condition.
-/
import Derived.Test.YtgljfjmffiofkaaT3
import Derived.Test.YtgljfjmffiofkaaAw
import Derived.Test.YtgljfjmffiofkaaRd
import Derived.OwnWalk
namespace Go.Proofs.Ytgljfjmffiofkaa
open Go.RowKit
theorem Try.info39 : (Try.prog.info? 39).map (fun i => (i.zero, i.size, i.bytes)) = some (some (.agg #[.int .u8 0, .int .i64 0]), 2, 16) := by kernel_rfl
/-- the cells of a list of operations -/
def ofl : List (Int × Int) → List Value
  | [] => []
  | q :: l => .int .u8 q.1 :: .int .i64 q.2 :: ofl l
theorem ofl_len : ∀ l, (ofl l).length = l.length * 2
  | [] => rfl
  | q :: l => by simp [ofl, ofl_len l]; omega
theorem ofl_app : ∀ l m, ofl (l ++ m) = ofl l ++ ofl m
  | [], m => rfl
  | q :: l, m => by simp [ofl, ofl_app l m]
theorem ofl_at : ∀ (l : List (Int × Int)) k, k < l.length → (ofl l)[k * 2]? = some (.int .u8 (l.getD k (0, 0)).1) ∧ (ofl l)[k * 2 + 1]? = some (.int .i64 (l.getD k (0, 0)).2)
  | [], k, h => by simp at h
  | q :: l, 0, _ => by simp [ofl]
  | q :: l, k + 1, h => by
    have := ofl_at l k (by simpa using h)
    rw [show (k + 1) * 2 = k * 2 + 1 + 1 by omega]
    simpa [ofl] using this
theorem own_ops {w : World} {base : Nat} {v : Value} {n : Nat} {l : List (Int × Int)} (h : w.ownsRow base 39 2 v n (ofl l)) (hn : n = l.length) (h1 : n ≤ 1000) (hq : ∀ q ∈ l, 0 ≤ q.1 ∧ q.1 ≤ 255) :
    ∃ A c, v = .slice A n c ∧ Ops w A n (fun k => (l.getD k (0, 0)).1) (fun k => (l.getD k (0, 0)).2) := by
  rcases h.2 with ⟨rfl, h0⟩ | ⟨g, cap, cur, rfl, _, hh, _⟩
  · obtain rfl : n = 0 := h0
    exact ⟨none, 0, rfl, by omega, fun h => absurd h (by omega)⟩
  · refine ⟨_, _, rfl, by omega, fun _ => ⟨g, 0, rfl, lt_of_block hh, fun k hk => ?_⟩⟩
    obtain ⟨a, b⟩ := ofl_at l k (by omega)
    have h1 := h.cells (g := g) rfl _ _ a
    have h2 := h.cells (g := g) rfl _ _ b
    rw [add_eq] at h1 h2
    have hm : l.getD k (0, 0) ∈ l := by
      rw [List.getD_eq_getElem?_getD, List.getElem?_eq_getElem (show k < l.length by omega)]
      exact List.getElem_mem _
    exact ⟨h1, h2, hq _ hm⟩
theorem new_two (w : World) (x y : Value) (t : TypeId) : ∀ (j : Nat) (u : Value), [x, y][j]? = some u → (w.alloc (.cells #[x, y] t)).cell? ((⟨w.heap.size, 0, none⟩ : Addr).add j) = some u := by
  intro j u hj
  have hb := Blk.made w t #[x, y]
  rw [add_eq, Nat.zero_add, hb.cell]
  simpa using hj
theorem one_two (a b : Int) : ∀ u ∈ [Value.int .u8 a, Value.int .i64 b], u.oneCell' = true := by
  intro u hu
  simp at hu
  rcases hu with rfl | rfl <;> rfl
/-- the nine operations of the law -/
def ox : Nat → Int
  | 7 => 7
  | _ => 0
def oz : Nat → Int
  | 0 => 0
  | 1 => 1
  | 2 => 2
  | 3 => 3
  | 4 => 254
  | 5 => 255
  | 6 => 256
  | 7 => 0
  | _ => 4
theorem ox_bd (d : Nat) : 0 ≤ ox d ∧ ox d ≤ 255 := by
  unfold ox
  split <;> omega

set_option maxRecDepth 100000 in
set_option maxHeartbeats 4000000 in
theorem lawSmall (w : World) : Calls Try.prog 9 #[] w fun e w' => e = .returned (.bool true) ∧ Below w.heap.size w w' := by
  obtain ⟨i0, hi, hz0, hz1, hz2⟩ := info_parts Try.info39
  have hi' := Lib.hid hi
  have hz0' := Lib.hid hz0
  have hz1' := Lib.hid hz1
  have hz2' := Lib.hid hz2
  clear hi hz0 hz1 hz2
  go_enter Try.func9, Try.ntmps9
  go_wp2_with fail
  go_loopw [1] (fun a wr => ∃ x : Int, -1 ≤ x ∧ x ≤ 257 ∧ a = .int .i64 x ∧ Below w.heap.size w wr) (fun a _ => (257 - intOf a).toNat)
  case atStart => exact ⟨-1, by omega, by omega, rfl, Below.refl _ _⟩
  case round =>
    obtain ⟨x, x0, x1, rfl, kr⟩ := hrel
    have KR := Lib.hid kr
    clear kr
    by_cases hx : x ≤ 256
    · go_wp2_with fail
      go_loopw [2] (fun b wr => ∃ y : Int, -1 ≤ y ∧ y ≤ 257 ∧ b = .int .i64 y ∧ Below w.heap.size w wr) (fun b _ => (257 - intOf b).toNat)
      case atStart => exact ⟨-1, by omega, by omega, rfl, KR.out⟩
      case round =>
        obtain ⟨y, y0, y1, rfl, kr⟩ := hrel
        have KR2 := Lib.hid kr
        clear kr
        by_cases hy : y ≤ 256
        · go_wp2_with fail
          refine (next_any _ _).mono ?_
          rintro e w' ⟨rfl, rfl⟩
          go_wp2_with fail
          refine (refNext_any _ _).mono ?_
          rintro e w' ⟨rfl, rfl⟩
          go_wp2_with fail
          refine (distance_any _ _ _).mono ?_
          rintro e w1 ⟨rfl, k1⟩
          have K1 := Lib.hid (KR2.out.trans (k1.mono KR2.out.size))
          clear k1
          go_wp2_with fail
          refine (refDistance_any _ _ _).mono ?_
          rintro e w2 ⟨rfl, k2⟩
          have K2 := Lib.hid (K1.out.trans (k2.mono K1.out.size))
          clear k2
          go_wp2_with fail
          obtain ⟨W, hW⟩ : ∃ W, w2.alloc (.cells #[.int .u8 0, .int .i64 x, .int .u8 0, .int .i64 y] 39) = W := ⟨_, rfl⟩
          rw [hW]
          have hops : Ops W (some ⟨w2.heap.size, 0, none⟩) 2 (fun _ => 0) (fun k => if k = 0 then x else y) := by
            have hb : Blk W w2.heap.size 39 #[.int .u8 0, .int .i64 x, .int .u8 0, .int .i64 y] := by rw [← hW]; exact Blk.made _ _ _
            refine ⟨by omega, fun _ => ⟨_, 0, rfl, hb.lt, fun k hk => ?_⟩⟩
            rcases (show k = 0 ∨ k = 1 by omega) with rfl | rfl
            · exact ⟨hb.cell 0, hb.cell 1, by decide, by decide⟩
            · exact ⟨hb.cell 2, hb.cell 3, by decide, by decide⟩
          have KW : Hid (Below w.heap.size w W) := Lib.hid (by rw [← hW]; exact K2.out.alloc K2.out.size _)
          clear hW
          refine (run_any _ 2 _ _ _ _ hops (by omega)).mono ?_
          rintro e w3 ⟨rfl, k3⟩
          have K3 := Lib.hid (KW.out.trans (k3.mono KW.out.size))
          clear k3 hops
          go_wp2_with fail
          go_roundw
          case rel => exact ⟨y + 1, by omega, by omega, rfl, K3.out⟩
          case measure => simp [intOf]; omega
        · go_wp2_with fail
          go_roundw
          case rel => exact ⟨x + 1, by omega, by omega, rfl, KR2.out⟩
          case measure => simp [intOf]; omega
    · go_wp2_with fail
      obtain ⟨W, hW⟩ : ∃ W, wr.alloc (.cells #[.int .u8 0, .int .i64 0, .int .u8 0, .int .i64 1, .int .u8 0, .int .i64 2, .int .u8 0, .int .i64 3, .int .u8 0, .int .i64 254, .int .u8 0, .int .i64 255, .int .u8 0, .int .i64 256, .int .u8 7, .int .i64 0, .int .u8 0, .int .i64 4] 39) = W := ⟨_, rfl⟩
      rw [hW]
      have hb : Blk W wr.heap.size 39 #[.int .u8 0, .int .i64 0, .int .u8 0, .int .i64 1, .int .u8 0, .int .i64 2, .int .u8 0, .int .i64 3, .int .u8 0, .int .i64 254, .int .u8 0, .int .i64 255, .int .u8 0, .int .i64 256, .int .u8 7, .int .i64 0, .int .u8 0, .int .i64 4] := by rw [← hW]; exact Blk.made _ _ _
      have hob := hb.lt
      have KW := Lib.hid (show Below w.heap.size w W by rw [← hW]; exact KR.out.alloc KR.out.size _)
      have HC := Lib.hid (show ∀ d, d < 9 → W.cell? ⟨wr.heap.size, d * 2, none⟩ = some (.int .u8 (ox d)) ∧ W.cell? ⟨wr.heap.size, d * 2 + 1, none⟩ = some (.int .i64 (oz d)) from fun d hd => by
        rw [hb.cell, hb.cell]
        match d, hd with
        | 0, _ => exact ⟨rfl, rfl⟩
        | 1, _ => exact ⟨rfl, rfl⟩
        | 2, _ => exact ⟨rfl, rfl⟩
        | 3, _ => exact ⟨rfl, rfl⟩
        | 4, _ => exact ⟨rfl, rfl⟩
        | 5, _ => exact ⟨rfl, rfl⟩
        | 6, _ => exact ⟨rfl, rfl⟩
        | 7, _ => exact ⟨rfl, rfl⟩
        | 8, _ => exact ⟨rfl, rfl⟩)
      clear hb hW
      generalize wr.heap.size = ob at *
      obtain ⟨N, hN⟩ : ∃ N : Int, N = 59049 := ⟨_, rfl⟩
      have HN := Lib.hid hN
      clear hN
      go_loopw [4] (fun n wr => ∃ k : Nat, (k : Int) ≤ N ∧ n = .int .i64 k ∧ Below W.heap.size W wr) (fun n _ => (N - intOf n).toNat)
      case atStart => exact ⟨0, by have := HN.out; omega, rfl, Below.refl _ _⟩
      case round =>
        obtain ⟨k, hk, rfl, kr⟩ := hrel
        have KR2 := Lib.hid kr
        clear kr
        rename World => wo
        by_cases hlt : (k : Int) < N
        · have hlt2 : (k : Int) < 59049 := by have := HN.out; omega
          go_wp2_with fail
          have HK := Lib.hid hk
          have HLT := Lib.hid hlt
          clear hk hlt hlt2
          go_loopw [5, 6, 7] (fun l i m wq => ∃ (j n : Nat) (xs : List (Int × Int)), j ≤ 5 ∧ (n : Int) ≤ N ∧ xs.length = j ∧ (∀ q ∈ xs, 0 ≤ q.1 ∧ q.1 ≤ 255) ∧ i = .int .i64 j ∧ m = .int .i64 n ∧ wq.ownsRow wo.heap.size 39 2 l j (ofl xs) ∧ Below wo.heap.size wo wq)
            (fun _ i _ _ => 5 - (intOf i).toNat)
          case atStart => exact ⟨0, k, [], by omega, HK.out, rfl, by simp, rfl, rfl, World.ownsRow_nil _ _ _ _, Below.refl _ _⟩
          case round =>
            obtain ⟨j, n, xs, hj, hnN, hlen, hq, rfl, rfl, hrow, kq⟩ := hrel
            by_cases hlt5 : j < 5
            · obtain ⟨d, hd, hd0, hd9⟩ : ∃ d : Nat, (n : Int) % 9 = d ∧ 0 ≤ (d : Int) ∧ d < 9 := ⟨n % 9, by omega, by omega, by omega⟩
              obtain ⟨c0, c1⟩ := HC.out d hd9
              have ob1 : ob < wo.heap.size := Nat.lt_of_lt_of_le hob KR2.out.size
              have y0 : wr.cell? ⟨ob, d * 2, none⟩ = some (.int .u8 (ox d)) := (kq.cell (p := ⟨ob, d * 2, none⟩) ob1).trans ((KR2.out.cell (p := ⟨ob, d * 2, none⟩) hob).trans c0)
              have y1 : wr.cell? ⟨ob, d * 2 + 1, none⟩ = some (.int .i64 (oz d)) := (kq.cell (p := ⟨ob, d * 2 + 1, none⟩) ob1).trans ((KR2.out.cell (p := ⟨ob, d * 2 + 1, none⟩) hob).trans c1)
              have hox := Lib.hid (ox_bd d)
              have HQ := Lib.hid hq
              have HL := Lib.hid hlen
              have d9 : (d : Int) < 9 := by omega
              have hn9 : (n : Int) ≤ 59049 := by have := HN.out; omega
              clear c0 c1 hq hlen
              generalize ox d = x1 at *
              generalize oz d = z1 at *
              go_wp2_with (at_builtin; refine wpList_append_own _ rfl _ _ 37 rfl wo.heap.size 39 i0 (.agg #[.int .u8 0, .int .i64 0]) 2 16 Try.underlying37 hi'.out hz0'.out hz1'.out hz2'.out rfl (by decide) _ _ _ rfl (hrow.alloc _) ⟨wr.heap.size, 0, none⟩ 1 1 [.int .u8 x1, .int .i64 z1] rfl rfl (new_two _ _ _ _) (one_two _ _) (by unfold maxLen; omega) (by omega) (by have := kq.size; simp; omega) ?_; intro v' w2 hrow2 hg2 _)
              have kB2 : Below wo.heap.size wo w2 := (kq.alloc kq.size _).grown hg2 (by have := kq.size; simp; omega) (fun j e => (hrow.lt j e).1)
              go_roundw
              case rel => exact ⟨j + 1, n / 9, xs ++ [(x1, z1)], by omega, by omega, by simp [HL.out], (fun q hq' => by
                  rcases List.mem_append.1 hq' with h | h
                  · exact HQ.out q h
                  · simp at h; subst h; exact hox.out), by go_num, by go_num, by rw [ofl_app]; exact hrow2, kB2⟩
              case measure => simp [intOf]; omega
            · obtain rfl : j = 5 := by omega
              obtain ⟨A, c, rfl, hops⟩ := own_ops hrow hlen.symm (by omega) hq
              have HO := Lib.hid hops
              have KQ := Lib.hid kq
              clear hops hrow hq hlen kq
              go_wp2_with fail
              refine (run_any _ 5 _ _ _ _ HO.out (by omega)).mono ?_
              rintro e w3 ⟨rfl, k3⟩
              have K3 := Lib.hid (KR2.out.trans ((KQ.out.trans (k3.mono KQ.out.size)).mono KR2.out.size))
              clear k3
              have hk := HK.out
              have hlt := HLT.out
              have hlt2 : (k : Int) < 59049 := by have := HN.out; omega
              go_wp2_with fail
              go_roundw
              case rel => exact ⟨k + 1, by omega, by go_num, K3.out⟩
              case measure => simp [intOf]; omega
        · have hlt2 : ¬ (k : Int) < 59049 := by have := HN.out; omega
          go_wp2_with fail
          refine (awake_any _).mono ?_
          rintro e w4 ⟨rfl, k4⟩
          have K4 := Lib.hid (KW.out.trans ((KR2.out.trans (k4.mono KR2.out.size)).mono KW.out.size))
          clear k4
          go_wp2_with fail
          go_ret
          exact ⟨rfl, K4.out⟩
end Go.Proofs.Ytgljfjmffiofkaa
