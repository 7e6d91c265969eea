/-
  The contract of Reach. It takes that the modules' names are no longer than a string can be.
-/
import Derived.Test.YtcjbjhkmnfegnaaC7
namespace Go.Proofs.Ytcjbjhkmnfegnaa
open Go.RowKit
/-- the numbers below k of which f holds -/
def rl (f : Nat → Bool) : Nat → List Nat
  | 0 => []
  | k + 1 => rl f k ++ (if f k = true then [k] else [])
def nV (z : List Nat) : List Value := z.map fun (x : Nat) => Value.int .i64 ((x : Nat) : Int)
/-- a slice of numbers -/
def NumsIn (w : World) (A : Option Addr) (z : List Nat) : Prop := 0 < z.length → ∃ b, A = some ⟨b, 0, none⟩ ∧ b < w.heap.size ∧ ∀ k, k < z.length → w.cell? ⟨b, k, none⟩ = some (.int .i64 ((z.getD k 0 : Nat) : Int))
theorem NumsIn.below {w w' : World} {A : Option Addr} {z : List Nat} {B : Nat} (h : NumsIn w A z) (hb : Below B w w') (hB : w.heap.size ≤ B) : NumsIn w' A z := fun hz => by
  obtain ⟨b, hA, hlt, hc⟩ := h hz
  exact ⟨b, hA, Nat.lt_of_lt_of_le hlt hb.size, fun k hk => (hb.cell (p := ⟨b, k, none⟩) (Nat.lt_of_lt_of_le hlt hB)).trans (hc k hk)⟩
theorem own_nums {w : World} {base : Nat} {v : Value} {z : List Nat} (h : w.ownsRow base 3 1 v z.length (nV z)) : ∃ A c, v = .slice A z.length c ∧ NumsIn w A z := by
  rcases h.2 with ⟨rfl, h0⟩ | ⟨g, cap, cur, rfl, _, hh, _⟩
  · rw [h0]
    exact ⟨none, 0, rfl, fun h => by omega⟩
  · refine ⟨_, _, rfl, fun _ => ⟨g, rfl, lt_of_block hh, fun k hk => ?_⟩⟩
    have h1 := h.cells (g := g) rfl k (.int .i64 ((z.getD k 0 : Nat) : Int)) (by simp [nV, hk])
    rwa [add_eq, Nat.zero_add] at h1
theorem new_one (w : World) (x : Value) (t : TypeId) : ∀ (j : Nat) (u : Value), [x][j]? = some u → (w.alloc (.cells #[x] t)).cell? ((⟨w.heap.size, 0, none⟩ : Addr).add j) = some u := by
  intro j u hj
  have hb := Blk.made w t #[x]
  rw [add_eq, Nat.zero_add, hb.cell]
  simpa using hj
theorem one_one (a : Int) : ∀ u ∈ [Value.int .i64 a], u.oneCell' = true := by
  intro u hu
  simp at hu
  subst hu
  rfl
theorem index57 {ar : Array Value} {k : Nat} {v : Value} (w : World) (hs : ar.size = 256) (h : ar[k]? = some v) (hk : k < 256) : (Instr.index 57 (.agg ar) (.int .i64 (k : Int))).run Try.prog w = .ok v w := by
  obtain ⟨_, hv⟩ := Array.getElem?_eq_some_iff.1 h
  simp [Instr.index, run_underlying Try.underlying57, go_sem, hs, hk]
  exact hv
theorem rl_len (f : Nat → Bool) : ∀ k, (rl f k).length ≤ k
  | 0 => Nat.le_refl _
  | k + 1 => by
    have := rl_len f k
    rw [rl, List.length_append]
    split <;> simp <;> omega
theorem Try.info3' : (Try.prog.info? 3).map (fun i => (i.zero, i.size, i.bytes)) = some (some (.int .i64 0), 1, 8) := by kernel_rfl
theorem chg_parts {n n2 : Nat} {S T : Nat → U} (h : chg n n2 S T = true) : n ≤ 8 ∧ n = n2 ∧ dis S n = true ∧ ∀ k, k < n → (S k).1 = (T k).1 := by
  unfold chg at h
  simp only [Bool.and_eq_true, decide_eq_true_eq] at h
  obtain ⟨⟨h1, h2⟩, h3, h4⟩ := h
  refine ⟨h1, h3, h2, fun k hk => ?_⟩
  have := eqm_mono (show k + 1 ≤ n by omega) h4
  simp only [eqm, Bool.and_eq_true, decide_eq_true_eq] at this
  exact this.2

set_option maxHeartbeats 2000000 in
theorem reach_bad (A1 A2 A3 : Option Addr) (n c1 n2 c2 m c3 : Nat) (S T : Nat → U) (w : World) (hS : UnitsIn w A1 n S) (hT : UnitsIn w A2 n2 T) (hF : Fits S n) (hn : n ≤ 140737488355328) (hv : chg n n2 S T = false) :
    Calls Try.prog 11 #[.slice A3 m c3, .slice A1 n c1, .slice A2 n2 c2] w fun e w' => e = .returned (.tuple #[.slice none 0 0, .int .i64 2]) ∧ Below w.heap.size w w' := by
  have HS := Lib.hid hS
  have HT := Lib.hid hT
  have HF := Lib.hid hF
  have HV := Lib.hid hv
  clear hS hT hF hv
  go_enter Try.func11, Try.ntmps11
  go_wp2_with fail
  obtain ⟨W, hW⟩ : ∃ W, w.alloc (.cells #[.slice A1 n c1, .slice A2 n2 c2, .slice A3 m c3] 56) = W := ⟨_, rfl⟩
  rw [hW]
  have k : Below w.heap.size w W := by rw [← hW]; exact (Below.refl _ _).alloc (Nat.le_refl _) _
  refine (change_any A1 A2 A3 n c1 n2 c2 m c3 S T W (HS.out.below k (Nat.le_refl _)) (HT.out.below k (Nat.le_refl _)) HF.out hn).mono ?_
  rintro e w1 ⟨rfl, k1⟩
  rw [HV.out]
  have K1 := Lib.hid (k.trans (k1.mono k.size))
  clear k k1 hW
  go_wp2_with fail
  go_ret2
  exact ⟨rfl, K1.out⟩

/-- a list of numbers comes back, and OK -/
def NumsPost (z : List Nat) (w : World) (e : Ending) (w' : World) : Prop := (∃ A c, e = .returned (.tuple #[.slice A z.length c, .int .i64 0]) ∧ NumsIn w' A z) ∧ Below w.heap.size w w'
/-- what Reach tells of a change -/
def rchL (m : Nat) (Rw : Nat → R) (n : Nat) (S T : Nat → U) : List Nat := rl (mk m Rw n S T (2 ^ n)) 256

set_option maxRecDepth 100000 in
set_option maxHeartbeats 2000000 in
theorem reach_ok (A1 A2 A3 : Option Addr) (n c1 n2 c2 m c3 : Nat) (S T : Nat → U) (Rw : Nat → R) (w : World) (hS : UnitsIn w A1 n S) (hT : UnitsIn w A2 n2 T) (hR : RowsIn w A3 m Rw) (hF : Fits S n) (hnc : n ≤ c1) (hv : chg n n2 S T = true) :
    Calls Try.prog 11 #[.slice A3 m c3, .slice A1 n c1, .slice A2 n2 c2] w (NumsPost (rchL m Rw n S T) w) := by
  obtain ⟨h8, rfl, _, hM⟩ := chg_parts hv
  obtain ⟨i0, hi, hz0, hz1, hz2⟩ := info_parts Try.info3'
  have hi' := Lib.hid hi
  have hz0' := Lib.hid hz0
  have hz1' := Lib.hid hz1
  have hz2' := Lib.hid hz2
  have HS := Lib.hid hS
  have HT := Lib.hid hT
  have HR := Lib.hid hR
  have HF := Lib.hid hF
  have HV := Lib.hid hv
  have HM := Lib.hid hM
  clear hS hT hR hF hv hM hi hz0 hz1 hz2
  go_enter Try.func11, Try.ntmps11
  go_wp2_with fail
  obtain ⟨W, hW⟩ : ∃ W, w.alloc (.cells #[.slice A1 n c1, .slice A2 n c2, .slice A3 m c3] 56) = W := ⟨_, rfl⟩
  rw [hW]
  have b : Blk W w.heap.size 56 #[.slice A1 n c1, .slice A2 n c2, .slice A3 m c3] := by rw [← hW]; exact Blk.made _ _ _
  have k : Below w.heap.size w W := by rw [← hW]; exact (Below.refl _ _).alloc (Nat.le_refl _) _
  refine (change_any A1 A2 A3 n c1 n c2 m c3 S T W (HS.out.below k (Nat.le_refl _)) (HT.out.below k (Nat.le_refl _)) HF.out (by omega)).mono ?_
  rintro e w1 ⟨rfl, k1⟩
  rw [HV.out]
  have b1 := b.below k1 b.lt
  have z0 : w1.cell? ⟨w.heap.size, 0, none⟩ = some (.slice A1 n c1) := b1.cell 0
  have z1 : w1.cell? ⟨w.heap.size, 1, none⟩ = some (.slice A2 n c2) := b1.cell 1
  have z2 : w1.cell? ⟨w.heap.size, 2, none⟩ = some (.slice A3 m c3) := b1.cell 2
  have K1 := Lib.hid (k.trans (k1.mono k.size))
  clear k k1 hW b b1
  go_wp2_with fail
  refine (reached_any A1 A2 A3 n c1 c2 m c3 S T Rw w1 (HS.out.below K1.out (Nat.le_refl _)) (HT.out.below K1.out (Nat.le_refl _)) (HR.out.below K1.out (Nat.le_refl _)) h8 hnc HM.out).mono ?_
  rintro e w2 ⟨rfl, k2⟩
  have K2 := Lib.hid (K1.out.trans (k2.mono K1.out.size))
  clear k2 z0 z1 z2
  obtain ⟨f, hf⟩ : ∃ f, mk m Rw n S T (2 ^ n) = f := ⟨_, rfl⟩
  have HL : Hid (∀ N, N = 256 → rchL m Rw n S T = rl f N) := Lib.hid (fun N hN => by unfold rchL; rw [hf, hN])
  rw [hf]
  clear hf
  obtain ⟨ar, har⟩ : ∃ ar : Array Value, (aV f).toArray = ar := ⟨_, rfl⟩
  have HX : Hid (∀ k, k < 256 → ar[k]? = some (.int .i64 (bv (f k)))) := Lib.hid (fun k hk => by rw [← har]; simpa using aV_at f hk)
  have HSZ : Hid (ar.size = 256) := Lib.hid (by rw [← har]; simp [aV_len])
  rw [har]
  clear har
  go_wp2_with fail
  go_loopw [9, 21] (fun v i wr => ∃ k : Nat, k ≤ 256 ∧ i = .int .i64 k ∧ wr.ownsRow w.heap.size 3 1 v (rl f k).length (nV (rl f k)) ∧ Below w.heap.size w wr)
    (fun _ i _ => 256 - (intOf i).toNat)
  case atStart => exact ⟨0, Nat.zero_le _, rfl, World.ownsRow_nil _ _ _ _, K2.out⟩
  case round =>
    obtain ⟨k, hk, rfl, hrow, kr⟩ := hrel
    by_cases hlt : k < 256
    · have hidx := index57 wr HSZ.out (HX.out k hlt) hlt
      have hlt2 : (k : Int) < 256 := by omega
      have hle := rl_len f k
      cases hfk : f k with
      | false =>
        have HR1 : Hid (rl f (k + 1) = rl f k) := Lib.hid (by rw [rl, hfk]; simp)
        rw [hfk, show bv false = 0 from rfl] at hidx
        clear hfk
        go_wp2_with fail
        go_roundw
        case rel => exact ⟨k + 1, by omega, by go_num, by rw [HR1.out]; exact hrow, kr⟩
        case measure => simp [intOf]; omega
      | true =>
        have HR1 : Hid (rl f (k + 1) = rl f k ++ [k]) := Lib.hid (by rw [rl, hfk]; simp)
        rw [hfk, show bv true = 1 from rfl] at hidx
        clear hfk
        go_wp2_with (at_builtin; refine wpList_append_own _ rfl _ _ 25 rfl w.heap.size 3 i0 (.int .i64 0) 1 8 Try.underlying25 hi'.out hz0'.out hz1'.out hz2'.out rfl (by decide) _ _ _ rfl (hrow.alloc _) ⟨wr.heap.size, 0, none⟩ 1 1 [.int .i64 (k : Int)] rfl rfl (new_one _ _ _) (one_one _) (by unfold maxLen; omega) (by omega) (by have := kr.size; simp; omega) ?_; intro v' w2 hrow2 hg2 _)
        have kB2 : Below w.heap.size w w2 := (kr.alloc kr.size _).grown hg2 (by have := kr.size; simp; omega) (fun j e => (hrow.lt j e).1)
        go_roundw
        case rel => exact ⟨k + 1, by omega, by go_num, by rw [HR1.out]; simpa [nV] using hrow2, kB2⟩
        case measure => simp [intOf]; omega
    · have hk2 : k = 256 := by omega
      have HLk := Lib.hid (HL.out k hk2)
      have hge : ¬ (k : Int) < 256 := by omega
      obtain ⟨A, c, rfl, hu⟩ := own_nums hrow
      have HU := Lib.hid hu
      have HKr := Lib.hid kr
      obtain ⟨len, hlen⟩ : ∃ len, (rl f k).length = len := ⟨_, rfl⟩
      have HLen := Lib.hid hlen
      rw [hlen]
      clear hlen hrow hu kr hk2
      go_wp2_with fail
      go_ret2
      exact ⟨⟨A, c, by rw [HLk.out, HLen.out]; rfl, by rw [HLk.out]; exact HU.out⟩, HKr.out⟩
end Go.Proofs.Ytcjbjhkmnfegnaa
