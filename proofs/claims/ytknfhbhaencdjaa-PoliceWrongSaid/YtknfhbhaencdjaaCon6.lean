/-
  The contract of the iterator of Filter ((*Police).passed and its closure), for every flow at a contract that is one: the indices of the frames that pass, and at the first frame that Pass rejects its index with the error.
-/
import Derived.Test.YtknfhbhaencdjaaCon2
import Derived.Test.YtknfhbhaencdjaaAwake
import Derived.Test.YtknfhbhaencdjaaCon5
import Derived.Test.YtknfhbhaencdjaaRF
import Derived.RangeFuncNested
import Derived.RangeFuncCalls
import Derived.Shelf.Abstract
import Derived.Shelf.RegionOpen
import Derived.OwnWalkIn
import Derived.TacticsInMore
import Derived.LoopNIn
import Derived.LoopIn
namespace Go.Proofs.Ytknfhbhaencdjaa
open Go.RowKit Go.Shelf
attribute [local go_sem] Oper.semAt_some

def ems (B S J : Int) (t s : Nat → Int) (k : Nat) : List (Nat × Int) := (Pol.idx B S J t s k).map fun i => (i, 0)
abbrev encs (x : Nat × Int) : Array Value := #[.int .i64 (x.1 : Int), .int .i64 x.2]
/-- what a round keeps: the account, both boxes, all that lay below n₀ -/
def KpF (n₀ pb fb qb : Nat) (W W' : World) : Prop := W.heap.size ≤ W'.heap.size ∧ ∀ k, k < n₀ ∨ k = pb ∨ k = fb ∨ k = qb → W'.heap[k]? = W.heap[k]?
/-- the iterator's own steps: new blocks, and the account -/
def RF (pb : Nat) (W W' : World) : Prop := W.grownBy W' (some pb) ∧ ∃ cs, Blk W' pb 51 cs

def SF (B S J : Int) (t s : Nat → Int) (n : Nat) (xs : List (Nat × Int)) : Prop :=
  (xs = ems B S J t s n ∧ ∀ i, i < n → Pol.bad t s i = false) ∨ ∃ k, k < n ∧ Pol.bad t s k = true ∧ (∀ i, i < k → Pol.bad t s i = false) ∧ xs = ems B S J t s k ++ [(k, 2)]
def SpF (B S J : Int) (t s : Nat → Int) (n : Nat) (pre : List (Nat × Int)) : Prop :=
  ∃ k, k < n ∧ (∀ i, i < k → Pol.bad t s i = false) ∧ ((Pol.bad t s k = true ∧ pre = ems B S J t s k ++ [(k, 2)]) ∨ (Pol.bad t s k = false ∧ pre = ems B S J t s k ++ [(k, 0)]))

theorem ems_len (B S J : Int) (t s : Nat → Int) (k : Nat) : (ems B S J t s k).length ≤ k := by
  unfold ems Pol.idx
  rw [List.length_map]
  exact Nat.le_trans (List.length_filter_le _ _) (by simp)
theorem ems_yes {B S J : Int} {t s : Nat → Int} {k : Nat} (h : Pol.psd B S J t s k = true) : ems B S J t s (k + 1) = ems B S J t s k ++ [(k, 0)] := by
  unfold ems; rw [Pol.idx_succ, if_pos h, List.map_append]; rfl
theorem ems_no {B S J : Int} {t s : Nat → Int} {k : Nat} (h : Pol.psd B S J t s k = false) : ems B S J t s (k + 1) = ems B S J t s k := by
  unfold ems; rw [Pol.idx_succ, if_neg (by rw [h]; simp), List.append_nil]
theorem fine_of {t s : Nat → Int} {k : Nat} (h : ∀ i, i < k → Pol.bad t s i = false) : Pol.Fine t s k := by
  intro i hi
  have := h i hi
  simp only [Pol.bad, Bool.or_eq_false_iff, decide_eq_false_iff_not] at this
  omega

theorem Blk.ne_ {w : World} {g g' : Nat} {t t' : TypeId} {cs cs' : Array Value} (h : Blk w g t cs) (h' : Blk w g' t' cs') (hne : t ≠ t') : g ≠ g' := by
  rintro rfl
  unfold Blk at h h'
  rw [h] at h'
  injection h' with h'
  injection h' with _ ht
  exact hne ht

set_option maxRecDepth 100000 in
set_option maxHeartbeats 8000000 in
theorem passed1 (n l n₀ pb fb qb : Nat) (B S J : Int) (A : Option Addr) (m c : Nat) (t s : Nat → Int) (hok : okC B S J = true) (J0 Jx : List (Nat × Int) → World → Prop)
    (hJ : ∀ s A B, J0 s A → RF pb A B → J0 s B) (W : World) (hac : Acc W pb B S J (S * (B + J)) 0) (hfb : Blk W fb 33 #[.slice A m c]) (hqb : Blk W qb 30 #[.pointer (some ⟨pb, 0, none⟩)])
    (hm : m ≤ 1000000) (hfl : 0 < m → ∃ g, A = some ⟨g, 0, none⟩ ∧ g < n₀ ∧ ∀ k, k < m → W.cell? ⟨g, k * 2, none⟩ = some (.int .i64 (t k)) ∧ W.cell? ⟨g, k * 2 + 1, none⟩ = some (.int .i64 (s k)))
    (h1n : 1 ≤ n) (hn : n₀ ≤ pb) (hn2 : n₀ ≤ W.heap.size)
    (hY : ∀ pre x W1, J0 pre W1 → pre.length < m + 1 → YieldAt Fence.wide (n - 1) Try.prog l (encs x) W1 fun e W' =>
      (e = .returned (.bool true) ∧ J0 (pre ++ [x]) W' ∧ KpF n₀ pb fb qb W1 W') ∨ (e = .returned (.bool false) ∧ Jx (pre ++ [x]) W'))
    (h0 : J0 [] W) :
    CallsIn Fence.wide n Try.prog 27 #[.func (.yield l) #[] #[], .pointer (some ⟨fb, 0, none⟩), .pointer (some ⟨qb, 0, none⟩)] W fun e W' => (∃ v, e = .returned v) ∧
      ((∃ xs, SF B S J t s m xs ∧ J0 xs W') ∨ (∃ pre, SpF B S J t s m pre ∧ Jx pre W')) := by
  have HFL := Lib.hid hfl
  have HJ := Lib.hid hJ
  have HY := Lib.hid hY
  have b0 : W.cell? ⟨fb, 0, none⟩ = some (.slice A m c) := hfb.cell 0
  clear hfl hJ hY
  refine callsIn_of_wp Try.func27 rfl trivial ?_ rfl
  simp only [Try.ntmps27, List.size_toArray, List.length_cons, List.length_nil, Nat.reduceAdd, Nat.reduceSub, Array.replicate_succ, Array.replicate_zero, List.push_toArray, List.append_toArray, List.nil_append, List.cons_append]
  gi_wp2
  gi_loopw [10] (fun i wr => ∃ k : Nat, k ≤ m ∧ i = .int .i64 k ∧ (∀ i, i < k → Pol.bad t s i = false) ∧ J0 (ems B S J t s k) wr ∧ Acc wr pb B S J (Pol.lev B S J t s k) (Pol.clk t k) ∧
      Blk wr fb 33 #[.slice A m c] ∧ Blk wr qb 30 #[.pointer (some ⟨pb, 0, none⟩)] ∧ W.heap.size ≤ wr.heap.size ∧ (∀ k, k < n₀ → wr.heap[k]? = W.heap[k]?))
    (fun i _ => m - (intOf i).toNat)
  case atStart => exact ⟨0, Nat.zero_le _, rfl, fun i hi => by omega, h0, hac, hfb, hqb, Nat.le_refl _, fun _ _ => rfl⟩
  case round =>
    obtain ⟨k, hk, rfl, hnb, hJk, hack, hfbk, hqbk, hszk, holdk⟩ := hrel
    have hfine := fine_of hnb
    obtain ⟨o1, o2, o3, o4, o5, o6⟩ := okC_true hok
    have hlv := Pol.lev_bd (B := B) (S := S) (J := J) (by omega) (by omega) o5 hfine k (Nat.le_refl _)
    have hck : 0 ≤ Pol.clk t k := Pol.clk_mono (a := 0) hfine (Nat.zero_le _) (Nat.le_refl _)
    obtain ⟨hl1, hl2⟩ := hlv
    have HNB := Lib.hid hnb
    have HOld := Lib.hid holdk
    have HFine := Lib.hid hfine
    clear hnb holdk hfine
    by_cases hlt : k < m
    · obtain ⟨g, rfl, hg, hc⟩ := HFL.out (by omega)
      obtain ⟨x0, x1⟩ := hc k hlt
      have y0 : wr.cell? ⟨g, k * 2, none⟩ = some (.int .i64 (t k)) := (World.cell?_of_block (a := ⟨g, k * 2, none⟩) (HOld.out g hg)).trans x0
      have y1 : wr.cell? ⟨g, k * 2 + 1, none⟩ = some (.int .i64 (s k)) := (World.cell?_of_block (a := ⟨g, k * 2 + 1, none⟩) (HOld.out g hg)).trans x1
      have q0 : wr.cell? ⟨qb, 0, none⟩ = some (.pointer (some ⟨pb, 0, none⟩)) := hqbk.cell 0
      clear x0 x1 hc
      have hqlt := hqbk.lt
      have hnef : fb ≠ pb := hfbk.ne_ hack (by decide)
      have hneq : qb ≠ pb := hqbk.ne_ hack (by decide)
      have hne : ¬ wr.heap.size = qb := by omega
      cases hbad : Pol.bad t s k with
      | true => 
        have HBad := Lib.hid hbad
        clear hbad
        gi_wp2_with (refine ⟨trivial, ?_⟩; gi_at_call 16; refine (callsIn_wide.2 (pass_bad pb _ _ _ _ _ _ _ _ hok (hack.alloc _) HBad.out)).mono ?_; rintro e w1 ⟨rfl, hac1, hg1⟩; have hg2 := (World.grownBy_alloc wr (.cells #[.int .i64 (t k), .int .i64 (s k)] 37) (some pb)).trans hg1; obtain ⟨fn, tmps, assign, body, hy, hR⟩ := HY.out _ (k, 2) w1 (HJ.out _ _ _ hJk ⟨hg2, _, hac1⟩) (Nat.lt_of_le_of_lt (ems_len B S J t s k) (by omega)); dsimp only [encs] at hy)
        refine hR.mono ?_
        rintro e W3 (⟨rfl, hJ3, hk3⟩ | ⟨rfl, hJx3⟩)
        · gi_wp2
          refine bodyPost_ret (results_none rfl _ _ _) rfl ?_
          exact ⟨⟨_, rfl⟩, .inl ⟨_, .inr ⟨k, hlt, HBad.out, HNB.out, rfl⟩, hJ3⟩⟩
        · gi_wp2
          refine bodyPost_ret (results_none rfl _ _ _) rfl ?_
          exact ⟨⟨_, rfl⟩, .inr ⟨_, ⟨k, hlt, HNB.out, .inl ⟨HBad.out, rfl⟩⟩, hJx3⟩⟩
      | false =>
        obtain ⟨f1, f2, f3, f4⟩ : Pol.clk t k ≤ t k ∧ t k ≤ 1073741824 ∧ 1 ≤ s k ∧ s k ≤ 2048 := by
          simp only [Pol.bad, Bool.or_eq_false_iff, decide_eq_false_iff_not] at hbad
          omega
        have HNB2 : Hid (∀ i, i < k + 1 → Pol.bad t s i = false) := Lib.hid (fun i hi => (Nat.lt_or_ge i k).elim (HNB.out i) (fun h => (by have e : i = k := (by omega); subst e; exact hbad)))
        have HBad := Lib.hid hbad
        clear hbad
        cases hps : Pol.psd B S J t s k with
        | true =>
          have HPs := Lib.hid hps
          have hgd : Pol.good B S J (Pol.lev B S J t s k) (Pol.clk t k) (t k) (s k) = true := hps
          have HGd := Lib.hid hgd
          clear hps hgd
          gi_wp2_with (refine ⟨trivial, ?_⟩; gi_at_call 16; refine (callsIn_wide.2 (pass_to (b := true) (L' := Pol.lev B S J t s (k + 1)) pb _ _ _ _ _ _ _ _ hok (hack.alloc _) hl1 hl2 hck f1 f2 f3 f4 HGd.out rfl)).mono ?_; rintro e w1 ⟨rfl, hac1, hg1⟩; have hg2 := (World.grownBy_alloc wr (.cells #[.int .i64 (t k), .int .i64 (s k)] 37) (some pb)).trans hg1; obtain ⟨fn, tmps, assign, body, hy, hR⟩ := HY.out _ (k, 0) w1 (HJ.out _ _ _ hJk ⟨hg2, _, hac1⟩) (Nat.lt_of_le_of_lt (ems_len B S J t s k) (by omega)); dsimp only [encs] at hy)
          refine hR.mono ?_
          rintro e W3 (⟨rfl, hJ3, hk3⟩ | ⟨rfl, hJx3⟩)
          · have hf1 : Blk w1 fb 33 #[.slice (some ⟨g, 0, none⟩) m c] := hfbk.grown hg2 (fun e => hnef (by injection e))
            have hq1 : Blk w1 qb 30 #[.pointer (some ⟨pb, 0, none⟩)] := hqbk.grown hg2 (fun e => hneq (by injection e))
            have ha3 : Acc W3 pb B S J (Pol.lev B S J t s (k + 1)) (Pol.clk t (k + 1)) := (hk3.2 pb (.inr (.inl rfl))).trans hac1
            have hf3 : Blk W3 fb 33 #[.slice (some ⟨g, 0, none⟩) m c] := (hk3.2 fb (.inr (.inr (.inl rfl)))).trans hf1
            have hq3 : Blk W3 qb 30 #[.pointer (some ⟨pb, 0, none⟩)] := (hk3.2 qb (.inr (.inr (.inr rfl)))).trans hq1
            have hz3 : W.heap.size ≤ W3.heap.size := Nat.le_trans (Nat.le_trans hszk hg2.size) hk3.1
            have ho3 : Hid (∀ k, k < n₀ → W3.heap[k]? = W.heap[k]?) := Lib.hid (fun j hj => (hk3.2 j (.inl hj)).trans ((hg2.block j (by omega) (fun e => by injection e with e; omega)).trans (HOld.out j hj)))
            clear hac1 hf1 hq1 hg1 hg2 hk3
            gi_wp2
            go_roundw
            case rel => exact ⟨k + 1, by omega, by go_num, HNB2.out, by rw [ems_yes HPs.out]; exact hJ3, ha3, hf3, hq3, hz3, ho3.out⟩
            case measure => simp [intOf]; omega
          · gi_wp2
            refine bodyPost_ret (results_none rfl _ _ _) rfl ?_
            exact ⟨⟨_, rfl⟩, .inr ⟨_, ⟨k, hlt, HNB.out, .inr ⟨HBad.out, rfl⟩⟩, hJx3⟩⟩
        | false =>
          have HPs := Lib.hid hps
          have hgd : Pol.good B S J (Pol.lev B S J t s k) (Pol.clk t k) (t k) (s k) = false := hps
          have HGd := Lib.hid hgd
          clear hps hgd
          gi_wp2_with (refine ⟨trivial, ?_⟩; gi_at_call 16; refine (callsIn_wide.2 (pass_to (b := false) (L' := Pol.lev B S J t s (k + 1)) pb _ _ _ _ _ _ _ _ hok (hack.alloc _) hl1 hl2 hck f1 f2 f3 f4 HGd.out rfl)).mono ?_; rintro e w1 ⟨rfl, hac1, hg1⟩)
          have hg2 := (World.grownBy_alloc wr (.cells #[.int .i64 (t k), .int .i64 (s k)] 37) (some pb)).trans hg1
          have hf1 : Blk w1 fb 33 #[.slice (some ⟨g, 0, none⟩) m c] := hfbk.grown hg2 (fun e => hnef (by injection e))
          have hq1 : Blk w1 qb 30 #[.pointer (some ⟨pb, 0, none⟩)] := hqbk.grown hg2 (fun e => hneq (by injection e))
          have hj1 := HJ.out _ _ _ hJk ⟨hg2, _, hac1⟩
          refine ⟨fun _ h => (by cases h), ?_⟩
          gi_wp2
          go_roundw
          case rel => exact ⟨k + 1, by omega, by go_num, HNB2.out, by rw [ems_no HPs.out]; exact hj1, hac1, hf1, hq1, Nat.le_trans hszk hg2.size, fun j hj => (hg2.block j (by omega) (fun e => by injection e with e; omega)).trans (HOld.out j hj)⟩
          case measure => simp [intOf]; omega
    · obtain rfl : k = m := by omega
      gi_wp2
      go_end0
      exact ⟨⟨_, rfl⟩, .inl ⟨_, .inl ⟨rfl, HNB.out⟩, hJk⟩⟩
end Go.Proofs.Ytknfhbhaencdjaa
