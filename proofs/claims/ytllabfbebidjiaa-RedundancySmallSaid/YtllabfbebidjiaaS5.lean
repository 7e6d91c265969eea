/-
  The contract of Merge: where every arrival is one, which are delivered (mout); else nothing and ErrArg. It takes that there are at most a million.
-/
import Derived.Test.YtllabfbebidjiaaS4
import Derived.OwnWalk
namespace Go.Proofs.Ytllabfbebidjiaa
open Go.RowKit
theorem run_store_func (P : Program) (w : World) (a : Addr) (m : Mode) (f : Fn) (b c : Array Value) : (store a (.func f b c) m).run P w = stored P w a (.func f b c) m := run_store P w a _ m rfl
attribute [local go_sem] run_store_func
theorem Try.info4' : (Try.prog.info? 4).map (fun i => (i.zero, i.size, i.bytes)) = some (some (.bool false), 1, 1) := by kernel_rfl
def bV (z : List Bool) : List Value := z.map fun x => Value.bool x
theorem bV_app (z : List Bool) (b : Bool) : bV (z ++ [b]) = bV z ++ [.bool b] := by simp [bV]
/-- a slice of bools of its own -/
def BoolsIn (w : World) (A : Option Addr) (z : List Bool) : Prop := 0 < z.length → ∃ b, A = some ⟨b, 0, none⟩ ∧ b < w.heap.size ∧ ∀ k, k < z.length → w.cell? ⟨b, k, none⟩ = some (.bool (z.getD k false))
theorem BoolsIn.below {w w' : World} {A : Option Addr} {z : List Bool} {B : Nat} (h : BoolsIn w A z) (hb : Below B w w') (hB : w.heap.size ≤ B) : BoolsIn w' A z := fun hz => by
  obtain ⟨b, hA, hlt, hc⟩ := h hz
  exact ⟨b, hA, Nat.lt_of_lt_of_le hlt hb.size, fun k hk => (hb.cell (p := ⟨b, k, none⟩) (Nat.lt_of_lt_of_le hlt hB)).trans (hc k hk)⟩
theorem own_bools {w : World} {base : Nat} {v : Value} {n : Nat} {z : List Bool} (hn : z.length = n) (h : w.ownsRow base 4 1 v n (bV z)) : ∃ A c, v = .slice A n c ∧ BoolsIn w A z := by
  rcases h.2 with ⟨rfl, h0⟩ | ⟨g, cap, cur, rfl, _, hh, _⟩
  · rw [h0]
    exact ⟨none, 0, rfl, fun h => by omega⟩
  · refine ⟨_, _, rfl, fun _ => ⟨g, rfl, lt_of_block hh, fun k hk => ?_⟩⟩
    have h1 := h.cells (g := g) rfl k (.bool (z.getD k false)) (by simp [bV, hk])
    rwa [add_eq, Nat.zero_add] at h1
theorem one_bool (a : Bool) : ∀ u ∈ [Value.bool a], u.oneCell' = true := by
  intro u hu
  simp at hu
  subst hu
  rfl
/-- one of Merge's kinds of block -/
def kinds (t : TypeId) : Prop := t = 58 ∨ t = 76 ∨ t = 71 ∨ t = 55
section
variable {W W' : World} {sb tb cb k : Nat} {fl : Nat → Nat} {m : MS}
theorem MW.far {row : Option Nat} (h : MW W sb fl tb cb k m) (hg : W.grownBy W' row) (hr : ∀ g t cs, Blk W g t cs → kinds t → some g ≠ row) : MW W' sb fl tb cb k m := by
  obtain ⟨⟨cs, h1, h1'⟩, h2, h3, h4, h5⟩ := h
  refine ⟨⟨cs, h1.grown hg (hr _ _ _ h1 (.inl rfl)), h1'⟩, fun j hj => ?_, h3.grown hg (hr _ _ _ h3 (.inr (.inr (.inl rfl)))), h4.grown hg (hr _ _ _ h4 (.inr (.inr (.inr rfl)))), h5⟩
  obtain ⟨a, r, hf, hx⟩ := h2 j hj
  exact ⟨a, r, Blk.grown hf hg (hr _ _ _ hf (.inr (.inl rfl))), hx⟩
theorem MW.drew (h : MW W sb fl tb cb k m) : MW W.drew sb fl tb cb k m := h.far (row := none) (gb_drew (World.grownBy.refl _ _)) (fun _ _ _ _ _ => by simp)
theorem MW.alloc (h : MW W sb fl tb cb k m) (o : Obj) : MW (W.alloc o) sb fl tb cb k m := h.far (row := none) (gb_alloc (World.grownBy.refl _ _) o) (fun _ _ _ _ _ => by simp)
theorem MW.clock (h : MW W sb fl tb cb k m) (t : Int) : MW (W.setCell ⟨cb, 0, none⟩ (.int .i64 t)) sb fl tb cb k { m with now := t } := by
  obtain ⟨⟨cs, h1, h1'⟩, h2, h3, h4, h5⟩ := h
  refine ⟨⟨cs, h1.far (p := ⟨cb, 0, none⟩) (h1.ne_ h4 (by decide)) _, h1'⟩, fun j hj => ?_, h3.far (p := ⟨cb, 0, none⟩) (h3.ne_ h4 (by decide)) _, h4.put 0 _, h5⟩
  obtain ⟨a, r, hf, hx⟩ := h2 j hj
  exact ⟨a, r, Blk.far hf (p := ⟨cb, 0, none⟩) (Blk.ne_ hf h4 (by decide)) _, hx⟩
theorem fl_ne (h : MW W sb fl tb cb k m) {i j : Nat} (hi : i < 2) (hj : j < 2) (he : i ≠ j) : fl i ≠ fl j := by
  have := h.ne
  match i, j, hi, hj with
  | 0, 0, _, _ => exact absurd rfl he
  | 0, 1, _, _ => exact this
  | 1, 0, _, _ => exact this.symm
  | 1, 1, _, _ => exact absurd rfl he
theorem MW.took (h : MW W sb fl tb cb k m) {j : Nat} (hj : j < 2) {seq a r : Int} (hg : W.grownBy W' (some (fl j))) (hf : Flt W' (fl j) a r seq true) (ha : 0 ≤ a) (hr : 0 ≤ r) (hk : a + r ≤ (k + 1 : Nat)) :
    MW W' sb fl tb cb (k + 1) { m with p := fun i => if i = j then seq else m.p i, so := fun i => if i = j then true else m.so i } := by
  have h0 := h
  obtain ⟨⟨cs, h1, h1'⟩, h2, h3, h4, h5⟩ := h
  obtain ⟨a0, r0, hf0, _⟩ := h2 j hj
  have ne : ∀ {g t : Nat} {cs : Array Value}, Blk W g t cs → t ≠ 76 → some g ≠ some (fl j) := fun hb ht e => Blk.ne_ hb hf0 ht (by injection e)
  refine ⟨⟨cs, h1.grown hg (ne h1 (by decide)), h1'⟩, fun i hi => ?_, h3.grown hg (ne h3 (by decide)), h4.grown hg (ne h4 (by decide)), h5⟩
  by_cases e : i = j
  · subst e
    refine ⟨a, r, ?_, ha, hr, hk⟩
    simpa using hf
  · obtain ⟨a1, r1, hf1, x0, x1, x2⟩ := h2 i hi
    refine ⟨a1, r1, ?_, x0, x1, by omega⟩
    simp only [if_neg e]
    exact Blk.grown hf1 hg (fun e2 => fl_ne h0 hi hj e (by injection e2))
theorem MW.offered (h : MW W sb fl tb cb k m) {s : St} (hg : W.grownBy W' (some sb)) (hs : SelW W' sb s) : MW W' sb fl tb cb k { m with sel := s } := by
  obtain ⟨⟨cs, h1, h1'⟩, h2, h3, h4, h5⟩ := h
  have ne : ∀ {g t : Nat} {cs : Array Value}, Blk W g t cs → t ≠ 58 → some g ≠ some sb := fun hb ht e => Blk.ne_ hb h1 ht (by injection e)
  refine ⟨hs, fun i hi => ?_, h3.grown hg (ne h3 (by decide)), h4.grown hg (ne h4 (by decide)), h5⟩
  obtain ⟨a1, r1, hf1, hx⟩ := h2 i hi
  exact ⟨a1, r1, Blk.grown hf1 hg (ne hf1 (by decide)), hx⟩
theorem MW.own {base n : Nat} {v : Value} {xs : List Value} (h : MW W sb fl tb cb k m) (hg : W.grownBy W' v.ownBlock) (hv : W.ownsRow base 4 1 v n xs) : MW W' sb fl tb cb k m :=
  h.far hg fun g t cs hb ht e => own_ne hv hb (by rcases ht with rfl | rfl | rfl | rfl <;> decide) e.symm
theorem MW.entry (h : MW W sb fl tb cb k m) {j : Nat} (hj : j < 2) : W.cell? ⟨tb, j, none⟩ = some (acc (fl j)) := by
  rw [h.tab.cell]
  match j, hj with
  | 0, _ => rfl
  | 1, _ => rfl
end
theorem accept_any (fb : Nat) (n a r p : Int) (s : Bool) (w : World) (hf : Flt w fb a r p s) (hn : isN n = true) (h0 : 0 ≤ a) (h1 : a ≤ 1000000000000) (h2 : 0 ≤ r) (h3 : r ≤ 1000000000000) :
    Calls Try.prog 19 #[.pointer (some ⟨fb, 0, none⟩), .int .i64 n] w fun e w' => e = .returned (.tuple #[.bool (adm s p n), .int .i64 0]) ∧ (∃ a' r', Flt w' fb a' r' n true ∧ 0 ≤ a' ∧ 0 ≤ r' ∧ a' + r' ≤ a + r + 1) ∧ w.grownBy w' (some fb) := by
  refine (accept_ok _ fb n a r p s w hf hn h0 h1 h2 h3 rfl).mono ?_
  rintro e w' ⟨rfl, hf', hg⟩
  refine ⟨rfl, ⟨_, _, hf', ?_⟩, hg⟩
  split <;> omega
/-- what Merge leaves -/
def MPost (skew : Int) (N Q T : Nat → Int) (n : Nat) (w : World) (e : Ending) (w' : World) : Prop :=
  Below w.heap.size w w' ∧
  (((∀ j, j < n → mok skew N Q T j = true) ∧ ∃ A c, e = .returned (.tuple #[.slice A n c, .int .i64 0]) ∧ BoolsIn w' A (mout skew N Q T n)) ∨
   ((∃ j, j < n ∧ mok skew N Q T j = false) ∧ e = .returned (.tuple #[.slice none 0 0, .int .i64 2])))
set_option maxRecDepth 100000 in
set_option maxHeartbeats 4000000 in
theorem merge_ok (skew : Int) (A : Option Addr) (n c : Nat) (N Q T : Nat → Int) (w : World) (hA : ArrIn w A n N Q T) (h0 : 0 ≤ skew) (h1 : skew ≤ 1073741824) (hn : n ≤ 1000000) :
    Calls Try.prog 15 #[.int .i64 skew, .slice A n c] w (MPost skew N Q T n w) := by
  obtain ⟨i0, hi, hz0, hz1, hz2⟩ := info_parts Try.info4'
  have hi' := Lib.hid hi
  have hz0' := Lib.hid hz0
  have hz1' := Lib.hid hz1
  have hz2' := Lib.hid hz2
  clear hi hz0 hz1 hz2
  go_enter Try.func15, Try.ntmps15
  go_wp2_with fail
  refine (selNew_ok skew w h0 h1).mono ?_
  rintro e w1 ⟨sb, rfl, hsb, k1, s1⟩
  go_wp2_with fail
  refine (new_any w1).mono ?_
  rintro e w2 ⟨f0, rfl, hf0, k2, hb0⟩
  go_wp2_with fail
  refine (new_any w2).mono ?_
  rintro e w3 ⟨f1, rfl, hf1, k3, hb1⟩
  have b0 : Blk (w3.alloc (.cells #[.nilFunc, .nilFunc] 71)) w3.heap.size 71 #[.nilFunc, .nilFunc] := Blk.made _ _ _
  have q0 : (w3.alloc (.cells #[.nilFunc, .nilFunc] 71)).cell? ⟨w3.heap.size, 0, none⟩ = some .nilFunc := b0.cell 0
  have q1 := b0.free 0
  have b1 := b0.put 0 (.func (.func 19) #[.pointer (some ⟨f0, 0, none⟩)] #[])
  have q2 : ((w3.alloc (.cells #[.nilFunc, .nilFunc] 71)).setCell ⟨w3.heap.size, 0, none⟩ (.func (.func 19) #[.pointer (some ⟨f0, 0, none⟩)] #[])).cell? ⟨w3.heap.size, 1, none⟩ = some .nilFunc := b1.cell 1
  have q3 := b1.free 1
  go_wp2_with fail
  obtain ⟨W, hW⟩ : ∃ W, (w3.alloc (.cells #[.func (.func 19) #[.pointer (some ⟨f0, 0, none⟩)] #[], .func (.func 19) #[.pointer (some ⟨f1, 0, none⟩)] #[]] 71)).alloc (.cells #[.int .i64 0] 55) = W := ⟨_, rfl⟩
  rw [hW]
  obtain ⟨fl, hfl0, hfl1⟩ : ∃ fl : Nat → Nat, fl 0 = f0 ∧ fl 1 = f1 := ⟨fun j => if j = 0 then f0 else f1, by simp, by simp⟩
  have kW : Below w3.heap.size w3 W := by rw [← hW]; exact ((Below.refl _ _).alloc (Nat.le_refl _) _).alloc (by simp) _
  have k12 : Below w.heap.size w w2 := k1.trans (k2.mono k1.size)
  have k13 : Below w.heap.size w w3 := k12.trans (k3.mono k12.size)
  have MW0 : MW W sb fl w3.heap.size (w3.heap.size + 1) 0 (mst skew N Q T 0) := by
    refine ⟨((s1.kept k2).kept k3).kept kW, fun j hj => ?_, ?_, ?_, ?_⟩
    · match j, hj with
      | 0, _ => rw [hfl0]; exact ⟨0, 0, (Blk.below hb0 k3 hb0.lt).below kW (Nat.lt_of_lt_of_le hb0.lt k3.size), by omega, by omega, by omega⟩
      | 1, _ => rw [hfl1]; exact ⟨0, 0, Blk.below hb1 kW hb1.lt, by omega, by omega, by omega⟩
    · rw [← hW, hfl0, hfl1]; exact (Blk.made _ _ _).alloc _
    · rw [← hW]; exact Blk.made_at _ _ _ (by simp)
    · rw [hfl0, hfl1]; have := hb0.lt; omega
  have HM0 := Lib.hid MW0
  have KW := Lib.hid (k13.trans (kW.mono k13.size))
  have HA := Lib.hid hA
  have e1 : W.heap.size = w3.heap.size + 1 + 1 := by rw [← hW]; simp
  have etb : w.heap.size ≤ w3.heap.size := k13.size
  have hfl : ∀ j, j < 2 → w.heap.size ≤ fl j := fun j hj => by
    have q1 := k1.size
    have q2 := k12.size
    match j, hj with
    | 0, _ => rw [hfl0]; omega
    | 1, _ => rw [hfl1]; omega
  have HFL := Lib.hid hfl
  clear b0 b1 q0 q1 q2 q3 hW MW0 k1 k2 k3 k12 k13 hb0 hb1 s1 kW hA hfl0 hfl1 hfl
  generalize w3.heap.size = tb at *
  go_loopw [10, 30] (fun v i wr => ∃ k : Nat, k ≤ n ∧ i = .int .i64 k ∧ (∀ j, j < k → mok skew N Q T j = true) ∧ wr.ownsRow w.heap.size 4 1 v k (bV (mout skew N Q T k)) ∧ MW wr sb fl tb (tb + 1) k (mst skew N Q T k) ∧ Below w.heap.size w wr)
    (fun _ i _ => n - (intOf i).toNat)
  case atStart => exact ⟨0, Nat.zero_le _, rfl, fun j hj => by omega, World.ownsRow_nil _ _ _ _, HM0.out, KW.out⟩
  case round =>
    obtain ⟨k, hk, rfl, hok, hrow, hmw, kr⟩ := hrel
    have HOK := Lib.hid hok
    have HROW := Lib.hid hrow
    have HMW := Lib.hid hmw
    have KR := Lib.hid kr
    clear hok hrow hmw kr
    by_cases hlt : k < n
    · obtain ⟨b, off, rfl, hb, hc⟩ := HA.out.2 (by omega)
      obtain ⟨c0, c1, c2⟩ := hc k hlt
      have y0 := (KR.out.cell (p := ⟨b, off + k * 3, none⟩) hb).trans c0
      have y1 := (KR.out.cell (p := ⟨b, off + k * 3 + 1, none⟩) hb).trans c1
      have y2 := (KR.out.cell (p := ⟨b, off + k * 3 + 2, none⟩) hb).trans c2
      clear hc c0 c1 c2
      obtain ⟨net, hnet⟩ : ∃ x, N k = x := ⟨_, rfl⟩
      obtain ⟨seq, hseq⟩ : ∃ x, Q k = x := ⟨_, rfl⟩
      obtain ⟨tim, htim⟩ : ∃ x, T k = x := ⟨_, rfl⟩
      obtain ⟨m, hm⟩ : ∃ m, mst skew N Q T k = m := ⟨_, rfl⟩
      rw [hnet] at y0
      rw [hseq] at y1
      rw [htim] at y2
      rw [hm] at HMW
      have HMm := Lib.hid hm
      have HMK : Hid (mok skew N Q T k = mgOk m.now net seq tim) := Lib.hid (by unfold mok; rw [hm, hnet, hseq, htim])
      have HM1 : Hid (mst skew N Q T (k + 1) = (mgStep m net seq tim).1) := Lib.hid (by rw [mst, hm, hnet, hseq, htim])
      have HM2 : Hid (mout skew N Q T (k + 1) = mout skew N Q T k ++ [(mgStep m net seq tim).2]) := Lib.hid (by rw [mout, hm, hnet, hseq, htim])
      clear hnet hseq htim hm
      have g1 : decide (n ≤ k) = false := decide_eq_false (by omega)
      have g2 : decide ((k : Int) < 0) = false := decide_eq_false (by omega)
      have g3 : (k : Int) < n := by omega
      have HW : Hid (wr.grownBy (wr.alloc (.cells #[.int .i64 net, .int .i64 seq, .int .i64 tim] 31)) none) := Lib.hid (gb_alloc (World.grownBy.refl _ _) _)
      obtain ⟨W1, hW1⟩ : ∃ W1, wr.alloc (.cells #[.int .i64 net, .int .i64 seq, .int .i64 tim] 31) = W1 := ⟨_, rfl⟩
      have m1 : MW W1 sb fl tb (tb + 1) k m := by rw [← hW1]; exact HMW.out.alloc _
      have b1 : Blk W1 wr.heap.size 31 #[.int .i64 net, .int .i64 seq, .int .i64 tim] := by rw [← hW1]; exact Blk.made _ _ _
      have r1 := HROW.out.alloc (.cells #[.int .i64 net, .int .i64 seq, .int .i64 tim] 31)
      rw [hW1] at r1
      have k1 : Below w.heap.size w W1 := by rw [← hW1]; exact KR.out.alloc KR.out.size _
      have HW1 := Lib.hid hW1
      have M1 := Lib.hid m1
      have B1 := Lib.hid b1
      have R1 := Lib.hid r1
      have K1 := Lib.hid k1
      have z0 : W1.cell? ⟨wr.heap.size, 0, none⟩ = some (.int .i64 net) := b1.cell 0
      have z1 : W1.cell? ⟨wr.heap.size, 1, none⟩ = some (.int .i64 seq) := b1.cell 1
      have z2 : W1.cell? ⟨wr.heap.size, 2, none⟩ = some (.int .i64 tim) := b1.cell 2
      clear hW1 m1 b1 r1 k1 HW
      by_cases hnet : 0 ≤ net ∧ net ≤ 1
      · obtain ⟨j, rfl⟩ : ∃ j : Nat, net = j := ⟨net.toNat, by omega⟩
        have hj : j < 2 := by omega
        have hx : (j : Int) / 2 = 0 := by omega
        have hx2 : ((j : Int) / 2 != 0) = false := by simpa using hx
        have hnk : Hid ((decide ((0 : Int) ≤ (j : Int)) && decide ((j : Int) ≤ 1)) = true) := Lib.hid (by simp; omega)
        clear hnet
        cases hmv : mvs m.now tim with
        | false =>
          have hbad : Hid (mok skew N Q T k = false) := Lib.hid (by rw [HMK.out]; unfold mgOk; rw [hmv]; simp)
          have HMV := Lib.hid hmv
          clear hmv
          go_wp2_with fail
          rw [HW1.out]
          refine (moves_any (tb + 1) m.now tim W1 (M1.out.clk.cell 0)).mono ?_
          rintro e w4 ⟨rfl, rfl⟩
          rw [HMV.out]
          go_wp2_with fail
          go_ret2
          exact ⟨K1.out, .inr ⟨⟨k, hlt, hbad.out⟩, rfl⟩⟩
        | true =>
          have HMV := Lib.hid hmv
          clear hmv
          obtain ⟨W2, hW2⟩ : ∃ W2, W1.setCell ⟨tb + 1, 0, none⟩ (.int .i64 tim) = W2 := ⟨_, rfl⟩
          have m2 : MW W2 sb fl tb (tb + 1) k { m with now := tim } := by rw [← hW2]; exact M1.out.clock _
          have nb1 : wr.heap.size ≠ tb + 1 := B1.out.ne_ M1.out.clk (by decide)
          have b2 : Blk W2 wr.heap.size 31 #[.int .i64 j, .int .i64 seq, .int .i64 tim] := by rw [← hW2]; exact B1.out.far (p := ⟨tb + 1, 0, none⟩) nb1 _
          have r2 := ownsRow_setCell_other R1.out (a := ⟨tb + 1, 0, none⟩) (own_ne R1.out M1.out.clk (by decide)) (.int .i64 tim)
          rw [hW2] at r2
          have k2 : Below w.heap.size w W2 := by rw [← hW2]; exact K1.out.setCell (p := ⟨tb + 1, 0, none⟩) (by show w.heap.size ≤ tb + 1; omega) _
          have yc : W1.cell? ⟨tb + 1, 0, none⟩ = some (.int .i64 m.now) := M1.out.clk.cell 0
          have fc : W1.frozen? ⟨tb + 1, 0, none⟩ = false := M1.out.clk.free 0
          have HW2 := Lib.hid hW2
          have M2 := Lib.hid m2
          have B2 := Lib.hid b2
          have R2 := Lib.hid r2
          have K2 := Lib.hid k2
          clear hW2 m2 b2 r2 k2 nb1
          go_wp2_with fail
          rw [HW1.out]
          refine (moves_any (tb + 1) m.now tim W1 (M1.out.clk.cell 0)).mono ?_
          rintro e w4 ⟨rfl, rfl⟩
          rw [HMV.out]
          go_wp2_with fail
          rw [HW2.out]
          clear z0 z1 z2 yc fc
          have z0 : W2.cell? ⟨wr.heap.size, 0, none⟩ = some (.int .i64 j) := B2.out.cell 0
          have z1 : W2.cell? ⟨wr.heap.size, 1, none⟩ = some (.int .i64 seq) := B2.out.cell 1
          have z3 : W2.cell? ⟨tb, j, none⟩ = some (.func (.func 19) #[.pointer (some ⟨fl j, 0, none⟩)] #[]) := M2.out.entry hj
          obtain ⟨a, r, hf, a0, r0, ar⟩ := M2.out.flt j hj
          have HF := Lib.hid hf
          have hj2 : (j : Int) < 2 := by omega
          have gq : decide ((j : Int) < 0) = false := decide_eq_false (by omega)
          clear hf
          cases hq : isN seq with
          | false =>
            have hbad : Hid (mok skew N Q T k = false) := Lib.hid (by rw [HMK.out]; unfold mgOk; rw [hq]; simp)
            have HQ := Lib.hid hq
            clear hq
            go_region_held3 (fun w' : World => w'.cell? ⟨wr.heap.size, 0, none⟩ = some (.int .i64 (j : Int)) ∧ w'.cell? ⟨wr.heap.size, 1, none⟩ = some (.int .i64 seq) ∧ w'.cell? ⟨tb, j, none⟩ = some (.func (.func 19) #[.pointer (some ⟨fl j, 0, none⟩)] #[]))
              (first | exact ⟨z0, z1, z3⟩ | exact ⟨y0, y1, y3⟩)
              ((go_at_call 19; refine (accept_bad (fl j) seq a r _ _ _ (by exact HF.out) HQ.out).mono ?_; rintro e w5 ⟨rfl, hf5, hb5⟩
                have hg5 : Below W2.heap.size W2 w5 := (Below.refl _ W2).drew.trans hb5
                have y0 : w5.cell? ⟨wr.heap.size, 0, none⟩ = some (.int .i64 j) := (hg5.cell (p := ⟨wr.heap.size, 0, none⟩) B2.out.lt).trans z0
                have y1 : w5.cell? ⟨wr.heap.size, 1, none⟩ = some (.int .i64 seq) := (hg5.cell (p := ⟨wr.heap.size, 1, none⟩) B2.out.lt).trans z1
                have y3 : w5.cell? ⟨tb, j, none⟩ = some (.func (.func 19) #[.pointer (some ⟨fl j, 0, none⟩)] #[]) := (hg5.cell (p := ⟨tb, j, none⟩) M2.out.tab.lt).trans z3
                have K5 := Lib.hid (K2.out.trans (hg5.mono K2.out.size))))
            rename_i hHeld
            clear hHeld
            go_wp2_with fail
            go_ret2
            exact ⟨K5.out, .inr ⟨⟨k, hlt, hbad.out⟩, rfl⟩⟩
          | true =>
            have hgood : Hid (mok skew N Q T k = true) := Lib.hid (by rw [HMK.out]; unfold mgOk; rw [hnk.out, HMV.out, hq]; rfl)
            have HQ := Lib.hid hq
            have HOK2 : Hid (∀ i, i < k + 1 → mok skew N Q T i = true) := Lib.hid (fun i hi => by
              by_cases e : i = k
              · rw [e]; exact hgood.out
              · exact HOK.out i (by omega))
            obtain ⟨bo, hbo⟩ : ∃ bo, adm (m.so j) (m.p j) seq = bo := ⟨_, rfl⟩
            have HBO := Lib.hid hbo
            clear hq hbo
            go_region_held3 (fun w' : World => w'.cell? ⟨wr.heap.size, 0, none⟩ = some (.int .i64 (j : Int)) ∧ w'.cell? ⟨wr.heap.size, 1, none⟩ = some (.int .i64 seq) ∧ w'.cell? ⟨tb, j, none⟩ = some (.func (.func 19) #[.pointer (some ⟨fl j, 0, none⟩)] #[]))
              (first | exact ⟨z0, z1, z3⟩ | exact ⟨y0, y1, y3⟩)
              ((go_at_call 19; refine (accept_any (fl j) seq a r _ _ _ (by exact HF.out) HQ.out a0 (by omega) r0 (by omega)).mono ?_; rintro e w5 ⟨rfl, hf5, hb5⟩
                have hg5 : W2.grownBy w5 (some (fl j)) := (gb_drew (World.grownBy.refl _ _)).trans hb5
                obtain ⟨a', r', hf5, a0', r0', ar'⟩ := hf5
                have b5 := B2.out.grown hg5 (fun e => Blk.ne_ B2.out HF.out (by decide) (by injection e))
                have t5 := M2.out.tab.grown hg5 (fun e => Blk.ne_ M2.out.tab HF.out (by decide) (by injection e))
                have y0 : w5.cell? ⟨wr.heap.size, 0, none⟩ = some (.int .i64 j) := b5.cell 0
                have y1 : w5.cell? ⟨wr.heap.size, 1, none⟩ = some (.int .i64 seq) := b5.cell 1
                have y2 : w5.cell? ⟨wr.heap.size, 2, none⟩ = some (.int .i64 tim) := b5.cell 2
                have M5 := Lib.hid (M2.out.took hj hg5 hf5 a0' r0' (by push_cast; omega))
                have y3 : w5.cell? ⟨tb, j, none⟩ = some (.func (.func 19) #[.pointer (some ⟨fl j, 0, none⟩)] #[]) := M5.out.entry hj
                have R5 := Lib.hid (R2.out.kept hg5 (.inr (own_ne R2.out HF.out (by decide))))
                have K5 := Lib.hid (K2.out.grown hg5 K2.out.size (fun i e => by injection e with e; subst e; exact HFL.out _ hj))
                rw [HBO.out]
                clear hf5 hg5 hb5 b5 t5))
            rename_i hHeld
            clear hHeld z0 z1 z3
            cases bo with
            | false =>
              have hst : mgStep m (j : Int) seq tim = ({ sel := m.sel, now := tim, p := fun i => if i = j then seq else m.p i, so := fun i => if i = j then true else m.so i }, false) := by
                unfold mgStep
                rw [Int.toNat_natCast, HBO.out]
                rfl
              rw [hst] at HM1 HM2
              clear hst
              go_wp2_with (at_builtin; refine wpList_append_own _ rfl _ _ 33 rfl w.heap.size 4 i0 (.bool false) 1 1 Try.underlying33 hi'.out hz0'.out hz1'.out hz2'.out rfl (by decide) _ _ _ rfl (R5.out.alloc _) ⟨w5.heap.size, 0, none⟩ 1 1 [.bool false] rfl rfl (new_one _ _ _) (one_bool _) (by unfold maxLen; omega) (by omega) (by have := K5.out.size; simp; omega) ?_; intro v' w7 hrow2 hg2 _)
              have kB2 : Below w.heap.size w w7 := (K5.out.alloc K5.out.size _).grown hg2 (by have := K5.out.size; simp; omega) (fun i e => (R5.out.lt i e).1)
              have hm7 := (M5.out.alloc (.cells #[.bool false] 4)).own hg2 (R5.out.alloc _)
              go_roundw
              case rel => exact ⟨k + 1, by omega, by go_num, HOK2.out, by rw [HM2.out, bV_app]; exact hrow2, by rw [HM1.out]; exact hm7, kB2⟩
              case measure => simp [intOf]; omega
            | true =>
              have hst : mgStep m (j : Int) seq tim = ({ sel := (offer m.sel seq tim).1, now := tim, p := fun i => if i = j then seq else m.p i, so := fun i => if i = j then true else m.so i }, (offer m.sel seq tim).2.1) := by
                unfold mgStep
                rw [Int.toNat_natCast, HBO.out]
                rfl
              rw [hst] at HM1 HM2
              clear hst
              have hso : m.sel.Ok := by have := HMm.out; rw [← this]; exact mst_ok h0 h1 k
              have hsc : m.sel.del + m.sel.drp ≤ k := by have := HMm.out; rw [← this]; exact mst_cnt k
              have q0 := hso.d0
              have q1 := hso.r0
              have HO := Lib.hid (offer_any sb m.sel seq tim w5 M5.out.sel hso (by omega) (by omega))
              clear hso hsc q0 q1
              obtain ⟨os, hos⟩ : ∃ os, offer m.sel seq tim = os := ⟨_, rfl⟩
              rw [hos] at HM1 HM2 HO
              clear hos
              obtain ⟨s', ob, oe⟩ := os
              go_wp2_with fail
              refine HO.out.mono ?_
              rintro e w6 ⟨rfl, hs6, hg6⟩
              have M6 := Lib.hid (M5.out.offered hg6 hs6)
              have R6 := Lib.hid (R5.out.kept hg6 (.inr (by obtain ⟨cs, hs, _⟩ := M5.out.sel; exact own_ne R5.out hs (by decide))))
              have K6 := Lib.hid (K5.out.grown hg6 K5.out.size (fun i e => by injection e with e; subst e; exact hsb))
              clear hs6 hg6
              go_wp2_with (at_builtin; refine wpList_append_own _ rfl _ _ 33 rfl w.heap.size 4 i0 (.bool false) 1 1 Try.underlying33 hi'.out hz0'.out hz1'.out hz2'.out rfl (by decide) _ _ _ rfl (R6.out.alloc _) ⟨w6.heap.size, 0, none⟩ 1 1 [.bool ob] rfl rfl (new_one _ _ _) (one_bool _) (by unfold maxLen; omega) (by omega) (by have := K6.out.size; simp; omega) ?_; intro v' w7 hrow2 hg2 _)
              have kB2 : Below w.heap.size w w7 := (K6.out.alloc K6.out.size _).grown hg2 (by have := K6.out.size; simp; omega) (fun i e => (R6.out.lt i e).1)
              have hm7 := (M6.out.alloc (.cells #[.bool ob] 4)).own hg2 (R6.out.alloc _)
              go_roundw
              case rel => exact ⟨k + 1, by omega, by go_num, HOK2.out, by rw [HM2.out, bV_app]; exact hrow2, by rw [HM1.out]; exact hm7, kB2⟩
              case measure => simp [intOf]; omega
      · have hx : ¬ net / 2 = 0 := by omega
        have hx2 : (net / 2 != 0) = true := by simpa using hx
        have hbad : Hid (mok skew N Q T k = false) := Lib.hid (by rw [HMK.out]; unfold mgOk; rw [Bool.and_eq_false_iff]; left; rw [Bool.and_eq_false_iff, decide_eq_false_iff_not, decide_eq_false_iff_not]; omega)
        clear hnet
        go_wp2_with fail
        rw [HW1.out]
        go_ret2
        exact ⟨K1.out, .inr ⟨⟨k, hlt, hbad.out⟩, rfl⟩⟩
    · obtain rfl : k = n := by omega
      obtain ⟨A1, c1, rfl, hbs⟩ := own_bools (mout_len k) HROW.out
      have HB := Lib.hid hbs
      clear hbs
      go_wp2_with fail
      go_ret2
      exact ⟨KR.out, .inl ⟨HOK.out, _, _, rfl, HB.out⟩⟩
set_option maxHeartbeats 1000000 in
theorem merge_bad (skew : Int) (A : Option Addr) (n c : Nat) (w : World) (h : skew < 0 ∨ 1073741824 < skew) :
    Calls Try.prog 15 #[.int .i64 skew, .slice A n c] w fun e w' => e = .returned (.tuple #[.slice none 0 0, .int .i64 2]) ∧ w = w' := by
  go_enter Try.func15, Try.ntmps15
  go_wp2_with fail
  refine (selNew_bad skew w h).mono ?_
  rintro e w1 ⟨rfl, rfl⟩
  go_wp2_with fail
  go_ret2
  exact ⟨rfl, rfl⟩
end Go.Proofs.Ytllabfbebidjiaa
