/-
  The contract of Works: whatever the rows, whatever two units. No condition.
-/
import Derived.Test.YtcjbjhkmnfegnaaIn
import Derived.Test.YtcjbjhkmnfegnaaReg
namespace Go.Proofs.Ytcjbjhkmnfegnaa
open Go.RowKit
def fnd (Rw : Nat → R) (u v : U) : Nat → Bool
  | 0 => false
  | k + 1 => fnd Rw u v k || exa (Rw k) u v || exa (Rw k) v u
def con (Rw : Nat → R) (u v : U) : Nat → Bool
  | 0 => false
  | k + 1 => con Rw u v k || hit (Rw k) u v || hit (Rw k) v u
/-- do two units work together -/
def works (m : Nat) (Rw : Nat → R) (u v : U) : Bool := fnd Rw u v m || !con Rw u v m

set_option maxHeartbeats 2000000 in
theorem works_any (A : Option Addr) (m c : Nat) (Rw : Nat → R) (u v : U) (w : World) (hR : RowsIn w A m Rw) :
    Calls Try.prog 17 #[.slice A m c, uV u, uV v] w fun e w' => e = .returned (.bool (works m Rw u v)) ∧ Below w.heap.size w w' := by
  obtain ⟨n1, hR⟩ := hR
  have HR := Lib.hid hR
  clear hR
  obtain ⟨ua, uv⟩ := u
  obtain ⟨va, vv⟩ := v
  go_enter Try.func17, Try.ntmps17
  go_wp2_with fail
  obtain ⟨W, hW⟩ : ∃ W, ((w.alloc (.cells #[.string ua, .int .i64 uv] 40)).alloc (.cells #[.string va, .int .i64 vv] 40)).alloc (.cells #[.bool false] 4) = W := ⟨_, rfl⟩
  try rw [hW]
  have b4 : Blk W w.heap.size 40 #[.string ua, .int .i64 uv] := by rw [← hW]; exact ((Blk.made _ _ _).alloc _).alloc _
  have b5 : Blk W (w.heap.size + 1) 40 #[.string va, .int .i64 vv] := by rw [← hW]; exact (Blk.made_at _ _ _ (by simp)).alloc _
  have b7 : Blk W (w.heap.size + 1 + 1) 4 #[.bool false] := by rw [← hW]; exact Blk.made_at _ _ _ (by simp)
  have kW : Below w.heap.size w W := by rw [← hW]; exact (((Below.refl _ _).alloc (Nat.le_refl _) _).alloc (by simp) _).alloc (by simp; omega) _
  have B4 := Lib.hid b4
  have B5 := Lib.hid b5
  have B7 := Lib.hid b7
  have KW := Lib.hid kW
  clear b4 b5 b7 kW hW
  go_loopw [9, 17] (fun f i wr => ∃ (k : Nat) (fb : Bool), k ≤ m ∧ i = .int .i64 k ∧ f = .bool fb ∧ fb = fnd Rw (ua, uv) (va, vv) k ∧ Blk wr w.heap.size 40 #[.string ua, .int .i64 uv] ∧ Blk wr (w.heap.size + 1) 40 #[.string va, .int .i64 vv] ∧
      Blk wr (w.heap.size + 1 + 1) 4 #[.bool (con Rw (ua, uv) (va, vv) k)] ∧ Below w.heap.size w wr)
    (fun _ i _ => m - (intOf i).toNat)
  case atStart => exact ⟨0, false, Nat.zero_le _, rfl, rfl, rfl, B4.out, B5.out, B7.out, KW.out⟩
  case round =>
    obtain ⟨k, fb, hk, rfl, rfl, hfb, h4, h5, h7, kr⟩ := hrel
    have HFB := Lib.hid hfb
    have H4 := Lib.hid h4
    have H5 := Lib.hid h5
    have H7 := Lib.hid h7
    have KR := Lib.hid kr
    have l7 := h7.lt
    clear hfb h4 h5 h7 kr
    by_cases hlt : k < m
    · obtain ⟨ob, off, rfl, hb, hcell⟩ := HR.out (by omega)
      obtain ⟨c0, c1, c2, c3⟩ := hcell k hlt
      have y0 : wr.cell? ⟨ob, off + k * 4, none⟩ = some (.string (Rw k).1.1) := (KR.out.cell (p := ⟨ob, off + k * 4, none⟩) hb).trans c0
      have y1 : wr.cell? ⟨ob, off + k * 4 + 1, none⟩ = some (.int .i64 (Rw k).1.2) := (KR.out.cell (p := ⟨ob, off + k * 4 + 1, none⟩) hb).trans c1
      have y2 : wr.cell? ⟨ob, off + k * 4 + 2, none⟩ = some (.string (Rw k).2.1) := (KR.out.cell (p := ⟨ob, off + k * 4 + 2, none⟩) hb).trans c2
      have y3 : wr.cell? ⟨ob, off + k * 4 + 3, none⟩ = some (.int .i64 (Rw k).2.2) := (KR.out.cell (p := ⟨ob, off + k * 4 + 3, none⟩) hb).trans c3
      clear hcell c0 c1 c2 c3
      have HS1 := Lib.hid (show fnd Rw (ua, uv) (va, vv) (k + 1) = (fnd Rw (ua, uv) (va, vv) k || exa (Rw k) (ua, uv) (va, vv) || exa (Rw k) (va, vv) (ua, uv)) from rfl)
      have HS2 := Lib.hid (show con Rw (ua, uv) (va, vv) (k + 1) = (con Rw (ua, uv) (va, vv) k || hit (Rw k) (ua, uv) (va, vv) || hit (Rw k) (va, vv) (ua, uv)) from rfl)
      generalize Rw k = r at *
      obtain ⟨⟨ra, rv⟩, ⟨rb, rq⟩⟩ := r
      obtain ⟨cn, hcn⟩ : ∃ cn, con Rw (ua, uv) (va, vv) k = cn := ⟨_, rfl⟩
      rw [hcn] at H7 HS2
      clear hcn
      dsimp only at y0 y1 y2 y3
      obtain ⟨W1, hW1⟩ : ∃ W1, wr.alloc (.cells #[.string ra, .int .i64 rv, .string rb, .int .i64 rq] 37) = W1 := ⟨_, rfl⟩
      have q0 : Blk W1 wr.heap.size 37 #[.string ra, .int .i64 rv, .string rb, .int .i64 rq] := by rw [← hW1]; exact Blk.made _ _ _
      have q4 : Blk W1 w.heap.size 40 #[.string ua, .int .i64 uv] := by rw [← hW1]; exact H4.out.alloc _
      have q5 : Blk W1 (w.heap.size + 1) 40 #[.string va, .int .i64 vv] := by rw [← hW1]; exact H5.out.alloc _
      have q7 : Blk W1 (w.heap.size + 1 + 1) 4 #[.bool cn] := by rw [← hW1]; exact H7.out.alloc _
      have kq : Below w.heap.size w W1 := by rw [← hW1]; exact KR.out.alloc KR.out.size _
      have HW1 := Lib.hid hW1
      have Q0 := Lib.hid q0
      have Q4 := Lib.hid q4
      have Q5 := Lib.hid q5
      have Q7 := Lib.hid q7
      have KQ := Lib.hid kq
      clear hW1
      go_wp2_with fail
      rw [HW1.out]
      have a0 : W1.cell? ⟨wr.heap.size, 0, none⟩ = some (.string ra) := q0.cell 0
      have a1 : W1.cell? ⟨wr.heap.size, 1, none⟩ = some (.int .i64 rv) := q0.cell 1
      have a2 : W1.cell? ⟨wr.heap.size, 2, none⟩ = some (.string rb) := q0.cell 2
      have a3 : W1.cell? ⟨wr.heap.size, 3, none⟩ = some (.int .i64 rq) := q0.cell 3
      have a4 : W1.cell? ⟨w.heap.size, 0, none⟩ = some (.string ua) := q4.cell 0
      have a5 : W1.cell? ⟨w.heap.size, 1, none⟩ = some (.int .i64 uv) := q4.cell 1
      have a6 : W1.cell? ⟨w.heap.size + 1, 0, none⟩ = some (.string va) := q5.cell 0
      have a7 : W1.cell? ⟨w.heap.size + 1, 1, none⟩ = some (.int .i64 vv) := q5.cell 1
      have m0 : Hid (some wr.heap.size ≠ some (w.heap.size + 1 + 1)) := Lib.hid (by intro e; injection e; omega)
      have m4 : Hid (some w.heap.size ≠ some (w.heap.size + 1 + 1)) := Lib.hid (by intro e; injection e; omega)
      have m5 : Hid (some (w.heap.size + 1) ≠ some (w.heap.size + 1 + 1)) := Lib.hid (by intro e; injection e; omega)
      clear q0 q4 q5 q7 kq
      refine wp_region_held_drew (S := (fun w' : World => w'.cell? ⟨wr.heap.size, 0, none⟩ = some (.string ra) ∧ w'.cell? ⟨wr.heap.size, 1, none⟩ = some (.int .i64 rv) ∧ w'.cell? ⟨wr.heap.size, 2, none⟩ = some (.string rb) ∧ w'.cell? ⟨wr.heap.size, 3, none⟩ = some (.int .i64 rq) ∧ w'.cell? ⟨w.heap.size, 0, none⟩ = some (.string ua) ∧ w'.cell? ⟨w.heap.size, 1, none⟩ = some (.int .i64 uv) ∧ w'.cell? ⟨w.heap.size + 1, 0, none⟩ = some (.string va) ∧ w'.cell? ⟨w.heap.size + 1, 1, none⟩ = some (.int .i64 vv))) (by kernel_rfl) ⟨a0, a1, a2, a3, a4, a5, a6, a7⟩ (fun hS0 => ?_)
      refine ah_take (i := 0) (v := ?_) (some 21) rfl rfl (by kernel_rfl) (by kernel_rfl) (by kernel_rfl) (fun _ _ _ h => h) (by kernel_rfl) ?_ (by assumption) ?_
      rotate_left
      · (intro w hSw; (try dsimp only at hSw); go_simp; (first | done | with_reducible rfl))
      simp only [Act.put, List.setIfInBounds_toArray, List.set_cons_zero, List.set_cons_succ]
      refine ah_take (i := 1) (v := ?_) (some 22) rfl rfl (by kernel_rfl) (by kernel_rfl) (by kernel_rfl) (fun _ _ _ h => h) (by kernel_rfl) ?_ (by assumption) ?_
      rotate_left
      · (intro w hSw; (try dsimp only at hSw); go_simp; (first | done | with_reducible rfl))
      simp only [Act.put, List.setIfInBounds_toArray, List.set_cons_zero, List.set_cons_succ]
      refine ah_take (i := 2) (v := ?_) (some 23) rfl rfl (by kernel_rfl) (by kernel_rfl) (by kernel_rfl) (fun _ _ _ h => h) (by kernel_rfl) ?_ (by assumption) ?_
      rotate_left
      · (intro w hSw; (try dsimp only at hSw); go_simp; (first | done | with_reducible rfl))
      simp only [Act.put, List.setIfInBounds_toArray, List.set_cons_zero, List.set_cons_succ]
      refine ah_take (i := 3) (v := ?_) (some 24) rfl rfl (by kernel_rfl) (by kernel_rfl) (by kernel_rfl) (fun _ _ _ h => h) (by kernel_rfl) ?_ (by assumption) ?_
      rotate_left
      · (intro w hSw; (try dsimp only at hSw); go_simp; (first | done | with_reducible rfl))
      simp only [Act.put, List.setIfInBounds_toArray, List.set_cons_zero, List.set_cons_succ]
      refine ah_take (i := 5) (v := ?_) (some 26) rfl rfl (by kernel_rfl) (by kernel_rfl) (by kernel_rfl) (fun _ _ _ h => h) (by kernel_rfl) ?_ (by assumption) ?_
      rotate_left
      · (intro w hSw; (try dsimp only at hSw); go_simp; (first | done | with_reducible rfl))
      simp only [Act.put, List.setIfInBounds_toArray, List.set_cons_zero, List.set_cons_succ]
      refine ah_take (i := 6) (v := ?_) (some 27) rfl rfl (by kernel_rfl) (by kernel_rfl) (by kernel_rfl) (fun _ _ _ h => h) (by kernel_rfl) ?_ (by assumption) ?_
      rotate_left
      · (intro w hSw; (try dsimp only at hSw); go_simp; (first | done | with_reducible rfl))
      simp only [Act.put, List.setIfInBounds_toArray, List.set_cons_zero, List.set_cons_succ]
      refine ah_take (i := 7) (v := ?_) (some 28) rfl rfl (by kernel_rfl) (by kernel_rfl) (by kernel_rfl) (fun _ _ _ h => h) (by kernel_rfl) ?_ (by assumption) ?_
      rotate_left
      · (intro w hSw; (try dsimp only at hSw); go_simp; (first | done | with_reducible rfl))
      simp only [Act.put, List.setIfInBounds_toArray, List.set_cons_zero, List.set_cons_succ]
      refine ah_take (i := 8) (v := ?_) (some 29) rfl rfl (by kernel_rfl) (by kernel_rfl) (by kernel_rfl) (fun _ _ _ h => h) (by kernel_rfl) ?_ (by assumption) ?_
      rotate_left
      · (intro w hSw; (try dsimp only at hSw); go_simp; (first | done | with_reducible rfl))
      simp only [Act.put, List.setIfInBounds_toArray, List.set_cons_zero, List.set_cons_succ]
      refine wpAnyH_ready (rs := [4]) (by kernel_rfl) (by simp) ?_
      refine AllReadyH.cons rfl (fun K hK => ?_) AllReadyH.nil
      go_simp
      go_at_call 34
      refine (names_ex ra rv rb rq ua uv va vv (w.heap.size + 1 + 1) cn _ (by exact Q7.out)).mono ?_
      rintro e w1 ⟨rfl, hc1, hg1'⟩
      have hg1 : W1.grownBy w1 (some (w.heap.size + 1 + 1)) := (gb_drew (World.grownBy.refl _ _)).trans hg1'
      have p0 := Q0.out.grown hg1 m0.out
      have p4 := Q4.out.grown hg1 m4.out
      have p5 := Q5.out.grown hg1 m5.out
      have d0 : w1.cell? ⟨wr.heap.size, 0, none⟩ = some (.string ra) := p0.cell 0
      have d1 : w1.cell? ⟨wr.heap.size, 1, none⟩ = some (.int .i64 rv) := p0.cell 1
      have d2 : w1.cell? ⟨wr.heap.size, 2, none⟩ = some (.string rb) := p0.cell 2
      have d3 : w1.cell? ⟨wr.heap.size, 3, none⟩ = some (.int .i64 rq) := p0.cell 3
      have d4 : w1.cell? ⟨w.heap.size, 0, none⟩ = some (.string ua) := p4.cell 0
      have d5 : w1.cell? ⟨w.heap.size, 1, none⟩ = some (.int .i64 uv) := p4.cell 1
      have d6 : w1.cell? ⟨w.heap.size + 1, 0, none⟩ = some (.string va) := p5.cell 0
      have d7 : w1.cell? ⟨w.heap.size + 1, 1, none⟩ = some (.int .i64 vv) := p5.cell 1
      have P0 := Lib.hid p0
      have P4 := Lib.hid p4
      have P5 := Lib.hid p5
      have P7 := Lib.hid hc1
      have KP := Lib.hid (KQ.out.grown hg1 KQ.out.size (fun j e => by cases e; omega))
      clear p0 p4 p5 hc1 hg1 hg1'
      refine hK.out _ _ ⟨d0, d1, d2, d3, d4, d5, d6, d7⟩ (fun hS1 => ?_)
      try simp only [Act.put, List.setIfInBounds_toArray, List.set_cons_zero, List.set_cons_succ]
      clear hK K
      refine wpAnyH_ready (rs := [9]) (by kernel_rfl) (by simp) ?_
      refine AllReadyH.cons rfl (fun K hK => ?_) AllReadyH.nil
      go_simp
      go_at_call 34
      refine (names_ex ra rv rb rq va vv ua uv (w.heap.size + 1 + 1) _ _ (by exact P7.out)).mono ?_
      rintro e w2 ⟨rfl, hc2, hg2⟩
      have o0 := P0.out.grown hg2 m0.out
      have o4 := P4.out.grown hg2 m4.out
      have o5 := P5.out.grown hg2 m5.out
      have e0 : w2.cell? ⟨wr.heap.size, 0, none⟩ = some (.string ra) := o0.cell 0
      have e1 : w2.cell? ⟨wr.heap.size, 1, none⟩ = some (.int .i64 rv) := o0.cell 1
      have e2 : w2.cell? ⟨wr.heap.size, 2, none⟩ = some (.string rb) := o0.cell 2
      have e3 : w2.cell? ⟨wr.heap.size, 3, none⟩ = some (.int .i64 rq) := o0.cell 3
      have e4 : w2.cell? ⟨w.heap.size, 0, none⟩ = some (.string ua) := o4.cell 0
      have e5 : w2.cell? ⟨w.heap.size, 1, none⟩ = some (.int .i64 uv) := o4.cell 1
      have e6 : w2.cell? ⟨w.heap.size + 1, 0, none⟩ = some (.string va) := o5.cell 0
      have e7 : w2.cell? ⟨w.heap.size + 1, 1, none⟩ = some (.int .i64 vv) := o5.cell 1
      have O4 := Lib.hid o4
      have O5 := Lib.hid o5
      have O7 := Lib.hid hc2
      have KO := Lib.hid (KP.out.grown hg2 KP.out.size (fun j e => by cases e; omega))
      clear o0 o4 o5 hc2 hg2
      refine hK.out _ _ ⟨e0, e1, e2, e3, e4, e5, e6, e7⟩ (fun hS2 => ?_)
      try simp only [Act.put, List.setIfInBounds_toArray, List.set_cons_zero, List.set_cons_succ]
      clear hK K
      refine ah_take (i := 10) (v := ?_) (some 12) rfl rfl (by kernel_rfl) (by kernel_rfl) (by kernel_rfl) (fun _ _ _ h => h) (by kernel_rfl) ?_ (by assumption) ?_
      rotate_left
      · (intro w hSw; (try dsimp only at hSw); go_simp; (first | done | with_reducible rfl))
      simp only [Act.put, List.setIfInBounds_toArray, List.set_cons_zero, List.set_cons_succ]
      refine ah_take (i := 11) (v := ?_) (some 13) rfl rfl (by kernel_rfl) (by kernel_rfl) (by kernel_rfl) (fun _ _ _ h => h) (by kernel_rfl) ?_ (by assumption) ?_
      rotate_left
      · (intro w hSw; (try dsimp only at hSw); go_simp; (first | done | with_reducible rfl))
      simp only [Act.put, List.setIfInBounds_toArray, List.set_cons_zero, List.set_cons_succ]
      refine wpAnyH_done (by kernel_rfl) ?_ _
      clear a0 a1 a2 a3 a4 a5 a6 a7 d0 d1 d2 d3 d4 d5 d6 d7 e0 e1 e2 e3 e4 e5 e6 e7
      generalize exa ((ra, rv), rb, rq) (ua, uv) (va, vv) = x1 at *
      generalize exa ((ra, rv), rb, rq) (va, vv) (ua, uv) = x2 at *
      cases fb <;> cases x1 <;> cases x2 <;>
       (go_wp2_with fail
        go_roundw
        case rel => exact ⟨k + 1, _, by omega, by go_num, rfl, by rw [HS1.out, ← HFB.out]; rfl, O4.out, O5.out, by rw [HS2.out]; exact O7.out, KO.out⟩
        case measure => simp [intOf]; omega)
    · obtain rfl : k = m := by omega
      obtain ⟨cn, hcn⟩ : ∃ cn, con Rw (ua, uv) (va, vv) k = cn := ⟨_, rfl⟩
      have HE : Hid (works k Rw (ua, uv) (va, vv) = (fb || !cn)) := Lib.hid (by unfold works; rw [← HFB.out, hcn])
      rw [hcn] at H7
      have z7 : wr.cell? ⟨w.heap.size + 1 + 1, 0, none⟩ = some (.bool cn) := H7.out.cell 0
      clear hcn
      cases fb <;> cases cn <;>
       (go_wp2_with fail
        go_ret
        exact ⟨by rw [HE.out]; rfl, KR.out⟩)
end Go.Proofs.Ytcjbjhkmnfegnaa
