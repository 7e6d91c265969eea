/-
  The contract of the document's Offer (nacelleref21). Conditions: the skew is one, the clock is none before 0, at most a million deliveries.
-/
import Derived.Test.YtllabfbebidjiaaR1
import Derived.Laws.AppendOwnNone
namespace Go.Proofs.Ytllabfbebidjiaa
open Go.RowKit
def offR (r : RS) (q t : Int) : RS × Bool × Int :=
  if (isN q && mvs r.now t) = true then
    if r.L.any (hit r.skew q t) = true then ({ r with now := t, drp := r.drp + 1 }, false, 0)
    else ({ r with now := t, L := r.L ++ [(q, t)] }, true, 0)
  else (r, false, 2)
def OPost (o : RS × Bool × Int) (w : World) (e : Ending) (w' : World) : Prop :=
  (∃ A c, e = .returned (.tuple #[rV o.1 A c, .bool o.2.1, .int .i64 o.2.2]) ∧ DelIn w' A c o.1.L) ∧ Below w.heap.size w w'
set_option maxRecDepth 100000 in
set_option maxHeartbeats 2000000 in
theorem refOff_bad (A : Option Addr) (c : Nat) (skew now drp q t : Int) (L : List (Int × Int)) (w : World) (hL : DelIn w A c L) (hk : (isN q && mvs now t) = false) :
    Calls Try.prog 37 #[.agg #[.int .i64 skew, .int .i64 now, .int .i64 drp, .slice A L.length c], .int .i64 q, .int .i64 t] w (OPost (⟨skew, now, drp, L⟩, false, 2) w) := by
  have HD := Lib.hid hL
  clear hL
  cases hq : isN q with
  | false =>
    have HQ := Lib.hid hq
    clear hk hq
    go_enter Try.func37, Try.ntmps37
    go_wp2_with fail
    refine (refNumber_to _ _ HQ.out).mono ?_
    rintro e w1 ⟨rfl, rfl⟩
    go_wp2_with fail
    exact bodyPost_ret (v := .tuple #[.agg #[.int .i64 skew, .int .i64 now, .int .i64 drp, .slice A L.length c], .bool false, .int .i64 2]) (by simp [results, Try.results37, go_sem]) rfl ⟨⟨A, c, rfl, HD.out.below (((Below.refl _ _).alloc (Nat.le_refl _) _).alloc (by simp) _) (Nat.le_refl _)⟩, ((Below.refl _ _).alloc (Nat.le_refl _) _).alloc (by simp) _⟩
  | true =>
    have HQ := Lib.hid hq
    rw [hq, Bool.true_and] at hk
    by_cases h0 : now ≤ t
    · have h1 : ¬ t ≤ 1073741824 := by simpa [mvs, h0] using hk
      clear hk hq
      go_enter Try.func37, Try.ntmps37
      go_wp2_with fail
      refine (refNumber_to _ _ HQ.out).mono ?_
      rintro e w1 ⟨rfl, rfl⟩
      go_wp2_with fail
      exact bodyPost_ret (v := .tuple #[.agg #[.int .i64 skew, .int .i64 now, .int .i64 drp, .slice A L.length c], .bool false, .int .i64 2]) (by simp [results, Try.results37, go_sem]) rfl ⟨⟨A, c, rfl, HD.out.below (((Below.refl _ _).alloc (Nat.le_refl _) _).alloc (by simp) _) (Nat.le_refl _)⟩, ((Below.refl _ _).alloc (Nat.le_refl _) _).alloc (by simp) _⟩
    · clear hk hq
      go_enter Try.func37, Try.ntmps37
      go_wp2_with fail
      refine (refNumber_to _ _ HQ.out).mono ?_
      rintro e w1 ⟨rfl, rfl⟩
      go_wp2_with fail
      exact bodyPost_ret (v := .tuple #[.agg #[.int .i64 skew, .int .i64 now, .int .i64 drp, .slice A L.length c], .bool false, .int .i64 2]) (by simp [results, Try.results37, go_sem]) rfl ⟨⟨A, c, rfl, HD.out.below (((Below.refl _ _).alloc (Nat.le_refl _) _).alloc (by simp) _) (Nat.le_refl _)⟩, ((Below.refl _ _).alloc (Nat.le_refl _) _).alloc (by simp) _⟩
theorem Try.info104' : (Try.prog.info? 104).map (fun i => (i.zero, i.size, i.bytes)) = some (some (.agg #[.int .i64 0, .int .i64 0]), 2, 16) := by kernel_rfl
theorem new_two (w : World) (x y : Value) (t : TypeId) : ∀ (j : Nat) (u : Value), [x, y][j]? = some u → (w.alloc (.cells #[x, y] t)).cell? ((⟨w.heap.size, 0, none⟩ : Addr).add j) = some u := by
  intro j u hj
  have hb := Blk.made w t #[x, y]
  rw [add_eq, Nat.zero_add, hb.cell]
  simpa using hj
theorem dV_one (L : List (Int × Int)) : ∀ u ∈ dV L, u.oneCell' = true := by
  intro u hu
  simp only [dV, List.mem_flatMap] at hu
  obtain ⟨d, _, hd⟩ := hu
  simp at hd
  rcases hd with rfl | rfl <;> rfl
theorem own_dels {w : World} {base n : Nat} {v : Value} {L : List (Int × Int)} (hn : L.length = n) (h : w.ownsRow base 104 2 v n (dV L)) : ∃ A c, v = .slice A n c ∧ DelIn w A c L := by
  rcases h.2 with ⟨rfl, h0⟩ | ⟨g, cap, cur, rfl, _, hh, _⟩
  · subst h0
    exact ⟨none, 0, rfl, .inl ⟨List.length_eq_zero_iff.1 hn, rfl, rfl⟩⟩
  · refine ⟨_, _, rfl, .inr ⟨g, rfl, lt_of_block hh, fun j u hj => ?_, cur, hh⟩⟩
    have h1 := h.cells (g := g) rfl j u hj
    rwa [add_eq, Nat.zero_add] at h1
theorem own_empty (w : World) : (w.alloc (.cells #[] 104)).ownsRow w.heap.size 104 2 (.slice (some ⟨w.heap.size, 0, none⟩) 0 0) 0 (dV []) :=
  ⟨rfl, .inr ⟨w.heap.size, 0, #[], rfl, Nat.le_refl _, heap_alloc_new w _, Nat.le_refl _, by unfold maxLen; omega, rfl, rfl⟩⟩
set_option maxRecDepth 100000 in
set_option maxHeartbeats 4000000 in
theorem refOff_hit (A : Option Addr) (c : Nat) (skew now drp q t : Int) (L : List (Int × Int)) (w : World) (hL : DelIn w A c L) (hk : (isN q && mvs now t) = true) (n0 : 0 ≤ now) (h0 : 0 ≤ skew) (h1 : skew ≤ 1073741824) (hlen : L.length ≤ 1000000) (d0 : 0 ≤ drp) (d1 : drp ≤ 1000000000000) (hh : L.any (hit skew q t) = true) :
    Calls Try.prog 37 #[.agg #[.int .i64 skew, .int .i64 now, .int .i64 drp, .slice A L.length c], .int .i64 q, .int .i64 t] w (OPost (⟨skew, t, drp + 1, L⟩, false, 0) w) := by
  rw [Bool.and_eq_true] at hk
  obtain ⟨hq, hm⟩ := hk
  simp only [mvs, Bool.and_eq_true, decide_eq_true_eq] at hm
  obtain ⟨t0, t1⟩ := hm
  have t2 : 0 ≤ t := Int.le_trans n0 t0
  have HQ := Lib.hid hq
  obtain ⟨W, hW⟩ : ∃ W, (w.alloc (.cells #[.int .i64 skew, .int .i64 t, .int .i64 drp, .slice A L.length c] 84)).alloc (.cells #[.int .i64 0, .int .i64 0, .int .i64 0, .slice none 0 0] 84) = W := ⟨_, rfl⟩
  have b1 : Blk W w.heap.size 84 #[.int .i64 skew, .int .i64 t, .int .i64 drp, .slice A L.length c] := by rw [← hW]; exact (Blk.made w 84 _).alloc _
  have b2 : Blk W (w.heap.size + 1) 84 #[.int .i64 0, .int .i64 0, .int .i64 0, .slice none 0 0] := by rw [← hW]; exact Blk.made_at _ _ _ (by simp)
  have kW : Below w.heap.size w W := by rw [← hW]; exact ((Below.refl _ _).alloc (Nat.le_refl _) _).alloc (by simp) _
  have HB1 := Lib.hid b1
  have HB2 := Lib.hid b2
  have KW := Lib.hid kW
  have HW := Lib.hid hW
  have HDz := Lib.hid hL
  have HDW := Lib.hid (hL.below kW (Nat.le_refl _))
  have HR := Lib.hid (refRec_any A c skew t drp q t L W HDW.out h0 h1 t2 t1 hlen)
  obtain ⟨i0, hi, hz0, hz1, hz2⟩ := info_parts Try.info104'
  have hi' := Lib.hid hi
  have hz0' := Lib.hid hz0
  have hz1' := Lib.hid hz1
  have hz2' := Lib.hid hz2
  obtain ⟨len, hl⟩ : ∃ len, L.length = len := ⟨_, rfl⟩
  have HLen := Lib.hid hl
  rw [hl] at hlen HR HB1 HW ⊢
  have HH := Lib.hid hh
  clear hh hL hl hq hW b1 b2 kW hi hz0 hz1 hz2
  go_enter Try.func37, Try.ntmps37
  go_wp2_with fail
  refine (refNumber_to _ _ HQ.out).mono ?_
  rintro e w1 ⟨rfl, rfl⟩
  go_wp2_with fail
  rw [HW.out]
  refine HR.out.mono ?_
  rintro e w5 ⟨rfl, k5⟩
  have b1 := HB1.out.below k5 HB1.out.lt
  have b2 := HB2.out.below k5 HB2.out.lt
  have K5 := Lib.hid (KW.out.trans (k5.mono KW.out.size))
  have HD5 := Lib.hid (HDW.out.below k5 (Nat.le_refl _))
  have z2 : w5.cell? ⟨w.heap.size, 2, none⟩ = some (.int .i64 drp) := b1.cell 2
  have z3 : w5.cell? ⟨w.heap.size, 3, none⟩ = some (.slice A len c) := b1.cell 3
  rw [HH.out]
  have z2 : w5.cell? ⟨w.heap.size, 2, none⟩ = some (.int .i64 drp) := b1.cell 2
  have u2 : w5.frozen? ⟨w.heap.size, 2, none⟩ = false := b1.free 2
  have p1 := b1.put 2 (.int .i64 (drp + 1))
  have p2 := b2.far (p := ⟨w.heap.size, 2, none⟩) (by show w.heap.size + 1 ≠ w.heap.size; omega) (.int .i64 (drp + 1))
  have x0 : (w5.setCell ⟨w.heap.size, 2, none⟩ (.int .i64 (drp + 1))).cell? ⟨w.heap.size, 0, none⟩ = some (.int .i64 skew) := p1.cell 0
  have x1 : (w5.setCell ⟨w.heap.size, 2, none⟩ (.int .i64 (drp + 1))).cell? ⟨w.heap.size, 1, none⟩ = some (.int .i64 t) := p1.cell 1
  have x2 : (w5.setCell ⟨w.heap.size, 2, none⟩ (.int .i64 (drp + 1))).cell? ⟨w.heap.size, 2, none⟩ = some (.int .i64 (drp + 1)) := p1.cell 2
  have x3 : (w5.setCell ⟨w.heap.size, 2, none⟩ (.int .i64 (drp + 1))).cell? ⟨w.heap.size, 3, none⟩ = some (.slice A len c) := p1.cell 3
  have s0 : (w5.setCell ⟨w.heap.size, 2, none⟩ (.int .i64 (drp + 1))).cell? ⟨w.heap.size + 1, 0, none⟩ = some (.int .i64 0) := (p2).cell 0
  have f0 : (w5.setCell ⟨w.heap.size, 2, none⟩ (.int .i64 (drp + 1))).frozen? ⟨w.heap.size + 1, 0, none⟩ = false := (p2).free 0
  have s1 : ((w5.setCell ⟨w.heap.size, 2, none⟩ (.int .i64 (drp + 1))).setCell ⟨w.heap.size + 1, 0, none⟩ (.int .i64 skew)).cell? ⟨w.heap.size + 1, 1, none⟩ = some (.int .i64 0) := ((p2).put 0 (.int .i64 skew)).cell 1
  have f1 : ((w5.setCell ⟨w.heap.size, 2, none⟩ (.int .i64 (drp + 1))).setCell ⟨w.heap.size + 1, 0, none⟩ (.int .i64 skew)).frozen? ⟨w.heap.size + 1, 1, none⟩ = false := ((p2).put 0 (.int .i64 skew)).free 1
  have s2 : (((w5.setCell ⟨w.heap.size, 2, none⟩ (.int .i64 (drp + 1))).setCell ⟨w.heap.size + 1, 0, none⟩ (.int .i64 skew)).setCell ⟨w.heap.size + 1, 1, none⟩ (.int .i64 t)).cell? ⟨w.heap.size + 1, 2, none⟩ = some (.int .i64 0) := (((p2).put 0 (.int .i64 skew)).put 1 (.int .i64 t)).cell 2
  have f2 : (((w5.setCell ⟨w.heap.size, 2, none⟩ (.int .i64 (drp + 1))).setCell ⟨w.heap.size + 1, 0, none⟩ (.int .i64 skew)).setCell ⟨w.heap.size + 1, 1, none⟩ (.int .i64 t)).frozen? ⟨w.heap.size + 1, 2, none⟩ = false := (((p2).put 0 (.int .i64 skew)).put 1 (.int .i64 t)).free 2
  have s3 : ((((w5.setCell ⟨w.heap.size, 2, none⟩ (.int .i64 (drp + 1))).setCell ⟨w.heap.size + 1, 0, none⟩ (.int .i64 skew)).setCell ⟨w.heap.size + 1, 1, none⟩ (.int .i64 t)).setCell ⟨w.heap.size + 1, 2, none⟩ (.int .i64 (drp + 1))).cell? ⟨w.heap.size + 1, 3, none⟩ = some (.slice none 0 0) := ((((p2).put 0 (.int .i64 skew)).put 1 (.int .i64 t)).put 2 (.int .i64 (drp + 1))).cell 3
  have f3 : ((((w5.setCell ⟨w.heap.size, 2, none⟩ (.int .i64 (drp + 1))).setCell ⟨w.heap.size + 1, 0, none⟩ (.int .i64 skew)).setCell ⟨w.heap.size + 1, 1, none⟩ (.int .i64 t)).setCell ⟨w.heap.size + 1, 2, none⟩ (.int .i64 (drp + 1))).frozen? ⟨w.heap.size + 1, 3, none⟩ = false := ((((p2).put 0 (.int .i64 skew)).put 1 (.int .i64 t)).put 2 (.int .i64 (drp + 1))).free 3
  have l0 : (((((w5.setCell ⟨w.heap.size, 2, none⟩ (.int .i64 (drp + 1))).setCell ⟨w.heap.size + 1, 0, none⟩ (.int .i64 skew)).setCell ⟨w.heap.size + 1, 1, none⟩ (.int .i64 t)).setCell ⟨w.heap.size + 1, 2, none⟩ (.int .i64 (drp + 1))).setCell ⟨w.heap.size + 1, 3, none⟩ (.slice A len c)).cell? ⟨w.heap.size + 1, 0, none⟩ = some (.int .i64 skew) := (((((p2).put 0 (.int .i64 skew)).put 1 (.int .i64 t)).put 2 (.int .i64 (drp + 1))).put 3 (.slice A len c)).cell 0
  have l1 : (((((w5.setCell ⟨w.heap.size, 2, none⟩ (.int .i64 (drp + 1))).setCell ⟨w.heap.size + 1, 0, none⟩ (.int .i64 skew)).setCell ⟨w.heap.size + 1, 1, none⟩ (.int .i64 t)).setCell ⟨w.heap.size + 1, 2, none⟩ (.int .i64 (drp + 1))).setCell ⟨w.heap.size + 1, 3, none⟩ (.slice A len c)).cell? ⟨w.heap.size + 1, 1, none⟩ = some (.int .i64 t) := (((((p2).put 0 (.int .i64 skew)).put 1 (.int .i64 t)).put 2 (.int .i64 (drp + 1))).put 3 (.slice A len c)).cell 1
  have l2 : (((((w5.setCell ⟨w.heap.size, 2, none⟩ (.int .i64 (drp + 1))).setCell ⟨w.heap.size + 1, 0, none⟩ (.int .i64 skew)).setCell ⟨w.heap.size + 1, 1, none⟩ (.int .i64 t)).setCell ⟨w.heap.size + 1, 2, none⟩ (.int .i64 (drp + 1))).setCell ⟨w.heap.size + 1, 3, none⟩ (.slice A len c)).cell? ⟨w.heap.size + 1, 2, none⟩ = some (.int .i64 (drp + 1)) := (((((p2).put 0 (.int .i64 skew)).put 1 (.int .i64 t)).put 2 (.int .i64 (drp + 1))).put 3 (.slice A len c)).cell 2
  have l3 : (((((w5.setCell ⟨w.heap.size, 2, none⟩ (.int .i64 (drp + 1))).setCell ⟨w.heap.size + 1, 0, none⟩ (.int .i64 skew)).setCell ⟨w.heap.size + 1, 1, none⟩ (.int .i64 t)).setCell ⟨w.heap.size + 1, 2, none⟩ (.int .i64 (drp + 1))).setCell ⟨w.heap.size + 1, 3, none⟩ (.slice A len c)).cell? ⟨w.heap.size + 1, 3, none⟩ = some (.slice A len c) := (((((p2).put 0 (.int .i64 skew)).put 1 (.int .i64 t)).put 2 (.int .i64 (drp + 1))).put 3 (.slice A len c)).cell 3
  have KF := Lib.hid (((((K5.out.setCell (p := ⟨w.heap.size, 2, none⟩) (Nat.le_refl _) (.int .i64 (drp + 1))).setCell (p := ⟨w.heap.size + 1, 0, none⟩) (by show w.heap.size ≤ w.heap.size + 1; omega) (.int .i64 skew)).setCell (p := ⟨w.heap.size + 1, 1, none⟩) (by show w.heap.size ≤ w.heap.size + 1; omega) (.int .i64 t)).setCell (p := ⟨w.heap.size + 1, 2, none⟩) (by show w.heap.size ≤ w.heap.size + 1; omega) (.int .i64 (drp + 1))).setCell (p := ⟨w.heap.size + 1, 3, none⟩) (by show w.heap.size ≤ w.heap.size + 1; omega) (.slice A len c))
  have HF := Lib.hid (HDz.out.below KF.out (Nat.le_refl _))
  clear p1 p2 b1 b2
  go_wp2_with fail
  refine bodyPost_ret (v := .tuple #[.agg #[.int .i64 skew, .int .i64 t, .int .i64 (drp + 1), .slice A len c], .bool false, .int .i64 0]) (by simp [results, Try.results37, go_sem, l0, l1, l2, l3]) rfl ⟨⟨A, c, ?_, HF.out⟩, KF.out⟩
  unfold rV
  rw [HLen.out]
set_option maxRecDepth 100000 in
set_option maxHeartbeats 4000000 in
theorem refOff_new (A : Option Addr) (c : Nat) (skew now drp q t : Int) (L : List (Int × Int)) (w : World) (hL : DelIn w A c L) (hk : (isN q && mvs now t) = true) (n0 : 0 ≤ now) (h0 : 0 ≤ skew) (h1 : skew ≤ 1073741824) (hlen : L.length ≤ 1000000) (_d0 : 0 ≤ drp) (_d1 : drp ≤ 1000000000000) (hh : L.any (hit skew q t) = false) :
    Calls Try.prog 37 #[.agg #[.int .i64 skew, .int .i64 now, .int .i64 drp, .slice A L.length c], .int .i64 q, .int .i64 t] w (OPost (⟨skew, t, drp, L ++ [(q, t)]⟩, true, 0) w) := by
  rw [Bool.and_eq_true] at hk
  obtain ⟨hq, hm⟩ := hk
  simp only [mvs, Bool.and_eq_true, decide_eq_true_eq] at hm
  obtain ⟨t0, t1⟩ := hm
  have t2 : 0 ≤ t := Int.le_trans n0 t0
  have HQ := Lib.hid hq
  obtain ⟨W, hW⟩ : ∃ W, (w.alloc (.cells #[.int .i64 skew, .int .i64 t, .int .i64 drp, .slice A L.length c] 84)).alloc (.cells #[.int .i64 0, .int .i64 0, .int .i64 0, .slice none 0 0] 84) = W := ⟨_, rfl⟩
  have b1 : Blk W w.heap.size 84 #[.int .i64 skew, .int .i64 t, .int .i64 drp, .slice A L.length c] := by rw [← hW]; exact (Blk.made w 84 _).alloc _
  have b2 : Blk W (w.heap.size + 1) 84 #[.int .i64 0, .int .i64 0, .int .i64 0, .slice none 0 0] := by rw [← hW]; exact Blk.made_at _ _ _ (by simp)
  have kW : Below w.heap.size w W := by rw [← hW]; exact ((Below.refl _ _).alloc (Nat.le_refl _) _).alloc (by simp) _
  have HB1 := Lib.hid b1
  have HB2 := Lib.hid b2
  have KW := Lib.hid kW
  have HW := Lib.hid hW
  have HDz := Lib.hid hL
  have HDW := Lib.hid (hL.below kW (Nat.le_refl _))
  have HR := Lib.hid (refRec_any A c skew t drp q t L W HDW.out h0 h1 t2 t1 hlen)
  obtain ⟨i0, hi, hz0, hz1, hz2⟩ := info_parts Try.info104'
  have hi' := Lib.hid hi
  have hz0' := Lib.hid hz0
  have hz1' := Lib.hid hz1
  have hz2' := Lib.hid hz2
  obtain ⟨len, hl⟩ : ∃ len, L.length = len := ⟨_, rfl⟩
  have HLen := Lib.hid hl
  rw [hl] at hlen HR HB1 HW ⊢
  obtain ⟨sv, hsv⟩ : ∃ sv, Value.slice A len c = sv := ⟨_, rfl⟩
  have HSV := Lib.hid hsv
  rw [hsv] at HR HB1 HW ⊢
  clear hsv
  have HH := Lib.hid hh
  clear hh hL hl hq hW b1 b2 kW hi hz0 hz1 hz2
  go_enter Try.func37, Try.ntmps37
  go_wp2_with fail
  refine (refNumber_to _ _ HQ.out).mono ?_
  rintro e w1 ⟨rfl, rfl⟩
  go_wp2_with fail
  rw [HW.out]
  refine HR.out.mono ?_
  rintro e w5 ⟨rfl, k5⟩
  have b1 := HB1.out.below k5 HB1.out.lt
  have b2 := HB2.out.below k5 HB2.out.lt
  have K5 := Lib.hid (KW.out.trans (k5.mono KW.out.size))
  have HD5 := Lib.hid (HDW.out.below k5 (Nat.le_refl _))
  have z2 : w5.cell? ⟨w.heap.size, 2, none⟩ = some (.int .i64 drp) := b1.cell 2
  have z3 : w5.cell? ⟨w.heap.size, 3, none⟩ = some sv := b1.cell 3
  rw [HH.out]
  have z3' : (w5.alloc (.cells #[] 104)).cell? ⟨w.heap.size, 3, none⟩ = some sv := cell_alloc' z3 _
  have u3 : w5.frozen? ⟨w.heap.size, 3, none⟩ = false := b1.free 3
  have e6 := own_empty w5
  have k60 : Below w.heap.size w (w5.alloc (.cells #[] 104)) := K5.out.alloc K5.out.size _
  have y10 := b1.alloc (.cells #[] 104)
  have y20 := b2.alloc (.cells #[] 104)
  have D6 := HD5.out.below ((Below.refl _ w5).alloc (Nat.le_refl _) (.cells #[] 104)) (Nat.le_refl _)
  have HY1 := Lib.hid y10
  have HY2 := Lib.hid y20
  have HK6 := Lib.hid k60
  clear b1 b2 y10 y20 k60
  rcases HDz.out with ⟨hL0, hA, hc0⟩ | ⟨g, hA, hg, hc, _⟩
  · have hl0 : len = 0 := by rw [← HLen.out, hL0]; rfl
    have HS1 : Hid (sv = .slice none 0 0) := Lib.hid (by rw [← HSV.out, hA, hc0, hl0])
    have e7 : (w5.alloc (.cells #[] 104)).ownsRow w5.heap.size 104 2 (.slice (some ⟨w5.heap.size, 0, none⟩) 0 0) len (dV L) := by rw [hl0, hL0]; exact e6
    have E6 := Lib.hid e6
    have E7 := Lib.hid e7
    clear e6 e7 hL0 hA hc0 hl0
    go_wp2_with (first
      | (at_builtin; refine wpList_append_own _ rfl _ _ 82 rfl w5.heap.size 104 i0 (.agg #[.int .i64 0, .int .i64 0]) 2 16 Try.underlying82 hi'.out hz0'.out hz1'.out hz2'.out rfl (by decide) _ _ _ rfl (r6.alloc _) ⟨w6.heap.size, 0, none⟩ 1 1 [.int .i64 q, .int .i64 t] rfl rfl (new_two _ _ _ _) (dV_one [(q, t)]) (by unfold maxLen; omega) (by omega) (by simp; omega) ?_; intro v7 w7 r7 g7 _
         have q1 := (y1.alloc (.cells #[.int .i64 q, .int .i64 t] 104)).grown g7 (Ne.symm (own_ne r6 y1 (by decide)))
         have q2 := (y2.alloc (.cells #[.int .i64 q, .int .i64 t] 104)).grown g7 (Ne.symm (own_ne r6 y2 (by decide)))
         have k7 : Below w.heap.size w w7 := (k6.alloc k6.size _).grown g7 (by have := k6.size; simp; omega) (fun i e => Nat.le_trans K5.out.size (r6.lt i e).1)
         rw [show dV L ++ [.int .i64 q, .int .i64 t] = dV (L ++ [(q, t)]) from (dV_app L [(q, t)]).symm] at r7
         obtain ⟨A7, c7, rfl, _⟩ := own_dels (L := L ++ [(q, t)]) (by rw [List.length_append, HLen.out]; rfl) r7
         have p1 := q1.put 3 (.slice A7 (len + 1) c7)
         have p2 := q2.far (p := ⟨w.heap.size, 3, none⟩) (by show w.heap.size + 1 ≠ w.heap.size; omega) (.slice A7 (len + 1) c7)
         have z7 : w7.cell? ⟨w.heap.size, 3, none⟩ = some sv := q1.cell 3
         have u7 : w7.frozen? ⟨w.heap.size, 3, none⟩ = false := q1.free 3
         have x0 : (w7.setCell ⟨w.heap.size, 3, none⟩ (.slice A7 (len + 1) c7)).cell? ⟨w.heap.size, 0, none⟩ = some (.int .i64 skew) := p1.cell 0
         have x1 : (w7.setCell ⟨w.heap.size, 3, none⟩ (.slice A7 (len + 1) c7)).cell? ⟨w.heap.size, 1, none⟩ = some (.int .i64 t) := p1.cell 1
         have x2 : (w7.setCell ⟨w.heap.size, 3, none⟩ (.slice A7 (len + 1) c7)).cell? ⟨w.heap.size, 2, none⟩ = some (.int .i64 drp) := p1.cell 2
         have x3 : (w7.setCell ⟨w.heap.size, 3, none⟩ (.slice A7 (len + 1) c7)).cell? ⟨w.heap.size, 3, none⟩ = some (.slice A7 (len + 1) c7) := p1.cell 3
         have s0 : (w7.setCell ⟨w.heap.size, 3, none⟩ (.slice A7 (len + 1) c7)).cell? ⟨w.heap.size + 1, 0, none⟩ = some (.int .i64 0) := (p2).cell 0
         have f0 : (w7.setCell ⟨w.heap.size, 3, none⟩ (.slice A7 (len + 1) c7)).frozen? ⟨w.heap.size + 1, 0, none⟩ = false := (p2).free 0
         have s1 : ((w7.setCell ⟨w.heap.size, 3, none⟩ (.slice A7 (len + 1) c7)).setCell ⟨w.heap.size + 1, 0, none⟩ (.int .i64 skew)).cell? ⟨w.heap.size + 1, 1, none⟩ = some (.int .i64 0) := ((p2).put 0 (.int .i64 skew)).cell 1
         have f1 : ((w7.setCell ⟨w.heap.size, 3, none⟩ (.slice A7 (len + 1) c7)).setCell ⟨w.heap.size + 1, 0, none⟩ (.int .i64 skew)).frozen? ⟨w.heap.size + 1, 1, none⟩ = false := ((p2).put 0 (.int .i64 skew)).free 1
         have s2 : (((w7.setCell ⟨w.heap.size, 3, none⟩ (.slice A7 (len + 1) c7)).setCell ⟨w.heap.size + 1, 0, none⟩ (.int .i64 skew)).setCell ⟨w.heap.size + 1, 1, none⟩ (.int .i64 t)).cell? ⟨w.heap.size + 1, 2, none⟩ = some (.int .i64 0) := (((p2).put 0 (.int .i64 skew)).put 1 (.int .i64 t)).cell 2
         have f2 : (((w7.setCell ⟨w.heap.size, 3, none⟩ (.slice A7 (len + 1) c7)).setCell ⟨w.heap.size + 1, 0, none⟩ (.int .i64 skew)).setCell ⟨w.heap.size + 1, 1, none⟩ (.int .i64 t)).frozen? ⟨w.heap.size + 1, 2, none⟩ = false := (((p2).put 0 (.int .i64 skew)).put 1 (.int .i64 t)).free 2
         have s3 : ((((w7.setCell ⟨w.heap.size, 3, none⟩ (.slice A7 (len + 1) c7)).setCell ⟨w.heap.size + 1, 0, none⟩ (.int .i64 skew)).setCell ⟨w.heap.size + 1, 1, none⟩ (.int .i64 t)).setCell ⟨w.heap.size + 1, 2, none⟩ (.int .i64 drp)).cell? ⟨w.heap.size + 1, 3, none⟩ = some (.slice none 0 0) := ((((p2).put 0 (.int .i64 skew)).put 1 (.int .i64 t)).put 2 (.int .i64 drp)).cell 3
         have f3 : ((((w7.setCell ⟨w.heap.size, 3, none⟩ (.slice A7 (len + 1) c7)).setCell ⟨w.heap.size + 1, 0, none⟩ (.int .i64 skew)).setCell ⟨w.heap.size + 1, 1, none⟩ (.int .i64 t)).setCell ⟨w.heap.size + 1, 2, none⟩ (.int .i64 drp)).frozen? ⟨w.heap.size + 1, 3, none⟩ = false := ((((p2).put 0 (.int .i64 skew)).put 1 (.int .i64 t)).put 2 (.int .i64 drp)).free 3
         have l0 : (((((w7.setCell ⟨w.heap.size, 3, none⟩ (.slice A7 (len + 1) c7)).setCell ⟨w.heap.size + 1, 0, none⟩ (.int .i64 skew)).setCell ⟨w.heap.size + 1, 1, none⟩ (.int .i64 t)).setCell ⟨w.heap.size + 1, 2, none⟩ (.int .i64 drp)).setCell ⟨w.heap.size + 1, 3, none⟩ (.slice A7 (len + 1) c7)).cell? ⟨w.heap.size + 1, 0, none⟩ = some (.int .i64 skew) := (((((p2).put 0 (.int .i64 skew)).put 1 (.int .i64 t)).put 2 (.int .i64 drp)).put 3 (.slice A7 (len + 1) c7)).cell 0
         have l1 : (((((w7.setCell ⟨w.heap.size, 3, none⟩ (.slice A7 (len + 1) c7)).setCell ⟨w.heap.size + 1, 0, none⟩ (.int .i64 skew)).setCell ⟨w.heap.size + 1, 1, none⟩ (.int .i64 t)).setCell ⟨w.heap.size + 1, 2, none⟩ (.int .i64 drp)).setCell ⟨w.heap.size + 1, 3, none⟩ (.slice A7 (len + 1) c7)).cell? ⟨w.heap.size + 1, 1, none⟩ = some (.int .i64 t) := (((((p2).put 0 (.int .i64 skew)).put 1 (.int .i64 t)).put 2 (.int .i64 drp)).put 3 (.slice A7 (len + 1) c7)).cell 1
         have l2 : (((((w7.setCell ⟨w.heap.size, 3, none⟩ (.slice A7 (len + 1) c7)).setCell ⟨w.heap.size + 1, 0, none⟩ (.int .i64 skew)).setCell ⟨w.heap.size + 1, 1, none⟩ (.int .i64 t)).setCell ⟨w.heap.size + 1, 2, none⟩ (.int .i64 drp)).setCell ⟨w.heap.size + 1, 3, none⟩ (.slice A7 (len + 1) c7)).cell? ⟨w.heap.size + 1, 2, none⟩ = some (.int .i64 drp) := (((((p2).put 0 (.int .i64 skew)).put 1 (.int .i64 t)).put 2 (.int .i64 drp)).put 3 (.slice A7 (len + 1) c7)).cell 2
         have l3 : (((((w7.setCell ⟨w.heap.size, 3, none⟩ (.slice A7 (len + 1) c7)).setCell ⟨w.heap.size + 1, 0, none⟩ (.int .i64 skew)).setCell ⟨w.heap.size + 1, 1, none⟩ (.int .i64 t)).setCell ⟨w.heap.size + 1, 2, none⟩ (.int .i64 drp)).setCell ⟨w.heap.size + 1, 3, none⟩ (.slice A7 (len + 1) c7)).cell? ⟨w.heap.size + 1, 3, none⟩ = some (.slice A7 (len + 1) c7) := (((((p2).put 0 (.int .i64 skew)).put 1 (.int .i64 t)).put 2 (.int .i64 drp)).put 3 (.slice A7 (len + 1) c7)).cell 3
         have KF := Lib.hid (((((k7.setCell (p := ⟨w.heap.size, 3, none⟩) (Nat.le_refl _) (.slice A7 (len + 1) c7)).setCell (p := ⟨w.heap.size + 1, 0, none⟩) (by show w.heap.size ≤ w.heap.size + 1; omega) (.int .i64 skew)).setCell (p := ⟨w.heap.size + 1, 1, none⟩) (by show w.heap.size ≤ w.heap.size + 1; omega) (.int .i64 t)).setCell (p := ⟨w.heap.size + 1, 2, none⟩) (by show w.heap.size ≤ w.heap.size + 1; omega) (.int .i64 drp)).setCell (p := ⟨w.heap.size + 1, 3, none⟩) (by show w.heap.size ≤ w.heap.size + 1; omega) (.slice A7 (len + 1) c7))
         have RF := Lib.hid (ownsRow_setCell_other (ownsRow_setCell_other (ownsRow_setCell_other (ownsRow_setCell_other (ownsRow_setCell_other r7 (a := ⟨w.heap.size, 3, none⟩) (own_ne r7 q1 (by decide)) (.slice A7 (len + 1) c7)) (a := ⟨w.heap.size + 1, 0, none⟩) (own_ne r7 q2 (by decide)) (.int .i64 skew)) (a := ⟨w.heap.size + 1, 1, none⟩) (own_ne r7 q2 (by decide)) (.int .i64 t)) (a := ⟨w.heap.size + 1, 2, none⟩) (own_ne r7 q2 (by decide)) (.int .i64 drp)) (a := ⟨w.heap.size + 1, 3, none⟩) (own_ne r7 q2 (by decide)) (.slice A7 (len + 1) c7))
         clear p1 p2 q1 q2 r7 k7 g7)
      | (at_builtin; refine wpList_append_own_none rfl _ _ 82 rfl w5.heap.size 104 i0 2 Try.underlying82 hi'.out _ 0 (dV []) rfl E6.out HS1.out ?_
         obtain ⟨v6, hv6⟩ : ∃ v6, Value.slice (some ⟨w5.heap.size, 0, none⟩) 0 0 = v6 := ⟨_, rfl⟩
         have r6 := E7.out
         have y1 := HY1.out
         have y2 := HY2.out
         have k6 := HK6.out
         have sz6 : w5.heap.size ≤ (w5.alloc (.cells #[] 104)).heap.size := by simp
         obtain ⟨w6, hw6⟩ : ∃ w6, w5.alloc (.cells #[] 104) = w6 := ⟨_, rfl⟩
         rw [hv6, hw6] at r6 ⊢
         rw [hw6] at y1 y2 k6 sz6
         clear hv6 hw6))
    obtain ⟨A8, c8, he8, hd8⟩ := own_dels (L := L ++ [(q, t)]) (by rw [List.length_append, HLen.out]; rfl) RF.out
    obtain ⟨rfl, rfl⟩ : A7 = A8 ∧ c7 = c8 := by injection he8 with h1 _ h2; exact ⟨h1, h2⟩
    refine bodyPost_ret (v := .tuple #[.agg #[.int .i64 skew, .int .i64 t, .int .i64 drp, .slice A7 (len + 1) c7], .bool true, .int .i64 0]) (by simp [results, Try.results37, go_sem, l0, l1, l2, l3]) rfl ⟨⟨A7, c7, ?_, hd8⟩, KF.out⟩
    unfold rV
    rw [List.length_append, HLen.out]
    rfl
  · have HS1 : Hid (sv = .slice (some ⟨g, 0, none⟩) len c) := Lib.hid (by rw [← HSV.out, hA])
    have E6 := Lib.hid e6
    have k55 := K5.out
    have D6 : ∀ j u, (dV L)[j]? = some u → (w5.alloc (.cells #[] 104)).cell? ((⟨g, 0, none⟩ : Addr).add j) = some u := fun j u hj => by
      rw [add_eq, Nat.zero_add]
      exact (HK6.out.cell (p := ⟨g, j, none⟩) hg).trans (hc j u hj)
    have HD6 := Lib.hid D6
    clear e6 hA hg hc D6 k55
    go_wp2_with (first
      | (at_builtin; refine wpList_append_own _ rfl _ _ 82 rfl w5.heap.size 104 i0 (.agg #[.int .i64 0, .int .i64 0]) 2 16 Try.underlying82 hi'.out hz0'.out hz1'.out hz2'.out rfl (by decide) _ _ _ rfl (r6.alloc _) ⟨w6.heap.size, 0, none⟩ 1 1 [.int .i64 q, .int .i64 t] rfl rfl (new_two _ _ _ _) (dV_one [(q, t)]) (by unfold maxLen; omega) (by omega) (by simp; omega) ?_; intro v7 w7 r7 g7 _
         have q1 := (y1.alloc (.cells #[.int .i64 q, .int .i64 t] 104)).grown g7 (Ne.symm (own_ne r6 y1 (by decide)))
         have q2 := (y2.alloc (.cells #[.int .i64 q, .int .i64 t] 104)).grown g7 (Ne.symm (own_ne r6 y2 (by decide)))
         have k7 : Below w.heap.size w w7 := (k6.alloc k6.size _).grown g7 (by have := k6.size; simp; omega) (fun i e => Nat.le_trans K5.out.size (r6.lt i e).1)
         rw [show dV L ++ [.int .i64 q, .int .i64 t] = dV (L ++ [(q, t)]) from (dV_app L [(q, t)]).symm] at r7
         obtain ⟨A7, c7, rfl, _⟩ := own_dels (L := L ++ [(q, t)]) (by rw [List.length_append, HLen.out]; rfl) r7
         have p1 := q1.put 3 (.slice A7 (len + 1) c7)
         have p2 := q2.far (p := ⟨w.heap.size, 3, none⟩) (by show w.heap.size + 1 ≠ w.heap.size; omega) (.slice A7 (len + 1) c7)
         have z7 : w7.cell? ⟨w.heap.size, 3, none⟩ = some sv := q1.cell 3
         have u7 : w7.frozen? ⟨w.heap.size, 3, none⟩ = false := q1.free 3
         have x0 : (w7.setCell ⟨w.heap.size, 3, none⟩ (.slice A7 (len + 1) c7)).cell? ⟨w.heap.size, 0, none⟩ = some (.int .i64 skew) := p1.cell 0
         have x1 : (w7.setCell ⟨w.heap.size, 3, none⟩ (.slice A7 (len + 1) c7)).cell? ⟨w.heap.size, 1, none⟩ = some (.int .i64 t) := p1.cell 1
         have x2 : (w7.setCell ⟨w.heap.size, 3, none⟩ (.slice A7 (len + 1) c7)).cell? ⟨w.heap.size, 2, none⟩ = some (.int .i64 drp) := p1.cell 2
         have x3 : (w7.setCell ⟨w.heap.size, 3, none⟩ (.slice A7 (len + 1) c7)).cell? ⟨w.heap.size, 3, none⟩ = some (.slice A7 (len + 1) c7) := p1.cell 3
         have s0 : (w7.setCell ⟨w.heap.size, 3, none⟩ (.slice A7 (len + 1) c7)).cell? ⟨w.heap.size + 1, 0, none⟩ = some (.int .i64 0) := (p2).cell 0
         have f0 : (w7.setCell ⟨w.heap.size, 3, none⟩ (.slice A7 (len + 1) c7)).frozen? ⟨w.heap.size + 1, 0, none⟩ = false := (p2).free 0
         have s1 : ((w7.setCell ⟨w.heap.size, 3, none⟩ (.slice A7 (len + 1) c7)).setCell ⟨w.heap.size + 1, 0, none⟩ (.int .i64 skew)).cell? ⟨w.heap.size + 1, 1, none⟩ = some (.int .i64 0) := ((p2).put 0 (.int .i64 skew)).cell 1
         have f1 : ((w7.setCell ⟨w.heap.size, 3, none⟩ (.slice A7 (len + 1) c7)).setCell ⟨w.heap.size + 1, 0, none⟩ (.int .i64 skew)).frozen? ⟨w.heap.size + 1, 1, none⟩ = false := ((p2).put 0 (.int .i64 skew)).free 1
         have s2 : (((w7.setCell ⟨w.heap.size, 3, none⟩ (.slice A7 (len + 1) c7)).setCell ⟨w.heap.size + 1, 0, none⟩ (.int .i64 skew)).setCell ⟨w.heap.size + 1, 1, none⟩ (.int .i64 t)).cell? ⟨w.heap.size + 1, 2, none⟩ = some (.int .i64 0) := (((p2).put 0 (.int .i64 skew)).put 1 (.int .i64 t)).cell 2
         have f2 : (((w7.setCell ⟨w.heap.size, 3, none⟩ (.slice A7 (len + 1) c7)).setCell ⟨w.heap.size + 1, 0, none⟩ (.int .i64 skew)).setCell ⟨w.heap.size + 1, 1, none⟩ (.int .i64 t)).frozen? ⟨w.heap.size + 1, 2, none⟩ = false := (((p2).put 0 (.int .i64 skew)).put 1 (.int .i64 t)).free 2
         have s3 : ((((w7.setCell ⟨w.heap.size, 3, none⟩ (.slice A7 (len + 1) c7)).setCell ⟨w.heap.size + 1, 0, none⟩ (.int .i64 skew)).setCell ⟨w.heap.size + 1, 1, none⟩ (.int .i64 t)).setCell ⟨w.heap.size + 1, 2, none⟩ (.int .i64 drp)).cell? ⟨w.heap.size + 1, 3, none⟩ = some (.slice none 0 0) := ((((p2).put 0 (.int .i64 skew)).put 1 (.int .i64 t)).put 2 (.int .i64 drp)).cell 3
         have f3 : ((((w7.setCell ⟨w.heap.size, 3, none⟩ (.slice A7 (len + 1) c7)).setCell ⟨w.heap.size + 1, 0, none⟩ (.int .i64 skew)).setCell ⟨w.heap.size + 1, 1, none⟩ (.int .i64 t)).setCell ⟨w.heap.size + 1, 2, none⟩ (.int .i64 drp)).frozen? ⟨w.heap.size + 1, 3, none⟩ = false := ((((p2).put 0 (.int .i64 skew)).put 1 (.int .i64 t)).put 2 (.int .i64 drp)).free 3
         have l0 : (((((w7.setCell ⟨w.heap.size, 3, none⟩ (.slice A7 (len + 1) c7)).setCell ⟨w.heap.size + 1, 0, none⟩ (.int .i64 skew)).setCell ⟨w.heap.size + 1, 1, none⟩ (.int .i64 t)).setCell ⟨w.heap.size + 1, 2, none⟩ (.int .i64 drp)).setCell ⟨w.heap.size + 1, 3, none⟩ (.slice A7 (len + 1) c7)).cell? ⟨w.heap.size + 1, 0, none⟩ = some (.int .i64 skew) := (((((p2).put 0 (.int .i64 skew)).put 1 (.int .i64 t)).put 2 (.int .i64 drp)).put 3 (.slice A7 (len + 1) c7)).cell 0
         have l1 : (((((w7.setCell ⟨w.heap.size, 3, none⟩ (.slice A7 (len + 1) c7)).setCell ⟨w.heap.size + 1, 0, none⟩ (.int .i64 skew)).setCell ⟨w.heap.size + 1, 1, none⟩ (.int .i64 t)).setCell ⟨w.heap.size + 1, 2, none⟩ (.int .i64 drp)).setCell ⟨w.heap.size + 1, 3, none⟩ (.slice A7 (len + 1) c7)).cell? ⟨w.heap.size + 1, 1, none⟩ = some (.int .i64 t) := (((((p2).put 0 (.int .i64 skew)).put 1 (.int .i64 t)).put 2 (.int .i64 drp)).put 3 (.slice A7 (len + 1) c7)).cell 1
         have l2 : (((((w7.setCell ⟨w.heap.size, 3, none⟩ (.slice A7 (len + 1) c7)).setCell ⟨w.heap.size + 1, 0, none⟩ (.int .i64 skew)).setCell ⟨w.heap.size + 1, 1, none⟩ (.int .i64 t)).setCell ⟨w.heap.size + 1, 2, none⟩ (.int .i64 drp)).setCell ⟨w.heap.size + 1, 3, none⟩ (.slice A7 (len + 1) c7)).cell? ⟨w.heap.size + 1, 2, none⟩ = some (.int .i64 drp) := (((((p2).put 0 (.int .i64 skew)).put 1 (.int .i64 t)).put 2 (.int .i64 drp)).put 3 (.slice A7 (len + 1) c7)).cell 2
         have l3 : (((((w7.setCell ⟨w.heap.size, 3, none⟩ (.slice A7 (len + 1) c7)).setCell ⟨w.heap.size + 1, 0, none⟩ (.int .i64 skew)).setCell ⟨w.heap.size + 1, 1, none⟩ (.int .i64 t)).setCell ⟨w.heap.size + 1, 2, none⟩ (.int .i64 drp)).setCell ⟨w.heap.size + 1, 3, none⟩ (.slice A7 (len + 1) c7)).cell? ⟨w.heap.size + 1, 3, none⟩ = some (.slice A7 (len + 1) c7) := (((((p2).put 0 (.int .i64 skew)).put 1 (.int .i64 t)).put 2 (.int .i64 drp)).put 3 (.slice A7 (len + 1) c7)).cell 3
         have KF := Lib.hid (((((k7.setCell (p := ⟨w.heap.size, 3, none⟩) (Nat.le_refl _) (.slice A7 (len + 1) c7)).setCell (p := ⟨w.heap.size + 1, 0, none⟩) (by show w.heap.size ≤ w.heap.size + 1; omega) (.int .i64 skew)).setCell (p := ⟨w.heap.size + 1, 1, none⟩) (by show w.heap.size ≤ w.heap.size + 1; omega) (.int .i64 t)).setCell (p := ⟨w.heap.size + 1, 2, none⟩) (by show w.heap.size ≤ w.heap.size + 1; omega) (.int .i64 drp)).setCell (p := ⟨w.heap.size + 1, 3, none⟩) (by show w.heap.size ≤ w.heap.size + 1; omega) (.slice A7 (len + 1) c7))
         have RF := Lib.hid (ownsRow_setCell_other (ownsRow_setCell_other (ownsRow_setCell_other (ownsRow_setCell_other (ownsRow_setCell_other r7 (a := ⟨w.heap.size, 3, none⟩) (own_ne r7 q1 (by decide)) (.slice A7 (len + 1) c7)) (a := ⟨w.heap.size + 1, 0, none⟩) (own_ne r7 q2 (by decide)) (.int .i64 skew)) (a := ⟨w.heap.size + 1, 1, none⟩) (own_ne r7 q2 (by decide)) (.int .i64 t)) (a := ⟨w.heap.size + 1, 2, none⟩) (own_ne r7 q2 (by decide)) (.int .i64 drp)) (a := ⟨w.heap.size + 1, 3, none⟩) (own_ne r7 q2 (by decide)) (.slice A7 (len + 1) c7))
         clear p1 p2 q1 q2 r7 k7 g7)
      | (at_builtin; refine wpList_append_own _ rfl _ _ 82 rfl w5.heap.size 104 i0 (.agg #[.int .i64 0, .int .i64 0]) 2 16 Try.underlying82 hi'.out hz0'.out hz1'.out hz2'.out rfl (by decide) _ 0 (dV []) rfl E6.out ⟨g, 0, none⟩ len c (dV L) HS1.out (by rw [dV_len, HLen.out]) HD6.out (dV_one L) (by unfold maxLen; omega) (by omega) (by simp) ?_
         intro v6 w6 r6 g6 _
         rw [Nat.zero_add, show dV [] ++ dV L = dV L from rfl] at r6
         have y1 := HY1.out.grown g6 (Ne.symm (own_ne E6.out HY1.out (by decide)))
         have y2 := HY2.out.grown g6 (Ne.symm (own_ne E6.out HY2.out (by decide)))
         have k6 : Below w.heap.size w w6 := HK6.out.grown g6 HK6.out.size (fun i e => Nat.le_trans K5.out.size (E6.out.lt i e).1)
         have sz6 : w5.heap.size ≤ w6.heap.size := Nat.le_trans (by simp) g6.size))
    obtain ⟨A8, c8, he8, hd8⟩ := own_dels (L := L ++ [(q, t)]) (by rw [List.length_append, HLen.out]; rfl) RF.out
    obtain ⟨rfl, rfl⟩ : A7 = A8 ∧ c7 = c8 := by injection he8 with h1 _ h2; exact ⟨h1, h2⟩
    refine bodyPost_ret (v := .tuple #[.agg #[.int .i64 skew, .int .i64 t, .int .i64 drp, .slice A7 (len + 1) c7], .bool true, .int .i64 0]) (by simp [results, Try.results37, go_sem, l0, l1, l2, l3]) rfl ⟨⟨A7, c7, ?_, hd8⟩, KF.out⟩
    unfold rV
    rw [List.length_append, HLen.out]
    rfl
/-- the bounds that the document's selector keeps -/
structure RS.Ok (r : RS) : Prop where
  n0 : 0 ≤ r.now
  k0 : 0 ≤ r.skew
  k1 : r.skew ≤ 1073741824
  d0 : 0 ≤ r.drp
theorem refOff_any (r : RS) (A : Option Addr) (c : Nat) (q t : Int) (w : World) (hL : DelIn w A c r.L) (h : r.Ok) (hl : r.L.length ≤ 1000000) (hd : r.drp ≤ 1000000000000) :
    Calls Try.prog 37 #[rV r A c, .int .i64 q, .int .i64 t] w (OPost (offR r q t) w) := by
  obtain ⟨skew, now, drp, L⟩ := r
  unfold offR rV
  cases hk : (isN q && mvs now t) with
  | false => rw [if_neg (by simp)]; exact refOff_bad A c skew now drp q t L w hL hk
  | true =>
    rw [if_pos rfl]
    cases hh : L.any (hit skew q t) with
    | true => rw [if_pos rfl]; exact refOff_hit A c skew now drp q t L w hL hk h.n0 h.k0 h.k1 hl h.d0 hd hh
    | false => rw [if_neg (by simp)]; exact refOff_new A c skew now drp q t L w hL hk h.n0 h.k0 h.k1 hl h.d0 hd hh
theorem RS.Ok.off {r : RS} (h : r.Ok) (q t : Int) : (offR r q t).1.Ok := by
  have n0 := h.n0
  have d0 := h.d0
  unfold offR
  split
  · rename_i hk
    simp only [Bool.and_eq_true, mvs, decide_eq_true_eq] at hk
    have : 0 ≤ t := by omega
    split
    · exact ⟨this, h.k0, h.k1, by show 0 ≤ r.drp + 1; omega⟩
    · exact ⟨this, h.k0, h.k1, h.d0⟩
  · exact h
theorem offR_cnt (r : RS) (q t : Int) : ((offR r q t).1.L.length : Int) + (offR r q t).1.drp ≤ r.L.length + r.drp + 1 := by
  unfold offR
  split
  · split
    · show (r.L.length : Int) + (r.drp + 1) ≤ _; omega
    · show ((r.L ++ [(q, t)]).length : Int) + r.drp ≤ _; simp; omega
  · show (r.L.length : Int) + r.drp ≤ _; omega
/-! ### the two models agree -/
structure Rel (s : St) (r : RS) : Prop where
  skew : s.skew = r.skew
  now : s.now = r.now
  drp : s.drp = r.drp
  del : s.del = r.L.length
  old : ∀ d ∈ r.L, d.2 ≤ r.now
  hits : ∀ (i : Nat) (t : Int), r.now ≤ t → (r.L.any (hit r.skew i t) = true ↔ t < s.nxt i)
theorem Rel.new (k : Int) : Rel (.new k) ⟨k, 0, 0, []⟩ where
  skew := rfl
  now := rfl
  drp := rfl
  del := rfl
  old := fun d h => by cases h
  hits := fun i t (ht : 0 ≤ t) => by
    show (List.any [] _ = true ↔ t < 0)
    simp
    exact ht
theorem Rel.off {s : St} {r : RS} (h : Rel s r) (q t : Int) : Rel (offer s q t).1 (offR r q t).1 ∧ (offer s q t).2 = (offR r q t).2 := by
  unfold offer offR okq
  rw [h.now]
  split
  · rename_i hk
    simp only [Bool.and_eq_true, mvs, decide_eq_true_eq] at hk
    obtain ⟨hq, h0, h1⟩ := hk
    obtain ⟨q0, q1⟩ := isN_true hq
    have hqn : ((q.toNat : Nat) : Int) = q := by omega
    have hh := h.hits q.toNat t h0
    rw [hqn] at hh
    by_cases hlt : t < s.nxt q.toNat
    · rw [if_pos hlt, if_pos (hh.2 hlt)]
      exact ⟨⟨h.skew, rfl, by show s.drp + 1 = r.drp + 1; rw [h.drp], h.del, fun d hd => Int.le_trans (h.old d hd) h0, fun i u hu => h.hits i u (Int.le_trans h0 hu)⟩, rfl⟩
    · rw [if_neg hlt, if_neg (fun e => hlt (hh.1 e))]
      refine ⟨⟨h.skew, rfl, h.drp, by show s.del + 1 = ((r.L ++ [(q, t)]).length : Int); rw [h.del]; simp, fun d hd => ?_, fun i u hu => ?_⟩, rfl⟩
      · rcases List.mem_append.1 hd with hd | hd
        · exact Int.le_trans (h.old d hd) h0
        · simp at hd; subst hd; exact Int.le_refl _
      · have hu : t ≤ u := hu
        show (List.any (r.L ++ [(q, t)]) (hit r.skew i u) = true ↔ u < if i = q.toNat then t + s.skew + 1 else s.nxt i)
        rw [List.any_append, Bool.or_eq_true, h.hits i u (Int.le_trans h0 hu)]
        by_cases e : i = q.toNat
        · subst e
          rw [if_pos rfl]
          have hb : List.any [(q, t)] (hit r.skew ((q.toNat : Nat) : Int) u) = true ↔ u - r.skew ≤ t := by
            simp [hit, hqn]
            intro; exact hu
          rw [hb, h.skew]
          constructor
          · rintro (h2 | h2)
            · have h3 := (h.hits q.toNat u (Int.le_trans h0 hu)).2 h2
              obtain ⟨d, hd, hx⟩ := List.any_eq_true.1 h3
              simp only [hit, Bool.and_eq_true, decide_eq_true_eq] at hx
              have := h.old d hd
              omega
            · omega
          · intro h2
            right
            omega
        · rw [if_neg e]
          have hb : List.any [(q, t)] (hit r.skew (i : Int) u) = false := by
            have : ¬ q = (i : Int) := fun h => e (by omega)
            simp [hit, this]
          rw [hb]
          simp
  · exact ⟨h, rfl⟩
end Go.Proofs.Ytllabfbebidjiaa
