/-
  The contract of the law's own merges: it answers true. Conditions: the arrivals lie as given, at most a million.
-/
import Derived.Test.YtllabfbebidjiaaR4
import Derived.Deep.AppendLies
namespace Go.Proofs.Ytllabfbebidjiaa
open Go.RowKit
theorem Try.info67' : (Try.prog.info? 67).map (fun i => (i.zero, i.size, i.bytes)) = some (some (.agg #[.int .i64 0, .int .i64 0, .int .i64 0]), 3, 24) := by kernel_rfl
theorem own_empty31 (w : World) : (w.alloc (.cells #[] 31)).ownsRow w.heap.size 31 3 (.slice (some ⟨w.heap.size, 0, none⟩) 0 0) 0 [] :=
  ⟨rfl, .inr ⟨w.heap.size, 0, #[], rfl, Nat.le_refl _, heap_alloc_new w _, Nat.le_refl _, by unfold maxLen; omega, rfl, rfl⟩⟩
theorem a3_one (N Q T : Nat → Int) : ∀ (k : Nat), ∀ u ∈ a3 N Q T k, u.oneCell' = true
  | 0, u, h => by cases h
  | k + 1, u, h => by
    rw [a3, List.mem_append] at h
    rcases h with h | h
    · exact a3_one N Q T k u h
    · exact three_one _ _ _ u h
theorem arr_cells {w : World} {a : Addr} {n : Nat} {N Q T : Nat → Int} (h : ArrIn w (some a) n N Q T) : ∀ (j : Nat) (u : Value), (a3 N Q T n)[j]? = some u → w.cell? (a.add j) = some u := by
  intro j u hj
  have hl := (List.getElem?_eq_some_iff.1 hj).1
  rw [a3_len] at hl
  obtain ⟨b, off, hA, _, hc⟩ := h.2 (by omega)
  injection hA with hA
  subst hA
  obtain ⟨q, hq⟩ : ∃ q, j / 3 = q := ⟨_, rfl⟩
  obtain ⟨c0, c1, c2⟩ := hc q (by omega)
  obtain ⟨d0, d1, d2⟩ := a3_at (N := N) (Q := Q) (T := T) (j := q) (k := n) (by omega)
  rw [add_eq]
  have h3 : j = q * 3 ∨ j = q * 3 + 1 ∨ j = q * 3 + 2 := by omega
  rcases h3 with rfl | rfl | rfl
  · rw [d0] at hj; injection hj with hj; rw [← hj]; exact c0
  · rw [d1] at hj; injection hj with hj; rw [← hj]; exact c1
  · rw [d2] at hj; injection hj with hj; rw [← hj]; exact c2
theorem own_arrs_of {w : World} {base n : Nat} {e : TypeId} {v : Value} {N Q T : Nat → Int} (hn : n ≤ 1000000) (h : w.ownsRow base e 3 v n (a3 N Q T n)) : ∃ A c, v = .slice A n c ∧ ArrIn w A n N Q T := by
  rcases h.2 with ⟨rfl, h0⟩ | ⟨g, cap, cur, rfl, _, hh, _⟩
  · rw [h0]
    exact ⟨none, 0, rfl, by omega, fun h => by omega⟩
  · refine ⟨_, _, rfl, by omega, fun _ => ⟨g, 0, rfl, lt_of_block hh, fun k hk => ?_⟩⟩
    obtain ⟨h1, h2, h3⟩ := a3_at (N := N) (Q := Q) (T := T) hk
    have f1 := h.cells (g := g) rfl _ _ h1
    have f2 := h.cells (g := g) rfl _ _ h2
    have f3 := h.cells (g := g) rfl _ _ h3
    rw [add_eq, Nat.zero_add] at f1 f2 f3
    rw [Nat.zero_add]
    exact ⟨f1, f2, f3⟩
set_option maxRecDepth 100000 in
set_option maxHeartbeats 4000000 in
theorem merges_any (skew : Int) (A : Option Addr) (n c : Nat) (N Q T : Nat → Int) (w : World) (hA : ArrIn w A n N Q T) (hz : A = none → n = 0 ∧ c = 0) (hn : n ≤ 1000000) :
    Calls Try.prog 13 #[.int .i64 skew, .slice A n c] w fun e w' => e = .returned (.bool true) ∧ Below w.heap.size w w' := by
  have HA := Lib.hid hA
  have HZ := Lib.hid hz
  obtain ⟨i0, hi, hz0, hz1, hz2⟩ := info_parts Try.info31'
  have hi' := Lib.hid hi
  have hz0' := Lib.hid hz0
  have hz1' := Lib.hid hz1
  have hz2' := Lib.hid hz2
  obtain ⟨j0, hj, hy0, hy1, hy2⟩ := info_parts Try.info67'
  have hj' := Lib.hid hj
  have hy0' := Lib.hid hy0
  have hy1' := Lib.hid hy1
  have hy2' := Lib.hid hy2
  clear hA hz hi hz0 hz1 hz2 hj hy0 hy1 hy2
  go_enter Try.func13, Try.ntmps13
  go_upto_region 1 with fail
  go_cut [5] from 13 to 15 (fun v wx => wx.ownsRow w.heap.size 31 3 v n (a3 N Q T n) ∧ Below w.heap.size w wx)
  case first =>
    have E0 := Lib.hid (own_empty31 w)
    have K0 := Lib.hid ((Below.refl w.heap.size w).alloc (Nat.le_refl _) (.cells #[] 31))
    rcases A with _ | a
    · obtain ⟨hn0, hc0⟩ := HZ.out rfl
      obtain ⟨sv, hsv⟩ : ∃ sv, Value.slice none n c = sv := ⟨_, rfl⟩
      have HSV : Hid (sv = .slice none 0 0) := Lib.hid (by rw [← hsv, hn0, hc0])
      rw [hsv]
      have E1 : Hid ((w.alloc (.cells #[] 31)).ownsRow w.heap.size 31 3 (.slice (some ⟨w.heap.size, 0, none⟩) 0 0) n (a3 N Q T n)) := Lib.hid (by rw [hn0]; exact E0.out)
      have HSV0 := Lib.hid hsv
      clear hsv hn0 hc0
      go_wp2_with (at_builtin; refine wpList_append_own_none rfl _ _ 22 rfl w.heap.size 31 i0 3 Try.underlying22 hi'.out _ _ _ rfl E0.out HSV.out ?_)
      have e := HSV0.out
      subst e
      go_meet
      case rel => exact ⟨E1.out, K0.out⟩
    · have HX := Lib.hid (arr_cells HA.out)
      go_wp2_with (at_builtin; refine wpList_append_own _ rfl _ _ 22 rfl w.heap.size 31 i0 (.agg #[.int .i64 0, .int .i64 0, .int .i64 0]) 3 24 Try.underlying22 hi'.out hz0'.out hz1'.out hz2'.out rfl (by decide) _ 0 [] rfl E0.out a n c (a3 N Q T n) rfl (a3_len _ _ _ _) (fun j u h => cell_alloc' (HX.out j u h) _) (a3_one _ _ _ _) (by unfold maxLen; omega) (by omega) (by simp) ?_; intro v1 w1 r1 g1 _)
      have R1 := Lib.hid r1
      have K1 := Lib.hid (K0.out.grown g1 K0.out.size (fun i e => (E0.out.lt i e).1))
      clear r1 g1
      go_meet
      case rel => exact ⟨by have := R1.out; rwa [Nat.zero_add, List.nil_append] at this, K1.out⟩
  case rest =>
    obtain ⟨hr5, hk5⟩ := hcut
    obtain ⟨A5, c5, rfl, h5⟩ := own_arrs_of hn hr5
    have H5 := Lib.hid h5
    have KC := Lib.hid hk5
    clear h5 hr5 hk5
    go_wp2_with fail
    go_loopw [6, 7] (fun v i wr => ∃ k : Nat, k ≤ n ∧ i = .int .i64 k ∧ wr.ownsRow wc.heap.size 67 3 v k (a3 N Q T k) ∧ Below wc.heap.size wc wr)
      (fun _ i _ => n - (intOf i).toNat)
    case atStart => exact ⟨0, Nat.zero_le _, rfl, World.ownsRow_nil _ _ _ _, Below.refl _ _⟩
    case round =>
      obtain ⟨k, hk, rfl, hrow, kr⟩ := hrel
      have HROW := Lib.hid hrow
      have KR := Lib.hid kr
      have KW := Lib.hid (KC.out.trans (kr.mono KC.out.size))
      clear hrow kr
      by_cases hlt : k < n
      · obtain ⟨ab, off, rfl, hb, hc⟩ := HA.out.2 (by omega)
        obtain ⟨c0, c1, c2⟩ := hc k hlt
        have y0 := (KW.out.cell (p := ⟨ab, off + k * 3, none⟩) hb).trans c0
        have y1 := (KW.out.cell (p := ⟨ab, off + k * 3 + 1, none⟩) hb).trans c1
        have y2 := (KW.out.cell (p := ⟨ab, off + k * 3 + 2, none⟩) hb).trans c2
        have x0 := (KC.out.cell (p := ⟨ab, off + k * 3, none⟩) hb).trans c0
        have x1 := (KC.out.cell (p := ⟨ab, off + k * 3 + 1, none⟩) hb).trans c1
        have x2 := (KC.out.cell (p := ⟨ab, off + k * 3 + 2, none⟩) hb).trans c2
        have HA3 : Hid (a3 N Q T (k + 1) = a3 N Q T k ++ [.int .i64 (N k), .int .i64 (Q k), .int .i64 (T k)]) := Lib.hid rfl
        clear hc c0 c1 c2
        generalize N k = net at *
        generalize Q k = q at *
        generalize T k = t at *
        have g1 : decide (n ≤ k) = false := decide_eq_false (by omega)
        have g2 : decide ((k : Int) < 0) = false := decide_eq_false (by omega)
        have g3 : (k : Int) < n := by omega
        have R0 := Lib.hid (HROW.out.kept (gb_drew (World.grownBy.refl _ _)) (Classical.em _))
        have KD := Lib.hid KR.out.drew
        have YS : Hid (∀ V : World, Below wc.heap.size wc V → V.cell? ⟨ab, off + k * 3, none⟩ = some (.int .i64 net) ∧ V.cell? ⟨ab, off + k * 3 + 1, none⟩ = some (.int .i64 q) ∧ V.cell? ⟨ab, off + k * 3 + 2, none⟩ = some (.int .i64 t)) := Lib.hid (fun V hV => by
          have hl := Nat.lt_of_lt_of_le hb KC.out.size
          exact ⟨(hV.cell (p := ⟨ab, off + k * 3, none⟩) hl).trans x0, (hV.cell (p := ⟨ab, off + k * 3 + 1, none⟩) hl).trans x1, (hV.cell (p := ⟨ab, off + k * 3 + 2, none⟩) hl).trans x2⟩)
        have KRS := Lib.hid KR.out.size
        clear x0 x1 x2 HROW KR KW
        go_upto_region 6 with fail
        refine wp_region_held_drew (S := (fun w' : World => w'.cell? ⟨ab, off + k * 3, none⟩ = some (.int .i64 net) ∧ w'.cell? ⟨ab, off + k * 3 + 1, none⟩ = some (.int .i64 q) ∧ w'.cell? ⟨ab, off + k * 3 + 2, none⟩ = some (.int .i64 t))) (by kernel_rfl) ⟨y0, y1, y2⟩ (fun hS0 => ?_)
        refine ah_take (i := 0) (v := ?_) (some 22) rfl rfl (by kernel_rfl) (by kernel_rfl) (by kernel_rfl) (fun _ _ _ h => h) (by kernel_rfl) ?_ (by assumption) ?_
        rotate_left
        · (intro w hSw; (try dsimp only at hSw); go_simp; (first | done | with_reducible rfl))
        simp only [Act.put, List.setIfInBounds_toArray, List.set_cons_zero, List.set_cons_succ]
        refine ah_take (i := 1) (v := ?_) (some 23) rfl rfl (by kernel_rfl) (by kernel_rfl) (by kernel_rfl) (fun _ _ _ h => h) (by kernel_rfl) ?_ (by assumption) ?_
        rotate_left
        · (intro w hSw; (try dsimp only at hSw); go_simp; (first | done | with_reducible rfl))
        simp only [Act.put, List.setIfInBounds_toArray, List.set_cons_zero, List.set_cons_succ]
        refine ah_take (i := 2) (v := ?_) (some 24) rfl rfl (by kernel_rfl) (by kernel_rfl) (by kernel_rfl) (fun _ _ _ h => h) (by kernel_rfl) ?_ (by assumption) ?_
        rotate_left
        · (intro w hSw; (try dsimp only at hSw); go_simp; (first | done | with_reducible rfl))
        simp only [Act.put, List.setIfInBounds_toArray, List.set_cons_zero, List.set_cons_succ]
        refine ah_take (i := 3) (v := ?_) (some 25) rfl rfl (by kernel_rfl) (by kernel_rfl) (by kernel_rfl) (fun _ _ _ h => h) (by kernel_rfl) ?_ (by assumption) ?_
        rotate_left
        · (intro w hSw; (try dsimp only at hSw); go_simp; (first | done | with_reducible rfl))
        simp only [Act.put, List.setIfInBounds_toArray, List.set_cons_zero, List.set_cons_succ]
        refine ah_take (i := 4) (v := ?_) (some 26) rfl rfl (by kernel_rfl) (by kernel_rfl) (by kernel_rfl) (fun _ _ _ h => h) (by kernel_rfl) ?_ (by assumption) ?_
        rotate_left
        · (intro w hSw; (try dsimp only at hSw); go_simp; (first | done | with_reducible rfl))
        simp only [Act.put, List.setIfInBounds_toArray, List.set_cons_zero, List.set_cons_succ]
        refine ah_take (i := 5) (v := ?_) (some 27) rfl rfl (by kernel_rfl) (by kernel_rfl) (by kernel_rfl) (fun _ _ _ h => h) (by kernel_rfl) ?_ (by assumption) ?_
        rotate_left
        · (intro w hSw; (try dsimp only at hSw); go_simp; (first | done | with_reducible rfl))
        simp only [Act.put, List.setIfInBounds_toArray, List.set_cons_zero, List.set_cons_succ]
        refine ah_take (i := 6) (v := ?_) (some 28) rfl rfl (by kernel_rfl) (by kernel_rfl) (by kernel_rfl) (fun _ _ _ h => h) (by kernel_rfl) ?_ (by assumption) ?_
        rotate_left
        · (intro w hSw; (try dsimp only at hSw); go_simp; (first | done | with_reducible rfl))
        simp only [Act.put, List.setIfInBounds_toArray, List.set_cons_zero, List.set_cons_succ]
        refine ah_take (i := 7) (v := ?_) (some 29) rfl rfl (by kernel_rfl) (by kernel_rfl) (by kernel_rfl) (fun _ _ _ h => h) (by kernel_rfl) ?_ (by assumption) ?_
        rotate_left
        · (intro w hSw; (try dsimp only at hSw); go_simp; (first | done | with_reducible rfl))
        simp only [Act.put, List.setIfInBounds_toArray, List.set_cons_zero, List.set_cons_succ]
        refine ah_take (i := 8) (v := ?_) (some 30) rfl rfl (by kernel_rfl) (by kernel_rfl) (by kernel_rfl) (fun _ _ _ h => h) (by kernel_rfl) ?_ (by assumption) ?_
        rotate_left
        · (intro w hSw; (try dsimp only at hSw); go_simp; (first | done | with_reducible rfl))
        simp only [Act.put, List.setIfInBounds_toArray, List.set_cons_zero, List.set_cons_succ]
        refine ah_take (i := 9) (v := ?_) (some 31) rfl rfl (by kernel_rfl) (by kernel_rfl) (by kernel_rfl) (fun _ _ _ h => h) (by kernel_rfl) ?_ (by assumption) ?_
        rotate_left
        · (intro w hSw; (try dsimp only at hSw); go_simp; (first | done | with_reducible rfl))
        simp only [Act.put, List.setIfInBounds_toArray, List.set_cons_zero, List.set_cons_succ]
        refine ah_take (i := 10) (v := ?_) (some 32) rfl rfl (by kernel_rfl) (by kernel_rfl) (by kernel_rfl) (fun _ _ _ h => h) (by kernel_rfl) ?_ (by assumption) ?_
        rotate_left
        · (intro w hSw; (try dsimp only at hSw); go_simp; (first | done | with_reducible rfl))
        simp only [Act.put, List.setIfInBounds_toArray, List.set_cons_zero, List.set_cons_succ]
        refine ah_take (i := 11) (v := ?_) (some 33) rfl rfl (by kernel_rfl) (by kernel_rfl) (by kernel_rfl) (fun _ _ _ h => h) (by kernel_rfl) ?_ (by assumption) ?_
        rotate_left
        · (intro w hSw; (try dsimp only at hSw); go_simp; (first | done | with_reducible rfl))
        simp only [Act.put, List.setIfInBounds_toArray, List.set_cons_zero, List.set_cons_succ]
        refine ah_take (i := 12) (v := ?_) (some 34) rfl rfl (by kernel_rfl) (by kernel_rfl) (by kernel_rfl) (fun _ _ _ h => h) (by kernel_rfl) ?_ (by assumption) ?_
        rotate_left
        · (intro w hSw; (try dsimp only at hSw); go_simp; (first | done | with_reducible rfl))
        simp only [Act.put, List.setIfInBounds_toArray, List.set_cons_zero, List.set_cons_succ]
        refine ah_take (i := 13) (v := ?_) (some 35) rfl rfl (by kernel_rfl) (by kernel_rfl) (by kernel_rfl) (fun _ _ _ h => h) (by kernel_rfl) ?_ (by assumption) ?_
        rotate_left
        · (intro w hSw; (try dsimp only at hSw); go_simp; (first | done | with_reducible rfl))
        simp only [Act.put, List.setIfInBounds_toArray, List.set_cons_zero, List.set_cons_succ]
        refine ah_take (i := 14) (v := ?_) (some 36) rfl rfl (by kernel_rfl) (by kernel_rfl) (by kernel_rfl) (fun _ _ _ h => h) (by kernel_rfl) ?_ (by assumption) ?_
        rotate_left
        · (intro w hSw; (try dsimp only at hSw); go_simp; (first | done | with_reducible rfl))
        simp only [Act.put, List.setIfInBounds_toArray, List.set_cons_zero, List.set_cons_succ]
        refine ah_take (i := 15) (v := ?_) (some 37) rfl rfl (by kernel_rfl) (by kernel_rfl) (by kernel_rfl) (fun _ _ _ h => h) (by kernel_rfl) ?_ (by assumption) ?_
        rotate_left
        · (intro w hSw; (try dsimp only at hSw); go_simp; (first | done | with_reducible rfl))
        simp only [Act.put, List.setIfInBounds_toArray, List.set_cons_zero, List.set_cons_succ]
        refine ah_take (i := 16) (v := ?_) (some 38) rfl rfl (by kernel_rfl) (by kernel_rfl) (by kernel_rfl) (fun _ _ _ h => h) (by kernel_rfl) ?_ (by assumption) ?_
        rotate_left
        · (intro w hSw; (try dsimp only at hSw); go_simp; (first | done | with_reducible rfl))
        simp only [Act.put, List.setIfInBounds_toArray, List.set_cons_zero, List.set_cons_succ]
        refine wpAnyH_ready (rs := [17]) (by kernel_rfl) (by simp) ?_
        refine AllReadyH.cons rfl (fun K hK => ?_) AllReadyH.nil
        go_simp
        refine hK.out _ _ ⟨cell_alloc' y0 _, cell_alloc' y1 _, cell_alloc' y2 _⟩ (fun hHeld1 => ?_)
        try simp only [Act.put, List.setIfInBounds_toArray, List.set_cons_zero, List.set_cons_succ]
        clear hK K
        refine wpAnyH_ready (rs := [18]) (by kernel_rfl) (by simp) ?_
        refine AllReadyH.cons rfl (fun K hK => ?_) AllReadyH.nil
        refine step_append_lies _ rfl _ _ 66 rfl wc.heap.size 67 j0 (.agg #[.int .i64 0, .int .i64 0, .int .i64 0]) 3 24 Try.underlying66 hj'.out hy0'.out hy1'.out hy2'.out rfl (by decide) _ _ _ rfl (R0.out.alloc _) ⟨wr.heap.size, 0, none⟩ 1 1 [.int .i64 net, .int .i64 q, .int .i64 t] rfl rfl (fun j u hj => new_three wr _ _ _ _ j u hj) (three_one _ _ _) (by decide) (by unfold maxLen; omega) (by omega) (by have := KRS.out; simp; omega) _ rfl ?_
        intro g' cap' w1 r1 g1 _ _
        have K1 := Lib.hid ((KD.out.alloc KD.out.size _).grown g1 (by have := KRS.out; simp; omega) (fun i e => (R0.out.lt i e).1))
        have yy := YS.out _ K1.out
        refine hK.out _ _ yy (fun hHeld2 => ?_)
        try simp only [Act.put, List.setIfInBounds_toArray]
        clear hK K yy
        refine ah_take (i := 19) (v := ?_) (some 6) rfl rfl (by kernel_rfl) (by kernel_rfl) (by kernel_rfl) (fun _ _ _ h => h) (by kernel_rfl) ?_ (by assumption) ?_
        rotate_left
        · (intro w hSw; (try dsimp only at hSw); go_simp; (first | done | with_reducible rfl))
        simp only [Act.put]
        refine wpAnyH_done (by kernel_rfl) ?_ _
        try clear hHeld1 hHeld2
        clear hS0 y0 y1 y2
        go_wp2_with fail
        have R1 := Lib.hid r1
        clear r1 g1
        go_roundw
        case rel => exact ⟨k + 1, by omega, by go_num, by rw [HA3.out]; exact R1.out, K1.out⟩
        case measure => simp [intOf]; omega
      · obtain rfl : n = k := by omega
        obtain ⟨A6, c6, rfl, h6⟩ := own_arrs_of hn HROW.out
        have H6 := Lib.hid h6
        rename World => wq
        have H5q := Lib.hid (H5.out.kept KR.out (Nat.le_refl _))
        have M1 := Lib.hid (merge_any skew A5 n c5 N Q T wq H5q.out hn)
        have M2 := Lib.hid (fun (V : World) (h : ArrIn V A6 n N Q T) => refMerge_any skew A6 n c6 N Q T V h hn)
        obtain ⟨⟨z, ec⟩, hz⟩ : ∃ r, mgR skew N Q T n = r := ⟨_, rfl⟩
        have hzl : z.length ≤ n := by
          have h1 : (mgR skew N Q T n).1.length ≤ n := by
            unfold mgR
            split
            · rw [mout_len]; exact Nat.le_refl _
            · simp
          rw [hz] at h1
          exact h1
        rw [hz] at M1 M2
        obtain ⟨lz, hlz⟩ : ∃ l, z.length = l := ⟨_, rfl⟩
        have HLZ := Lib.hid hlz
        rw [hlz] at hzl
        clear hz hlz h6 HROW H5 KR
        go_wp2_with fail
        refine M1.out.mono ?_
        rintro e w2 ⟨⟨A2, c2, rfl, b2⟩, k2⟩
        dsimp only at b2 ⊢
        rw [HLZ.out]
        have B2 := Lib.hid b2
        have K2 := Lib.hid (KW.out.trans (k2.mono KW.out.size))
        have H52 := Lib.hid (H5q.out.kept k2 (Nat.le_refl _))
        have H62 := Lib.hid (H6.out.kept k2 (Nat.le_refl _))
        clear b2 k2 H5q H6 M1
        go_wp2_with fail
        refine (M2.out w2 H62.out).mono ?_
        rintro e w3 ⟨⟨A3, c3, rfl, b3⟩, k3⟩
        dsimp only at b3 ⊢
        rw [HLZ.out]
        have B3 := Lib.hid b3
        have B23 := Lib.hid (B2.out.below k3 (Nat.le_refl _))
        have K3 := Lib.hid (K2.out.trans (k3.mono K2.out.size))
        have H53 := Lib.hid (H52.out.kept k3 (Nat.le_refl _))
        clear b3 k3 B2 K2 H52 H62 M2 KW KC
        go_wp2_with (go_quiet (fail))
        go_loopw [12] (fun i wr => ∃ j : Nat, j ≤ n ∧ i = .int .i64 j ∧ Below w3.heap.size w3 wr) (fun i _ => n - (intOf i).toNat)
        case atStart => exact ⟨0, Nat.zero_le _, rfl, Below.refl _ _⟩
        case round =>
          obtain ⟨j, hj, rfl, kr⟩ := hrel
          have KR2 := Lib.hid kr
          have KA := Lib.hid (K3.out.trans (kr.mono K3.out.size))
          clear kr
          by_cases hjl : j < n
          · obtain ⟨ab, off, rfl, hb, hc⟩ := HA.out.2 (by omega)
            obtain ⟨c0, c1, c2'⟩ := hc j hjl
            have y0 := (KA.out.cell (p := ⟨ab, off + j * 3, none⟩) hb).trans c0
            have y1 := (KA.out.cell (p := ⟨ab, off + j * 3 + 1, none⟩) hb).trans c1
            have y2 := (KA.out.cell (p := ⟨ab, off + j * 3 + 2, none⟩) hb).trans c2'
            obtain ⟨ac, of2, rfl, hb2, hc2⟩ := H53.out.2 (by omega)
            obtain ⟨d0, d1, d2⟩ := hc2 j hjl
            have z0 := (KR2.out.cell (p := ⟨ac, of2 + j * 3, none⟩) hb2).trans d0
            have z1 := (KR2.out.cell (p := ⟨ac, of2 + j * 3 + 1, none⟩) hb2).trans d1
            have z2 := (KR2.out.cell (p := ⟨ac, of2 + j * 3 + 2, none⟩) hb2).trans d2
            clear hc c0 c1 c2' hc2 d0 d1 d2
            generalize N j = net at *
            generalize Q j = q at *
            generalize T j = t at *
            have g1 : decide (n ≤ j) = false := decide_eq_false (by omega)
            have g2 : decide ((j : Int) < 0) = false := decide_eq_false (by omega)
            have g3 : (j : Int) < n := by omega
            by_cases hjz : j < lz
            · obtain ⟨ga, rfl, hga, hca⟩ := B23.out (by rw [HLZ.out]; omega)
              obtain ⟨gb, rfl, hgb, hcb⟩ := B3.out (by rw [HLZ.out]; omega)
              have ya := (KR2.out.cell (p := ⟨ga, j, none⟩) hga).trans (hca j (by rw [HLZ.out]; exact hjz))
              have yb := (KR2.out.cell (p := ⟨gb, j, none⟩) hgb).trans (hcb j (by rw [HLZ.out]; exact hjz))
              generalize z.getD j false = bz at *
              have g4 : decide (lz ≤ j) = false := decide_eq_false (by omega)
              have g5 : (j : Int) < lz := by omega
              clear hca hcb hga hgb
              go_wp2_with (go_quiet (fail))
              go_roundw
              case rel => exact ⟨j + 1, by omega, by go_num, belowN KR2.out⟩
              case measure => simp [intOf]; omega
            · have g4 : decide ((j : Int) < lz) = false := decide_eq_false (by omega)
              have g5 : decide (j < lz) = false := decide_eq_false (by omega)
              go_wp2_with (go_quiet (fail))
              go_roundw
              case rel => exact ⟨j + 1, by omega, by go_num, belowN KR2.out⟩
              case measure => simp [intOf]; omega
          · obtain rfl : n = j := by omega
            go_wp2_with fail
            go_ret
            exact ⟨rfl, KA.out⟩
end Go.Proofs.Ytllabfbebidjiaa
