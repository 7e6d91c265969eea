/-
  The contract of the document's Merge (nacelleref21): it answers as Merge does (mgR). It takes that there are at most a million arrivals.
-/
import Derived.Test.YtllabfbebidjiaaR3
import Derived.Test.YtllabfbebidjiaaLawN
import Derived.OwnWalk
import Derived.Deep.CutRange
import Derived.StillTailTactics
namespace Go.Proofs.Ytllabfbebidjiaa
open Go.RowKit
def okb (skew : Int) (N Q T : Nat → Int) (k : Nat) : Bool := okS skew && allOk skew N Q T k
theorem okb_next {skew : Int} {N Q T : Nat → Int} {k : Nat} : okb skew N Q T (k + 1) = (okb skew N Q T k && mgOk (mst skew N Q T k).now (N k) (Q k) (T k)) := by
  unfold okb
  rw [allOk, Bool.and_assoc]
  rfl
/-- the memory of the document's Merge: its selector in the box sx, its two filters in the block fx -/
structure FW (W : World) (sx fx ks kf : Nat) (m : MS) : Prop where
  sel : ∃ r A c, Rel m.sel r ∧ r.Ok ∧ DelIn W A c r.L ∧ Blk W sx 84 #[.int .i64 r.skew, .int .i64 r.now, .int .i64 r.drp, .slice A r.L.length c] ∧ (r.L.length : Int) + r.drp ≤ ks
  flt : ∃ a r : Nat → Int, (∀ j, j < 2 → 0 ≤ a j ∧ 0 ≤ r j ∧ a j + r j ≤ kf) ∧ Blk W fx 92 #[.int .i64 (rp (m.so 0) (m.p 0)), .int .i64 (a 0), .int .i64 (r 0), .int .i64 (rp (m.so 1) (m.p 1)), .int .i64 (a 1), .int .i64 (r 1)]
  num : ∀ j, m.so j = true → isN (m.p j) = true
section
variable {W W' : World} {sx fx ks kf : Nat} {m : MS}
theorem FW.below (h : FW W sx fx ks kf m) (hb : Below W.heap.size W W') : FW W' sx fx ks kf m := by
  obtain ⟨⟨r, A, c, h1, h2, h3, h4, h5⟩, ⟨a, q, h6, h8⟩, h9⟩ := h
  exact ⟨⟨r, A, c, h1, h2, h3.below hb (Nat.le_refl _), h4.below hb h4.lt, h5⟩, ⟨a, q, h6, h8.below hb h8.lt⟩, h9⟩
theorem DelIn.grown {base n : Nat} {v : Value} {xs : List Value} {A : Option Addr} {c : Nat} {L : List (Int × Int)} (h : DelIn W A c L) (hg : W.grownBy W' v.ownBlock) (hv : W.ownsRow base 4 1 v n xs) : DelIn W' A c L := by
  rcases h with h | ⟨g, hA, hlt, hc, cs, hbk⟩
  · exact .inl h
  · have hb2 : Blk W' g 104 cs := hbk.grown hg (fun e => own_ne hv hbk (by decide) e.symm)
    exact .inr ⟨g, hA, hb2.lt, fun j v hj => by rw [hb2.cell j, ← hbk.cell j]; exact hc j v hj, cs, hb2⟩
theorem FW.own {base n : Nat} {v : Value} {xs : List Value} (h : FW W sx fx ks kf m) (hg : W.grownBy W' v.ownBlock) (hv : W.ownsRow base 4 1 v n xs) : FW W' sx fx ks kf m := by
  obtain ⟨⟨r, A, c, h1, h2, h3, h4, h5⟩, ⟨a, q, h6, h8⟩, h9⟩ := h
  exact ⟨⟨r, A, c, h1, h2, h3.grown hg hv, h4.grown hg (fun e => own_ne hv h4 (by decide) e.symm), h5⟩, ⟨a, q, h6, h8.grown hg (fun e => own_ne hv h8 (by decide) e.symm)⟩, h9⟩
theorem FW.took (h : FW W sx fx ks kf m) {j : Nat} (hj : j < 2) {seq a' r' : Int} (tim : Int) (hq : isN seq = true) (h0 : 0 ≤ a') (h1 : 0 ≤ r') (h2 : a' + r' ≤ (kf : Int) + 1) :
    FW (((W.setCell ⟨fx, j * 3, none⟩ (.int .i64 (rp true seq))).setCell ⟨fx, j * 3 + 1, none⟩ (.int .i64 a')).setCell ⟨fx, j * 3 + 2, none⟩ (.int .i64 r')) sx fx ks (kf + 1) { sel := m.sel, now := tim, p := fun i => if i = j then seq else m.p i, so := fun i => if i = j then true else m.so i } := by
  obtain ⟨⟨r, A, c, g1, g2, g3, g4, g5⟩, ⟨a, q, h6, h8⟩, h9⟩ := h
  have hne : sx ≠ fx := Blk.ne_ g4 h8 (by decide)
  have b1 := h8.put (j * 3) (.int .i64 (rp true seq))
  have b2 := b1.put (j * 3 + 1) (.int .i64 a')
  have b3 := b2.put (j * 3 + 2) (.int .i64 r')
  refine ⟨⟨r, A, c, g1, g2, ((g3.put h8 (by decide) _).put b1 (by decide) _).put b2 (by decide) _, ((g4.far (p := ⟨fx, j * 3, none⟩) hne _).far (p := ⟨fx, j * 3 + 1, none⟩) hne _).far (p := ⟨fx, j * 3 + 2, none⟩) hne _, g5⟩, ⟨fun i => if i = j then a' else a i, fun i => if i = j then r' else q i, fun i hi => ?_, ?_⟩, fun i => ?_⟩
  · by_cases e : i = j
    · simp only [if_pos e]; exact ⟨h0, h1, by omega⟩
    · simp only [if_neg e]; have := h6 i hi; exact ⟨this.1, this.2.1, by omega⟩
  · match j, hj with
    | 0, _ => exact b3
    | 1, _ => exact b3
  · by_cases e : i = j
    · simp only [if_pos e]; exact fun _ => hq
    · simp only [if_neg e]; exact h9 i
theorem FW.offered (h : FW W sx fx ks kf m) {s : St} {r : RS} {A : Option Addr} {c k' : Nat} (hr : Rel s r) (ho : r.Ok) (hd : DelIn W A c r.L) (hk : (r.L.length : Int) + r.drp ≤ k') :
    FW ((((W.setCell ⟨sx, 0, none⟩ (.int .i64 r.skew)).setCell ⟨sx, 1, none⟩ (.int .i64 r.now)).setCell ⟨sx, 2, none⟩ (.int .i64 r.drp)).setCell ⟨sx, 3, none⟩ (.slice A r.L.length c)) sx fx k' kf { m with sel := s } := by
  obtain ⟨⟨r0, A0, c0, g1, g2, g3, g4, g5⟩, ⟨a, q, h6, h8⟩, h9⟩ := h
  have hne : fx ≠ sx := (Blk.ne_ g4 h8 (by decide)).symm
  have b1 := g4.put 0 (.int .i64 r.skew)
  have b2 := b1.put 1 (.int .i64 r.now)
  have b3 := b2.put 2 (.int .i64 r.drp)
  have b4 := b3.put 3 (.slice A r.L.length c)
  exact ⟨⟨r, A, c, hr, ho, (((hd.put g4 (by decide) _).put b1 (by decide) _).put b2 (by decide) _).put b3 (by decide) _, b4, hk⟩, ⟨a, q, h6, (((h8.far (p := ⟨sx, 0, none⟩) hne _).far (p := ⟨sx, 1, none⟩) hne _).far (p := ⟨sx, 2, none⟩) hne _).far (p := ⟨sx, 3, none⟩) hne _⟩, h9⟩
theorem FW.more {ks' kf' : Nat} (h : FW W sx fx ks kf m) (h1 : ks ≤ ks') (h2 : kf ≤ kf') : FW W sx fx ks' kf' m := by
  obtain ⟨⟨r, A, c, g1, g2, g3, g4, g5⟩, ⟨a, q, h6, h8⟩, h9⟩ := h
  exact ⟨⟨r, A, c, g1, g2, g3, g4, by omega⟩, ⟨a, q, fun j hj => by have := h6 j hj; exact ⟨this.1, this.2.1, by omega⟩, h8⟩, h9⟩
end
theorem six_at {w : World} {fx t : Nat} {j : Nat} (f g h : Nat → Value) (hb : Blk w fx t #[f 0, g 0, h 0, f 1, g 1, h 1]) (hj : j < 2) : w.cell? ⟨fx, j * 3, none⟩ = some (f j) ∧ w.cell? ⟨fx, j * 3 + 1, none⟩ = some (g j) ∧ w.cell? ⟨fx, j * 3 + 2, none⟩ = some (h j) := by
  rw [hb.cell, hb.cell, hb.cell]
  match j, hj with
  | 0, _ => exact ⟨rfl, rfl, rfl⟩
  | 1, _ => exact ⟨rfl, rfl, rfl⟩
theorem DelIn.put4 {w : World} {A : Option Addr} {c g : Nat} {cs : Array Value} {L : List (Int × Int)} (h : DelIn w A c L) (hb : Blk w g 84 cs) (x y z u : Value) : DelIn ((((w.setCell ⟨g, 0, none⟩ x).setCell ⟨g, 1, none⟩ y).setCell ⟨g, 2, none⟩ z).setCell ⟨g, 3, none⟩ u) A c L :=
  (((h.put hb (by decide) x).put (hb.put 0 x) (by decide) y).put ((hb.put 0 x).put 1 y) (by decide) z).put (((hb.put 0 x).put 1 y).put 2 z) (by decide) u
theorem six_put {w : World} {fx t : Nat} {j : Nat} (f g h : Nat → Value) (hb : Blk w fx t #[f 0, g 0, h 0, f 1, g 1, h 1]) (hj : j < 2) (x y : Value) :
    w.frozen? ⟨fx, j * 3, none⟩ = false ∧ (w.setCell ⟨fx, j * 3, none⟩ x).cell? ⟨fx, j * 3 + 1, none⟩ = some (g j) ∧ (w.setCell ⟨fx, j * 3, none⟩ x).frozen? ⟨fx, j * 3 + 1, none⟩ = false ∧
    ((w.setCell ⟨fx, j * 3, none⟩ x).setCell ⟨fx, j * 3 + 1, none⟩ y).cell? ⟨fx, j * 3 + 2, none⟩ = some (h j) ∧ ((w.setCell ⟨fx, j * 3, none⟩ x).setCell ⟨fx, j * 3 + 1, none⟩ y).frozen? ⟨fx, j * 3 + 2, none⟩ = false := by
  have b1 := hb.put (j * 3) x
  have b2 := b1.put (j * 3 + 1) y
  refine ⟨hb.free _, ?_, b1.free _, ?_, b2.free _⟩
  · rw [b1.cell]
    match j, hj with
    | 0, _ => rfl
    | 1, _ => rfl
  · rw [b2.cell]
    match j, hj with
    | 0, _ => rfl
    | 1, _ => rfl
set_option maxRecDepth 100000 in
set_option maxHeartbeats 8000000 in
theorem refMerge_any (skew : Int) (A : Option Addr) (n c : Nat) (N Q T : Nat → Int) (w : World) (hA : ArrIn w A n N Q T) (hn : n ≤ 1000000) :
    Calls Try.prog 24 #[.int .i64 skew, .slice A n c] w (MAny (mgR skew N Q T n) w) := by
  have HA := Lib.hid hA
  clear hA
  go_enter Try.func24, Try.ntmps24
  go_wp2_with fail
  refine (refNew21_any skew w).mono ?_
  rintro e w1 ⟨rfl, k1⟩
  have HOK0 : Hid (okSkew skew = okb skew N Q T 0) := Lib.hid (by unfold okb okSkew okS allOk; simp)
  rw [HOK0.out]
  have HB0 : Hid (∃ b, okb skew N Q T 0 = b) := Lib.hid ⟨_, rfl⟩
  go_wp2_with fail
  obtain ⟨W, hW⟩ : ∃ W, w1.alloc (.cells #[.int .i64 skew, .int .i64 0, .int .i64 0, .slice none 0 0] 84) = W := ⟨_, rfl⟩
  rw [hW]
  have bx : Blk W w1.heap.size 84 #[.int .i64 skew, .int .i64 0, .int .i64 0, .slice none 0 0] := by rw [← hW]; exact Blk.made _ _ _
  have kW : Below w1.heap.size w1 W := by rw [← hW]; exact (Below.refl _ _).alloc (Nat.le_refl _) _
  have BX := Lib.hid bx
  have KW := Lib.hid (k1.trans (kW.mono k1.size))
  have XB : Hid (w.heap.size ≤ w1.heap.size) := Lib.hid k1.size
  clear hW bx kW k1
  generalize w1.heap.size = sx at *
  go_loopw [7, 8, 9] (fun ov nv i wr => ∃ k : Nat, k ≤ n ∧ i = .int .i64 k ∧ ov = .bool (okb skew N Q T k) ∧ nv = .int .i64 (mst skew N Q T k).now ∧ W = wr)
    (fun _ _ i _ => n - (intOf i).toNat)
  case atStart => exact ⟨0, Nat.zero_le _, rfl, rfl, rfl, rfl⟩
  case round =>
    obtain ⟨k, hk, rfl, rfl, rfl, rfl⟩ := hrel
    by_cases hlt : k < n
    · obtain ⟨ab, off, rfl, hb, hc⟩ := HA.out.2 (by omega)
      obtain ⟨c0, c1, c2⟩ := hc k hlt
      have y0 := (KW.out.cell (p := ⟨ab, off + k * 3, none⟩) hb).trans c0
      have y1 := (KW.out.cell (p := ⟨ab, off + k * 3 + 1, none⟩) hb).trans c1
      have y2 := (KW.out.cell (p := ⟨ab, off + k * 3 + 2, none⟩) hb).trans c2
      have HN := Lib.hid (okb_next (skew := skew) (N := N) (Q := Q) (T := T) (k := k))
      have HT := Lib.hid (mst_now (skew := skew) (N := N) (Q := Q) (T := T) k)
      clear hc c0 c1 c2
      obtain ⟨b, hb2⟩ : ∃ b, okb skew N Q T k = b := ⟨_, rfl⟩
      obtain ⟨nw, hnw⟩ : ∃ nw, (mst skew N Q T k).now = nw := ⟨_, rfl⟩
      rw [hb2, hnw] at HN
      rw [hb2, hnw]
      clear hb2 hnw
      generalize N k = net at *
      generalize Q k = q at *
      generalize T k = t at *
      have g1 : decide (n ≤ k) = false := decide_eq_false (by omega)
      have g2 : decide ((k : Int) < 0) = false := decide_eq_false (by omega)
      have g3 : (k : Int) < n := by omega
      cases b with
      | false =>
        have HN2 : Hid (okb skew N Q T (k + 1) = false) := Lib.hid (by rw [HN.out]; rfl)
        go_wp2_with fail
        go_roundw
        case rel => exact ⟨k + 1, by omega, by go_num, by (first | (rw [HN2.out]; done) | (rw [HN2.out]; congr 1; simp; omega)), by rw [HT.out], trivial⟩
        case measure => simp [intOf]; omega
      | true =>
        by_cases e0 : net = 0
        · subst e0
          cases hq : isN q with
          | false =>
            have HQ := Lib.hid hq
            have HN2 : Hid (okb skew N Q T (k + 1) = false) := Lib.hid (by rw [HN.out]; unfold mgOk; rw [hq]; simp)
            clear hq
            go_wp2_with fail
            refine (refNumber_to q W HQ.out).mono ?_
            rintro e w5 ⟨rfl, rfl⟩
            go_wp2_with fail
            go_roundw
            case rel => exact ⟨k + 1, by omega, by go_num, by (first | (rw [HN2.out]; done) | (rw [HN2.out]; congr 1; simp; omega)), by rw [HT.out], trivial⟩
            case measure => simp [intOf]; omega
          | true =>
            have HQ := Lib.hid hq
            by_cases ht0 : nw ≤ t
            · by_cases ht1 : t ≤ 1073741824
              · have HN2 : Hid (okb skew N Q T (k + 1) = true) := Lib.hid (by rw [HN.out]; unfold mgOk mvs; rw [hq]; simp [ht0, ht1])
                clear hq
                go_wp2_with fail
                refine (refNumber_to q W HQ.out).mono ?_
                rintro e w5 ⟨rfl, rfl⟩
                go_wp2_with fail
                go_roundw
                case rel => exact ⟨k + 1, by omega, by go_num, by (first | (rw [HN2.out]; done) | (rw [HN2.out]; congr 1; simp; omega)), by rw [HT.out], trivial⟩
                case measure => simp [intOf]; omega
              · have HN2 : Hid (okb skew N Q T (k + 1) = false) := Lib.hid (by rw [HN.out]; unfold mgOk mvs; rw [hq]; simp [ht1])
                clear hq
                go_wp2_with fail
                refine (refNumber_to q W HQ.out).mono ?_
                rintro e w5 ⟨rfl, rfl⟩
                go_wp2_with fail
                go_roundw
                case rel => exact ⟨k + 1, by omega, by go_num, by (first | (rw [HN2.out]; done) | (rw [HN2.out]; congr 1; simp; omega)), by rw [HT.out], trivial⟩
                case measure => simp [intOf]; omega
            · have HN2 : Hid (okb skew N Q T (k + 1) = false) := Lib.hid (by rw [HN.out]; unfold mgOk mvs; rw [hq]; simp [ht0])
              clear hq
              go_wp2_with fail
              refine (refNumber_to q W HQ.out).mono ?_
              rintro e w5 ⟨rfl, rfl⟩
              go_wp2_with fail
              go_roundw
              case rel => exact ⟨k + 1, by omega, by go_num, by (first | (rw [HN2.out]; done) | (rw [HN2.out]; congr 1; simp; omega)), by rw [HT.out], trivial⟩
              case measure => simp [intOf]; omega
        · have e0' : (net == 0) = false := by simpa using e0
          by_cases e1 : net = 1
          · subst e1
            cases hq : isN q with
            | false =>
              have HQ := Lib.hid hq
              have HN2 : Hid (okb skew N Q T (k + 1) = false) := Lib.hid (by rw [HN.out]; unfold mgOk; rw [hq]; simp)
              clear hq
              go_wp2_with fail
              refine (refNumber_to q W HQ.out).mono ?_
              rintro e w5 ⟨rfl, rfl⟩
              go_wp2_with fail
              go_roundw
              case rel => exact ⟨k + 1, by omega, by go_num, by (first | (rw [HN2.out]; done) | (rw [HN2.out]; congr 1; simp; omega)), by rw [HT.out], trivial⟩
              case measure => simp [intOf]; omega
            | true =>
              have HQ := Lib.hid hq
              by_cases ht0 : nw ≤ t
              · by_cases ht1 : t ≤ 1073741824
                · have HN2 : Hid (okb skew N Q T (k + 1) = true) := Lib.hid (by rw [HN.out]; unfold mgOk mvs; rw [hq]; simp [ht0, ht1])
                  clear hq
                  go_wp2_with fail
                  refine (refNumber_to q W HQ.out).mono ?_
                  rintro e w5 ⟨rfl, rfl⟩
                  go_wp2_with fail
                  go_roundw
                  case rel => exact ⟨k + 1, by omega, by go_num, by (first | (rw [HN2.out]; done) | (rw [HN2.out]; congr 1; simp; omega)), by rw [HT.out], trivial⟩
                  case measure => simp [intOf]; omega
                · have HN2 : Hid (okb skew N Q T (k + 1) = false) := Lib.hid (by rw [HN.out]; unfold mgOk mvs; rw [hq]; simp [ht1])
                  clear hq
                  go_wp2_with fail
                  refine (refNumber_to q W HQ.out).mono ?_
                  rintro e w5 ⟨rfl, rfl⟩
                  go_wp2_with fail
                  go_roundw
                  case rel => exact ⟨k + 1, by omega, by go_num, by (first | (rw [HN2.out]; done) | (rw [HN2.out]; congr 1; simp; omega)), by rw [HT.out], trivial⟩
                  case measure => simp [intOf]; omega
              · have HN2 : Hid (okb skew N Q T (k + 1) = false) := Lib.hid (by rw [HN.out]; unfold mgOk mvs; rw [hq]; simp [ht0])
                clear hq
                go_wp2_with fail
                refine (refNumber_to q W HQ.out).mono ?_
                rintro e w5 ⟨rfl, rfl⟩
                go_wp2_with fail
                go_roundw
                case rel => exact ⟨k + 1, by omega, by go_num, by (first | (rw [HN2.out]; done) | (rw [HN2.out]; congr 1; simp; omega)), by rw [HT.out], trivial⟩
                case measure => simp [intOf]; omega
          · have e1' : (net == 1) = false := by simpa using e1
            have HN2 : Hid (okb skew N Q T (k + 1) = false) := Lib.hid (by rw [HN.out]; unfold mgOk; rw [show (decide (0 ≤ net) && decide (net ≤ 1)) = false from by rw [Bool.and_eq_false_iff, decide_eq_false_iff_not, decide_eq_false_iff_not]; omega]; rfl)
            go_wp2_with fail
            go_roundw
            case rel => exact ⟨k + 1, by omega, by go_num, by (first | (rw [HN2.out]; done) | (rw [HN2.out]; congr 1; simp; omega)), by rw [HT.out], trivial⟩
            case measure => simp [intOf]; omega
    · obtain rfl : n = k := by omega
      obtain ⟨b, hb2⟩ : ∃ b, okb skew N Q T n = b := ⟨_, rfl⟩
      have HOB := Lib.hid hb2
      rw [hb2]
      clear hb2
      cases b with
      | false =>
        have hR : Hid (mgR skew N Q T n = ([], 2)) := Lib.hid (if_neg (by rw [show (okS skew && allOk skew N Q T n) = false from HOB.out]; simp))
        go_wp2_with fail
        go_ret2
        rw [hR.out]
        exact ⟨⟨none, 0, rfl, fun h => absurd h (by simp)⟩, KW.out⟩
      | true =>
        have hR : Hid (mgR skew N Q T n = (mout skew N Q T n, 0)) := Lib.hid (if_pos HOB.out)
        have hsk : okS skew = true ∧ allOk skew N Q T n = true := by simpa [okb] using HOB.out
        obtain ⟨hs, hall⟩ := hsk
        have HALL := Lib.hid (allOk_iff.1 hall)
        simp only [okS, Bool.and_eq_true, decide_eq_true_eq] at hs
        obtain ⟨s0, s1⟩ := hs
        clear hall HOB
        go_wp2_with fail
        refine (refNew_any W).mono ?_
        rintro e w2 ⟨rfl, k2⟩
        go_wp2_with fail
        refine (refNew_any w2).mono ?_
        rintro e w3 ⟨rfl, k3⟩
        go_wp2_with fail
        obtain ⟨W2, hW2⟩ : ∃ W2, w3.alloc (.cells #[.int .i64 (rp false 0), .int .i64 0, .int .i64 0, .int .i64 (rp false 0), .int .i64 0, .int .i64 0] 92) = W2 := ⟨_, rfl⟩
        rw [hW2]
        have kw : Below w3.heap.size w3 W2 := by rw [← hW2]; exact (Below.refl _ _).alloc (Nat.le_refl _) _
        have k02 : Below w.heap.size w w2 := KW.out.trans (k2.mono KW.out.size)
        have k03 : Below w.heap.size w w3 := k02.trans (k3.mono k02.size)
        have k0 : Below w.heap.size w W2 := k03.trans (kw.mono k03.size)
        have bx3 : Blk W2 sx 84 #[.int .i64 skew, .int .i64 0, .int .i64 0, .slice none 0 0] := ((BX.out.below k2 BX.out.lt).below k3 (Nat.lt_of_lt_of_le BX.out.lt k2.size)).below kw (Nat.lt_of_lt_of_le BX.out.lt (Nat.le_trans k2.size k3.size))
        have bf : Blk W2 w3.heap.size 92 #[.int .i64 (rp false 0), .int .i64 0, .int .i64 0, .int .i64 (rp false 0), .int .i64 0, .int .i64 0] := by rw [← hW2]; exact Blk.made _ _ _
        have fw0 : FW W2 sx w3.heap.size 0 0 (mst skew N Q T 0) := ⟨⟨⟨skew, 0, 0, []⟩, none, 0, Rel.new skew, ⟨Int.le_refl _, s0, s1, Int.le_refl _⟩, .inl ⟨rfl, rfl, rfl⟩, bx3, by simp⟩, ⟨fun _ => 0, fun _ => 0, fun _ _ => ⟨Int.le_refl _, Int.le_refl _, Int.le_refl _⟩, bf⟩, fun j h => by cases h⟩
        have FW0 := Lib.hid fw0
        have K0 := Lib.hid k0
        have FB : Hid (w.heap.size ≤ w3.heap.size) := Lib.hid k03.size
        obtain ⟨i0, hi, hz0, hz1, hz2⟩ := info_parts Try.info4'
        have hi' := Lib.hid hi
        have hz0' := Lib.hid hz0
        have hz1' := Lib.hid hz1
        have hz2' := Lib.hid hz2
        clear hi hz0 hz1 hz2 fw0 k0 k02 k03 kw bf bx3 hW2 k2 k3 s0 s1
        generalize w3.heap.size = fx at *
        go_loopw [11, 12] (fun v i wr => ∃ k : Nat, k ≤ n ∧ i = .int .i64 k ∧ wr.ownsRow w.heap.size 4 1 v k (bV (mout skew N Q T k)) ∧ FW wr sx fx k k (mst skew N Q T k) ∧ Below w.heap.size w wr)
          (fun _ i _ => n - (intOf i).toNat)
        case atStart => exact ⟨0, Nat.zero_le _, rfl, World.ownsRow_nil _ _ _ _, FW0.out, K0.out⟩
        case round =>
          obtain ⟨k, hk, rfl, hrow, hfw, kr⟩ := hrel
          have HROW := Lib.hid hrow
          have HFW := Lib.hid hfw
          have KR := Lib.hid kr
          clear hrow hfw kr
          by_cases hlt : k < n
          · obtain ⟨ab, off, rfl, hb, hc⟩ := HA.out.2 (by omega)
            obtain ⟨c0, c1, c2⟩ := hc k hlt
            have YS : Hid (∀ V : World, Below w.heap.size w V → V.cell? ⟨ab, off + k * 3, none⟩ = some (.int .i64 (N k)) ∧ V.cell? ⟨ab, off + k * 3 + 1, none⟩ = some (.int .i64 (Q k)) ∧ V.cell? ⟨ab, off + k * 3 + 2, none⟩ = some (.int .i64 (T k))) := Lib.hid (fun V hV =>
              ⟨(hV.cell (p := ⟨ab, off + k * 3, none⟩) hb).trans c0, (hV.cell (p := ⟨ab, off + k * 3 + 1, none⟩) hb).trans c1, (hV.cell (p := ⟨ab, off + k * 3 + 2, none⟩) hb).trans c2⟩)
            have hok := HALL.out k hlt
            clear hc c0 c1 c2
            obtain ⟨m, hm⟩ : ∃ m, mst skew N Q T k = m := ⟨_, rfl⟩
            obtain ⟨net, hnet⟩ : ∃ x, N k = x := ⟨_, rfl⟩
            obtain ⟨seq, hseq⟩ : ∃ x, Q k = x := ⟨_, rfl⟩
            obtain ⟨tim, htim⟩ : ∃ x, T k = x := ⟨_, rfl⟩
            have HM1 : Hid (mst skew N Q T (k + 1) = (mgStep m net seq tim).1) := Lib.hid (by rw [mst, hm, hnet, hseq, htim])
            have HM2 : Hid (mout skew N Q T (k + 1) = mout skew N Q T k ++ [(mgStep m net seq tim).2]) := Lib.hid (by rw [mout, hm, hnet, hseq, htim])
            unfold mok at hok
            rw [hm, hnet, hseq, htim] at hok
            rw [hnet, hseq, htim] at YS
            rw [hm] at HFW
            simp only [mgOk, Bool.and_eq_true, decide_eq_true_eq] at hok
            obtain ⟨⟨n0, n1⟩, hmv, hsq⟩ := hok
            have HSQ := Lib.hid hsq
            have HMV := Lib.hid hmv
            obtain ⟨j, rfl⟩ : ∃ j : Nat, net = j := ⟨net.toNat, by omega⟩
            have hj : j < 2 := by omega
            have HJ := Lib.hid hj
            clear hnet hseq htim hm hsq hmv n0 n1
            obtain ⟨ad, had⟩ : ∃ ad, adm (m.so j) (m.p j) seq = ad := ⟨_, rfl⟩
            have HAD := Lib.hid had
            have hst : mgStep m (j : Int) seq tim = if ad = true then ({ sel := (offer m.sel seq tim).1, now := tim, p := fun i => if i = j then seq else m.p i, so := fun i => if i = j then true else m.so i }, (offer m.sel seq tim).2.1) else ({ sel := m.sel, now := tim, p := fun i => if i = j then seq else m.p i, so := fun i => if i = j then true else m.so i }, false) := by
              unfold mgStep
              rw [Int.toNat_natCast, had]
            have HST := Lib.hid hst
            obtain ⟨mo, hmo⟩ : ∃ mo, mout skew N Q T k = mo := ⟨_, rfl⟩
            have HMO := Lib.hid hmo
            rw [hmo] at HROW HM2
            have HML : Hid (mo.length = k) := Lib.hid (by rw [← hmo]; exact mout_len k)
            clear had hst hmo
            have g1 : decide (n ≤ k) = false := decide_eq_false (by omega)
            have g2 : decide ((k : Int) < 0) = false := decide_eq_false (by omega)
            have g3 : (k : Int) < n := by omega
            have g4 : decide (2 ≤ j) = false := decide_eq_false (by omega)
            have g5 : decide ((j : Int) < 0) = false := decide_eq_false (by omega)
            have g6 : (j : Int) < 2 := by omega
            go_upto_region 15 with fail
            go_cut [13, 14] from 81 to 134 (fun v13 v14 wx => ∃ gb a' r', v13 = .pointer (some ⟨gb, 0, none⟩) ∧ v14 = .bool ad ∧ Blk wx gb 92 #[.int .i64 (rp true seq), .int .i64 a', .int .i64 r'] ∧ (0 ≤ a' ∧ 0 ≤ r' ∧ a' + r' ≤ (k : Int) + 1) ∧ wr.heap.size ≤ gb ∧ Below wr.heap.size wr wx)
            case first =>
              obtain ⟨a, r, h6, h8⟩ := HFW.out.flt
              obtain ⟨f0, f1, f2⟩ := six_at (fun i => .int .i64 (rp (m.so i) (m.p i))) (fun i => .int .i64 (a i)) (fun i => .int .i64 (r i)) h8 hj
              have hbd := h6 j hj
              have FX := Lib.hid h8.lt
              have HC := Lib.hid (fun V : World => refAcc_to ad (m.so j) (m.p j) seq (a j) (r j) V (by omega) (by omega) (by omega) (by omega) (HFW.out.num j) HAD.out)
              try dsimp only at f0 f1 f2
              generalize a j = aj at *
              generalize r j = rj at *
              generalize rp (m.so j) (m.p j) = pp at *
              have HAR : Hid (0 ≤ (if ad = true then aj + 1 else aj) ∧ 0 ≤ (if ad = true then rj else rj + 1) ∧ (if ad = true then aj + 1 else aj) + (if ad = true then rj else rj + 1) ≤ (k : Int) + 1) := Lib.hid (by cases ad <;> simp <;> omega)
              clear h8 h6 hbd
              generalize (if ad = true then aj + 1 else aj) = an at *
              generalize (if ad = true then rj else rj + 1) = rn at *
              obtain ⟨y0, y1, y2⟩ := YS.out wr KR.out
              clear HM1 HM2 HST HMO HML HSQ HMV y2 HAD HALL HFW
              have YR : Hid (∀ V : World, Below wr.heap.size wr V → (V.cell? ⟨ab, off + k * 3, none⟩ = some (.int .i64 j) ∧ V.cell? ⟨ab, off + k * 3 + 1, none⟩ = some (.int .i64 seq) ∧ V.cell? ⟨fx, j * 3, none⟩ = some (.int .i64 pp) ∧ V.cell? ⟨fx, j * 3 + 1, none⟩ = some (.int .i64 aj) ∧ V.cell? ⟨fx, j * 3 + 2, none⟩ = some (.int .i64 rj))) := Lib.hid (fun V hV => by
                obtain ⟨q0, q1, _⟩ := YS.out V (KR.out.trans (hV.mono KR.out.size))
                exact ⟨q0, q1, (hV.cell (p := ⟨fx, j * 3, none⟩) FX.out).trans f0, (hV.cell (p := ⟨fx, j * 3 + 1, none⟩) FX.out).trans f1, (hV.cell (p := ⟨fx, j * 3 + 2, none⟩) FX.out).trans f2⟩)
              have Y0 := Lib.hid (YR.out wr.drew (Below.refl _ _).drew)
              have YA := Lib.hid (fun o : Obj => YR.out (wr.alloc o).drew ((Below.refl _ _).alloc (Nat.le_refl _) _).drew)
              have YB := Lib.hid (fun o : Obj => YR.out (wr.drew.alloc o) ((Below.refl _ _).drew.alloc (Nat.le_refl _) _))
              go_region_held3 (fun w' : World => (w'.cell? ⟨ab, off + k * 3, none⟩ = some (.int .i64 j) ∧ w'.cell? ⟨ab, off + k * 3 + 1, none⟩ = some (.int .i64 seq) ∧ w'.cell? ⟨fx, j * 3, none⟩ = some (.int .i64 pp) ∧ w'.cell? ⟨fx, j * 3 + 1, none⟩ = some (.int .i64 aj) ∧ w'.cell? ⟨fx, j * 3 + 2, none⟩ = some (.int .i64 rj)))
                (first | with_reducible exact FAR.out _ _ _ | with_reducible exact Z5.out | with_reducible exact ZA.out _ | with_reducible exact Y0.out | with_reducible exact YA.out _ | with_reducible exact YB.out _ | fail)
                ((go_at_call 42; refine (HC.out _).mono ?_; rintro e w5 ⟨rfl, k5⟩
                  first
                  | (have k5' : Below wr.heap.size wr w5 := (Below.refl _ wr).drew.trans k5
                     have Z5 := Lib.hid (YR.out w5 k5')
                     have ZA := Lib.hid (fun o : Obj => YR.out (w5.alloc o) (k5'.alloc k5'.size o))
                     obtain ⟨z0, z1, z2, z3, z4⟩ := Z5.out
                     have KF := Lib.hid k5'
                     clear k5 k5')
                  | (have k5' : Below wr.heap.size wr w5 := ((Below.refl _ wr).alloc (Nat.le_refl _) _).drew.trans (k5.mono (by simp))
                     have Z5 := Lib.hid (YR.out w5 k5')
                     have ZA := Lib.hid (fun o : Obj => YR.out (w5.alloc o) (k5'.alloc k5'.size o))
                     obtain ⟨z0, z1, z2, z3, z4⟩ := Z5.out
                     have b5 : Blk w5 wr.heap.size 92 #[.int .i64 0, .int .i64 0, .int .i64 0] := Blk.below (Blk.made wr 92 _).drew k5 (by simp)
                     have t0 : w5.cell? ⟨wr.heap.size, 0, none⟩ = some (.int .i64 0) := b5.cell 0
                     have q0 : w5.frozen? ⟨wr.heap.size, 0, none⟩ = false := b5.free 0
                     have t1 : (w5.setCell ⟨wr.heap.size, 0, none⟩ (.int .i64 (rp true seq))).cell? ⟨wr.heap.size, 1, none⟩ = some (.int .i64 0) := (b5.put 0 _).cell 1
                     have q1 : (w5.setCell ⟨wr.heap.size, 0, none⟩ (.int .i64 (rp true seq))).frozen? ⟨wr.heap.size, 1, none⟩ = false := (b5.put 0 _).free 1
                     have t2 : ((w5.setCell ⟨wr.heap.size, 0, none⟩ (.int .i64 (rp true seq))).setCell ⟨wr.heap.size, 1, none⟩ (.int .i64 an)).cell? ⟨wr.heap.size, 2, none⟩ = some (.int .i64 0) := ((b5.put 0 _).put 1 _).cell 2
                     have q2 : ((w5.setCell ⟨wr.heap.size, 0, none⟩ (.int .i64 (rp true seq))).setCell ⟨wr.heap.size, 1, none⟩ (.int .i64 an)).frozen? ⟨wr.heap.size, 2, none⟩ = false := ((b5.put 0 _).put 1 _).free 2
                     have B5 := Lib.hid (((b5.put 0 (.int .i64 (rp true seq))).put 1 (.int .i64 an)).put 2 (.int .i64 rn))
                     have KF := Lib.hid (((k5'.setCell (p := ⟨wr.heap.size, 0, none⟩) (Nat.le_refl _) (.int .i64 (rp true seq))).setCell (p := ⟨wr.heap.size, 1, none⟩) (Nat.le_refl _) (.int .i64 an)).setCell (p := ⟨wr.heap.size, 2, none⟩) (Nat.le_refl _) (.int .i64 rn))
                     have FAR : Hid (∀ x y z : Value, ((((w5.setCell ⟨wr.heap.size, 0, none⟩ x).setCell ⟨wr.heap.size, 1, none⟩ y).setCell ⟨wr.heap.size, 2, none⟩ z).cell? ⟨ab, off + k * 3, none⟩ = some (.int .i64 j) ∧ (((w5.setCell ⟨wr.heap.size, 0, none⟩ x).setCell ⟨wr.heap.size, 1, none⟩ y).setCell ⟨wr.heap.size, 2, none⟩ z).cell? ⟨ab, off + k * 3 + 1, none⟩ = some (.int .i64 seq) ∧ (((w5.setCell ⟨wr.heap.size, 0, none⟩ x).setCell ⟨wr.heap.size, 1, none⟩ y).setCell ⟨wr.heap.size, 2, none⟩ z).cell? ⟨fx, j * 3, none⟩ = some (.int .i64 pp) ∧ (((w5.setCell ⟨wr.heap.size, 0, none⟩ x).setCell ⟨wr.heap.size, 1, none⟩ y).setCell ⟨wr.heap.size, 2, none⟩ z).cell? ⟨fx, j * 3 + 1, none⟩ = some (.int .i64 aj) ∧ (((w5.setCell ⟨wr.heap.size, 0, none⟩ x).setCell ⟨wr.heap.size, 1, none⟩ y).setCell ⟨wr.heap.size, 2, none⟩ z).cell? ⟨fx, j * 3 + 2, none⟩ = some (.int .i64 rj))) := Lib.hid (fun x y z =>
                       YR.out _ (((k5'.setCell (p := ⟨wr.heap.size, 0, none⟩) (Nat.le_refl _) x).setCell (p := ⟨wr.heap.size, 1, none⟩) (Nat.le_refl _) y).setCell (p := ⟨wr.heap.size, 2, none⟩) (Nat.le_refl _) z))
                     clear b5 k5 k5')))
              all_goals (rename_i hHeld; clear hHeld)
              all_goals go_wp2_with fail
              all_goals go_meet
              all_goals first
                | exact ⟨_, an, rn, rfl, rfl, Blk.made _ _ _, HAR.out, KF.out.size, KF.out.alloc KF.out.size _⟩
                | exact ⟨_, an, rn, rfl, rfl, B5.out, HAR.out, Nat.le_refl _, KF.out⟩
            case rest =>
              obtain ⟨gb, a', r', rfl, rfl, hgn, har, hgb, hkx⟩ := hcut
              have hne : gb ≠ fx := fun e => by obtain ⟨a, q, _, h8⟩ := HFW.out.flt; have := h8.lt; omega
              have FWc := Lib.hid (HFW.out.below hkx)
              have ROc := Lib.hid (HROW.out.kept (gb_below hkx none) (Classical.em _))
              have Kc := Lib.hid (KR.out.trans (hkx.mono KR.out.size))
              have HGN := Lib.hid hgn
              have HAR := Lib.hid har
              have HNE := Lib.hid hne
              have XS : Hid (∃ fx', w.heap.size ≤ fx' ∧ fx' = fx) := Lib.hid ⟨fx, FB.out, rfl⟩
              clear HFW HROW KR hkx hgn har hgb hne
              go_upto_region 16 with fail
              go_cut [] from 81 to 134 (fun wx => FW wx sx fx k (k + 1) { sel := m.sel, now := tim, p := fun i => if i = j then seq else m.p i, so := fun i => if i = j then true else m.so i } ∧ wx.ownsRow w.heap.size 4 1 u11 k (bV mo) ∧ Below w.heap.size w wx)
              case first =>
                obtain ⟨y0, _, _⟩ := YS.out wc Kc.out
                have u0 : wc.cell? ⟨gb, 0, none⟩ = some (.int .i64 (rp true seq)) := HGN.out.cell 0
                have u1 : wc.cell? ⟨gb, 1, none⟩ = some (.int .i64 a') := HGN.out.cell 1
                have u2 : wc.cell? ⟨gb, 2, none⟩ = some (.int .i64 r') := HGN.out.cell 2
                have FWd := Lib.hid (FWc.out.below (Below.refl _ _).drew)
                have ROd := Lib.hid (ROc.out.kept (gb_drew (World.grownBy.refl _ _)) (Classical.em _))
                have Kd := Lib.hid Kc.out.drew
                go_still_tail 8, (by kernel_rfl)
                change wpList _ _ _ _ _ wc.drew
                clear u0 u1 u2 y0 FWc ROc Kc HGN HNE HM1 HM2 HST HMO HML HMV HAD HALL
                generalize wc.drew = wd at *
                obtain ⟨a, r, h6, h8⟩ := FWd.out.flt
                obtain ⟨f0, f1, f2⟩ := six_at (fun i => .int .i64 (rp (m.so i) (m.p i))) (fun i => .int .i64 (a i)) (fun i => .int .i64 (r i)) h8 hj
                obtain ⟨e0, e1, e2, e3, e4⟩ := six_put (fun i => .int .i64 (rp (m.so i) (m.p i))) (fun i => .int .i64 (a i)) (fun i => .int .i64 (r i)) h8 hj (.int .i64 (rp true seq)) (.int .i64 a')
                try dsimp only at e1 e3 f0
                have H8' : Hid (∀ i, w.heap.size ≤ (⟨fx, i, none⟩ : Addr).block) := Lib.hid (fun i => by obtain ⟨_, h, rfl⟩ := XS.out; exact h)
                have KF := Lib.hid (((Kd.out.setCell (H8'.out (j * 3)) (.int .i64 (rp true seq))).setCell (H8'.out (j * 3 + 1)) (.int .i64 a')).setCell (H8'.out (j * 3 + 2)) (.int .i64 r'))
                have hw := own_ne ROd.out h8 (by decide)
                have RO5 := Lib.hid (ownsRow_setCell_other (ownsRow_setCell_other (ownsRow_setCell_other ROd.out (a := ⟨fx, j * 3, none⟩) hw (.int .i64 (rp true seq))) (a := ⟨fx, j * 3 + 1, none⟩) hw (.int .i64 a')) (a := ⟨fx, j * 3 + 2, none⟩) hw (.int .i64 r'))
                have FW5 := Lib.hid (FWd.out.took hj tim HSQ.out HAR.out.1 HAR.out.2.1 HAR.out.2.2)
                clear h8 h6 hw f1 f2 FWd ROd Kd
                go_wp2_with fail
                go_meet
                case rel => exact ⟨FW5.out, RO5.out, KF.out⟩
              case rest =>
                clear FWc ROc Kc HGN HAR HNE XS
                have FWc := Lib.hid hcut.1
                have ROc := Lib.hid hcut.2.1
                have Kc := Lib.hid hcut.2.2
                clear hcut
                go_upto_if 112 with fail
                go_cut [14] from 81 to 134 (fun v14 wx => v14 = .bool (mgStep m j seq tim).2 ∧ FW wx sx fx (k + 1) (k + 1) (mgStep m j seq tim).1 ∧ wx.ownsRow w.heap.size 4 1 u11 k (bV mo) ∧ Below w.heap.size w wx)
                case first =>
                  cases ad with
                  | false =>
                    go_wp2_with fail
                    go_meet
                    case rel =>
                      rw [HST.out, if_neg (by simp)]
                      exact ⟨rfl, FWc.out.more (by omega) (Nat.le_refl _), ROc.out, Kc.out⟩
                  | true =>
                    obtain ⟨r, A', c', hrel, hrok, hdl, hbx, hcnt⟩ := FWc.out.sel
                    obtain ⟨ro, ho2⟩ := hrel.off seq tim
                    have hrok2 := hrok.off seq tim
                    have hcnt2 := offR_cnt r seq tim
                    have HO : ∀ V : World, Below wc.heap.size wc V → Calls Try.prog 37 #[rV r A' c', .int .i64 seq, .int .i64 tim] V (OPost (offR r seq tim) V) := fun V hV => refOff_any r A' c' seq tim V (hdl.below hV (Nat.le_refl _)) hrok (by have := hrok.d0; omega) (by have := hrok.d0; omega)
                    try dsimp only at ro ho2
                    obtain ⟨o, hofr⟩ : ∃ o, offR r seq tim = o := ⟨_, rfl⟩
                    rw [hofr] at ro ho2 hrok2 hcnt2 HO
                    obtain ⟨o1, ob, oe⟩ := o
                    unfold rV at HO
                    obtain ⟨sv, hsv⟩ : ∃ sv, Value.slice A' r.L.length c' = sv := ⟨_, rfl⟩
                    rw [hsv] at HO hbx
                    obtain ⟨rsk, hrsk⟩ : ∃ x, r.skew = x := ⟨_, rfl⟩
                    obtain ⟨rnw, hrnw⟩ : ∃ x, r.now = x := ⟨_, rfl⟩
                    obtain ⟨rdp, hrdp⟩ : ∃ x, r.drp = x := ⟨_, rfl⟩
                    rw [hrsk, hrnw, hrdp] at HO hbx
                    have HOF := Lib.hid ho2
                    have RO := Lib.hid ro
                    have ROK := Lib.hid hrok2
                    have RCN : Hid ((o1.L.length : Int) + o1.drp ≤ ((k + 1 : Nat) : Int)) := Lib.hid (by dsimp only at hcnt2; omega)
                    have HOh := Lib.hid HO
                    have HBX := Lib.hid hbx
                    have SXL := Lib.hid hbx.lt
                    clear hrel ro ho2 hrok2 hcnt2 HO hrok hdl hcnt hsv hofr hrsk hrnw hrdp
                    go_upto_region 18 with fail
                    go_cut [15, 16] from 81 to 134 (fun v15 v16 wx => ∃ gn A2 c2, v15 = .pointer (some ⟨gn, 0, none⟩) ∧ v16 = .bool ob ∧ Blk wx gn 84 #[.int .i64 o1.skew, .int .i64 o1.now, .int .i64 o1.drp, .slice A2 o1.L.length c2] ∧ DelIn wx A2 c2 o1.L ∧ wc.heap.size ≤ gn ∧ Below wc.heap.size wc wx)
                    case first =>
                      have v0 : wc.cell? ⟨sx, 0, none⟩ = some (.int .i64 rsk) := HBX.out.cell 0
                      have v1 : wc.cell? ⟨sx, 1, none⟩ = some (.int .i64 rnw) := HBX.out.cell 1
                      have v2 : wc.cell? ⟨sx, 2, none⟩ = some (.int .i64 rdp) := HBX.out.cell 2
                      have v3 : wc.cell? ⟨sx, 3, none⟩ = some sv := HBX.out.cell 3
                      obtain ⟨_, y1, y2⟩ := YS.out wc Kc.out
                      have YR : Hid (∀ V : World, Below wc.heap.size wc V → (V.cell? ⟨ab, off + k * 3 + 1, none⟩ = some (.int .i64 seq) ∧ V.cell? ⟨ab, off + k * 3 + 2, none⟩ = some (.int .i64 tim) ∧ V.cell? ⟨sx, 0, none⟩ = some (.int .i64 rsk) ∧ V.cell? ⟨sx, 1, none⟩ = some (.int .i64 rnw) ∧ V.cell? ⟨sx, 2, none⟩ = some (.int .i64 rdp) ∧ V.cell? ⟨sx, 3, none⟩ = some sv)) := Lib.hid (fun V hV => by
                        obtain ⟨_, q1, q2⟩ := YS.out V (Kc.out.trans (hV.mono Kc.out.size))
                        exact ⟨q1, q2, (hV.cell (p := ⟨sx, 0, none⟩) SXL.out).trans v0, (hV.cell (p := ⟨sx, 1, none⟩) SXL.out).trans v1, (hV.cell (p := ⟨sx, 2, none⟩) SXL.out).trans v2, (hV.cell (p := ⟨sx, 3, none⟩) SXL.out).trans v3⟩)
                      clear HM1 HM2 HST HMO HML HSQ HMV HAD HALL hbx HBX RO ROK RCN HOF
                      have Y0 := Lib.hid (YR.out wc.drew (Below.refl _ _).drew)
                      have YA := Lib.hid (fun o : Obj => YR.out (wc.alloc o).drew ((Below.refl _ _).alloc (Nat.le_refl _) _).drew)
                      have YB := Lib.hid (fun o : Obj => YR.out (wc.drew.alloc o) ((Below.refl _ _).drew.alloc (Nat.le_refl _) _))
                      have HO1 := Lib.hid (HOh.out wc.drew (Below.refl _ wc).drew)
                      have HO2 := Lib.hid (HOh.out (wc.alloc (.cells #[.int .i64 0, .int .i64 0, .int .i64 0, .slice none 0 0] 84)).drew ((Below.refl _ wc).alloc (Nat.le_refl _) _).drew)
                      clear HOh
                      go_region_held3 (fun w' : World => (w'.cell? ⟨ab, off + k * 3 + 1, none⟩ = some (.int .i64 seq) ∧ w'.cell? ⟨ab, off + k * 3 + 2, none⟩ = some (.int .i64 tim) ∧ w'.cell? ⟨sx, 0, none⟩ = some (.int .i64 rsk) ∧ w'.cell? ⟨sx, 1, none⟩ = some (.int .i64 rnw) ∧ w'.cell? ⟨sx, 2, none⟩ = some (.int .i64 rdp) ∧ w'.cell? ⟨sx, 3, none⟩ = some sv))
                        (first | with_reducible exact FAR.out _ _ _ _ | with_reducible exact Z5.out | with_reducible exact ZA.out _ | with_reducible exact Y0.out | with_reducible exact YA.out _ | with_reducible exact YB.out _ | fail)
                        ((go_at_call 37
                          first
                          | (refine HO1.out.mono ?_; rintro e w5 ⟨⟨A2, c2, rfl, hd5⟩, k5⟩
                             have k5' : Below wc.heap.size wc w5 := (Below.refl _ wc).drew.trans k5
                             have Z5 := Lib.hid (YR.out w5 k5')
                             have ZA := Lib.hid (fun o : Obj => YR.out (w5.alloc o) (k5'.alloc k5'.size o))
                             obtain ⟨z0, z1, z2, z3, z4, z5⟩ := Z5.out
                             have KF := Lib.hid k5'
                             have HD5 := Lib.hid hd5
                             unfold rV
                             try dsimp only
                             obtain ⟨n5, hs5⟩ : ∃ n5, o1.L.length = n5 := ⟨_, rfl⟩
                             rw [hs5]
                             have HS5 := Lib.hid hs5
                             clear k5 k5' hd5 hs5)
                          | (refine HO2.out.mono ?_; rintro e w5 ⟨⟨A2, c2, rfl, hd5⟩, k5⟩
                             have k5' : Below wc.heap.size wc w5 := ((Below.refl _ wc).alloc (Nat.le_refl _) _).drew.trans (k5.mono (by simp))
                             have Z5 := Lib.hid (YR.out w5 k5')
                             have ZA := Lib.hid (fun o : Obj => YR.out (w5.alloc o) (k5'.alloc k5'.size o))
                             obtain ⟨z0, z1, z2, z3, z4, z5⟩ := Z5.out
                             unfold rV
                             try dsimp only
                             obtain ⟨n5, hs5⟩ : ∃ n5, o1.L.length = n5 := ⟨_, rfl⟩
                             rw [hs5]
                             have HS5 := Lib.hid hs5
                             have b5 : Blk w5 wc.heap.size 84 #[.int .i64 0, .int .i64 0, .int .i64 0, .slice none 0 0] := Blk.below (Blk.made wc 84 _).drew k5 (by simp)
                             have t0 : w5.cell? ⟨wc.heap.size, 0, none⟩ = some (.int .i64 0) := b5.cell 0
                             have q0 : w5.frozen? ⟨wc.heap.size, 0, none⟩ = false := b5.free 0
                             have t1 : (w5.setCell ⟨wc.heap.size, 0, none⟩ (.int .i64 o1.skew)).cell? ⟨wc.heap.size, 1, none⟩ = some (.int .i64 0) := (b5.put 0 _).cell 1
                             have q1 : (w5.setCell ⟨wc.heap.size, 0, none⟩ (.int .i64 o1.skew)).frozen? ⟨wc.heap.size, 1, none⟩ = false := (b5.put 0 _).free 1
                             have t2 : ((w5.setCell ⟨wc.heap.size, 0, none⟩ (.int .i64 o1.skew)).setCell ⟨wc.heap.size, 1, none⟩ (.int .i64 o1.now)).cell? ⟨wc.heap.size, 2, none⟩ = some (.int .i64 0) := ((b5.put 0 _).put 1 _).cell 2
                             have q2 : ((w5.setCell ⟨wc.heap.size, 0, none⟩ (.int .i64 o1.skew)).setCell ⟨wc.heap.size, 1, none⟩ (.int .i64 o1.now)).frozen? ⟨wc.heap.size, 2, none⟩ = false := ((b5.put 0 _).put 1 _).free 2
                             have t3 : (((w5.setCell ⟨wc.heap.size, 0, none⟩ (.int .i64 o1.skew)).setCell ⟨wc.heap.size, 1, none⟩ (.int .i64 o1.now)).setCell ⟨wc.heap.size, 2, none⟩ (.int .i64 o1.drp)).cell? ⟨wc.heap.size, 3, none⟩ = some (.slice none 0 0) := (((b5.put 0 _).put 1 _).put 2 _).cell 3
                             have q3 : (((w5.setCell ⟨wc.heap.size, 0, none⟩ (.int .i64 o1.skew)).setCell ⟨wc.heap.size, 1, none⟩ (.int .i64 o1.now)).setCell ⟨wc.heap.size, 2, none⟩ (.int .i64 o1.drp)).frozen? ⟨wc.heap.size, 3, none⟩ = false := (((b5.put 0 _).put 1 _).put 2 _).free 3
                             have B5 := Lib.hid ((((b5.put 0 (.int .i64 o1.skew)).put 1 (.int .i64 o1.now)).put 2 (.int .i64 o1.drp)).put 3 (.slice A2 n5 c2))
                             have HD5 := Lib.hid (hd5.put4 b5 (.int .i64 o1.skew) (.int .i64 o1.now) (.int .i64 o1.drp) (.slice A2 n5 c2))
                             have kk : ∀ x y z u : Value, Below wc.heap.size wc ((((w5.setCell ⟨wc.heap.size, 0, none⟩ x).setCell ⟨wc.heap.size, 1, none⟩ y).setCell ⟨wc.heap.size, 2, none⟩ z).setCell ⟨wc.heap.size, 3, none⟩ u) := fun x y z u => (((k5'.setCell (p := ⟨wc.heap.size, 0, none⟩) (Nat.le_refl _) x).setCell (p := ⟨wc.heap.size, 1, none⟩) (Nat.le_refl _) y).setCell (p := ⟨wc.heap.size, 2, none⟩) (Nat.le_refl _) z).setCell (p := ⟨wc.heap.size, 3, none⟩) (Nat.le_refl _) u
                             have KF := Lib.hid (kk (.int .i64 o1.skew) (.int .i64 o1.now) (.int .i64 o1.drp) (.slice A2 n5 c2))
                             have FAR : Hid (∀ x y z u : Value, (((((w5.setCell ⟨wc.heap.size, 0, none⟩ x).setCell ⟨wc.heap.size, 1, none⟩ y).setCell ⟨wc.heap.size, 2, none⟩ z).setCell ⟨wc.heap.size, 3, none⟩ u).cell? ⟨ab, off + k * 3 + 1, none⟩ = some (.int .i64 seq) ∧ ((((w5.setCell ⟨wc.heap.size, 0, none⟩ x).setCell ⟨wc.heap.size, 1, none⟩ y).setCell ⟨wc.heap.size, 2, none⟩ z).setCell ⟨wc.heap.size, 3, none⟩ u).cell? ⟨ab, off + k * 3 + 2, none⟩ = some (.int .i64 tim) ∧ ((((w5.setCell ⟨wc.heap.size, 0, none⟩ x).setCell ⟨wc.heap.size, 1, none⟩ y).setCell ⟨wc.heap.size, 2, none⟩ z).setCell ⟨wc.heap.size, 3, none⟩ u).cell? ⟨sx, 0, none⟩ = some (.int .i64 rsk) ∧ ((((w5.setCell ⟨wc.heap.size, 0, none⟩ x).setCell ⟨wc.heap.size, 1, none⟩ y).setCell ⟨wc.heap.size, 2, none⟩ z).setCell ⟨wc.heap.size, 3, none⟩ u).cell? ⟨sx, 1, none⟩ = some (.int .i64 rnw) ∧ ((((w5.setCell ⟨wc.heap.size, 0, none⟩ x).setCell ⟨wc.heap.size, 1, none⟩ y).setCell ⟨wc.heap.size, 2, none⟩ z).setCell ⟨wc.heap.size, 3, none⟩ u).cell? ⟨sx, 2, none⟩ = some (.int .i64 rdp) ∧ ((((w5.setCell ⟨wc.heap.size, 0, none⟩ x).setCell ⟨wc.heap.size, 1, none⟩ y).setCell ⟨wc.heap.size, 2, none⟩ z).setCell ⟨wc.heap.size, 3, none⟩ u).cell? ⟨sx, 3, none⟩ = some sv)) := Lib.hid (fun x y z u => YR.out _ (kk x y z u))
                             clear b5 k5 k5' hd5 hs5 kk)))
                      all_goals (rename_i hHeld; clear hHeld)
                      all_goals go_wp2_with fail
                      all_goals go_meet
                      all_goals first
                        | exact ⟨_, A2, c2, rfl, rfl, by rw [HS5.out]; exact Blk.made _ _ _, HD5.out.below ((Below.refl _ _).alloc (Nat.le_refl _) _) (Nat.le_refl _), KF.out.size, KF.out.alloc KF.out.size _⟩
                        | exact ⟨_, A2, c2, rfl, rfl, by rw [HS5.out]; exact B5.out, HD5.out, Nat.le_refl _, KF.out⟩
                    case rest =>
                      obtain ⟨gn, A2, c2, rfl, rfl, hgn, hdl, hgl, hkx⟩ := hcut
                      rename World => wd
                      have hgs : gn ≠ sx := by have := SXL.out; omega
                      have hbd : Blk wd sx 84 #[.int .i64 rsk, .int .i64 rnw, .int .i64 rdp, sv] := HBX.out.below hkx SXL.out
                      obtain ⟨n2, hs2⟩ : ∃ n2, o1.L.length = n2 := ⟨_, rfl⟩
                      have hfo := fun kk1 kk2 (h : FW wd sx fx kk1 kk2 _) => FW.offered (m := { sel := m.sel, now := tim, p := fun i => if i = j then seq else m.p i, so := fun i => if i = j then true else m.so i }) h RO.out ROK.out hdl RCN.out
                      have hf2 := hfo _ _ (FWc.out.below hkx)
                      try dsimp only at hf2
                      rw [hs2] at hgn hf2
                      have HF2 := Lib.hid hf2
                      have u0 : wd.cell? ⟨gn, 0, none⟩ = some (.int .i64 o1.skew) := hgn.cell 0
                      have u1 : wd.cell? ⟨gn, 1, none⟩ = some (.int .i64 o1.now) := hgn.cell 1
                      have u2 : wd.cell? ⟨gn, 2, none⟩ = some (.int .i64 o1.drp) := hgn.cell 2
                      have u3 : wd.cell? ⟨gn, 3, none⟩ = some (.slice A2 n2 c2) := hgn.cell 3
                      have t0 : wd.cell? ⟨sx, 0, none⟩ = some (.int .i64 rsk) := hbd.cell 0
                      have q0 : wd.frozen? ⟨sx, 0, none⟩ = false := hbd.free 0
                      have t1 : (wd.setCell ⟨sx, 0, none⟩ (.int .i64 o1.skew)).cell? ⟨sx, 1, none⟩ = some (.int .i64 rnw) := (hbd.put 0 _).cell 1
                      have q1 : (wd.setCell ⟨sx, 0, none⟩ (.int .i64 o1.skew)).frozen? ⟨sx, 1, none⟩ = false := (hbd.put 0 _).free 1
                      have t2 : ((wd.setCell ⟨sx, 0, none⟩ (.int .i64 o1.skew)).setCell ⟨sx, 1, none⟩ (.int .i64 o1.now)).cell? ⟨sx, 2, none⟩ = some (.int .i64 rdp) := ((hbd.put 0 _).put 1 _).cell 2
                      have q2 : ((wd.setCell ⟨sx, 0, none⟩ (.int .i64 o1.skew)).setCell ⟨sx, 1, none⟩ (.int .i64 o1.now)).frozen? ⟨sx, 2, none⟩ = false := ((hbd.put 0 _).put 1 _).free 2
                      have t3 : (((wd.setCell ⟨sx, 0, none⟩ (.int .i64 o1.skew)).setCell ⟨sx, 1, none⟩ (.int .i64 o1.now)).setCell ⟨sx, 2, none⟩ (.int .i64 o1.drp)).cell? ⟨sx, 3, none⟩ = some sv := (((hbd.put 0 _).put 1 _).put 2 _).cell 3
                      have q3 : (((wd.setCell ⟨sx, 0, none⟩ (.int .i64 o1.skew)).setCell ⟨sx, 1, none⟩ (.int .i64 o1.now)).setCell ⟨sx, 2, none⟩ (.int .i64 o1.drp)).frozen? ⟨sx, 3, none⟩ = false := (((hbd.put 0 _).put 1 _).put 2 _).free 3
                      have SXB : Hid (w.heap.size ≤ sx) := XB
                      have Kd := Lib.hid ((((((Kc.out.trans (hkx.mono Kc.out.size)).setCell (p := ⟨sx, 0, none⟩) SXB.out (.int .i64 o1.skew)).setCell (p := ⟨sx, 1, none⟩) SXB.out (.int .i64 o1.now)).setCell (p := ⟨sx, 2, none⟩) SXB.out (.int .i64 o1.drp)).setCell (p := ⟨sx, 3, none⟩) SXB.out (.slice A2 n2 c2)))
                      have rod := ROc.out.kept (gb_below hkx none) (Classical.em _)
                      have hw := own_ne rod hbd (by decide)
                      have ROd := Lib.hid (ownsRow_setCell_other (ownsRow_setCell_other (ownsRow_setCell_other (ownsRow_setCell_other rod (a := ⟨sx, 0, none⟩) hw (.int .i64 o1.skew)) (a := ⟨sx, 1, none⟩) hw (.int .i64 o1.now)) (a := ⟨sx, 2, none⟩) hw (.int .i64 o1.drp)) (a := ⟨sx, 3, none⟩) hw (.slice A2 n2 c2))
                      clear hfo hf2 hgn hbd rod hw hkx hdl hbx HBX HOh
                      go_wp2_with fail
                      go_meet
                      case rel =>
                        have e := HST.out
                        simp only [if_true] at e
                        rw [e]
                        refine ⟨?_, HF2.out, ROd.out, Kd.out⟩
                        show Value.bool ob = .bool (offer m.sel seq tim).2.1
                        rw [HOF.out]
                case rest =>
                  obtain ⟨rfl, hfw, hro, hkk⟩ := hcut
                  clear FWc ROc Kc
                  obtain ⟨ms, hms⟩ : ∃ ms, mgStep m j seq tim = ms := ⟨_, rfl⟩
                  rw [hms] at hfw HM1 HM2
                  rw [hms]
                  have FWd := Lib.hid hfw
                  have ROd := Lib.hid hro
                  have Kd := Lib.hid hkk
                  clear hms hfw hro hkk HST
                  obtain ⟨m1, b1⟩ := ms
                  go_wp2_with (at_builtin; refine wpList_append_own _ rfl _ _ 33 rfl w.heap.size 4 i0 (.bool false) 1 1 Try.underlying33 hi'.out hz0'.out hz1'.out hz2'.out rfl (by decide) _ _ _ rfl (ROd.out.alloc _) ⟨wc.heap.size, 0, none⟩ 1 1 [.bool b1] rfl rfl (new_one _ _ _) (one_bool _) (by unfold maxLen; omega) (by omega) (by have := Kd.out.size; simp; omega) ?_; intro v' w7 hrow2 hg2 _)
                  have kB2 : Below w.heap.size w w7 := (Kd.out.alloc Kd.out.size _).grown hg2 (by have := Kd.out.size; simp; omega) (fun i e => (ROd.out.lt i e).1)
                  have hm7 := (FWd.out.below ((Below.refl _ _).alloc (Nat.le_refl _) (.cells #[.bool b1] 4))).own hg2 (ROd.out.alloc _)
                  go_roundw
                  case rel => exact ⟨k + 1, by omega, by go_num, by rw [HM2.out, bV_app]; exact hrow2, by rw [HM1.out]; exact hm7, kB2⟩
                  case measure => simp [intOf]; omega
          · obtain rfl : n = k := by omega
            obtain ⟨A1, c1, rfl, hbs⟩ := own_bools (mout_len n) HROW.out
            have HB := Lib.hid hbs
            clear hbs
            go_wp2_with fail
            go_ret2
            rw [hR.out]
            exact ⟨⟨A1, c1, by rw [mout_len]; rfl, HB.out⟩, KR.out⟩
end Go.Proofs.Ytllabfbebidjiaa
