/-
  Contracts of the document's own selector (nacelleref21): New, recent. No condition but that the skew is one and the time is none before 0.
-/
import Derived.Test.YtllabfbebidjiaaS7
namespace Go.Proofs.Ytllabfbebidjiaa
open Go.RowKit
/-- the document's selector -/
structure RS where
  skew : Int
  now : Int
  drp : Int
  L : List (Int × Int)
def hit (skew q t : Int) (d : Int × Int) : Bool := decide (d.1 = q) && (decide (t - skew ≤ d.2) && decide (d.2 ≤ t))
def RS.rcnt (r : RS) (q t : Int) : Bool := r.L.any (hit r.skew q t)
def dV (L : List (Int × Int)) : List Value := L.flatMap fun d => [.int .i64 d.1, .int .i64 d.2]
theorem dV_len (L : List (Int × Int)) : (dV L).length = L.length * 2 := by
  induction L with
  | nil => rfl
  | cons d L ih => simp [dV] at ih ⊢; omega
theorem dV_app (L M : List (Int × Int)) : dV (L ++ M) = dV L ++ dV M := by simp [dV]
theorem dV_at : ∀ {L : List (Int × Int)} {k : Nat} {d : Int × Int}, L[k]? = some d → (dV L)[k * 2]? = some (.int .i64 d.1) ∧ (dV L)[k * 2 + 1]? = some (.int .i64 d.2)
  | [], _, _, h => by simp at h
  | e :: L, 0, d, h => by simp at h; subst h; exact ⟨rfl, rfl⟩
  | e :: L, k + 1, d, h => by
    have := dV_at (L := L) (k := k) (by simpa using h)
    have e1 : dV (e :: L) = [.int .i64 e.1, .int .i64 e.2] ++ dV L := rfl
    rw [e1, show (k + 1) * 2 = k * 2 + 2 by omega, show k * 2 + 2 + 1 = k * 2 + 1 + 2 by omega]
    exact this
/-- a slice of deliveries -/
def DelIn (w : World) (A : Option Addr) (c : Nat) (L : List (Int × Int)) : Prop :=
  (L = [] ∧ A = none ∧ c = 0) ∨ (∃ g, A = some ⟨g, 0, none⟩ ∧ g < w.heap.size ∧ (∀ j u, (dV L)[j]? = some u → w.cell? ⟨g, j, none⟩ = some u) ∧ ∃ cs, Blk w g 104 cs)
theorem DelIn.below {w w' : World} {A : Option Addr} {c B : Nat} {L : List (Int × Int)} (h : DelIn w A c L) (hb : Below B w w') (hB : w.heap.size ≤ B) : DelIn w' A c L := by
  rcases h with h | ⟨g, hA, hlt, hc, cs, hbk⟩
  · exact .inl h
  · exact .inr ⟨g, hA, Nat.lt_of_lt_of_le hlt hb.size, fun j u hj => (hb.cell (p := ⟨g, j, none⟩) (Nat.lt_of_lt_of_le hlt hB)).trans (hc j u hj), cs, hbk.below hb (Nat.lt_of_lt_of_le hlt hB)⟩
/-- a store into a block of another type leaves the deliveries alone -/
theorem DelIn.put {w : World} {A : Option Addr} {c g' i : Nat} {t : TypeId} {cs' : Array Value} {L : List (Int × Int)} (h : DelIn w A c L) (hb : Blk w g' t cs') (ht : t ≠ 104) (u : Value) : DelIn (w.setCell ⟨g', i, none⟩ u) A c L := by
  rcases h with h | ⟨g, hA, hlt, hc, cs, hbk⟩
  · exact .inl h
  · have hne : g ≠ g' := fun e => by
      subst e
      unfold Blk at hb hbk
      rw [hb] at hbk
      injection hbk with hbk
      injection hbk with _ ht'
      exact ht ht'
    have hb2 : Blk (w.setCell ⟨g', i, none⟩ u) g 104 cs := hbk.far (p := ⟨g', i, none⟩) hne u
    exact .inr ⟨g, hA, hb2.lt, fun j v hj => by rw [hb2.cell j, ← hbk.cell j]; exact hc j v hj, cs, hb2⟩
/-- the document's selector as a value -/
def rV (r : RS) (A : Option Addr) (c : Nat) : Value := .agg #[.int .i64 r.skew, .int .i64 r.now, .int .i64 r.drp, .slice A r.L.length c]
set_option maxRecDepth 100000 in
set_option maxHeartbeats 2000000 in
theorem refRec_any (A : Option Addr) (c : Nat) (skew now drp q t : Int) (L : List (Int × Int)) (w : World) (hL : DelIn w A c L) (h0 : 0 ≤ skew) (h1 : skew ≤ 1073741824) (t0 : 0 ≤ t) (t1 : t ≤ 1073741824) (hlen : L.length ≤ 1000000) :
    Calls Try.prog 46 #[.agg #[.int .i64 skew, .int .i64 now, .int .i64 drp, .slice A L.length c], .int .i64 q, .int .i64 t] w fun e w' => e = .returned (.bool (L.any (hit skew q t))) ∧ Below w.heap.size w w' := by
  have HD := Lib.hid hL
  obtain ⟨len, hl⟩ : ∃ len, L.length = len := ⟨_, rfl⟩
  have HL := Lib.hid hl
  rw [hl] at hlen ⊢
  clear hL hl
  go_enter Try.func46, Try.ntmps46
  go_wp2_with fail
  obtain ⟨W, hW⟩ : ∃ W, w.alloc (.cells #[.int .i64 skew, .int .i64 now, .int .i64 drp, .slice A len c] 84) = W := ⟨_, rfl⟩
  try rw [hW]
  have b1 : Blk W w.heap.size 84 #[.int .i64 skew, .int .i64 now, .int .i64 drp, .slice A len c] := by rw [← hW]; exact Blk.made _ _ _
  have kW : Below w.heap.size w W := by rw [← hW]; exact (Below.refl _ _).alloc (Nat.le_refl _) _
  have B1 := Lib.hid b1
  have KW := Lib.hid kW
  clear hW b1 kW
  go_loopw [7] (fun i wr => ∃ k : Nat, k ≤ len ∧ i = .int .i64 k ∧ (∀ j d, j < k → L[j]? = some d → hit skew q t d = false) ∧ Blk wr w.heap.size 84 #[.int .i64 skew, .int .i64 now, .int .i64 drp, .slice A len c] ∧ Below w.heap.size w wr)
    (fun i _ => len - (intOf i).toNat)
  case atStart => exact ⟨0, Nat.zero_le _, rfl, fun j d hj => by omega, B1.out, KW.out⟩
  case round =>
    obtain ⟨k, hk, rfl, hno, hb, kr⟩ := hrel
    have HNO := Lib.hid hno
    have HB := Lib.hid hb
    have KR := Lib.hid kr
    have v0 : wr.cell? ⟨w.heap.size, 0, none⟩ = some (.int .i64 skew) := hb.cell 0
    have v3 : wr.cell? ⟨w.heap.size, 3, none⟩ = some (.slice A len c) := hb.cell 3
    clear hno hb kr
    by_cases hlt : k < len
    · rcases HD.out with ⟨he, _, _⟩ | ⟨g, rfl, hg, hc, _⟩
      · exfalso
        have := HL.out
        rw [he] at this
        simp at this
        omega
      obtain ⟨d, hd⟩ : ∃ d, L[k]? = some d := ⟨L[k]'(by rw [HL.out]; exact hlt), List.getElem?_eq_getElem (by rw [HL.out]; exact hlt)⟩
      obtain ⟨c0, c1⟩ := dV_at hd
      have y0 := (KR.out.cell (p := ⟨g, k * 2, none⟩) hg).trans (hc _ _ c0)
      have y1 := (KR.out.cell (p := ⟨g, k * 2 + 1, none⟩) hg).trans (hc _ _ c1)
      have HDk := Lib.hid hd
      clear hc c0 c1 hd
      obtain ⟨dq, dt⟩ := d
      dsimp only at y0 y1
      have g0 : decide (len ≤ k) = false := decide_eq_false (by omega)
      have g1 : decide ((k : Int) < 0) = false := decide_eq_false (by omega)
      have g2 : (k : Int) < len := by omega
      have HM : Hid (∀ b, hit skew q t (dq, dt) = b → b = true → L.any (hit skew q t) = true) := Lib.hid (fun b h1 h2 => List.any_eq_true.2 ⟨(dq, dt), List.mem_of_getElem? HDk.out, h1.trans h2⟩)
      have HN : Hid (hit skew q t (dq, dt) = false → ∀ j d, j < k + 1 → L[j]? = some d → hit skew q t d = false) := Lib.hid (fun h j d hj hjd => by
        by_cases e : j = k
        · rw [e, HDk.out] at hjd; cases hjd; exact h
        · exact HNO.out j d (by omega) hjd)
      by_cases e1 : dq = q
      · subst e1
        by_cases e2 : t - skew ≤ dt
        · by_cases e3 : dt ≤ t
          · have HT : Hid (L.any (hit skew dq t) = true) := Lib.hid (HM.out true (by simp [hit, e2, e3]) rfl)
            go_wp2_with (go_quiet (fail))
            go_ret
            exact ⟨by rw [HT.out]; rfl, belowN KR.out⟩
          · have HF := Lib.hid (HN.out (by simp [hit, e3]))
            go_wp2_with (go_quiet (fail))
            go_roundw
            case rel => exact ⟨k + 1, by omega, by go_num, HF.out, HB.out, belowN KR.out⟩
            case measure => simp [intOf]; omega
        · have HF := Lib.hid (HN.out (by simp [hit, e2]))
          go_wp2_with (go_quiet (fail))
          go_roundw
          case rel => exact ⟨k + 1, by omega, by go_num, HF.out, HB.out, belowN KR.out⟩
          case measure => simp [intOf]; omega
      · have HF := Lib.hid (HN.out (by simp [hit, e1]))
        have e2 : (dq == q) = false := by simpa using e1
        go_wp2_with (go_quiet (fail))
        go_roundw
        case rel => exact ⟨k + 1, by omega, by go_num, HF.out, HB.out, belowN KR.out⟩
        case measure => simp [intOf]; omega
    · obtain rfl : k = len := by omega
      have HF : Hid (L.any (hit skew q t) = false) := Lib.hid (by
        rw [List.any_eq_false]
        intro d hd
        obtain ⟨j, hj⟩ := List.getElem?_of_mem hd
        have hjl : j < L.length := (List.getElem?_eq_some_iff.1 hj).1
        rw [HNO.out j d (by rw [HL.out] at hjl; exact hjl) hj]
        simp)
      go_wp2_with fail
      go_ret
      exact ⟨by rw [HF.out]; rfl, KR.out⟩
def okSkew (k : Int) : Bool := decide (0 ≤ k) && decide (k ≤ 1073741824)
set_option maxHeartbeats 1000000 in
theorem refNew21_any (k : Int) (w : World) :
    Calls Try.prog 36 #[.int .i64 k] w fun e w' => e = .returned (.tuple #[.agg #[.int .i64 k, .int .i64 0, .int .i64 0, .slice none 0 0], .bool (okSkew k)]) ∧ Below w.heap.size w w' := by
  by_cases h0 : 0 ≤ k
  · by_cases h1 : k ≤ 1073741824
    · have hb : Hid (okSkew k = true) := Lib.hid (by simp [okSkew, h0, h1])
      go_enter Try.func36, Try.ntmps36
      go_wp2
      exact bodyPost_ret (v := .tuple #[.agg #[.int .i64 k, .int .i64 0, .int .i64 0, .slice none 0 0], .bool true]) (by simp [results, Try.results36, go_sem]) rfl ⟨by rw [hb.out], (Below.refl _ _).alloc (Nat.le_refl _) _⟩
    · have hb : Hid (okSkew k = false) := Lib.hid (by simp [okSkew, h1])
      go_enter Try.func36, Try.ntmps36
      go_wp2
      exact bodyPost_ret (v := .tuple #[.agg #[.int .i64 k, .int .i64 0, .int .i64 0, .slice none 0 0], .bool false]) (by simp [results, Try.results36, go_sem]) rfl ⟨by rw [hb.out], (Below.refl _ _).alloc (Nat.le_refl _) _⟩
  · have hb : Hid (okSkew k = false) := Lib.hid (by simp [okSkew, h0])
    go_enter Try.func36, Try.ntmps36
    go_wp2
    exact bodyPost_ret (v := .tuple #[.agg #[.int .i64 k, .int .i64 0, .int .i64 0, .slice none 0 0], .bool false]) (by simp [results, Try.results36, go_sem]) rfl ⟨by rw [hb.out], (Below.refl _ _).alloc (Nat.le_refl _) _⟩
end Go.Proofs.Ytllabfbebidjiaa
