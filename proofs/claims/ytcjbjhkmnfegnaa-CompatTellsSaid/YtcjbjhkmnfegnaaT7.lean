/-
  The contract of the document's own Order (nacelleref39). Conditions: the sets are a change, a number below 256 that holds changed units only.
-/
import Derived.Test.YtcjbjhkmnfegnaaT5
import Derived.Test.YtcjbjhkmnfegnaaO1
import Derived.Laws.AppendOwnNone
namespace Go.Proofs.Ytcjbjhkmnfegnaa
open Go.RowKit Go.Shelf
/-! ### plain law -/
section
variable {m n : Nat} {Rw : Nat → R} {S T : Nat → U}
theorem ord_len : ∀ (f : Nat) (p q : List Nat) (b : Nat), ord m Rw n S T f p b = some q → q.length ≤ p.length + f
  | 0, p, q, b, h => by
    rw [ord] at h
    split at h
    · injection h with h; subst h; exact Nat.le_refl _
    · cases h
  | f + 1, p, q, b, h => by
    rw [ord] at h
    split at h
    · injection h with h; subst h; omega
    · cases hx : nxt m Rw n S T b with
      | none => rw [hx] at h; cases h
      | some k =>
        rw [hx] at h
        have := ord_len f _ _ _ h
        rw [List.length_append] at this
        simp only [List.length_cons, List.length_nil] at this
        omega
theorem rO_len {b : Nat} {q : List Nat} (h : rO m Rw n S T b = some q) : q.length ≤ 256 := by
  unfold rO at h
  split at h
  · have := ord_len 256 [] q b h
    simpa using this
  · cases h
theorem rO_bad {b : Nat} (h : cmp m Rw (mx S T b) n = false) : rO m Rw n S T b = none := by
  unfold rO
  rw [h]
  rfl
theorem fst_more {b k j : Nat} {q : List Nat} (h : fst m Rw n S T b k = some q) : k ≤ j → fst m Rw n S T b j = some q := by
  induction j with
  | zero => intro hk; obtain rfl : k = 0 := by omega
            exact h
  | succ j ih =>
    intro hk
    by_cases e : k = j + 1
    · subst e; exact h
    · rw [fst, ih (by omega)]
theorem fst_no {b k : Nat} (h : fst m Rw n S T b k = none) (hc : (!b.testBit k && df S T k) = false) : fst m Rw n S T b (k + 1) = none := by
  rw [fst, h, hc]
  rfl
theorem fst_yes {b k : Nat} (h : fst m Rw n S T b k = none) (hc : (!b.testBit k && df S T k) = true) : fst m Rw n S T b (k + 1) = (rO m Rw n S T (up b k)).map (k :: ·) := by
  rw [fst, h, hc]
  rfl
theorem lft_no {b k : Nat} (hc : (!b.testBit k && df S T k) = false) : lft S T b (k + 1) = lft S T b k := by
  rw [lft, hc]
  rfl
theorem lft_yes {b k : Nat} (hc : (!b.testBit k && df S T k) = true) : lft S T b (k + 1) = lft S T b k + 1 := by
  rw [lft, hc]
  rfl
theorem lft_le (S T : Nat → U) (b : Nat) : ∀ k, lft S T b k ≤ k
  | 0 => Nat.le_refl _
  | k + 1 => by
    have := lft_le S T b k
    rw [lft]
    split <;> omega
/-- a road of the loop is the document's answer -/
theorem rO_road (hn : n ≤ 8) {b k : Nat} {q : List Nat} (hb : b < 256) (hs : Sub S T n b) (hc : cmp m Rw (mx S T b) n = true) (hk : k ≤ n) (h : fst m Rw n S T b k = some q) : rO m Rw n S T b = some q := by
  have h1 := fst_more h hk
  rw [rO_fst hn hb hc, h1]
  intro e
  rw [fst_goal ((lft_goal hs).2 e) (Nat.le_refl _)] at h1
  cases h1
/-- no road of the loop -/
theorem rO_left (hn : n ≤ 8) {b : Nat} (hb : b < 256) (hs : Sub S T n b) (hc : cmp m Rw (mx S T b) n = true) (h : fst m Rw n S T b n = none) : rO m Rw n S T b = if lft S T b n = 0 then some [] else none := by
  by_cases h0 : lft S T b n = 0
  · have e := (lft_goal hs).1 h0
    rw [if_pos h0, e]
    exact rO_goal (by rw [← e]; exact hc)
  · rw [if_neg h0, rO_fst hn hb hc (fun e => h0 ((lft_goal hs).2 e)), h]
end
/-! ### a road in memory -/
def QIn (w : World) (v : Value) (q : List Nat) : Prop :=
  (q = [] ∧ v = .slice none 0 0) ∨ (∃ g c, v = .slice (some ⟨g, 0, none⟩) q.length c ∧ g < w.heap.size ∧ ∀ j u, (nV q)[j]? = some u → w.cell? ⟨g, j, none⟩ = some u)
theorem nV_len (q : List Nat) : (nV q).length = q.length := by simp [nV]
theorem nV_one (q : List Nat) : ∀ u ∈ nV q, u.oneCell' = true := by
  intro u hu
  simp only [nV, List.mem_map] at hu
  obtain ⟨x, _, rfl⟩ := hu
  rfl
theorem QIn.nums {w : World} {v : Value} {q : List Nat} (h : QIn w v q) : ∃ A c, v = .slice A q.length c ∧ NumsIn w A q := by
  rcases h with ⟨rfl, rfl⟩ | ⟨g, c, rfl, hg, hc⟩
  · exact ⟨none, 0, rfl, fun h => absurd h (by simp)⟩
  · exact ⟨_, c, rfl, fun _ => ⟨g, rfl, hg, fun k hk => hc k _ (by simp [nV, hk])⟩⟩
theorem own_road {w : World} {base n : Nat} {v : Value} {q : List Nat} (hn : n = q.length) (h : w.ownsRow base 3 1 v n (nV q)) : QIn w v q := by
  subst hn
  rcases h.2 with ⟨rfl, h0⟩ | ⟨g, cap, cur, rfl, _, hh, _⟩
  · exact .inl ⟨List.eq_nil_of_length_eq_zero h0, rfl⟩
  · refine .inr ⟨g, cap, rfl, lt_of_block hh, fun j u hj => ?_⟩
    have h1 := h.cells (g := g) rfl j u hj
    rwa [add_eq, Nat.zero_add] at h1
/-- a road and yes, or nothing and no -/
def RoadPost (r : Option (List Nat)) (w : World) (e : Ending) (w' : World) : Prop :=
  Below w.heap.size w w' ∧ ((r = none ∧ e = .returned (.tuple #[.slice none 0 0, .bool false])) ∨ (∃ q v, r = some q ∧ e = .returned (.tuple #[v, .bool true]) ∧ QIn w' v q))
set_option maxRecDepth 100000 in
set_option maxHeartbeats 2000000 in
theorem rorder_all (A1 A2 A3 : Option Addr) (n c1 c2 m c3 : Nat) (S T : Nat → U) (Rw : Nat → R) (h8 : n ≤ 8) (hM : ∀ k, k < n → (S k).1 = (T k).1) (d : Nat) : ∀ b, b < 256 → 256 - b ≤ d → Sub S T n b → ∀ w : World, UnitsIn w A1 n S → UnitsIn w A2 n T → RowsIn w A3 m Rw →
    Calls Try.prog 25 #[.slice A3 m c3, .slice A1 n c1, .slice A2 n c2, .int .i64 b] w (RoadPost (rO m Rw n S T b) w) := by
  induction d with
  | zero => intro b hb hd; exact absurd hd (by omega)
  | succ d ih =>
  intro b hb hbd hsub w hS hT hR
  obtain ⟨i0, hi, hz0, hz1, hz2⟩ := info_parts Try.info3'
  have hi' := Lib.hid hi
  have hz0' := Lib.hid hz0
  have hz1' := Lib.hid hz1
  have hz2' := Lib.hid hz2
  have HS := Lib.hid hS
  have HT := Lib.hid hT
  have HR := Lib.hid hR
  have HM := Lib.hid hM
  have IH := Lib.hid ih
  have HSUB := Lib.hid hsub
  have HBD := Lib.hid hbd
  clear hS hT hR hM ih hi hz0 hz1 hz2 hsub hbd
  have H24 := Lib.hid (rmixed_any A1 A2 n c1 c2 b S T w HS.out HT.out h8 hb)
  cases hcm : cmp m Rw (mx S T b) n with
  | false =>
    have HCM := Lib.hid hcm
    rw [rO_bad hcm]
    clear hcm
    go_enter Try.func25, Try.ntmps25
    go_wp2_with fail
    refine H24.out.mono ?_
    rintro e w1 ⟨⟨A, c, rfl, hu, _⟩, k1⟩
    have H21 := Lib.hid (rcompat_any A3 A m c3 n c Rw (mx S T b) w1 (HR.out.below k1 (Nat.le_refl _)) hu)
    have K1 := Lib.hid k1
    clear k1 hu
    rw [HCM.out] at H21
    go_wp2_with fail
    refine H21.out.mono ?_
    rintro e w2 ⟨rfl, k2⟩
    have K2 := Lib.hid (K1.out.trans (k2.mono K1.out.size))
    clear k2
    go_wp2_with fail
    go_ret2
    exact ⟨K2.out, .inl ⟨rfl, rfl⟩⟩
  | true =>
    have HCM := Lib.hid hcm
    have HRD := Lib.hid (fun k q (hk : k ≤ n) h => rO_road (Rw := Rw) (m := m) (S := S) (T := T) (k := k) (q := q) h8 hb HSUB.out hcm hk h)
    have HLT := Lib.hid (rO_left (Rw := Rw) (m := m) (S := S) (T := T) h8 hb HSUB.out hcm)
    clear hcm
    obtain ⟨ro, hro⟩ : ∃ ro, rO m Rw n S T b = ro := ⟨_, rfl⟩
    rw [hro] at HRD HLT
    rw [hro]
    clear hro
    go_enter Try.func25, Try.ntmps25
    go_wp2_with fail
    refine H24.out.mono ?_
    rintro e w1 ⟨⟨A, c, rfl, hu, _⟩, k1⟩
    have H21 := Lib.hid (rcompat_any A3 A m c3 n c Rw (mx S T b) w1 (HR.out.below k1 (Nat.le_refl _)) hu)
    have K1 := Lib.hid k1
    clear k1 hu
    rw [HCM.out] at H21
    go_wp2_with fail
    refine H21.out.mono ?_
    rintro e w2 ⟨rfl, k2⟩
    have K2 := Lib.hid (K1.out.trans (k2.mono K1.out.size))
    clear k2
    go_wp2_with fail
    go_loopw [10, 11, 12] (fun lv pv iv wr => ∃ k : Nat, k ≤ n ∧ iv = .int .i64 k ∧ pv = .int .i64 ((2 ^ k : Nat)) ∧ lv = .int .i64 ((lft S T b k : Nat)) ∧ Hid (fst m Rw n S T b k = none) ∧ Below w.heap.size w wr)
      (fun _ _ i _ => n - (intOf i).toNat)
    case atStart => exact ⟨0, Nat.zero_le _, rfl, rfl, rfl, Lib.hid rfl, K2.out⟩
    case round =>
      obtain ⟨k, hk, rfl, rfl, rfl, hv, kr⟩ := hrel
      have HV := hv
      have KR := Lib.hid kr
      clear hv kr
      have hl8 := lft_le S T b k
      by_cases hlt : k < n
      · obtain ⟨ob, off, rfl, hob, hcell⟩ := HS.out.2 (by omega)
        obtain ⟨c0, c1'⟩ := hcell k hlt
        clear hcell
        obtain ⟨ob2, off2, rfl, hob2, hcell⟩ := HT.out.2 (by omega)
        obtain ⟨d0, d1⟩ := hcell k hlt
        clear hcell
        rw [← HM.out k hlt] at d0
        have y0 := (KR.out.cell (p := ⟨ob, off + k * 2, none⟩) hob).trans c0
        have y1 := (KR.out.cell (p := ⟨ob, off + k * 2 + 1, none⟩) hob).trans c1'
        have z0 := (KR.out.cell (p := ⟨ob2, off2 + k * 2, none⟩) hob2).trans d0
        have z1 := (KR.out.cell (p := ⟨ob2, off2 + k * 2 + 1, none⟩) hob2).trans d1
        have hhb := half_bit b k
        have HDF : Hid (df S T k = !((S k).2 == (T k).2)) := Lib.hid (by unfold df; rw [HM.out k hlt]; simp)
        have HLN := Lib.hid (fun h => lft_no (S := S) (T := T) (b := b) (k := k) h)
        have HLY := Lib.hid (fun h => lft_yes (S := S) (T := T) (b := b) (k := k) h)
        have HFN := Lib.hid (fun h => fst_no (m := m) (Rw := Rw) (n := n) (S := S) (T := T) (b := b) (k := k) HV.out h)
        have HFY := Lib.hid (fun h => fst_yes (m := m) (Rw := Rw) (n := n) (S := S) (T := T) (b := b) (k := k) HV.out h)
        have HAB := Lib.hid (fun h => add_bit (b := b) (k := k) hb (show k < 8 by omega) h)
        have HUP := Lib.hid (up_lt (b := b) (k := k) hb (show k < 8 by omega))
        have HSU := Lib.hid (fun h => HSUB.out.up (k := k) hlt h)
        have hp1 : 2 ^ k ≤ 128 := Nat.le_trans (Nat.pow_le_pow_right (by decide) (show k ≤ 7 by omega)) (by decide)
        have hp0 : 0 < 2 ^ k := Nat.pow_pos (by decide)
        have HPN : Hid (2 ^ (k + 1) = 2 * 2 ^ k) := Lib.hid (by rw [Nat.pow_succ, Nat.mul_comm])
        obtain ⟨l, hl⟩ : ∃ l, lft S T b k = l := ⟨_, rfl⟩
        rw [hl] at HLN HLY hl8
        rw [hl]
        obtain ⟨p, hp⟩ : ∃ p, 2 ^ k = p := ⟨_, rfl⟩
        rw [hp] at hhb hp1 hp0 HPN HAB
        rw [hp]
        clear hp hl c0 c1' d0 d1
        have hpz : ¬ (p : Int) = 0 := by omega
        have hpn : ¬ p = 0 := by omega
        have hq8 : b / p < 256 := Nat.lt_of_le_of_lt (Nat.div_le_self _ _) hb
        have hd0 : (0 : Int) ≤ (b : Int) / p := Int.ediv_nonneg (by omega) (by omega)
        have hd1 : (b : Int) / p ≤ b := Int.ediv_le_self _ (by omega)
        have hwq : IntKind.i64.wrap ((b : Int) / p) = (b : Int) / p := IntWalk.i64_in _ (by omega)
        have hqt : ((b : Int) / p).tmod 2 = ((b : Int) / p) % 2 := Int.tmod_eq_emod_of_nonneg hd0
        generalize (S k).1 = sn at *
        generalize (S k).2 = sv at *
        generalize (T k).2 = tv at *
        have g1 : decide (n ≤ k) = false := decide_eq_false (by omega)
        have g2 : decide ((k : Int) < 0) = false := decide_eq_false (by omega)
        have g3 : (k : Int) < n := by omega
        cases ht : b.testBit k with
        | true =>
          rw [ht] at hhb
          have hq1 : (b / p) % 2 = 1 := by simpa using hhb
          have hq2 : ((b : Int) / p) % 2 = 1 := by omega
          have hq4 : ((b : Int) / p).tmod 2 = 1 := by rw [hqt]; exact hq2
          clear hqt
          have HNO : Hid ((!b.testBit k && df S T k) = false) := Lib.hid (by rw [ht]; rfl)
          clear hhb
          go_wp2_with (go_quiet (fail))
          go_roundw
          case rel => exact ⟨k + 1, by omega, by go_num, by rw [HPN.out]; first | rfl | (push_cast; rfl) | go_num, by rw [HLN.out HNO.out], Lib.hid (HFN.out HNO.out), belowN KR.out⟩
          case measure => simp [intOf]; omega
        | false =>
          rw [ht] at hhb
          have hq1 : (b / p) % 2 = 0 := by simpa using hhb
          have hq2 : ((b : Int) / p) % 2 = 0 := by omega
          have hq4 : ((b : Int) / p).tmod 2 = 0 := by rw [hqt]; exact hq2
          clear hqt
          clear hhb
          by_cases hd : sv = tv
          · have hd2 : (sv == tv) = true := by simp [hd]
            have HNO : Hid ((!b.testBit k && df S T k) = false) := Lib.hid (by rw [ht, HDF.out, hd2]; rfl)
            subst hd
            go_wp2_with (go_quiet (fail))
            go_roundw
            case rel => exact ⟨k + 1, by omega, by go_num, by rw [HPN.out]; first | rfl | (push_cast; rfl) | go_num, by rw [HLN.out HNO.out], Lib.hid (HFN.out HNO.out), belowN KR.out⟩
            case measure => simp [intOf]; omega
          · have hd2 : (sv == tv) = false := by simpa using hd
            have HYES : Hid ((!b.testBit k && df S T k) = true) := Lib.hid (by rw [ht, HDF.out, hd2]; rfl)
            have HSUP := Lib.hid (HSU.out (by rw [HDF.out, hd2]; rfl))
            have HF1 := Lib.hid (HFY.out HYES.out)
            have HL1 := Lib.hid (HLY.out HYES.out)
            have HI := Lib.hid (fun (V : World) (hV : Below w.heap.size w V) => by
              have hab := (HAB.out ht).1
              have h := IH.out (up b k) HUP.out (by have := HBD.out; omega) HSUP.out V (HS.out.below hV (Nat.le_refl _)) (HT.out.below hV (Nat.le_refl _)) (HR.out.below hV (Nat.le_refl _))
              rw [← hab] at h
              rw [show ((b + p : Nat) : Int) = (b : Int) + p from by omega] at h
              rw [hab] at h
              exact h)
            have HLEN := Lib.hid (fun q h => rO_len (m := m) (Rw := Rw) (n := n) (S := S) (T := T) (b := up b k) (q := q) h)
            obtain ⟨rb, hrb⟩ : ∃ rb, rO m Rw n S T (up b k) = rb := ⟨_, rfl⟩
            rw [hrb] at HI HF1 HLEN
            clear hrb
            have hws : IntKind.i64.wrap ((b : Int) + p) = (b : Int) + p := IntWalk.i64_in _ (by omega)
            go_wp2_with (go_quiet (fail))
            refine (HI.out _ (belowN KR.out)).mono ?_
            rintro e w4 ⟨k4, h4⟩
            have KX := Lib.hid (KR.out.trans (Below.mono (show Below wr.heap.size wr w4 from ⟨k4.os, k4.tape, k4.output, k4.size, k4.block⟩) KR.out.size))
            clear k4
            rcases h4 with ⟨rfl, rfl⟩ | ⟨q, v, rfl, rfl, hq⟩
            · go_wp2_with fail
              go_roundw
              case rel => exact ⟨k + 1, by omega, by go_num, by rw [HPN.out]; first | rfl | (push_cast; rfl) | go_num, by rw [HL1.out]; first | rfl | (push_cast; rfl) | go_num, Lib.hid HF1.out, KX.out⟩
              case measure => simp [intOf]; omega
            · have HRX := Lib.hid (HRD.out (k + 1) (k :: q) (by omega) HF1.out)
              have hql := HLEN.out q rfl
              have e0 : (w4.alloc (.cells #[.int .i64 (k : Int)] 3)).ownsRow w.heap.size 3 1 (.slice (some ⟨w4.heap.size, 0, none⟩) 1 1) 1 [.int .i64 (k : Int)] := World.ownsRow_lit w4 #[.int .i64 (k : Int)] 1 KX.out.size (by unfold maxLen; omega) rfl
              have E0 := Lib.hid e0
              have kxs := KX.out.size
              clear e0
              rcases hq with ⟨hq0, hv⟩ | ⟨g, c5, hv, hg, hc⟩
              · have HSV := Lib.hid hv
                have HQ0 := Lib.hid hq0
                clear hv hq0
                go_wp2_with (at_builtin; refine wpList_append_own_none rfl _ _ 25 rfl w.heap.size 3 i0 1 Try.underlying25 hi'.out _ _ _ rfl E0.out HSV.out ?_)
                go_ret2
                exact ⟨KX.out.alloc KX.out.size _, .inr ⟨k :: q, _, HRX.out, rfl, by rw [HQ0.out]; exact own_road (q := [k]) rfl E0.out⟩⟩
              · obtain ⟨len, hlen⟩ : ∃ len, q.length = len := ⟨_, rfl⟩
                have HLN2 := Lib.hid hlen
                rw [hlen] at hv hql
                have HSV := Lib.hid hv
                have HD := Lib.hid (show ∀ j u, (nV q)[j]? = some u → (w4.alloc (.cells #[.int .i64 (k : Int)] 3)).cell? ((⟨g, 0, none⟩ : Addr).add j) = some u from fun j u hj => by
                  rw [add_eq, Nat.zero_add]
                  exact cell_alloc' (hc j u hj) _)
                clear hv hlen hg hc
                go_wp2_with (at_builtin; refine wpList_append_own _ rfl _ _ 25 rfl w.heap.size 3 i0 (.int .i64 0) 1 8 Try.underlying25 hi'.out hz0'.out hz1'.out hz2'.out rfl (by decide) _ 1 [.int .i64 (k : Int)] rfl E0.out ⟨g, 0, none⟩ len c5 (nV q) HSV.out (by rw [nV_len, HLN2.out]; simp) HD.out (nV_one q) (by unfold maxLen; omega) (by omega) (by simp; omega) ?_; intro v6 w6 r6 g6 _)
                have R6 := Lib.hid r6
                have K6 := Lib.hid ((KX.out.alloc KX.out.size _).grown g6 (by simp; omega) (fun j e => (E0.out.lt j e).1))
                clear r6 g6
                go_ret2
                exact ⟨K6.out, .inr ⟨k :: q, _, HRX.out, rfl, own_road (q := k :: q) (by rw [List.length_cons, HLN2.out, Nat.add_comm]) R6.out⟩⟩
      · have hkn : n = k := by omega
        subst hkn
        have gnn : decide ((n : Int) < n) = false := decide_eq_false (by omega)
        have HRO := Lib.hid (HLT.out HV.out)
        obtain ⟨l, hl⟩ : ∃ l, lft S T b n = l := ⟨_, rfl⟩
        rw [hl] at HRO hl8
        rw [hl]
        clear hl
        by_cases h0 : l = 0
        · have hl0 : ((l : Int) == 0) = true := by simp [h0]
          have HRX : Hid (ro = some []) := Lib.hid (by rw [HRO.out, if_pos h0])
          clear h0
          go_wp2_with fail
          go_ret2
          exact ⟨KR.out, .inr ⟨[], _, HRX.out, rfl, .inl ⟨rfl, rfl⟩⟩⟩
        · have hl0 : ((l : Int) == 0) = false := by simpa using h0
          have HRX : Hid (ro = none) := Lib.hid (by rw [HRO.out, if_neg h0])
          clear h0
          go_wp2_with fail
          go_ret2
          exact ⟨KR.out, .inl ⟨HRX.out, rfl⟩⟩
/-- from the old set on: what Order itself answers -/
theorem rorder_any (A1 A2 A3 : Option Addr) (n c1 c2 m c3 : Nat) (S T : Nat → U) (Rw : Nat → R) (h8 : n ≤ 8) (hM : ∀ k, k < n → (S k).1 = (T k).1) (w : World) (hS : UnitsIn w A1 n S) (hT : UnitsIn w A2 n T) (hR : RowsIn w A3 m Rw) :
    Calls Try.prog 25 #[.slice A3 m c3, .slice A1 n c1, .slice A2 n c2, .int .i64 0] w (RoadPost (OrdR m Rw n S T) w) := by
  rw [← rO_zero]
  exact rorder_all A1 A2 A3 n c1 c2 m c3 S T Rw h8 hM 256 0 (by omega) (by omega) Sub.zero w hS hT hR
end Go.Proofs.Ytcjbjhkmnfegnaa
