/-
  The law RedundancyShift: the plain law (Sh: one selector is the other, delayed, two numbers exchanged), and the walk, which answers true. Conditions: the calls lie as given, the unsigned numbers are in their range.
-/
import Derived.Test.YtllabfbebidjiaaCa
namespace Go.Proofs.Ytllabfbebidjiaa
open Go.RowKit
/-- a number with a and b exchanged -/
def sw (a b q : Int) : Int := if q = a then b else if q = b then a else q
/-- u is s, delayed by 'by', a and b exchanged -/
structure Sh (a b y : Int) (s u : St) : Prop where
  skew : u.skew = s.skew
  now : (s.now = 0 ∧ u.now = 0) ∨ u.now = s.now + y
  nxt : ∀ i : Nat, i < 256 → (s.nxt i = 0 ∧ u.nxt (sw a b i).toNat = 0) ∨ u.nxt (sw a b i).toNat = s.nxt i + y
theorem Sh.new (a b y k : Int) : Sh a b y (.new k) (.new k) := ⟨rfl, .inl ⟨rfl, rfl⟩, fun _ _ => .inl ⟨rfl, rfl⟩⟩
theorem sw_range {a b q : Int} (a0 : 0 ≤ a) (a1 : a ≤ 255) (b0 : 0 ≤ b) (b1 : b ≤ 255) : isN (sw a b q) = isN q := by
  unfold sw
  split
  · rename_i h; subst h; rw [isN_mk b0 b1, isN_mk a0 a1]
  split
  · rename_i h; subst h; rw [isN_mk b0 b1, isN_mk a0 a1]
  · rfl
theorem sw_inj {a b p q : Int} (h : sw a b p = sw a b q) : p = q := by
  unfold sw at h
  split at h <;> split at h <;> (try split at h) <;> (try split at h) <;> omega
theorem sw_bd {a b q : Int} (a0 : 0 ≤ a) (a1 : a ≤ 255) (b0 : 0 ≤ b) (b1 : b ≤ 255) (q0 : 0 ≤ q) (q1 : q ≤ 255) : 0 ≤ sw a b q ∧ sw a b q ≤ 255 := by
  unfold sw
  split
  · omega
  split <;> omega
theorem Sh.off {a b y : Int} {s u : St} (h : Sh a b y s u) (a0 : 0 ≤ a) (a1 : a ≤ 255) (b0 : 0 ≤ b) (b1 : b ≤ 255) (y0 : 0 ≤ y) (y1 : y ≤ 65535) (q t : Int) (t0 : 0 ≤ t) (t1 : t ≤ 536870912) :
    Sh a b y (offer s q t).1 (offer u (sw a b q) (t + y)).1 ∧ (offer s q t).2 = (offer u (sw a b q) (t + y)).2 := by
  have hok : okq u (sw a b q) (t + y) = okq s q t := by
    unfold okq
    rw [sw_range a0 a1 b0 b1]
    congr 1
    rw [Bool.eq_iff_iff]
    simp only [mvs, Bool.and_eq_true, decide_eq_true_eq]
    rcases h.now with ⟨h1, h2⟩ | h1 <;> omega
  unfold offer
  rw [hok]
  cases hk : okq s q t with
  | false => exact ⟨h, rfl⟩
  | true =>
    rw [if_pos rfl, if_pos rfl]
    obtain ⟨q0, q1⟩ := isN_true (by simp only [okq, Bool.and_eq_true] at hk; exact hk.1)
    have hqn : ((q.toNat : Nat) : Int) = q := by omega
    have hq : q.toNat < 256 := by omega
    have hn := h.nxt q.toNat hq
    rw [hqn] at hn
    have hlt : t + y < u.nxt (sw a b q).toNat ↔ t < s.nxt q.toNat := by
      rcases hn with ⟨h1, h2⟩ | h1 <;> omega
    by_cases hl : t < s.nxt q.toNat
    · rw [if_pos hl, if_pos (hlt.2 hl)]
      exact ⟨⟨h.skew, .inr rfl, h.nxt⟩, rfl⟩
    · rw [if_neg hl, if_neg (fun e => hl (hlt.1 e))]
      refine ⟨⟨h.skew, .inr rfl, fun i hi => ?_⟩, rfl⟩
      show ((if i = q.toNat then t + s.skew + 1 else s.nxt i) = 0 ∧ (if (sw a b i).toNat = (sw a b q).toNat then t + y + u.skew + 1 else u.nxt (sw a b i).toNat) = 0) ∨ (if (sw a b i).toNat = (sw a b q).toNat then t + y + u.skew + 1 else u.nxt (sw a b i).toNat) = (if i = q.toNat then t + s.skew + 1 else s.nxt i) + y
      by_cases e : i = q.toNat
      · subst e
        rw [hqn, if_pos rfl, if_pos rfl, h.skew]
        right
        omega
      · have e2 : ¬ (sw a b i).toNat = (sw a b q).toNat := fun h2 => by
          have r1 := sw_bd (q := (i : Int)) a0 a1 b0 b1 (by omega) (by omega)
          have r2 := sw_bd (q := q) a0 a1 b0 b1 q0 q1
          have := sw_inj (a := a) (b := b) (p := (i : Int)) (q := q) (by omega)
          omega
        rw [if_neg e, if_neg e2]
        exact h.nxt i hi
set_option maxRecDepth 100000 in
set_option maxHeartbeats 4000000 in
theorem lawShift (skew : Int) (A : Option Addr) (n c : Nat) (N Q T : Nat → Int) (y a b : Int) (w : World) (hA : ArrIn w A n N Q T) (y0 : 0 ≤ y) (y1 : y ≤ 65535) (a0 : 0 ≤ a) (a1 : a ≤ 255) (b0 : 0 ≤ b) (b1 : b ≤ 255) :
    Calls Try.prog 6 #[.int .i64 skew, .slice A n c, .int .u16 y, .int .u8 a, .int .u8 b] w fun e w' => e = .returned (.bool true) ∧ Below w.heap.size w w' := by
  have HA := Lib.hid hA
  clear hA
  by_cases hn : 300 < n
  · go_enter Try.func6, Try.ntmps6
    go_wp2_with fail
    refine (awake_any w).mono ?_
    rintro e w1 ⟨rfl, k1⟩
    go_wp2_with fail
    go_ret
    exact ⟨rfl, k1⟩
  by_cases hs : 0 ≤ skew ∧ skew ≤ 1073741824
  rotate_left
  · go_enter Try.func6, Try.ntmps6
    go_wp2_with fail
    refine (awake_any w).mono ?_
    rintro e w1 ⟨rfl, k1⟩
    go_wp2_with fail
    refine (selNew_bad skew w1 (by omega)).mono ?_
    rintro e w2 ⟨rfl, rfl⟩
    go_wp2_with fail
    refine (selNew_bad skew w1 (by omega)).mono ?_
    rintro e w2 ⟨rfl, rfl⟩
    go_wp2_with fail
    go_ret
    exact ⟨rfl, k1⟩
  obtain ⟨s0, s1⟩ := hs
  go_enter Try.func6, Try.ntmps6
  go_wp2_with fail
  refine (awake_any w).mono ?_
  rintro e w1 ⟨rfl, k1⟩
  go_wp2_with fail
  refine (selNew_ok skew w1 s0 s1).mono ?_
  rintro e w2 ⟨sb, rfl, hsb, k2, hs2⟩
  go_wp2_with fail
  refine (selNew_ok skew w2 s0 s1).mono ?_
  rintro e w3 ⟨ub, rfl, hub, k3, hu3⟩
  have k12 := k1.trans (k2.mono k1.size)
  have K3 := Lib.hid (k12.trans (k3.mono k12.size))
  have HS := Lib.hid (hs2.kept k3)
  have HU := Lib.hid hu3
  have NE : Hid (sb ≠ ub) := Lib.hid (by have := hs2.lt; omega)
  have SB : Hid (w.heap.size ≤ sb) := Lib.hid (Nat.le_trans k1.size hsb)
  have UB : Hid (w.heap.size ≤ ub) := Lib.hid (Nat.le_trans k12.size hub)
  clear k1 k2 k3 k12 hs2 hu3 hsb hub
  go_wp2_with fail
  go_loopw [41] (fun i wr => ∃ (k : Nat) (s u : St), k ≤ n ∧ i = .int .i64 k ∧ SelW wr sb s ∧ SelW wr ub u ∧ Sh a b y s u ∧ s.Ok ∧ u.Ok ∧ s.del + s.drp ≤ k ∧ u.del + u.drp ≤ k ∧ Below w.heap.size w wr)
    (fun i _ => n - (intOf i).toNat)
  case atStart => exact ⟨0, .new skew, .new skew, Nat.zero_le _, rfl, HS.out, HU.out, Sh.new _ _ _ _, St.Ok.new s0 s1, St.Ok.new s0 s1, by simp [St.new], by simp [St.new], K3.out⟩
  case round =>
    obtain ⟨k, s, u, hk, rfl, hs, hu, hsh, hso, huo, hsc, huc, kr⟩ := hrel
    by_cases hlt : k < n
    · obtain ⟨lb, off, rfl, hb, hc⟩ := HA.out.2 (by omega)
      obtain ⟨c0, c1, c2⟩ := hc k hlt
      have v0 := (kr.cell (p := ⟨lb, off + k * 3, none⟩) hb).trans c0
      have v1 := (kr.cell (p := ⟨lb, off + k * 3 + 1, none⟩) hb).trans c1
      have v2 := (kr.cell (p := ⟨lb, off + k * 3 + 2, none⟩) hb).trans c2
      clear hc c0 c1 c2
      obtain ⟨q, hq⟩ : ∃ q, N k = q := ⟨_, rfl⟩
      obtain ⟨t, ht⟩ : ∃ t, Q k = t := ⟨_, rfl⟩
      obtain ⟨g, hg⟩ : ∃ g, T k = g := ⟨_, rfl⟩
      rw [hq] at v0
      rw [ht] at v1
      rw [hg] at v2
      clear hq ht hg
      have KR := Lib.hid kr
      have HS1 := Lib.hid hs
      have HU1 := Lib.hid hu
      have HSH := Lib.hid hsh
      have HSO := Lib.hid hso
      have HUO := Lib.hid huo
      have HSC := Lib.hid hsc
      have HUC := Lib.hid huc
      have g1 : decide (n ≤ k) = false := decide_eq_false (by omega)
      have g2 : decide ((k : Int) < 0) = false := decide_eq_false (by omega)
      have g3 : (k : Int) < n := by omega
      obtain ⟨v, hv⟩ : ∃ v, sw a b q = v := ⟨_, rfl⟩
      have HV := Lib.hid hv
      clear hs hu hsh hso huo hsc huc kr
      obtain ⟨W1, hW1⟩ : ∃ W1, wr.alloc (.cells #[.int .i64 q, .int .i64 t, .int .i64 g] 44) = W1 := ⟨_, rfl⟩
      have x1 : Blk W1 wr.heap.size 44 #[.int .i64 q, .int .i64 t, .int .i64 g] := by rw [← hW1]; exact Blk.made _ _ _
      have S1 := Lib.hid (show SelW W1 sb s by rw [← hW1]; exact HS1.out.alloc _)
      have U1 := Lib.hid (show SelW W1 ub u by rw [← hW1]; exact HU1.out.alloc _)
      have K1 := Lib.hid (show Below w.heap.size w W1 by rw [← hW1]; exact KR.out.alloc KR.out.size _)
      have X1 := Lib.hid x1
      have HW1 := Lib.hid hW1
      clear hW1 x1
      by_cases htt : 0 ≤ t ∧ t ≤ 536870912
      · obtain ⟨t0, t1⟩ := htt
        have t0' : ¬ t < 0 := by omega
        have t1' : ¬ 536870912 < t := by omega
        have hoff := HSH.out.off a0 a1 b0 b1 y0 y1 q t t0 t1
        rw [hv] at hoff
        have hO1 := HSO.out.offer q t
        have hO2 := HUO.out.offer v (t + y)
        have hC1 := offer_cnt s q t
        have hC2 := offer_cnt u v (t + y)
        have hs0 := HSO.out.d0
        have hs1 := HSO.out.r0
        have hu0 := HUO.out.d0
        have hu1 := HUO.out.r0
        have hsc := HSC.out
        have huc := HUC.out
        have HF1 := Lib.hid (fun (V : World) (h : SelW V sb s) => offer_any sb s q t V h HSO.out (by omega) (by omega))
        have HF2 := Lib.hid (fun (V : World) (h : SelW V ub u) => offer_any ub u v (t + y) V h HUO.out (by omega) (by omega))
        obtain ⟨os, hos⟩ : ∃ os, offer s q t = os := ⟨_, rfl⟩
        obtain ⟨ou, hou⟩ : ∃ ou, offer u v (t + y) = ou := ⟨_, rfl⟩
        rw [hos, hou] at hoff
        rw [hos] at hO1 hC1 HF1
        rw [hou] at hO2 hC2 HF2
        obtain ⟨s', r⟩ := os
        obtain ⟨u', r'⟩ := ou
        obtain ⟨hsh', hr⟩ := hoff
        dsimp only at hr hsh' hO1 hO2 hC1 hC2
        subst hr
        obtain ⟨ob, oe⟩ := r
        have HREL := Lib.hid (And.intro hsh' (And.intro hO1 (And.intro hO2 (And.intro (show s'.del + s'.drp ≤ (k + 1 : Nat) by omega) (show u'.del + u'.drp ≤ (k + 1 : Nat) by omega)))))
        clear hos hou hsh' hO1 hO2 hC1 hC2 hs0 hs1 hu0 hu1 hsc huc
        have z0 : W1.cell? ⟨wr.heap.size, 0, none⟩ = some (.int .i64 q) := X1.out.cell 0
        have z1 : W1.cell? ⟨wr.heap.size, 1, none⟩ = some (.int .i64 t) := X1.out.cell 1
        by_cases ea : q = a
        · subst ea
          have hvb : v = b := by rw [← hv]; unfold sw; rw [if_pos rfl]
          subst hvb
          clear hv
          go_wp2_with fail
          rw [HW1.out]
          refine (HF1.out W1 S1.out).mono ?_
          rintro e w5 ⟨rfl, hs5, hg5⟩
          have x5 := X1.out.grown hg5 (fun e => by obtain ⟨cs, h, _⟩ := S1.out; exact X1.out.ne_ h (by decide) (by injection e))
          have z5 : w5.cell? ⟨wr.heap.size, 1, none⟩ = some (.int .i64 t) := x5.cell 1
          have U5 := Lib.hid (U1.out.grown hg5 (fun e => NE.out (by injection e with e; exact e.symm)))
          have S5 := Lib.hid hs5
          have K5 := Lib.hid (offer_below K1.out hg5 SB.out)
          clear x5 hs5 hg5
          go_wp2_with fail
          refine (HF2.out w5 U5.out).mono ?_
          rintro e w6 ⟨rfl, hu6, hg6⟩
          have S6 := Lib.hid (S5.out.grown hg6 (fun e => NE.out (by injection e)))
          have U6 := Lib.hid hu6
          have K6 := Lib.hid (offer_below K5.out hg6 UB.out)
          clear hu6 hg6
          go_wp2_with fail
          go_roundw
          case rel => exact ⟨k + 1, s', u', by omega, by go_num, S6.out, U6.out, HREL.out.1, HREL.out.2.1, HREL.out.2.2.1, HREL.out.2.2.2.1, HREL.out.2.2.2.2, K6.out⟩
          case measure => simp [intOf]; omega
        · have ea' : (q == a) = false := by simpa using ea
          by_cases eb : q = b
          · subst eb
            have hvb : v = a := by rw [← hv]; unfold sw; rw [if_neg ea, if_pos rfl]
            subst hvb
            clear hv
            go_wp2_with fail
            rw [HW1.out]
            refine (HF1.out W1 S1.out).mono ?_
            rintro e w5 ⟨rfl, hs5, hg5⟩
            have x5 := X1.out.grown hg5 (fun e => by obtain ⟨cs, h, _⟩ := S1.out; exact X1.out.ne_ h (by decide) (by injection e))
            have z5 : w5.cell? ⟨wr.heap.size, 1, none⟩ = some (.int .i64 t) := x5.cell 1
            have U5 := Lib.hid (U1.out.grown hg5 (fun e => NE.out (by injection e with e; exact e.symm)))
            have S5 := Lib.hid hs5
            have K5 := Lib.hid (offer_below K1.out hg5 SB.out)
            clear x5 hs5 hg5
            go_wp2_with fail
            refine (HF2.out w5 U5.out).mono ?_
            rintro e w6 ⟨rfl, hu6, hg6⟩
            have S6 := Lib.hid (S5.out.grown hg6 (fun e => NE.out (by injection e)))
            have U6 := Lib.hid hu6
            have K6 := Lib.hid (offer_below K5.out hg6 UB.out)
            clear hu6 hg6
            go_wp2_with fail
            go_roundw
            case rel => exact ⟨k + 1, s', u', by omega, by go_num, S6.out, U6.out, HREL.out.1, HREL.out.2.1, HREL.out.2.2.1, HREL.out.2.2.2.1, HREL.out.2.2.2.2, K6.out⟩
            case measure => simp [intOf]; omega
          · have eb' : (q == b) = false := by simpa using eb
            have hvb : v = q := by rw [← hv]; unfold sw; rw [if_neg ea, if_neg eb]
            subst hvb
            clear hv
            go_wp2_with fail
            rw [HW1.out]
            refine (HF1.out W1 S1.out).mono ?_
            rintro e w5 ⟨rfl, hs5, hg5⟩
            have x5 := X1.out.grown hg5 (fun e => by obtain ⟨cs, h, _⟩ := S1.out; exact X1.out.ne_ h (by decide) (by injection e))
            have z5 : w5.cell? ⟨wr.heap.size, 1, none⟩ = some (.int .i64 t) := x5.cell 1
            have U5 := Lib.hid (U1.out.grown hg5 (fun e => NE.out (by injection e with e; exact e.symm)))
            have S5 := Lib.hid hs5
            have K5 := Lib.hid (offer_below K1.out hg5 SB.out)
            clear x5 hs5 hg5
            go_wp2_with fail
            refine (HF2.out w5 U5.out).mono ?_
            rintro e w6 ⟨rfl, hu6, hg6⟩
            have S6 := Lib.hid (S5.out.grown hg6 (fun e => NE.out (by injection e)))
            have U6 := Lib.hid hu6
            have K6 := Lib.hid (offer_below K5.out hg6 UB.out)
            clear hu6 hg6
            go_wp2_with fail
            go_roundw
            case rel => exact ⟨k + 1, s', u', by omega, by go_num, S6.out, U6.out, HREL.out.1, HREL.out.2.1, HREL.out.2.2.1, HREL.out.2.2.2.1, HREL.out.2.2.2.2, K6.out⟩
            case measure => simp [intOf]; omega
      · by_cases tn : t < 0
        · clear htt
          by_cases ea : q = a
          · subst ea
            have hvb : v = b := by rw [← hv]; unfold sw; rw [if_pos rfl]
            subst hvb
            clear hv
            go_wp2_with fail
            rw [HW1.out]
            go_roundw
            case rel => exact ⟨k + 1, s, u, by omega, by go_num, S1.out, U1.out, HSH.out, HSO.out, HUO.out, by have := HSC.out; omega, by have := HUC.out; omega, K1.out⟩
            case measure => simp [intOf]; omega
          · have ea' : (q == a) = false := by simpa using ea
            by_cases eb : q = b
            · subst eb
              have hvb : v = a := by rw [← hv]; unfold sw; rw [if_neg ea, if_pos rfl]
              subst hvb
              clear hv
              go_wp2_with fail
              rw [HW1.out]
              go_roundw
              case rel => exact ⟨k + 1, s, u, by omega, by go_num, S1.out, U1.out, HSH.out, HSO.out, HUO.out, by have := HSC.out; omega, by have := HUC.out; omega, K1.out⟩
              case measure => simp [intOf]; omega
            · have eb' : (q == b) = false := by simpa using eb
              have hvb : v = q := by rw [← hv]; unfold sw; rw [if_neg ea, if_neg eb]
              subst hvb
              clear hv
              go_wp2_with fail
              rw [HW1.out]
              go_roundw
              case rel => exact ⟨k + 1, s, u, by omega, by go_num, S1.out, U1.out, HSH.out, HSO.out, HUO.out, by have := HSC.out; omega, by have := HUC.out; omega, K1.out⟩
              case measure => simp [intOf]; omega
        · have tm : 536870912 < t := by omega
          clear htt
          by_cases ea : q = a
          · subst ea
            have hvb : v = b := by rw [← hv]; unfold sw; rw [if_pos rfl]
            subst hvb
            clear hv
            go_wp2_with fail
            rw [HW1.out]
            go_roundw
            case rel => exact ⟨k + 1, s, u, by omega, by go_num, S1.out, U1.out, HSH.out, HSO.out, HUO.out, by have := HSC.out; omega, by have := HUC.out; omega, K1.out⟩
            case measure => simp [intOf]; omega
          · have ea' : (q == a) = false := by simpa using ea
            by_cases eb : q = b
            · subst eb
              have hvb : v = a := by rw [← hv]; unfold sw; rw [if_neg ea, if_pos rfl]
              subst hvb
              clear hv
              go_wp2_with fail
              rw [HW1.out]
              go_roundw
              case rel => exact ⟨k + 1, s, u, by omega, by go_num, S1.out, U1.out, HSH.out, HSO.out, HUO.out, by have := HSC.out; omega, by have := HUC.out; omega, K1.out⟩
              case measure => simp [intOf]; omega
            · have eb' : (q == b) = false := by simpa using eb
              have hvb : v = q := by rw [← hv]; unfold sw; rw [if_neg ea, if_neg eb]
              subst hvb
              clear hv
              go_wp2_with fail
              rw [HW1.out]
              go_roundw
              case rel => exact ⟨k + 1, s, u, by omega, by go_num, S1.out, U1.out, HSH.out, HSO.out, HUO.out, by have := HSC.out; omega, by have := HUC.out; omega, K1.out⟩
              case measure => simp [intOf]; omega
    · obtain rfl : k = n := by omega
      have KR := Lib.hid kr
      clear hs hu hsh hso huo hsc huc kr
      go_wp2_with fail
      go_ret
      exact ⟨rfl, KR.out⟩
end Go.Proofs.Ytllabfbebidjiaa
