/-
  The law RedundancyApart: the plain law (Ap: the maps of the law hold what the selector holds), and the walk, which answers true. Conditions: the calls lie as given.
-/
import Derived.Test.YtllabfbebidjiaaLawR
import Derived.Maps.OwnOps
import Derived.Maps.OwnSet
import Derived.Maps.Views
import Derived.WideMake
import Derived.WalkArith
namespace Go.Proofs.Ytllabfbebidjiaa
open Go.RowKit Go.Maps
abbrev kq (i : Int) : Lit := .int .i64 i
theorem kq_ne {i j : Int} (h : i ≠ j) : kq i ≠ kq j := fun e => h (by injection e)
abbrev zl : DataW Unit := .lit (.int .i64 0)
abbrev nl (c : Int) : DataW Unit := .lit (.int .i64 c)
/-- the counts M and the times L tell what the selector holds -/
structure Ap (s : St) (M L : DataW Unit) (k : Nat) : Prop where
  row : ∀ i : Nat, i < 256 → ∃ c l, M.atKey (kq i) zl = nl c ∧ L.atKey (kq i) zl = nl l ∧ 0 ≤ c ∧ c ≤ k ∧ ((c = 0 ∧ s.nxt i = 0) ∨ (0 < c ∧ s.nxt i = l + s.skew + 1 ∧ 0 ≤ l ∧ l ≤ 1073741824))
theorem Ap.start (k : Int) : Ap (.new k) (.map []) (.map []) 0 := ⟨fun i _ => ⟨0, 0, rfl, rfl, by omega, by omega, .inl ⟨rfl, rfl⟩⟩⟩
theorem Ap.more {s s' : St} {M L : DataW Unit} {k : Nat} (h : Ap s M L k) (hn : s'.nxt = s.nxt) (hs : s'.skew = s.skew) : Ap s' M L (k + 1) := ⟨fun i hi => by
  obtain ⟨c, l, h1, h2, h3, h4, h5⟩ := h.row i hi
  exact ⟨c, l, h1, h2, h3, by push_cast; omega, by rw [hn, hs]; exact h5⟩⟩
theorem Ap.put {s s' : St} {M L : DataW Unit} {k : Nat} {q : Nat} {t c : Int} (h : Ap s M L k) (hM : Tidy M) (hL : Tidy L) (hc : M.atKey (kq q) zl = nl c) (hq : q < 256) (t0 : 0 ≤ t) (t1 : t ≤ 1073741824)
    (hs : s'.skew = s.skew) (hn : ∀ i, s'.nxt i = if i = q then t + s.skew + 1 else s.nxt i) : Ap s' (M.put (kq q) (nl (c + 1))) (L.put (kq q) (nl t)) (k + 1) := ⟨fun i hi => by
  obtain ⟨c', l, h1, h2, h3, h4, h5⟩ := h.row i hi
  by_cases e : i = q
  · subst e
    rw [h1] at hc
    injection hc with hc
    injection hc with _ hc
    subst hc
    refine ⟨c' + 1, t, ?_, ?_, by omega, by push_cast; omega, .inr ⟨by omega, by rw [hn, if_pos rfl, hs], t0, t1⟩⟩
    · rw [atKey_put_same (k := kq i) hM.isMap (by simp [WideAt.IsKeyLit])]
    · rw [atKey_put_same (k := kq i) hL.isMap (by simp [WideAt.IsKeyLit])]
  · have hne : kq i ≠ kq q := kq_ne (by omega)
    refine ⟨c', l, ?_, ?_, h3, by push_cast; omega, by rw [hn, if_neg e, hs]; exact h5⟩
    · rw [atKey_put_other hne]; exact h1
    · rw [atKey_put_other hne]; exact h2⟩
theorem wf64 {n : Int} (h0 : -9223372036854775808 ≤ n) (h1 : n ≤ 9223372036854775807) : (Lit.int .i64 n).wf = true := WalkArith.wf_i64 ⟨h0, h1⟩
theorem law3 : Keyed Try.prog 3 := int_keyed Try.underlying3
theorem zero3 (w : World) : (zeroValue 3).run Try.prog w = .ok (.int .i64 0) w := by kernel_rfl
theorem key3 {q : Int} (h0 : 0 ≤ q) (h1 : q ≤ 255) : keyOf Try.prog 3 (.int .i64 q) = some (kq q) := by
  simp [keyOf, Try.underlying3, mapKey, wf64 (n := q) (by omega) (by omega)]
abbrev Om (w : World) (b n : Nat) (D : DataW Unit) : Prop := w.ownsMap Try.prog 3 (plainElem Try.prog 3) b n D
set_option maxRecDepth 100000 in
theorem Om.get {w : World} {b n : Nat} {D : DataW Unit} (h : Om w b n D) {q c : Int} (q0 : 0 ≤ q) (q1 : q ≤ 255) (hc : D.atKey (kq q) zl = nl c) : (Instr.lookup 42 (.map (some b)) (.int .i64 q) false).run Try.prog w = .ok (.int .i64 c) w := by
  obtain ⟨c', h1, h2, _⟩ := h.lookup_int law3 Try.underlying42 Try.underlying3 (zero3 w) (key3 q0 q1)
  rw [hc] at h2
  injection h2 with h2
  injection h2 with _ h2
  subst h2
  exact h1
theorem Om.set {w : World} {b n : Nat} {D : DataW Unit} (h : Om w b n D) (hn : n < 1000000) {q c : Int} (q0 : 0 ≤ q) (q1 : q ≤ 255) (h0 : -9223372036854775808 ≤ c) (h1 : c ≤ 9223372036854775807) :
    ∃ w', (Instr.mapUpdate 42 (.map (some b)) (.int .i64 q) (.int .i64 c)).run Try.prog w = .ok () w' ∧ Om w' b (n + 1) (D.put (kq q) (nl c)) ∧ w.grownBy w' (some b) :=
  h.update law3 Try.underlying42 (by unfold maxLen; omega) (key3 q0 q1) (plainElem_int Try.underlying3 (wf64 h0 h1))
theorem Om.ne {w : World} {b n g : Nat} {D : DataW Unit} {t : TypeId} {cs : Array Value} (h : Om w b n D) (hg : Blk w g t cs) : g ≠ b := by
  rintro rfl
  obtain ⟨es, clock, hb, _⟩ := h
  unfold Blk at hg
  rw [hg] at hb
  cases hb
theorem offer_cases {s : St} {q t : Int} (h : okq s q t = true) :
    (t < s.nxt q.toNat ∧ offer s q t = ({ s with now := t, drp := s.drp + 1 }, false, 0)) ∨ (¬ t < s.nxt q.toNat ∧ offer s q t = ({ s with now := t, nxt := fun j => if j = q.toNat then t + s.skew + 1 else s.nxt j, del := s.del + 1 }, true, 0)) := by
  unfold offer
  rw [if_pos h]
  by_cases hl : t < s.nxt q.toNat
  · left; exact ⟨hl, if_pos hl⟩
  · right; exact ⟨hl, if_neg hl⟩
set_option maxRecDepth 100000 in
set_option maxHeartbeats 4000000 in
theorem lawApart (skew : Int) (A : Option Addr) (n c : Nat) (N Q T : Nat → Int) (w : World) (hA : ArrIn w A n N Q T) :
    Calls Try.prog 5 #[.int .i64 skew, .slice A n c] w fun e w' => e = .returned (.bool true) ∧ Below w.heap.size w w' := by
  have HA := Lib.hid hA
  clear hA
  by_cases hn : 300 < n
  · go_enter Try.func5, Try.ntmps5
    go_wp2_with fail
    refine (awake_any w).mono ?_
    rintro e w1 ⟨rfl, k1⟩
    go_wp2_with fail
    go_ret
    exact ⟨rfl, k1⟩
  by_cases hs : 0 ≤ skew ∧ skew ≤ 1073741824
  rotate_left
  · by_cases h0 : skew < 0
    · go_enter Try.func5, Try.ntmps5
      go_wp2_with fail
      refine (awake_any w).mono ?_
      rintro e w1 ⟨rfl, k1⟩
      go_wp2_with fail
      refine (selNew_bad skew w1 (by omega)).mono ?_
      rintro e w2 ⟨rfl, rfl⟩
      go_wp2_with fail
      go_ret
      exact ⟨rfl, k1⟩
    · have h1 : 1073741824 < skew := by omega
      go_enter Try.func5, Try.ntmps5
      go_wp2_with fail
      refine (awake_any w).mono ?_
      rintro e w1 ⟨rfl, k1⟩
      go_wp2_with fail
      refine (selNew_bad skew w1 (by omega)).mono ?_
      rintro e w2 ⟨rfl, rfl⟩
      go_wp2_with fail
      go_ret
      exact ⟨rfl, k1⟩
  obtain ⟨s0, s1⟩ := hs
  have hmm := @run_makeMap_plain Try.prog
  go_enter Try.func5, Try.ntmps5
  go_wp2_with fail
  refine (awake_any w).mono ?_
  rintro e w1 ⟨rfl, k1⟩
  go_wp2_with fail
  refine (selNew_ok skew w1 s0 s1).mono ?_
  rintro e w2 ⟨sb, rfl, hsb, k2, hs2⟩
  have k12 := k1.trans (k2.mono k1.size)
  have SB : Hid (w.heap.size ≤ sb) := Lib.hid (Nat.le_trans k1.size hsb)
  go_wp2_with fail
  clear hmm
  obtain ⟨W, hW⟩ : ∃ W, (w2.alloc (.map #[] 0)).alloc (.map #[] 0) = W := ⟨_, rfl⟩
  rw [hW]
  have kW : Below w2.heap.size w2 W := by rw [← hW]; exact ((Below.refl _ _).alloc (Nat.le_refl _) _).alloc (by simp) _
  have om : Om W w2.heap.size 0 (.map []) := by rw [← hW]; exact (World.ownsMap_made _ _ _ _).alloc _
  have ol : Om W (w2.heap.size + 1) 0 (.map []) := by
    have := World.ownsMap_made (w2.alloc (.map #[] 0)) Try.prog 3 (plainElem (H := Unit) Try.prog 3)
    rw [hW, show (w2.alloc (.map #[] 0)).heap.size = w2.heap.size + 1 by simp] at this
    exact this
  have OM := Lib.hid om
  have OL := Lib.hid ol
  have HS := Lib.hid (hs2.kept kW)
  have KW := Lib.hid (k12.trans (kW.mono k12.size))
  have MB : Hid (w.heap.size ≤ w2.heap.size) := Lib.hid k12.size
  clear hW kW om ol k1 k2 k12 hs2 hsb
  generalize w2.heap.size = mb at *
  go_loopw [40] (fun i wr => ∃ (k : Nat) (s : St) (M L : DataW Unit), k ≤ n ∧ i = .int .i64 k ∧ SelW wr sb s ∧ Om wr (mb + 1) k M ∧ Om wr mb k L ∧ Ap s M L k ∧ s.Ok ∧ s.skew = skew ∧ s.del + s.drp ≤ k ∧ Below w.heap.size w wr)
    (fun i _ => n - (intOf i).toNat)
  case atStart => exact ⟨0, .new skew, .map [], .map [], Nat.zero_le _, rfl, HS.out, OL.out, OM.out, Ap.start _, St.Ok.new s0 s1, rfl, by simp [St.new], KW.out⟩
  case round =>
    obtain ⟨k, s, M, L, hk, rfl, hs, hM, hL, hap, hso, hsk, hsc, kr⟩ := hrel
    have KR := Lib.hid kr
    have HS1 := Lib.hid hs
    have HM1 := Lib.hid hM
    have HL1 := Lib.hid hL
    have HAP := Lib.hid hap
    have HSO := Lib.hid hso
    have HSK := Lib.hid hsk
    have HSC := Lib.hid hsc
    clear hs hM hL hap kr
    by_cases hlt : k < n
    · obtain ⟨ab, off, rfl, hb, hc⟩ := HA.out.2 (by omega)
      obtain ⟨c0, c1, c2⟩ := hc k hlt
      have v0 := (KR.out.cell (p := ⟨ab, off + k * 3, none⟩) hb).trans c0
      have v1 := (KR.out.cell (p := ⟨ab, off + k * 3 + 1, none⟩) hb).trans c1
      have v2 := (KR.out.cell (p := ⟨ab, off + k * 3 + 2, none⟩) hb).trans c2
      clear hc c0 c1 c2
      obtain ⟨q, hq⟩ : ∃ q, N k = q := ⟨_, rfl⟩
      obtain ⟨t, ht⟩ : ∃ t, Q k = t := ⟨_, rfl⟩
      obtain ⟨g, hg⟩ : ∃ g, T k = g := ⟨_, rfl⟩
      rw [hq] at v0
      rw [ht] at v1
      rw [hg] at v2
      clear hq ht hg
      have g1 : decide (n ≤ k) = false := decide_eq_false (by omega)
      have g2 : decide ((k : Int) < 0) = false := decide_eq_false (by omega)
      have g3 : (k : Int) < n := by omega
      obtain ⟨W1, hW1⟩ : ∃ W1, wr.alloc (.cells #[.int .i64 q, .int .i64 t, .int .i64 g] 44) = W1 := ⟨_, rfl⟩
      have x1 : Blk W1 wr.heap.size 44 #[.int .i64 q, .int .i64 t, .int .i64 g] := by rw [← hW1]; exact Blk.made _ _ _
      have S1 := Lib.hid (show SelW W1 sb s by rw [← hW1]; exact HS1.out.alloc _)
      have M1 := Lib.hid (show Om W1 (mb + 1) k M by rw [← hW1]; exact HM1.out.alloc _)
      have L1 := Lib.hid (show Om W1 mb k L by rw [← hW1]; exact HL1.out.alloc _)
      have K1 := Lib.hid (show Below w.heap.size w W1 by rw [← hW1]; exact KR.out.alloc KR.out.size _)
      have X1 := Lib.hid x1
      have HW1 := Lib.hid hW1
      have hO1 := hso.offer q t
      have hC1 := offer_cnt s q t
      have hK1 := offer_skew s q t
      have hs0 := hso.d0
      have hs1 := hso.r0
      have n0 := hso.n0
      have HF1 := Lib.hid (fun (V : World) (h : SelW V sb s) => offer_any sb s q t V h HSO.out (by omega) (by omega))
      cases hk2 : okq s q t with
      | false =>
        rw [offer_none hk2] at HF1
        clear hW1 x1 hso hsk hsc hO1 hC1 hK1 hs0 hs1 n0 hk2
        go_wp2_with fail
        rw [HW1.out]
        refine (HF1.out W1 S1.out).mono ?_
        rintro e w5 ⟨rfl, hs5, hg5⟩
        have M5 := Lib.hid (M1.out.kept hg5 (fun e => by obtain ⟨cs, h, _⟩ := S1.out; exact M1.out.ne h (by injection e with e; exact e.symm)))
        have L5 := Lib.hid (L1.out.kept hg5 (fun e => by obtain ⟨cs, h, _⟩ := S1.out; exact L1.out.ne h (by injection e with e; exact e.symm)))
        have S5 := Lib.hid hs5
        have K5 := Lib.hid (offer_below K1.out hg5 SB.out)
        clear hs5 hg5
        go_wp2_with fail
        go_roundw
        case rel => exact ⟨k + 1, s, M, L, by omega, by go_num, S5.out, M5.out.mono (by omega), L5.out.mono (by omega), HAP.out.more rfl rfl, HSO.out, HSK.out, by have := HSC.out; push_cast; omega, K5.out⟩
        case measure => simp [intOf]; omega
      | true =>
        have hkk := hk2
        simp only [okq, Bool.and_eq_true, mvs, decide_eq_true_eq] at hkk
        obtain ⟨hqn, t0', t1⟩ := hkk
        obtain ⟨q0, q1⟩ := isN_true hqn
        have t0 : 0 ≤ t := by omega
        obtain ⟨iq, rfl⟩ : ∃ iq : Nat, q = iq := ⟨q.toNat, by omega⟩
        have iq256 : iq < 256 := by omega
        obtain ⟨mc, ml, hmc, hml, mc0, mck, hcase⟩ := HAP.out.row iq iq256
        have hoc := offer_cases hk2
        rw [Int.toNat_natCast] at hoc
        have x0 := hso.x0 iq
        rw [hsk] at hcase
        have HMC := Lib.hid hmc
        have HML := Lib.hid hml
        rcases hoc with ⟨hl, hof⟩ | ⟨hl, hof⟩
        · have mc1 : 0 < mc := by rcases hcase with ⟨_, h2⟩ | ⟨h, _⟩ <;> omega
          have hx : s.nxt iq = ml + skew + 1 ∧ 0 ≤ ml ∧ ml ≤ 1073741824 := by rcases hcase with ⟨h, _⟩ | ⟨_, h⟩ <;> first | omega | exact h
          obtain ⟨hx1, ml0, ml1⟩ := hx
          have hrec : t - ml ≤ skew := by omega
          rw [hof] at HF1 hO1 hC1 hK1
          have HREL := Lib.hid (And.intro hO1 (And.intro (show ({ s with now := t, drp := s.drp + 1 } : St).del + ({ s with now := t, drp := s.drp + 1 } : St).drp ≤ (k + 1 : Nat) by push_cast; omega) (hK1.trans hsk)))
          have HAP2 : Hid (Ap { s with now := t, drp := s.drp + 1 } M L (k + 1)) := Lib.hid (HAP.out.more rfl rfl)
          clear hW1 x1 hso hsk hsc hO1 hC1 hK1 hs0 hs1 n0 hk2 hqn hmc hml hcase hof hl x0 hx1 t0'
          generalize ({ s with now := t, drp := s.drp + 1 } : St) = s' at *
          go_wp2_with fail
          rw [HW1.out]
          refine (HF1.out W1 S1.out).mono ?_
          rintro e w5 ⟨rfl, hs5, hg5⟩
          have m5 := M1.out.kept hg5 (fun e => by obtain ⟨cs, h, _⟩ := S1.out; exact M1.out.ne h (by injection e with e; exact e.symm))
          have l5 := L1.out.kept hg5 (fun e => by obtain ⟨cs, h, _⟩ := S1.out; exact L1.out.ne h (by injection e with e; exact e.symm))
          have x5 := X1.out.grown hg5 (fun e => by obtain ⟨cs, h, _⟩ := S1.out; exact X1.out.ne_ h (by decide) (by injection e))
          have z0 : w5.cell? ⟨wr.heap.size, 0, none⟩ = some (.int .i64 (iq : Int)) := x5.cell 0
          have z1 : w5.cell? ⟨wr.heap.size, 1, none⟩ = some (.int .i64 t) := x5.cell 1
          have hm1 := Om.get m5 q0 q1 HMC.out
          have hm2 := Om.get l5 q0 q1 HML.out
          have M5 := Lib.hid m5
          have L5 := Lib.hid l5
          have S5 := Lib.hid hs5
          have K5 := Lib.hid (offer_below K1.out hg5 SB.out)
          clear hs5 hg5 m5 l5 x5
          go_wp2_with fail
          go_roundw
          case rel => exact ⟨k + 1, s', M, L, by omega, by go_num, S5.out, M5.out.mono (by omega), L5.out.mono (by omega), HAP2.out, HREL.out.1, HREL.out.2.2, HREL.out.2.1, K5.out⟩
          case measure => simp [intOf]; omega
        · have hcs : mc = 0 ∨ (0 < mc ∧ ¬ t - ml ≤ skew ∧ 0 ≤ ml ∧ ml ≤ 1073741824) := by rcases hcase with ⟨h, _⟩ | ⟨h1, h2, h3, h4⟩ <;> omega
          rw [hof] at HF1 hO1 hC1 hK1
          have HREL := Lib.hid (And.intro hO1 (And.intro (show ({ s with now := t, nxt := fun j => if j = iq then t + s.skew + 1 else s.nxt j, del := s.del + 1 } : St).del + ({ s with now := t, nxt := fun j => if j = iq then t + s.skew + 1 else s.nxt j, del := s.del + 1 } : St).drp ≤ (k + 1 : Nat) by push_cast; omega) (hK1.trans hsk)))
          have HAP2 : Hid (Tidy M → Tidy L → Ap { s with now := t, nxt := fun j => if j = iq then t + s.skew + 1 else s.nxt j, del := s.del + 1 } (M.put (kq iq) (nl (mc + 1))) (L.put (kq iq) (nl t)) (k + 1)) := Lib.hid (fun hM hL => HAP.out.put hM hL HMC.out iq256 t0 t1 rfl (fun i => rfl))
          clear hW1 x1 hso hsk hsc hO1 hC1 hK1 hs0 hs1 n0 hk2 hqn hmc hml hcase hof hl x0 t0'
          generalize ({ s with now := t, nxt := fun j => if j = iq then t + s.skew + 1 else s.nxt j, del := s.del + 1 } : St) = s' at *
          rcases hcs with rfl | ⟨mc1, hrec, ml0, ml1⟩
          · go_wp2_with fail
            rw [HW1.out]
            refine (HF1.out W1 S1.out).mono ?_
            rintro e w5 ⟨rfl, hs5, hg5⟩
            have m5 := M1.out.kept hg5 (fun e => by obtain ⟨cs, h, _⟩ := S1.out; exact M1.out.ne h (by injection e with e; exact e.symm))
            have l5 := L1.out.kept hg5 (fun e => by obtain ⟨cs, h, _⟩ := S1.out; exact L1.out.ne h (by injection e with e; exact e.symm))
            have x5 := X1.out.grown hg5 (fun e => by obtain ⟨cs, h, _⟩ := S1.out; exact X1.out.ne_ h (by decide) (by injection e))
            have z0 : w5.cell? ⟨wr.heap.size, 0, none⟩ = some (.int .i64 (iq : Int)) := x5.cell 0
            have z1 : w5.cell? ⟨wr.heap.size, 1, none⟩ = some (.int .i64 t) := x5.cell 1
            have hm1 := Om.get m5 q0 q1 HMC.out
            have hm2 := Om.get l5 q0 q1 HML.out
            obtain ⟨w6, hu1, m6, g6⟩ := Om.set m5 (by omega) q0 q1 (c := 1) (by omega) (by omega)
            have l6 := l5.kept g6 (fun e => by injection e with e; omega)
            have x6 := x5.grown g6 (fun e => Om.ne m5 x5 (by injection e))
            have y0 : w6.cell? ⟨wr.heap.size, 0, none⟩ = some (.int .i64 (iq : Int)) := x6.cell 0
            have y1 : w6.cell? ⟨wr.heap.size, 1, none⟩ = some (.int .i64 t) := x6.cell 1
            obtain ⟨w7, hu2, l7, g7⟩ := Om.set l6 (by omega) q0 q1 (c := t) (by omega) (by omega)
            have AP7 : Hid (Ap s' (M.put (kq iq) (nl 1)) (L.put (kq iq) (nl t)) (k + 1)) := Lib.hid (HAP2.out (m5.tidy law3) (l5.tidy law3))
            have M7 := Lib.hid (m6.kept g7 (fun e => by injection e with e; omega))
            have L7 := Lib.hid l7
            have S7 := Lib.hid ((hs5.grown g6 (fun e => by obtain ⟨cs, h, _⟩ := hs5; exact Om.ne m5 h (by injection e))).grown g7 (fun e => by obtain ⟨cs, h, _⟩ := (hs5.grown g6 (fun e => by obtain ⟨cs, h, _⟩ := hs5; exact Om.ne m5 h (by injection e))); exact Om.ne l6 h (by injection e)))
            have K7 := Lib.hid (offer_below (offer_below (offer_below K1.out hg5 SB.out) g6 (by have := MB.out; omega)) g7 MB.out)
            clear hs5 hg5 m5 l5 x5 m6 l6 x6 g6 l7 g7
            go_wp2_with fail
            go_roundw
            case rel => exact ⟨k + 1, s', _, _, by omega, by go_num, S7.out, M7.out, L7.out, AP7.out, HREL.out.1, HREL.out.2.2, HREL.out.2.1, K7.out⟩
            case measure => simp [intOf]; omega
          · go_wp2_with fail
            rw [HW1.out]
            refine (HF1.out W1 S1.out).mono ?_
            rintro e w5 ⟨rfl, hs5, hg5⟩
            have m5 := M1.out.kept hg5 (fun e => by obtain ⟨cs, h, _⟩ := S1.out; exact M1.out.ne h (by injection e with e; exact e.symm))
            have l5 := L1.out.kept hg5 (fun e => by obtain ⟨cs, h, _⟩ := S1.out; exact L1.out.ne h (by injection e with e; exact e.symm))
            have x5 := X1.out.grown hg5 (fun e => by obtain ⟨cs, h, _⟩ := S1.out; exact X1.out.ne_ h (by decide) (by injection e))
            have z0 : w5.cell? ⟨wr.heap.size, 0, none⟩ = some (.int .i64 (iq : Int)) := x5.cell 0
            have z1 : w5.cell? ⟨wr.heap.size, 1, none⟩ = some (.int .i64 t) := x5.cell 1
            have hm1 := Om.get m5 q0 q1 HMC.out
            have hm2 := Om.get l5 q0 q1 HML.out
            obtain ⟨w6, hu1, m6, g6⟩ := Om.set m5 (by omega) q0 q1 (c := mc + 1) (by omega) (by omega)
            have l6 := l5.kept g6 (fun e => by injection e with e; omega)
            have x6 := x5.grown g6 (fun e => Om.ne m5 x5 (by injection e))
            have y0 : w6.cell? ⟨wr.heap.size, 0, none⟩ = some (.int .i64 (iq : Int)) := x6.cell 0
            have y1 : w6.cell? ⟨wr.heap.size, 1, none⟩ = some (.int .i64 t) := x6.cell 1
            obtain ⟨w7, hu2, l7, g7⟩ := Om.set l6 (by omega) q0 q1 (c := t) (by omega) (by omega)
            have AP7 := Lib.hid (HAP2.out (m5.tidy law3) (l5.tidy law3))
            have M7 := Lib.hid (m6.kept g7 (fun e => by injection e with e; omega))
            have L7 := Lib.hid l7
            have S7 := Lib.hid ((hs5.grown g6 (fun e => by obtain ⟨cs, h, _⟩ := hs5; exact Om.ne m5 h (by injection e))).grown g7 (fun e => by obtain ⟨cs, h, _⟩ := (hs5.grown g6 (fun e => by obtain ⟨cs, h, _⟩ := hs5; exact Om.ne m5 h (by injection e))); exact Om.ne l6 h (by injection e)))
            have K7 := Lib.hid (offer_below (offer_below (offer_below K1.out hg5 SB.out) g6 (by have := MB.out; omega)) g7 MB.out)
            clear hs5 hg5 m5 l5 x5 m6 l6 x6 g6 l7 g7
            go_wp2_with fail
            go_roundw
            case rel => exact ⟨k + 1, s', _, _, by omega, by go_num, S7.out, M7.out, L7.out, AP7.out, HREL.out.1, HREL.out.2.2, HREL.out.2.1, K7.out⟩
            case measure => simp [intOf]; omega
    · obtain rfl : k = n := by omega
      clear hso hsk hsc
      go_wp2_with fail
      go_ret
      exact ⟨rfl, KR.out⟩
end Go.Proofs.Ytllabfbebidjiaa
