/-
  The walk of the law CompatMore.
-/
import Derived.Test.YtcjbjhkmnfegnaaP9
import Derived.Deep.CutRange
namespace Go.Proofs.Ytcjbjhkmnfegnaa
open Go.RowKit Go.Shelf
/-- what Order answers, a road or none, in one form -/
def OT (r : Option (List Nat)) (ec : Int) (w : World) (e : Ending) (w' : World) : Prop :=
  Below w.heap.size w w' ∧ ∃ A c, e = .returned (.tuple #[.slice A (r.getD []).length c, .int .i64 (if r.isSome = true then 0 else ec)]) ∧ NumsIn w' A (r.getD [])
theorem OrdTell.ot {r : Option (List Nat)} {w w' : World} {e : Ending} (h : OrdTell r w e w') : OT r 6 w e w' := by
  obtain ⟨k, (⟨rfl, rfl⟩ | ⟨p, A, c, rfl, rfl, hn⟩)⟩ := h
  · exact ⟨k, none, 0, rfl, fun h => absurd h (by simp)⟩
  · exact ⟨k, A, c, rfl, hn⟩
set_option maxRecDepth 100000 in
set_option maxHeartbeats 8000000 in
theorem lawMore_core (F : Nat → (Nat → R) → Option (List Nat)) (ec : Int) (hec : ec = 2 ∨ ec = 6) (A1 A2 A3 : Option Addr) (m c3 n c1 n2 c2 : Nat) (Rw : Nat → R) (r : R) (w : World) (hR : RowsIn w A3 m Rw) (hz : A3 = none → m = 0 ∧ c3 = 0) (hm : m ≤ 20)
    (hO : ∀ (V : World) (A : Option Addr) (m' c' : Nat) (X : Nat → R), Below w.heap.size w V → RowsIn V A m' X → Calls Try.prog 12 #[.slice A m' c', .slice A1 n c1, .slice A2 n2 c2] V (OT (F m' X) ec V))
    (hF1 : F m (flip Rw) = F m Rw) (hF2 : F (m + m) (app Rw (flip Rw) m) = F m Rw) (hF3 : con Rw r.1 r.2 m = true → (F m Rw).isSome = true → (F (m + 1) (app Rw (fun _ => r) m)).isSome = true) (hFl : ∀ p, F m Rw = some p → p.length ≤ 256) :
    Calls Try.prog 5 #[.slice A3 m c3, .slice A1 n c1, .slice A2 n2 c2, rV r] w fun e w' => e = .returned (.bool true) ∧ Below w.heap.size w w' := by
  have HR := Lib.hid hR
  have HZ := Lib.hid hz
  have HO := Lib.hid hO
  have HF1 := Lib.hid hF1
  have HF2 := Lib.hid hF2
  have HF3 := Lib.hid hF3
  have HFL := Lib.hid hFl
  have HEC := Lib.hid hec
  clear hR hz hO hF1 hF2 hF3 hFl hec
  obtain ⟨⟨an, av⟩, ⟨un, uv⟩⟩ := r
  obtain ⟨i0, hi, hz0, hz1, hz2⟩ := info_parts Try.info37'
  have hi' := Lib.hid hi
  have hz0' := Lib.hid hz0
  have hz1' := Lib.hid hz1
  have hz2' := Lib.hid hz2
  clear hi hz0 hz1 hz2
  obtain ⟨W, hW⟩ : ∃ W, w.alloc (.cells #[.string an, .int .i64 av, .string un, .int .i64 uv] 37) = W := ⟨_, rfl⟩
  have bu : Blk W w.heap.size 37 #[.string an, .int .i64 av, .string un, .int .i64 uv] := by rw [← hW]; exact Blk.made _ _ _
  have kW : Below w.heap.size w W := by rw [← hW]; exact (Below.refl _ _).alloc (Nat.le_refl _) _
  have HW := Lib.hid hW
  have BU := Lib.hid bu
  have UL := Lib.hid bu.lt
  have KW := Lib.hid kW
  clear hW bu kW
  have g0 : decide (20 < m) = false := decide_eq_false (by omega)
  go_enter Try.func5, Try.ntmps5
  go_wp2_with fail
  rw [HW.out]
  go_loopw [9, 10, 28] (fun v cv kv wr => ∃ k : Nat, k ≤ m ∧ kv = .int .i64 k ∧ wr.ownsRow W.heap.size 37 4 v k (rl4 (flip Rw) k) ∧ cv = .bool (con Rw (an, av) (un, uv) k) ∧ Below W.heap.size W wr)
    (fun _ _ k _ => m - (intOf k).toNat)
  case atStart => exact ⟨0, Nat.zero_le _, rfl, World.ownsRow_nil _ _ _ _, rfl, Below.refl _ _⟩
  case round =>
    obtain ⟨k, hk, rfl, hrow, rfl, kr⟩ := hrel
    have HROW := Lib.hid hrow
    have KR := Lib.hid kr
    clear hrow kr
    by_cases hkm : k < m
    · obtain ⟨rb, roff, rfl, hrb, hcell⟩ := HR.out.2 (by omega)
      obtain ⟨q0, q1, q2, q3⟩ := hcell k hkm
      have KA := KW.out.trans (KR.out.mono KW.out.size)
      have y0 := (KA.cell (p := ⟨rb, roff + k * 4, none⟩) hrb).trans q0
      have y1 := (KA.cell (p := ⟨rb, roff + k * 4 + 1, none⟩) hrb).trans q1
      have y2 := (KA.cell (p := ⟨rb, roff + k * 4 + 2, none⟩) hrb).trans q2
      have y3 := (KA.cell (p := ⟨rb, roff + k * 4 + 3, none⟩) hrb).trans q3
      have HCN : Hid (con Rw (an, av) (un, uv) (k + 1) = (con Rw (an, av) (un, uv) k || hit (Rw k) (an, av) (un, uv) || hit (Rw k) (un, uv) (an, av))) := Lib.hid rfl
      have HTR : Hid (rl4 (flip Rw) (k + 1) = rl4 (flip Rw) k ++ [.string (Rw k).2.1, .int .i64 (Rw k).2.2, .string (Rw k).1.1, .int .i64 (Rw k).1.2]) := Lib.hid rfl
      clear hcell q0 q1 q2 q3 KA
      generalize Rw k = r at *
      obtain ⟨⟨ra, rv⟩, ⟨rn, rq⟩⟩ := r
      obtain ⟨cn, hcn⟩ : ∃ cn, con Rw (an, av) (un, uv) k = cn := ⟨_, rfl⟩
      rw [hcn] at HCN
      rw [hcn]
      clear hcn
      obtain ⟨cn2, hcn2⟩ : ∃ cn, con Rw (an, av) (un, uv) (k + 1) = cn := ⟨_, rfl⟩
      have HC2 := Lib.hid hcn2
      rw [hcn2] at HCN
      clear hcn2
      dsimp only at y0 y1 y2 y3 HTR
      have gk : decide (m ≤ k) = false := decide_eq_false (by omega)
      have gk2 : decide ((k : Int) < 0) = false := decide_eq_false (by omega)
      have gk3 : (k : Int) < m := by omega
      go_upto_region 8 with fail
      obtain ⟨W2, hW2⟩ : ∃ W2, wr.alloc (.cells #[.string ra, .int .i64 rv, .string rn, .int .i64 rq] 37) = W2 := ⟨_, rfl⟩
      rw [hW2]
      have B2 := Lib.hid (show Blk W2 wr.heap.size 37 #[.string ra, .int .i64 rv, .string rn, .int .i64 rq] by rw [← hW2]; exact Blk.made _ _ _)
      have R2 := Lib.hid (show W2.ownsRow W.heap.size 37 4 u9 k (rl4 (flip Rw) k) by rw [← hW2]; exact HROW.out.alloc _)
      have K2' := Lib.hid (show Below W.heap.size W W2 by rw [← hW2]; exact KR.out.alloc KR.out.size _)
      have NE : Hid (some wr.heap.size ≠ u9.ownBlock) := Lib.hid (fun e => absurd (HROW.out.lt _ e.symm).2 (Nat.lt_irrefl _))
      have b0 : W2.cell? ⟨wr.heap.size, 0, none⟩ = some (.string ra) := B2.out.cell 0
      have b1 : W2.cell? ⟨wr.heap.size, 1, none⟩ = some (.int .i64 rv) := B2.out.cell 1
      have b2 : W2.cell? ⟨wr.heap.size, 2, none⟩ = some (.string rn) := B2.out.cell 2
      have b3 : W2.cell? ⟨wr.heap.size, 3, none⟩ = some (.int .i64 rq) := B2.out.cell 3
      clear hW2 y0 y1 y2 y3 KR HROW
      go_upto_region 9 with (at_builtin; refine wpList_append_own _ rfl _ _ 22 rfl W.heap.size 37 i0 (.agg #[.string ByteArray.empty, .int .i64 0, .string ByteArray.empty, .int .i64 0]) 4 48 Try.underlying22 hi'.out hz0'.out hz1'.out hz2'.out rfl (by decide) _ _ _ rfl (R2.out.alloc _) ⟨W2.heap.size, 0, none⟩ 1 1 [.string rn, .int .i64 rq, .string ra, .int .i64 rv] rfl rfl (new_four _ _ _ _ _ _) (four_one _ _ _ _) (by unfold maxLen; omega) (by omega) (by have := K2'.out.size; simp; omega) ?_; intro v3 W3 r3 g3 _)
      have R3 := Lib.hid r3
      have K3' := Lib.hid ((K2'.out.alloc K2'.out.size _).grown g3 (by have := K2'.out.size; simp; omega) (fun i e => (R2.out.lt i e).1))
      have r0 : W3.cell? ⟨wr.heap.size, 0, none⟩ = some (.string ra) := ((B2.out.alloc _).grown g3 NE.out).cell 0
      have r2 : W3.cell? ⟨wr.heap.size, 2, none⟩ = some (.string rn) := ((B2.out.alloc _).grown g3 NE.out).cell 2
      have a0 : W3.cell? ⟨w.heap.size, 0, none⟩ = some (.string an) := (BU.out.below K3'.out UL.out).cell 0
      have u0 : W3.cell? ⟨w.heap.size, 2, none⟩ = some (.string un) := (BU.out.below K3'.out UL.out).cell 2
      clear b0 b1 b2 b3 r3 g3 B2 R2 NE
      cases cn with
      | true =>
        obtain rfl : cn2 = true := by rw [HCN.out]; simp
        go_wp2_with fail
        go_roundw
        case rel => exact ⟨k + 1, by omega, by go_num, by rw [HTR.out]; exact R3.out, by rw [HC2.out], K3'.out⟩
        case measure => simp [intOf]; omega
      | false =>
        by_cases h1 : ra = an
        · by_cases h2 : rn = un
          · obtain rfl : cn2 = true := by rw [HCN.out]; simp [hit, h1, h2]
            subst h1 h2
            go_wp2_with fail
            go_roundw
            case rel => exact ⟨k + 1, by omega, by go_num, by rw [HTR.out]; exact R3.out, by rw [HC2.out], K3'.out⟩
            case measure => simp [intOf]; omega
          · by_cases h3 : ra = un
            · by_cases h4 : rn = an
              · exfalso
                exact h2 (h4.trans (h1.symm.trans h3))
              · obtain rfl : cn2 = false := by rw [HCN.out]; simp [hit, h2, h4]
                have s2 := str_ne h2
                have s4 := str_ne h4
                subst h1 h3
                go_wp2_with fail
                go_roundw
                case rel => exact ⟨k + 1, by omega, by go_num, by rw [HTR.out]; exact R3.out, by rw [HC2.out], K3'.out⟩
                case measure => simp [intOf]; omega
            · obtain rfl : cn2 = false := by rw [HCN.out]; simp [hit, h2, h3]
              have s2 := str_ne h2
              have s3 := str_ne h3
              subst h1
              go_wp2_with fail
              go_roundw
              case rel => exact ⟨k + 1, by omega, by go_num, by rw [HTR.out]; exact R3.out, by rw [HC2.out], K3'.out⟩
              case measure => simp [intOf]; omega
        · have s1 := str_ne h1
          by_cases h3 : ra = un
          · by_cases h4 : rn = an
            · obtain rfl : cn2 = true := by rw [HCN.out]; simp [hit, h3, h4]
              subst h3 h4
              go_wp2_with fail
              go_roundw
              case rel => exact ⟨k + 1, by omega, by go_num, by rw [HTR.out]; exact R3.out, by rw [HC2.out], K3'.out⟩
              case measure => simp [intOf]; omega
            · obtain rfl : cn2 = false := by rw [HCN.out]; simp [hit, h1, h4]
              have s4 := str_ne h4
              subst h3
              go_wp2_with fail
              go_roundw
              case rel => exact ⟨k + 1, by omega, by go_num, by rw [HTR.out]; exact R3.out, by rw [HC2.out], K3'.out⟩
              case measure => simp [intOf]; omega
          · obtain rfl : cn2 = false := by rw [HCN.out]; simp [hit, h1, h3]
            have s3 := str_ne h3
            go_wp2_with fail
            go_roundw
            case rel => exact ⟨k + 1, by omega, by go_num, by rw [HTR.out]; exact R3.out, by rw [HC2.out], K3'.out⟩
            case measure => simp [intOf]; omega
    · obtain rfl : m = k := by omega
      obtain ⟨A9, c9, rfl, h9, hz9⟩ := own_rows (by omega) HROW.out
      obtain ⟨cn, hcn⟩ : ∃ cn, con Rw (an, av) (un, uv) m = cn := ⟨_, rfl⟩
      have HCN := Lib.hid hcn
      rw [hcn]
      clear hcn
      rename World => wq
      have KA := Lib.hid (KW.out.trans (KR.out.mono KW.out.size))
      have H9 := Lib.hid h9
      have HZ9 := Lib.hid hz9
      have BQ := Lib.hid (BU.out.below KR.out UL.out)
      have QL := Lib.hid BQ.out.lt
      have gkm : decide ((m : Int) < m) = false := decide_eq_false (by omega)
      have O1 := Lib.hid (HO.out wq A3 m c3 Rw KA.out (HR.out.below KA.out (Nat.le_refl _)))
      have O2 := Lib.hid (fun (V : World) (hV : Below wq.heap.size wq V) => HO.out V A9 m c9 (flip Rw) (KA.out.trans (hV.mono KA.out.size)) (H9.out.below hV (Nat.le_refl _)))
      have O3 := Lib.hid (fun (V : World) (A c : _) (hV : Below wq.heap.size wq V) (hx : RowsIn V A (m + m) (app Rw (flip Rw) m)) => HO.out V A (m + m) c (app Rw (flip Rw) m) (KA.out.trans (hV.mono KA.out.size)) hx)
      have O4 := Lib.hid (fun (V : World) (A c : _) (hV : Below wq.heap.size wq V) (hx : RowsIn V A (m + 1) (app Rw (fun _ => ((an, av), (un, uv))) m)) => HO.out V A (m + 1) c (app Rw (fun _ => ((an, av), (un, uv))) m) (KA.out.trans (hV.mono KA.out.size)) hx)
      rw [HF1.out] at O2
      rw [HF2.out] at O3
      obtain ⟨ro, hro⟩ : ∃ ro, F m Rw = ro := ⟨_, rfl⟩
      obtain ⟨r4, hr4⟩ : ∃ r4, F (m + 1) (app Rw (fun _ => ((an, av), (un, uv))) m) = r4 := ⟨_, rfl⟩
      rw [hro] at O1 O2 O3
      rw [hr4] at O4
      have H34 : Hid (cn = true → ro.isSome = true → r4.isSome = true) := Lib.hid (fun h1 h2 => by rw [← hr4]; exact HF3.out (HCN.out.trans h1) (by rw [hro]; exact h2))
      have hzl : (ro.getD []).length ≤ 256 := by
        cases ro with
        | none => simp
        | some p => exact HFL.out p hro
      unfold OT at O1 O2 O3 O4
      obtain ⟨z, hz⟩ : ∃ z, ro.getD [] = z := ⟨_, rfl⟩
      obtain ⟨E1, hE1⟩ : ∃ E1 : Int, (if ro.isSome = true then (0 : Int) else ec) = E1 := ⟨_, rfl⟩
      obtain ⟨E4, hE4⟩ : ∃ E4 : Int, (if r4.isSome = true then (0 : Int) else ec) = E4 := ⟨_, rfl⟩
      rw [hz, hE1] at O1 O2 O3
      rw [hE4] at O4
      rw [hz] at hzl
      have HE : Hid (cn = true → E1 = 0 → E4 = 0) := Lib.hid (fun h1 h2 => by
        have h3 : ro.isSome = true := by
          cases hs : ro.isSome with
          | true => rfl
          | false =>
            rw [hs] at hE1
            have : ec = E1 := by simpa using hE1
            rcases HEC.out with h | h <;> omega
        rw [← hE4, H34.out h1 h3]
        rfl)
      have HE1 : Hid (E1 = 0 ∨ E1 = 2 ∨ E1 = 6) := Lib.hid (by
        rw [← hE1]
        split
        · exact .inl rfl
        · exact .inr HEC.out)
      obtain ⟨lz, hlz⟩ : ∃ lz, z.length = lz := ⟨_, rfl⟩
      have HLZ := Lib.hid hlz
      rw [hlz] at hzl O1 O2 O3
      clear hro hr4 hz hE1 hE4 hlz h9 hz9 HROW HF1 HF2 HF3 HFL H34 HO
      go_wp2_with fail
      refine O1.out.mono ?_
      rintro e w2 ⟨k2, A13, c13, rfl, n13⟩
      have K2 := Lib.hid k2
      have N13 := Lib.hid n13
      clear k2 n13 O1
      go_wp2_with fail
      refine (O2.out w2 K2.out).mono ?_
      rintro e w3 ⟨k3, A15, c15, rfl, n15⟩
      have K3 := Lib.hid (K2.out.trans (k3.mono K2.out.size))
      have N133 := Lib.hid (N13.out.below k3 (Nat.le_refl _))
      have N15 := Lib.hid n15
      have E0 := Lib.hid (own_none37 w3)
      have KE0 := Lib.hid ((Below.refl w3.heap.size w3).alloc (Nat.le_refl _) (.cells #[] 37))
      have HR3 := Lib.hid ((HR.out.below KA.out (Nat.le_refl _)).below K3.out (Nat.le_refl _))
      have H93 := Lib.hid (H9.out.below K3.out (Nat.le_refl _))
      clear k3 n15 O2 N13 K2
      go_wp2_with (first
        | (at_builtin; refine wpList_append_rows rfl _ _ rfl w3.heap.size _ (0 + m) ([] ++ rl4 Rw m) rfl R4.out A9 m c9 (flip Rw) rfl (H93.out.below K4.out (Nat.le_refl _)) HZ9.out (by omega) K4.out.size ?_
           intro v5 w5 r5 g5
           have K5 := Lib.hid (K4.out.grown g5 K4.out.size (fun i e => (R4.out.lt i e).1))
           rw [List.nil_append, rl4_app, Nat.zero_add] at r5
           obtain ⟨A5, c5, rfl, h5, _⟩ := own_rows (by omega) r5
           have H5 := Lib.hid h5
           clear r5 g5 h5)
        | (at_builtin; refine wpList_append_rows rfl _ _ rfl w3.heap.size _ 0 [] rfl E0.out A3 m c3 Rw rfl (HR3.out.below KE0.out (Nat.le_refl _)) HZ.out (by omega) KE0.out.size ?_
           intro v4 w4 r4' g4
           have R4 := Lib.hid r4'
           have K4 := Lib.hid (KE0.out.grown g4 KE0.out.size (fun i e => (E0.out.lt i e).1))
           clear r4' g4))
      refine (O3.out w5 A5 c5 (K3.out.trans (K5.out.mono K3.out.size)) H5.out).mono ?_
      rintro e w6 ⟨k6, A17, c17, rfl, n17⟩
      have K6 := Lib.hid ((K3.out.trans (K5.out.mono K3.out.size)).trans (k6.mono (Nat.le_trans K3.out.size K5.out.size)))
      have N13f := Lib.hid ((N133.out.below K5.out (Nat.le_refl _)).below k6 (Nat.le_refl _))
      have N15f := Lib.hid ((N15.out.below K5.out (Nat.le_refl _)).below k6 (Nat.le_refl _))
      have N17 := Lib.hid n17
      clear k6 n17 O3 N133 N15 K5 H5 E0 KE0 HR3 H93 K3
      go_wp2_with fail
      go_loopw [123] (fun i wr => ∃ j : Nat, j ≤ lz ∧ i = .int .i64 j ∧ Below w6.heap.size w6 wr) (fun i _ => lz - (intOf i).toNat)
      case atStart => exact ⟨0, Nat.zero_le _, rfl, Below.refl _ _⟩
      case round =>
        obtain ⟨j, hj, rfl, kr⟩ := hrel
        have KL := Lib.hid kr
        clear kr
        by_cases hjl : j < lz
        · obtain ⟨ga, rfl, hga, hca⟩ := N13f.out (by rw [HLZ.out]; omega)
          obtain ⟨gb, rfl, hgb, hcb⟩ := N15f.out (by rw [HLZ.out]; omega)
          obtain ⟨gc, rfl, hgc, hcc⟩ := N17.out (by rw [HLZ.out]; omega)
          have ya := (KL.out.cell (p := ⟨ga, j, none⟩) hga).trans (hca j (by rw [HLZ.out]; exact hjl))
          have yb := (KL.out.cell (p := ⟨gb, j, none⟩) hgb).trans (hcb j (by rw [HLZ.out]; exact hjl))
          have yc := (KL.out.cell (p := ⟨gc, j, none⟩) hgc).trans (hcc j (by rw [HLZ.out]; exact hjl))
          generalize z.getD j 0 = bz at *
          have g1 : decide (lz ≤ j) = false := decide_eq_false (by omega)
          have g2 : decide ((j : Int) < 0) = false := decide_eq_false (by omega)
          have g3 : (j : Int) < lz := by omega
          clear hca hcb hcc hga hgb hgc
          go_wp2_with (go_quiet (fail))
          go_roundw
          case rel => exact ⟨j + 1, by omega, by go_num, belowN KL.out⟩
          case measure => simp [intOf]; omega
        · obtain rfl : lz = j := by omega
          have gll : decide ((lz : Int) < lz) = false := decide_eq_false (by omega)
          rename World => wl
          have KQ := Lib.hid (K6.out.trans (KL.out.mono K6.out.size))
          have BL := Lib.hid (BQ.out.below KQ.out QL.out)
          have LL := Lib.hid BL.out.lt
          have HRl := Lib.hid ((HR.out.below KA.out (Nat.le_refl _)).below KQ.out (Nat.le_refl _))
          have v0 : wl.cell? ⟨w.heap.size, 0, none⟩ = some (.string an) := BL.out.cell 0
          have v1 : wl.cell? ⟨w.heap.size, 1, none⟩ = some (.int .i64 av) := BL.out.cell 1
          have v2 : wl.cell? ⟨w.heap.size, 2, none⟩ = some (.string un) := BL.out.cell 2
          have v3 : wl.cell? ⟨w.heap.size, 3, none⟩ = some (.int .i64 uv) := BL.out.cell 3
          clear N13f N15f N17 HLZ KL K6
          go_upto_region 22 with fail
          go_cut [21] from 147 to 171 (fun h wx => h = .int .i64 E4 ∧ Below wl.heap.size wl wx)
          case first =>
            have YR : Hid (∀ V : World, Below wl.heap.size wl V → (V.cell? ⟨w.heap.size, 0, none⟩ = some (.string an) ∧ V.cell? ⟨w.heap.size, 1, none⟩ = some (.int .i64 av) ∧ V.cell? ⟨w.heap.size, 2, none⟩ = some (.string un) ∧ V.cell? ⟨w.heap.size, 3, none⟩ = some (.int .i64 uv))) := Lib.hid (fun V hV =>
              ⟨(hV.cell (p := ⟨w.heap.size, 0, none⟩) LL.out).trans v0, (hV.cell (p := ⟨w.heap.size, 1, none⟩) LL.out).trans v1, (hV.cell (p := ⟨w.heap.size, 2, none⟩) LL.out).trans v2, (hV.cell (p := ⟨w.heap.size, 3, none⟩) LL.out).trans v3⟩)
            have KD := Lib.hid (Below.refl wl.heap.size wl).drew
            refine wp_region_held_drew (S := (fun V : World => V.cell? ⟨w.heap.size, 0, none⟩ = some (.string an) ∧ V.cell? ⟨w.heap.size, 1, none⟩ = some (.int .i64 av) ∧ V.cell? ⟨w.heap.size, 2, none⟩ = some (.string un) ∧ V.cell? ⟨w.heap.size, 3, none⟩ = some (.int .i64 uv))) (by kernel_rfl) (YR.out _ KD.out) (fun hS0 => ?_)
            refine ah_take (i := 1) (v := ?_) (some 149) rfl rfl (by kernel_rfl) (by kernel_rfl) (by kernel_rfl) (fun _ _ _ h => h) (by kernel_rfl) ?_ (by assumption) ?_
            rotate_left
            · (intro w hSw; (try dsimp only at hSw); go_simp; (first | done | with_reducible rfl))
            simp only [Act.put, List.setIfInBounds_toArray, List.set_cons_zero, List.set_cons_succ]
            refine ah_take (i := 3) (v := ?_) (some 151) rfl rfl (by kernel_rfl) (by kernel_rfl) (by kernel_rfl) (fun _ _ _ h => h) (by kernel_rfl) ?_ (by assumption) ?_
            rotate_left
            · (intro w hSw; (try dsimp only at hSw); go_simp; (first | done | with_reducible rfl))
            simp only [Act.put, List.setIfInBounds_toArray, List.set_cons_zero, List.set_cons_succ]
            refine ah_take (i := 6) (v := ?_) (some 154) rfl rfl (by kernel_rfl) (by kernel_rfl) (by kernel_rfl) (fun _ _ _ h => h) (by kernel_rfl) ?_ (by assumption) ?_
            rotate_left
            · (intro w hSw; (try dsimp only at hSw); go_simp; (first | done | with_reducible rfl))
            simp only [Act.put, List.setIfInBounds_toArray, List.set_cons_zero, List.set_cons_succ]
            refine ah_take (i := 7) (v := ?_) (some 155) rfl rfl (by kernel_rfl) (by kernel_rfl) (by kernel_rfl) (fun _ _ _ h => h) (by kernel_rfl) ?_ (by assumption) ?_
            rotate_left
            · (intro w hSw; (try dsimp only at hSw); go_simp; (first | done | with_reducible rfl))
            simp only [Act.put, List.setIfInBounds_toArray, List.set_cons_zero, List.set_cons_succ]
            refine wpAnyH_ready (rs := [0, 4]) (by kernel_rfl) (by simp) ?_
            refine AllReadyH.cons rfl (fun K hK => ?_) (AllReadyH.cons rfl (fun K hK => ?_) AllReadyH.nil)
            · go_simp
              obtain ⟨w0x, hw0x⟩ : ∃ w0x, (wl.alloc (.cells #[] 37)).drew = w0x := ⟨_, rfl⟩
              rw [hw0x]
              have K0x := Lib.hid (show Below wl.heap.size wl w0x by rw [← hw0x]; exact ((Below.refl _ _).alloc (Nat.le_refl _) _).drew)
              have R0x := Lib.hid (show w0x.ownsRow wl.heap.size 37 4 (.slice (some ⟨wl.heap.size, 0, none⟩) 0 0) 0 [] by rw [← hw0x]; exact (own_none37 wl).kept (gb_drew (World.grownBy.refl _ _)) (Classical.em _))
              have Z0x := Lib.hid (show wl.heap.size ≤ w0x.heap.size by rw [← hw0x]; simp)
              have Z0w := Lib.hid (show wl.heap.size ≤ wl.heap.size by exact Nat.le_refl _)
              clear hw0x
              refine hK.out _ _ (YR.out _ K0x.out) (fun hH1 => ?_)
              try simp only [Act.put, List.setIfInBounds_toArray, List.set_cons_zero, List.set_cons_succ]
              clear hK K
              refine wpAnyH_ready (rs := [2, 4]) (by kernel_rfl) (by simp) ?_
              refine AllReadyH.cons rfl (fun K hK => ?_) (AllReadyH.cons rfl (fun K hK => ?_) AllReadyH.nil)
              · refine step_append_rows rfl _ _ rfl (wl.heap.size) _ 0 [] rfl R0x.out A3 m c3 Rw rfl (HRl.out.below K0x.out (Nat.le_refl _)) HZ.out (by omega) Z0x.out ?_
                intro v2x w2x r2x g2x
                have K2x := Lib.hid (K0x.out.grown g2x K0x.out.size (fun i e => Nat.le_trans Z0w.out (R0x.out.lt i e).1))
                have R2x := Lib.hid r2x
                have Z2x := Lib.hid (Nat.le_trans Z0x.out g2x.size)
                clear r2x g2x
                refine hK.out _ _ (YR.out _ K2x.out) (fun hH2 => ?_)
                try simp only [Act.put, List.setIfInBounds_toArray]
                clear hK K
                refine wpAnyH_ready (rs := [4]) (by kernel_rfl) (by simp) ?_
                refine AllReadyH.cons rfl (fun K hK => ?_) AllReadyH.nil
                go_simp
                obtain ⟨w4x, hw4x⟩ : ∃ w4x, w2x.alloc (.cells #[.string an, .int .i64 av, .string un, .int .i64 uv] 37) = w4x := ⟨_, rfl⟩
                rw [hw4x]
                have K4x := Lib.hid (show Below wl.heap.size wl w4x by rw [← hw4x]; exact K2x.out.alloc K2x.out.size _)
                have B4x := Lib.hid (show Blk w4x w2x.heap.size 37 #[.string an, .int .i64 av, .string un, .int .i64 uv] by rw [← hw4x]; exact Blk.made _ _ _)
                have R2xy := Lib.hid (show w4x.ownsRow wl.heap.size 37 4 v2x (0 + m) ([] ++ rl4 Rw m) by rw [← hw4x]; exact R2x.out.alloc _)
                have Z4x := Lib.hid (show wl.heap.size ≤ w4x.heap.size by rw [← hw4x]; have := Z2x.out; simp; omega)
                have NE4 : Hid (some w2x.heap.size ≠ (v2x : Value).ownBlock) := Lib.hid (fun e => absurd (R2x.out.lt _ e.symm).2 (Nat.lt_irrefl _))
                clear hw4x
                refine hK.out _ _ (YR.out _ K4x.out) (fun hH3 => ?_)
                try simp only [Act.put, List.setIfInBounds_toArray, List.set_cons_zero, List.set_cons_succ]
                clear hK K
                refine wpAnyH_ready (rs := [5]) (by kernel_rfl) (by simp) ?_
                refine AllReadyH.cons rfl (fun K hK => ?_) AllReadyH.nil
                refine step_append_rows rfl _ _ rfl (wl.heap.size) _ (0 + m) ([] ++ rl4 Rw m) rfl R2xy.out (some ⟨w2x.heap.size, 0, none⟩) 1 1 (fun _ => ((an, av), (un, uv))) rfl (row_made (r := ((an, av), (un, uv))) B4x.out) (fun h => by cases h) (by omega) Z4x.out ?_
                intro v5x w5x r5x g5x
                have K5x := Lib.hid (K4x.out.grown g5x K4x.out.size (fun i e => Nat.le_trans Z0w.out (R2xy.out.lt i e).1))
                rw [List.nil_append, rl4_app, Nat.zero_add] at r5x
                obtain ⟨A5, c5, rfl, h5, _⟩ := own_rows (by omega) r5x
                have H5 := Lib.hid h5
                clear r5x g5x h5
                refine hK.out _ _ (YR.out _ K5x.out) (fun hH4 => ?_)
                try simp only [Act.put, List.setIfInBounds_toArray]
                clear hK K
                refine wpAnyH_ready (rs := [8]) (by kernel_rfl) (by simp) ?_
                refine AllReadyH.cons rfl (fun K hK => ?_) AllReadyH.nil
                go_simp
                refine (O4.out w5x A5 c5 (KQ.out.trans (K5x.out.mono KQ.out.size)) H5.out).mono ?_
                rintro e w8x ⟨k8x, A20, c20, rfl, _⟩
                have K8x := Lib.hid (K5x.out.trans (k8x.mono K5x.out.size))
                clear k8x
                refine hK.out _ _ (YR.out _ K8x.out) (fun hH5 => ?_)
                try simp only [Act.put, List.setIfInBounds_toArray, List.set_cons_zero, List.set_cons_succ]
                clear hK K
                refine ah_take (i := 9) (v := ?_) (some 147) rfl rfl (by kernel_rfl) (by kernel_rfl) (by kernel_rfl) (fun _ _ _ h => h) (by kernel_rfl) ?_ (by assumption) ?_
                rotate_left
                · (intro w hSw; (try dsimp only at hSw); go_simp; (first | done | with_reducible rfl))
                simp only [Act.put, List.setIfInBounds_toArray, List.set_cons_zero, List.set_cons_succ]
                refine ah_take (i := 10) (v := ?_) (some 157) rfl rfl (by kernel_rfl) (by kernel_rfl) (by kernel_rfl) (fun _ _ _ h => h) (by kernel_rfl) ?_ (by assumption) ?_
                rotate_left
                · (intro w hSw; (try dsimp only at hSw); go_simp; (first | done | with_reducible rfl))
                simp only [Act.put, List.setIfInBounds_toArray, List.set_cons_zero, List.set_cons_succ]
                refine ah_take (i := 11) (v := ?_) (some 158) rfl rfl (by kernel_rfl) (by kernel_rfl) (by kernel_rfl) (fun _ _ _ h => h) (by kernel_rfl) ?_ (by assumption) ?_
                rotate_left
                · (intro w hSw; (try dsimp only at hSw); go_simp; (first | done | with_reducible rfl))
                simp only [Act.put, List.setIfInBounds_toArray, List.set_cons_zero, List.set_cons_succ]
                refine ah_take (i := 12) (v := ?_) (some 20) rfl rfl (by kernel_rfl) (by kernel_rfl) (by kernel_rfl) (fun _ _ _ h => h) (by kernel_rfl) ?_ (by assumption) ?_
                rotate_left
                · (intro w hSw; (try dsimp only at hSw); go_simp; (first | done | with_reducible rfl))
                simp only [Act.put, List.setIfInBounds_toArray, List.set_cons_zero, List.set_cons_succ]
                refine ah_take (i := 13) (v := ?_) (some 21) rfl rfl (by kernel_rfl) (by kernel_rfl) (by kernel_rfl) (fun _ _ _ h => h) (by kernel_rfl) ?_ (by assumption) ?_
                rotate_left
                · (intro w hSw; (try dsimp only at hSw); go_simp; (first | done | with_reducible rfl))
                simp only [Act.put, List.setIfInBounds_toArray, List.set_cons_zero, List.set_cons_succ]
                refine wpAnyH_done (by kernel_rfl) ?_ _
                try clear hH1 hH2 hH3 hH4 hH5 hS0
                go_wp2_with fail
                go_meet
                case rel => exact ⟨rfl, K8x.out⟩
              · go_simp
                obtain ⟨w4x, hw4x⟩ : ∃ w4x, w0x.alloc (.cells #[.string an, .int .i64 av, .string un, .int .i64 uv] 37) = w4x := ⟨_, rfl⟩
                rw [hw4x]
                have K4x := Lib.hid (show Below wl.heap.size wl w4x by rw [← hw4x]; exact K0x.out.alloc K0x.out.size _)
                have B4x := Lib.hid (show Blk w4x w0x.heap.size 37 #[.string an, .int .i64 av, .string un, .int .i64 uv] by rw [← hw4x]; exact Blk.made _ _ _)
                have R0xy := Lib.hid (show w4x.ownsRow wl.heap.size 37 4 (.slice (some ⟨wl.heap.size, 0, none⟩) 0 0) 0 [] by rw [← hw4x]; exact R0x.out.alloc _)
                have Z4x := Lib.hid (show wl.heap.size ≤ w4x.heap.size by rw [← hw4x]; have := Z0x.out; simp; omega)
                have NE4 : Hid (some w0x.heap.size ≠ ((.slice (some ⟨wl.heap.size, 0, none⟩) 0 0) : Value).ownBlock) := Lib.hid (fun e => absurd (R0x.out.lt _ e.symm).2 (Nat.lt_irrefl _))
                clear hw4x
                refine hK.out _ _ (YR.out _ K4x.out) (fun hH2 => ?_)
                try simp only [Act.put, List.setIfInBounds_toArray, List.set_cons_zero, List.set_cons_succ]
                clear hK K
                refine wpAnyH_ready (rs := [2]) (by kernel_rfl) (by simp) ?_
                refine AllReadyH.cons rfl (fun K hK => ?_) AllReadyH.nil
                refine step_append_rows rfl _ _ rfl (wl.heap.size) _ 0 [] rfl R0xy.out A3 m c3 Rw rfl (HRl.out.below K4x.out (Nat.le_refl _)) HZ.out (by omega) Z4x.out ?_
                intro v2x w2x r2x g2x
                have K2x := Lib.hid (K4x.out.grown g2x K4x.out.size (fun i e => Nat.le_trans Z0w.out (R0xy.out.lt i e).1))
                have R2x := Lib.hid r2x
                have Z2x := Lib.hid (Nat.le_trans Z4x.out g2x.size)
                have B4z := Lib.hid (B4x.out.grown g2x NE4.out)
                clear r2x g2x
                refine hK.out _ _ (YR.out _ K2x.out) (fun hH3 => ?_)
                try simp only [Act.put, List.setIfInBounds_toArray]
                clear hK K
                refine wpAnyH_ready (rs := [5]) (by kernel_rfl) (by simp) ?_
                refine AllReadyH.cons rfl (fun K hK => ?_) AllReadyH.nil
                refine step_append_rows rfl _ _ rfl (wl.heap.size) _ (0 + m) ([] ++ rl4 Rw m) rfl R2x.out (some ⟨w0x.heap.size, 0, none⟩) 1 1 (fun _ => ((an, av), (un, uv))) rfl (row_made (r := ((an, av), (un, uv))) B4z.out) (fun h => by cases h) (by omega) Z2x.out ?_
                intro v5x w5x r5x g5x
                have K5x := Lib.hid (K2x.out.grown g5x K2x.out.size (fun i e => Nat.le_trans Z0w.out (R2x.out.lt i e).1))
                rw [List.nil_append, rl4_app, Nat.zero_add] at r5x
                obtain ⟨A5, c5, rfl, h5, _⟩ := own_rows (by omega) r5x
                have H5 := Lib.hid h5
                clear r5x g5x h5
                refine hK.out _ _ (YR.out _ K5x.out) (fun hH4 => ?_)
                try simp only [Act.put]
                clear hK K
                refine wpAnyH_ready (rs := [8]) (by kernel_rfl) (by simp) ?_
                refine AllReadyH.cons rfl (fun K hK => ?_) AllReadyH.nil
                go_simp
                refine (O4.out w5x A5 c5 (KQ.out.trans (K5x.out.mono KQ.out.size)) H5.out).mono ?_
                rintro e w8x ⟨k8x, A20, c20, rfl, _⟩
                have K8x := Lib.hid (K5x.out.trans (k8x.mono K5x.out.size))
                clear k8x
                refine hK.out _ _ (YR.out _ K8x.out) (fun hH5 => ?_)
                try simp only [Act.put, List.setIfInBounds_toArray, List.set_cons_zero, List.set_cons_succ]
                clear hK K
                refine ah_take (i := 9) (v := ?_) (some 147) rfl rfl (by kernel_rfl) (by kernel_rfl) (by kernel_rfl) (fun _ _ _ h => h) (by kernel_rfl) ?_ (by assumption) ?_
                rotate_left
                · (intro w hSw; (try dsimp only at hSw); go_simp; (first | done | with_reducible rfl))
                simp only [Act.put, List.setIfInBounds_toArray, List.set_cons_zero, List.set_cons_succ]
                refine ah_take (i := 10) (v := ?_) (some 157) rfl rfl (by kernel_rfl) (by kernel_rfl) (by kernel_rfl) (fun _ _ _ h => h) (by kernel_rfl) ?_ (by assumption) ?_
                rotate_left
                · (intro w hSw; (try dsimp only at hSw); go_simp; (first | done | with_reducible rfl))
                simp only [Act.put, List.setIfInBounds_toArray, List.set_cons_zero, List.set_cons_succ]
                refine ah_take (i := 11) (v := ?_) (some 158) rfl rfl (by kernel_rfl) (by kernel_rfl) (by kernel_rfl) (fun _ _ _ h => h) (by kernel_rfl) ?_ (by assumption) ?_
                rotate_left
                · (intro w hSw; (try dsimp only at hSw); go_simp; (first | done | with_reducible rfl))
                simp only [Act.put, List.setIfInBounds_toArray, List.set_cons_zero, List.set_cons_succ]
                refine ah_take (i := 12) (v := ?_) (some 20) rfl rfl (by kernel_rfl) (by kernel_rfl) (by kernel_rfl) (fun _ _ _ h => h) (by kernel_rfl) ?_ (by assumption) ?_
                rotate_left
                · (intro w hSw; (try dsimp only at hSw); go_simp; (first | done | with_reducible rfl))
                simp only [Act.put, List.setIfInBounds_toArray, List.set_cons_zero, List.set_cons_succ]
                refine ah_take (i := 13) (v := ?_) (some 21) rfl rfl (by kernel_rfl) (by kernel_rfl) (by kernel_rfl) (fun _ _ _ h => h) (by kernel_rfl) ?_ (by assumption) ?_
                rotate_left
                · (intro w hSw; (try dsimp only at hSw); go_simp; (first | done | with_reducible rfl))
                simp only [Act.put, List.setIfInBounds_toArray, List.set_cons_zero, List.set_cons_succ]
                refine wpAnyH_done (by kernel_rfl) ?_ _
                try clear hH1 hH2 hH3 hH4 hH5 hS0
                go_wp2_with fail
                go_meet
                case rel => exact ⟨rfl, K8x.out⟩
            · go_simp
              obtain ⟨w4x, hw4x⟩ : ∃ w4x, (wl.alloc (.cells #[.string an, .int .i64 av, .string un, .int .i64 uv] 37)).drew = w4x := ⟨_, rfl⟩
              rw [hw4x]
              have K4x := Lib.hid (show Below wl.heap.size wl w4x by rw [← hw4x]; exact ((Below.refl _ _).alloc (Nat.le_refl _) _).drew)
              have B4x := Lib.hid (show Blk w4x wl.heap.size 37 #[.string an, .int .i64 av, .string un, .int .i64 uv] by rw [← hw4x]; exact (Blk.made wl _ _).drew)
              clear hw4x
              refine hK.out _ _ (YR.out _ K4x.out) (fun hH1 => ?_)
              try simp only [Act.put, List.setIfInBounds_toArray, List.set_cons_zero, List.set_cons_succ]
              clear hK K
              refine wpAnyH_ready (rs := [0]) (by kernel_rfl) (by simp) ?_
              refine AllReadyH.cons rfl (fun K hK => ?_) AllReadyH.nil
              go_simp
              obtain ⟨w0x, hw0x⟩ : ∃ w0x, w4x.alloc (.cells #[] 37) = w0x := ⟨_, rfl⟩
              rw [hw0x]
              have K0x := Lib.hid (show Below wl.heap.size wl w0x by rw [← hw0x]; exact K4x.out.alloc K4x.out.size _)
              have R0x := Lib.hid (show w0x.ownsRow w4x.heap.size 37 4 (.slice (some ⟨w4x.heap.size, 0, none⟩) 0 0) 0 [] by rw [← hw0x]; exact own_none37 w4x)
              have B4y := Lib.hid (show Blk w0x wl.heap.size 37 #[.string an, .int .i64 av, .string un, .int .i64 uv] by rw [← hw0x]; exact B4x.out.alloc _)
              have Z0x := Lib.hid (show w4x.heap.size ≤ w0x.heap.size by rw [← hw0x]; simp)
              have Z0w := Lib.hid (show wl.heap.size ≤ w4x.heap.size by exact K4x.out.size)
              clear hw0x
              refine hK.out _ _ (YR.out _ K0x.out) (fun hH2 => ?_)
              try simp only [Act.put, List.setIfInBounds_toArray, List.set_cons_zero, List.set_cons_succ]
              clear hK K
              refine wpAnyH_ready (rs := [2]) (by kernel_rfl) (by simp) ?_
              refine AllReadyH.cons rfl (fun K hK => ?_) AllReadyH.nil
              refine step_append_rows rfl _ _ rfl (w4x.heap.size) _ 0 [] rfl R0x.out A3 m c3 Rw rfl (HRl.out.below K0x.out (Nat.le_refl _)) HZ.out (by omega) Z0x.out ?_
              intro v2x w2x r2x g2x
              have K2x := Lib.hid (K0x.out.grown g2x K0x.out.size (fun i e => Nat.le_trans Z0w.out (R0x.out.lt i e).1))
              have R2x := Lib.hid r2x
              have Z2x := Lib.hid (Nat.le_trans Z0x.out g2x.size)
              have B4z := Lib.hid (B4y.out.grown g2x (fun e => by have h := B4x.out.lt; have e' : some wl.heap.size = some w4x.heap.size := e; injection e' with e'; omega))
              clear r2x g2x
              refine hK.out _ _ (YR.out _ K2x.out) (fun hH3 => ?_)
              try simp only [Act.put, List.setIfInBounds_toArray]
              clear hK K
              refine wpAnyH_ready (rs := [5]) (by kernel_rfl) (by simp) ?_
              refine AllReadyH.cons rfl (fun K hK => ?_) AllReadyH.nil
              refine step_append_rows rfl _ _ rfl (w4x.heap.size) _ (0 + m) ([] ++ rl4 Rw m) rfl R2x.out (some ⟨wl.heap.size, 0, none⟩) 1 1 (fun _ => ((an, av), (un, uv))) rfl (row_made (r := ((an, av), (un, uv))) B4z.out) (fun h => by cases h) (by omega) Z2x.out ?_
              intro v5x w5x r5x g5x
              have K5x := Lib.hid (K2x.out.grown g5x K2x.out.size (fun i e => Nat.le_trans Z0w.out (R2x.out.lt i e).1))
              rw [List.nil_append, rl4_app, Nat.zero_add] at r5x
              obtain ⟨A5, c5, rfl, h5, _⟩ := own_rows (by omega) r5x
              have H5 := Lib.hid h5
              clear r5x g5x h5
              refine hK.out _ _ (YR.out _ K5x.out) (fun hH4 => ?_)
              try simp only [Act.put]
              clear hK K
              refine wpAnyH_ready (rs := [8]) (by kernel_rfl) (by simp) ?_
              refine AllReadyH.cons rfl (fun K hK => ?_) AllReadyH.nil
              go_simp
              refine (O4.out w5x A5 c5 (KQ.out.trans (K5x.out.mono KQ.out.size)) H5.out).mono ?_
              rintro e w8x ⟨k8x, A20, c20, rfl, _⟩
              have K8x := Lib.hid (K5x.out.trans (k8x.mono K5x.out.size))
              clear k8x
              refine hK.out _ _ (YR.out _ K8x.out) (fun hH5 => ?_)
              try simp only [Act.put, List.setIfInBounds_toArray, List.set_cons_zero, List.set_cons_succ]
              clear hK K
              refine ah_take (i := 9) (v := ?_) (some 147) rfl rfl (by kernel_rfl) (by kernel_rfl) (by kernel_rfl) (fun _ _ _ h => h) (by kernel_rfl) ?_ (by assumption) ?_
              rotate_left
              · (intro w hSw; (try dsimp only at hSw); go_simp; (first | done | with_reducible rfl))
              simp only [Act.put, List.setIfInBounds_toArray, List.set_cons_zero, List.set_cons_succ]
              refine ah_take (i := 10) (v := ?_) (some 157) rfl rfl (by kernel_rfl) (by kernel_rfl) (by kernel_rfl) (fun _ _ _ h => h) (by kernel_rfl) ?_ (by assumption) ?_
              rotate_left
              · (intro w hSw; (try dsimp only at hSw); go_simp; (first | done | with_reducible rfl))
              simp only [Act.put, List.setIfInBounds_toArray, List.set_cons_zero, List.set_cons_succ]
              refine ah_take (i := 11) (v := ?_) (some 158) rfl rfl (by kernel_rfl) (by kernel_rfl) (by kernel_rfl) (fun _ _ _ h => h) (by kernel_rfl) ?_ (by assumption) ?_
              rotate_left
              · (intro w hSw; (try dsimp only at hSw); go_simp; (first | done | with_reducible rfl))
              simp only [Act.put, List.setIfInBounds_toArray, List.set_cons_zero, List.set_cons_succ]
              refine ah_take (i := 12) (v := ?_) (some 20) rfl rfl (by kernel_rfl) (by kernel_rfl) (by kernel_rfl) (fun _ _ _ h => h) (by kernel_rfl) ?_ (by assumption) ?_
              rotate_left
              · (intro w hSw; (try dsimp only at hSw); go_simp; (first | done | with_reducible rfl))
              simp only [Act.put, List.setIfInBounds_toArray, List.set_cons_zero, List.set_cons_succ]
              refine ah_take (i := 13) (v := ?_) (some 21) rfl rfl (by kernel_rfl) (by kernel_rfl) (by kernel_rfl) (fun _ _ _ h => h) (by kernel_rfl) ?_ (by assumption) ?_
              rotate_left
              · (intro w hSw; (try dsimp only at hSw); go_simp; (first | done | with_reducible rfl))
              simp only [Act.put, List.setIfInBounds_toArray, List.set_cons_zero, List.set_cons_succ]
              refine wpAnyH_done (by kernel_rfl) ?_ _
              try clear hH1 hH2 hH3 hH4 hH5 hS0
              go_wp2_with fail
              go_meet
              case rel => exact ⟨rfl, K8x.out⟩
          case rest =>
            obtain ⟨rfl, hkx⟩ := hcut
            have KE := Lib.hid (KA.out.trans ((KQ.out.trans (hkx.mono KQ.out.size)).mono KA.out.size))
            clear hkx v0 v1 v2 v3
            cases cn with
            | false =>
              go_wp2_with fail
              refine (awake_any wc).mono ?_
              rintro e w8 ⟨rfl, k8⟩
              have K8 := Lib.hid (KE.out.trans (k8.mono KE.out.size))
              clear k8
              go_wp2_with fail
              go_ret
              exact ⟨rfl, K8.out⟩
            | true =>
              rcases HE1.out with rfl | rfl | rfl
              · obtain rfl : E4 = 0 := HE.out rfl rfl
                go_wp2_with fail
                refine (awake_any wc).mono ?_
                rintro e w8 ⟨rfl, k8⟩
                have K8 := Lib.hid (KE.out.trans (k8.mono KE.out.size))
                clear k8
                go_wp2_with fail
                go_ret
                exact ⟨rfl, K8.out⟩
              · go_wp2_with fail
                refine (awake_any wc).mono ?_
                rintro e w8 ⟨rfl, k8⟩
                have K8 := Lib.hid (KE.out.trans (k8.mono KE.out.size))
                clear k8
                go_wp2_with fail
                go_ret
                exact ⟨rfl, K8.out⟩
              · go_wp2_with fail
                refine (awake_any wc).mono ?_
                rintro e w8 ⟨rfl, k8⟩
                have K8 := Lib.hid (KE.out.trans (k8.mono KE.out.size))
                clear k8
                go_wp2_with fail
                go_ret
                exact ⟨rfl, K8.out⟩
end Go.Proofs.Ytcjbjhkmnfegnaa
