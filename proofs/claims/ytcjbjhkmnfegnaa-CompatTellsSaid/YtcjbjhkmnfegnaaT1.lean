/-
  Contracts of the document's own names, concerns, Works (nacelleref39). No condition.
-/
import Derived.Test.YtcjbjhkmnfegnaaUn
import Derived.Deep.CutRange
namespace Go.Proofs.Ytcjbjhkmnfegnaa
open Go.RowKit Go.Shelf
set_option maxHeartbeats 1000000 in
theorem rnames_any (r : R) (u v : U) (w : World) :
    Calls Try.prog 35 #[rV r, uV u, uV v] w fun e w' => e = .returned (.bool (exa r u v)) ∧ Below w.heap.size w w' := by
  obtain ⟨⟨ra, rv⟩, ⟨rb, rq⟩⟩ := r
  obtain ⟨ua, uv⟩ := u
  obtain ⟨va, vv⟩ := v
  obtain ⟨W, hW⟩ : ∃ W, ((w.alloc (.cells #[.string ra, .int .i64 rv, .string rb, .int .i64 rq] 37)).alloc (.cells #[.string ua, .int .i64 uv] 40)).alloc (.cells #[.string va, .int .i64 vv] 40) = W := ⟨_, rfl⟩
  have kW : Below w.heap.size w W := by rw [← hW]; exact (((Below.refl _ _).alloc (Nat.le_refl _) _).alloc (by simp) _).alloc (by simp; omega) _
  have HW := Lib.hid hW
  have KW := Lib.hid kW
  clear hW kW
  by_cases h1 : ra = ua
  · by_cases h2 : rv = uv
    · by_cases h3 : rb = va
      · have he : Hid (exa ((ra, rv), rb, rq) (ua, uv) (va, vv) = (rq == vv)) := Lib.hid (by simp [exa, hit, h1, h2, h3])
        subst h1 h2 h3
        go_enter Try.func35, Try.ntmps35
        go_wp2_with fail
        go_ret
        rw [HW.out, he.out]
        exact ⟨rfl, KW.out⟩
      · have he : Hid (exa ((ra, rv), rb, rq) (ua, uv) (va, vv) = false) := Lib.hid (by simp [exa, hit, h3])
        have s3 := str_ne h3
        subst h1 h2
        go_enter Try.func35, Try.ntmps35
        go_wp2_with fail
        go_ret
        rw [HW.out, he.out]
        exact ⟨rfl, KW.out⟩
    · have he : Hid (exa ((ra, rv), rb, rq) (ua, uv) (va, vv) = false) := Lib.hid (by simp [exa, h2])
      have s2 : (rv == uv) = false := by simpa using h2
      subst h1
      go_enter Try.func35, Try.ntmps35
      go_wp2_with fail
      go_ret
      rw [HW.out, he.out]
      exact ⟨rfl, KW.out⟩
  · have he : Hid (exa ((ra, rv), rb, rq) (ua, uv) (va, vv) = false) := Lib.hid (by simp [exa, hit, h1])
    have s1 := str_ne h1
    go_enter Try.func35, Try.ntmps35
    go_wp2_with fail
    go_ret
    rw [HW.out, he.out]
    exact ⟨rfl, KW.out⟩
set_option maxHeartbeats 1000000 in
theorem rcon_any (r : R) (u v : U) (w : World) :
    Calls Try.prog 36 #[rV r, .string u.1, .string v.1] w fun e w' => e = .returned (.bool (hit r u v || hit r v u)) ∧ Below w.heap.size w w' := by
  obtain ⟨⟨ra, rv⟩, ⟨rb, rq⟩⟩ := r
  obtain ⟨ua, uv⟩ := u
  obtain ⟨va, vv⟩ := v
  obtain ⟨W, hW⟩ : ∃ W, w.alloc (.cells #[.string ra, .int .i64 rv, .string rb, .int .i64 rq] 37) = W := ⟨_, rfl⟩
  have kW : Below w.heap.size w W := by rw [← hW]; exact (Below.refl _ _).alloc (Nat.le_refl _) _
  have HW := Lib.hid hW
  have KW := Lib.hid kW
  clear hW kW
  obtain ⟨cn, hcn⟩ : ∃ cn, (hit ((ra, rv), rb, rq) (ua, uv) (va, vv) || hit ((ra, rv), rb, rq) (va, vv) (ua, uv)) = cn := ⟨_, rfl⟩
  have HCN := Lib.hid hcn.symm
  rw [hcn]
  clear hcn
  by_cases h1 : ra = ua
  · by_cases h2 : rb = va
    · obtain rfl : cn = true := by rw [HCN.out]; simp [hit, h1, h2]
      subst h1 h2
      go_enter Try.func36, Try.ntmps36
      go_wp2_with fail
      go_ret
      rw [HW.out]
      exact ⟨rfl, KW.out⟩
    · by_cases h3 : ra = va
      · by_cases h4 : rb = ua
        · exact absurd (h4.trans (h1.symm.trans h3)) h2
        · obtain rfl : cn = false := by rw [HCN.out]; simp [hit, h2, h4]
          have s2 := str_ne h2
          have s4 := str_ne h4
          subst h1 h3
          go_enter Try.func36, Try.ntmps36
          go_wp2_with fail
          go_ret
          rw [HW.out]
          exact ⟨rfl, KW.out⟩
      · obtain rfl : cn = false := by rw [HCN.out]; simp [hit, h2, h3]
        have s2 := str_ne h2
        have s3 := str_ne h3
        subst h1
        go_enter Try.func36, Try.ntmps36
        go_wp2_with fail
        go_ret
        rw [HW.out]
        exact ⟨rfl, KW.out⟩
  · have s1 := str_ne h1
    by_cases h3 : ra = va
    · by_cases h4 : rb = ua
      · obtain rfl : cn = true := by rw [HCN.out]; simp [hit, h3, h4]
        subst h3 h4
        go_enter Try.func36, Try.ntmps36
        go_wp2_with fail
        go_ret
        rw [HW.out]
        exact ⟨rfl, KW.out⟩
      · obtain rfl : cn = false := by rw [HCN.out]; simp [hit, h1, h4]
        have s4 := str_ne h4
        subst h3
        go_enter Try.func36, Try.ntmps36
        go_wp2_with fail
        go_ret
        rw [HW.out]
        exact ⟨rfl, KW.out⟩
    · obtain rfl : cn = false := by rw [HCN.out]; simp [hit, h1, h3]
      have s3 := str_ne h3
      go_enter Try.func36, Try.ntmps36
      go_wp2_with fail
      go_ret
      rw [HW.out]
      exact ⟨rfl, KW.out⟩
theorem fnd_mono {Rw : Nat → R} {u v : U} : ∀ {k n : Nat}, k ≤ n → fnd Rw u v k = true → fnd Rw u v n = true
  | k, 0, h, e => by obtain rfl : k = 0 := by omega
                     exact e
  | k, n + 1, h, e => by
    rcases Nat.lt_or_ge k (n + 1) with h' | h'
    · rw [fnd, fnd_mono (n := n) (by omega) e]; rfl
    · obtain rfl : k = n + 1 := by omega
      exact e
set_option maxRecDepth 100000 in
set_option maxHeartbeats 4000000 in
theorem rworks_any (A : Option Addr) (m c : Nat) (Rw : Nat → R) (u v : U) (w : World) (hR : RowsIn w A m Rw) :
    Calls Try.prog 19 #[.slice A m c, uV u, uV v] w fun e w' => e = .returned (.bool (works m Rw u v)) ∧ Below w.heap.size w w' := by
  have HR := Lib.hid hR
  have hmax := hR.1
  clear hR
  obtain ⟨ua, uv⟩ := u
  obtain ⟨va, vv⟩ := v
  obtain ⟨W, hW⟩ : ∃ W, (w.alloc (.cells #[.string ua, .int .i64 uv] 40)).alloc (.cells #[.string va, .int .i64 vv] 40) = W := ⟨_, rfl⟩
  have b4 : Blk W w.heap.size 40 #[.string ua, .int .i64 uv] := by rw [← hW]; exact (Blk.made _ _ _).alloc _
  have b5 : Blk W (w.heap.size + 1) 40 #[.string va, .int .i64 vv] := by rw [← hW]; exact Blk.made_at _ _ _ (by simp)
  have kW : Below w.heap.size w W := by rw [← hW]; exact ((Below.refl _ _).alloc (Nat.le_refl _) _).alloc (by simp) _
  have HW := Lib.hid hW
  have B4 := Lib.hid b4
  have B5 := Lib.hid b5
  have L4 := Lib.hid b4.lt
  have L5 := Lib.hid b5.lt
  have KW := Lib.hid kW
  clear hW b4 b5 kW
  go_enter Try.func19, Try.ntmps19
  go_wp2_with fail
  rw [HW.out]
  go_loopw [7, 8] (fun cv iv wr => ∃ k : Nat, k ≤ m ∧ iv = .int .i64 k ∧ cv = .bool (con Rw (ua, uv) (va, vv) k) ∧ fnd Rw (ua, uv) (va, vv) k = false ∧ Below W.heap.size W wr)
    (fun _ i _ => m - (intOf i).toNat)
  case atStart => exact ⟨0, Nat.zero_le _, rfl, rfl, rfl, Below.refl _ _⟩
  case round =>
    obtain ⟨k, hk, rfl, rfl, hf, kr⟩ := hrel
    have HF := Lib.hid hf
    have KR := Lib.hid kr
    have KA := Lib.hid (KW.out.trans (kr.mono KW.out.size))
    clear hf kr
    by_cases hkm : k < m
    · obtain ⟨rb, roff, rfl, hrb, hcell⟩ := HR.out.2 (by omega)
      obtain ⟨q0, q1, q2, q3⟩ := hcell k hkm
      have HC1 : Hid (con Rw (ua, uv) (va, vv) (k + 1) = (con Rw (ua, uv) (va, vv) k || hit (Rw k) (ua, uv) (va, vv) || hit (Rw k) (va, vv) (ua, uv))) := Lib.hid rfl
      have HF1 : Hid (fnd Rw (ua, uv) (va, vv) (k + 1) = (fnd Rw (ua, uv) (va, vv) k || exa (Rw k) (ua, uv) (va, vv) || exa (Rw k) (va, vv) (ua, uv))) := Lib.hid rfl
      obtain ⟨r, hr⟩ : ∃ r, Rw k = r := ⟨_, rfl⟩
      rw [hr] at q0 q1 q2 q3 HC1 HF1
      clear hcell hr
      obtain ⟨⟨ra, rv⟩, ⟨rn, rq⟩⟩ := r
      dsimp only at q0 q1 q2 q3
      have YR : Hid (∀ V : World, Below wr.heap.size wr V → (V.cell? ⟨rb, roff + k * 4, none⟩ = some (.string ra) ∧ V.cell? ⟨rb, roff + k * 4 + 1, none⟩ = some (.int .i64 rv) ∧ V.cell? ⟨rb, roff + k * 4 + 2, none⟩ = some (.string rn) ∧ V.cell? ⟨rb, roff + k * 4 + 3, none⟩ = some (.int .i64 rq) ∧ V.cell? ⟨w.heap.size, 0, none⟩ = some (.string ua) ∧ V.cell? ⟨w.heap.size, 1, none⟩ = some (.int .i64 uv) ∧ V.cell? ⟨w.heap.size + 1, 0, none⟩ = some (.string va) ∧ V.cell? ⟨w.heap.size + 1, 1, none⟩ = some (.int .i64 vv))) := Lib.hid (fun V hV => by
        have h1 := KA.out.trans (hV.mono KA.out.size)
        have h2 := KR.out.trans (hV.mono KR.out.size)
        exact ⟨(h1.cell (p := ⟨rb, roff + k * 4, none⟩) hrb).trans q0, (h1.cell (p := ⟨rb, roff + k * 4 + 1, none⟩) hrb).trans q1, (h1.cell (p := ⟨rb, roff + k * 4 + 2, none⟩) hrb).trans q2, (h1.cell (p := ⟨rb, roff + k * 4 + 3, none⟩) hrb).trans q3,
          (B4.out.below h2 L4.out).cell 0, (B4.out.below h2 L4.out).cell 1, (B5.out.below h2 L5.out).cell 0, (B5.out.below h2 L5.out).cell 1⟩)
      obtain ⟨cn, hcn⟩ : ∃ cn, con Rw (ua, uv) (va, vv) k = cn := ⟨_, rfl⟩
      rw [hcn] at HC1
      rw [hcn]
      obtain ⟨e1, he1⟩ : ∃ e, exa ((ra, rv), rn, rq) (ua, uv) (va, vv) = e := ⟨_, rfl⟩
      obtain ⟨e2, he2⟩ : ∃ e, exa ((ra, rv), rn, rq) (va, vv) (ua, uv) = e := ⟨_, rfl⟩
      rw [he1, he2] at HF1
      have HN1 := Lib.hid (fun V => rnames_any ((ra, rv), rn, rq) (ua, uv) (va, vv) V)
      have HN2 := Lib.hid (fun V => rnames_any ((ra, rv), rn, rq) (va, vv) (ua, uv) V)
      have HN3 := Lib.hid (fun V => rcon_any ((ra, rv), rn, rq) (ua, uv) (va, vv) V)
      rw [he1] at HN1
      rw [he2] at HN2
      obtain ⟨ch, hch⟩ : ∃ ch, (hit ((ra, rv), rn, rq) (ua, uv) (va, vv) || hit ((ra, rv), rn, rq) (va, vv) (ua, uv)) = ch := ⟨_, rfl⟩
      rw [hch] at HN3
      have HC2 : Hid (con Rw (ua, uv) (va, vv) (k + 1) = (cn || ch)) := Lib.hid (by rw [HC1.out, Bool.or_assoc, hch])
      have HWK : Hid (e1 = true ∨ e2 = true → works m Rw (ua, uv) (va, vv) = true) := Lib.hid (fun h => by
        have h1 : fnd Rw (ua, uv) (va, vv) (k + 1) = true := by rw [HF1.out]; rcases h with rfl | rfl <;> simp
        unfold works
        rw [fnd_mono (by omega) h1]
        rfl)
      have HFN : Hid (e1 = false → e2 = false → fnd Rw (ua, uv) (va, vv) (k + 1) = false) := Lib.hid (fun h1 h2 => by rw [HF1.out, h1, h2, HF.out]; rfl)
      have g1 : decide (m ≤ k) = false := decide_eq_false (by omega)
      have g2 : decide ((k : Int) < 0) = false := decide_eq_false (by omega)
      have g3 : (k : Int) < m := by omega
      have KD := Lib.hid (Below.refl wr.heap.size wr).drew
      clear hcn he1 he2 hch HC1 HF1 HF q0 q1 q2 q3
      go_upto_region 5 with fail
      refine wp_region_held_drew (S := (fun V : World => (V.cell? ⟨rb, roff + k * 4, none⟩ = some (.string ra) ∧ V.cell? ⟨rb, roff + k * 4 + 1, none⟩ = some (.int .i64 rv) ∧ V.cell? ⟨rb, roff + k * 4 + 2, none⟩ = some (.string rn) ∧ V.cell? ⟨rb, roff + k * 4 + 3, none⟩ = some (.int .i64 rq) ∧ V.cell? ⟨w.heap.size, 0, none⟩ = some (.string ua) ∧ V.cell? ⟨w.heap.size, 1, none⟩ = some (.int .i64 uv) ∧ V.cell? ⟨w.heap.size + 1, 0, none⟩ = some (.string va) ∧ V.cell? ⟨w.heap.size + 1, 1, none⟩ = some (.int .i64 vv)))) (by kernel_rfl) (YR.out _ KD.out) (fun hS0 => ?_)
      refine ah_take (i := 0) (v := ?_) (some 15) rfl rfl (by kernel_rfl) (by kernel_rfl) (by kernel_rfl) (fun _ _ _ h => h) (by kernel_rfl) ?_ (by assumption) ?_
      rotate_left
      · (intro w hSw; (try dsimp only at hSw); go_simp; (first | done | with_reducible rfl))
      simp only [Act.put, List.setIfInBounds_toArray, List.set_cons_zero, List.set_cons_succ]
      refine ah_take (i := 1) (v := ?_) (some 16) rfl rfl (by kernel_rfl) (by kernel_rfl) (by kernel_rfl) (fun _ _ _ h => h) (by kernel_rfl) ?_ (by assumption) ?_
      rotate_left
      · (intro w hSw; (try dsimp only at hSw); go_simp; (first | done | with_reducible rfl))
      simp only [Act.put, List.setIfInBounds_toArray, List.set_cons_zero, List.set_cons_succ]
      refine ah_take (i := 2) (v := ?_) (some 17) rfl rfl (by kernel_rfl) (by kernel_rfl) (by kernel_rfl) (fun _ _ _ h => h) (by kernel_rfl) ?_ (by assumption) ?_
      rotate_left
      · (intro w hSw; (try dsimp only at hSw); go_simp; (first | done | with_reducible rfl))
      simp only [Act.put, List.setIfInBounds_toArray, List.set_cons_zero, List.set_cons_succ]
      refine ah_take (i := 3) (v := ?_) (some 18) rfl rfl (by kernel_rfl) (by kernel_rfl) (by kernel_rfl) (fun _ _ _ h => h) (by kernel_rfl) ?_ (by assumption) ?_
      rotate_left
      · (intro w hSw; (try dsimp only at hSw); go_simp; (first | done | with_reducible rfl))
      simp only [Act.put, List.setIfInBounds_toArray, List.set_cons_zero, List.set_cons_succ]
      refine ah_take (i := 4) (v := ?_) (some 19) rfl rfl (by kernel_rfl) (by kernel_rfl) (by kernel_rfl) (fun _ _ _ h => h) (by kernel_rfl) ?_ (by assumption) ?_
      rotate_left
      · (intro w hSw; (try dsimp only at hSw); go_simp; (first | done | with_reducible rfl))
      simp only [Act.put, List.setIfInBounds_toArray, List.set_cons_zero, List.set_cons_succ]
      refine ah_take (i := 5) (v := ?_) (some 20) rfl rfl (by kernel_rfl) (by kernel_rfl) (by kernel_rfl) (fun _ _ _ h => h) (by kernel_rfl) ?_ (by assumption) ?_
      rotate_left
      · (intro w hSw; (try dsimp only at hSw); go_simp; (first | done | with_reducible rfl))
      simp only [Act.put, List.setIfInBounds_toArray, List.set_cons_zero, List.set_cons_succ]
      refine wpAnyH_ready (rs := [6]) (by kernel_rfl) (by simp) ?_
      refine AllReadyH.cons rfl (fun K hK => ?_) AllReadyH.nil
      go_simp
      refine (HN1.out _).mono ?_
      rintro e wx ⟨rfl, kx⟩
      have KX := Lib.hid (KD.out.trans kx)
      clear kx
      refine hK.out _ _ (YR.out _ KX.out) (fun hH1 => ?_)
      try simp only [Act.put, List.setIfInBounds_toArray, List.set_cons_zero, List.set_cons_succ]
      clear hK K
      refine ah_take (i := 7) (v := ?_) (some 22) rfl rfl (by kernel_rfl) (by kernel_rfl) (by kernel_rfl) (fun _ _ _ h => h) (by kernel_rfl) ?_ (by assumption) ?_
      rotate_left
      · (intro w hSw; (try dsimp only at hSw); go_simp; (first | done | with_reducible rfl))
      simp only [Act.put, List.setIfInBounds_toArray, List.set_cons_zero, List.set_cons_succ]
      cases e1 with
      | true =>
        refine ah_skip (i := 8) (some 23) rfl rfl (by kernel_rfl) (by kernel_rfl) (by kernel_rfl) (fun _ _ _ h => h) (by kernel_rfl) (by assumption) ?_
        simp only [Act.put, List.setIfInBounds_toArray, List.set_cons_zero, List.set_cons_succ]
        refine ah_skip (i := 9) (some 24) rfl rfl (by kernel_rfl) (by kernel_rfl) (by kernel_rfl) (fun _ _ _ h => h) (by kernel_rfl) (by assumption) ?_
        simp only [Act.put, List.setIfInBounds_toArray, List.set_cons_zero, List.set_cons_succ]
        refine ah_skip (i := 10) (some 25) rfl rfl (by kernel_rfl) (by kernel_rfl) (by kernel_rfl) (fun _ _ _ h => h) (by kernel_rfl) (by assumption) ?_
        simp only [Act.put, List.setIfInBounds_toArray, List.set_cons_zero, List.set_cons_succ]
        refine ah_skip (i := 11) (some 26) rfl rfl (by kernel_rfl) (by kernel_rfl) (by kernel_rfl) (fun _ _ _ h => h) (by kernel_rfl) (by assumption) ?_
        simp only [Act.put, List.setIfInBounds_toArray, List.set_cons_zero, List.set_cons_succ]
        refine ah_skip (i := 12) (some 27) rfl rfl (by kernel_rfl) (by kernel_rfl) (by kernel_rfl) (fun _ _ _ h => h) (by kernel_rfl) (by assumption) ?_
        simp only [Act.put, List.setIfInBounds_toArray, List.set_cons_zero, List.set_cons_succ]
        refine ah_skip (i := 13) (some 28) rfl rfl (by kernel_rfl) (by kernel_rfl) (by kernel_rfl) (fun _ _ _ h => h) (by kernel_rfl) (by assumption) ?_
        simp only [Act.put, List.setIfInBounds_toArray, List.set_cons_zero, List.set_cons_succ]
        refine ah_skip (i := 14) (some 29) rfl rfl (by kernel_rfl) (by kernel_rfl) (by kernel_rfl) (fun _ _ _ h => h) (by kernel_rfl) (by assumption) ?_
        simp only [Act.put, List.setIfInBounds_toArray, List.set_cons_zero, List.set_cons_succ]
        refine ah_take (i := 15) (v := ?_) (some 30) rfl rfl (by kernel_rfl) (by kernel_rfl) (by kernel_rfl) (fun _ _ _ h => h) (by kernel_rfl) ?_ (by assumption) ?_
        rotate_left
        · (intro w hSw; (try dsimp only at hSw); go_simp; (first | done | with_reducible rfl))
        simp only [Act.put, List.setIfInBounds_toArray, List.set_cons_zero, List.set_cons_succ]
        refine wpAnyH_done (by kernel_rfl) ?_ _
        try clear hH1 hS0
        go_wp2_with fail
        go_ret
        exact ⟨by rw [HWK.out (by simp)]; rfl, KA.out.trans (KX.out.mono KA.out.size)⟩
      | false =>
        refine ah_take (i := 8) (v := ?_) (some 23) rfl rfl (by kernel_rfl) (by kernel_rfl) (by kernel_rfl) (fun _ _ _ h => h) (by kernel_rfl) ?_ (by assumption) ?_
        rotate_left
        · (intro w hSw; (try dsimp only at hSw); go_simp; (first | done | with_reducible rfl))
        simp only [Act.put, List.setIfInBounds_toArray, List.set_cons_zero, List.set_cons_succ]
        refine ah_take (i := 9) (v := ?_) (some 24) rfl rfl (by kernel_rfl) (by kernel_rfl) (by kernel_rfl) (fun _ _ _ h => h) (by kernel_rfl) ?_ (by assumption) ?_
        rotate_left
        · (intro w hSw; (try dsimp only at hSw); go_simp; (first | done | with_reducible rfl))
        simp only [Act.put, List.setIfInBounds_toArray, List.set_cons_zero, List.set_cons_succ]
        refine ah_take (i := 10) (v := ?_) (some 25) rfl rfl (by kernel_rfl) (by kernel_rfl) (by kernel_rfl) (fun _ _ _ h => h) (by kernel_rfl) ?_ (by assumption) ?_
        rotate_left
        · (intro w hSw; (try dsimp only at hSw); go_simp; (first | done | with_reducible rfl))
        simp only [Act.put, List.setIfInBounds_toArray, List.set_cons_zero, List.set_cons_succ]
        refine ah_take (i := 11) (v := ?_) (some 26) rfl rfl (by kernel_rfl) (by kernel_rfl) (by kernel_rfl) (fun _ _ _ h => h) (by kernel_rfl) ?_ (by assumption) ?_
        rotate_left
        · (intro w hSw; (try dsimp only at hSw); go_simp; (first | done | with_reducible rfl))
        simp only [Act.put, List.setIfInBounds_toArray, List.set_cons_zero, List.set_cons_succ]
        refine ah_take (i := 12) (v := ?_) (some 27) rfl rfl (by kernel_rfl) (by kernel_rfl) (by kernel_rfl) (fun _ _ _ h => h) (by kernel_rfl) ?_ (by assumption) ?_
        rotate_left
        · (intro w hSw; (try dsimp only at hSw); go_simp; (first | done | with_reducible rfl))
        simp only [Act.put, List.setIfInBounds_toArray, List.set_cons_zero, List.set_cons_succ]
        refine ah_take (i := 13) (v := ?_) (some 28) rfl rfl (by kernel_rfl) (by kernel_rfl) (by kernel_rfl) (fun _ _ _ h => h) (by kernel_rfl) ?_ (by assumption) ?_
        rotate_left
        · (intro w hSw; (try dsimp only at hSw); go_simp; (first | done | with_reducible rfl))
        simp only [Act.put, List.setIfInBounds_toArray, List.set_cons_zero, List.set_cons_succ]
        refine wpAnyH_ready (rs := [14]) (by kernel_rfl) (by simp) ?_
        refine AllReadyH.cons rfl (fun K hK => ?_) AllReadyH.nil
        go_simp
        refine (HN2.out _).mono ?_
        rintro e wy ⟨rfl, ky⟩
        have KY := Lib.hid (KX.out.trans (ky.mono KX.out.size))
        clear ky
        refine hK.out _ _ (YR.out _ KY.out) (fun hH2 => ?_)
        try simp only [Act.put, List.setIfInBounds_toArray, List.set_cons_zero, List.set_cons_succ]
        clear hK K
        refine ah_take (i := 15) (v := ?_) (some 30) rfl rfl (by kernel_rfl) (by kernel_rfl) (by kernel_rfl) (fun _ _ _ h => h) (by kernel_rfl) ?_ (by assumption) ?_
        rotate_left
        · (intro w hSw; (try dsimp only at hSw); go_simp; (first | done | with_reducible rfl))
        simp only [Act.put, List.setIfInBounds_toArray, List.set_cons_zero, List.set_cons_succ]
        refine wpAnyH_done (by kernel_rfl) ?_ _
        try clear hH1 hH2 hS0
        cases e2 with
        | true =>
          go_wp2_with fail
          go_ret
          exact ⟨by rw [HWK.out (by simp)]; rfl, KA.out.trans (KY.out.mono KA.out.size)⟩
        | false =>
          go_upto_region 7 with fail
          have KYD := Lib.hid KY.out.drew
          refine wp_region_held_drew (S := (fun V : World => (V.cell? ⟨rb, roff + k * 4, none⟩ = some (.string ra) ∧ V.cell? ⟨rb, roff + k * 4 + 1, none⟩ = some (.int .i64 rv) ∧ V.cell? ⟨rb, roff + k * 4 + 2, none⟩ = some (.string rn) ∧ V.cell? ⟨rb, roff + k * 4 + 3, none⟩ = some (.int .i64 rq) ∧ V.cell? ⟨w.heap.size, 0, none⟩ = some (.string ua) ∧ V.cell? ⟨w.heap.size, 1, none⟩ = some (.int .i64 uv) ∧ V.cell? ⟨w.heap.size + 1, 0, none⟩ = some (.string va) ∧ V.cell? ⟨w.heap.size + 1, 1, none⟩ = some (.int .i64 vv)))) (by kernel_rfl) (YR.out _ KYD.out) (fun hS0 => ?_)
          refine ah_take (i := 0) (v := ?_) (some 31) rfl rfl (by kernel_rfl) (by kernel_rfl) (by kernel_rfl) (fun _ _ _ h => h) (by kernel_rfl) ?_ (by assumption) ?_
          rotate_left
          · (intro w hSw; (try dsimp only at hSw); go_simp; (first | done | with_reducible rfl))
          simp only [Act.put, List.setIfInBounds_toArray, List.set_cons_zero, List.set_cons_succ]
          refine ah_take (i := 1) (v := ?_) (some 32) rfl rfl (by kernel_rfl) (by kernel_rfl) (by kernel_rfl) (fun _ _ _ h => h) (by kernel_rfl) ?_ (by assumption) ?_
          rotate_left
          · (intro w hSw; (try dsimp only at hSw); go_simp; (first | done | with_reducible rfl))
          simp only [Act.put, List.setIfInBounds_toArray, List.set_cons_zero, List.set_cons_succ]
          refine ah_take (i := 2) (v := ?_) (some 33) rfl rfl (by kernel_rfl) (by kernel_rfl) (by kernel_rfl) (fun _ _ _ h => h) (by kernel_rfl) ?_ (by assumption) ?_
          rotate_left
          · (intro w hSw; (try dsimp only at hSw); go_simp; (first | done | with_reducible rfl))
          simp only [Act.put, List.setIfInBounds_toArray, List.set_cons_zero, List.set_cons_succ]
          refine ah_take (i := 3) (v := ?_) (some 34) rfl rfl (by kernel_rfl) (by kernel_rfl) (by kernel_rfl) (fun _ _ _ h => h) (by kernel_rfl) ?_ (by assumption) ?_
          rotate_left
          · (intro w hSw; (try dsimp only at hSw); go_simp; (first | done | with_reducible rfl))
          simp only [Act.put, List.setIfInBounds_toArray, List.set_cons_zero, List.set_cons_succ]
          refine ah_take (i := 4) (v := ?_) (some 35) rfl rfl (by kernel_rfl) (by kernel_rfl) (by kernel_rfl) (fun _ _ _ h => h) (by kernel_rfl) ?_ (by assumption) ?_
          rotate_left
          · (intro w hSw; (try dsimp only at hSw); go_simp; (first | done | with_reducible rfl))
          simp only [Act.put, List.setIfInBounds_toArray, List.set_cons_zero, List.set_cons_succ]
          refine ah_take (i := 5) (v := ?_) (some 36) rfl rfl (by kernel_rfl) (by kernel_rfl) (by kernel_rfl) (fun _ _ _ h => h) (by kernel_rfl) ?_ (by assumption) ?_
          rotate_left
          · (intro w hSw; (try dsimp only at hSw); go_simp; (first | done | with_reducible rfl))
          simp only [Act.put, List.setIfInBounds_toArray, List.set_cons_zero, List.set_cons_succ]
          refine ah_take (i := 6) (v := ?_) (some 37) rfl rfl (by kernel_rfl) (by kernel_rfl) (by kernel_rfl) (fun _ _ _ h => h) (by kernel_rfl) ?_ (by assumption) ?_
          rotate_left
          · (intro w hSw; (try dsimp only at hSw); go_simp; (first | done | with_reducible rfl))
          simp only [Act.put, List.setIfInBounds_toArray, List.set_cons_zero, List.set_cons_succ]
          refine ah_take (i := 7) (v := ?_) (some 38) rfl rfl (by kernel_rfl) (by kernel_rfl) (by kernel_rfl) (fun _ _ _ h => h) (by kernel_rfl) ?_ (by assumption) ?_
          rotate_left
          · (intro w hSw; (try dsimp only at hSw); go_simp; (first | done | with_reducible rfl))
          simp only [Act.put, List.setIfInBounds_toArray, List.set_cons_zero, List.set_cons_succ]
          refine wpAnyH_ready (rs := [8]) (by kernel_rfl) (by simp) ?_
          refine AllReadyH.cons rfl (fun K hK => ?_) AllReadyH.nil
          go_simp
          refine (HN3.out _).mono ?_
          rintro e wz ⟨rfl, kz⟩
          have KZ := Lib.hid (KYD.out.trans (kz.mono KYD.out.size))
          clear kz
          refine hK.out _ _ (YR.out _ KZ.out) (fun hH3 => ?_)
          try simp only [Act.put, List.setIfInBounds_toArray, List.set_cons_zero, List.set_cons_succ]
          clear hK K
          refine wpAnyH_done (by kernel_rfl) ?_ _
          try clear hH3 hS0
          cases ch with
          | true =>
            go_wp2_with fail
            go_roundw
            case rel => exact ⟨k + 1, by omega, by go_num, by rw [HC2.out]; simp, HFN.out rfl rfl, KR.out.trans (KZ.out.mono KR.out.size)⟩
            case measure => simp [intOf]; omega
          | false =>
            go_wp2_with fail
            go_roundw
            case rel => exact ⟨k + 1, by omega, by go_num, by rw [HC2.out]; simp, HFN.out rfl rfl, KR.out.trans (KZ.out.mono KR.out.size)⟩
            case measure => simp [intOf]; omega
    · obtain rfl : k = m := by omega
      have HWK : Hid (works k Rw (ua, uv) (va, vv) = !con Rw (ua, uv) (va, vv) k) := Lib.hid (by unfold works; rw [HF.out]; rfl)
      obtain ⟨cn, hcn⟩ : ∃ cn, con Rw (ua, uv) (va, vv) k = cn := ⟨_, rfl⟩
      rw [hcn] at HWK
      rw [hcn]
      clear hcn
      have gk : decide ((k : Int) < k) = false := decide_eq_false (by omega)
      go_wp2_with fail
      go_ret
      exact ⟨by rw [HWK.out]; rfl, KA.out⟩
end Go.Proofs.Ytcjbjhkmnfegnaa
