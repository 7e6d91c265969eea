/-
  The walk of the law CompatPairs.
-/
import Derived.Test.YtcjbjhkmnfegnaaUn
import Derived.Deep.CutRange
namespace Go.Proofs.Ytcjbjhkmnfegnaa
open Go.RowKit Go.Shelf
theorem fnd_comm (Rw : Nat → R) (u v : U) : ∀ k, fnd Rw u v k = fnd Rw v u k
  | 0 => rfl
  | k + 1 => by rw [fnd, fnd, fnd_comm Rw u v k, Bool.or_assoc, Bool.or_assoc, Bool.or_comm (exa _ u v)]
theorem con_comm (Rw : Nat → R) (u v : U) : ∀ k, con Rw u v k = con Rw v u k
  | 0 => rfl
  | k + 1 => by rw [con, con, con_comm Rw u v k, Bool.or_assoc, Bool.or_assoc, Bool.or_comm (hit _ u v)]
theorem works_comm (m : Nat) (Rw : Nat → R) (u v : U) : works m Rw u v = works m Rw v u := by unfold works; rw [fnd_comm, con_comm]
theorem compatible_both (A A2 : Option Addr) (m c n c2 : Nat) (Rw : Nat → R) (S : Nat → U) (w : World) (hR : RowsIn w A m Rw) (hU : UnitsIn w A2 n S) (hF : Fits S n) (hc : n ≤ c2) (h8 : n ≤ 8) :
    Calls Try.prog 13 #[.slice A m c, .slice A2 n c2] w fun e w' => e = .returned (.tuple #[.bool (dis S n && cmp m Rw S n), .int .i64 (if dis S n = true then 0 else 2)]) ∧ Below w.heap.size w w' := by
  cases hd : dis S n with
  | true =>
    refine (compatible_ok A A2 m c n c2 Rw S w hR hU hF hc (by omega) (by rw [hd]; simp [h8])).mono fun e w' h => ?_
    rw [Bool.true_and, if_pos rfl]
    exact h
  | false =>
    refine (compatible_bad A A2 m c n c2 S w hU hF (by omega) (by rw [hd]; simp)).mono fun e w' h => ?_
    rw [Bool.false_and, if_neg (by simp)]
    exact h
/-- two units, the second first -/
def two (b a : U) : Nat → U := fun k => if k = 0 then b else a
theorem two_cmp (m : Nat) (Rw : Nat → R) (b a : U) : cmp m Rw (two b a) 2 = works m Rw a b := by
  show ((true && inn m Rw (two b a 0) (two b a) 0) && inn m Rw (two b a 1) (two b a) 1) = _
  show ((true && true) && (true && works m Rw a b)) = _
  simp
theorem two_dis {b a : U} (h : ¬ b.1 = a.1) : dis (two b a) 2 = true := by
  show ((true && !false) && !(false || decide (b.1 = a.1))) = true
  simp [h]
theorem two_in {W : World} {g : Nat} {t : TypeId} {b a : U} (h : Blk W g t #[.string b.1, .int .i64 b.2, .string a.1, .int .i64 a.2]) : UnitsIn W (some ⟨g, 0, none⟩) 2 (two b a) := by
  refine ⟨by omega, fun _ => ⟨g, 0, rfl, h.lt, fun k hk => ?_⟩⟩
  rw [h.cell, h.cell]
  match k, hk with
  | 0, _ => exact ⟨rfl, rfl⟩
  | 1, _ => exact ⟨rfl, rfl⟩
theorem dis_mono {S : Nat → U} : ∀ {k n : Nat}, k ≤ n → dis S n = true → dis S k = true
  | k, 0, h, e => by obtain rfl : k = 0 := by omega
                     exact e
  | k, n + 1, h, e => by
    rcases Nat.lt_or_ge k (n + 1) with h' | h'
    · exact dis_mono (n := n) (by omega) (by simp only [dis, Bool.and_eq_true] at e; exact e.1)
    · obtain rfl : k = n + 1 := by omega
      exact e
theorem seen_mono {S : Nat → U} {x : ByteArray} : ∀ {k n : Nat}, k ≤ n → seen S x k = true → seen S x n = true
  | k, 0, h, e => by obtain rfl : k = 0 := by omega
                     exact e
  | k, n + 1, h, e => by
    rcases Nat.lt_or_ge k (n + 1) with h' | h'
    · rw [seen, seen_mono (n := n) (by omega) e]; rfl
    · obtain rfl : k = n + 1 := by omega
      exact e
theorem dup {S : Nat → U} {i j n : Nat} (hi : i < n) (hj : j < i) (h : (S j).1 = (S i).1) : dis S n = false := by
  cases hd : dis S n with
  | false => rfl
  | true =>
    have h1 := dis_mono (show i + 1 ≤ n by omega) hd
    rw [dis, seen_mono (show j + 1 ≤ i by omega) (by rw [seen]; simp [h])] at h1
    simp at h1
set_option maxRecDepth 100000 in
set_option maxHeartbeats 8000000 in
theorem lawPairs (A1 A3 : Option Addr) (m c3 n c1 : Nat) (Rw : Nat → R) (S : Nat → U) (u : U) (w : World) (hR : RowsIn w A3 m Rw) (hS : UnitsIn w A1 n S) (hF : Fits S n) (hc1 : n ≤ c1) (hcm : c1 ≤ 9223372036854775807) :
    Calls Try.prog 6 #[.slice A3 m c3, .slice A1 n c1, uV u] w fun e w' => e = .returned (.bool true) ∧ Below w.heap.size w w' := by
  have HS := Lib.hid hS
  have HR := Lib.hid hR
  have HF := Lib.hid hF
  have HM1 := Lib.hid hR.1
  clear hS hR hF
  obtain ⟨un, uv⟩ := u
  obtain ⟨W, hW⟩ : ∃ W, w.alloc (.cells #[.string un, .int .i64 uv] 40) = W := ⟨_, rfl⟩
  have bu : Blk W w.heap.size 40 #[.string un, .int .i64 uv] := by rw [← hW]; exact Blk.made _ _ _
  have kW : Below w.heap.size w W := by rw [← hW]; exact (Below.refl _ _).alloc (Nat.le_refl _) _
  have HW := Lib.hid hW
  have BU := Lib.hid bu
  have UL := Lib.hid bu.lt
  have KW := Lib.hid kW
  clear hW bu kW
  by_cases hm : 40 < m ∨ 8 < n
  · by_cases h40 : 40 < m
    · have g0 : decide (40 < m) = true := decide_eq_true h40
      go_enter Try.func6, Try.ntmps6
      go_wp2_with fail
      rw [HW.out]
      refine (awake_any W).mono ?_
      rintro e w1 ⟨rfl, k1⟩
      have K1 := Lib.hid (KW.out.trans (k1.mono KW.out.size))
      clear k1
      go_wp2_with fail
      go_ret
      exact ⟨rfl, K1.out⟩
    · have g0 : decide (40 < m) = false := decide_eq_false h40
      have h8 : 8 < n := by omega
      have g1 : decide (8 < n) = true := decide_eq_true h8
      go_enter Try.func6, Try.ntmps6
      go_wp2_with fail
      rw [HW.out]
      refine (awake_any W).mono ?_
      rintro e w1 ⟨rfl, k1⟩
      have K1 := Lib.hid (KW.out.trans (k1.mono KW.out.size))
      clear k1
      go_wp2_with fail
      go_ret
      exact ⟨rfl, K1.out⟩
  have h40 : ¬ 40 < m := fun h => hm (.inl h)
  have h8 : n ≤ 8 := by omega
  have g0 : decide (40 < m) = false := decide_eq_false h40
  have g1 : decide (8 < n) = false := decide_eq_false (by omega)
  clear hm
  have HCB := Lib.hid (fun (V : World) (hV : Below w.heap.size w V) => compatible_both A3 A1 m c3 n c1 Rw S V (HR.out.below hV (Nat.le_refl _)) (HS.out.below hV (Nat.le_refl _)) HF.out hc1 h8)
  have HWK := Lib.hid (fun (V : World) (a b : U) (hV : Below w.heap.size w V) => works_any A3 m c3 Rw a b V (HR.out.below hV (Nat.le_refl _)))
  obtain ⟨ds, hds⟩ : ∃ ds, dis S n = ds := ⟨_, rfl⟩
  have HDS := Lib.hid hds
  rw [hds] at HCB
  obtain ⟨ec, hec⟩ : ∃ ec : Int, (if ds = true then (0 : Int) else 2) = ec := ⟨_, rfl⟩
  obtain ⟨al, hal⟩ : ∃ al, (ds && cmp m Rw S n) = al := ⟨_, rfl⟩
  rw [hec, hal] at HCB
  have HEC := Lib.hid hec
  have HAL := Lib.hid hal
  clear hds hec hal
  go_enter Try.func6, Try.ntmps6
  go_wp2_with fail
  rw [HW.out]
  refine (HCB.out W KW.out).mono ?_
  rintro e w1 ⟨rfl, k1⟩
  have K1 := Lib.hid (KW.out.trans (k1.mono KW.out.size))
  have BU1 := Lib.hid (BU.out.below k1 BU.out.lt)
  have UL1 := Lib.hid BU1.out.lt
  clear k1 HCB
  go_wp2_with fail
  go_loopw [9, 36] (fun pv i wr => ∃ k : Nat, k ≤ n ∧ i = .int .i64 k ∧ pv = .bool (cmp m Rw S k) ∧ dis S k = true ∧ Below w1.heap.size w1 wr)
    (fun _ i _ => n - (intOf i).toNat)
  case atStart => exact ⟨0, Nat.zero_le _, rfl, rfl, rfl, Below.refl _ _⟩
  case round =>
    obtain ⟨i, hi, rfl, rfl, hdi, kr⟩ := hrel
    have HDI := Lib.hid hdi
    have KR := Lib.hid kr
    clear hdi kr
    by_cases hlt : i < n
    · obtain ⟨ob, off, rfl, hob, hcell⟩ := HS.out.2 (by omega)
      obtain ⟨q0, q1⟩ := hcell i hlt
      have HCELL := Lib.hid hcell
      clear hcell
      have KA := Lib.hid (K1.out.trans (KR.out.mono K1.out.size))
      have y0 := (KA.out.cell (p := ⟨ob, off + i * 2, none⟩) hob).trans q0
      have y1 := (KA.out.cell (p := ⟨ob, off + i * 2 + 1, none⟩) hob).trans q1
      have HCI : Hid (cmp m Rw S (i + 1) = (cmp m Rw S i && inn m Rw (S i) S i)) := Lib.hid rfl
      have HDI2 : Hid (dis S (i + 1) = (dis S i && !seen S (S i).1 i)) := Lib.hid rfl
      have HFI := Lib.hid (HF.out i hlt)
      have HDP : Hid (∀ j, j < i → (S j).1 = (S i).1 → ds = false) := Lib.hid (fun j hj h => by rw [← HDS.out]; exact dup hlt hj h)
      obtain ⟨a, ha⟩ : ∃ a, S i = a := ⟨_, rfl⟩
      rw [ha] at y0 y1 HCI HDI2 HFI HDP
      clear ha q0 q1
      obtain ⟨an, av⟩ := a
      dsimp only at y0 y1
      obtain ⟨cp, hcp⟩ : ∃ cp, cmp m Rw S i = cp := ⟨_, rfl⟩
      rw [hcp] at HCI
      rw [hcp]
      clear hcp
      have gi : decide (n ≤ i) = false := decide_eq_false (by omega)
      have gi2 : decide ((i : Int) < 0) = false := decide_eq_false (by omega)
      have gi3 : (i : Int) < n := by omega
      rename World => wo
      go_upto_region 8 with fail
      obtain ⟨Wa, hWa⟩ : ∃ Wa, wo.alloc (.cells #[.string an, .int .i64 av] 40) = Wa := ⟨_, rfl⟩
      rw [hWa]
      have BA := Lib.hid (show Blk Wa wo.heap.size 40 #[.string an, .int .i64 av] by rw [← hWa]; exact Blk.made _ _ _)
      have KRa := Lib.hid (show Below w1.heap.size w1 Wa by rw [← hWa]; exact KR.out.alloc KR.out.size _)
      have BUa := Lib.hid (BU1.out.below KRa.out UL1.out)
      have AL := Lib.hid BA.out.lt
      have ULa := Lib.hid BUa.out.lt
      clear hWa y0 y1 KR KA
      generalize wo.heap.size = ab at *
      clear wo
      go_wp2_with fail
      go_loopw [12, 43] (fun cv kv wr => ∃ k : Nat, k ≤ m ∧ kv = .int .i64 k ∧ cv = .bool (con Rw (an, av) (un, uv) k) ∧ Below Wa.heap.size Wa wr)
        (fun _ k _ => m - (intOf k).toNat)
      case atStart => exact ⟨0, Nat.zero_le _, rfl, rfl, Below.refl _ _⟩
      case round =>
        obtain ⟨k, hk, rfl, rfl, kr⟩ := hrel
        have KR2 := Lib.hid kr
        have KB := Lib.hid (KRa.out.trans (kr.mono KRa.out.size))
        clear kr
        by_cases hkm : k < m
        · obtain ⟨rb, roff, rfl, hrb, hcell⟩ := HR.out.2 (by omega)
          obtain ⟨q0, q1, q2, q3⟩ := hcell k hkm
          have KA := K1.out.trans (KB.out.mono K1.out.size)
          have y0 := (KA.cell (p := ⟨rb, roff + k * 4, none⟩) hrb).trans q0
          have y1 := (KA.cell (p := ⟨rb, roff + k * 4 + 1, none⟩) hrb).trans q1
          have y2 := (KA.cell (p := ⟨rb, roff + k * 4 + 2, none⟩) hrb).trans q2
          have y3 := (KA.cell (p := ⟨rb, roff + k * 4 + 3, none⟩) hrb).trans q3
          have HCN : Hid (con Rw (an, av) (un, uv) (k + 1) = (con Rw (an, av) (un, uv) k || hit (Rw k) (an, av) (un, uv) || hit (Rw k) (un, uv) (an, av))) := Lib.hid rfl
          clear hcell q0 q1 q2 q3 KA
          generalize Rw k = r at *
          obtain ⟨⟨ra, rv⟩, ⟨rn, rq⟩⟩ := r
          obtain ⟨cn, hcn⟩ : ∃ cn, con Rw (an, av) (un, uv) k = cn := ⟨_, rfl⟩
          rw [hcn] at HCN
          rw [hcn]
          clear hcn
          obtain ⟨cn2, hcn2⟩ : ∃ cn, con Rw (an, av) (un, uv) (k + 1) = cn := ⟨_, rfl⟩
          have HC2 := Lib.hid hcn2
          rw [hcn2] at HCN
          clear hcn2
          dsimp only at y0 y1 y2 y3
          have gk : decide (m ≤ k) = false := decide_eq_false (by omega)
          have gk2 : decide ((k : Int) < 0) = false := decide_eq_false (by omega)
          have gk3 : (k : Int) < m := by omega
          go_upto_region 12 with fail
          obtain ⟨W2, hW2⟩ : ∃ W2, wr.alloc (.cells #[.string ra, .int .i64 rv, .string rn, .int .i64 rq] 37) = W2 := ⟨_, rfl⟩
          rw [hW2]
          have b2 : Blk W2 wr.heap.size 37 #[.string ra, .int .i64 rv, .string rn, .int .i64 rq] := by rw [← hW2]; exact Blk.made _ _ _
          have k2 : Below Wa.heap.size Wa W2 := by rw [← hW2]; exact KR2.out.alloc KR2.out.size _
          have K2' := Lib.hid k2
          have r0 : W2.cell? ⟨wr.heap.size, 0, none⟩ = some (.string ra) := b2.cell 0
          have r2 : W2.cell? ⟨wr.heap.size, 2, none⟩ = some (.string rn) := b2.cell 2
          have a0 : W2.cell? ⟨ab, 0, none⟩ = some (.string an) := (BA.out.below k2 AL.out).cell 0
          have u0 : W2.cell? ⟨w.heap.size, 0, none⟩ = some (.string un) := (BUa.out.below k2 ULa.out).cell 0
          clear hW2 y0 y1 y2 y3 b2 k2 KR2 KB
          cases cn with
          | true =>
            obtain rfl : cn2 = true := by rw [HCN.out]; simp
            go_wp2_with fail
            go_roundw
            case rel => exact ⟨k + 1, by omega, by go_num, by rw [HC2.out], K2'.out⟩
            case measure => simp [intOf]; omega
          | false =>
            by_cases h1 : ra = an
            · by_cases h2 : rn = un
              · obtain rfl : cn2 = true := by rw [HCN.out]; simp [hit, h1, h2]
                subst h1 h2
                go_wp2_with fail
                go_roundw
                case rel => exact ⟨k + 1, by omega, by go_num, by rw [HC2.out], K2'.out⟩
                case measure => simp [intOf]; omega
              · by_cases h3 : ra = un
                · by_cases h4 : rn = an
                  · exfalso
                    exact h2 (h4.trans (h1.symm.trans h3))
                  · obtain rfl : cn2 = false := by rw [HCN.out]; simp [hit, h2, h4]
                    have s2 := str_ne h2
                    have s4 := str_ne h4
                    subst h1 h3
                    go_wp2_with fail
                    go_roundw
                    case rel => exact ⟨k + 1, by omega, by go_num, by rw [HC2.out], K2'.out⟩
                    case measure => simp [intOf]; omega
                · obtain rfl : cn2 = false := by rw [HCN.out]; simp [hit, h2, h3]
                  have s2 := str_ne h2
                  have s3 := str_ne h3
                  subst h1
                  go_wp2_with fail
                  go_roundw
                  case rel => exact ⟨k + 1, by omega, by go_num, by rw [HC2.out], K2'.out⟩
                  case measure => simp [intOf]; omega
            · have s1 := str_ne h1
              by_cases h3 : ra = un
              · by_cases h4 : rn = an
                · obtain rfl : cn2 = true := by rw [HCN.out]; simp [hit, h3, h4]
                  subst h3 h4
                  go_wp2_with fail
                  go_roundw
                  case rel => exact ⟨k + 1, by omega, by go_num, by rw [HC2.out], K2'.out⟩
                  case measure => simp [intOf]; omega
                · obtain rfl : cn2 = false := by rw [HCN.out]; simp [hit, h1, h4]
                  have s4 := str_ne h4
                  subst h3
                  go_wp2_with fail
                  go_roundw
                  case rel => exact ⟨k + 1, by omega, by go_num, by rw [HC2.out], K2'.out⟩
                  case measure => simp [intOf]; omega
              · obtain rfl : cn2 = false := by rw [HCN.out]; simp [hit, h1, h3]
                have s3 := str_ne h3
                go_wp2_with fail
                go_roundw
                case rel => exact ⟨k + 1, by omega, by go_num, by rw [HC2.out], K2'.out⟩
                case measure => simp [intOf]; omega
        · obtain rfl : m = k := by omega
          obtain ⟨cn, hcn⟩ : ∃ cn, con Rw (an, av) (un, uv) m = cn := ⟨_, rfl⟩
          have HCN := Lib.hid hcn
          rw [hcn]
          clear hcn
          rename World => wl
          have BAl := Lib.hid (BA.out.below KR2.out AL.out)
          have BUl := Lib.hid (BUa.out.below KR2.out ULa.out)
          have ALl := Lib.hid BAl.out.lt
          have ULl := Lib.hid BUl.out.lt
          clear BA AL BUa ULa KR2 KRa
          have gkm : decide ((m : Int) < m) = false := decide_eq_false (by omega)
          go_upto_region 14 with fail
          go_cut [96] from 37 to 145 (fun v wx => v = .bool false ∧ Below wl.heap.size wl wx)
          case first =>
            have v0 : wl.cell? ⟨ab, 0, none⟩ = some (.string an) := BAl.out.cell 0
            have v1 : wl.cell? ⟨ab, 1, none⟩ = some (.int .i64 av) := BAl.out.cell 1
            have v2 : wl.cell? ⟨w.heap.size, 0, none⟩ = some (.string un) := BUl.out.cell 0
            have v3 : wl.cell? ⟨w.heap.size, 1, none⟩ = some (.int .i64 uv) := BUl.out.cell 1
            have YR : Hid (∀ V : World, Below wl.heap.size wl V → (V.cell? ⟨ab, 0, none⟩ = some (.string an) ∧ V.cell? ⟨ab, 1, none⟩ = some (.int .i64 av) ∧ V.cell? ⟨w.heap.size, 0, none⟩ = some (.string un) ∧ V.cell? ⟨w.heap.size, 1, none⟩ = some (.int .i64 uv))) := Lib.hid (fun V hV =>
              ⟨(hV.cell (p := ⟨ab, 0, none⟩) ALl.out).trans v0, (hV.cell (p := ⟨ab, 1, none⟩) ALl.out).trans v1, (hV.cell (p := ⟨w.heap.size, 0, none⟩) ULl.out).trans v2, (hV.cell (p := ⟨w.heap.size, 1, none⟩) ULl.out).trans v3⟩)
            have KK0 := Lib.hid ((Below.refl wl.heap.size wl).drew)
            have Y0 := Lib.hid (YR.out wl.drew KK0.out)
            have KL := Lib.hid (K1.out.trans (KB.out.mono K1.out.size))
            have HAU := Lib.hid (fun (V : World) (hV : Below wl.heap.size wl V) => HWK.out V (an, av) (un, uv) (KL.out.trans (hV.mono KL.out.size)))
            have HUA := Lib.hid (fun (V : World) (hV : Below wl.heap.size wl V) => HWK.out V (un, uv) (an, av) (KL.out.trans (hV.mono KL.out.size)))
            rw [works_comm m Rw (un, uv) (an, av)] at HUA
            obtain ⟨wk, hwk⟩ : ∃ wk, works m Rw (an, av) (un, uv) = wk := ⟨_, rfl⟩
            rw [hwk] at HAU HUA
            have HWC : Hid (cn = false → wk = true) := Lib.hid (fun h => by rw [← hwk]; unfold works; rw [HCN.out, h]; simp)
            have HA0 := Lib.hid (HAU.out wl.drew KK0.out)
            have HB0 := Lib.hid (HUA.out wl.drew KK0.out)
            clear hwk HDP HDI2 HCI HFI HDI
            cases cn with
            | true =>
              cases wk with
              | true =>
                refine wp_region_held_drew (S := (fun w' : World => (w'.cell? ⟨ab, 0, none⟩ = some (.string an) ∧ w'.cell? ⟨ab, 1, none⟩ = some (.int .i64 av) ∧ w'.cell? ⟨w.heap.size, 0, none⟩ = some (.string un) ∧ w'.cell? ⟨w.heap.size, 1, none⟩ = some (.int .i64 uv)))) (by kernel_rfl) (YR.out _ KK0.out) (fun hS0 => ?_)
                refine ah_take (i := 0) (v := ?_) (some 77) rfl rfl (by kernel_rfl) (by kernel_rfl) (by kernel_rfl) (fun _ _ _ h => h) (by kernel_rfl) ?_ (by assumption) ?_
                rotate_left
                · (intro w hSw; (try dsimp only at hSw); go_simp; (first | done | with_reducible rfl))
                simp only [Act.put, List.setIfInBounds_toArray, List.set_cons_zero, List.set_cons_succ]
                refine ah_take (i := 1) (v := ?_) (some 78) rfl rfl (by kernel_rfl) (by kernel_rfl) (by kernel_rfl) (fun _ _ _ h => h) (by kernel_rfl) ?_ (by assumption) ?_
                rotate_left
                · (intro w hSw; (try dsimp only at hSw); go_simp; (first | done | with_reducible rfl))
                simp only [Act.put, List.setIfInBounds_toArray, List.set_cons_zero, List.set_cons_succ]
                refine ah_take (i := 2) (v := ?_) (some 79) rfl rfl (by kernel_rfl) (by kernel_rfl) (by kernel_rfl) (fun _ _ _ h => h) (by kernel_rfl) ?_ (by assumption) ?_
                rotate_left
                · (intro w hSw; (try dsimp only at hSw); go_simp; (first | done | with_reducible rfl))
                simp only [Act.put, List.setIfInBounds_toArray, List.set_cons_zero, List.set_cons_succ]
                refine ah_take (i := 4) (v := ?_) (some 81) rfl rfl (by kernel_rfl) (by kernel_rfl) (by kernel_rfl) (fun _ _ _ h => h) (by kernel_rfl) ?_ (by assumption) ?_
                rotate_left
                · (intro w hSw; (try dsimp only at hSw); go_simp; (first | done | with_reducible rfl))
                simp only [Act.put, List.setIfInBounds_toArray, List.set_cons_zero, List.set_cons_succ]
                refine ah_take (i := 5) (v := ?_) (some 82) rfl rfl (by kernel_rfl) (by kernel_rfl) (by kernel_rfl) (fun _ _ _ h => h) (by kernel_rfl) ?_ (by assumption) ?_
                rotate_left
                · (intro w hSw; (try dsimp only at hSw); go_simp; (first | done | with_reducible rfl))
                simp only [Act.put, List.setIfInBounds_toArray, List.set_cons_zero, List.set_cons_succ]
                refine ah_take (i := 6) (v := ?_) (some 83) rfl rfl (by kernel_rfl) (by kernel_rfl) (by kernel_rfl) (fun _ _ _ h => h) (by kernel_rfl) ?_ (by assumption) ?_
                rotate_left
                · (intro w hSw; (try dsimp only at hSw); go_simp; (first | done | with_reducible rfl))
                simp only [Act.put, List.setIfInBounds_toArray, List.set_cons_zero, List.set_cons_succ]
                refine wpAnyH_ready (rs := [3]) (by kernel_rfl) (by simp) ?_
                refine AllReadyH.cons rfl (fun K hK => ?_) AllReadyH.nil
                go_simp
                refine (HAU.out wl.drew KK0.out).mono ?_
                rintro e wA ⟨rfl, kx⟩
                have KA := Lib.hid (KK0.out.trans (kx.mono KK0.out.size))
                clear kx

                refine hK.out _ _ (YR.out _ KA.out) (fun hH1 => ?_)
                try simp only [Act.put, List.setIfInBounds_toArray, List.set_cons_zero, List.set_cons_succ]
                clear hK K
                refine wpAnyH_ready (rs := [7]) (by kernel_rfl) (by simp) ?_
                refine AllReadyH.cons rfl (fun K hK => ?_) AllReadyH.nil
                go_simp
                refine (HUA.out wA KA.out).mono ?_
                rintro e wB ⟨rfl, kx⟩
                have KC := Lib.hid (KA.out.trans (kx.mono KA.out.size))
                clear kx

                refine hK.out _ _ (YR.out _ KC.out) (fun hH2 => ?_)
                try simp only [Act.put, List.setIfInBounds_toArray, List.set_cons_zero, List.set_cons_succ]
                clear hK K
                refine ah_take (i := 8) (v := ?_) (some 85) rfl rfl (by kernel_rfl) (by kernel_rfl) (by kernel_rfl) (fun _ _ _ h => h) (by kernel_rfl) ?_ (by assumption) ?_
                rotate_left
                · (intro w hSw; (try dsimp only at hSw); go_simp; (first | done | with_reducible rfl))
                simp only [Act.put, List.setIfInBounds_toArray, List.set_cons_zero, List.set_cons_succ]
                refine ah_take (i := 9) (v := ?_) (some 86) rfl rfl (by kernel_rfl) (by kernel_rfl) (by kernel_rfl) (fun _ _ _ h => h) (by kernel_rfl) ?_ (by assumption) ?_
                rotate_left
                · (intro w hSw; (try dsimp only at hSw); go_simp; (first | done | with_reducible rfl))
                simp only [Act.put, List.setIfInBounds_toArray, List.set_cons_zero, List.set_cons_succ]
                refine ah_take (i := 10) (v := ?_) (some 87) rfl rfl (by kernel_rfl) (by kernel_rfl) (by kernel_rfl) (fun _ _ _ h => h) (by kernel_rfl) ?_ (by assumption) ?_
                rotate_left
                · (intro w hSw; (try dsimp only at hSw); go_simp; (first | done | with_reducible rfl))
                simp only [Act.put, List.setIfInBounds_toArray, List.set_cons_zero, List.set_cons_succ]
                refine ah_take (i := 11) (v := ?_) (some 88) rfl rfl (by kernel_rfl) (by kernel_rfl) (by kernel_rfl) (fun _ _ _ h => h) (by kernel_rfl) ?_ (by assumption) ?_
                rotate_left
                · (intro w hSw; (try dsimp only at hSw); go_simp; (first | done | with_reducible rfl))
                simp only [Act.put, List.setIfInBounds_toArray, List.set_cons_zero, List.set_cons_succ]
                refine ah_take (i := 12) (v := ?_) (some 89) rfl rfl (by kernel_rfl) (by kernel_rfl) (by kernel_rfl) (fun _ _ _ h => h) (by kernel_rfl) ?_ (by assumption) ?_
                rotate_left
                · (intro w hSw; (try dsimp only at hSw); go_simp; (first | done | with_reducible rfl))
                simp only [Act.put, List.setIfInBounds_toArray, List.set_cons_zero, List.set_cons_succ]
                refine ah_skip (i := 13) (some 90) rfl rfl (by kernel_rfl) (by kernel_rfl) (by kernel_rfl) (fun _ _ _ h => h) (by kernel_rfl) (by assumption) ?_
                simp only [Act.put, List.setIfInBounds_toArray, List.set_cons_zero, List.set_cons_succ]
                refine ah_skip (i := 14) (some 91) rfl rfl (by kernel_rfl) (by kernel_rfl) (by kernel_rfl) (fun _ _ _ h => h) (by kernel_rfl) (by assumption) ?_
                simp only [Act.put, List.setIfInBounds_toArray, List.set_cons_zero, List.set_cons_succ]
                refine ah_skip (i := 15) (some 92) rfl rfl (by kernel_rfl) (by kernel_rfl) (by kernel_rfl) (fun _ _ _ h => h) (by kernel_rfl) (by assumption) ?_
                simp only [Act.put, List.setIfInBounds_toArray, List.set_cons_zero, List.set_cons_succ]
                refine ah_skip (i := 16) (some 93) rfl rfl (by kernel_rfl) (by kernel_rfl) (by kernel_rfl) (fun _ _ _ h => h) (by kernel_rfl) (by assumption) ?_
                simp only [Act.put, List.setIfInBounds_toArray, List.set_cons_zero, List.set_cons_succ]
                refine ah_skip (i := 17) (some 94) rfl rfl (by kernel_rfl) (by kernel_rfl) (by kernel_rfl) (fun _ _ _ h => h) (by kernel_rfl) (by assumption) ?_
                simp only [Act.put, List.setIfInBounds_toArray, List.set_cons_zero, List.set_cons_succ]
                refine ah_take (i := 18) (v := ?_) (some 95) rfl rfl (by kernel_rfl) (by kernel_rfl) (by kernel_rfl) (fun _ _ _ h => h) (by kernel_rfl) ?_ (by assumption) ?_
                rotate_left
                · (intro w hSw; (try dsimp only at hSw); go_simp; (first | done | with_reducible rfl))
                simp only [Act.put, List.setIfInBounds_toArray, List.set_cons_zero, List.set_cons_succ]
                refine ah_take (i := 19) (v := ?_) (some 96) rfl rfl (by kernel_rfl) (by kernel_rfl) (by kernel_rfl) (fun _ _ _ h => h) (by kernel_rfl) ?_ (by assumption) ?_
                rotate_left
                · (intro w hSw; (try dsimp only at hSw); go_simp; (first | done | with_reducible rfl))
                simp only [Act.put, List.setIfInBounds_toArray, List.set_cons_zero, List.set_cons_succ]
                refine wpAnyH_done (by kernel_rfl) ?_ _
                try clear hH1 hH2 hS0
                go_wp2_with fail
                go_meet
                case rel => exact ⟨rfl, KC.out⟩
              | false =>
                refine wp_region_held_drew (S := (fun w' : World => (w'.cell? ⟨ab, 0, none⟩ = some (.string an) ∧ w'.cell? ⟨ab, 1, none⟩ = some (.int .i64 av) ∧ w'.cell? ⟨w.heap.size, 0, none⟩ = some (.string un) ∧ w'.cell? ⟨w.heap.size, 1, none⟩ = some (.int .i64 uv)))) (by kernel_rfl) (YR.out _ KK0.out) (fun hS0 => ?_)
                refine ah_take (i := 0) (v := ?_) (some 77) rfl rfl (by kernel_rfl) (by kernel_rfl) (by kernel_rfl) (fun _ _ _ h => h) (by kernel_rfl) ?_ (by assumption) ?_
                rotate_left
                · (intro w hSw; (try dsimp only at hSw); go_simp; (first | done | with_reducible rfl))
                simp only [Act.put, List.setIfInBounds_toArray, List.set_cons_zero, List.set_cons_succ]
                refine ah_take (i := 1) (v := ?_) (some 78) rfl rfl (by kernel_rfl) (by kernel_rfl) (by kernel_rfl) (fun _ _ _ h => h) (by kernel_rfl) ?_ (by assumption) ?_
                rotate_left
                · (intro w hSw; (try dsimp only at hSw); go_simp; (first | done | with_reducible rfl))
                simp only [Act.put, List.setIfInBounds_toArray, List.set_cons_zero, List.set_cons_succ]
                refine ah_take (i := 2) (v := ?_) (some 79) rfl rfl (by kernel_rfl) (by kernel_rfl) (by kernel_rfl) (fun _ _ _ h => h) (by kernel_rfl) ?_ (by assumption) ?_
                rotate_left
                · (intro w hSw; (try dsimp only at hSw); go_simp; (first | done | with_reducible rfl))
                simp only [Act.put, List.setIfInBounds_toArray, List.set_cons_zero, List.set_cons_succ]
                refine ah_take (i := 4) (v := ?_) (some 81) rfl rfl (by kernel_rfl) (by kernel_rfl) (by kernel_rfl) (fun _ _ _ h => h) (by kernel_rfl) ?_ (by assumption) ?_
                rotate_left
                · (intro w hSw; (try dsimp only at hSw); go_simp; (first | done | with_reducible rfl))
                simp only [Act.put, List.setIfInBounds_toArray, List.set_cons_zero, List.set_cons_succ]
                refine ah_take (i := 5) (v := ?_) (some 82) rfl rfl (by kernel_rfl) (by kernel_rfl) (by kernel_rfl) (fun _ _ _ h => h) (by kernel_rfl) ?_ (by assumption) ?_
                rotate_left
                · (intro w hSw; (try dsimp only at hSw); go_simp; (first | done | with_reducible rfl))
                simp only [Act.put, List.setIfInBounds_toArray, List.set_cons_zero, List.set_cons_succ]
                refine ah_take (i := 6) (v := ?_) (some 83) rfl rfl (by kernel_rfl) (by kernel_rfl) (by kernel_rfl) (fun _ _ _ h => h) (by kernel_rfl) ?_ (by assumption) ?_
                rotate_left
                · (intro w hSw; (try dsimp only at hSw); go_simp; (first | done | with_reducible rfl))
                simp only [Act.put, List.setIfInBounds_toArray, List.set_cons_zero, List.set_cons_succ]
                refine wpAnyH_ready (rs := [3]) (by kernel_rfl) (by simp) ?_
                refine AllReadyH.cons rfl (fun K hK => ?_) AllReadyH.nil
                go_simp
                refine (HAU.out wl.drew KK0.out).mono ?_
                rintro e wA ⟨rfl, kx⟩
                have KA := Lib.hid (KK0.out.trans (kx.mono KK0.out.size))
                clear kx

                refine hK.out _ _ (YR.out _ KA.out) (fun hH1 => ?_)
                try simp only [Act.put, List.setIfInBounds_toArray, List.set_cons_zero, List.set_cons_succ]
                clear hK K
                refine wpAnyH_ready (rs := [7]) (by kernel_rfl) (by simp) ?_
                refine AllReadyH.cons rfl (fun K hK => ?_) AllReadyH.nil
                go_simp
                refine (HUA.out wA KA.out).mono ?_
                rintro e wB ⟨rfl, kx⟩
                have KC := Lib.hid (KA.out.trans (kx.mono KA.out.size))
                clear kx

                refine hK.out _ _ (YR.out _ KC.out) (fun hH2 => ?_)
                try simp only [Act.put, List.setIfInBounds_toArray, List.set_cons_zero, List.set_cons_succ]
                clear hK K
                refine ah_take (i := 8) (v := ?_) (some 85) rfl rfl (by kernel_rfl) (by kernel_rfl) (by kernel_rfl) (fun _ _ _ h => h) (by kernel_rfl) ?_ (by assumption) ?_
                rotate_left
                · (intro w hSw; (try dsimp only at hSw); go_simp; (first | done | with_reducible rfl))
                simp only [Act.put, List.setIfInBounds_toArray, List.set_cons_zero, List.set_cons_succ]
                refine ah_take (i := 9) (v := ?_) (some 86) rfl rfl (by kernel_rfl) (by kernel_rfl) (by kernel_rfl) (fun _ _ _ h => h) (by kernel_rfl) ?_ (by assumption) ?_
                rotate_left
                · (intro w hSw; (try dsimp only at hSw); go_simp; (first | done | with_reducible rfl))
                simp only [Act.put, List.setIfInBounds_toArray, List.set_cons_zero, List.set_cons_succ]
                refine ah_take (i := 10) (v := ?_) (some 87) rfl rfl (by kernel_rfl) (by kernel_rfl) (by kernel_rfl) (fun _ _ _ h => h) (by kernel_rfl) ?_ (by assumption) ?_
                rotate_left
                · (intro w hSw; (try dsimp only at hSw); go_simp; (first | done | with_reducible rfl))
                simp only [Act.put, List.setIfInBounds_toArray, List.set_cons_zero, List.set_cons_succ]
                refine ah_take (i := 11) (v := ?_) (some 88) rfl rfl (by kernel_rfl) (by kernel_rfl) (by kernel_rfl) (fun _ _ _ h => h) (by kernel_rfl) ?_ (by assumption) ?_
                rotate_left
                · (intro w hSw; (try dsimp only at hSw); go_simp; (first | done | with_reducible rfl))
                simp only [Act.put, List.setIfInBounds_toArray, List.set_cons_zero, List.set_cons_succ]
                refine ah_take (i := 12) (v := ?_) (some 89) rfl rfl (by kernel_rfl) (by kernel_rfl) (by kernel_rfl) (fun _ _ _ h => h) (by kernel_rfl) ?_ (by assumption) ?_
                rotate_left
                · (intro w hSw; (try dsimp only at hSw); go_simp; (first | done | with_reducible rfl))
                simp only [Act.put, List.setIfInBounds_toArray, List.set_cons_zero, List.set_cons_succ]
                refine ah_skip (i := 13) (some 90) rfl rfl (by kernel_rfl) (by kernel_rfl) (by kernel_rfl) (fun _ _ _ h => h) (by kernel_rfl) (by assumption) ?_
                simp only [Act.put, List.setIfInBounds_toArray, List.set_cons_zero, List.set_cons_succ]
                refine ah_skip (i := 14) (some 91) rfl rfl (by kernel_rfl) (by kernel_rfl) (by kernel_rfl) (fun _ _ _ h => h) (by kernel_rfl) (by assumption) ?_
                simp only [Act.put, List.setIfInBounds_toArray, List.set_cons_zero, List.set_cons_succ]
                refine ah_skip (i := 15) (some 92) rfl rfl (by kernel_rfl) (by kernel_rfl) (by kernel_rfl) (fun _ _ _ h => h) (by kernel_rfl) (by assumption) ?_
                simp only [Act.put, List.setIfInBounds_toArray, List.set_cons_zero, List.set_cons_succ]
                refine ah_skip (i := 16) (some 93) rfl rfl (by kernel_rfl) (by kernel_rfl) (by kernel_rfl) (fun _ _ _ h => h) (by kernel_rfl) (by assumption) ?_
                simp only [Act.put, List.setIfInBounds_toArray, List.set_cons_zero, List.set_cons_succ]
                refine ah_skip (i := 17) (some 94) rfl rfl (by kernel_rfl) (by kernel_rfl) (by kernel_rfl) (fun _ _ _ h => h) (by kernel_rfl) (by assumption) ?_
                simp only [Act.put, List.setIfInBounds_toArray, List.set_cons_zero, List.set_cons_succ]
                refine ah_take (i := 18) (v := ?_) (some 95) rfl rfl (by kernel_rfl) (by kernel_rfl) (by kernel_rfl) (fun _ _ _ h => h) (by kernel_rfl) ?_ (by assumption) ?_
                rotate_left
                · (intro w hSw; (try dsimp only at hSw); go_simp; (first | done | with_reducible rfl))
                simp only [Act.put, List.setIfInBounds_toArray, List.set_cons_zero, List.set_cons_succ]
                refine ah_take (i := 19) (v := ?_) (some 96) rfl rfl (by kernel_rfl) (by kernel_rfl) (by kernel_rfl) (fun _ _ _ h => h) (by kernel_rfl) ?_ (by assumption) ?_
                rotate_left
                · (intro w hSw; (try dsimp only at hSw); go_simp; (first | done | with_reducible rfl))
                simp only [Act.put, List.setIfInBounds_toArray, List.set_cons_zero, List.set_cons_succ]
                refine wpAnyH_done (by kernel_rfl) ?_ _
                try clear hH1 hH2 hS0
                go_wp2_with fail
                go_meet
                case rel => exact ⟨rfl, KC.out⟩
            | false =>
              obtain rfl : wk = true := HWC.out rfl
              go_region_held3 (fun w' : World => (w'.cell? ⟨ab, 0, none⟩ = some (.string an) ∧ w'.cell? ⟨ab, 1, none⟩ = some (.int .i64 av) ∧ w'.cell? ⟨w.heap.size, 0, none⟩ = some (.string un) ∧ w'.cell? ⟨w.heap.size, 1, none⟩ = some (.int .i64 uv)))
                (first | with_reducible exact YD.out | with_reducible exact YC.out | with_reducible exact YA.out | with_reducible exact YB.out | with_reducible exact Y0.out | fail)
                ((go_at_call 17
                  first
                  | (with_reducible refine HA0.out.mono ?_; rintro e wA ⟨rfl, kA⟩
                     have KA := Lib.hid (KK0.out.trans kA)
                     have YA := Lib.hid (YR.out wA KA.out)
                     have HB1 := Lib.hid (HUA.out wA KA.out)
                     clear kA)
                  | (with_reducible refine HB0.out.mono ?_; rintro e wB ⟨rfl, kB⟩
                     have KB2 := Lib.hid (KK0.out.trans kB)
                     have YB := Lib.hid (YR.out wB KB2.out)
                     have HA1 := Lib.hid (HAU.out wB KB2.out)
                     clear kB)
                  | (with_reducible refine HB1.out.mono ?_; rintro e wC ⟨rfl, kC⟩
                     have KC := Lib.hid (KA.out.trans (kC.mono KA.out.size))
                     have YC := Lib.hid (YR.out wC KC.out)
                     have HA2 := Lib.hid (HAU.out wC KC.out)
                     clear kC)
                  | (with_reducible refine HA1.out.mono ?_; rintro e wC ⟨rfl, kC⟩
                     have KC := Lib.hid (KB2.out.trans (kC.mono KB2.out.size))
                     have YC := Lib.hid (YR.out wC KC.out)
                     have HA2 := Lib.hid (HAU.out wC KC.out)
                     clear kC)
                  | (with_reducible refine HA2.out.mono ?_; rintro e wD ⟨rfl, kD⟩
                     have KD := Lib.hid (KC.out.trans (kD.mono KC.out.size))
                     have YD := Lib.hid (YR.out wD KD.out)
                     clear kD)))
              all_goals (rename_i hHeld; clear hHeld)
              all_goals go_wp2_with fail
              all_goals go_meet
              all_goals exact ⟨rfl, KD.out⟩
          case rest =>
            obtain ⟨rfl, hkw⟩ := hcut
            have KBw := Lib.hid (KB.out.trans (hkw.mono KB.out.size))
            have BAw := Lib.hid (BAl.out.below hkw ALl.out)
            have AWl := Lib.hid BAw.out.lt
            clear hkw BAl BUl ALl ULl KB
            have gs : (i : Int) ≤ c1 := by omega
            have gs2 : decide (c1 < i) = false := decide_eq_false (by omega)
            go_wp2_with fail
            rename World => wg
            go_loopw [9, 101] (fun pv jv wr => ∃ j : Nat, j ≤ i ∧ jv = .int .i64 j ∧ pv = .bool (cp && inn m Rw (an, av) S j) ∧ seen S an j = false ∧ Below wg.heap.size wg wr)
              (fun _ j _ => i - (intOf j).toNat)
            case atStart => exact ⟨0, Nat.zero_le _, rfl, by simp [inn], rfl, Below.refl _ _⟩
            case round =>
              obtain ⟨j, hj, rfl, rfl, hse, kr⟩ := hrel
              have HSE0 := Lib.hid hse
              have KR3 := Lib.hid kr
              have K13 := Lib.hid (KBw.out.trans (kr.mono KBw.out.size))
              clear hse kr
              by_cases hji : j < i
              · have KA := K1.out.trans (K13.out.mono K1.out.size)
                obtain ⟨q0, q1⟩ := HCELL.out j (by omega)
                have y0 := (KA.cell (p := ⟨ob, off + j * 2, none⟩) hob).trans q0
                have y1 := (KA.cell (p := ⟨ob, off + j * 2 + 1, none⟩) hob).trans q1
                have HDJ := Lib.hid (HDP.out j hji)
                have HSE : Hid (seen S an (j + 1) = (seen S an j || decide ((S j).1 = an))) := Lib.hid rfl
                have HIN : Hid (inn m Rw (an, av) S (j + 1) = (inn m Rw (an, av) S j && works m Rw (an, av) (S j))) := Lib.hid rfl
                have HFJ := Lib.hid (HF.out j (by omega))
                obtain ⟨b, hb⟩ : ∃ b, S j = b := ⟨_, rfl⟩
                rw [hb] at y0 y1 HDJ HSE HIN HFJ
                clear hb q0 q1 KA
                obtain ⟨bn, bv⟩ := b
                dsimp only at y0 y1 HDJ HSE HFJ
                obtain ⟨pj, hpj⟩ : ∃ pj, (cp && inn m Rw (an, av) S j) = pj := ⟨_, rfl⟩
                obtain ⟨wk, hwk⟩ : ∃ wk, works m Rw (an, av) (bn, bv) = wk := ⟨_, rfl⟩
                have HPJ : Hid ((cp && inn m Rw (an, av) S (j + 1)) = (pj && wk)) := Lib.hid (by rw [HIN.out, ← Bool.and_assoc, hpj, hwk])
                have HWV := Lib.hid (fun (V : World) (hV : Below w.heap.size w V) => HWK.out V (an, av) (bn, bv) hV)
                have HCV := Lib.hid (fun (V : World) (g : Nat) (hn : ¬ bn = an) (hV : Below w.heap.size w V) (hb : Blk V g 40 #[.string bn, .int .i64 bv, .string an, .int .i64 av]) => compatible_both A3 (some ⟨g, 0, none⟩) m c3 2 2 Rw (two (bn, bv) (an, av)) V (HR.out.below hV (Nat.le_refl _)) (two_in (b := (bn, bv)) (a := (an, av)) hb) (fun k hk => by
                  match k, hk with
                  | 0, _ => exact HFJ.out
                  | 1, _ => exact HFI.out) (by omega) (by omega))
                rw [hwk] at HWV
                rw [hpj]
                have HTW : Hid (cmp m Rw (two (bn, bv) (an, av)) 2 = wk) := Lib.hid (by rw [two_cmp, hwk])
                clear hpj hwk HIN
                have gj : decide (i ≤ j) = false := decide_eq_false (by omega)
                have gj2 : decide ((j : Int) < 0) = false := decide_eq_false (by omega)
                have gj3 : (j : Int) < i := by omega
                go_upto_region 19 with fail
                obtain ⟨W3, hW3⟩ : ∃ W3, wr.alloc (.cells #[.string bn, .int .i64 bv] 40) = W3 := ⟨_, rfl⟩
                rw [hW3]
                have B3 := Lib.hid (show Blk W3 wr.heap.size 40 #[.string bn, .int .i64 bv] by rw [← hW3]; exact Blk.made _ _ _)
                have kw3 : Below wg.heap.size wg W3 := by rw [← hW3]; exact KR3.out.alloc KR3.out.size _
                have KW3 := Lib.hid kw3
                have BA3 := Lib.hid (BAw.out.below kw3 AWl.out)
                have BL3 := Lib.hid B3.out.lt
                have AL3 := Lib.hid BA3.out.lt
                clear hW3 y0 y1 KR3 K13 kw3
                generalize wr.heap.size = bb at *
                clear wr
                have a0 : W3.cell? ⟨ab, 0, none⟩ = some (.string an) := BA3.out.cell 0
                have a1 : W3.cell? ⟨ab, 1, none⟩ = some (.int .i64 av) := BA3.out.cell 1
                have b0 : W3.cell? ⟨bb, 0, none⟩ = some (.string bn) := B3.out.cell 0
                have b1 : W3.cell? ⟨bb, 1, none⟩ = some (.int .i64 bv) := B3.out.cell 1
                have KT := Lib.hid (K1.out.trans ((KBw.out.trans (KW3.out.mono KBw.out.size)).mono K1.out.size))
                go_cut [9] from 102 to 144 (fun v wx => v = .bool (pj && wk) ∧ Below W3.heap.size W3 wx)
                case first =>
                  cases pj with
                  | false =>
                    go_wp2_with fail
                    go_meet
                    case rel => exact ⟨rfl, Below.refl _ _⟩
                  | true =>
                    go_wp2_with fail
                    refine (HWV.out W3 KT.out).mono ?_
                    rintro e w4 ⟨rfl, k4⟩
                    have K4 := Lib.hid k4
                    clear k4
                    go_wp2_with fail
                    go_meet
                    case rel => exact ⟨by simp, K4.out⟩
                case rest =>
                  obtain ⟨rfl, hkw⟩ := hcut
                  have KTc := Lib.hid (KT.out.trans (hkw.mono KT.out.size))
                  have K3c := Lib.hid (KW3.out.trans (hkw.mono KW3.out.size))
                  have BAc := Lib.hid (BA3.out.below hkw AL3.out)
                  have BBc := Lib.hid (B3.out.below hkw BL3.out)
                  have ALc := Lib.hid BAc.out.lt
                  have BLc := Lib.hid BBc.out.lt
                  clear a0 a1 b0 b1 hkw BA3 B3 AL3 BL3 KT KW3
                  have a0 : wc.cell? ⟨ab, 0, none⟩ = some (.string an) := BAc.out.cell 0
                  have a1 : wc.cell? ⟨ab, 1, none⟩ = some (.int .i64 av) := BAc.out.cell 1
                  have b0 : wc.cell? ⟨bb, 0, none⟩ = some (.string bn) := BBc.out.cell 0
                  have b1 : wc.cell? ⟨bb, 1, none⟩ = some (.int .i64 bv) := BBc.out.cell 1
                  by_cases hbn : bn = an
                  · obtain rfl : ds = false := HDJ.out hbn
                    obtain rfl : ec = 2 := by rw [← HEC.out]; simp
                    obtain rfl : al = false := by rw [← HAL.out]; rfl
                    subst hbn
                    go_wp2_with fail
                    refine (awake_any wc).mono ?_
                    rintro e w5 ⟨rfl, k5⟩
                    have K5 := Lib.hid (KTc.out.trans (k5.mono KTc.out.size))
                    clear k5
                    go_wp2_with fail
                    go_ret
                    exact ⟨rfl, K5.out⟩
                  · have s1 : (an.toList == bn.toList) = false := str_ne (fun h => hbn h.symm)
                    go_upto_region 22 with fail
                    go_wp2_with fail
                    obtain ⟨W5, hW5⟩ : ∃ W5, wc.alloc (.cells #[.string bn, .int .i64 bv, .string an, .int .i64 av] 40) = W5 := ⟨_, rfl⟩
                    rw [hW5]
                    have b5 : Blk W5 wc.heap.size 40 #[.string bn, .int .i64 bv, .string an, .int .i64 av] := by rw [← hW5]; exact Blk.made _ _ _
                    have k5 : Below wc.heap.size wc W5 := by rw [← hW5]; exact (Below.refl _ _).alloc (Nat.le_refl _) _
                    have K5 := Lib.hid k5
                    have HC5 := HCV.out W5 wc.heap.size hbn (KTc.out.trans (k5.mono KTc.out.size)) b5
                    rw [two_dis (b := (bn, bv)) (a := (an, av)) hbn, HTW.out, Bool.true_and, if_pos rfl] at HC5
                    have HC5' := Lib.hid HC5
                    clear hW5 b5 k5 HC5 a0 a1 b0 b1
                    refine HC5'.out.mono ?_
                    rintro e w6 ⟨rfl, k6⟩
                    have K6 := Lib.hid (K5.out.trans (k6.mono K5.out.size))
                    clear k6
                    have a0 : w6.cell? ⟨ab, 0, none⟩ = some (.string an) := (BAc.out.below K6.out ALc.out).cell 0
                    have a1 : w6.cell? ⟨ab, 1, none⟩ = some (.int .i64 av) := (BAc.out.below K6.out ALc.out).cell 1
                    have b0 : w6.cell? ⟨bb, 0, none⟩ = some (.string bn) := (BBc.out.below K6.out BLc.out).cell 0
                    have b1 : w6.cell? ⟨bb, 1, none⟩ = some (.int .i64 bv) := (BBc.out.below K6.out BLc.out).cell 1
                    go_wp2_with fail
                    refine (HWV.out w6 (KTc.out.trans (K6.out.mono KTc.out.size))).mono ?_
                    rintro e w7 ⟨rfl, k7⟩
                    have K7 := Lib.hid (K3c.out.trans ((K6.out.trans (k7.mono K6.out.size)).mono K3c.out.size))
                    clear k7 a0 a1 b0 b1
                    go_wp2_with fail
                    go_roundw
                    case rel => exact ⟨j + 1, by omega, by go_num, by rw [HPJ.out], by rw [HSE.out, HSE0.out]; simp [hbn], K7.out⟩
                    case measure => simp [intOf]; omega
              · obtain rfl : j = i := by omega
                have gji : decide ((j : Int) < j) = false := decide_eq_false (by omega)
                go_wp2_with fail
                go_roundw
                case rel => exact ⟨j + 1, by omega, by go_num, by rw [HCI.out], by rw [HDI2.out, HDI.out, HSE0.out]; rfl, K13.out⟩
                case measure => simp [intOf]; omega
    · obtain rfl : n = i := by omega
      obtain rfl : ds = true := by rw [← HDS.out]; exact HDI.out
      obtain rfl : al = cmp m Rw S n := by rw [← HAL.out]; rfl
      obtain rfl : ec = 0 := by rw [← HEC.out]; rfl
      generalize cmp m Rw S n = al at *
      have gnn : decide ((n : Int) < n) = false := decide_eq_false (by omega)
      rename World => wz
      have KZ := Lib.hid (K1.out.trans (KR.out.mono K1.out.size))
      cases al with
      | true =>
        go_wp2_with fail
        refine (awake_any wz).mono ?_
        rintro e w2 ⟨rfl, k2⟩
        have K2 := Lib.hid (KZ.out.trans (k2.mono KZ.out.size))
        clear k2
        go_wp2_with fail
        go_ret
        exact ⟨rfl, K2.out⟩
      | false =>
        go_wp2_with fail
        refine (awake_any wz).mono ?_
        rintro e w2 ⟨rfl, k2⟩
        have K2 := Lib.hid (KZ.out.trans (k2.mono KZ.out.size))
        clear k2
        go_wp2_with fail
        go_ret
        exact ⟨rfl, K2.out⟩
end Go.Proofs.Ytcjbjhkmnfegnaa
