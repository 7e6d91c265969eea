/-
  The law RedundancyOnce: the walk, which answers true. Conditions: the frames lie as given, the unsigned numbers are in their range.
-/
import Derived.Test.YtllabfbebidjiaaOn2
import Derived.Deep.CutRange
import Derived.OwnWalk
namespace Go.Proofs.Ytllabfbebidjiaa
open Go.RowKit
/-- a slice of frames that a sender sends -/
def SentIn (w : World) (A : Option Addr) (n : Nat) (G X Y : Nat → Int) (P R : Nat → Bool) : Prop :=
  n ≤ 9223372036854775807 ∧ (∀ k, (0 ≤ G k ∧ G k ≤ 65535) ∧ (0 ≤ X k ∧ X k ≤ 65535) ∧ (0 ≤ Y k ∧ Y k ≤ 65535)) ∧ (0 < n → ∃ b off, A = some ⟨b, off, none⟩ ∧ b < w.heap.size ∧
    ∀ k, k < n → w.cell? ⟨b, off + k * 5, none⟩ = some (.int .u16 (G k)) ∧ w.cell? ⟨b, off + k * 5 + 1, none⟩ = some (.int .u16 (X k)) ∧ w.cell? ⟨b, off + k * 5 + 2, none⟩ = some (.int .u16 (Y k)) ∧
      w.cell? ⟨b, off + k * 5 + 3, none⟩ = some (.bool (P k)) ∧ w.cell? ⟨b, off + k * 5 + 4, none⟩ = some (.bool (R k)))
/-- arrivals as cells -/
def eV (L : List Ev) : List Value := L.flatMap fun e => [.int .i64 e.1, .int .i64 e.2.1, .int .i64 e.2.2]
theorem if_len {c : Prop} [Decidable c] (x : Ev) : (if c then [x] else []).length ≤ 1 := by split <;> simp
theorem eV_app (L M : List Ev) : eV (L ++ M) = eV L ++ eV M := by simp [eV]
theorem nV_app (L M : List Nat) : nV (L ++ M) = nV L ++ nV M := by simp [nV]
theorem eV_at : ∀ {L : List Ev} {k : Nat}, k < L.length → (eV L)[k * 3]? = some (.int .i64 (nF L k)) ∧ (eV L)[k * 3 + 1]? = some (.int .i64 (qF L k)) ∧ (eV L)[k * 3 + 2]? = some (.int .i64 (tF L k))
  | e :: L, 0, _ => ⟨rfl, rfl, rfl⟩
  | e :: L, k + 1, h => by
    have := eV_at (L := L) (k := k) (by simpa using h)
    have e1 : eV (e :: L) = [.int .i64 e.1, .int .i64 e.2.1, .int .i64 e.2.2] ++ eV L := rfl
    rw [e1, show (k + 1) * 3 = k * 3 + 3 by omega, show k * 3 + 3 + 1 = k * 3 + 1 + 3 by omega, show k * 3 + 3 + 2 = k * 3 + 2 + 3 by omega]
    unfold nF qF tF at this ⊢
    simpa using this
theorem own_evs {w : World} {base : Nat} {v : Value} {E : List Ev} (h : w.ownsRow base 31 3 v E.length (eV E)) (hn : E.length ≤ 1000000) : ∃ A c, v = .slice A E.length c ∧ ArrIn w A E.length (nF E) (qF E) (tF E) := by
  rcases h.2 with ⟨rfl, h0⟩ | ⟨g, cap, cur, rfl, _, hh, _⟩
  · rw [h0]
    exact ⟨none, 0, rfl, by omega, fun h => by omega⟩
  · refine ⟨_, _, rfl, by omega, fun _ => ⟨g, 0, rfl, lt_of_block hh, fun k hk => ?_⟩⟩
    obtain ⟨h1, h2, h3⟩ := eV_at hk
    have f1 := h.cells (g := g) rfl _ _ h1
    have f2 := h.cells (g := g) rfl _ _ h2
    have f3 := h.cells (g := g) rfl _ _ h3
    rw [add_eq, Nat.zero_add] at f1 f2 f3
    rw [Nat.zero_add]
    exact ⟨f1, f2, f3⟩
/-- the two rows that the law builds, and the boxes of a frame's two copies -/
structure RW (w W : World) (ga gb : Nat) (q ta tb : Int) (v7 v8 : Value) (E : List Ev) (F : List Nat) : Prop where
  r7 : W.ownsRow w.heap.size 31 3 v7 E.length (eV E)
  r8 : W.ownsRow w.heap.size 3 1 v8 E.length (nV F)
  dis : ∀ g, v7.ownBlock = some g → g ≠ ga ∧ g ≠ gb
  ba : Blk W ga 31 #[.int .i64 0, .int .i64 q, .int .i64 ta]
  bb : Blk W gb 31 #[.int .i64 1, .int .i64 q, .int .i64 tb]
  k : Below w.heap.size w W
theorem kept_two {W W' : World} {base n n' : Nat} {v7 v8 : Value} {xs ys : List Value} (h7 : W.ownsRow base 31 3 v7 n xs) (h8 : W.ownsRow base 3 1 v8 n' ys) (hg : W.grownBy W' v7.ownBlock) : W'.ownsRow base 3 1 v8 n' ys :=
  kept_dis h8 hg fun g e1 e2 => by
    rcases h7.2 with ⟨rfl, _⟩ | ⟨g1, _, cur, rfl, _, hh, _⟩
    · simp [Value.ownBlock] at e1
    · have e3 : g1 = g := by simpa [Value.ownBlock] using e1
      subst e3
      exact own_ne h8 (t := 31) (cs := cur) hh (by decide) e2
theorem kept_two' {W W' : World} {base n n' : Nat} {v7 v8 : Value} {xs ys : List Value} (h7 : W.ownsRow base 31 3 v7 n xs) (h8 : W.ownsRow base 3 1 v8 n' ys) (hg : W.grownBy W' v8.ownBlock) : W'.ownsRow base 31 3 v7 n xs :=
  kept_dis h7 hg fun g e1 e2 => by
    rcases h8.2 with ⟨rfl, _⟩ | ⟨g1, _, cur, rfl, _, hh, _⟩
    · simp [Value.ownBlock] at e1
    · have e3 : g1 = g := by simpa [Value.ownBlock] using e1
      subst e3
      exact own_ne h7 (t := 3) (cs := cur) hh (by decide) e2
theorem own_none {W : World} {base n size : Nat} {e : TypeId} {v : Value} {xs : List Value} (h : W.ownsRow base e size v n xs) : v = .slice none 0 0 ∨ v.ownBlock ≠ none := by
  rcases h.2 with ⟨rfl, _⟩ | ⟨g, _, _, rfl, _⟩
  · exact .inl rfl
  · exact .inr (by simp [Value.ownBlock])
/-- a row of arrivals and its frame, one more each -/
theorem RW.more {w W w3 w5 : World} {ga gb kk : Nat} {q ta tb : Int} {v7 v8 v7' v8' : Value} {E : List Ev} {F : List Nat} {e : Ev} (h : RW w W ga gb q ta tb v7 v8 E F) {o o2 : Obj}
    (r7 : w3.ownsRow w.heap.size 31 3 v7' (E.length + 1) (eV E ++ [.int .i64 e.1, .int .i64 e.2.1, .int .i64 e.2.2])) (g7 : (W.alloc o).grownBy w3 v7.ownBlock) (at7 : v7'.ownBlock = v7.ownBlock ∨ v7'.ownBlock = some (W.alloc o).heap.size)
    (r8 : w5.ownsRow w.heap.size 3 1 v8' (E.length + 1) (nV F ++ [.int .i64 (kk : Int)])) (g8 : (w3.alloc o2).grownBy w5 v8.ownBlock) (h8 : (w3.alloc o2).ownsRow w.heap.size 3 1 v8 E.length (nV F)) : RW w w5 ga gb q ta tb v7' v8' (E ++ [e]) (F ++ [kk]) := by
  have la := h.ba.lt
  have lb := h.bb.lt
  have sz : (W.alloc o).heap.size = W.heap.size + 1 := by simp
  refine ⟨?_, ?_, fun g hg => ?_, ?_, ?_, ?_⟩
  · have := kept_two' (r7.alloc o2) h8 g8
    rw [List.length_append, eV_app]
    exact this
  · rw [List.length_append, nV_app]
    exact r8
  · rcases at7 with e1 | e1
    · rw [e1] at hg; exact h.dis g hg
    · rw [e1] at hg
      injection hg with hg
      omega
  · exact (((h.ba.alloc o).grown g7 (fun e => (h.dis _ e.symm).1 rfl)).alloc o2).grown g8 (fun e => own_ne h8 (((h.ba.alloc o).grown g7 (fun e => (h.dis _ e.symm).1 rfl)).alloc o2) (by decide) e.symm)
  · exact (((h.bb.alloc o).grown g7 (fun e => (h.dis _ e.symm).2 rfl)).alloc o2).grown g8 (fun e => own_ne h8 (((h.bb.alloc o).grown g7 (fun e => (h.dis _ e.symm).2 rfl)).alloc o2) (by decide) e.symm)
  · have k3 : Below w.heap.size w w3 := (h.k.alloc h.k.size o).grown g7 (by have := h.k.size; omega) (fun i e => (h.r7.lt i e).1)
    exact (k3.alloc k3.size o2).grown g8 (by have := k3.size; simp; omega) (fun i e => (h8.lt i e).1)
set_option maxRecDepth 100000 in
set_option maxHeartbeats 8000000 in
theorem lawOnce (st sk : Int) (A : Option Addr) (n c : Nat) (G X Y : Nat → Int) (P R : Nat → Bool) (w : World) (st0 : 0 ≤ st) (st1 : st ≤ 255) (sk0 : 0 ≤ sk) (sk1 : sk ≤ 65535) (hA : SentIn w A n G X Y P R) :
    Calls Try.prog 4 #[.int .u8 st, .int .u16 sk, .slice A n c] w fun e w' => e = .returned (.bool true) ∧ Below w.heap.size w w' := by
  have HA := Lib.hid hA.2.2
  have HBD := Lib.hid hA.2.1
  clear hA
  by_cases hn : 300 < n
  · go_enter Try.func4, Try.ntmps4
    go_wp2_with fail
    refine (awake_any w).mono ?_
    rintro e w1 ⟨rfl, k1⟩
    go_wp2_with fail
    go_ret
    exact ⟨rfl, k1⟩
  obtain ⟨i0, hi, hz0, hz1, hz2⟩ := info_parts Try.info31'
  have hi' := Lib.hid hi
  have hz0' := Lib.hid hz0
  have hz1' := Lib.hid hz1
  have hz2' := Lib.hid hz2
  obtain ⟨j0, hj, hy0, hy1, hy2⟩ := info_parts Try.info3'
  have hj' := Lib.hid hj
  have hy0' := Lib.hid hy0
  have hy1' := Lib.hid hy1
  have hy2' := Lib.hid hy2
  clear hi hz0 hz1 hz2 hj hy0 hy1 hy2
  go_enter Try.func4, Try.ntmps4
  go_wp2_with fail
  refine (awake_any w).mono ?_
  rintro e w1 ⟨rfl, k1⟩
  have K1 := Lib.hid k1
  clear k1
  go_wp2_with fail
  go_loopw [7, 8, 9, 10, 11, 12, 30] (fun v7 v8 qv tv av bv i wr => ∃ k : Nat, k ≤ n ∧ i = .int .i64 k ∧ qv = .int .i64 (sq st k) ∧ tv = .int .i64 (tq G k) ∧ av = .bool (lo P k) ∧ bv = .bool (lo R k) ∧
      wr.ownsRow w.heap.size 31 3 v7 (evs st G X Y P R k).length (eV (evs st G X Y P R k)) ∧ wr.ownsRow w.heap.size 3 1 v8 (evs st G X Y P R k).length (nV (frs st G X Y P R k)) ∧ Below w.heap.size w wr)
    (fun _ _ _ _ _ _ i _ => n - (intOf i).toNat)
  case atStart => exact ⟨0, Nat.zero_le _, rfl, rfl, rfl, rfl, rfl, World.ownsRow_nil _ _ _ _, World.ownsRow_nil _ _ _ _, K1.out⟩
  case round =>
    obtain ⟨k, hk, rfl, rfl, rfl, rfl, rfl, hr7, hr8, kr⟩ := hrel
    have HR7 := Lib.hid hr7
    have HR8 := Lib.hid hr8
    have KR := Lib.hid kr
    clear hr7 hr8 kr
    by_cases hlt : k < n
    · obtain ⟨ab, off, rfl, hb, hc⟩ := HA.out (by omega)
      obtain ⟨c0, c1, c2, c3, c4⟩ := hc k hlt
      have y0 := (KR.out.cell (p := ⟨ab, off + k * 5, none⟩) hb).trans c0
      have y1 := (KR.out.cell (p := ⟨ab, off + k * 5 + 1, none⟩) hb).trans c1
      have y2 := (KR.out.cell (p := ⟨ab, off + k * 5 + 2, none⟩) hb).trans c2
      have y3 := (KR.out.cell (p := ⟨ab, off + k * 5 + 3, none⟩) hb).trans c3
      have y4 := (KR.out.cell (p := ⟨ab, off + k * 5 + 4, none⟩) hb).trans c4
      clear hc c0 c1 c2 c3 c4
      obtain ⟨⟨gk0, gk1⟩, ⟨xk0, xk1⟩, ⟨yk0, yk1⟩⟩ := HBD.out k
      have htb := tq_bd (fun i => (HBD.out i).1.1) k
      have hqb := sq_bd st0 st1 k
      have HQ1 : Hid (sq st (k + 1) = nx (sq st k)) := Lib.hid rfl
      have HT1 : Hid (tq G (k + 1) = tq G k + (20 + G k % 50)) := Lib.hid rfl
      have HL1 : Hid (lo P (k + 1) = (P k && !lo P k)) := Lib.hid rfl
      have HL2 : Hid (lo R (k + 1) = (R k && !lo R k)) := Lib.hid rfl
      have HEV : Hid (evs st G X Y P R (k + 1) = evs st G X Y P R k ++ ev st G X Y P R k) := Lib.hid rfl
      have HFR : Hid (frs st G X Y P R (k + 1) = frs st G X Y P R k ++ (ev st G X Y P R k).map fun _ => k) := Lib.hid rfl
      have HE : Hid (ev st G X Y P R k = (if Y k % 20 < X k % 20 ∧ lo R (k + 1) = false then [(1, sq st k, tq G (k + 1) + Y k % 20)] else []) ++ ((if lo P (k + 1) = false then [(0, sq st k, tq G (k + 1) + X k % 20)] else []) ++ (if X k % 20 ≤ Y k % 20 ∧ lo R (k + 1) = false then [(1, sq st k, tq G (k + 1) + Y k % 20)] else []))) := Lib.hid rfl
      obtain ⟨la, hla⟩ : ∃ la, lo P (k + 1) = la := ⟨_, rfl⟩
      obtain ⟨lb, hlb⟩ : ∃ lb, lo R (k + 1) = lb := ⟨_, rfl⟩
      have HLA := Lib.hid hla
      have HLB := Lib.hid hlb
      rw [hla] at HL1 HE
      rw [hlb] at HL2 HE
      clear hla hlb
      obtain ⟨t1, ht1⟩ : ∃ t1, tq G (k + 1) = t1 := ⟨_, rfl⟩
      have HTT := Lib.hid ht1
      rw [ht1] at HT1 HE
      clear ht1
      have ht1' : t1 = tq G k + (20 + G k % 50) := HT1.out
      generalize G k = gk at *
      generalize X k = xk at *
      generalize Y k = yk at *
      generalize P k = pk at *
      generalize R k = rk at *
      generalize lo P k = la0 at *
      generalize lo R k = lb0 at *
      generalize tq G k = tk at *
      generalize sq st k = q at *
      have g1 : decide (n ≤ k) = false := decide_eq_false (by omega)
      have g2 : decide ((k : Int) < 0) = false := decide_eq_false (by omega)
      have g3 : (k : Int) < n := by omega
      go_upto_region 13 with fail
      obtain ⟨W1, hW1⟩ : ∃ W1, wr.alloc (.cells #[.int .u16 gk, .int .u16 xk, .int .u16 yk, .bool pk, .bool rk] 29) = W1 := ⟨_, rfl⟩
      rw [hW1]
      have x1 : Blk W1 wr.heap.size 29 #[.int .u16 gk, .int .u16 xk, .int .u16 yk, .bool pk, .bool rk] := by rw [← hW1]; exact Blk.made _ _ _
      have R7 := HR7.out.alloc (.cells #[.int .u16 gk, .int .u16 xk, .int .u16 yk, .bool pk, .bool rk] 29)
      have R8 := HR8.out.alloc (.cells #[.int .u16 gk, .int .u16 xk, .int .u16 yk, .bool pk, .bool rk] 29)
      rw [hW1] at R7 R8
      have k1 : Below w.heap.size w W1 := by rw [← hW1]; exact KR.out.alloc KR.out.size _
      have HR7' := Lib.hid R7
      have HR8' := Lib.hid R8
      have K1' := Lib.hid k1
      have X1 := Lib.hid x1
      have v1 : W1.cell? ⟨wr.heap.size, 1, none⟩ = some (.int .u16 xk) := x1.cell 1
      have v2 : W1.cell? ⟨wr.heap.size, 2, none⟩ = some (.int .u16 yk) := x1.cell 2
      have v3 : W1.cell? ⟨wr.heap.size, 3, none⟩ = some (.bool pk) := x1.cell 3
      have v4 : W1.cell? ⟨wr.heap.size, 4, none⟩ = some (.bool rk) := x1.cell 4
      clear hW1 x1 R7 R8 k1 y0 y1 y2 y3 y4 HR7 HR8
      rw [← ht1']
      clear ht1'
      go_cut [11, 12] from 31 to 116 (fun a b wx => a = .bool la ∧ b = .bool lb ∧ wx = W1)
      case first =>
        have hla := HL1.out
        have hlb := HL2.out
        clear HL1 HL2 HE
        cases pk with
        | false =>
          obtain rfl : la = false := hla
          cases rk with
          | false =>
            obtain rfl : lb = false := hlb
            go_wp2_with fail
            go_meet
            case rel => exact ⟨rfl, rfl, rfl⟩
          | true =>
            obtain rfl : lb = !lb0 := hlb
            go_wp2_with fail
            go_meet
            case rel => exact ⟨rfl, rfl, rfl⟩
        | true =>
          obtain rfl : la = !la0 := hla
          cases rk with
          | false =>
            obtain rfl : lb = false := hlb
            go_wp2_with fail
            go_meet
            case rel => exact ⟨rfl, rfl, rfl⟩
          | true =>
            obtain rfl : lb = !lb0 := hlb
            go_wp2_with fail
            go_meet
            case rel => exact ⟨rfl, rfl, rfl⟩
      case rest =>
        obtain ⟨rfl, rfl, hwc⟩ := hcut
        rw [hwc]
        clear hwc wc
        clear v3 v4
        --CUT2
        have hwx : IntKind.i64.wrap xk = xk := IntWalk.i64_in _ (by omega)
        have hwy : IntKind.i64.wrap yk = yk := IntWalk.i64_in _ (by omega)
        have hmx : xk.tmod 20 = xk % 20 := Int.tmod_eq_emod_of_nonneg xk0
        have hmy : yk.tmod 20 = yk % 20 := Int.tmod_eq_emod_of_nonneg yk0
        have t1b : 0 ≤ t1 ∧ t1 ≤ 30000 := by have := HT1.out; omega
        have hwa : IntKind.i64.wrap (t1 + xk % 20) = t1 + xk % 20 := IntWalk.i64_in _ (by omega)
        have hwb : IntKind.i64.wrap (t1 + yk % 20) = t1 + yk % 20 := IntWalk.i64_in _ (by omega)
        have TX := Lib.hid (And.intro hwx (And.intro hwy (And.intro hmx (And.intro hmy (And.intro hwa hwb)))))
        clear hwx hwy hmx hmy hwa hwb
        go_upto_region 14 with fail
        go_cut [15, 16] from 31 to 116 (fun pa pb wx => ∃ ga gb, pa = .pointer (some ⟨ga, 0, none⟩) ∧ pb = .pointer (some ⟨gb, 0, none⟩) ∧ Blk wx ga 31 #[.int .i64 0, .int .i64 q, .int .i64 (t1 + xk % 20)] ∧ Blk wx gb 31 #[.int .i64 1, .int .i64 q, .int .i64 (t1 + yk % 20)] ∧ W1.heap.size ≤ ga ∧ W1.heap.size ≤ gb ∧ Below W1.heap.size W1 wx)
        case first =>
          clear HL1 HL2 HE
          go_region_held3 (fun w' : World => w'.cell? ⟨wr.heap.size, 1, none⟩ = some (.int .u16 xk) ∧ w'.cell? ⟨wr.heap.size, 2, none⟩ = some (.int .u16 yk)) (go_keep) (fail)
          · obtain ⟨hwx, hwy, hmx, hmy, hwa, hwb⟩ := TX.out
            simp only [hwx, hwy, hmx, hmy, hwa, hwb]
            clear hwx hwy hmx hmy hwa hwb
            go_wp2_with fail
            go_meet
            case rel => exact ⟨_, _, rfl, rfl, ((Blk.made _ _ _).alloc _).drew, (Blk.made_at _ _ _ (by simp)).drew, Nat.le_refl _, by omega, (((Below.refl _ _).alloc (Nat.le_refl _) _).alloc (by simp) _).drew⟩
          · obtain ⟨hwx, hwy, hmx, hmy, hwa, hwb⟩ := TX.out
            simp only [hwx, hwy, hmx, hmy, hwa, hwb]
            clear hwx hwy hmx hmy hwa hwb
            go_wp2_with fail
            go_meet
            case rel => exact ⟨_, _, rfl, rfl, (Blk.made_at _ _ _ (by simp)).drew, ((Blk.made _ _ _).alloc _).drew, by omega, Nat.le_refl _, (((Below.refl _ _).alloc (Nat.le_refl _) _).alloc (by simp) _).drew⟩
        case rest =>
          obtain ⟨ga, gb, rfl, rfl, hba, hbb, ha0, hb0, hkx⟩ := hcut
          clear v1 v2
          have hlen := evs_len (st := st) (G := G) (X := X) (Y := Y) (P := P) (R := R) k
          have RW0 := Lib.hid (RW.mk (HR7'.out.kept (row := none) ⟨hkx.os, hkx.tape, hkx.output, hkx.size, fun i hi _ => hkx.block i hi⟩ (Classical.em _)) (HR8'.out.kept (row := none) ⟨hkx.os, hkx.tape, hkx.output, hkx.size, fun i hi _ => hkx.block i hi⟩ (Classical.em _)) (fun g hg => by have := (HR7'.out.lt g hg).2; omega) hba hbb (K1'.out.trans (hkx.mono K1'.out.size)))
          generalize hE0 : evs st G X Y P R k = E0 at *
          generalize hF0 : frs st G X Y P R k = F0 at *
          clear hba hbb ha0 hb0 hkx HR7' HR8' K1' X1
          have HE0 := Lib.hid hE0
          have HF0 := Lib.hid hF0
          clear hE0 hF0
          obtain ⟨ta, hta⟩ : ∃ ta, t1 + xk % 20 = ta := ⟨_, rfl⟩
          obtain ⟨tb, htb2⟩ : ∃ tb, t1 + yk % 20 = tb := ⟨_, rfl⟩
          obtain ⟨d1, hd1⟩ : ∃ d1, (decide (tb < ta) && !lb) = d1 := ⟨_, rfl⟩
          obtain ⟨d3, hd3⟩ : ∃ d3, (decide (ta ≤ tb) && !lb) = d3 := ⟨_, rfl⟩
          have HE3 : Hid (ev st G X Y P R k = (if d1 = true then [(1, q, tb)] else []) ++ ((if la = false then [(0, q, ta)] else []) ++ (if d3 = true then [(1, q, tb)] else []))) := Lib.hid (by
            rw [HE.out, hta, htb2]
            have c1 : (yk % 20 < xk % 20 ∧ lb = false) ↔ d1 = true := by rw [← hd1]; cases lb <;> simp <;> omega
            have c3 : (xk % 20 ≤ yk % 20 ∧ lb = false) ↔ d3 = true := by rw [← hd3]; cases lb <;> simp <;> omega
            simp only [c1, c3])
          rw [hta, htb2] at RW0
          have HD1 := Lib.hid hd1
          have HD3 := Lib.hid hd3
          clear HE hta htb2 hd1 hd3 TX HL1 HL2
          have RWs := RW0
          clear RW0
          go_upto_region 15 with fail
          have b2 : wc.cell? ⟨gb, 2, none⟩ = some (.int .i64 tb) := RWs.out.bb.cell 2
          have a2 : wc.cell? ⟨ga, 2, none⟩ = some (.int .i64 ta) := RWs.out.ba.cell 2
          have WCS := Lib.hid (rfl : wc = wc)
          go_cut [78] from 31 to 116 (fun d wx => d = .bool d1 ∧ wx = wc)
          case first =>
            have hd := HD1.out
            by_cases hc : tb < ta
            · obtain rfl : d1 = !lb := by rw [← hd]; simp [hc]
              go_wp2_with fail
              go_meet
              case rel => exact ⟨rfl, rfl⟩
            · obtain rfl : d1 = false := by rw [← hd]; simp [hc]
              go_wp2_with fail
              go_meet
              case rel => exact ⟨rfl, rfl⟩
          case rest =>
            obtain ⟨rfl, hwc⟩ := hcut
            subst hwc
            clear a2 b2
            go_upto_if 78 with fail
            go_cut [7, 8] from 31 to 116 (fun v7 v8 wx => RW w wx ga gb q ta tb v7 v8 (E0 ++ (if d1 = true then [((1 : Int), q, tb)] else [])) (F0 ++ (if d1 = true then [k] else [])))
            case first =>
              have b0 : wc.cell? ⟨gb, 0, none⟩ = some (.int .i64 1) := RWs.out.bb.cell 0
              have b1 : wc.cell? ⟨gb, 1, none⟩ = some (.int .i64 q) := RWs.out.bb.cell 1
              have b2 : wc.cell? ⟨gb, 2, none⟩ = some (.int .i64 tb) := RWs.out.bb.cell 2
              have a0 : wc.cell? ⟨ga, 0, none⟩ = some (.int .i64 0) := RWs.out.ba.cell 0
              have a1 : wc.cell? ⟨ga, 1, none⟩ = some (.int .i64 q) := RWs.out.ba.cell 1
              have a2 : wc.cell? ⟨ga, 2, none⟩ = some (.int .i64 ta) := RWs.out.ba.cell 2
              cases d1 with
              | false =>
                go_wp2_with fail
                go_meet
                case rel => simpa using RWs.out
              | true =>
                obtain ⟨El, hEl⟩ : ∃ l, (E0).length = l := ⟨_, rfl⟩
                have r7s := RWs.out.r7
                have r8s := RWs.out.r8
                have HEl : Hid ((E0).length = El) := Lib.hid hEl
                have hEb : El ≤ 610 := by rw [← hEl]; (try simp only [List.length_append]); have h0 := hlen; omega
                rw [hEl] at r7s r8s
                have R7s := Lib.hid r7s
                have R8s := Lib.hid r8s
                clear r7s r8s hEl
                go_wp2_with (first
                  | (at_builtin; refine wpList_append_own _ rfl _ _ 27 rfl w.heap.size 3 j0 (.int .i64 0) 1 8 Try.underlying27 hj'.out hy0'.out hy1'.out hy2'.out rfl (by decide) _ _ _ rfl (R8n.out.alloc _) ⟨w3.heap.size, 0, none⟩ 1 1 [.int .i64 (k : Int)] rfl rfl (new_one _ _ _) (one_one _) (by unfold maxLen; omega) (by omega) (by have := K3.out.size; simp; omega) ?_; intro v8' w5 r8 g8 _)
                  | (at_builtin; refine wpList_append_own_at _ rfl _ _ 22 rfl w.heap.size 31 i0 (.agg #[.int .i64 0, .int .i64 0, .int .i64 0]) 3 24 Try.underlying22 hi'.out hz0'.out hz1'.out hz2'.out rfl (by decide) _ _ _ rfl (R7s.out.alloc _) ⟨wc.heap.size, 0, none⟩ 1 1 [.int .i64 1, .int .i64 q, .int .i64 tb] rfl rfl (new_three _ _ _ _ _) (three_one _ _ _) (by unfold maxLen; omega) (by omega) (by have := RWs.out.k.size; simp; omega) ?_
                     intro v7' w3 r7 g7 _ at7
                     have R8n := Lib.hid (kept_two (R7s.out.alloc (.cells (#[.int .i64 1, .int .i64 q, .int .i64 tb]) 31)) (R8s.out.alloc (.cells (#[.int .i64 1, .int .i64 q, .int .i64 tb]) 31)) g7)
                     have K3 := Lib.hid ((RWs.out.k.alloc RWs.out.k.size (.cells (#[.int .i64 1, .int .i64 q, .int .i64 tb]) 31)).grown g7 (by have := RWs.out.k.size; simp; omega) (fun i e => (R7s.out.lt i e).1))
                     have R7n := Lib.hid r7
                     have G7n := Lib.hid g7
                     have A7n := Lib.hid at7
                     clear r7 g7 at7))
                go_meet
                case rel =>
                  have hm := RW.more (e := (1, q, tb)) (kk := k) RWs.out (by rw [HEl.out]; exact R7n.out) G7n.out A7n.out (by rw [HEl.out]; exact r8) g8 (by rw [HEl.out]; exact R8n.out.alloc _)
                  simpa using hm
            case rest =>
              clear RWs
              have RWs := Lib.hid hcut
              clear hcut
              go_upto_if 88 with fail
              go_cut [7, 8] from 31 to 116 (fun v7 v8 wx => RW w wx ga gb q ta tb v7 v8 (E0 ++ ((if d1 = true then [((1 : Int), q, tb)] else []) ++ (if la = false then [((0 : Int), q, ta)] else []))) (F0 ++ ((if d1 = true then [k] else []) ++ (if la = false then [k] else []))))
              case first =>
                have b0 : wc.cell? ⟨gb, 0, none⟩ = some (.int .i64 1) := RWs.out.bb.cell 0
                have b1 : wc.cell? ⟨gb, 1, none⟩ = some (.int .i64 q) := RWs.out.bb.cell 1
                have b2 : wc.cell? ⟨gb, 2, none⟩ = some (.int .i64 tb) := RWs.out.bb.cell 2
                have a0 : wc.cell? ⟨ga, 0, none⟩ = some (.int .i64 0) := RWs.out.ba.cell 0
                have a1 : wc.cell? ⟨ga, 1, none⟩ = some (.int .i64 q) := RWs.out.ba.cell 1
                have a2 : wc.cell? ⟨ga, 2, none⟩ = some (.int .i64 ta) := RWs.out.ba.cell 2
                cases la with
                | true =>
                  go_wp2_with fail
                  go_meet
                  case rel => simpa using RWs.out
                | false =>
                  obtain ⟨El, hEl⟩ : ∃ l, (E0 ++ (if d1 = true then [((1 : Int), q, tb)] else [])).length = l := ⟨_, rfl⟩
                  have r7s := RWs.out.r7
                  have r8s := RWs.out.r8
                  have HEl : Hid ((E0 ++ (if d1 = true then [((1 : Int), q, tb)] else [])).length = El) := Lib.hid hEl
                  have hEb : El ≤ 610 := by rw [← hEl]; (try simp only [List.length_append]); have h1 := if_len (c := d1 = true) ((1 : Int), q, tb); omega
                  rw [hEl] at r7s r8s
                  have R7s := Lib.hid r7s
                  have R8s := Lib.hid r8s
                  clear r7s r8s hEl
                  go_wp2_with (first
                    | (at_builtin; refine wpList_append_own _ rfl _ _ 27 rfl w.heap.size 3 j0 (.int .i64 0) 1 8 Try.underlying27 hj'.out hy0'.out hy1'.out hy2'.out rfl (by decide) _ _ _ rfl (R8n.out.alloc _) ⟨w3.heap.size, 0, none⟩ 1 1 [.int .i64 (k : Int)] rfl rfl (new_one _ _ _) (one_one _) (by unfold maxLen; omega) (by omega) (by have := K3.out.size; simp; omega) ?_; intro v8' w5 r8 g8 _)
                    | (at_builtin; refine wpList_append_own_at _ rfl _ _ 22 rfl w.heap.size 31 i0 (.agg #[.int .i64 0, .int .i64 0, .int .i64 0]) 3 24 Try.underlying22 hi'.out hz0'.out hz1'.out hz2'.out rfl (by decide) _ _ _ rfl (R7s.out.alloc _) ⟨wc.heap.size, 0, none⟩ 1 1 [.int .i64 0, .int .i64 q, .int .i64 ta] rfl rfl (new_three _ _ _ _ _) (three_one _ _ _) (by unfold maxLen; omega) (by omega) (by have := RWs.out.k.size; simp; omega) ?_
                       intro v7' w3 r7 g7 _ at7
                       have R8n := Lib.hid (kept_two (R7s.out.alloc (.cells (#[.int .i64 0, .int .i64 q, .int .i64 ta]) 31)) (R8s.out.alloc (.cells (#[.int .i64 0, .int .i64 q, .int .i64 ta]) 31)) g7)
                       have K3 := Lib.hid ((RWs.out.k.alloc RWs.out.k.size (.cells (#[.int .i64 0, .int .i64 q, .int .i64 ta]) 31)).grown g7 (by have := RWs.out.k.size; simp; omega) (fun i e => (R7s.out.lt i e).1))
                       have R7n := Lib.hid r7
                       have G7n := Lib.hid g7
                       have A7n := Lib.hid at7
                       clear r7 g7 at7))
                  go_meet
                  case rel =>
                    have hm := RW.more (e := (0, q, ta)) (kk := k) RWs.out (by rw [HEl.out]; exact R7n.out) G7n.out A7n.out (by rw [HEl.out]; exact r8) g8 (by rw [HEl.out]; exact R8n.out.alloc _)
                    simpa using hm
              case rest =>
                clear RWs
                have RWs := Lib.hid hcut
                clear hcut
                go_upto_region 19 with fail
                have b2 : wc.cell? ⟨gb, 2, none⟩ = some (.int .i64 tb) := RWs.out.bb.cell 2
                have a2 : wc.cell? ⟨ga, 2, none⟩ = some (.int .i64 ta) := RWs.out.ba.cell 2
                go_cut [105] from 31 to 116 (fun d wx => d = .bool d3 ∧ wx = wc)
                case first =>
                  have hd := HD3.out
                  by_cases hc : ta ≤ tb
                  · obtain rfl : d3 = !lb := by rw [← hd]; simp [hc]
                    go_wp2_with fail
                    go_meet
                    case rel => exact ⟨rfl, rfl⟩
                  · obtain rfl : d3 = false := by rw [← hd]; simp [hc]
                    go_wp2_with fail
                    go_meet
                    case rel => exact ⟨rfl, rfl⟩
                case rest =>
                  obtain ⟨rfl, hwc⟩ := hcut
                  subst hwc
                  clear a2 b2
                  go_upto_if 105 with fail
                  go_cut [7, 8] from 31 to 116 (fun v7 v8 wx => RW w wx ga gb q ta tb v7 v8 (E0 ++ ((if d1 = true then [((1 : Int), q, tb)] else []) ++ ((if la = false then [((0 : Int), q, ta)] else []) ++ (if d3 = true then [((1 : Int), q, tb)] else [])))) (F0 ++ ((if d1 = true then [k] else []) ++ ((if la = false then [k] else []) ++ (if d3 = true then [k] else [])))))
                  case first =>
                    have b0 : wc.cell? ⟨gb, 0, none⟩ = some (.int .i64 1) := RWs.out.bb.cell 0
                    have b1 : wc.cell? ⟨gb, 1, none⟩ = some (.int .i64 q) := RWs.out.bb.cell 1
                    have b2 : wc.cell? ⟨gb, 2, none⟩ = some (.int .i64 tb) := RWs.out.bb.cell 2
                    have a0 : wc.cell? ⟨ga, 0, none⟩ = some (.int .i64 0) := RWs.out.ba.cell 0
                    have a1 : wc.cell? ⟨ga, 1, none⟩ = some (.int .i64 q) := RWs.out.ba.cell 1
                    have a2 : wc.cell? ⟨ga, 2, none⟩ = some (.int .i64 ta) := RWs.out.ba.cell 2
                    cases d3 with
                    | false =>
                      go_wp2_with fail
                      go_meet
                      case rel => simpa using RWs.out
                    | true =>
                      obtain ⟨El, hEl⟩ : ∃ l, (E0 ++ ((if d1 = true then [((1 : Int), q, tb)] else []) ++ (if la = false then [((0 : Int), q, ta)] else []))).length = l := ⟨_, rfl⟩
                      have r7s := RWs.out.r7
                      have r8s := RWs.out.r8
                      have HEl : Hid ((E0 ++ ((if d1 = true then [((1 : Int), q, tb)] else []) ++ (if la = false then [((0 : Int), q, ta)] else []))).length = El) := Lib.hid hEl
                      have hEb : El ≤ 610 := by rw [← hEl]; (try simp only [List.length_append]); have h1 := if_len (c := d1 = true) ((1 : Int), q, tb); have h2 := if_len (c := la = false) ((0 : Int), q, ta); omega
                      rw [hEl] at r7s r8s
                      have R7s := Lib.hid r7s
                      have R8s := Lib.hid r8s
                      clear r7s r8s hEl
                      go_wp2_with (first
                        | (at_builtin; refine wpList_append_own _ rfl _ _ 27 rfl w.heap.size 3 j0 (.int .i64 0) 1 8 Try.underlying27 hj'.out hy0'.out hy1'.out hy2'.out rfl (by decide) _ _ _ rfl (R8n.out.alloc _) ⟨w3.heap.size, 0, none⟩ 1 1 [.int .i64 (k : Int)] rfl rfl (new_one _ _ _) (one_one _) (by unfold maxLen; omega) (by omega) (by have := K3.out.size; simp; omega) ?_; intro v8' w5 r8 g8 _)
                        | (at_builtin; refine wpList_append_own_at _ rfl _ _ 22 rfl w.heap.size 31 i0 (.agg #[.int .i64 0, .int .i64 0, .int .i64 0]) 3 24 Try.underlying22 hi'.out hz0'.out hz1'.out hz2'.out rfl (by decide) _ _ _ rfl (R7s.out.alloc _) ⟨wc.heap.size, 0, none⟩ 1 1 [.int .i64 1, .int .i64 q, .int .i64 tb] rfl rfl (new_three _ _ _ _ _) (three_one _ _ _) (by unfold maxLen; omega) (by omega) (by have := RWs.out.k.size; simp; omega) ?_
                           intro v7' w3 r7 g7 _ at7
                           have R8n := Lib.hid (kept_two (R7s.out.alloc (.cells (#[.int .i64 1, .int .i64 q, .int .i64 tb]) 31)) (R8s.out.alloc (.cells (#[.int .i64 1, .int .i64 q, .int .i64 tb]) 31)) g7)
                           have K3 := Lib.hid ((RWs.out.k.alloc RWs.out.k.size (.cells (#[.int .i64 1, .int .i64 q, .int .i64 tb]) 31)).grown g7 (by have := RWs.out.k.size; simp; omega) (fun i e => (R7s.out.lt i e).1))
                           have R7n := Lib.hid r7
                           have G7n := Lib.hid g7
                           have A7n := Lib.hid at7
                           clear r7 g7 at7))
                      go_meet
                      case rel =>
                        have hm := RW.more (e := (1, q, tb)) (kk := k) RWs.out (by rw [HEl.out]; exact R7n.out) G7n.out A7n.out (by rw [HEl.out]; exact r8) g8 (by rw [HEl.out]; exact R8n.out.alloc _)
                        simpa using hm
                  case rest =>
                    clear RWs
                    have RWs := Lib.hid hcut
                    clear hcut
                    go_wp2_with fail
                    refine (next_any q wc).mono ?_
                    rintro e w9 ⟨rfl, rfl⟩
                    go_wp2_with fail
                    have hE : evs st G X Y P R (k + 1) = E0 ++ ((if d1 = true then [((1 : Int), q, tb)] else []) ++ ((if la = false then [((0 : Int), q, ta)] else []) ++ (if d3 = true then [((1 : Int), q, tb)] else []))) := by rw [HEV.out, HE3.out]
                    have hF : frs st G X Y P R (k + 1) = F0 ++ ((if d1 = true then [k] else []) ++ ((if la = false then [k] else []) ++ (if d3 = true then [k] else []))) := by
                      rw [HFR.out, HE3.out]
                      by_cases h1 : d1 = true <;> by_cases h2 : la = false <;> by_cases h3 : d3 = true <;> simp [h1, h2, h3]
                    have HEn := Lib.hid hE
                    have HFn := Lib.hid hF
                    clear hE hF
                    go_roundw
                    case rel => exact ⟨k + 1, by omega, by go_num, by rw [HQ1.out], by rw [HTT.out], by rw [HLA.out], by rw [HLB.out], by rw [HEn.out]; exact RWs.out.r7, by rw [HEn.out, HFn.out]; exact RWs.out.r8, RWs.out.k⟩
                    case measure => simp [intOf]; omega
    · obtain rfl : k = n := by omega
      have hl2 := evs_len (st := st) (G := G) (X := X) (Y := Y) (P := P) (R := R) k
      have hfl := frs_len (st := st) (G := G) (X := X) (Y := Y) (P := P) (R := R) k
      have HON : Hid (mgR (19 + sk % 5061) (nF (evs st G X Y P R k)) (qF (evs st G X Y P R k)) (tF (evs st G X Y P R k)) (evs st G X Y P R k).length = (fsts none (frs st G X Y P R k), 0)) :=
        Lib.hid (once st0 st1 (fun i => (HBD.out i).1.1) (fun i => (HBD.out i).2.1.1) (fun i => (HBD.out i).2.2.1) (by omega) (by omega) (by omega))
      generalize sq st k = qe at *
      generalize tq G k = te at *
      generalize lo P k = lae at *
      generalize lo R k = lbe at *
      obtain ⟨E, hE⟩ : ∃ E, evs st G X Y P R k = E := ⟨_, rfl⟩
      obtain ⟨F, hF⟩ : ∃ F, frs st G X Y P R k = F := ⟨_, rfl⟩
      rw [hE] at HR7 HR8 hl2 hfl HON
      rw [hF] at HR8 hfl HON
      clear hE hF
      obtain ⟨A5, c5, rfl, h5⟩ := own_evs HR7.out (by omega)
      have hr8 := HR8.out
      rw [← hfl] at hr8
      obtain ⟨A6, c6, rfl, h6⟩ := own_nums hr8
      obtain ⟨l, hl⟩ : ∃ l, E.length = l := ⟨_, rfl⟩
      have HFL : Hid (F.length = l) := Lib.hid (hfl.trans hl)
      have HEL := Lib.hid hl
      have HM := Lib.hid (merge_any (19 + sk % 5061) A5 E.length c5 (nF E) (qF E) (tF E) wr h5 (by omega))
      rw [HON.out] at HM
      have HAT : Hid (∀ i, i < l → (fsts none F).getD i false = match i with | 0 => true | j + 1 => decide (F.getD j 0 ≠ F.getD (j + 1) 0)) := Lib.hid (fun i hi => by
        rw [fsts_at (by rw [HFL.out]; exact hi)]
        cases i with
        | zero => simp
        | succ j => rfl)
      have hgl : (fsts none F).length = l := by rw [fsts_len, HFL.out]
      obtain ⟨z, hz⟩ : ∃ z, fsts none F = z := ⟨_, rfl⟩
      rw [hz] at HM HAT hgl
      have HGL := Lib.hid hgl
      have H6 := Lib.hid h6
      rw [hl] at HM hl2
      rw [hl, HFL.out]
      have hskm : sk.tmod 5061 = sk % 5061 := Int.tmod_eq_emod_of_nonneg sk0
      have hsb : 0 ≤ sk % 5061 ∧ sk % 5061 ≤ 5060 := by omega
      clear hfl hr8 HR7 HR8 h5 h6 hl hz hgl HON
      go_wp2_with fail
      refine HM.out.mono ?_
      rintro e w5 ⟨⟨A7, c7, rfl, b7⟩, k5⟩
      dsimp only at b7 ⊢
      rw [HGL.out]
      have B7 := Lib.hid b7
      have K5 := Lib.hid (KR.out.trans (k5.mono KR.out.size))
      have N6 := Lib.hid (H6.out.below k5 (Nat.le_refl _))
      clear b7 k5
      go_wp2_with fail
      go_loopw [137] (fun i wr => ∃ j : Nat, j ≤ l ∧ i = .int .i64 j ∧ Below w5.heap.size w5 wr) (fun i _ => l - (intOf i).toNat)
      case atStart => exact ⟨0, Nat.zero_le _, rfl, Below.refl _ _⟩
      case round =>
        obtain ⟨j, hj, rfl, kr⟩ := hrel
        have KR2 := Lib.hid kr
        clear kr
        by_cases hjl : j < l
        · obtain ⟨gz, rfl, hgz, hcz⟩ := B7.out (by rw [HGL.out]; omega)
          have yz := (KR2.out.cell (p := ⟨gz, j, none⟩) hgz).trans (hcz j (by rw [HGL.out]; exact hjl))
          obtain ⟨gf, rfl, hgf, hcf⟩ := N6.out (by rw [HFL.out]; omega)
          have yf := (KR2.out.cell (p := ⟨gf, j, none⟩) hgf).trans (hcf j (by rw [HFL.out]; exact hjl))
          rw [HAT.out j hjl] at yz
          have g1 : decide (l ≤ j) = false := decide_eq_false (by omega)
          have g2 : decide ((j : Int) < 0) = false := decide_eq_false (by omega)
          have g3 : (j : Int) < l := by omega
          by_cases h0 : j = 0
          · have yz' : wr.cell? ⟨gz, j, none⟩ = some (.bool true) := by rw [yz, h0]
            have g4 : ((j : Int) == 0) = true := by simp [h0]
            have g5 : (j : Int) = 0 := by omega
            have YZ := Lib.hid yz'
            clear yz yz' hcz hcf hgz hgf h0
            go_upto_region 29 with fail
            go_cut [20] from 138 to 160 (fun f wx => f = .bool true ∧ ∃ m, wx = wr.drewN m)
            case first =>
              go_wp2_with (go_quiet (fail))
              go_meet
              case rel => exact ⟨rfl, _, rfl⟩
            case rest =>
              obtain ⟨rfl, m, hm⟩ := hcut
              have yw : wc.cell? ⟨gz, j, none⟩ = some (.bool true) := by rw [hm]; exact (Same.drewN wr m).cell YZ.out
              have KW := Lib.hid (show Below w5.heap.size w5 wc by rw [hm]; exact belowN KR2.out)
              clear hm g4 g5
              go_wp2_with fail
              go_roundw
              case rel => exact ⟨j + 1, by omega, by go_num, KW.out⟩
              case measure => simp [intOf]; omega
          · obtain ⟨j1, hj1⟩ : ∃ j1, j = j1 + 1 := ⟨j - 1, by omega⟩
            have yf1 := (KR2.out.cell (p := ⟨gf, j1, none⟩) hgf).trans (hcf j1 (by rw [HFL.out]; omega))
            have yz' : wr.cell? ⟨gz, j, none⟩ = some (.bool (decide (F.getD j1 0 ≠ F.getD j 0))) := by rw [yz, hj1]
            have g4 : ((j : Int) == 0) = false := by simp [h0]
            have g5 : ¬ (j : Int) = 0 := by omega
            have e0 : ((j : Int) - 1) = (j1 : Int) := by omega
            have g6 : decide (l ≤ j1) = false := decide_eq_false (by omega)
            have g7 : (j1 : Int) < l := by omega
            have HJ1 := Lib.hid hj1
            obtain ⟨x, hx⟩ : ∃ x, F.getD j1 0 = x := ⟨_, rfl⟩
            obtain ⟨y, hy⟩ : ∃ y, F.getD j 0 = y := ⟨_, rfl⟩
            rw [hx] at yf1 yz'
            rw [hy] at yf yz'
            clear yz hcz hcf hgz hgf h0 hx hy hj1
            by_cases exy : x = y
            · have yz2 : wr.cell? ⟨gz, j, none⟩ = some (.bool false) := by rw [yz']; simp [exy]
              have YZ := Lib.hid yz2
              subst exy
              clear yz' yz2
              go_upto_region 29 with fail
              go_cut [20] from 138 to 160 (fun f wx => f = .bool false ∧ ∃ m, wx = wr.drewN m)
              case first =>
                go_wp2_with (go_quiet (fail))
                go_meet
                case rel => exact ⟨rfl, _, rfl⟩
              case rest =>
                obtain ⟨rfl, m, hm⟩ := hcut
                have yw : wc.cell? ⟨gz, j, none⟩ = some (.bool false) := by rw [hm]; exact (Same.drewN wr m).cell YZ.out
                have KW := Lib.hid (show Below w5.heap.size w5 wc by rw [hm]; exact belowN KR2.out)
                clear hm
                go_wp2_with fail
                go_roundw
                case rel => exact ⟨j + 1, by omega, by go_num, KW.out⟩
                case measure => simp [intOf]; omega
            · have yz2 : wr.cell? ⟨gz, j, none⟩ = some (.bool true) := by rw [yz']; simp [exy]
              have exy2 : (x == y) = false := by simpa using exy
              have exy3 : ¬ (x : Int) = (y : Int) := by omega
              have YZ := Lib.hid yz2
              clear yz' yz2
              go_upto_region 29 with fail
              go_cut [20] from 138 to 160 (fun f wx => f = .bool true ∧ ∃ m, wx = wr.drewN m)
              case first =>
                go_wp2_with (go_quiet (fail))
                go_meet
                case rel => exact ⟨by rw [show ((x : Int) != (y : Int)) = true by simpa using exy3], _, rfl⟩
              case rest =>
                obtain ⟨rfl, m, hm⟩ := hcut
                have yw : wc.cell? ⟨gz, j, none⟩ = some (.bool true) := by rw [hm]; exact (Same.drewN wr m).cell YZ.out
                have KW := Lib.hid (show Below w5.heap.size w5 wc by rw [hm]; exact belowN KR2.out)
                clear hm
                go_wp2_with fail
                go_roundw
                case rel => exact ⟨j + 1, by omega, by go_num, KW.out⟩
                case measure => simp [intOf]; omega
        · obtain rfl : j = l := by omega
          go_wp2_with fail
          go_ret
          exact ⟨rfl, K5.out.trans (KR2.out.mono K5.out.size)⟩
end Go.Proofs.Ytllabfbebidjiaa
