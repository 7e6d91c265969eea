/-
  The walk of the law PoliceWrong: at every four ints it returns true and leaves what was there as it was. No condition.
-/
import Derived.Test.YtknfhbhaencdjaaAwake
import Derived.Test.YtknfhbhaencdjaaCon11
namespace Go.Proofs.Ytknfhbhaencdjaa
open Go.RowKit

set_option maxRecDepth 100000 in
set_option maxHeartbeats 8000000 in
theorem lawWrong (b0 s0 j0 x0 : Int) (w : World) :
    Calls Try.prog 9 #[.int .i64 b0, .int .i64 s0, .int .i64 j0, .int .i64 x0] w fun e w' => e = .returned (.bool true) ∧ Below w.heap.size w w' := by
  have hok := contract_okC b0 s0 j0
  obtain ⟨B, hB, hB1, hB2⟩ : ∃ B, 1 + b0 % 300 = B ∧ 1 ≤ B ∧ B ≤ 300 := ⟨_, rfl, by omega, by omega⟩
  obtain ⟨S, hS, hS1, hS2⟩ : ∃ S, 1 + s0 % 80 = S ∧ 1 ≤ S ∧ S ≤ 80 := ⟨_, rfl, by omega, by omega⟩
  obtain ⟨J, hJ, hJ1, hJ2⟩ : ∃ J, j0 % 501 = J ∧ 0 ≤ J ∧ J ≤ 500 := ⟨_, rfl, by omega, by omega⟩
  obtain ⟨T, hT, hT1, hT2⟩ : ∃ T, 1 + x0 % 1000 = T ∧ 1 ≤ T ∧ T ≤ 1000 := ⟨_, rfl, by omega, by omega⟩
  rw [hB, hS, hJ] at hok
  have p1 : 0 ≤ x0 % 1000 := by omega
  have p2 : x0 % 1000 < 1000 := by omega
  have HB := Lib.hid hB
  have HS := Lib.hid hS
  have HJ := Lib.hid hJ
  have HT := Lib.hid hT
  clear hB hS hJ hT
  go_enter Try.func9, Try.ntmps9
  go_wp2_with fail
  refine (awake_any _).mono ?_
  rintro e wA ⟨rfl, kA⟩
  have KA := Lib.hid kA
  clear kA
  go_wp2_with fail
  go_loopw [9] (fun i wr => ∃ k : Nat, k ≤ 2 ∧ i = .int .i64 k ∧ Below wA.heap.size wA wr)
    (fun i _ => (2 - intOf i).toNat)
  case atStart => exact ⟨0, by omega, rfl, Below.refl _ _⟩
  case round =>
    obtain ⟨k, hk, rfl, kB⟩ := hrel
    match k, hk with
    | 0, _ =>
      have hsz := kB.size
      go_wp2_with fail
      refine (pass_nil _ _ _).mono ?_
      rintro e w1 ⟨rfl, kb1⟩
      go_wp2_with fail
      refine (level_nil _).mono ?_
      rintro e w' ⟨rfl, rfl⟩
      go_wp2_with fail
      go_roundw
      case rel => exact ⟨1, by omega, rfl, ((kB.alloc hsz _).alloc (by simp; omega) _).trans (kb1.mono (by simp; omega))⟩
      case measure => simp [intOf]
    | 1, _ =>
      have hsz := kB.size
      go_wp2_with fail
      refine (pass_none wr.heap.size _ _ 0 0 _ ((Blk.made wr 51 _).alloc _)).mono ?_
      rintro e w1 ⟨rfl, ha1, kb1⟩
      go_wp2_with fail
      refine (level_any _ _ _ _ _ _ _ ha1).mono ?_
      rintro e w' ⟨rfl, rfl⟩
      go_wp2_with fail
      go_roundw
      case rel => exact ⟨2, by omega, rfl, ((kB.alloc hsz _).alloc (by simp; omega) _).trans (kb1.mono (by simp; omega))⟩
      case measure => simp [intOf]
    | 2, _ =>
      have KB := Lib.hid (KA.out.trans (kB.mono KA.out.size))
      clear kB
      go_wp2_with fail
      refine (contract_any _ _ _ _).mono ?_
      rintro e w' ⟨rfl, rfl⟩
      rw [HB.out, HS.out, HJ.out]
      go_wp2_with fail
      refine (pick_any _ _ _ (by omega) (by omega)).mono ?_
      rintro e w' ⟨rfl, rfl⟩
      go_wp2_with fail
      rw [HT.out]
      refine (new_ok _ _ _ _ hok).mono ?_
      rintro e wN ⟨pb, rfl, hpb, kN, hacc⟩
      have hpw : w.heap.size ≤ pb := Nat.le_trans KB.out.size hpb
      obtain ⟨L, hL⟩ : ∃ L, Pol.next B S J (S * (B + J)) 0 T S = L := ⟨_, rfl⟩
      have hm0 : 0 ≤ S * (B + J) := Int.mul_nonneg (by omega) (by omega)
      have HL := Lib.hid hL
      have KN := Lib.hid (KB.out.trans (kN.mono KB.out.size))
      clear hL kN p1 p2
      go_wp2_with fail
      refine (pass_to (b := true) (L' := L) pb _ _ _ _ _ _ _ _ hok hacc hm0 (Int.le_refl _) (by omega) (by omega) (by omega) (by omega) (by omega) (Pol.pass_first (r := T) (by omega) (by omega) hJ1 (by omega) (by omega) (Int.le_refl _) (by omega)).1 HL.out).mono ?_
      rintro e wP ⟨rfl, hac1, hg1⟩
      have KP := Lib.hid (KN.out.grown hg1 KN.out.size (fun j e => by cases e; exact hpw))
      clear hg1 hm0 hacc
      go_wp2_with fail
      refine (level_any pb _ _ _ _ _ _ hac1).mono ?_
      rintro e w' ⟨rfl, rfl⟩
      go_wp2_with fail
      obtain ⟨wo, rfl⟩ : ∃ wo : World, wo = wr := ⟨_, rfl⟩
      go_loopw [18] (fun i wr => ∃ k : Nat, k ≤ 4 ∧ i = .int .i64 k ∧ Acc wr pb B S J L T ∧ Below w.heap.size w wr)
        (fun i _ => (4 - intOf i).toNat)
      case atStart => exact ⟨0, by omega, rfl, hac1, KP.out⟩
      case round =>
        obtain ⟨k, hk, rfl, hac, kB⟩ := hrel
        have hsz := kB.size
        match k, hk with
        | 0, _ =>
          have hb : badB T (T - 1) 1 = true := by simp [badB] <;> omega
          have HBd := Lib.hid hb
          clear hb
          go_wp2_with fail
          refine (pass_bad pb B S J L T (T - 1) 1 _ hok ((hac.alloc _).alloc _) HBd.out).mono ?_
          rintro e w1 ⟨rfl, ha1, hg1⟩
          have kB1 : Below w.heap.size w w1 := ((kB.alloc hsz _).alloc (by simp; omega) _).grown hg1 (by simp; omega) (fun j e => by cases e; exact hpw)
          have bx : Blk w1 (wr.heap.size + 1) 37 #[.int .i64 (T - 1), .int .i64 1] := (Blk.made_at (g := wr.heap.size + 1) (wr.alloc (.cells _ 37)) 37 _ (by simp)).grown hg1 (by have := hac.lt; intro e; injection e; omega)
          have q0 : w1.cell? ⟨wr.heap.size + 1, 0, none⟩ = some (.int .i64 (T - 1)) := bx.cell 0
          have q1 : w1.cell? ⟨wr.heap.size + 1, 1, none⟩ = some (.int .i64 1) := bx.cell 1
          have K1 := Lib.hid kB1
          clear bx hg1 kB1
          go_wp2_with fail
          refine (filter_wrong B S J _ 2 _ (two T (T - 1)) (two 1 1) 1 _ hok (two_flow (Blk.made _ _ _)) (by omega) (two_bad HBd.out)).mono ?_
          rintro e w2 ⟨rfl, kG⟩
          have ha2 : Acc w2 pb B S J L T := (ha1.alloc _).below kG (by have := ha1.lt; simp; omega)
          have K2 := Lib.hid ((K1.out.alloc K1.out.size _).trans (kG.mono (by have := K1.out.size; simp; omega)))
          clear kG q0 q1
          go_wp2_with fail
          refine (level_any pb _ _ _ _ _ _ ha2).mono ?_
          rintro e w' ⟨rfl, rfl⟩
          go_wp2_with fail
          go_roundw
          case rel => exact ⟨1, by omega, rfl, ha2, K2.out⟩
          case measure => simp [intOf]
        | 1, _ =>
          have hb : badB T (1073741825) 1 = true := by simp [badB] <;> omega
          have HBd := Lib.hid hb
          clear hb
          go_wp2_with fail
          refine (pass_bad pb B S J L T (1073741825) 1 _ hok ((hac.alloc _).alloc _) HBd.out).mono ?_
          rintro e w1 ⟨rfl, ha1, hg1⟩
          have kB1 : Below w.heap.size w w1 := ((kB.alloc hsz _).alloc (by simp; omega) _).grown hg1 (by simp; omega) (fun j e => by cases e; exact hpw)
          have bx : Blk w1 (wr.heap.size + 1) 37 #[.int .i64 (1073741825), .int .i64 1] := (Blk.made_at (g := wr.heap.size + 1) (wr.alloc (.cells _ 37)) 37 _ (by simp)).grown hg1 (by have := hac.lt; intro e; injection e; omega)
          have q0 : w1.cell? ⟨wr.heap.size + 1, 0, none⟩ = some (.int .i64 (1073741825)) := bx.cell 0
          have q1 : w1.cell? ⟨wr.heap.size + 1, 1, none⟩ = some (.int .i64 1) := bx.cell 1
          have K1 := Lib.hid kB1
          clear bx hg1 kB1
          go_wp2_with fail
          refine (filter_wrong B S J _ 2 _ (two T (1073741825)) (two 1 1) 1 _ hok (two_flow (Blk.made _ _ _)) (by omega) (two_bad HBd.out)).mono ?_
          rintro e w2 ⟨rfl, kG⟩
          have ha2 : Acc w2 pb B S J L T := (ha1.alloc _).below kG (by have := ha1.lt; simp; omega)
          have K2 := Lib.hid ((K1.out.alloc K1.out.size _).trans (kG.mono (by have := K1.out.size; simp; omega)))
          clear kG q0 q1
          go_wp2_with fail
          refine (level_any pb _ _ _ _ _ _ ha2).mono ?_
          rintro e w' ⟨rfl, rfl⟩
          go_wp2_with fail
          go_roundw
          case rel => exact ⟨2, by omega, rfl, ha2, K2.out⟩
          case measure => simp [intOf]
        | 2, _ =>
          have hb : badB T (T) 0 = true := by simp [badB] <;> omega
          have HBd := Lib.hid hb
          clear hb
          go_wp2_with fail
          refine (pass_bad pb B S J L T (T) 0 _ hok ((hac.alloc _).alloc _) HBd.out).mono ?_
          rintro e w1 ⟨rfl, ha1, hg1⟩
          have kB1 : Below w.heap.size w w1 := ((kB.alloc hsz _).alloc (by simp; omega) _).grown hg1 (by simp; omega) (fun j e => by cases e; exact hpw)
          have bx : Blk w1 (wr.heap.size + 1) 37 #[.int .i64 (T), .int .i64 0] := (Blk.made_at (g := wr.heap.size + 1) (wr.alloc (.cells _ 37)) 37 _ (by simp)).grown hg1 (by have := hac.lt; intro e; injection e; omega)
          have q0 : w1.cell? ⟨wr.heap.size + 1, 0, none⟩ = some (.int .i64 (T)) := bx.cell 0
          have q1 : w1.cell? ⟨wr.heap.size + 1, 1, none⟩ = some (.int .i64 0) := bx.cell 1
          have K1 := Lib.hid kB1
          clear bx hg1 kB1
          go_wp2_with fail
          refine (filter_wrong B S J _ 2 _ (two T (T)) (two 1 0) 1 _ hok (two_flow (Blk.made _ _ _)) (by omega) (two_bad HBd.out)).mono ?_
          rintro e w2 ⟨rfl, kG⟩
          have ha2 : Acc w2 pb B S J L T := (ha1.alloc _).below kG (by have := ha1.lt; simp; omega)
          have K2 := Lib.hid ((K1.out.alloc K1.out.size _).trans (kG.mono (by have := K1.out.size; simp; omega)))
          clear kG q0 q1
          go_wp2_with fail
          refine (level_any pb _ _ _ _ _ _ ha2).mono ?_
          rintro e w' ⟨rfl, rfl⟩
          go_wp2_with fail
          go_roundw
          case rel => exact ⟨3, by omega, rfl, ha2, K2.out⟩
          case measure => simp [intOf]
        | 3, _ =>
          have hb : badB T (T) 2049 = true := by simp [badB] <;> omega
          have HBd := Lib.hid hb
          clear hb
          go_wp2_with fail
          refine (pass_bad pb B S J L T (T) 2049 _ hok ((hac.alloc _).alloc _) HBd.out).mono ?_
          rintro e w1 ⟨rfl, ha1, hg1⟩
          have kB1 : Below w.heap.size w w1 := ((kB.alloc hsz _).alloc (by simp; omega) _).grown hg1 (by simp; omega) (fun j e => by cases e; exact hpw)
          have bx : Blk w1 (wr.heap.size + 1) 37 #[.int .i64 (T), .int .i64 2049] := (Blk.made_at (g := wr.heap.size + 1) (wr.alloc (.cells _ 37)) 37 _ (by simp)).grown hg1 (by have := hac.lt; intro e; injection e; omega)
          have q0 : w1.cell? ⟨wr.heap.size + 1, 0, none⟩ = some (.int .i64 (T)) := bx.cell 0
          have q1 : w1.cell? ⟨wr.heap.size + 1, 1, none⟩ = some (.int .i64 2049) := bx.cell 1
          have K1 := Lib.hid kB1
          clear bx hg1 kB1
          go_wp2_with fail
          refine (filter_wrong B S J _ 2 _ (two T (T)) (two 1 2049) 1 _ hok (two_flow (Blk.made _ _ _)) (by omega) (two_bad HBd.out)).mono ?_
          rintro e w2 ⟨rfl, kG⟩
          have ha2 : Acc w2 pb B S J L T := (ha1.alloc _).below kG (by have := ha1.lt; simp; omega)
          have K2 := Lib.hid ((K1.out.alloc K1.out.size _).trans (kG.mono (by have := K1.out.size; simp; omega)))
          clear kG q0 q1
          go_wp2_with fail
          refine (level_any pb _ _ _ _ _ _ ha2).mono ?_
          rintro e w' ⟨rfl, rfl⟩
          go_wp2_with fail
          go_roundw
          case rel => exact ⟨4, by omega, rfl, ha2, K2.out⟩
          case measure => simp [intOf]
        | 4, _ =>
          have KB2 := Lib.hid kB
          clear kB hsz hac hac1
          rw [show ((4 : Nat) : Int) = 4 from rfl]
          go_wp2_with fail
          obtain ⟨wo2, rfl⟩ : ∃ wo2 : World, wo2 = wr := ⟨_, rfl⟩
          go_loopw [24] (fun i wr => ∃ k : Nat, k ≤ 6 ∧ i = .int .i64 k ∧ Below w.heap.size w wr)
            (fun i _ => (6 - intOf i).toNat)
          case atStart => exact ⟨0, by omega, rfl, KB2.out⟩
          case round =>
            obtain ⟨k, hk, rfl, kB⟩ := hrel
            have hsz := kB.size
            match k, hk with
            | 0, _ =>
              have hbad : okC 0 S J = false := by simp [okC] <;> omega
              have HBd := Lib.hid hbad
              clear hbad
              go_wp2_with fail
              refine (new_bad _ _ _ _ HBd.out).mono ?_
              rintro e w1 ⟨rfl, k1⟩
              have b1 : Blk w1 (wr.heap.size + 1) 53 #[.int .i64 0, .int .i64 S, .int .i64 J] := by refine Blk.below ?_ k1 ?_; (exact Blk.made_at _ _ _ (by simp)); simp
              have q0 : w1.cell? ⟨wr.heap.size + 1, 0, none⟩ = some (.int .i64 0) := b1.cell 0
              have q1 : w1.cell? ⟨wr.heap.size + 1, 1, none⟩ = some (.int .i64 S) := b1.cell 1
              have q2 : w1.cell? ⟨wr.heap.size + 1, 2, none⟩ = some (.int .i64 J) := b1.cell 2
              have K1 := Lib.hid (((kB.alloc hsz _).alloc (by simp; omega) _).trans (k1.mono (by simp; omega)))
              clear k1
              go_wp2_with fail
              refine (bound_bad _ _ _ _ _ (.inl HBd.out)).mono ?_
              rintro e w2 ⟨rfl, k2⟩
              clear q0 q1 q2
              have b2 : Blk w2 (wr.heap.size + 1) 53 #[.int .i64 0, .int .i64 S, .int .i64 J] := b1.below k2 b1.lt
              have q0 : w2.cell? ⟨wr.heap.size + 1, 0, none⟩ = some (.int .i64 0) := b2.cell 0
              have q1 : w2.cell? ⟨wr.heap.size + 1, 1, none⟩ = some (.int .i64 S) := b2.cell 1
              have q2 : w2.cell? ⟨wr.heap.size + 1, 2, none⟩ = some (.int .i64 J) := b2.cell 2
              have K2 := Lib.hid (K1.out.trans (k2.mono K1.out.size))
              clear k2
              go_wp2_with fail
              refine (filter_bad _ _ _ _ _ _ _ HBd.out).mono ?_
              rintro e w3 ⟨rfl, k3⟩
              clear q0 q1 q2
              have b3 : Blk w3 (wr.heap.size + 1) 53 #[.int .i64 0, .int .i64 S, .int .i64 J] := b2.below k3 b2.lt
              have q0 : w3.cell? ⟨wr.heap.size + 1, 0, none⟩ = some (.int .i64 0) := b3.cell 0
              have q1 : w3.cell? ⟨wr.heap.size + 1, 1, none⟩ = some (.int .i64 S) := b3.cell 1
              have q2 : w3.cell? ⟨wr.heap.size + 1, 2, none⟩ = some (.int .i64 J) := b3.cell 2
              have K3 := Lib.hid (K2.out.trans (k3.mono K2.out.size))
              clear k3
              go_wp2_with fail
              refine (conforms_none _ _ _ _ HBd.out).mono ?_
              rintro e w4 ⟨rfl, k4⟩
              have K4 := Lib.hid (K3.out.trans (k4.mono K3.out.size))
              clear k4 q0 q1 q2
              go_wp2_with fail
              go_roundw
              case rel => exact ⟨1, by omega, rfl, K4.out⟩
              case measure => simp [intOf]
            | 1, _ =>
              have hbad : okC 12801 S J = false := by simp [okC] <;> omega
              have HBd := Lib.hid hbad
              clear hbad
              go_wp2_with fail
              refine (new_bad _ _ _ _ HBd.out).mono ?_
              rintro e w1 ⟨rfl, k1⟩
              have b1 : Blk w1 (wr.heap.size + 1) 53 #[.int .i64 12801, .int .i64 S, .int .i64 J] := by refine Blk.below ?_ k1 ?_; (exact Blk.made_at _ _ _ (by simp)); simp
              have q0 : w1.cell? ⟨wr.heap.size + 1, 0, none⟩ = some (.int .i64 12801) := b1.cell 0
              have q1 : w1.cell? ⟨wr.heap.size + 1, 1, none⟩ = some (.int .i64 S) := b1.cell 1
              have q2 : w1.cell? ⟨wr.heap.size + 1, 2, none⟩ = some (.int .i64 J) := b1.cell 2
              have K1 := Lib.hid (((kB.alloc hsz _).alloc (by simp; omega) _).trans (k1.mono (by simp; omega)))
              clear k1
              go_wp2_with fail
              refine (bound_bad _ _ _ _ _ (.inl HBd.out)).mono ?_
              rintro e w2 ⟨rfl, k2⟩
              clear q0 q1 q2
              have b2 : Blk w2 (wr.heap.size + 1) 53 #[.int .i64 12801, .int .i64 S, .int .i64 J] := b1.below k2 b1.lt
              have q0 : w2.cell? ⟨wr.heap.size + 1, 0, none⟩ = some (.int .i64 12801) := b2.cell 0
              have q1 : w2.cell? ⟨wr.heap.size + 1, 1, none⟩ = some (.int .i64 S) := b2.cell 1
              have q2 : w2.cell? ⟨wr.heap.size + 1, 2, none⟩ = some (.int .i64 J) := b2.cell 2
              have K2 := Lib.hid (K1.out.trans (k2.mono K1.out.size))
              clear k2
              go_wp2_with fail
              refine (filter_bad _ _ _ _ _ _ _ HBd.out).mono ?_
              rintro e w3 ⟨rfl, k3⟩
              clear q0 q1 q2
              have b3 : Blk w3 (wr.heap.size + 1) 53 #[.int .i64 12801, .int .i64 S, .int .i64 J] := b2.below k3 b2.lt
              have q0 : w3.cell? ⟨wr.heap.size + 1, 0, none⟩ = some (.int .i64 12801) := b3.cell 0
              have q1 : w3.cell? ⟨wr.heap.size + 1, 1, none⟩ = some (.int .i64 S) := b3.cell 1
              have q2 : w3.cell? ⟨wr.heap.size + 1, 2, none⟩ = some (.int .i64 J) := b3.cell 2
              have K3 := Lib.hid (K2.out.trans (k3.mono K2.out.size))
              clear k3
              go_wp2_with fail
              refine (conforms_none _ _ _ _ HBd.out).mono ?_
              rintro e w4 ⟨rfl, k4⟩
              have K4 := Lib.hid (K3.out.trans (k4.mono K3.out.size))
              clear k4 q0 q1 q2
              go_wp2_with fail
              go_roundw
              case rel => exact ⟨2, by omega, rfl, K4.out⟩
              case measure => simp [intOf]
            | 2, _ =>
              have hbad : okC B 0 J = false := by simp [okC] <;> omega
              have HBd := Lib.hid hbad
              clear hbad
              go_wp2_with fail
              refine (new_bad _ _ _ _ HBd.out).mono ?_
              rintro e w1 ⟨rfl, k1⟩
              have b1 : Blk w1 (wr.heap.size + 1) 53 #[.int .i64 B, .int .i64 0, .int .i64 J] := by refine Blk.below ?_ k1 ?_; (exact Blk.made_at _ _ _ (by simp)); simp
              have q0 : w1.cell? ⟨wr.heap.size + 1, 0, none⟩ = some (.int .i64 B) := b1.cell 0
              have q1 : w1.cell? ⟨wr.heap.size + 1, 1, none⟩ = some (.int .i64 0) := b1.cell 1
              have q2 : w1.cell? ⟨wr.heap.size + 1, 2, none⟩ = some (.int .i64 J) := b1.cell 2
              have K1 := Lib.hid (((kB.alloc hsz _).alloc (by simp; omega) _).trans (k1.mono (by simp; omega)))
              clear k1
              go_wp2_with fail
              refine (bound_bad _ _ _ _ _ (.inl HBd.out)).mono ?_
              rintro e w2 ⟨rfl, k2⟩
              clear q0 q1 q2
              have b2 : Blk w2 (wr.heap.size + 1) 53 #[.int .i64 B, .int .i64 0, .int .i64 J] := b1.below k2 b1.lt
              have q0 : w2.cell? ⟨wr.heap.size + 1, 0, none⟩ = some (.int .i64 B) := b2.cell 0
              have q1 : w2.cell? ⟨wr.heap.size + 1, 1, none⟩ = some (.int .i64 0) := b2.cell 1
              have q2 : w2.cell? ⟨wr.heap.size + 1, 2, none⟩ = some (.int .i64 J) := b2.cell 2
              have K2 := Lib.hid (K1.out.trans (k2.mono K1.out.size))
              clear k2
              go_wp2_with fail
              refine (filter_bad _ _ _ _ _ _ _ HBd.out).mono ?_
              rintro e w3 ⟨rfl, k3⟩
              clear q0 q1 q2
              have b3 : Blk w3 (wr.heap.size + 1) 53 #[.int .i64 B, .int .i64 0, .int .i64 J] := b2.below k3 b2.lt
              have q0 : w3.cell? ⟨wr.heap.size + 1, 0, none⟩ = some (.int .i64 B) := b3.cell 0
              have q1 : w3.cell? ⟨wr.heap.size + 1, 1, none⟩ = some (.int .i64 0) := b3.cell 1
              have q2 : w3.cell? ⟨wr.heap.size + 1, 2, none⟩ = some (.int .i64 J) := b3.cell 2
              have K3 := Lib.hid (K2.out.trans (k3.mono K2.out.size))
              clear k3
              go_wp2_with fail
              refine (conforms_none _ _ _ _ HBd.out).mono ?_
              rintro e w4 ⟨rfl, k4⟩
              have K4 := Lib.hid (K3.out.trans (k4.mono K3.out.size))
              clear k4 q0 q1 q2
              go_wp2_with fail
              go_roundw
              case rel => exact ⟨3, by omega, rfl, K4.out⟩
              case measure => simp [intOf]
            | 3, _ =>
              have hbad : okC B 2049 J = false := by simp [okC] <;> omega
              have HBd := Lib.hid hbad
              clear hbad
              go_wp2_with fail
              refine (new_bad _ _ _ _ HBd.out).mono ?_
              rintro e w1 ⟨rfl, k1⟩
              have b1 : Blk w1 (wr.heap.size + 1) 53 #[.int .i64 B, .int .i64 2049, .int .i64 J] := by refine Blk.below ?_ k1 ?_; (exact Blk.made_at _ _ _ (by simp)); simp
              have q0 : w1.cell? ⟨wr.heap.size + 1, 0, none⟩ = some (.int .i64 B) := b1.cell 0
              have q1 : w1.cell? ⟨wr.heap.size + 1, 1, none⟩ = some (.int .i64 2049) := b1.cell 1
              have q2 : w1.cell? ⟨wr.heap.size + 1, 2, none⟩ = some (.int .i64 J) := b1.cell 2
              have K1 := Lib.hid (((kB.alloc hsz _).alloc (by simp; omega) _).trans (k1.mono (by simp; omega)))
              clear k1
              go_wp2_with fail
              refine (bound_bad _ _ _ _ _ (.inl HBd.out)).mono ?_
              rintro e w2 ⟨rfl, k2⟩
              clear q0 q1 q2
              have b2 : Blk w2 (wr.heap.size + 1) 53 #[.int .i64 B, .int .i64 2049, .int .i64 J] := b1.below k2 b1.lt
              have q0 : w2.cell? ⟨wr.heap.size + 1, 0, none⟩ = some (.int .i64 B) := b2.cell 0
              have q1 : w2.cell? ⟨wr.heap.size + 1, 1, none⟩ = some (.int .i64 2049) := b2.cell 1
              have q2 : w2.cell? ⟨wr.heap.size + 1, 2, none⟩ = some (.int .i64 J) := b2.cell 2
              have K2 := Lib.hid (K1.out.trans (k2.mono K1.out.size))
              clear k2
              go_wp2_with fail
              refine (filter_bad _ _ _ _ _ _ _ HBd.out).mono ?_
              rintro e w3 ⟨rfl, k3⟩
              clear q0 q1 q2
              have b3 : Blk w3 (wr.heap.size + 1) 53 #[.int .i64 B, .int .i64 2049, .int .i64 J] := b2.below k3 b2.lt
              have q0 : w3.cell? ⟨wr.heap.size + 1, 0, none⟩ = some (.int .i64 B) := b3.cell 0
              have q1 : w3.cell? ⟨wr.heap.size + 1, 1, none⟩ = some (.int .i64 2049) := b3.cell 1
              have q2 : w3.cell? ⟨wr.heap.size + 1, 2, none⟩ = some (.int .i64 J) := b3.cell 2
              have K3 := Lib.hid (K2.out.trans (k3.mono K2.out.size))
              clear k3
              go_wp2_with fail
              refine (conforms_none _ _ _ _ HBd.out).mono ?_
              rintro e w4 ⟨rfl, k4⟩
              have K4 := Lib.hid (K3.out.trans (k4.mono K3.out.size))
              clear k4 q0 q1 q2
              go_wp2_with fail
              go_roundw
              case rel => exact ⟨4, by omega, rfl, K4.out⟩
              case measure => simp [intOf]
            | 4, _ =>
              have hbad : okC B S (-1) = false := by simp [okC] <;> omega
              have HBd := Lib.hid hbad
              clear hbad
              go_wp2_with fail
              refine (new_bad _ _ _ _ HBd.out).mono ?_
              rintro e w1 ⟨rfl, k1⟩
              have b1 : Blk w1 (wr.heap.size + 1) 53 #[.int .i64 B, .int .i64 S, .int .i64 (-1)] := by refine Blk.below ?_ k1 ?_; (exact Blk.made_at _ _ _ (by simp)); simp
              have q0 : w1.cell? ⟨wr.heap.size + 1, 0, none⟩ = some (.int .i64 B) := b1.cell 0
              have q1 : w1.cell? ⟨wr.heap.size + 1, 1, none⟩ = some (.int .i64 S) := b1.cell 1
              have q2 : w1.cell? ⟨wr.heap.size + 1, 2, none⟩ = some (.int .i64 (-1)) := b1.cell 2
              have K1 := Lib.hid (((kB.alloc hsz _).alloc (by simp; omega) _).trans (k1.mono (by simp; omega)))
              clear k1
              go_wp2_with fail
              refine (bound_bad _ _ _ _ _ (.inl HBd.out)).mono ?_
              rintro e w2 ⟨rfl, k2⟩
              clear q0 q1 q2
              have b2 : Blk w2 (wr.heap.size + 1) 53 #[.int .i64 B, .int .i64 S, .int .i64 (-1)] := b1.below k2 b1.lt
              have q0 : w2.cell? ⟨wr.heap.size + 1, 0, none⟩ = some (.int .i64 B) := b2.cell 0
              have q1 : w2.cell? ⟨wr.heap.size + 1, 1, none⟩ = some (.int .i64 S) := b2.cell 1
              have q2 : w2.cell? ⟨wr.heap.size + 1, 2, none⟩ = some (.int .i64 (-1)) := b2.cell 2
              have K2 := Lib.hid (K1.out.trans (k2.mono K1.out.size))
              clear k2
              go_wp2_with fail
              refine (filter_bad _ _ _ _ _ _ _ HBd.out).mono ?_
              rintro e w3 ⟨rfl, k3⟩
              clear q0 q1 q2
              have b3 : Blk w3 (wr.heap.size + 1) 53 #[.int .i64 B, .int .i64 S, .int .i64 (-1)] := b2.below k3 b2.lt
              have q0 : w3.cell? ⟨wr.heap.size + 1, 0, none⟩ = some (.int .i64 B) := b3.cell 0
              have q1 : w3.cell? ⟨wr.heap.size + 1, 1, none⟩ = some (.int .i64 S) := b3.cell 1
              have q2 : w3.cell? ⟨wr.heap.size + 1, 2, none⟩ = some (.int .i64 (-1)) := b3.cell 2
              have K3 := Lib.hid (K2.out.trans (k3.mono K2.out.size))
              clear k3
              go_wp2_with fail
              refine (conforms_none _ _ _ _ HBd.out).mono ?_
              rintro e w4 ⟨rfl, k4⟩
              have K4 := Lib.hid (K3.out.trans (k4.mono K3.out.size))
              clear k4 q0 q1 q2
              go_wp2_with fail
              go_roundw
              case rel => exact ⟨5, by omega, rfl, K4.out⟩
              case measure => simp [intOf]
            | 5, _ =>
              have hbad : okC B S 1048577 = false := by simp [okC] <;> omega
              have HBd := Lib.hid hbad
              clear hbad
              go_wp2_with fail
              refine (new_bad _ _ _ _ HBd.out).mono ?_
              rintro e w1 ⟨rfl, k1⟩
              have b1 : Blk w1 (wr.heap.size + 1) 53 #[.int .i64 B, .int .i64 S, .int .i64 1048577] := by refine Blk.below ?_ k1 ?_; (exact Blk.made_at _ _ _ (by simp)); simp
              have q0 : w1.cell? ⟨wr.heap.size + 1, 0, none⟩ = some (.int .i64 B) := b1.cell 0
              have q1 : w1.cell? ⟨wr.heap.size + 1, 1, none⟩ = some (.int .i64 S) := b1.cell 1
              have q2 : w1.cell? ⟨wr.heap.size + 1, 2, none⟩ = some (.int .i64 1048577) := b1.cell 2
              have K1 := Lib.hid (((kB.alloc hsz _).alloc (by simp; omega) _).trans (k1.mono (by simp; omega)))
              clear k1
              go_wp2_with fail
              refine (bound_bad _ _ _ _ _ (.inl HBd.out)).mono ?_
              rintro e w2 ⟨rfl, k2⟩
              clear q0 q1 q2
              have b2 : Blk w2 (wr.heap.size + 1) 53 #[.int .i64 B, .int .i64 S, .int .i64 1048577] := b1.below k2 b1.lt
              have q0 : w2.cell? ⟨wr.heap.size + 1, 0, none⟩ = some (.int .i64 B) := b2.cell 0
              have q1 : w2.cell? ⟨wr.heap.size + 1, 1, none⟩ = some (.int .i64 S) := b2.cell 1
              have q2 : w2.cell? ⟨wr.heap.size + 1, 2, none⟩ = some (.int .i64 1048577) := b2.cell 2
              have K2 := Lib.hid (K1.out.trans (k2.mono K1.out.size))
              clear k2
              go_wp2_with fail
              refine (filter_bad _ _ _ _ _ _ _ HBd.out).mono ?_
              rintro e w3 ⟨rfl, k3⟩
              clear q0 q1 q2
              have b3 : Blk w3 (wr.heap.size + 1) 53 #[.int .i64 B, .int .i64 S, .int .i64 1048577] := b2.below k3 b2.lt
              have q0 : w3.cell? ⟨wr.heap.size + 1, 0, none⟩ = some (.int .i64 B) := b3.cell 0
              have q1 : w3.cell? ⟨wr.heap.size + 1, 1, none⟩ = some (.int .i64 S) := b3.cell 1
              have q2 : w3.cell? ⟨wr.heap.size + 1, 2, none⟩ = some (.int .i64 1048577) := b3.cell 2
              have K3 := Lib.hid (K2.out.trans (k3.mono K2.out.size))
              clear k3
              go_wp2_with fail
              refine (conforms_none _ _ _ _ HBd.out).mono ?_
              rintro e w4 ⟨rfl, k4⟩
              have K4 := Lib.hid (K3.out.trans (k4.mono K3.out.size))
              clear k4 q0 q1 q2
              go_wp2_with fail
              go_roundw
              case rel => exact ⟨6, by omega, rfl, K4.out⟩
              case measure => simp [intOf]
            | 6, _ =>
              go_wp2_with fail
              go_ret
              exact ⟨rfl, kB⟩
            | k + 7, h => omega
        | k + 5, h => omega
    | k + 3, h => omega
end Go.Proofs.Ytknfhbhaencdjaa
