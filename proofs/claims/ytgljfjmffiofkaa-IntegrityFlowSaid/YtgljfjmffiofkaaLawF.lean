/-
  The walk of the law IntegrityFlow: at every uint8, uint16 and slice of bools it returns true and leaves what was there as it was. No condition.
-/
import Derived.Test.YtgljfjmffiofkaaAw
import Derived.Test.YtgljfjmffiofkaaSl
namespace Go.Proofs.Ytgljfjmffiofkaa
open Go.RowKit
theorem nx_isN {q : Int} (h : isN q = true) : isN (nx q) = true := by
  obtain ⟨h0, h1⟩ := isN_true h
  rw [nx_num h0 h1]
  split
  · decide
  · exact isN_mk (by omega) (by omega)
/-- what the sender's number is to the filter's -/
def FlowInv (s bf : Bool) (p q : Int) : Prop := s = false ∨ (bf = false ∧ q = nx p) ∨ (bf = true ∧ q = nx (nx p))
theorem FlowInv.adm {s bf : Bool} {p q : Int} (h : FlowInv s bf p q) : adm s p q = true := by
  unfold Go.Proofs.Ytgljfjmffiofkaa.adm
  rcases h with rfl | ⟨_, rfl⟩ | ⟨_, rfl⟩ <;> simp
theorem FlowInv.come (q : Int) : FlowInv true false q (nx q) := .inr (.inl ⟨rfl, rfl⟩)
theorem FlowInv.gone {s : Bool} {p q : Int} (h : FlowInv s false p q) : FlowInv s true p (nx q) := by
  rcases h with h | ⟨_, rfl⟩ | ⟨h, _⟩
  · exact .inl h
  · exact .inr (.inr ⟨rfl, rfl⟩)
  · cases h
/-- is frame k lost -/
def lostB (n : Nat) (B : Nat → Bool) (k : Nat) : Bool := decide (0 < n) && B (k % n)

set_option maxHeartbeats 4000000 in
theorem lawFlow (x g : Int) (A : Option Addr) (n c : Nat) (B : Nat → Bool) (w : World) (x0 : 0 ≤ x) (x1 : x ≤ 255) (g0 : 0 ≤ g) (g1 : g ≤ 65535) (hB : Bools w A n B) :
    Calls Try.prog 6 #[.int .u8 x, .int .u16 g, .slice A n c] w fun e w' => e = .returned (.bool true) ∧ Below w.heap.size w w' := by
  obtain ⟨n1, hB⟩ := hB
  have HN := Lib.hid (isN_mk x0 x1)
  have HB := Lib.hid hB
  clear hB
  go_enter Try.func6, Try.ntmps6
  go_wp2_with fail
  refine (awake_any _).mono ?_
  rintro e wA ⟨rfl, kA⟩
  by_cases hbig : 1000 < n
  · go_wp2_with fail
    go_ret
    exact ⟨rfl, kA⟩
  · go_wp2_with fail
    refine (new_any _).mono ?_
    rintro e wN ⟨fb, rfl, hfb, kN, hf⟩
    have K1 := Lib.hid (kA.trans (kN.mono kA.size))
    have hpw : w.heap.size ≤ fb := Nat.le_trans kA.size hfb
    obtain ⟨m, hm0, hm1, hm2⟩ : ∃ m, g % 1000 = m ∧ 0 ≤ m ∧ m < 1000 := ⟨_, rfl, by omega, by omega⟩
    have HM := Lib.hid hm0
    clear kA kN hm0
    go_wp2_with fail
    rw [HM.out]
    go_loopw [8, 9, 10, 28] (fun q b a i wr => ∃ (k : Nat) (ac : Nat) (sq p : Int) (bf s : Bool), (k : Int) ≤ m ∧ i = .int .i64 k ∧ ac ≤ k ∧ a = .int .i64 ac ∧ q = .int .i64 sq ∧ b = .bool bf ∧ isN sq = true ∧ FlowInv s bf p sq ∧ Flt wr fb ac 0 p s ∧ Below w.heap.size w wr)
      (fun _ _ _ i _ => (m - intOf i).toNat)
    case atStart => exact ⟨0, 0, x, 0, false, false, by omega, rfl, by omega, rfl, rfl, rfl, HN.out, .inl rfl, hf, K1.out⟩
    case round =>
      obtain ⟨k, ac, sq, p, bf, s, hk, rfl, hac, rfl, rfl, rfl, hsq, hinv, hfr, kr⟩ := hrel
      have HQ := Lib.hid hsq
      have HI := Lib.hid hinv
      have HF := Lib.hid hfr
      have KR := Lib.hid kr
      clear hsq hinv hfr kr hf
      by_cases hlt : (k : Int) < m
      · by_cases hn : 0 < n
        · obtain ⟨b, off, rfl, hb, hcell⟩ := HB.out hn
          have hkn : k % n < n := Nat.mod_lt _ hn
          have y0 : wr.cell? ⟨b, off + k % n, none⟩ = some (.bool (B (k % n))) := (KR.out.cell (p := ⟨b, off + k % n, none⟩) hb).trans (hcell _ hkn)
          clear hcell
          generalize B (k % n) = l at *
          cases bf with
          | true =>
            cases l with
            | true =>
              go_wp2_with fail
              refine (accept_ok true fb sq ac 0 p s _ HF.out HQ.out (by omega) (by omega) (by omega) (by omega) HI.out.adm).mono ?_
              rintro e w2 ⟨rfl, hf2, hg2⟩
              have KR2 := Lib.hid (KR.out.grown hg2 KR.out.size (fun j e => by cases e; exact hpw))
              have HF2 : Hid (Flt w2 fb ((ac + 1 : Nat) : Int) 0 sq true) := Lib.hid (by simpa using hf2)
              clear hg2 hf2
              go_wp2_with fail
              refine (next_any _ _).mono ?_
              rintro e w' ⟨rfl, rfl⟩
              go_wp2_with fail
              go_roundw
              case rel => exact ⟨k + 1, ac + 1, nx sq, sq, false, true, by omega, by go_num, by omega, by go_num, rfl, rfl, nx_isN HQ.out, FlowInv.come sq, HF2.out, KR2.out⟩
              case measure => simp [intOf]; omega
            | false =>
              go_wp2_with fail
              refine (accept_ok true fb sq ac 0 p s _ HF.out HQ.out (by omega) (by omega) (by omega) (by omega) HI.out.adm).mono ?_
              rintro e w2 ⟨rfl, hf2, hg2⟩
              have KR2 := Lib.hid (KR.out.grown hg2 KR.out.size (fun j e => by cases e; exact hpw))
              have HF2 : Hid (Flt w2 fb ((ac + 1 : Nat) : Int) 0 sq true) := Lib.hid (by simpa using hf2)
              clear hg2 hf2
              go_wp2_with fail
              refine (next_any _ _).mono ?_
              rintro e w' ⟨rfl, rfl⟩
              go_wp2_with fail
              go_roundw
              case rel => exact ⟨k + 1, ac + 1, nx sq, sq, false, true, by omega, by go_num, by omega, by go_num, rfl, rfl, nx_isN HQ.out, FlowInv.come sq, HF2.out, KR2.out⟩
              case measure => simp [intOf]; omega
          | false =>
            cases l with
            | true =>
              go_wp2_with fail
              refine (next_any _ _).mono ?_
              rintro e w' ⟨rfl, rfl⟩
              go_wp2_with fail
              go_roundw
              case rel => exact ⟨k + 1, ac, nx sq, p, true, s, by omega, by go_num, by omega, rfl, rfl, rfl, nx_isN HQ.out, HI.out.gone, HF.out, KR.out⟩
              case measure => simp [intOf]; omega
            | false =>
              go_wp2_with fail
              refine (accept_ok true fb sq ac 0 p s _ HF.out HQ.out (by omega) (by omega) (by omega) (by omega) HI.out.adm).mono ?_
              rintro e w2 ⟨rfl, hf2, hg2⟩
              have KR2 := Lib.hid (KR.out.grown hg2 KR.out.size (fun j e => by cases e; exact hpw))
              have HF2 : Hid (Flt w2 fb ((ac + 1 : Nat) : Int) 0 sq true) := Lib.hid (by simpa using hf2)
              clear hg2 hf2
              go_wp2_with fail
              refine (next_any _ _).mono ?_
              rintro e w' ⟨rfl, rfl⟩
              go_wp2_with fail
              go_roundw
              case rel => exact ⟨k + 1, ac + 1, nx sq, sq, false, true, by omega, by go_num, by omega, by go_num, rfl, rfl, nx_isN HQ.out, FlowInv.come sq, HF2.out, KR2.out⟩
              case measure => simp [intOf]; omega
        · cases bf with
          | true =>
            go_wp2_with fail
            refine (accept_ok true fb sq ac 0 p s _ HF.out HQ.out (by omega) (by omega) (by omega) (by omega) HI.out.adm).mono ?_
            rintro e w2 ⟨rfl, hf2, hg2⟩
            have KR2 := Lib.hid (KR.out.grown hg2 KR.out.size (fun j e => by cases e; exact hpw))
            have HF2 : Hid (Flt w2 fb ((ac + 1 : Nat) : Int) 0 sq true) := Lib.hid (by simpa using hf2)
            clear hg2 hf2
            go_wp2_with fail
            refine (next_any _ _).mono ?_
            rintro e w' ⟨rfl, rfl⟩
            go_wp2_with fail
            go_roundw
            case rel => exact ⟨k + 1, ac + 1, nx sq, sq, false, true, by omega, by go_num, by omega, by go_num, rfl, rfl, nx_isN HQ.out, FlowInv.come sq, HF2.out, KR2.out⟩
            case measure => simp [intOf]; omega
          | false =>
            go_wp2_with fail
            refine (accept_ok true fb sq ac 0 p s _ HF.out HQ.out (by omega) (by omega) (by omega) (by omega) HI.out.adm).mono ?_
            rintro e w2 ⟨rfl, hf2, hg2⟩
            have KR2 := Lib.hid (KR.out.grown hg2 KR.out.size (fun j e => by cases e; exact hpw))
            have HF2 : Hid (Flt w2 fb ((ac + 1 : Nat) : Int) 0 sq true) := Lib.hid (by simpa using hf2)
            clear hg2 hf2
            go_wp2_with fail
            refine (next_any _ _).mono ?_
            rintro e w' ⟨rfl, rfl⟩
            go_wp2_with fail
            go_roundw
            case rel => exact ⟨k + 1, ac + 1, nx sq, sq, false, true, by omega, by go_num, by omega, by go_num, rfl, rfl, nx_isN HQ.out, FlowInv.come sq, HF2.out, KR2.out⟩
            case measure => simp [intOf]; omega
      · go_wp2_with fail
        refine (counts_any _ _ _ _ _ _ HF.out).mono ?_
        rintro e w3 ⟨rfl, hs⟩
        go_wp2_with fail
        go_ret
        exact ⟨rfl, KR.out.trans (hs.below.mono KR.out.size)⟩
end Go.Proofs.Ytgljfjmffiofkaa
