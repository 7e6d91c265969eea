/-
  The contract of the law's own offers: it answers true. Conditions: the calls lie as given, at most a million.
-/
import Derived.Test.YtllabfbebidjiaaR6
import Derived.OwnWalk
import Derived.StillTailTactics
namespace Go.Proofs.Ytllabfbebidjiaa
open Go.RowKit
theorem DelIn.far {W W' : World} {g' : Nat} {t : TypeId} {cs' : Array Value} {A : Option Addr} {c : Nat} {L : List (Int × Int)} (h : DelIn W A c L) (hg : W.grownBy W' (some g')) (hb : Blk W g' t cs') (ht : t ≠ 104) : DelIn W' A c L := by
  rcases h with h | ⟨g, hA, hlt, hc, cs, hbk⟩
  · exact .inl h
  · have hb2 : Blk W' g 104 cs := hbk.grown hg (fun e => Blk.ne_ hbk hb (fun h => ht h.symm) (by injection e))
    exact .inr ⟨g, hA, hb2.lt, fun j v hj => by rw [hb2.cell j, ← hbk.cell j]; exact hc j v hj, cs, hb2⟩
theorem DelIn.four {w : World} {A : Option Addr} {c g : Nat} {cs : Array Value} {L : List (Int × Int)} (h : DelIn w A c L) (hb : Blk w g 84 cs) (x y z u : Value) : DelIn ((((w.setCell ⟨g, 0, none⟩ x).setCell ⟨g, 1, none⟩ y).setCell ⟨g, 2, none⟩ z).setCell ⟨g, 3, none⟩ u) A c L :=
  (((h.put hb (by decide) x).put (hb.put 0 x) (by decide) y).put ((hb.put 0 x).put 1 y) (by decide) z).put (((hb.put 0 x).put 1 y).put 2 z) (by decide) u
theorem offR_now {r : RS} {q t : Int} (h : r.now ≤ 1073741824) : (offR r q t).1.now ≤ 1073741824 := by
  unfold offR
  split
  · rename_i hk
    simp only [Bool.and_eq_true, mvs, decide_eq_true_eq] at hk
    split
    · exact hk.2.2
    · exact hk.2.2
  · exact h
/-- the two selectors and their memory -/
structure OW (W : World) (sb sx k : Nat) (s : St) (r : RS) : Prop where
  sel : SelW W sb s
  ok : s.Ok
  rel : Rel s r
  rok : r.Ok
  cnt : (r.L.length : Int) + r.drp ≤ k
  top : r.now ≤ 1073741824
  box : ∃ A c, DelIn W A c r.L ∧ Blk W sx 84 #[.int .i64 r.skew, .int .i64 r.now, .int .i64 r.drp, .slice A r.L.length c]
theorem OW.below {W W' : World} {sb sx k : Nat} {s : St} {r : RS} (h : OW W sb sx k s r) (hb : Below W.heap.size W W') : OW W' sb sx k s r := by
  obtain ⟨h1, h2, h3, h4, h5, h6, A, c, h7, h8⟩ := h
  exact ⟨h1.kept hb, h2, h3, h4, h5, h6, A, c, h7.below hb (Nat.le_refl _), h8.below hb h8.lt⟩
set_option maxRecDepth 100000 in
set_option maxHeartbeats 8000000 in
theorem offers_any (skew : Int) (A : Option Addr) (n c : Nat) (N Q T : Nat → Int) (w : World) (hA : ArrIn w A n N Q T) (hn : n ≤ 1000000) :
    Calls Try.prog 21 #[.int .i64 skew, .slice A n c] w fun e w' => e = .returned (.bool true) ∧ Below w.heap.size w w' := by
  have HA := Lib.hid hA
  clear hA
  by_cases hsk : 0 ≤ skew ∧ skew ≤ 1073741824
  · obtain ⟨s0, s1⟩ := hsk
    have hok : okSkew skew = true := by simp [okSkew, s0, s1]
    have HOK := Lib.hid hok
    have SK := Lib.hid (And.intro s0 s1)
    go_enter Try.func21, Try.ntmps21
    go_wp2_with fail
    refine (selNew_ok skew w s0 s1).mono ?_
    rintro e w1 ⟨sb, rfl, hsb, k1, s1'⟩
    go_wp2_with fail
    refine (refNew21_any skew w1).mono ?_
    rintro e w2 ⟨rfl, k2⟩
    rw [HOK.out]
    obtain ⟨W, hW⟩ : ∃ W, w2.alloc (.cells #[.int .i64 skew, .int .i64 0, .int .i64 0, .slice none 0 0] 84) = W := ⟨_, rfl⟩
    have bx : Blk W w2.heap.size 84 #[.int .i64 skew, .int .i64 0, .int .i64 0, .slice none 0 0] := by rw [← hW]; exact Blk.made _ _ _
    have kW : Below w2.heap.size w2 W := by rw [← hW]; exact (Below.refl _ _).alloc (Nat.le_refl _) _
    have k02 : Below w.heap.size w w2 := k1.trans (k2.mono k1.size)
    have OW0 : Hid (OW W sb w2.heap.size 0 (.new skew) ⟨skew, 0, 0, []⟩) := Lib.hid ⟨(s1'.kept k2).kept kW, St.Ok.new s0 s1, Rel.new skew, ⟨Int.le_refl _, s0, s1, Int.le_refl _⟩, by simp, by simp, none, 0, .inl ⟨rfl, rfl, rfl⟩, bx⟩
    have K0 := Lib.hid (k02.trans (kW.mono k02.size))
    have XB : Hid (w.heap.size ≤ w2.heap.size) := Lib.hid k02.size
    have SB := Lib.hid hsb
    have HW := Lib.hid hW
    clear hok bx kW k1 k2 k02 s1' hsb s0 s1 hW
    generalize hsx : w2.heap.size = sx at *
    go_wp2_with fail
    rw [HW.out]
    try rw [hsx]
    clear hsx HW
    go_loopw [9] (fun i wr => ∃ (k : Nat) (s : St) (r : RS), k ≤ n ∧ i = .int .i64 k ∧ OW wr sb sx k s r ∧ Below w.heap.size w wr) (fun i _ => n - (intOf i).toNat)
    case atStart => exact ⟨0, _, _, Nat.zero_le _, rfl, OW0.out, K0.out⟩
    case round =>
      obtain ⟨k, s, r, hk, rfl, how, kr⟩ := hrel
      have KR := Lib.hid kr
      have HOW := Lib.hid how
      clear how kr OW0 K0
      by_cases hlt : k < n
      · obtain ⟨ab, off, rfl, hb, hc⟩ := HA.out.2 (by omega)
        obtain ⟨c0, c1, c2⟩ := hc k hlt
        have YS : Hid (∀ V : World, Below w.heap.size w V → V.cell? ⟨ab, off + k * 3, none⟩ = some (.int .i64 (N k)) ∧ V.cell? ⟨ab, off + k * 3 + 1, none⟩ = some (.int .i64 (Q k)) ∧ V.cell? ⟨ab, off + k * 3 + 2, none⟩ = some (.int .i64 (T k))) := Lib.hid (fun V hV =>
          ⟨(hV.cell (p := ⟨ab, off + k * 3, none⟩) hb).trans c0, (hV.cell (p := ⟨ab, off + k * 3 + 1, none⟩) hb).trans c1, (hV.cell (p := ⟨ab, off + k * 3 + 2, none⟩) hb).trans c2⟩)
        clear hc c0 c1 c2
        generalize N k = seq at *
        generalize Q k = tim at *
        generalize T k = ahd at *
        have g1 : decide (n ≤ k) = false := decide_eq_false (by omega)
        have g2 : decide ((k : Int) < 0) = false := decide_eq_false (by omega)
        have g3 : (k : Int) < n := by omega
        have HC := Lib.hid (by
          have h := HOW.out
          have hd := h.rel.del
          have hp := h.rel.drp
          have := h.cnt
          have := h.rok.d0
          exact (fun V (hs : SelW V sb s) => offer_any sb s seq tim V hs h.ok (by omega) (by omega)))
        obtain ⟨ro, ho2⟩ := HOW.out.rel.off seq tim
        have sok2 := HOW.out.ok.offer seq tim
        have hrok2 := HOW.out.rok.off seq tim
        have hcnt2 := offR_cnt r seq tim
        have htop2 := offR_now (q := seq) (t := tim) HOW.out.top
        obtain ⟨os, hos⟩ : ∃ os, offer s seq tim = os := ⟨_, rfl⟩
        obtain ⟨o, hofr⟩ : ∃ o, offR r seq tim = o := ⟨_, rfl⟩
        have HOF := Lib.hid hofr
        rw [hos, hofr] at ro ho2
        rw [hos] at sok2 HC
        rw [hofr] at hrok2 hcnt2 htop2
        obtain ⟨s2, ob, oe⟩ := os
        obtain ⟨o1, ob', oe'⟩ := o
        obtain ⟨rfl, rfl⟩ : ob = ob' ∧ oe = oe' := by injection ho2 with h1 h2; exact ⟨h1, h2⟩
        have RO : Hid (Rel s2 o1) := Lib.hid ro
        have SOK : Hid s2.Ok := Lib.hid sok2
        have ROK : Hid o1.Ok := Lib.hid hrok2
        have TOP : Hid (o1.now ≤ 1073741824) := Lib.hid htop2
        have hcr := HOW.out.cnt
        have RCN : Hid ((o1.L.length : Int) + o1.drp ≤ ((k + 1 : Nat) : Int)) := Lib.hid (by dsimp only at hcnt2; omega)
        clear ro ho2 sok2 hrok2 hcnt2 htop2 hcr hos hofr
        obtain ⟨y0, y1, y2⟩ := YS.out wr KR.out
        go_upto_region 10 with fail
        have KK0 := Lib.hid (KR.out.drew)
        have Y0 := Lib.hid (YS.out wr.drew KK0.out)
        have HOd := Lib.hid (HOW.out.below (Below.refl _ _).drew)
        have HC0 := Lib.hid (HC.out wr.drew HOd.out.sel)
        clear HOW
        go_region_held3 (fun w' : World => w'.cell? ⟨ab, off + k * 3, none⟩ = some (.int .i64 seq) ∧ w'.cell? ⟨ab, off + k * 3 + 1, none⟩ = some (.int .i64 tim) ∧ w'.cell? ⟨ab, off + k * 3 + 2, none⟩ = some (.int .i64 ahd))
          (first | with_reducible exact Y0.out | with_reducible exact YA.out | fail)
          ((go_at_call 17; refine HC0.out.mono ?_; rintro e wa ⟨rfl, hs5, hg5⟩
            have KA := Lib.hid (KK0.out.grown hg5 KK0.out.size (fun i e => by injection e with e; rw [← e]; exact SB.out))
            have YA := Lib.hid (YS.out wa KA.out)
            have SA := Lib.hid hs5
            have GA := Lib.hid hg5
            clear hs5 hg5))
        rename_i hHeld
        clear hHeld y0 y1 y2 HC HC0 Y0 YA KK0 KR
        obtain ⟨A', c', hdl, hbx⟩ := HOd.out.box
        have hbx : Blk wa sx 84 _ := hbx.grown GA.out (fun e => by obtain ⟨cs, h, _⟩ := HOd.out.sel; exact Blk.ne_ hbx h (by decide) (by injection e))
        have hdl : DelIn wa A' c' r.L := by obtain ⟨cs, h, _⟩ := HOd.out.sel; exact hdl.far GA.out h (by decide)
        have HO : ∀ V : World, Below wa.heap.size wa V → Calls Try.prog 37 #[rV r A' c', .int .i64 seq, .int .i64 tim] V (OPost (offR r seq tim) V) := fun V hV => refOff_any r A' c' seq tim V (hdl.below hV (Nat.le_refl _)) HOd.out.rok (by have := HOd.out.cnt; have := HOd.out.rok.d0; omega) (by have := HOd.out.cnt; have := HOd.out.rok.d0; omega)
        rw [HOF.out] at HO
        unfold rV at HO
        obtain ⟨sv, hsv⟩ : ∃ sv, Value.slice A' r.L.length c' = sv := ⟨_, rfl⟩
        rw [hsv] at HO hbx
        obtain ⟨rsk, hrsk⟩ : ∃ x, r.skew = x := ⟨_, rfl⟩
        obtain ⟨rnw, hrnw⟩ : ∃ x, r.now = x := ⟨_, rfl⟩
        obtain ⟨rdp, hrdp⟩ : ∃ x, r.drp = x := ⟨_, rfl⟩
        rw [hrsk, hrnw, hrdp] at HO hbx
        have HOh := Lib.hid HO
        have HBX := Lib.hid hbx
        have SXL := Lib.hid hbx.lt
        clear hdl HO hsv hrsk hrnw hrdp hbx HOd HOF GA
        go_upto_region 11 with fail
        go_cut [12, 13, 14] from 35 to 114 (fun v12 v13 v14 wx => ∃ gn A2 c2, v12 = .pointer (some ⟨gn, 0, none⟩) ∧ v13 = .bool ob ∧ v14 = .int .i64 oe ∧ Blk wx gn 84 #[.int .i64 o1.skew, .int .i64 o1.now, .int .i64 o1.drp, .slice A2 o1.L.length c2] ∧ DelIn wx A2 c2 o1.L ∧ wa.heap.size ≤ gn ∧ Below wa.heap.size wa wx)
        case first =>
          have v0 : wa.cell? ⟨sx, 0, none⟩ = some (.int .i64 rsk) := HBX.out.cell 0
          have v1 : wa.cell? ⟨sx, 1, none⟩ = some (.int .i64 rnw) := HBX.out.cell 1
          have v2 : wa.cell? ⟨sx, 2, none⟩ = some (.int .i64 rdp) := HBX.out.cell 2
          have v3 : wa.cell? ⟨sx, 3, none⟩ = some sv := HBX.out.cell 3
          obtain ⟨y1, y2, _⟩ := YS.out wa KA.out
          have YR : Hid (∀ V : World, Below wa.heap.size wa V → (V.cell? ⟨ab, off + k * 3, none⟩ = some (.int .i64 seq) ∧ V.cell? ⟨ab, off + k * 3 + 1, none⟩ = some (.int .i64 tim) ∧ V.cell? ⟨sx, 0, none⟩ = some (.int .i64 rsk) ∧ V.cell? ⟨sx, 1, none⟩ = some (.int .i64 rnw) ∧ V.cell? ⟨sx, 2, none⟩ = some (.int .i64 rdp) ∧ V.cell? ⟨sx, 3, none⟩ = some sv)) := Lib.hid (fun V hV => by
            obtain ⟨q1, q2, _⟩ := YS.out V (KA.out.trans (hV.mono KA.out.size))
            exact ⟨q1, q2, (hV.cell (p := ⟨sx, 0, none⟩) SXL.out).trans v0, (hV.cell (p := ⟨sx, 1, none⟩) SXL.out).trans v1, (hV.cell (p := ⟨sx, 2, none⟩) SXL.out).trans v2, (hV.cell (p := ⟨sx, 3, none⟩) SXL.out).trans v3⟩)
          clear HBX RO ROK RCN SOK TOP
          have Y0 := Lib.hid (YR.out wa.drew (Below.refl _ _).drew)
          have YA := Lib.hid (fun o : Obj => YR.out (wa.alloc o).drew ((Below.refl _ _).alloc (Nat.le_refl _) _).drew)
          have YB := Lib.hid (fun o : Obj => YR.out (wa.drew.alloc o) ((Below.refl _ _).drew.alloc (Nat.le_refl _) _))
          have HO1 := Lib.hid (HOh.out wa.drew (Below.refl _ wa).drew)
          have HO2 := Lib.hid (HOh.out (wa.alloc (.cells #[.int .i64 0, .int .i64 0, .int .i64 0, .slice none 0 0] 84)).drew ((Below.refl _ wa).alloc (Nat.le_refl _) _).drew)
          clear HOh
          go_region_held3 (fun w' : World => (w'.cell? ⟨ab, off + k * 3, none⟩ = some (.int .i64 seq) ∧ w'.cell? ⟨ab, off + k * 3 + 1, none⟩ = some (.int .i64 tim) ∧ w'.cell? ⟨sx, 0, none⟩ = some (.int .i64 rsk) ∧ w'.cell? ⟨sx, 1, none⟩ = some (.int .i64 rnw) ∧ w'.cell? ⟨sx, 2, none⟩ = some (.int .i64 rdp) ∧ w'.cell? ⟨sx, 3, none⟩ = some sv))
            (first | with_reducible exact FAR.out _ _ _ _ | with_reducible exact Z5.out | with_reducible exact ZA.out _ | with_reducible exact Y0.out | with_reducible exact YA.out _ | with_reducible exact YB.out _ | fail)
            ((go_at_call 37
              first
              | (refine HO1.out.mono ?_; rintro e w5 ⟨⟨A2, c2, rfl, hd5⟩, k5⟩
                 have k5' : Below wa.heap.size wa w5 := (Below.refl _ wa).drew.trans k5
                 have Z5 := Lib.hid (YR.out w5 k5')
                 have ZA := Lib.hid (fun o : Obj => YR.out (w5.alloc o) (k5'.alloc k5'.size o))
                 obtain ⟨z0, z1, z2, z3, z4, z5⟩ := Z5.out
                 have KF := Lib.hid k5'
                 have HD5 := Lib.hid hd5
                 unfold rV
                 try dsimp only
                 obtain ⟨n5, hs5⟩ : ∃ n5, o1.L.length = n5 := ⟨_, rfl⟩
                 rw [hs5]
                 have HS5 := Lib.hid hs5
                 clear k5 k5' hd5 hs5)
              | (refine HO2.out.mono ?_; rintro e w5 ⟨⟨A2, c2, rfl, hd5⟩, k5⟩
                 have k5' : Below wa.heap.size wa w5 := ((Below.refl _ wa).alloc (Nat.le_refl _) _).drew.trans (k5.mono (by simp))
                 have Z5 := Lib.hid (YR.out w5 k5')
                 have ZA := Lib.hid (fun o : Obj => YR.out (w5.alloc o) (k5'.alloc k5'.size o))
                 obtain ⟨z0, z1, z2, z3, z4, z5⟩ := Z5.out
                 unfold rV
                 try dsimp only
                 obtain ⟨n5, hs5⟩ : ∃ n5, o1.L.length = n5 := ⟨_, rfl⟩
                 rw [hs5]
                 have HS5 := Lib.hid hs5
                 have b5 : Blk w5 wa.heap.size 84 #[.int .i64 0, .int .i64 0, .int .i64 0, .slice none 0 0] := Blk.below (Blk.made wa 84 _).drew k5 (by simp)
                 have t0 : w5.cell? ⟨wa.heap.size, 0, none⟩ = some (.int .i64 0) := b5.cell 0
                 have q0 : w5.frozen? ⟨wa.heap.size, 0, none⟩ = false := b5.free 0
                 have t1 : (w5.setCell ⟨wa.heap.size, 0, none⟩ (.int .i64 o1.skew)).cell? ⟨wa.heap.size, 1, none⟩ = some (.int .i64 0) := (b5.put 0 _).cell 1
                 have q1 : (w5.setCell ⟨wa.heap.size, 0, none⟩ (.int .i64 o1.skew)).frozen? ⟨wa.heap.size, 1, none⟩ = false := (b5.put 0 _).free 1
                 have t2 : ((w5.setCell ⟨wa.heap.size, 0, none⟩ (.int .i64 o1.skew)).setCell ⟨wa.heap.size, 1, none⟩ (.int .i64 o1.now)).cell? ⟨wa.heap.size, 2, none⟩ = some (.int .i64 0) := ((b5.put 0 _).put 1 _).cell 2
                 have q2 : ((w5.setCell ⟨wa.heap.size, 0, none⟩ (.int .i64 o1.skew)).setCell ⟨wa.heap.size, 1, none⟩ (.int .i64 o1.now)).frozen? ⟨wa.heap.size, 2, none⟩ = false := ((b5.put 0 _).put 1 _).free 2
                 have t3 : (((w5.setCell ⟨wa.heap.size, 0, none⟩ (.int .i64 o1.skew)).setCell ⟨wa.heap.size, 1, none⟩ (.int .i64 o1.now)).setCell ⟨wa.heap.size, 2, none⟩ (.int .i64 o1.drp)).cell? ⟨wa.heap.size, 3, none⟩ = some (.slice none 0 0) := (((b5.put 0 _).put 1 _).put 2 _).cell 3
                 have q3 : (((w5.setCell ⟨wa.heap.size, 0, none⟩ (.int .i64 o1.skew)).setCell ⟨wa.heap.size, 1, none⟩ (.int .i64 o1.now)).setCell ⟨wa.heap.size, 2, none⟩ (.int .i64 o1.drp)).frozen? ⟨wa.heap.size, 3, none⟩ = false := (((b5.put 0 _).put 1 _).put 2 _).free 3
                 have B5 := Lib.hid ((((b5.put 0 (.int .i64 o1.skew)).put 1 (.int .i64 o1.now)).put 2 (.int .i64 o1.drp)).put 3 (.slice A2 n5 c2))
                 have HD5 := Lib.hid (hd5.four b5 (.int .i64 o1.skew) (.int .i64 o1.now) (.int .i64 o1.drp) (.slice A2 n5 c2))
                 have kk : ∀ x y z u : Value, Below wa.heap.size wa ((((w5.setCell ⟨wa.heap.size, 0, none⟩ x).setCell ⟨wa.heap.size, 1, none⟩ y).setCell ⟨wa.heap.size, 2, none⟩ z).setCell ⟨wa.heap.size, 3, none⟩ u) := fun x y z u => (((k5'.setCell (p := ⟨wa.heap.size, 0, none⟩) (Nat.le_refl _) x).setCell (p := ⟨wa.heap.size, 1, none⟩) (Nat.le_refl _) y).setCell (p := ⟨wa.heap.size, 2, none⟩) (Nat.le_refl _) z).setCell (p := ⟨wa.heap.size, 3, none⟩) (Nat.le_refl _) u
                 have KF := Lib.hid (kk (.int .i64 o1.skew) (.int .i64 o1.now) (.int .i64 o1.drp) (.slice A2 n5 c2))
                 have FAR : Hid (∀ x y z u : Value, (((((w5.setCell ⟨wa.heap.size, 0, none⟩ x).setCell ⟨wa.heap.size, 1, none⟩ y).setCell ⟨wa.heap.size, 2, none⟩ z).setCell ⟨wa.heap.size, 3, none⟩ u).cell? ⟨ab, off + k * 3, none⟩ = some (.int .i64 seq) ∧ ((((w5.setCell ⟨wa.heap.size, 0, none⟩ x).setCell ⟨wa.heap.size, 1, none⟩ y).setCell ⟨wa.heap.size, 2, none⟩ z).setCell ⟨wa.heap.size, 3, none⟩ u).cell? ⟨ab, off + k * 3 + 1, none⟩ = some (.int .i64 tim) ∧ ((((w5.setCell ⟨wa.heap.size, 0, none⟩ x).setCell ⟨wa.heap.size, 1, none⟩ y).setCell ⟨wa.heap.size, 2, none⟩ z).setCell ⟨wa.heap.size, 3, none⟩ u).cell? ⟨sx, 0, none⟩ = some (.int .i64 rsk) ∧ ((((w5.setCell ⟨wa.heap.size, 0, none⟩ x).setCell ⟨wa.heap.size, 1, none⟩ y).setCell ⟨wa.heap.size, 2, none⟩ z).setCell ⟨wa.heap.size, 3, none⟩ u).cell? ⟨sx, 1, none⟩ = some (.int .i64 rnw) ∧ ((((w5.setCell ⟨wa.heap.size, 0, none⟩ x).setCell ⟨wa.heap.size, 1, none⟩ y).setCell ⟨wa.heap.size, 2, none⟩ z).setCell ⟨wa.heap.size, 3, none⟩ u).cell? ⟨sx, 2, none⟩ = some (.int .i64 rdp) ∧ ((((w5.setCell ⟨wa.heap.size, 0, none⟩ x).setCell ⟨wa.heap.size, 1, none⟩ y).setCell ⟨wa.heap.size, 2, none⟩ z).setCell ⟨wa.heap.size, 3, none⟩ u).cell? ⟨sx, 3, none⟩ = some sv)) := Lib.hid (fun x y z u => YR.out _ (kk x y z u))
                 clear b5 k5 k5' hd5 hs5 kk)))
          all_goals (rename_i hHeld; clear hHeld)
          all_goals go_wp2_with fail
          all_goals go_meet
          all_goals first
            | exact ⟨_, A2, c2, rfl, rfl, rfl, by rw [HS5.out]; exact Blk.made _ _ _, HD5.out.below ((Below.refl _ _).alloc (Nat.le_refl _) _) (Nat.le_refl _), KF.out.size, KF.out.alloc KF.out.size _⟩
            | exact ⟨_, A2, c2, rfl, rfl, rfl, by rw [HS5.out]; exact B5.out, HD5.out, Nat.le_refl _, KF.out⟩
        case rest =>
          obtain ⟨gn, A2, c2, rfl, rfl, rfl, hgn, hdl, hgl, hkx⟩ := hcut
          rename World => wd
          have hgs : gn ≠ sx := by have := SXL.out; omega
          have hbd : Blk wd sx 84 #[.int .i64 rsk, .int .i64 rnw, .int .i64 rdp, sv] := HBX.out.below hkx SXL.out
          have u0 : wd.cell? ⟨gn, 0, none⟩ = some (.int .i64 o1.skew) := hgn.cell 0
          have u1 : wd.cell? ⟨gn, 1, none⟩ = some (.int .i64 o1.now) := hgn.cell 1
          have u2 : wd.cell? ⟨gn, 2, none⟩ = some (.int .i64 o1.drp) := hgn.cell 2
          obtain ⟨n2, hs2⟩ : ∃ n2, o1.L.length = n2 := ⟨_, rfl⟩
          have HN2 := Lib.hid hs2
          rw [hs2] at hgn
          have u3 : wd.cell? ⟨gn, 3, none⟩ = some (.slice A2 n2 c2) := hgn.cell 3
          have t0 : wd.cell? ⟨sx, 0, none⟩ = some (.int .i64 rsk) := hbd.cell 0
          have q0 : wd.frozen? ⟨sx, 0, none⟩ = false := hbd.free 0
          have b1 := hbd.put 0 (.int .i64 o1.skew)
          have t1 : (wd.setCell ⟨sx, 0, none⟩ (.int .i64 o1.skew)).cell? ⟨sx, 1, none⟩ = some (.int .i64 rnw) := b1.cell 1
          have q1 : (wd.setCell ⟨sx, 0, none⟩ (.int .i64 o1.skew)).frozen? ⟨sx, 1, none⟩ = false := b1.free 1
          have b2 := b1.put 1 (.int .i64 o1.now)
          have t2 : ((wd.setCell ⟨sx, 0, none⟩ (.int .i64 o1.skew)).setCell ⟨sx, 1, none⟩ (.int .i64 o1.now)).cell? ⟨sx, 2, none⟩ = some (.int .i64 rdp) := b2.cell 2
          have q2 : ((wd.setCell ⟨sx, 0, none⟩ (.int .i64 o1.skew)).setCell ⟨sx, 1, none⟩ (.int .i64 o1.now)).frozen? ⟨sx, 2, none⟩ = false := b2.free 2
          have b3 := b2.put 2 (.int .i64 o1.drp)
          have t3 : (((wd.setCell ⟨sx, 0, none⟩ (.int .i64 o1.skew)).setCell ⟨sx, 1, none⟩ (.int .i64 o1.now)).setCell ⟨sx, 2, none⟩ (.int .i64 o1.drp)).cell? ⟨sx, 3, none⟩ = some sv := b3.cell 3
          have q3 : (((wd.setCell ⟨sx, 0, none⟩ (.int .i64 o1.skew)).setCell ⟨sx, 1, none⟩ (.int .i64 o1.now)).setCell ⟨sx, 2, none⟩ (.int .i64 o1.drp)).frozen? ⟨sx, 3, none⟩ = false := b3.free 3
          have b4 : Blk ((((wd.setCell ⟨sx, 0, none⟩ (.int .i64 o1.skew)).setCell ⟨sx, 1, none⟩ (.int .i64 o1.now)).setCell ⟨sx, 2, none⟩ (.int .i64 o1.drp)).setCell ⟨sx, 3, none⟩ (.slice A2 n2 c2)) sx 84 #[.int .i64 o1.skew, .int .i64 o1.now, .int .i64 o1.drp, .slice A2 n2 c2] := b3.put 3 (.slice A2 n2 c2)
          have d4 := hdl.four hbd (.int .i64 o1.skew) (.int .i64 o1.now) (.int .i64 o1.drp) (.slice A2 n2 c2)
          have g4' : wd.grownBy ((((wd.setCell ⟨sx, 0, none⟩ (.int .i64 o1.skew)).setCell ⟨sx, 1, none⟩ (.int .i64 o1.now)).setCell ⟨sx, 2, none⟩ (.int .i64 o1.drp)).setCell ⟨sx, 3, none⟩ (.slice A2 n2 c2)) (some sx) := gb_put (gb_put (gb_put (gb_put (World.grownBy.refl _ _) 0 _) 1 _) 2 _) 3 _
          have sd := SA.out.kept hkx
          have s4 : SelW ((((wd.setCell ⟨sx, 0, none⟩ (.int .i64 o1.skew)).setCell ⟨sx, 1, none⟩ (.int .i64 o1.now)).setCell ⟨sx, 2, none⟩ (.int .i64 o1.drp)).setCell ⟨sx, 3, none⟩ (.slice A2 n2 c2)) sb s2 := sd.grown g4' (fun e => by obtain ⟨cs, h, _⟩ := sd; exact Blk.ne_ h hbd (by decide) (by injection e))
          have k4 := (((((KA.out.trans (hkx.mono KA.out.size)).setCell (p := ⟨sx, 0, none⟩) XB.out (.int .i64 o1.skew)).setCell (p := ⟨sx, 1, none⟩) XB.out (.int .i64 o1.now)).setCell (p := ⟨sx, 2, none⟩) XB.out (.int .i64 o1.drp)).setCell (p := ⟨sx, 3, none⟩) XB.out (.slice A2 n2 c2))
          have B4 := Lib.hid b4
          have D4 := Lib.hid d4
          have S4 := Lib.hid s4
          have K4 := Lib.hid k4
          clear b4 b3 b2 b1 d4 s4 k4 g4' sd hbd hgn hdl hkx hs2 SA KA HBX HOh
          go_upto_region 13 with fail
          obtain ⟨W4, hW4⟩ : ∃ W4, ((((wd.setCell ⟨sx, 0, none⟩ (.int .i64 o1.skew)).setCell ⟨sx, 1, none⟩ (.int .i64 o1.now)).setCell ⟨sx, 2, none⟩ (.int .i64 o1.drp)).setCell ⟨sx, 3, none⟩ (.slice A2 n2 c2)) = W4 := ⟨_, rfl⟩
          rw [hW4] at B4 D4 S4 K4 ⊢
          clear t0 q0 t1 q1 t2 q2 t3 q3 u0 u1 u2 u3 hW4 hgs hgl SXL
          clear wd
          have YR : Hid (∀ V : World, Below W4.heap.size W4 V → (V.cell? ⟨ab, off + k * 3 + 2, none⟩ = some (.int .i64 ahd) ∧ V.cell? ⟨sx, 0, none⟩ = some (.int .i64 o1.skew) ∧ V.cell? ⟨sx, 1, none⟩ = some (.int .i64 o1.now) ∧ V.cell? ⟨sx, 2, none⟩ = some (.int .i64 o1.drp) ∧ V.cell? ⟨sx, 3, none⟩ = some (.slice A2 n2 c2))) := Lib.hid (fun V hV =>
            ⟨(YS.out V (K4.out.trans (hV.mono K4.out.size))).2.2, (B4.out.below hV B4.out.lt).cell 0, (B4.out.below hV B4.out.lt).cell 1, (B4.out.below hV B4.out.lt).cell 2, (B4.out.below hV B4.out.lt).cell 3⟩)
          have HT := Lib.hid (fun (V : World) (t : Int) (hV : Below W4.heap.size W4 V) => same21_any sb s2 o1 A2 c2 t V (S4.out.kept hV) (D4.out.below hV (Nat.le_refl _)) RO.out ROK.out (by have := RCN.out; have := ROK.out.d0; omega))
          unfold rV at HT
          rw [HN2.out] at HT
          have KD := Lib.hid (Below.refl W4.heap.size W4).drew
          have now0 := ROK.out.n0
          have now1 := TOP.out
          have AB := Lib.hid hb
          refine wp_region_held_drew (S := (fun V : World => V.cell? ⟨ab, off + k * 3 + 2, none⟩ = some (.int .i64 ahd) ∧ V.cell? ⟨sx, 0, none⟩ = some (.int .i64 o1.skew) ∧ V.cell? ⟨sx, 1, none⟩ = some (.int .i64 o1.now) ∧ V.cell? ⟨sx, 2, none⟩ = some (.int .i64 o1.drp) ∧ V.cell? ⟨sx, 3, none⟩ = some (.slice A2 n2 c2))) (by kernel_rfl) (YR.out _ KD.out) (fun hS0 => ?_)
          refine ah_take (i := 0) (v := ?_) (some 73) rfl rfl (by kernel_rfl) (by kernel_rfl) (by kernel_rfl) (fun _ _ _ h => h) (by kernel_rfl) ?_ (by assumption) ?_
          rotate_left
          · (intro w hSw; (try dsimp only at hSw); go_simp; (first | done | with_reducible rfl))
          simp only [Act.put, List.setIfInBounds_toArray, List.set_cons_zero, List.set_cons_succ]
          refine ah_take (i := 1) (v := ?_) (some 74) rfl rfl (by kernel_rfl) (by kernel_rfl) (by kernel_rfl) (fun _ _ _ h => h) (by kernel_rfl) ?_ (by assumption) ?_
          rotate_left
          · (intro w hSw; (try dsimp only at hSw); go_simp; (first | done | with_reducible rfl))
          simp only [Act.put, List.setIfInBounds_toArray, List.set_cons_zero, List.set_cons_succ]
          refine ah_take (i := 2) (v := ?_) (some 75) rfl rfl (by kernel_rfl) (by kernel_rfl) (by kernel_rfl) (fun _ _ _ h => h) (by kernel_rfl) ?_ (by assumption) ?_
          rotate_left
          · (intro w hSw; (try dsimp only at hSw); go_simp; (first | done | with_reducible rfl))
          simp only [Act.put, List.setIfInBounds_toArray, List.set_cons_zero, List.set_cons_succ]
          refine ah_take (i := 3) (v := ?_) (some 76) rfl rfl (by kernel_rfl) (by kernel_rfl) (by kernel_rfl) (fun _ _ _ h => h) (by kernel_rfl) ?_ (by assumption) ?_
          rotate_left
          · (intro w hSw; (try dsimp only at hSw); go_simp; (first | done | with_reducible rfl))
          simp only [Act.put, List.setIfInBounds_toArray, List.set_cons_zero, List.set_cons_succ]
          refine ah_take (i := 4) (v := ?_) (some 77) rfl rfl (by kernel_rfl) (by kernel_rfl) (by kernel_rfl) (fun _ _ _ h => h) (by kernel_rfl) ?_ (by assumption) ?_
          rotate_left
          · (intro w hSw; (try dsimp only at hSw); go_simp; (first | done | with_reducible rfl))
          simp only [Act.put, List.setIfInBounds_toArray, List.set_cons_zero, List.set_cons_succ]
          refine ah_take (i := 5) (v := ?_) (some 78) rfl rfl (by kernel_rfl) (by kernel_rfl) (by kernel_rfl) (fun _ _ _ h => h) (by kernel_rfl) ?_ (by assumption) ?_
          rotate_left
          · (intro w hSw; (try dsimp only at hSw); go_simp; (first | done | with_reducible rfl))
          simp only [Act.put, List.setIfInBounds_toArray, List.set_cons_zero, List.set_cons_succ]
          refine ah_take (i := 6) (v := ?_) (some 79) rfl rfl (by kernel_rfl) (by kernel_rfl) (by kernel_rfl) (fun _ _ _ h => h) (by kernel_rfl) ?_ (by assumption) ?_
          rotate_left
          · (intro w hSw; (try dsimp only at hSw); go_simp; (first | done | with_reducible rfl))
          simp only [Act.put, List.setIfInBounds_toArray, List.set_cons_zero, List.set_cons_succ]
          refine ah_take (i := 7) (v := ?_) (some 80) rfl rfl (by kernel_rfl) (by kernel_rfl) (by kernel_rfl) (fun _ _ _ h => h) (by kernel_rfl) ?_ (by assumption) ?_
          rotate_left
          · (intro w hSw; (try dsimp only at hSw); go_simp; (first | done | with_reducible rfl))
          simp only [Act.put, List.setIfInBounds_toArray, List.set_cons_zero, List.set_cons_succ]
          refine ah_take (i := 8) (v := ?_) (some 81) rfl rfl (by kernel_rfl) (by kernel_rfl) (by kernel_rfl) (fun _ _ _ h => h) (by kernel_rfl) ?_ (by assumption) ?_
          rotate_left
          · (intro w hSw; (try dsimp only at hSw); go_simp; (first | done | with_reducible rfl))
          simp only [Act.put, List.setIfInBounds_toArray, List.set_cons_zero, List.set_cons_succ]
          refine ah_take (i := 9) (v := ?_) (some 82) rfl rfl (by kernel_rfl) (by kernel_rfl) (by kernel_rfl) (fun _ _ _ h => h) (by kernel_rfl) ?_ (by assumption) ?_
          rotate_left
          · (intro w hSw; (try dsimp only at hSw); go_simp; (first | done | with_reducible rfl))
          simp only [Act.put, List.setIfInBounds_toArray, List.set_cons_zero, List.set_cons_succ]
          refine ah_take (i := 10) (v := ?_) (some 83) rfl rfl (by kernel_rfl) (by kernel_rfl) (by kernel_rfl) (fun _ _ _ h => h) (by kernel_rfl) ?_ (by assumption) ?_
          rotate_left
          · (intro w hSw; (try dsimp only at hSw); go_simp; (first | done | with_reducible rfl))
          simp only [Act.put, List.setIfInBounds_toArray, List.set_cons_zero, List.set_cons_succ]
          refine ah_take (i := 11) (v := ?_) (some 84) rfl rfl (by kernel_rfl) (by kernel_rfl) (by kernel_rfl) (fun _ _ _ h => h) (by kernel_rfl) ?_ (by assumption) ?_
          rotate_left
          · (intro w hSw; (try dsimp only at hSw); go_simp; (first | done | with_reducible rfl))
          simp only [Act.put, List.setIfInBounds_toArray, List.set_cons_zero, List.set_cons_succ]
          refine ah_take (i := 12) (v := ?_) (some 85) rfl rfl (by kernel_rfl) (by kernel_rfl) (by kernel_rfl) (fun _ _ _ h => h) (by kernel_rfl) ?_ (by assumption) ?_
          rotate_left
          · (intro w hSw; (try dsimp only at hSw); go_simp; (first | done | with_reducible rfl))
          simp only [Act.put, List.setIfInBounds_toArray, List.set_cons_zero, List.set_cons_succ]
          refine wpAnyH_ready (rs := [13]) (by kernel_rfl) (by simp) ?_
          refine AllReadyH.cons rfl (fun K hK => ?_) AllReadyH.nil
          go_simp
          refine (HT.out W4.drew _ KD.out).mono ?_
          rintro e wb ⟨rfl, kx⟩
          have Kwb := Lib.hid (KD.out.trans (kx.mono KD.out.size))
          clear kx

          refine hK.out _ _ (YR.out _ Kwb.out) (fun hHeld1 => ?_)
          try simp only [Act.put, List.setIfInBounds_toArray, List.set_cons_zero, List.set_cons_succ]
          clear hK K
          refine ah_take (i := 14) (v := ?_) (some 87) rfl rfl (by kernel_rfl) (by kernel_rfl) (by kernel_rfl) (fun _ _ _ h => h) (by kernel_rfl) ?_ (by assumption) ?_
          rotate_left
          · (intro w hSw; (try dsimp only at hSw); go_simp; (first | done | with_reducible rfl))
          simp only [Act.put, List.setIfInBounds_toArray, List.set_cons_zero, List.set_cons_succ]
          refine ah_take (i := 15) (v := ?_) (some 88) rfl rfl (by kernel_rfl) (by kernel_rfl) (by kernel_rfl) (fun _ _ _ h => h) (by kernel_rfl) ?_ (by assumption) ?_
          rotate_left
          · (intro w hSw; (try dsimp only at hSw); go_simp; (first | done | with_reducible rfl))
          simp only [Act.put, List.setIfInBounds_toArray, List.set_cons_zero, List.set_cons_succ]
          refine ah_take (i := 16) (v := ?_) (some 89) rfl rfl (by kernel_rfl) (by kernel_rfl) (by kernel_rfl) (fun _ _ _ h => h) (by kernel_rfl) ?_ (by assumption) ?_
          rotate_left
          · (intro w hSw; (try dsimp only at hSw); go_simp; (first | done | with_reducible rfl))
          simp only [Act.put, List.setIfInBounds_toArray, List.set_cons_zero, List.set_cons_succ]
          refine ah_take (i := 17) (v := ?_) (some 90) rfl rfl (by kernel_rfl) (by kernel_rfl) (by kernel_rfl) (fun _ _ _ h => h) (by kernel_rfl) ?_ (by assumption) ?_
          rotate_left
          · (intro w hSw; (try dsimp only at hSw); go_simp; (first | done | with_reducible rfl))
          simp only [Act.put, List.setIfInBounds_toArray, List.set_cons_zero, List.set_cons_succ]
          refine ah_take (i := 18) (v := ?_) (some 91) rfl rfl (by kernel_rfl) (by kernel_rfl) (by kernel_rfl) (fun _ _ _ h => h) (by kernel_rfl) ?_ (by assumption) ?_
          rotate_left
          · (intro w hSw; (try dsimp only at hSw); go_simp; (first | done | with_reducible rfl))
          simp only [Act.put, List.setIfInBounds_toArray, List.set_cons_zero, List.set_cons_succ]
          refine ah_take (i := 19) (v := ?_) (some 92) rfl rfl (by kernel_rfl) (by kernel_rfl) (by kernel_rfl) (fun _ _ _ h => h) (by kernel_rfl) ?_ (by assumption) ?_
          rotate_left
          · (intro w hSw; (try dsimp only at hSw); go_simp; (first | done | with_reducible rfl))
          simp only [Act.put, List.setIfInBounds_toArray, List.set_cons_zero, List.set_cons_succ]
          refine ah_take (i := 20) (v := ?_) (some 93) rfl rfl (by kernel_rfl) (by kernel_rfl) (by kernel_rfl) (fun _ _ _ h => h) (by kernel_rfl) ?_ (by assumption) ?_
          rotate_left
          · (intro w hSw; (try dsimp only at hSw); go_simp; (first | done | with_reducible rfl))
          simp only [Act.put, List.setIfInBounds_toArray, List.set_cons_zero, List.set_cons_succ]
          refine ah_take (i := 21) (v := ?_) (some 94) rfl rfl (by kernel_rfl) (by kernel_rfl) (by kernel_rfl) (fun _ _ _ h => h) (by kernel_rfl) ?_ (by assumption) ?_
          rotate_left
          · (intro w hSw; (try dsimp only at hSw); go_simp; (first | done | with_reducible rfl))
          simp only [Act.put, List.setIfInBounds_toArray, List.set_cons_zero, List.set_cons_succ]
          refine ah_take (i := 22) (v := ?_) (some 95) rfl rfl (by kernel_rfl) (by kernel_rfl) (by kernel_rfl) (fun _ _ _ h => h) (by kernel_rfl) ?_ (by assumption) ?_
          rotate_left
          · (intro w hSw; (try dsimp only at hSw); go_simp; (first | done | with_reducible rfl))
          simp only [Act.put, List.setIfInBounds_toArray, List.set_cons_zero, List.set_cons_succ]
          refine ah_take (i := 23) (v := ?_) (some 96) rfl rfl (by kernel_rfl) (by kernel_rfl) (by kernel_rfl) (fun _ _ _ h => h) (by kernel_rfl) ?_ (by assumption) ?_
          rotate_left
          · (intro w hSw; (try dsimp only at hSw); go_simp; (first | done | with_reducible rfl))
          simp only [Act.put, List.setIfInBounds_toArray, List.set_cons_zero, List.set_cons_succ]
          refine wpAnyH_ready (rs := [24]) (by kernel_rfl) (by simp) ?_
          refine AllReadyH.cons rfl (fun K hK => ?_) AllReadyH.nil
          go_simp
          refine (HT.out wb _ Kwb.out).mono ?_
          rintro e wc ⟨rfl, kx⟩
          have Kwc := Lib.hid (Kwb.out.trans (kx.mono Kwb.out.size))
          clear kx

          refine hK.out _ _ (YR.out _ Kwc.out) (fun hHeld2 => ?_)
          try simp only [Act.put, List.setIfInBounds_toArray, List.set_cons_zero, List.set_cons_succ]
          clear hK K
          refine ah_take (i := 25) (v := ?_) (some 98) rfl rfl (by kernel_rfl) (by kernel_rfl) (by kernel_rfl) (fun _ _ _ h => h) (by kernel_rfl) ?_ (by assumption) ?_
          rotate_left
          · (intro w hSw; (try dsimp only at hSw); go_simp; (first | done | with_reducible rfl))
          simp only [Act.put, List.setIfInBounds_toArray, List.set_cons_zero, List.set_cons_succ]
          refine ah_take (i := 26) (v := ?_) (some 99) rfl rfl (by kernel_rfl) (by kernel_rfl) (by kernel_rfl) (fun _ _ _ h => h) (by kernel_rfl) ?_ (by assumption) ?_
          rotate_left
          · (intro w hSw; (try dsimp only at hSw); go_simp; (first | done | with_reducible rfl))
          simp only [Act.put, List.setIfInBounds_toArray, List.set_cons_zero, List.set_cons_succ]
          refine ah_take (i := 27) (v := ?_) (some 100) rfl rfl (by kernel_rfl) (by kernel_rfl) (by kernel_rfl) (fun _ _ _ h => h) (by kernel_rfl) ?_ (by assumption) ?_
          rotate_left
          · (intro w hSw; (try dsimp only at hSw); go_simp; (first | done | with_reducible rfl))
          simp only [Act.put, List.setIfInBounds_toArray, List.set_cons_zero, List.set_cons_succ]
          refine ah_take (i := 28) (v := ?_) (some 101) rfl rfl (by kernel_rfl) (by kernel_rfl) (by kernel_rfl) (fun _ _ _ h => h) (by kernel_rfl) ?_ (by assumption) ?_
          rotate_left
          · (intro w hSw; (try dsimp only at hSw); go_simp; (first | done | with_reducible rfl))
          simp only [Act.put, List.setIfInBounds_toArray, List.set_cons_zero, List.set_cons_succ]
          refine ah_take (i := 29) (v := ?_) (some 102) rfl rfl (by kernel_rfl) (by kernel_rfl) (by kernel_rfl) (fun _ _ _ h => h) (by kernel_rfl) ?_ (by assumption) ?_
          rotate_left
          · (intro w hSw; (try dsimp only at hSw); go_simp; (first | done | with_reducible rfl))
          simp only [Act.put, List.setIfInBounds_toArray, List.set_cons_zero, List.set_cons_succ]
          refine ah_take (i := 30) (v := ?_) (some 103) rfl rfl (by kernel_rfl) (by kernel_rfl) (by kernel_rfl) (fun _ _ _ h => h) (by kernel_rfl) ?_ (by assumption) ?_
          rotate_left
          · (intro w hSw; (try dsimp only at hSw); go_simp; (first | done | with_reducible rfl))
          simp only [Act.put, List.setIfInBounds_toArray, List.set_cons_zero, List.set_cons_succ]
          refine ah_take (i := 31) (v := ?_) (some 104) rfl rfl (by kernel_rfl) (by kernel_rfl) (by kernel_rfl) (fun _ _ _ h => h) (by kernel_rfl) ?_ (by assumption) ?_
          rotate_left
          · (intro w hSw; (try dsimp only at hSw); go_simp; (first | done | with_reducible rfl))
          simp only [Act.put, List.setIfInBounds_toArray, List.set_cons_zero, List.set_cons_succ]
          refine ah_take (i := 32) (v := ?_) (some 105) rfl rfl (by kernel_rfl) (by kernel_rfl) (by kernel_rfl) (fun _ _ _ h => h) (by kernel_rfl) ?_ (by assumption) ?_
          rotate_left
          · (intro w hSw; (try dsimp only at hSw); go_simp; (first | done | with_reducible rfl))
          simp only [Act.put, List.setIfInBounds_toArray, List.set_cons_zero, List.set_cons_succ]
          refine ah_take (i := 33) (v := ?_) (some 106) rfl rfl (by kernel_rfl) (by kernel_rfl) (by kernel_rfl) (fun _ _ _ h => h) (by kernel_rfl) ?_ (by assumption) ?_
          rotate_left
          · (intro w hSw; (try dsimp only at hSw); go_simp; (first | done | with_reducible rfl))
          simp only [Act.put, List.setIfInBounds_toArray, List.set_cons_zero, List.set_cons_succ]
          refine ah_take (i := 34) (v := ?_) (some 107) rfl rfl (by kernel_rfl) (by kernel_rfl) (by kernel_rfl) (fun _ _ _ h => h) (by kernel_rfl) ?_ (by assumption) ?_
          rotate_left
          · (intro w hSw; (try dsimp only at hSw); go_simp; (first | done | with_reducible rfl))
          simp only [Act.put, List.setIfInBounds_toArray, List.set_cons_zero, List.set_cons_succ]
          refine ah_take (i := 35) (v := ?_) (some 108) rfl rfl (by kernel_rfl) (by kernel_rfl) (by kernel_rfl) (fun _ _ _ h => h) (by kernel_rfl) ?_ (by assumption) ?_
          rotate_left
          · (intro w hSw; (try dsimp only at hSw); go_simp; (first | done | with_reducible rfl))
          simp only [Act.put, List.setIfInBounds_toArray, List.set_cons_zero, List.set_cons_succ]
          refine ah_take (i := 36) (v := ?_) (some 109) rfl rfl (by kernel_rfl) (by kernel_rfl) (by kernel_rfl) (fun _ _ _ h => h) (by kernel_rfl) ?_ (by assumption) ?_
          rotate_left
          · (intro w hSw; (try dsimp only at hSw); go_simp; (first | done | with_reducible rfl))
          simp only [Act.put, List.setIfInBounds_toArray, List.set_cons_zero, List.set_cons_succ]
          refine wpAnyH_ready (rs := [37]) (by kernel_rfl) (by simp) ?_
          refine AllReadyH.cons rfl (fun K hK => ?_) AllReadyH.nil
          go_simp
          refine (pick_any ahd wc).mono ?_
          rintro e wp ⟨py, ⟨py0, py1⟩, rfl, rfl⟩

          refine hK.out _ _ (YR.out _ Kwc.out) (fun hHeld3 => ?_)
          try simp only [Act.put, List.setIfInBounds_toArray, List.set_cons_zero, List.set_cons_succ]
          clear hK K
          refine ah_take (i := 38) (v := ?_) (some 111) rfl rfl (by kernel_rfl) (by kernel_rfl) (by kernel_rfl) (fun _ _ _ h => h) (by kernel_rfl) ?_ (by assumption) ?_
          rotate_left
          · (intro w hSw; (try dsimp only at hSw); go_simp; (first | done | with_reducible rfl))
          simp only [Act.put, List.setIfInBounds_toArray, List.set_cons_zero, List.set_cons_succ]
          refine wpAnyH_ready (rs := [39]) (by kernel_rfl) (by simp) ?_
          refine AllReadyH.cons rfl (fun K hK => ?_) AllReadyH.nil
          go_simp
          refine (HT.out wc _ Kwc.out).mono ?_
          rintro e we ⟨rfl, kx⟩
          have Kwe := Lib.hid (Kwc.out.trans (kx.mono Kwc.out.size))
          clear kx

          refine hK.out _ _ (YR.out _ Kwe.out) (fun hHeld4 => ?_)
          try simp only [Act.put, List.setIfInBounds_toArray, List.set_cons_zero, List.set_cons_succ]
          clear hK K
          refine ah_take (i := 40) (v := ?_) (some 113) rfl rfl (by kernel_rfl) (by kernel_rfl) (by kernel_rfl) (fun _ _ _ h => h) (by kernel_rfl) ?_ (by assumption) ?_
          rotate_left
          · (intro w hSw; (try dsimp only at hSw); go_simp; (first | done | with_reducible rfl))
          simp only [Act.put, List.setIfInBounds_toArray, List.set_cons_zero, List.set_cons_succ]
          refine ah_take (i := 41) (v := ?_) (some 114) rfl rfl (by kernel_rfl) (by kernel_rfl) (by kernel_rfl) (fun _ _ _ h => h) (by kernel_rfl) ?_ (by assumption) ?_
          rotate_left
          · (intro w hSw; (try dsimp only at hSw); go_simp; (first | done | with_reducible rfl))
          simp only [Act.put, List.setIfInBounds_toArray, List.set_cons_zero, List.set_cons_succ]
          refine wpAnyH_done (by kernel_rfl) ?_ _
          try clear hHeld1 hHeld2 hHeld3 hHeld4 hS0
          go_wp2_with fail
          have hw2 : OW we sb sx (k + 1) s2 o1 := (OW.mk S4.out SOK.out RO.out ROK.out RCN.out TOP.out ⟨A2, c2, D4.out, by rw [HN2.out]; exact B4.out⟩).below Kwe.out
          have hk2 := K4.out.trans (Kwe.out.mono K4.out.size)
          go_roundw
          case rel => exact ⟨k + 1, s2, o1, by omega, by go_num, hw2, hk2⟩
          case measure => simp [intOf]; omega
      · obtain rfl : n = k := by omega
        go_wp2_with fail
        go_ret
        exact ⟨rfl, KR.out⟩
  · have hok : okSkew skew = false := by unfold okSkew; rw [Bool.and_eq_false_iff, decide_eq_false_iff_not, decide_eq_false_iff_not]; omega
    have HOK := Lib.hid hok
    clear hok
    go_enter Try.func21, Try.ntmps21
    go_wp2_with fail
    refine (selNew_bad skew w (by omega)).mono ?_
    rintro e w1 ⟨rfl, rfl⟩
    go_wp2_with fail
    refine (refNew21_any skew w).mono ?_
    rintro e w2 ⟨rfl, k2⟩
    rw [HOK.out]
    have K2 := Lib.hid k2
    clear k2
    go_wp2_with fail
    go_ret
    exact ⟨rfl, K2.out.alloc K2.out.size _⟩
end Go.Proofs.Ytllabfbebidjiaa
