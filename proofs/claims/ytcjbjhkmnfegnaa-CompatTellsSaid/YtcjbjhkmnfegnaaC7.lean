/-
  The contract of a change's reached: for each number, 1 if it is reachable. It takes that the two sets form a change.
-/
import Derived.Test.YtcjbjhkmnfegnaaAr
import Derived.Test.YtcjbjhkmnfegnaaMk
namespace Go.Proofs.Ytcjbjhkmnfegnaa
open Go.RowKit Go.Shelf
attribute [local go_sem] Oper.semAt_some
theorem steps_any (cs : Array Value) (b : Int) (w : World) (h3 : cs.size = 3) :
    Calls Try.prog 31 #[.agg cs, .int .i64 b] w fun e w' => e = .returned (.func (.func 42) #[] #[.pointer (some ⟨w.heap.size, 0, none⟩), .pointer (some ⟨w.heap.size + 1, 0, none⟩)]) ∧ (w.alloc (.cells cs 56)).alloc (.cells #[.int .i64 b] 3) = w' := by
  obtain ⟨l⟩ := cs
  match l, h3 with
  | [v0, v1, v2], _ =>
    go_enter Try.func31, Try.ntmps31
    go_wp2
    go_ret
    exact ⟨rfl, rfl⟩
theorem Blk.noncell {W W' : World} {row : Option Nat} {g : Nat} {t : TypeId} {cs : Array Value} (h : Blk W g t cs) (hg : W.grownBy W' row) (hr : ∀ r, row = some r → ∃ o : Obj, W.heap[r]? = some o ∧ o.isCells = false) : Blk W' g t cs :=
  h.grown hg (fun e => by obtain ⟨o, ho, hc⟩ := hr g e.symm; unfold Blk at h; rw [h] at ho; cases ho; cases hc)
theorem Arr.noncell {W W' : World} {row : Option Nat} {g : Nat} {f : Nat → Bool} (h : Arr W g f) (hg : W.grownBy W' row) (hr : ∀ r, row = some r → ∃ o : Obj, W.heap[r]? = some o ∧ o.isCells = false) : Arr W' g f :=
  h.of_block (hg.block g h.1 (fun e => by
    obtain ⟨o, ho, hc⟩ := hr g e.symm
    obtain ⟨o', ho', hc'⟩ := cells_of_cell (h.2 0 (by omega)).1
    rw [show (⟨g, 0, none⟩ : Addr).block = g from rfl, ho] at ho'
    cases ho'
    rw [hc] at hc'
    cases hc'))
/-- the marks of reached behind the first j numbers -/
def mk (m : Nat) (Rw : Nat → R) (n : Nat) (S T : Nat → U) : Nat → Nat → Bool
  | 0, b => decide (b = 0) && cmp m Rw S n
  | j + 1, b => mk m Rw n S T j b || (mk m Rw n S T j j && (elsS m Rw n S T j n).any (fun x => x.2 == b))
theorem pow_wrap {n : Nat} (hn : n ≤ 8) : IntKind.i64.wrap ((2 : Int) ^ n) = ((2 ^ n : Nat) : Int) := by
  have : ∀ n : Fin 9, IntKind.i64.wrap ((2 : Int) ^ n.val) = ((2 ^ n.val : Nat) : Int) := by decide +kernel
  exact this ⟨n, by omega⟩
theorem pow_le {n : Nat} (hn : n ≤ 8) : 2 ^ n ≤ 256 := Nat.pow_le_pow_right (by omega) hn

theorem res_cell {P : Program} {fn : Func} {a : Tmp} {t : TypeId} {tmps : Array Value} {w : World} {v : Value} {b : Addr} (h : fn.results = #[.cell a t]) (ha : tmps.getD a undef = .pointer (some b)) (hl : (loadVar t b).run P w = .ok v w) :
    (results fn tmps).run P w = .ok v w := by
  have ha' : tmps[a]?.getD undef = .pointer (some b) := by simpa using ha
  simp [results, h, asAddr, ha', hl]
theorem wpIn_of_run {F : Fence} {n : Nat} {P : Program} {o : Oper} {a : Act} {w w' : World} {K : Act → World → Prop} {Q : Exit → Act → World → Prop} {v : Value} (hro : F.round = none) (hab : ∀ f, o.about P w a.eval = some f → F.fn f)
    (h : (execOp a.eval o).run P w = .ok (.value v) w') (hK : K (a.put o.dst v) w') : Oper.wpIn F n P o a w K Q := by
  unfold Oper.wpIn
  rw [hro, Oper.semAt_none, h]
  exact ⟨hab, hK⟩
theorem gb_setCells {g : Nat} {a : World} : ∀ (vs : List Value) (o : Nat) {w : World}, a.grownBy w (some g) → a.grownBy (w.setCells g o vs) (some g)
  | [], _, _, h => h
  | v :: vs, o, _, h => gb_setCells vs (o + 1) (gb_put h o v)
theorem there57 {w : World} {g : Nat} (h : Blk w g 57 Z57) : w.there g 0 256 := fun j hj => by
  rw [Nat.zero_add]
  exact ⟨by rw [h.cell]; simp [Z57, hj], h.free j⟩
/-- what the loop over the steps keeps -/
def IC (w : World) (ib : Nat) (cs : Array Value) (ds : List Deferred) (f : Nat → Bool) (pre : List (Nat × Nat)) (W : World) : Prop :=
  Arr W ib (fun b => f b || pre.any (fun x => x.2 == b)) ∧ Blk W w.heap.size 56 cs ∧ Blk W (w.heap.size + 1) 57 Z57 ∧ Below w.heap.size w W ∧ Marks w.heap.size ds W
theorem IC_own {w : World} {ib E : Nat} {cs : Array Value} {ds : List Deferred} {f : Nat → Bool} (hE : w.heap.size ≤ E) (hd : ∀ e ∈ ds, ∀ D, e.target = .collected D → D < E) : OwnFrom E (IC w ib cs ds f) := by
  rintro s X Y row ⟨h1, h2, h3, h4, h5⟩ hg hr
  have hr' : ∀ r, row = some r → ∃ o : Obj, X.heap[r]? = some o ∧ o.isCells = false := fun r e => (hr r e).2
  exact ⟨h1.noncell hg hr', h2.noncell hg hr', h3.noncell hg hr', h4.grown hg h4.size (fun k e => Nat.le_trans hE (hr k e).1), Marks.own (β := List (Nat × Nat)) hd s X Y row h5 hg hr⟩
theorem IC_R {w : World} {ib : Nat} {cs : Array Value} {ds : List Deferred} {f : Nat → Bool} (s : List (Nat × Nat)) (X Y : World) (h : IC w ib cs ds f s X) (hr : RI X Y) : IC w ib cs ds f s Y := by
  obtain ⟨h1, h2, h3, h4, h5⟩ := h
  exact ⟨h1.of_block (hr.block ib h1.1), h2.below hr h2.lt, h3.below hr h3.lt, h4.trans (hr.mono h4.size), h5.below hr⟩

set_option maxRecDepth 100000 in
set_option maxHeartbeats 4000000 in
theorem reached_any (A1 A2 A3 : Option Addr) (n c1 c2 m c3 : Nat) (S T : Nat → U) (Rw : Nat → R) (w : World) (hS : UnitsIn w A1 n S) (hT : UnitsIn w A2 n T) (hR : RowsIn w A3 m Rw) (hn : n ≤ 8) (hnc : n ≤ c1) (hM : ∀ k, k < n → (S k).1 = (T k).1) :
    Calls Try.prog 29 #[.agg #[.slice A1 n c1, .slice A2 n c2, .slice A3 m c3]] w fun e w' => e = .returned (.agg (aV (mk m Rw n S T (2 ^ n))).toArray) ∧ Below w.heap.size w w' := by
  refine (callsIn_wide (n := 5)).1 ?_
  refine callsIn_of_wp_marks Try.func29 rfl trivial ?_ rfl
  simp only [Try.ntmps29, List.size_toArray, List.length_cons, List.length_nil, Nat.reduceAdd, Nat.reduceSub, Array.replicate_succ, Array.replicate_zero, List.push_toArray, List.append_toArray, List.nil_append, List.cons_append]
  have HS := Lib.hid hS
  have HT := Lib.hid hT
  have HR := Lib.hid hR
  have HM := Lib.hid hM
  clear hS hT hR hM
  have hz := zero57
  gi_wp2_with fail
  obtain ⟨W, hW⟩ : ∃ W, ((w.alloc (.cells #[.slice A1 n c1, .slice A2 n c2, .slice A3 m c3] 56)).alloc (.cells Z57 57)).alloc (.cells Z57 57) = W := ⟨_, rfl⟩
  rw [hW]
  have b1 : Blk W w.heap.size 56 #[.slice A1 n c1, .slice A2 n c2, .slice A3 m c3] := by rw [← hW]; exact ((Blk.made _ _ _).alloc _).alloc _
  have b2 : Blk W (w.heap.size + 1) 57 Z57 := by rw [← hW]; exact (Blk.made_at _ _ _ (by simp)).alloc _
  have b3 : Blk W (w.heap.size + 1 + 1) 57 Z57 := by rw [← hW]; exact Blk.made_at _ _ _ (by simp)
  have kW : Below w.heap.size w W := by rw [← hW]; exact (((Below.refl _ _).alloc (Nat.le_refl _) _).alloc (by simp) _).alloc (by simp; omega) _
  clear hW
  refine ⟨trivial, ?_⟩
  refine (callsIn_wide.2 (compat_any A3 A1 m c3 n c1 Rw S W (HR.out.below kW (Nat.le_refl _)) (HS.out.below kW (Nat.le_refl _)) hnc)).mono ?_
  rintro e w1 ⟨rfl, k1⟩
  have B1 := Lib.hid (b1.below k1 b1.lt)
  have B2 := Lib.hid (b2.below k1 b2.lt)
  have a3 := Arr.zero (b3.below k1 b3.lt)
  have K1 := Lib.hid (kW.trans (k1.mono kW.size))
  have hsz1 := k1.size
  have hszb := b3.lt
  have y1 : w1.cell? ⟨w.heap.size, 0, none⟩ = some (.slice A1 n c1) := B1.out.cell 0
  clear b1 b2 b3 kW k1 hz
  obtain ⟨ok, hok⟩ : ∃ ok, cmp m Rw S n = ok := ⟨_, rfl⟩
  rw [hok]
  have hm0 : ∀ b, mk m Rw n S T 0 b = (decide (b = 0) && ok) := fun b => by rw [mk, hok]
  have HM0 := Lib.hid hm0
  have A3' := Lib.hid a3
  have hpw := pow_wrap hn
  have hpl := pow_le hn
  obtain ⟨N, hN⟩ : ∃ N : Nat, 2 ^ n = N := ⟨_, rfl⟩
  rw [hN] at hpw hpl
  have HN := Lib.hid hN
  clear hm0 hok a3 hN
  -- GEN-BEGIN
  cases ok with
  | false =>
    gi_wp2_with fail
    refine wpIn_loop (fun a' wr => ∃ (u4 u6 u17 u18 u19 u20 u21 u22 u23 u24 u25 u26 u27 u28 u29 u30 u31 : Value) (ds : List Deferred), (∃ j : Nat, j ≤ N ∧ u17 = .int .i64 (j : Int) ∧ Arr wr (w.heap.size + 1 + 1) (mk m Rw n S T j) ∧ Blk wr w.heap.size 56 #[.slice A1 n c1, .slice A2 n c2, .slice A3 m c3] ∧ Blk wr (w.heap.size + 1) 57 Z57 ∧ Below w.heap.size w wr ∧ Marks w.heap.size ds wr) ∧ a' = { tmps := #[.agg #[.slice A1 n c1, .slice A2 n c2, .slice A3 m c3], .pointer (some ⟨w.heap.size, 0, none⟩), .pointer (some ⟨w.heap.size + 1, 0, none⟩), .pointer (some ⟨w.heap.size + 1 + 1, 0, none⟩), u4, undef, u6, .pointer (some ⟨w.heap.size, 2, none⟩), .slice A3 m c3, .pointer (some ⟨w.heap.size, 0, none⟩), .slice A1 n c1, .bool false, undef, .pointer (some ⟨w.heap.size, 0, none⟩), .slice A1 n c1, .int .i64 (n : Int), .int .i64 (N : Int), u17, u18, u19, u20, u21, u22, u23, u24, u25, u26, u27, u28, u29, u30, u31, undef], defers := ds })
      (fun a' _ => N - (intOf (a'.tmps.getD 17 undef)).toNat) ?_ ?_
    · exact ⟨_, _, _, _, _, _, _, _, _, _, _, _, _, _, _, _, _, [], ⟨0, Nat.zero_le _, rfl, A3'.out.congr (fun b _ => by rw [HM0.out]; simp), B1.out, B2.out, K1.out, trivial⟩, rfl⟩
    · rintro a' wr ⟨u4, u6, u17, u18, u19, u20, u21, u22, u23, u24, u25, u26, u27, u28, u29, u30, u31, ds, ⟨j, hj, rfl, ha, hb1, hb2, kr, hmk⟩, rfl⟩
      try dsimp only
      by_cases hlt : j < N
      · have j256 : j < 256 := by omega
        have y := (ha.2 j j256).1
        have HA := Lib.hid ha
        have HB1 := Lib.hid hb1
        have HB2 := Lib.hid hb2
        have KR := Lib.hid kr
        have HK := Lib.hid hmk
        have yb0 : wr.cell? ⟨w.heap.size, 0, none⟩ = some (.slice A1 n c1) := hb1.cell 0
        have yb1 : wr.cell? ⟨w.heap.size, 1, none⟩ = some (.slice A2 n c2) := hb1.cell 1
        have yb2 : wr.cell? ⟨w.heap.size, 2, none⟩ = some (.slice A3 m c3) := hb1.cell 2
        clear ha hb1 hb2 kr hmk
        cases hmj : mk m Rw n S T j j with
        | false =>
          rw [hmj, show bv false = 0 from rfl] at y
          have HE : Hid (∀ b, mk m Rw n S T (j + 1) b = mk m Rw n S T j b) := Lib.hid (fun b => by rw [mk, hmj]; simp)
          clear hmj
          gi_wp2_with fail
          refine ⟨?rel, ?measure⟩
          case rel =>
            repeat apply Exists.intro
            exact ⟨⟨j + 1, by omega, by go_num, HA.out.congr (fun b _ => (HE.out b).symm), HB1.out, HB2.out, KR.out, HK.out⟩, rfl⟩
          case measure => simp [intOf]; omega
        | true =>
          rw [hmj, show bv true = 1 from rfl] at y
          have HE : Hid (∀ b, mk m Rw n S T (j + 1) b = (mk m Rw n S T j b || (elsS m Rw n S T j n).any (fun x => x.2 == b))) := Lib.hid (fun b => by rw [mk, hmj]; simp)
          clear hmj
          gi_wp2_with fail
          refine ⟨trivial, ?_⟩
          refine (callsIn_wide.2 (steps_any #[.slice A1 n c1, .slice A2 n c2, .slice A3 m c3] (j : Int) wr rfl)).mono ?_
          rintro e wd ⟨rfl, hwd⟩
          have g1b : Blk wd wr.heap.size 56 #[.slice A1 n c1, .slice A2 n c2, .slice A3 m c3] := by rw [← hwd]; exact (Blk.made _ _ _).alloc _
          have g2b : Blk wd (wr.heap.size + 1) 3 #[.int .i64 (j : Int)] := by rw [← hwd]; exact Blk.made_at _ _ _ (by simp)
          have hsd : wd.heap.size = wr.heap.size + 1 + 1 := by rw [← hwd]; simp
          have kd : Below wr.heap.size wr wd := by rw [← hwd]; exact ((Below.refl _ _).alloc (Nat.le_refl _) _).alloc (by simp) _
          have HAd := Lib.hid (HA.out.of_block (kd.block _ HA.out.1))
          have HB1d := Lib.hid (HB1.out.below kd HB1.out.lt)
          have HB2d := Lib.hid (HB2.out.below kd HB2.out.lt)
          have KRd := Lib.hid (KR.out.trans (kd.mono KR.out.size))
          have HKd := Lib.hid (HK.out.below kd)
          have hsw := KR.out.size
          have hmlt : ∀ e ∈ ds, ∀ D, e.target = .collected D → D < wd.heap.size := HKd.out.lt
          have HML := Lib.hid hmlt
          have hib := HA.out.1
          have HSD := Lib.hid hsd
          clear y yb0 yb1 yb2 hwd kd hmlt hsd
          gi_wp2_with fail
          have hfseq : SeqR Fence.wide 4 Try.prog 42 #[.pointer (some ⟨wr.heap.size, 0, none⟩), .pointer (some ⟨wr.heap.size + 1, 0, none⟩)] encs (KpI w.heap.size wr.heap.size (wr.heap.size + 1)) RI (ZI w wr.heap.size (wr.heap.size + 1) #[.slice A1 n c1, .slice A2 n c2, .slice A3 m c3] j) (OkI m Rw n S T j) (SI m Rw n S T j) (SpI m Rw n S T j) 8 wd :=
            fun l J0 Jx W hW hJ _ hZ hY h0 => steps1 4 l wr.heap.size (wr.heap.size + 1) A1 A2 A3 n c1 c2 m c3 j S T Rw w HS.out HT.out HR.out hn j256 HM.out J0 Jx hJ hZ W (g1b.below hW g1b.lt) (g2b.below hW g2b.lt)
              ⟨Nat.le_trans KRd.out.size hW.size, fun k hk => (hW.block k (Nat.lt_of_lt_of_le hk KRd.out.size)).trans (KRd.out.block k hk)⟩ (by omega) hY h0
          refine wpIn_rangeFunc_R rfl (by omega) (gf := 42) (lb := #[.pointer (some ⟨wr.heap.size, 0, none⟩), .pointer (some ⟨wr.heap.size + 1, 0, none⟩)]) rfl trivial (enters_of Try.func42 (by kernel_rfl) rfl)
            hfseq (fun X Y h l h1 h2 => h.block l h2)
            (fun h k => ⟨Nat.le_trans h.1 k.1, fun j hj => (k.2 j hj).trans (h.2 j hj)⟩)
            (fun W l o o' hl ho _ _ => ⟨by simp, fun k hk => World.putObj_heap_other (by have := HSD.out; omega)⟩) (Below.refl _ _) (fun _ => rfl)
            (IC w (w.heap.size + 1 + 1) #[.slice A1 n c1, .slice A2 n c2, .slice A3 m c3] ds (mk m Rw n S T j)) (fun _ _ _ => False) (IC_own (by have := HSD.out; omega) HML.out) (fun _ _ _ _ _ h _ _ => h.elim) IC_R (fun _ _ _ _ h _ => h.elim) (fun _ _ _ h => h.elim)
            ⟨HAd.out.congr (fun b _ => by simp), HB1d.out, HB2d.out, KRd.out, HKd.out⟩
            (fun x => { tmps := #[.agg #[.slice A1 n c1, .slice A2 n c2, .slice A3 m c3], .pointer (some ⟨w.heap.size, 0, none⟩), .pointer (some ⟨w.heap.size + 1, 0, none⟩), .pointer (some ⟨w.heap.size + 1 + 1, 0, none⟩), .int .i64 (j : Int), undef, .int .i64 (x.2 : Int), .pointer (some ⟨w.heap.size, 2, none⟩), .slice A3 m c3, .pointer (some ⟨w.heap.size, 0, none⟩), .slice A1 n c1, .bool false, undef, .pointer (some ⟨w.heap.size, 0, none⟩), .slice A1 n c1, .int .i64 (n : Int), .int .i64 (N : Int), .int .i64 (j : Int), .bool true, .int .i64 (j : Int), .int .i64 (j : Int), .pointer (some ⟨w.heap.size + 1 + 1, j, none⟩), .int .i64 1, .bool false, .agg #[.slice A1 n c1, .slice A2 n c2, .slice A3 m c3], .int .i64 (j : Int), .func (.func 42) #[] #[.pointer (some ⟨wr.heap.size, 0, none⟩), .pointer (some ⟨wr.heap.size + 1, 0, none⟩)], .int .i64 (x.1 : Int), .int .i64 (x.2 : Int), u29, u30, u31, undef], defers := [] }) ?assign ?body ?done ?stop
          case assign =>
            intro l x W K hK
            gi_wp2
            exact hK
          case body =>
            rintro l pre ⟨i, x⟩ W ⟨hi1, hi2, hi3⟩ ⟨h1, h2, h3, h4, h5⟩ hlen
            replace hi3 : x = up j i := hi3
            replace hi1 : i < n := hi1
            have x256 : x < 256 := by rw [hi3]; exact up_lt j256 (by omega)
            have z0 := (h1.2 x x256).1
            have z1 := (h1.2 x x256).2
            have hd0 : decide ((x : Int) < 0) = false := decide_eq_false (by omega)
            have hd1 : decide (256 ≤ x) = false := decide_eq_false (by omega)
            clear hi1 hi2 hi3
            gi_wp2
            refine ⟨KeepsOthers.setCell _ _ _, ⟨by simp, fun k hk => heap_setCell_other W ⟨w.heap.size + 1 + 1, x, none⟩ k _ (by show k ≠ w.heap.size + 1 + 1; rcases hk with hk | hk | hk <;> omega)⟩, ?_, ?_, ?_, ?_, ?_⟩
            · refine (h1.put x true x256).congr (fun b _ => ?_)
              by_cases e : b = x
              · subst e; simp
              · have e' : (x == b) = false := by simp; omega
                simp [e, e']
            · exact h2.far (p := ⟨w.heap.size + 1 + 1, x, none⟩) (show w.heap.size ≠ w.heap.size + 1 + 1 by omega) _
            · exact h3.far (p := ⟨w.heap.size + 1 + 1, x, none⟩) (show w.heap.size + 1 ≠ w.heap.size + 1 + 1 by omega) _
            · exact h4.setCell (p := ⟨w.heap.size + 1 + 1, x, none⟩) (show w.heap.size ≤ w.heap.size + 1 + 1 by omega) _
            · exact h5.others (KeepsOthers.setCell _ _ _)
          case done =>
            rintro D xs W hD hS ⟨h1, h2, h3, h4, h5⟩ hK
            have hS : xs = elsS m Rw n S T j n := hS
            have hA := h1.congr (f' := mk m Rw n S T (j + 1)) (fun b _ => by rw [HE.out b, hS])
            have hP := Lib.hid (HKd.out.push (args := #[]) hD (by have := HSD.out; omega) h5 hK)
            have HA' := Lib.hid hA
            clear h1 hS hA h5 hK
            gi_wp2
            refine ⟨?rel, ?measure⟩
            case rel =>
              repeat apply Exists.intro
              exact ⟨⟨j + 1, by omega, by go_num, HA'.out, h2, h3, h4, hP.out⟩, rfl⟩
            case measure => simp [intOf]; omega
          case stop =>
            rintro D c pre W hD _ h _
            exact h.elim
      · obtain rfl : j = N := by omega
        have hld := ha.load
        have ht0 := there57 hb2
        have hst := run_storeCells_cells (P := Try.prog) (w.heap.size + 1) 0 (aV (mk m Rw n S T j)) 0 wr (fun i hi => by simpa using (ht0 i (by simpa [aV_len] using hi)).1) (fun i hi => by simpa using (ht0 i (by simpa [aV_len] using hi)).2) (aV_one _)
        simp only [Nat.add_zero] at hst
        have ht := there57 hb2
        have hgr : wr.grownBy (wr.setCells (w.heap.size + 1) 0 (aV (mk m Rw n S T j))) (some (w.heap.size + 1)) := gb_setCells _ 0 (World.grownBy.refl _ _)
        have hb2s := Lib.hid hb2
        have HG := Lib.hid hgr
        have HKR := Lib.hid kr
        have HMK := Lib.hid (hmk.grown hgr (fun r e hr => by cases e; rw [show wr.heap[w.heap.size + 1]? = _ from hb2] at hr; cases hr))
        have HR2 := Lib.hid (World.rangeAt_setCells_same wr (w.heap.size + 1) 0 (aV (mk m Rw n S T j)) (by rw [aV_len]; exact ht))
        clear ha hb1 hb2 kr hmk ht ht0 hgr
        gi_wp2_with fail
        refine wpIn_of_run rfl (fun _ _ => trivial) (v := .agg (aV (mk m Rw n S T j)).toArray) (w' := wr) (by simp [execOp, Act.eval, hld, Result.andThen]) ?_
        gi_wp2_with fail
        refine marks_leave ds _ HMK.out (fun W' hs => ?_)
        obtain ⟨o, ho, hc⟩ := cells_of_cell (HR2.out 0 _ (aV_at _ (by omega)))
        have hcs : ∃ cs t fr, (wr.setCells (w.heap.size + 1) 0 (aV (mk m Rw n S T j))).heap[w.heap.size + 1]? = some (Obj.cells cs t fr) := by
          cases o <;> simp [Obj.isCells] at hc
          exact ⟨_, _, _, ho⟩
        obtain ⟨cs, t, fr, hcs⟩ := hcs
        have hblk := hs.2 _ cs t fr hcs
        have hr : W'.rangeAt (w.heap.size + 1) 0 (aV (mk m Rw n S T j)) := fun i v hv => (World.cell?_of_block (a := ⟨w.heap.size + 1, 0 + i, none⟩) hblk).trans (HR2.out i v hv)
        have hrun := run_loadVar_mid (P := Try.prog) W' (w.heap.size + 1) 0 57 (aV (mk m Rw n S T j)) _ hr Try.underlying57 rfl (by rw [aV_len]; kernel_rfl)
        refine ⟨.agg (aV (mk m Rw n S T j)).toArray, ?_, by rw [HN.out], ?_⟩
        · exact res_cell (a := 2) (t := 57) rfl rfl hrun
        · exact (HKR.out.grown HG.out HKR.out.size (fun i e => by cases e; omega)).trans hs.1
  | true =>
    have y2 : w1.cell? ⟨w.heap.size + 1 + 1, 0, none⟩ = some (.int .i64 0) := (A3'.out.2 0 (by omega)).1
    have y3 : w1.frozen? ⟨w.heap.size + 1 + 1, 0, none⟩ = false := (A3'.out.2 0 (by omega)).2
    gi_wp2_with fail
    clear y1 y2 y3
    refine wpIn_loop (fun a' wr => ∃ (u4 u6 u17 u18 u19 u20 u21 u22 u23 u24 u25 u26 u27 u28 u29 u30 u31 : Value) (ds : List Deferred), (∃ j : Nat, j ≤ N ∧ u17 = .int .i64 (j : Int) ∧ Arr wr (w.heap.size + 1 + 1) (mk m Rw n S T j) ∧ Blk wr w.heap.size 56 #[.slice A1 n c1, .slice A2 n c2, .slice A3 m c3] ∧ Blk wr (w.heap.size + 1) 57 Z57 ∧ Below w.heap.size w wr ∧ Marks w.heap.size ds wr) ∧ a' = { tmps := #[.agg #[.slice A1 n c1, .slice A2 n c2, .slice A3 m c3], .pointer (some ⟨w.heap.size, 0, none⟩), .pointer (some ⟨w.heap.size + 1, 0, none⟩), .pointer (some ⟨w.heap.size + 1 + 1, 0, none⟩), u4, undef, u6, .pointer (some ⟨w.heap.size, 2, none⟩), .slice A3 m c3, .pointer (some ⟨w.heap.size, 0, none⟩), .slice A1 n c1, .bool true, .pointer (some ⟨w.heap.size + 1 + 1, 0, none⟩), .pointer (some ⟨w.heap.size, 0, none⟩), .slice A1 n c1, .int .i64 (n : Int), .int .i64 (N : Int), u17, u18, u19, u20, u21, u22, u23, u24, u25, u26, u27, u28, u29, u30, u31, undef], defers := ds })
      (fun a' _ => N - (intOf (a'.tmps.getD 17 undef)).toNat) ?_ ?_
    · exact ⟨_, _, _, _, _, _, _, _, _, _, _, _, _, _, _, _, _, [], ⟨0, Nat.zero_le _, rfl, (A3'.out.put 0 true (by omega)).congr (fun b _ => by rw [HM0.out]; by_cases e : b = 0 <;> simp [e]), B1.out.far (p := ⟨w.heap.size + 1 + 1, 0, none⟩) (show w.heap.size ≠ w.heap.size + 1 + 1 by omega) _, B2.out.far (p := ⟨w.heap.size + 1 + 1, 0, none⟩) (show w.heap.size + 1 ≠ w.heap.size + 1 + 1 by omega) _, K1.out.setCell (p := ⟨w.heap.size + 1 + 1, 0, none⟩) (by show w.heap.size ≤ w.heap.size + 1 + 1; omega) _, trivial⟩, rfl⟩
    · rintro a' wr ⟨u4, u6, u17, u18, u19, u20, u21, u22, u23, u24, u25, u26, u27, u28, u29, u30, u31, ds, ⟨j, hj, rfl, ha, hb1, hb2, kr, hmk⟩, rfl⟩
      try dsimp only
      by_cases hlt : j < N
      · have j256 : j < 256 := by omega
        have y := (ha.2 j j256).1
        have HA := Lib.hid ha
        have HB1 := Lib.hid hb1
        have HB2 := Lib.hid hb2
        have KR := Lib.hid kr
        have HK := Lib.hid hmk
        have yb0 : wr.cell? ⟨w.heap.size, 0, none⟩ = some (.slice A1 n c1) := hb1.cell 0
        have yb1 : wr.cell? ⟨w.heap.size, 1, none⟩ = some (.slice A2 n c2) := hb1.cell 1
        have yb2 : wr.cell? ⟨w.heap.size, 2, none⟩ = some (.slice A3 m c3) := hb1.cell 2
        clear ha hb1 hb2 kr hmk
        cases hmj : mk m Rw n S T j j with
        | false =>
          rw [hmj, show bv false = 0 from rfl] at y
          have HE : Hid (∀ b, mk m Rw n S T (j + 1) b = mk m Rw n S T j b) := Lib.hid (fun b => by rw [mk, hmj]; simp)
          clear hmj
          gi_wp2_with fail
          refine ⟨?rel, ?measure⟩
          case rel =>
            repeat apply Exists.intro
            exact ⟨⟨j + 1, by omega, by go_num, HA.out.congr (fun b _ => (HE.out b).symm), HB1.out, HB2.out, KR.out, HK.out⟩, rfl⟩
          case measure => simp [intOf]; omega
        | true =>
          rw [hmj, show bv true = 1 from rfl] at y
          have HE : Hid (∀ b, mk m Rw n S T (j + 1) b = (mk m Rw n S T j b || (elsS m Rw n S T j n).any (fun x => x.2 == b))) := Lib.hid (fun b => by rw [mk, hmj]; simp)
          clear hmj
          gi_wp2_with fail
          refine ⟨trivial, ?_⟩
          refine (callsIn_wide.2 (steps_any #[.slice A1 n c1, .slice A2 n c2, .slice A3 m c3] (j : Int) wr rfl)).mono ?_
          rintro e wd ⟨rfl, hwd⟩
          have g1b : Blk wd wr.heap.size 56 #[.slice A1 n c1, .slice A2 n c2, .slice A3 m c3] := by rw [← hwd]; exact (Blk.made _ _ _).alloc _
          have g2b : Blk wd (wr.heap.size + 1) 3 #[.int .i64 (j : Int)] := by rw [← hwd]; exact Blk.made_at _ _ _ (by simp)
          have hsd : wd.heap.size = wr.heap.size + 1 + 1 := by rw [← hwd]; simp
          have kd : Below wr.heap.size wr wd := by rw [← hwd]; exact ((Below.refl _ _).alloc (Nat.le_refl _) _).alloc (by simp) _
          have HAd := Lib.hid (HA.out.of_block (kd.block _ HA.out.1))
          have HB1d := Lib.hid (HB1.out.below kd HB1.out.lt)
          have HB2d := Lib.hid (HB2.out.below kd HB2.out.lt)
          have KRd := Lib.hid (KR.out.trans (kd.mono KR.out.size))
          have HKd := Lib.hid (HK.out.below kd)
          have hsw := KR.out.size
          have hmlt : ∀ e ∈ ds, ∀ D, e.target = .collected D → D < wd.heap.size := HKd.out.lt
          have HML := Lib.hid hmlt
          have hib := HA.out.1
          have HSD := Lib.hid hsd
          clear y yb0 yb1 yb2 hwd kd hmlt hsd
          gi_wp2_with fail
          have hfseq : SeqR Fence.wide 4 Try.prog 42 #[.pointer (some ⟨wr.heap.size, 0, none⟩), .pointer (some ⟨wr.heap.size + 1, 0, none⟩)] encs (KpI w.heap.size wr.heap.size (wr.heap.size + 1)) RI (ZI w wr.heap.size (wr.heap.size + 1) #[.slice A1 n c1, .slice A2 n c2, .slice A3 m c3] j) (OkI m Rw n S T j) (SI m Rw n S T j) (SpI m Rw n S T j) 8 wd :=
            fun l J0 Jx W hW hJ _ hZ hY h0 => steps1 4 l wr.heap.size (wr.heap.size + 1) A1 A2 A3 n c1 c2 m c3 j S T Rw w HS.out HT.out HR.out hn j256 HM.out J0 Jx hJ hZ W (g1b.below hW g1b.lt) (g2b.below hW g2b.lt)
              ⟨Nat.le_trans KRd.out.size hW.size, fun k hk => (hW.block k (Nat.lt_of_lt_of_le hk KRd.out.size)).trans (KRd.out.block k hk)⟩ (by omega) hY h0
          refine wpIn_rangeFunc_R rfl (by omega) (gf := 42) (lb := #[.pointer (some ⟨wr.heap.size, 0, none⟩), .pointer (some ⟨wr.heap.size + 1, 0, none⟩)]) rfl trivial (enters_of Try.func42 (by kernel_rfl) rfl)
            hfseq (fun X Y h l h1 h2 => h.block l h2)
            (fun h k => ⟨Nat.le_trans h.1 k.1, fun j hj => (k.2 j hj).trans (h.2 j hj)⟩)
            (fun W l o o' hl ho _ _ => ⟨by simp, fun k hk => World.putObj_heap_other (by have := HSD.out; omega)⟩) (Below.refl _ _) (fun _ => rfl)
            (IC w (w.heap.size + 1 + 1) #[.slice A1 n c1, .slice A2 n c2, .slice A3 m c3] ds (mk m Rw n S T j)) (fun _ _ _ => False) (IC_own (by have := HSD.out; omega) HML.out) (fun _ _ _ _ _ h _ _ => h.elim) IC_R (fun _ _ _ _ h _ => h.elim) (fun _ _ _ h => h.elim)
            ⟨HAd.out.congr (fun b _ => by simp), HB1d.out, HB2d.out, KRd.out, HKd.out⟩
            (fun x => { tmps := #[.agg #[.slice A1 n c1, .slice A2 n c2, .slice A3 m c3], .pointer (some ⟨w.heap.size, 0, none⟩), .pointer (some ⟨w.heap.size + 1, 0, none⟩), .pointer (some ⟨w.heap.size + 1 + 1, 0, none⟩), .int .i64 (j : Int), undef, .int .i64 (x.2 : Int), .pointer (some ⟨w.heap.size, 2, none⟩), .slice A3 m c3, .pointer (some ⟨w.heap.size, 0, none⟩), .slice A1 n c1, .bool true, .pointer (some ⟨w.heap.size + 1 + 1, 0, none⟩), .pointer (some ⟨w.heap.size, 0, none⟩), .slice A1 n c1, .int .i64 (n : Int), .int .i64 (N : Int), .int .i64 (j : Int), .bool true, .int .i64 (j : Int), .int .i64 (j : Int), .pointer (some ⟨w.heap.size + 1 + 1, j, none⟩), .int .i64 1, .bool false, .agg #[.slice A1 n c1, .slice A2 n c2, .slice A3 m c3], .int .i64 (j : Int), .func (.func 42) #[] #[.pointer (some ⟨wr.heap.size, 0, none⟩), .pointer (some ⟨wr.heap.size + 1, 0, none⟩)], .int .i64 (x.1 : Int), .int .i64 (x.2 : Int), u29, u30, u31, undef], defers := [] }) ?assign ?body ?done ?stop
          case assign =>
            intro l x W K hK
            gi_wp2
            exact hK
          case body =>
            rintro l pre ⟨i, x⟩ W ⟨hi1, hi2, hi3⟩ ⟨h1, h2, h3, h4, h5⟩ hlen
            replace hi3 : x = up j i := hi3
            replace hi1 : i < n := hi1
            have x256 : x < 256 := by rw [hi3]; exact up_lt j256 (by omega)
            have z0 := (h1.2 x x256).1
            have z1 := (h1.2 x x256).2
            have hd0 : decide ((x : Int) < 0) = false := decide_eq_false (by omega)
            have hd1 : decide (256 ≤ x) = false := decide_eq_false (by omega)
            clear hi1 hi2 hi3
            gi_wp2
            refine ⟨KeepsOthers.setCell _ _ _, ⟨by simp, fun k hk => heap_setCell_other W ⟨w.heap.size + 1 + 1, x, none⟩ k _ (by show k ≠ w.heap.size + 1 + 1; rcases hk with hk | hk | hk <;> omega)⟩, ?_, ?_, ?_, ?_, ?_⟩
            · refine (h1.put x true x256).congr (fun b _ => ?_)
              by_cases e : b = x
              · subst e; simp
              · have e' : (x == b) = false := by simp; omega
                simp [e, e']
            · exact h2.far (p := ⟨w.heap.size + 1 + 1, x, none⟩) (show w.heap.size ≠ w.heap.size + 1 + 1 by omega) _
            · exact h3.far (p := ⟨w.heap.size + 1 + 1, x, none⟩) (show w.heap.size + 1 ≠ w.heap.size + 1 + 1 by omega) _
            · exact h4.setCell (p := ⟨w.heap.size + 1 + 1, x, none⟩) (show w.heap.size ≤ w.heap.size + 1 + 1 by omega) _
            · exact h5.others (KeepsOthers.setCell _ _ _)
          case done =>
            rintro D xs W hD hS ⟨h1, h2, h3, h4, h5⟩ hK
            have hS : xs = elsS m Rw n S T j n := hS
            have hA := h1.congr (f' := mk m Rw n S T (j + 1)) (fun b _ => by rw [HE.out b, hS])
            have hP := Lib.hid (HKd.out.push (args := #[]) hD (by have := HSD.out; omega) h5 hK)
            have HA' := Lib.hid hA
            clear h1 hS hA h5 hK
            gi_wp2
            refine ⟨?rel, ?measure⟩
            case rel =>
              repeat apply Exists.intro
              exact ⟨⟨j + 1, by omega, by go_num, HA'.out, h2, h3, h4, hP.out⟩, rfl⟩
            case measure => simp [intOf]; omega
          case stop =>
            rintro D c pre W hD _ h _
            exact h.elim
      · obtain rfl : j = N := by omega
        have hld := ha.load
        have ht0 := there57 hb2
        have hst := run_storeCells_cells (P := Try.prog) (w.heap.size + 1) 0 (aV (mk m Rw n S T j)) 0 wr (fun i hi => by simpa using (ht0 i (by simpa [aV_len] using hi)).1) (fun i hi => by simpa using (ht0 i (by simpa [aV_len] using hi)).2) (aV_one _)
        simp only [Nat.add_zero] at hst
        have ht := there57 hb2
        have hgr : wr.grownBy (wr.setCells (w.heap.size + 1) 0 (aV (mk m Rw n S T j))) (some (w.heap.size + 1)) := gb_setCells _ 0 (World.grownBy.refl _ _)
        have hb2s := Lib.hid hb2
        have HG := Lib.hid hgr
        have HKR := Lib.hid kr
        have HMK := Lib.hid (hmk.grown hgr (fun r e hr => by cases e; rw [show wr.heap[w.heap.size + 1]? = _ from hb2] at hr; cases hr))
        have HR2 := Lib.hid (World.rangeAt_setCells_same wr (w.heap.size + 1) 0 (aV (mk m Rw n S T j)) (by rw [aV_len]; exact ht))
        clear ha hb1 hb2 kr hmk ht ht0 hgr
        gi_wp2_with fail
        refine wpIn_of_run rfl (fun _ _ => trivial) (v := .agg (aV (mk m Rw n S T j)).toArray) (w' := wr) (by simp [execOp, Act.eval, hld, Result.andThen]) ?_
        gi_wp2_with fail
        refine marks_leave ds _ HMK.out (fun W' hs => ?_)
        obtain ⟨o, ho, hc⟩ := cells_of_cell (HR2.out 0 _ (aV_at _ (by omega)))
        have hcs : ∃ cs t fr, (wr.setCells (w.heap.size + 1) 0 (aV (mk m Rw n S T j))).heap[w.heap.size + 1]? = some (Obj.cells cs t fr) := by
          cases o <;> simp [Obj.isCells] at hc
          exact ⟨_, _, _, ho⟩
        obtain ⟨cs, t, fr, hcs⟩ := hcs
        have hblk := hs.2 _ cs t fr hcs
        have hr : W'.rangeAt (w.heap.size + 1) 0 (aV (mk m Rw n S T j)) := fun i v hv => (World.cell?_of_block (a := ⟨w.heap.size + 1, 0 + i, none⟩) hblk).trans (HR2.out i v hv)
        have hrun := run_loadVar_mid (P := Try.prog) W' (w.heap.size + 1) 0 57 (aV (mk m Rw n S T j)) _ hr Try.underlying57 rfl (by rw [aV_len]; kernel_rfl)
        refine ⟨.agg (aV (mk m Rw n S T j)).toArray, ?_, by rw [HN.out], ?_⟩
        · exact res_cell (a := 2) (t := 57) rfl rfl hrun
        · exact (HKR.out.grown HG.out HKR.out.size (fun i e => by cases e; omega)).trans hs.1
end Go.Proofs.Ytcjbjhkmnfegnaa
