/- Lemmas for the claim: ScriptLines: the law returns true for every line. -/
import Derived.Test.YtgfncnnidacllaaGreatDoorJU
import Derived.Test.YtgfncnnidacllaaGreatDoorJT
set_option linter.unusedVariables false
set_option linter.unusedSimpArgs false
namespace Go.Proofs.YtgfncnnidacllaaGreatDoor
open Go.RowKit Go.Shelf Go.Proofs.YtgfncnnidacllaaGreatDoorW.PrintWords Go.Proofs.YtgfncnnidacllaaGreatDoorW.PrintLast Go.Proofs.YtgfncnnidacllaaGreatDoorW.PrintMore
def resOf : Cl ⊕ Int → Cl × Int
  | .inl c => (c, 0)
  | .inr n => (Cl.of 0, n)
theorem nil_rd (w : World) : RepR w (ClCells (Cl.of 0) (.slice none 0 0) (.slice none 0 0) (.slice none 0 0)) (Cl.of 0) :=
  ⟨_, _, _, rfl, (Row.nil (w := w) (B := 0) (N := 0)).1.rd, (Row.nil (w := w) (B := 0) (N := 0)).1.rd, (Row.nil (w := w) (B := 0) (N := 0)).1.rd⟩
theorem ParsePost.res {ws : List (List UInt8)} {w : World} {e : Ending} {w' : World} (h : ParsePost ws w e w') : (∃ cells, e = .returned (.tuple #[.agg cells, .int .i64 (resOf (parseL ws)).2]) ∧ RepR w' cells (resOf (parseL ws)).1) ∧ Below w.heap.size w w' := by
  obtain ⟨h1, h2⟩ := h
  refine ⟨?_, h2⟩
  cases hp : parseL ws with
  | inl c =>
    rw [hp] at h1
    obtain ⟨N, cells, he, hr⟩ := h1
    exact ⟨cells, he, hr.rd⟩
  | inr n =>
    rw [hp] at h1
    exact ⟨_, h1, nil_rd w'⟩
structure LSt (w : World) (M1 M2 : Nat) (a1 a2 : Array Value) (c1 c2 : Cl) (W : World) : Prop where
  b1 : W.heap[M1]? = some (.cells a1 30 (0, 0))
  b2 : W.heap[M2]? = some (.cells a2 34 (0, 0))
  r1 : RepR W a1 c1
  r2 : RepR W a2 c2
  below : Below w.heap.size w W
theorem LSt.call {w : World} {M1 M2 : Nat} {a1 a2 : Array Value} {c1 c2 : Cl} {W W1 : World} (h : LSt w M1 M2 a1 a2 c1 c2 W) (hb : Below W.heap.size W W1) : LSt w M1 M2 a1 a2 c1 c2 W1 :=
  ⟨blk_call hb h.b1, blk_call hb h.b2, h.r1.below hb, h.r2.below hb, below_call h.below hb⟩
theorem l_of {w : World} {M1 M2 : Nat} {c : Cl} {A4 A5 A6 D4 D5 D6 : Option Addr} {k4 k5 k6 j4 j5 j6 : Nat} {W : World} (h : LSt w M1 M2 (ClCells c (.slice A4 c.nm.length k4) (.slice A5 c.sm.length k5) (.slice A6 c.b.length k6)) (ClCells c (.slice D4 c.nm.length j4) (.slice D5 c.sm.length j5) (.slice D6 c.b.length j6)) c c W) : W.cell? ⟨M1, 0, none⟩ = some (.int .i64 c.kind) ∧ W.cell? ⟨M1, 1, none⟩ = some (.int .i64 c.h) ∧ W.cell? ⟨M1, 2, none⟩ = some (.int .i64 c.alg) ∧ W.cell? ⟨M1, 3, none⟩ = some (.int .i64 c.n) ∧ W.cell? ⟨M1, 4, none⟩ = some (.slice A4 c.nm.length k4) ∧ W.cell? ⟨M1, 5, none⟩ = some (.slice A5 c.sm.length k5) ∧ W.cell? ⟨M1, 6, none⟩ = some (.slice A6 c.b.length k6) ∧ W.cell? ⟨M1, 7, none⟩ = some (.int .u64 c.hi) ∧ W.cell? ⟨M1, 8, none⟩ = some (.int .u64 c.lo) ∧ W.cell? ⟨M2, 0, none⟩ = some (.int .i64 c.kind) ∧ W.cell? ⟨M2, 1, none⟩ = some (.int .i64 c.h) ∧ W.cell? ⟨M2, 2, none⟩ = some (.int .i64 c.alg) ∧ W.cell? ⟨M2, 3, none⟩ = some (.int .i64 c.n) ∧ W.cell? ⟨M2, 4, none⟩ = some (.slice D4 c.nm.length j4) ∧ W.cell? ⟨M2, 5, none⟩ = some (.slice D5 c.sm.length j5) ∧ W.cell? ⟨M2, 6, none⟩ = some (.slice D6 c.b.length j6) ∧ W.cell? ⟨M2, 7, none⟩ = some (.int .u64 c.hi) ∧ W.cell? ⟨M2, 8, none⟩ = some (.int .u64 c.lo) ∧ LSt w M1 M2 (ClCells c (.slice A4 c.nm.length k4) (.slice A5 c.sm.length k5) (.slice A6 c.b.length k6)) (ClCells c (.slice D4 c.nm.length j4) (.slice D5 c.sm.length j5) (.slice D6 c.b.length j6)) c c W :=
  ⟨blk_cell h.b1 0, blk_cell h.b1 1, blk_cell h.b1 2, blk_cell h.b1 3, blk_cell h.b1 4, blk_cell h.b1 5, blk_cell h.b1 6, blk_cell h.b1 7, blk_cell h.b1 8, blk_cell h.b2 0, blk_cell h.b2 1, blk_cell h.b2 2, blk_cell h.b2 3, blk_cell h.b2 4, blk_cell h.b2 5, blk_cell h.b2 6, blk_cell h.b2 7, blk_cell h.b2 8, h⟩
theorem l_call {w : World} {M1 M2 : Nat} {c : Cl} {A4 A5 A6 D4 D5 D6 : Option Addr} {k4 k5 k6 j4 j5 j6 : Nat} {W : World} {w1 : World} {p0 p1 p2 p3 p4 p5 p6 p7 p8 p9 p10 p11 p12 p13 p14 p15 p16 p17 : Prop} (h : p0 ∧ p1 ∧ p2 ∧ p3 ∧ p4 ∧ p5 ∧ p6 ∧ p7 ∧ p8 ∧ p9 ∧ p10 ∧ p11 ∧ p12 ∧ p13 ∧ p14 ∧ p15 ∧ p16 ∧ p17 ∧ LSt w M1 M2 (ClCells c (.slice A4 c.nm.length k4) (.slice A5 c.sm.length k5) (.slice A6 c.b.length k6)) (ClCells c (.slice D4 c.nm.length j4) (.slice D5 c.sm.length j5) (.slice D6 c.b.length j6)) c c W) (hb : Below W.heap.size W w1) : w1.cell? ⟨M1, 0, none⟩ = some (.int .i64 c.kind) ∧ w1.cell? ⟨M1, 1, none⟩ = some (.int .i64 c.h) ∧ w1.cell? ⟨M1, 2, none⟩ = some (.int .i64 c.alg) ∧ w1.cell? ⟨M1, 3, none⟩ = some (.int .i64 c.n) ∧ w1.cell? ⟨M1, 4, none⟩ = some (.slice A4 c.nm.length k4) ∧ w1.cell? ⟨M1, 5, none⟩ = some (.slice A5 c.sm.length k5) ∧ w1.cell? ⟨M1, 6, none⟩ = some (.slice A6 c.b.length k6) ∧ w1.cell? ⟨M1, 7, none⟩ = some (.int .u64 c.hi) ∧ w1.cell? ⟨M1, 8, none⟩ = some (.int .u64 c.lo) ∧ w1.cell? ⟨M2, 0, none⟩ = some (.int .i64 c.kind) ∧ w1.cell? ⟨M2, 1, none⟩ = some (.int .i64 c.h) ∧ w1.cell? ⟨M2, 2, none⟩ = some (.int .i64 c.alg) ∧ w1.cell? ⟨M2, 3, none⟩ = some (.int .i64 c.n) ∧ w1.cell? ⟨M2, 4, none⟩ = some (.slice D4 c.nm.length j4) ∧ w1.cell? ⟨M2, 5, none⟩ = some (.slice D5 c.sm.length j5) ∧ w1.cell? ⟨M2, 6, none⟩ = some (.slice D6 c.b.length j6) ∧ w1.cell? ⟨M2, 7, none⟩ = some (.int .u64 c.hi) ∧ w1.cell? ⟨M2, 8, none⟩ = some (.int .u64 c.lo) ∧ LSt w M1 M2 (ClCells c (.slice A4 c.nm.length k4) (.slice A5 c.sm.length k5) (.slice A6 c.b.length k6)) (ClCells c (.slice D4 c.nm.length j4) (.slice D5 c.sm.length j5) (.slice D6 c.b.length j6)) c c w1 := l_of (h.2.2.2.2.2.2.2.2.2.2.2.2.2.2.2.2.2.2.call hb)
theorem l_get {w : World} {M1 M2 : Nat} {c : Cl} {A4 A5 A6 D4 D5 D6 : Option Addr} {k4 k5 k6 j4 j5 j6 : Nat} {W : World} {p0 p1 p2 p3 p4 p5 p6 p7 p8 p9 p10 p11 p12 p13 p14 p15 p16 p17 : Prop} (h : p0 ∧ p1 ∧ p2 ∧ p3 ∧ p4 ∧ p5 ∧ p6 ∧ p7 ∧ p8 ∧ p9 ∧ p10 ∧ p11 ∧ p12 ∧ p13 ∧ p14 ∧ p15 ∧ p16 ∧ p17 ∧ LSt w M1 M2 (ClCells c (.slice A4 c.nm.length k4) (.slice A5 c.sm.length k5) (.slice A6 c.b.length k6)) (ClCells c (.slice D4 c.nm.length j4) (.slice D5 c.sm.length j5) (.slice D6 c.b.length j6)) c c W) : LSt w M1 M2 (ClCells c (.slice A4 c.nm.length k4) (.slice A5 c.sm.length k5) (.slice A6 c.b.length k6)) (ClCells c (.slice D4 c.nm.length j4) (.slice D5 c.sm.length j5) (.slice D6 c.b.length j6)) c c W := h.2.2.2.2.2.2.2.2.2.2.2.2.2.2.2.2.2.2
set_option maxRecDepth 100000 in
set_option maxHeartbeats 8000000 in
theorem lines_ok (s : ByteArray) (hs : s.size ≤ 1500) (c : Cl) (hpl : parseL (splitS s.data.toList) = .inl c) (w : World) (hV : VarsAt w) :
    Calls Tryz.prog 3 #[.string s] w fun e w' => e = .returned (.bool true) ∧ Below w.heap.size w w' := by
  obtain ⟨k, hk, hline, hkind, hread⟩ := line_round hpl
  have hsz : s.data.toList.length = s.size := rfl
  have hF : Fits c := hread.fits (by omega) (parseL_rng hpl)
  have hsh : Short c := ⟨by have := hF.nm.1; omega, by have := hF.sm.1; omega, by have := hF.b.1; omega⟩
  have hres : resOf (parseL (splitS s.data.toList)) = (c, 0) := by rw [hpl]; rfl
  have HSH := Lib.hid hsh
  have HF := Lib.hid hF
  have HLN := Lib.hid hline
  have HKD := Lib.hid hkind
  have HRD := Lib.hid hread
  have hgt : decide (1500 < (s.size : Int)) = false := by rw [decide_eq_false_iff_not]; omega
  have HPL := Lib.hid hpl
  have HW := Lib.hid (wakes_any w hV)
  have HP1 := Lib.hid (fun W hb => parse_any s (by omega) W (hV.call (w1 := W) hb))
  have HP2 := Lib.hid (rparse_any s (by omega))
  have HRS := Lib.hid hres
  have HV := Lib.hid hV
  clear hpl hres hV hsh hF hline hkind hread hsz
  go_enter Tryz.func3, Tryz.ntmps3
  go_wp2_with fail
  refine HW.out.mono ?_
  rintro e w1 ⟨rfl, hb1⟩
  have HB1 := Lib.hid hb1
  clear hb1
  go_wp2_with fail
  refine (HP1.out w1 HB1.out).mono ?_
  rintro e w2 h2
  obtain ⟨⟨cells, rfl, hrep⟩, hb2⟩ := h2.res
  rw [HRS.out] at hrep ⊢
  obtain ⟨v4, v5, v6, rfl, ⟨A4, k4, rfl, l4, r4⟩, ⟨A5, k5, rfl, l5, r5⟩, ⟨A6, k6, rfl, l6, r6⟩⟩ := hrep
  have hR2 : RepR w2 (ClCells c (.slice A4 c.nm.length k4) (.slice A5 c.sm.length k5) (.slice A6 c.b.length k6)) c := ⟨_, _, _, rfl, ⟨_, _, rfl, l4, r4⟩, ⟨_, _, rfl, l5, r5⟩, ⟨_, _, rfl, l6, r6⟩⟩
  have hbel2 : Below w.heap.size w w2 := below_new HB1.out hb2 HB1.out.size
  have HR2 := Lib.hid hR2
  have HB2 := Lib.hid hbel2
  clear h2 hb2 hR2 hbel2 l4 r4 l5 r5 l6 r6
  unfold ClCells
  go_wp2_with fail
  refine (HP2.out _).mono ?_
  rintro e w3 h3
  obtain ⟨⟨cells, rfl, hrep⟩, hb3⟩ := h3.res
  rw [HRS.out] at hrep ⊢
  obtain ⟨v4, v5, v6, rfl, ⟨D4, j4, rfl, l4, r4⟩, ⟨D5, j5, rfl, l5, r5⟩, ⟨D6, j6, rfl, l6, r6⟩⟩ := hrep
  have hR3 : RepR w3 (ClCells c (.slice D4 c.nm.length j4) (.slice D5 c.sm.length j5) (.slice D6 c.b.length j6)) c := ⟨_, _, _, rfl, ⟨_, _, rfl, l4, r4⟩, ⟨_, _, rfl, l5, r5⟩, ⟨_, _, rfl, l6, r6⟩⟩
  have hal2 : Below w2.heap.size w2 (w2.alloc (.cells (ClCells c (.slice A4 c.nm.length k4) (.slice A5 c.sm.length k5) (.slice A6 c.b.length k6)) 30)) := (Below.refl _ _).alloc (Nat.le_refl _) _
  have hal3 : Below w3.heap.size w3 (w3.alloc (.cells (ClCells c (.slice D4 c.nm.length j4) (.slice D5 c.sm.length j5) (.slice D6 c.b.length j6)) 34)) := (Below.refl _ _).alloc (Nat.le_refl _) _
  have hL : LSt w w2.heap.size w3.heap.size (ClCells c (.slice A4 c.nm.length k4) (.slice A5 c.sm.length k5) (.slice A6 c.b.length k6)) (ClCells c (.slice D4 c.nm.length j4) (.slice D5 c.sm.length j5) (.slice D6 c.b.length j6)) c c (w3.alloc (.cells (ClCells c (.slice D4 c.nm.length j4) (.slice D5 c.sm.length j5) (.slice D6 c.b.length j6)) 34)) :=
    ⟨blk_call hal3 (blk_call hb3 (blk_new w2 _ _ rfl)), blk_new _ _ _ rfl, ((HR2.out.below hal2).below hb3).below hal3, hR3.below hal3, below_call (below_call (below_call HB2.out hal2) hb3) hal3⟩
  have HL := Lib.hid hL
  clear h3 hb3 hR3 hal2 hal3 hL l4 r4 l5 r5 l6 r6
  unfold ClCells
  go_wp2_with fail
  have hL := HL.out
  clear HL
  change Code.wp _ _ _ _ (w3.alloc (.cells (ClCells c (.slice D4 c.nm.length j4) (.slice D5 c.sm.length j5) (.slice D6 c.b.length j6)) 34))
  generalize w3.alloc (.cells (ClCells c (.slice D4 c.nm.length j4) (.slice D5 c.sm.length j5) (.slice D6 c.b.length j6)) 34) = W at hL ⊢
  generalize w2.heap.size = M1 at hL ⊢
  generalize w3.heap.size = M2 at hL ⊢
  go_region_held3 (fun w' => w'.cell? ⟨M1, 0, none⟩ = some (.int .i64 c.kind) ∧ w'.cell? ⟨M1, 1, none⟩ = some (.int .i64 c.h) ∧ w'.cell? ⟨M1, 2, none⟩ = some (.int .i64 c.alg) ∧ w'.cell? ⟨M1, 3, none⟩ = some (.int .i64 c.n) ∧ w'.cell? ⟨M1, 4, none⟩ = some (.slice A4 c.nm.length k4) ∧ w'.cell? ⟨M1, 5, none⟩ = some (.slice A5 c.sm.length k5) ∧ w'.cell? ⟨M1, 6, none⟩ = some (.slice A6 c.b.length k6) ∧ w'.cell? ⟨M1, 7, none⟩ = some (.int .u64 c.hi) ∧ w'.cell? ⟨M1, 8, none⟩ = some (.int .u64 c.lo) ∧ w'.cell? ⟨M2, 0, none⟩ = some (.int .i64 c.kind) ∧ w'.cell? ⟨M2, 1, none⟩ = some (.int .i64 c.h) ∧ w'.cell? ⟨M2, 2, none⟩ = some (.int .i64 c.alg) ∧ w'.cell? ⟨M2, 3, none⟩ = some (.int .i64 c.n) ∧ w'.cell? ⟨M2, 4, none⟩ = some (.slice D4 c.nm.length j4) ∧ w'.cell? ⟨M2, 5, none⟩ = some (.slice D5 c.sm.length j5) ∧ w'.cell? ⟨M2, 6, none⟩ = some (.slice D6 c.b.length j6) ∧ w'.cell? ⟨M2, 7, none⟩ = some (.int .u64 c.hi) ∧ w'.cell? ⟨M2, 8, none⟩ = some (.int .u64 c.lo) ∧ LSt w M1 M2 (ClCells c (.slice A4 c.nm.length k4) (.slice A5 c.sm.length k5) (.slice A6 c.b.length k6)) (ClCells c (.slice D4 c.nm.length j4) (.slice D5 c.sm.length j5) (.slice D6 c.b.length j6)) c c w')
    (first | assumption | exact l_of (hL.call (Below.refl _ _).drew) | exact l_call (by assumption) (by assumption))
    (first | (go_at_call 9; refine (back_any c A4 A5 A6 _ _ _ k4 k5 k6 _).mono ?_; rintro e w5 ⟨rfl, hw5⟩) | (go_at_call 8; refine (rsame_any (ClCells c (.slice A4 c.nm.length k4) (.slice A5 c.sm.length k5) (.slice A6 c.b.length k6)) (ClCells c (.slice D4 c.nm.length j4) (.slice D5 c.sm.length j5) (.slice D6 c.b.length j6)) c c _ (LSt.r1 (l_get (by assumption))) (LSt.r2 (l_get (by assumption))) HSH.out).mono ?_; rintro e w6 ⟨rfl, hw6⟩; rw [decide_eq_true (rfl : c = c)]))
  have hL6 : LSt w M1 M2 (ClCells c (.slice A4 c.nm.length k4) (.slice A5 c.sm.length k5) (.slice A6 c.b.length k6)) (ClCells c (.slice D4 c.nm.length j4) (.slice D5 c.sm.length j5) (.slice D6 c.b.length j6)) c c w6 := l_get (by assumption)
  clear ‹_ ∧ _ ∧ _ ∧ _ ∧ _ ∧ _ ∧ _ ∧ _ ∧ _ ∧ _ ∧ _ ∧ _ ∧ _ ∧ _ ∧ _ ∧ _ ∧ _ ∧ _ ∧ LSt _ _ _ _ _ _ _ w6› hw6 hL
  have hb1 := hL6.b1
  have x0 := blk_cell hb1 0
  have x1 := blk_cell hb1 1
  have x2 := blk_cell hb1 2
  have x3 := blk_cell hb1 3
  have x4 := blk_cell hb1 4
  have x5 := blk_cell hb1 5
  have x6 := blk_cell hb1 6
  have x7 := blk_cell hb1 7
  have x8 := blk_cell hb1 8
  have HL6 := Lib.hid hL6
  clear hb1 hL6
  unfold ClCells at *
  go_wp2_with fail
  clear x0 x1 x2 x3 x4 x5 x6 x7 x8
  refine (print_main c k hk HKD.out HF.out _ w6 (HV.out.call HL6.out.below) HL6.out.r1).mono ?_
  rintro e w7 ⟨he, hb7⟩
  rw [HLN.out, if_pos HPL.out, bs_back] at he
  subst he
  have HB7 := Lib.hid (below_call HL6.out.below hb7)
  clear hb7
  go_wp2_with fail
  go_returns
  exact ⟨rfl, HB7.out⟩
set_option maxRecDepth 100000 in
set_option maxHeartbeats 8000000 in
theorem lines_err (s : ByteArray) (hs : s.size ≤ 1500) (n : Int) (hpl : parseL (splitS s.data.toList) = .inr n) (w : World) (hV : VarsAt w) :
    Calls Tryz.prog 3 #[.string s] w fun e w' => e = .returned (.bool true) ∧ Below w.heap.size w w' := by
  obtain ⟨c, hc⟩ : ∃ c, Cl.of 0 = c := ⟨_, rfl⟩
  have hres : resOf (parseL (splitS s.data.toList)) = (c, n) := by rw [hpl, ← hc]; rfl
  have hsh : Short c := by rw [← hc]; exact ⟨by simp [Cl.of], by simp [Cl.of], by simp [Cl.of]⟩
  have hkb : ¬ (1 ≤ c.kind ∧ c.kind ≤ 10 ∧ 0 ≤ c.h ∧ 0 ≤ c.n) := by rw [← hc]; simp [Cl.of]
  have hn0 : (n != 0) = true := by rcases parseL_inr hpl with rfl | rfl <;> rfl
  have hn1 : (n == 0) = false := by rcases parseL_inr hpl with rfl | rfl <;> rfl
  have HSH := Lib.hid hsh
  have HKB := Lib.hid hkb
  have hgt : decide (1500 < (s.size : Int)) = false := by rw [decide_eq_false_iff_not]; omega
  have HPL := Lib.hid hpl
  have HW := Lib.hid (wakes_any w hV)
  have HP1 := Lib.hid (fun W hb => parse_any s (by omega) W (hV.call (w1 := W) hb))
  have HP2 := Lib.hid (rparse_any s (by omega))
  have HRS := Lib.hid hres
  have HV := Lib.hid hV
  clear hpl hres hV hsh hkb hc
  go_enter Tryz.func3, Tryz.ntmps3
  go_wp2_with fail
  refine HW.out.mono ?_
  rintro e w1 ⟨rfl, hb1⟩
  have HB1 := Lib.hid hb1
  clear hb1
  go_wp2_with fail
  refine (HP1.out w1 HB1.out).mono ?_
  rintro e w2 h2
  obtain ⟨⟨cells, rfl, hrep⟩, hb2⟩ := h2.res
  rw [HRS.out] at hrep ⊢
  obtain ⟨v4, v5, v6, rfl, ⟨A4, k4, rfl, l4, r4⟩, ⟨A5, k5, rfl, l5, r5⟩, ⟨A6, k6, rfl, l6, r6⟩⟩ := hrep
  have hR2 : RepR w2 (ClCells c (.slice A4 c.nm.length k4) (.slice A5 c.sm.length k5) (.slice A6 c.b.length k6)) c := ⟨_, _, _, rfl, ⟨_, _, rfl, l4, r4⟩, ⟨_, _, rfl, l5, r5⟩, ⟨_, _, rfl, l6, r6⟩⟩
  have hbel2 : Below w.heap.size w w2 := below_new HB1.out hb2 HB1.out.size
  have HR2 := Lib.hid hR2
  have HB2 := Lib.hid hbel2
  clear h2 hb2 hR2 hbel2 l4 r4 l5 r5 l6 r6
  unfold ClCells
  go_wp2_with fail
  refine (HP2.out _).mono ?_
  rintro e w3 h3
  obtain ⟨⟨cells, rfl, hrep⟩, hb3⟩ := h3.res
  rw [HRS.out] at hrep ⊢
  obtain ⟨v4, v5, v6, rfl, ⟨D4, j4, rfl, l4, r4⟩, ⟨D5, j5, rfl, l5, r5⟩, ⟨D6, j6, rfl, l6, r6⟩⟩ := hrep
  have hR3 : RepR w3 (ClCells c (.slice D4 c.nm.length j4) (.slice D5 c.sm.length j5) (.slice D6 c.b.length j6)) c := ⟨_, _, _, rfl, ⟨_, _, rfl, l4, r4⟩, ⟨_, _, rfl, l5, r5⟩, ⟨_, _, rfl, l6, r6⟩⟩
  have hal2 : Below w2.heap.size w2 (w2.alloc (.cells (ClCells c (.slice A4 c.nm.length k4) (.slice A5 c.sm.length k5) (.slice A6 c.b.length k6)) 30)) := (Below.refl _ _).alloc (Nat.le_refl _) _
  have hal3 : Below w3.heap.size w3 (w3.alloc (.cells (ClCells c (.slice D4 c.nm.length j4) (.slice D5 c.sm.length j5) (.slice D6 c.b.length j6)) 34)) := (Below.refl _ _).alloc (Nat.le_refl _) _
  have hL : LSt w w2.heap.size w3.heap.size (ClCells c (.slice A4 c.nm.length k4) (.slice A5 c.sm.length k5) (.slice A6 c.b.length k6)) (ClCells c (.slice D4 c.nm.length j4) (.slice D5 c.sm.length j5) (.slice D6 c.b.length j6)) c c (w3.alloc (.cells (ClCells c (.slice D4 c.nm.length j4) (.slice D5 c.sm.length j5) (.slice D6 c.b.length j6)) 34)) :=
    ⟨blk_call hal3 (blk_call hb3 (blk_new w2 _ _ rfl)), blk_new _ _ _ rfl, ((HR2.out.below hal2).below hb3).below hal3, hR3.below hal3, below_call (below_call (below_call HB2.out hal2) hb3) hal3⟩
  have HL := Lib.hid hL
  clear h3 hb3 hR3 hal2 hal3 hL l4 r4 l5 r5 l6 r6
  unfold ClCells
  go_wp2_with fail
  have hL := HL.out
  clear HL
  change Code.wp _ _ _ _ (w3.alloc (.cells (ClCells c (.slice D4 c.nm.length j4) (.slice D5 c.sm.length j5) (.slice D6 c.b.length j6)) 34))
  generalize w3.alloc (.cells (ClCells c (.slice D4 c.nm.length j4) (.slice D5 c.sm.length j5) (.slice D6 c.b.length j6)) 34) = W at hL ⊢
  generalize w2.heap.size = M1 at hL ⊢
  generalize w3.heap.size = M2 at hL ⊢
  go_region_held3 (fun w' => w'.cell? ⟨M1, 0, none⟩ = some (.int .i64 c.kind) ∧ w'.cell? ⟨M1, 1, none⟩ = some (.int .i64 c.h) ∧ w'.cell? ⟨M1, 2, none⟩ = some (.int .i64 c.alg) ∧ w'.cell? ⟨M1, 3, none⟩ = some (.int .i64 c.n) ∧ w'.cell? ⟨M1, 4, none⟩ = some (.slice A4 c.nm.length k4) ∧ w'.cell? ⟨M1, 5, none⟩ = some (.slice A5 c.sm.length k5) ∧ w'.cell? ⟨M1, 6, none⟩ = some (.slice A6 c.b.length k6) ∧ w'.cell? ⟨M1, 7, none⟩ = some (.int .u64 c.hi) ∧ w'.cell? ⟨M1, 8, none⟩ = some (.int .u64 c.lo) ∧ w'.cell? ⟨M2, 0, none⟩ = some (.int .i64 c.kind) ∧ w'.cell? ⟨M2, 1, none⟩ = some (.int .i64 c.h) ∧ w'.cell? ⟨M2, 2, none⟩ = some (.int .i64 c.alg) ∧ w'.cell? ⟨M2, 3, none⟩ = some (.int .i64 c.n) ∧ w'.cell? ⟨M2, 4, none⟩ = some (.slice D4 c.nm.length j4) ∧ w'.cell? ⟨M2, 5, none⟩ = some (.slice D5 c.sm.length j5) ∧ w'.cell? ⟨M2, 6, none⟩ = some (.slice D6 c.b.length j6) ∧ w'.cell? ⟨M2, 7, none⟩ = some (.int .u64 c.hi) ∧ w'.cell? ⟨M2, 8, none⟩ = some (.int .u64 c.lo) ∧ LSt w M1 M2 (ClCells c (.slice A4 c.nm.length k4) (.slice A5 c.sm.length k5) (.slice A6 c.b.length k6)) (ClCells c (.slice D4 c.nm.length j4) (.slice D5 c.sm.length j5) (.slice D6 c.b.length j6)) c c w')
    (first | assumption | exact l_of (hL.call (Below.refl _ _).drew) | exact l_call (by assumption) (by assumption))
    (first | (go_at_call 9; refine (back_any c A4 A5 A6 _ _ _ k4 k5 k6 _).mono ?_; rintro e w5 ⟨rfl, hw5⟩) | (go_at_call 8; refine (rsame_any (ClCells c (.slice A4 c.nm.length k4) (.slice A5 c.sm.length k5) (.slice A6 c.b.length k6)) (ClCells c (.slice D4 c.nm.length j4) (.slice D5 c.sm.length j5) (.slice D6 c.b.length j6)) c c _ (LSt.r1 (l_get (by assumption))) (LSt.r2 (l_get (by assumption))) HSH.out).mono ?_; rintro e w6 ⟨rfl, hw6⟩; rw [decide_eq_true (rfl : c = c)]))
  have hL6 : LSt w M1 M2 (ClCells c (.slice A4 c.nm.length k4) (.slice A5 c.sm.length k5) (.slice A6 c.b.length k6)) (ClCells c (.slice D4 c.nm.length j4) (.slice D5 c.sm.length j5) (.slice D6 c.b.length j6)) c c w6 := l_get (by assumption)
  clear ‹_ ∧ _ ∧ _ ∧ _ ∧ _ ∧ _ ∧ _ ∧ _ ∧ _ ∧ _ ∧ _ ∧ _ ∧ _ ∧ _ ∧ _ ∧ _ ∧ _ ∧ _ ∧ LSt _ _ _ _ _ _ _ w6› hw6 hL
  have hb1 := hL6.b1
  have x0 := blk_cell hb1 0
  have x1 := blk_cell hb1 1
  have x2 := blk_cell hb1 2
  have x3 := blk_cell hb1 3
  have x4 := blk_cell hb1 4
  have x5 := blk_cell hb1 5
  have x6 := blk_cell hb1 6
  have x7 := blk_cell hb1 7
  have x8 := blk_cell hb1 8
  have HL6 := Lib.hid hL6
  clear hb1 hL6
  unfold ClCells at *
  go_wp2_with fail
  clear x0 x1 x2 x3 x4 x5 x6 x7 x8
  refine (print_bad c HKB.out _ _ _ w6).mono ?_
  rintro e w7 ⟨rfl, hb7⟩
  have HB7 := Lib.hid (below_call HL6.out.below hb7)
  clear hb7
  go_wp2_with fail
  go_returns
  exact ⟨rfl, HB7.out⟩
set_option maxRecDepth 100000 in
set_option maxHeartbeats 2000000 in
theorem lines_long (s : ByteArray) (hs : 1500 < s.size) (w : World) (hV : VarsAt w) :
    Calls Tryz.prog 3 #[.string s] w fun e w' => e = .returned (.bool true) ∧ Below w.heap.size w w' := by
  have hgt : decide (1500 < (s.size : Int)) = true := by rw [decide_eq_true_eq]; omega
  have HW := Lib.hid (wakes_any w hV)
  clear hV
  go_enter Tryz.func3, Tryz.ntmps3
  go_wp2_with fail
  refine HW.out.mono ?_
  rintro e w1 ⟨rfl, hb1⟩
  go_wp2_with fail
  go_returns
  exact ⟨rfl, hb1⟩
theorem lines_any (s : ByteArray) (w : World) (hV : VarsAt w) :
    Calls Tryz.prog 3 #[.string s] w fun e w' => e = .returned (.bool true) ∧ Below w.heap.size w w' := by
  by_cases hs : s.size ≤ 1500
  · cases hpl : parseL (splitS s.data.toList) with
    | inl c => exact lines_ok s hs c hpl w hV
    | inr n => exact lines_err s hs n hpl w hV
  · exact lines_long s (by omega) w hV
end Go.Proofs.YtgfncnnidacllaaGreatDoor
