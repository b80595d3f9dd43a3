/- Lemmas for the claim: the reference's Parse, walked: new. -/
import Derived.Test.YtgfncnnidacllaaGreatDoorJO
set_option linter.unusedVariables false
set_option linter.unusedSimpArgs false
namespace Go.Proofs.YtgfncnnidacllaaGreatDoor
open Go.RowKit Go.Shelf Go.Proofs.YtgfncnnidacllaaGreatDoorW.PrintWords Go.Proofs.YtgfncnnidacllaaGreatDoorW.PrintLast Go.Proofs.YtgfncnnidacllaaGreatDoorW.PrintMore Go.Proofs.YtgfncnnidacllaaGreatDoor.PScriptLines
set_option maxRecDepth 100000 in
set_option maxHeartbeats 8000000 in
theorem rp_0_0 (s : ByteArray) (hs : s.size ≤ 100000) (w : World) (ws : List (List UInt8)) (hws : splitS s.data.toList = ws) (hk : kindW (ws.headD []) = some 0) (hl : ws.length = 1 + fLen 0) (x1 : List UInt8) (h1 : ws[1]? = some x1) (x2 : List UInt8) (h2 : ws[2]? = some x2) (x3 : List UInt8) (h3 : ws[3]? = some x3) (q1 : findN x1 = none) (hpf : parseFs (fldsOf 0) ws.tail (Cl.of (((0 : Nat) : Int) + 1)) = none) :
    Calls Tryz.prog 7 #[.string s] w (ParsePost ws w) := by
  have HWL : ∀ x ∈ ws, x.length ≤ 100000 := fun x hx => by rw [← hws] at hx; have := split_len _ x hx; have e : s.data.toList.length = s.size := rfl; omega
  obtain ⟨f0, hf0, hh0⟩ : ∃ f0, ws[0]? = some f0 ∧ ws.headD [] = f0 := by
    cases ws with
    | nil => exact absurd hws (splitS_ne _)
    | cons a b => exact ⟨a, rfl, rfl⟩
  have HX := Lib.hid HWL
  have hl0 : (0 : Int) < (ws.length : Int) := by have := (List.getElem?_eq_some_iff.1 hf0).1; omega
  have HF := Lib.hid hf0
  have HH := Lib.hid hh0
  have HC := Lib.hid (rwords_any s hs (w.alloc (.cells (ClCells (Cl.of 0) (.slice none 0 0) (.slice none 0 0) (.slice none 0 0)) 34)))
  rw [hws] at HC
  have HS := Lib.hid hws
  clear HWL hf0 hh0 hws
  have hki : kindI f0 = 1 := by unfold kindI; rw [← HH.out, hk]; rfl
  have hle : ((ws.length : Int) != 4) = false := by rw [bne_eq_false_iff_eq]; have : fLen 0 = 3 := rfl; omega
  have HK := Lib.hid hk
  have HLB := Lib.hid hl
  have HPF := Lib.hid hpf
  have H1 := Lib.hid h1
  have s1 : (bsOf x1).size ≤ 100000 := by rw [bsOf_size]; exact HX.out _ (List.mem_of_getElem? h1)
  have l1 : (1 : Int) < (ws.length : Int) := by have := (List.getElem?_eq_some_iff.1 h1).1; omega
  have H2 := Lib.hid h2
  have s2 : (bsOf x2).size ≤ 100000 := by rw [bsOf_size]; exact HX.out _ (List.mem_of_getElem? h2)
  have l2 : (2 : Int) < (ws.length : Int) := by have := (List.getElem?_eq_some_iff.1 h2).1; omega
  have H3 := Lib.hid h3
  have s3 : (bsOf x3).size ≤ 100000 := by rw [bsOf_size]; exact HX.out _ (List.mem_of_getElem? h3)
  have l3 : (3 : Int) < (ws.length : Int) := by have := (List.getElem?_eq_some_iff.1 h3).1; omega
  have hae := algTo_end x1
  rw [q1] at hae
  have hae2 : natV none = 0 := rfl
  rw [hae2] at hae
  have HAE := Lib.hid hae
  have Q1 := Lib.hid q1
  clear hk hl hpf h1 h2 h3 hae hae2 q1
  go_enter Tryz.func7, Tryz.ntmps7
  go_wp2_with fail
  refine HC.out.mono ?_
  rintro e w1 ⟨⟨L, cap, hL0, rfl, hL, hwc⟩, hb1⟩
  have hres := blk_call hb1 (blk_new w _ _ rfl)
  have hbel : Below w.heap.size w w1 := below_call ((Below.refl _ _).alloc (Nat.le_refl _) _) hb1
  have c0 := hwc 0 f0 HF.out
  have HWC := Lib.hid hwc
  clear hwc hb1 HC hL0
  go_wp2_with fail
  refine (rkind_any (bsOf f0) w1).mono ?_
  rintro e w2 ⟨rfl, hb2⟩
  rw [bsOf_data]
  have hL2 : L < w2.heap.size := Nat.lt_of_lt_of_le hL hb2.size
  have hwc2 : ∀ j x, ws[j]? = some x → w2.cell? ⟨L, j, none⟩ = some (.string (bsOf x)) := fun j x hx => (hb2.cell (p := ⟨L, j, none⟩) hL).trans (HWC.out j x hx)
  have hres2 := blk_call hb2 hres
  have hbel2 := below_call hbel hb2
  clear c0 hb2 hres hbel hL HWC
  rw [hki]
  have hR := RSt.start (w := w) #[.int .i64 1, .int .i64 0, .int .i64 0, .int .i64 0, .slice none 0 0, .slice none 0 0, .slice none 0 0, .int .u64 0, .int .u64 0] hwc2 hL2 hres2 hbel2
  have HR := Lib.hid hR
  clear hwc2 hL2 hres2 hR hki
  have hN0 : w.heap.size ≤ w2.heap.size := hbel2.size
  clear hbel2
  have b0 := blk_cell HR.out.box 0
  go_wp2_with fail
  refine (rsize_any 0 (by omega) _).mono ?_
  rintro e w3 ⟨rfl, hb3⟩
  have hR3 := HR.out.call hb3
  have hfl : (1 : Int) + (fLen 0 : Int) = 4 := rfl
  rw [hfl]
  clear b0 hb3 hfl HR
  generalize w2.heap.size = N at hR3 hN0 ⊢
  have HR3 := Lib.hid hR3
  clear hR3
  have b0 := blk_cell HR3.out.box 0
  go_wp2_with fail
  clear b0
  go_loopw [7] (fun i wr => ∃ j : Nat, 1 ≤ j ∧ j ≤ 15 ∧ i = .int .i64 j ∧ RSt w ws L N #[.int .i64 1, .int .i64 0, .int .i64 (algTo x1 j), .int .i64 0, .slice none 0 0, .slice none 0 0, .slice none 0 0, .int .u64 0, .int .u64 0] wr) (fun i _ => 15 - (intOf i).toNat)
  case atStart => exact ⟨1, by omega, by omega, rfl, by rw [algTo_start]; exact HR3.out⟩
  case round =>
  obtain ⟨j, hj1, hj, rfl, hR⟩ := hrel
  by_cases hlt : j < 15
  · have hjd : decide ((j : Int) ≤ 14) = true := by rw [decide_eq_true_eq]; omega
    have c1 := hR.words 1 x1 H1.out
    obtain ⟨wj, hwj⟩ : ∃ wj, (entAt j).1 = wj := ⟨_, rfl⟩
    have HRW := Lib.hid (rword_any j hj1 (by omega))
    rw [hwj] at HRW
    have HWJ := Lib.hid hwj
    clear hwj
    by_cases hm : wj = x1
    · have hq : ((bsOf wj).toList == (bsOf x1).toList) = true := by rw [hm]; simp
      have HM := Lib.hid hm
      clear hm
      go_wp2_with fail
      go_region_held3 (fun w' => w'.cell? ⟨L, 1, none⟩ = some (.string (bsOf x1)) ∧ RSt w ws L N #[.int .i64 1, .int .i64 0, .int .i64 (algTo x1 j), .int .i64 0, .slice none 0 0, .slice none 0 0, .slice none 0 0, .int .u64 0, .int .u64 0] w')
        (first | assumption | exact ⟨c1, hR.call (Below.refl _ _).drew⟩ | exact rs_call H1 (by assumption) (by assumption))
        (first | (go_at_call 21; refine (HRW.out _).mono ?_; rintro e w5 ⟨rfl, hw5⟩))
      have hR5 := (‹_ ∧ RSt _ _ _ _ _ w5›).2
      clear ‹_ ∧ RSt _ _ _ _ _ w5› hw5
      have b2 := blk_cell hR5.box 2
      have e2 := blk_frozen hR5.box 2
      have HR5 := Lib.hid hR5
      clear hR5 hR c1
      go_wp2_with fail
      go_roundw
      case rel =>
        refine ⟨j + 1, by omega, by omega, by go_num, ?_⟩
        have h := HR5.out.set 2 (.int .i64 (j : Int))
        rw [algTo_hit hj1 (by omega) (HWJ.out.trans HM.out)]
        exact h
      case measure => simp [intOf]; omega
    · have hq : ((bsOf wj).toList == (bsOf x1).toList) = false := by rw [bsOf_list, bsOf_list]; simpa using hm
      have HM := Lib.hid hm
      clear hm
      go_wp2_with fail
      go_region_held3 (fun w' => w'.cell? ⟨L, 1, none⟩ = some (.string (bsOf x1)) ∧ RSt w ws L N #[.int .i64 1, .int .i64 0, .int .i64 (algTo x1 j), .int .i64 0, .slice none 0 0, .slice none 0 0, .slice none 0 0, .int .u64 0, .int .u64 0] w')
        (first | assumption | exact ⟨c1, hR.call (Below.refl _ _).drew⟩ | exact rs_call H1 (by assumption) (by assumption))
        (first | (go_at_call 21; refine (HRW.out _).mono ?_; rintro e w5 ⟨rfl, hw5⟩))
      have hR5 := (‹_ ∧ RSt _ _ _ _ _ w5›).2
      clear ‹_ ∧ RSt _ _ _ _ _ w5› hw5
      have HR5 := Lib.hid hR5
      clear hR5 hR c1
      go_wp2_with fail
      go_roundw
      case rel =>
        refine ⟨j + 1, by omega, by omega, by go_num, ?_⟩
        rw [algTo_miss hj1 (by rw [HWJ.out]; exact HM.out)]
        exact HR5.out
      case measure => simp [intOf]; omega
  · obtain rfl : j = 15 := by omega
    have h15 : algTo x1 15 = 0 := HAE.out
    rw [h15] at hR
    clear h15
    have HR4 := Lib.hid hR
    clear hR hj1 hj hlt
    have b0 := blk_cell HR4.out.box 0
    have b1 := blk_cell HR4.out.box 1
    have b2 := blk_cell HR4.out.box 2
    have b3 := blk_cell HR4.out.box 3
    have b4 := blk_cell HR4.out.box 4
    have b5 := blk_cell HR4.out.box 5
    have b6 := blk_cell HR4.out.box 6
    have b7 := blk_cell HR4.out.box 7
    have b8 := blk_cell HR4.out.box 8
    have e0 := blk_frozen HR4.out.box 0
    have e1 := blk_frozen HR4.out.box 1
    have e2 := blk_frozen HR4.out.box 2
    have e3 := blk_frozen HR4.out.box 3
    have e4 := blk_frozen HR4.out.box 4
    have e5 := blk_frozen HR4.out.box 5
    have e6 := blk_frozen HR4.out.box 6
    have e7 := blk_frozen HR4.out.box 7
    have e8 := blk_frozen HR4.out.box 8
    have c1 := HR4.out.words 1 x1 H1.out
    have c2 := HR4.out.words 2 x2 H2.out
    have c3 := HR4.out.words 3 x3 H3.out
    go_wp2_with fail
    clear b0 b1 b2 b3 b4 b5 b6 b7 b8 e0 e1 e2 e3 e4 e5 e6 e7 e8 c1 c2 c3
    refine (rget_any (bsOf x2) s2 _).mono ?_
    rintro e w5 ⟨v2, rfl, hrow2, hb5⟩
    rw [bsOf_data] at hrow2 ⊢
    obtain ⟨A2, n2, cp2, rfl⟩ := hrow2.slice
    have ROW2 := Lib.hid hrow2
    clear hrow2
    have hNB2 := blk_lt HR4.out.box
    have HR5 := Lib.hid (HR4.out.call hb5)
    clear hb5 HR4
    have b0 := blk_cell HR5.out.box 0
    have b1 := blk_cell HR5.out.box 1
    have b2 := blk_cell HR5.out.box 2
    have b3 := blk_cell HR5.out.box 3
    have b4 := blk_cell HR5.out.box 4
    have b5 := blk_cell HR5.out.box 5
    have b6 := blk_cell HR5.out.box 6
    have b7 := blk_cell HR5.out.box 7
    have b8 := blk_cell HR5.out.box 8
    have e0 := blk_frozen HR5.out.box 0
    have e1 := blk_frozen HR5.out.box 1
    have e2 := blk_frozen HR5.out.box 2
    have e3 := blk_frozen HR5.out.box 3
    have e4 := blk_frozen HR5.out.box 4
    have e5 := blk_frozen HR5.out.box 5
    have e6 := blk_frozen HR5.out.box 6
    have e7 := blk_frozen HR5.out.box 7
    have e8 := blk_frozen HR5.out.box 8
    have c1 := HR5.out.words 1 x1 H1.out
    have c2 := HR5.out.words 2 x2 H2.out
    have c3 := HR5.out.words 3 x3 H3.out
    go_wp2_with fail
    clear b0 b1 b2 b3 b4 b5 b6 b7 b8 e0 e1 e2 e3 e4 e5 e6 e7 e8 c1 c2 c3
    refine (rget_any (bsOf x3) s3 _).mono ?_
    rintro e w6 ⟨v3, rfl, hrow3, hb6⟩
    rw [bsOf_data] at hrow3 ⊢
    obtain ⟨A3, n3, cp3, rfl⟩ := hrow3.slice
    have ROW3 := Lib.hid hrow3
    clear hrow3
    have hNB3 := blk_lt HR5.out.box
    have ROW2b := Lib.hid (ROW2.out.callR hb6)
    have HR6 := Lib.hid (HR5.out.call hb6)
    clear hb6 HR5 ROW2
    have b0 := blk_cell HR6.out.box 0
    have b1 := blk_cell HR6.out.box 1
    have b2 := blk_cell HR6.out.box 2
    have b3 := blk_cell HR6.out.box 3
    have b4 := blk_cell HR6.out.box 4
    have b5 := blk_cell HR6.out.box 5
    have b6 := blk_cell HR6.out.box 6
    have b7 := blk_cell HR6.out.box 7
    have b8 := blk_cell HR6.out.box 8
    have e0 := blk_frozen HR6.out.box 0
    have e1 := blk_frozen HR6.out.box 1
    have e2 := blk_frozen HR6.out.box 2
    have e3 := blk_frozen HR6.out.box 3
    have e4 := blk_frozen HR6.out.box 4
    have e5 := blk_frozen HR6.out.box 5
    have e6 := blk_frozen HR6.out.box 6
    have e7 := blk_frozen HR6.out.box 7
    have e8 := blk_frozen HR6.out.box 8
    have c1 := HR6.out.words 1 x1 H1.out
    have c2 := HR6.out.words 2 x2 H2.out
    have c3 := HR6.out.words 3 x3 H3.out
    have hb0 := ((HR6.out.set 4 (.slice A2 n2 cp2)).set 5 (.slice A3 n3 cp3)).res
    have hbx := ((HR6.out.set 4 (.slice A2 n2 cp2)).set 5 (.slice A3 n3 cp3)).box
    have hbelF := ((HR6.out.set 4 (.slice A2 n2 cp2)).set 5 (.slice A3 n3 cp3)).below
    have HBF := Lib.hid hbelF
    clear hbelF
    go_wp2_with (refine wpList_store_row (by rfl) 34 (.tmp 2) (.tmp 158) (by rfl) _ _ (by rfl) (by rfl) _ _ hb0 (by kernel_rfl) (by rfl) (by simp [Value.oneCell']) ?_)
    clear b0 b1 b2 b3 b4 b5 b6 b7 b8 e0 e1 e2 e3 e4 e5 e6 e7 e8 c1 c2 c3
    refine bodyPost_ret (rparse_res _ _ w.heap.size _ _ rfl rfl rfl (setRow_heap _ _ _ _ _ _ hb0)) rfl ⟨?_, below_setRow HBF.out (Nat.le_refl _) _⟩
    rw [parseL_bad HK.out (.inr HPF.out)]
    exact rfl
set_option maxRecDepth 100000 in
set_option maxHeartbeats 8000000 in
theorem rp_0_1 (s : ByteArray) (hs : s.size ≤ 100000) (w : World) (ws : List (List UInt8)) (hws : splitS s.data.toList = ws) (hk : kindW (ws.headD []) = some 0) (hl : ws.length = 1 + fLen 0) (x1 : List UInt8) (h1 : ws[1]? = some x1) (x2 : List UInt8) (h2 : ws[2]? = some x2) (x3 : List UInt8) (h3 : ws[3]? = some x3) (u1 : Nat) (q1 : findN x1 = some u1) (q2 : getN x2 = none) (hpf : parseFs (fldsOf 0) ws.tail (Cl.of (((0 : Nat) : Int) + 1)) = none) :
    Calls Tryz.prog 7 #[.string s] w (ParsePost ws w) := by
  have HWL : ∀ x ∈ ws, x.length ≤ 100000 := fun x hx => by rw [← hws] at hx; have := split_len _ x hx; have e : s.data.toList.length = s.size := rfl; omega
  obtain ⟨f0, hf0, hh0⟩ : ∃ f0, ws[0]? = some f0 ∧ ws.headD [] = f0 := by
    cases ws with
    | nil => exact absurd hws (splitS_ne _)
    | cons a b => exact ⟨a, rfl, rfl⟩
  have HX := Lib.hid HWL
  have hl0 : (0 : Int) < (ws.length : Int) := by have := (List.getElem?_eq_some_iff.1 hf0).1; omega
  have HF := Lib.hid hf0
  have HH := Lib.hid hh0
  have HC := Lib.hid (rwords_any s hs (w.alloc (.cells (ClCells (Cl.of 0) (.slice none 0 0) (.slice none 0 0) (.slice none 0 0)) 34)))
  rw [hws] at HC
  have HS := Lib.hid hws
  clear HWL hf0 hh0 hws
  have hki : kindI f0 = 1 := by unfold kindI; rw [← HH.out, hk]; rfl
  have hle : ((ws.length : Int) != 4) = false := by rw [bne_eq_false_iff_eq]; have : fLen 0 = 3 := rfl; omega
  have HK := Lib.hid hk
  have HLB := Lib.hid hl
  have HPF := Lib.hid hpf
  have H1 := Lib.hid h1
  have s1 : (bsOf x1).size ≤ 100000 := by rw [bsOf_size]; exact HX.out _ (List.mem_of_getElem? h1)
  have l1 : (1 : Int) < (ws.length : Int) := by have := (List.getElem?_eq_some_iff.1 h1).1; omega
  have H2 := Lib.hid h2
  have s2 : (bsOf x2).size ≤ 100000 := by rw [bsOf_size]; exact HX.out _ (List.mem_of_getElem? h2)
  have l2 : (2 : Int) < (ws.length : Int) := by have := (List.getElem?_eq_some_iff.1 h2).1; omega
  have H3 := Lib.hid h3
  have s3 : (bsOf x3).size ≤ 100000 := by rw [bsOf_size]; exact HX.out _ (List.mem_of_getElem? h3)
  have l3 : (3 : Int) < (ws.length : Int) := by have := (List.getElem?_eq_some_iff.1 h3).1; omega
  have hae := algTo_end x1
  rw [q1] at hae
  have hae2 : natV (some u1) = (u1 : Int) := rfl
  rw [hae2] at hae
  have gp : (0 : Int) < (u1 : Int) := by have := (findN_pos q1).1; omega
  have gpd : decide ((0 : Int) < (u1 : Int)) = true := by rw [decide_eq_true_eq]; exact gp
  have HAE := Lib.hid hae
  have Q1 := Lib.hid q1
  have Q2 := Lib.hid q2
  clear hk hl hpf h1 h2 h3 hae hae2 q1 q2
  go_enter Tryz.func7, Tryz.ntmps7
  go_wp2_with fail
  refine HC.out.mono ?_
  rintro e w1 ⟨⟨L, cap, hL0, rfl, hL, hwc⟩, hb1⟩
  have hres := blk_call hb1 (blk_new w _ _ rfl)
  have hbel : Below w.heap.size w w1 := below_call ((Below.refl _ _).alloc (Nat.le_refl _) _) hb1
  have c0 := hwc 0 f0 HF.out
  have HWC := Lib.hid hwc
  clear hwc hb1 HC hL0
  go_wp2_with fail
  refine (rkind_any (bsOf f0) w1).mono ?_
  rintro e w2 ⟨rfl, hb2⟩
  rw [bsOf_data]
  have hL2 : L < w2.heap.size := Nat.lt_of_lt_of_le hL hb2.size
  have hwc2 : ∀ j x, ws[j]? = some x → w2.cell? ⟨L, j, none⟩ = some (.string (bsOf x)) := fun j x hx => (hb2.cell (p := ⟨L, j, none⟩) hL).trans (HWC.out j x hx)
  have hres2 := blk_call hb2 hres
  have hbel2 := below_call hbel hb2
  clear c0 hb2 hres hbel hL HWC
  rw [hki]
  have hR := RSt.start (w := w) #[.int .i64 1, .int .i64 0, .int .i64 0, .int .i64 0, .slice none 0 0, .slice none 0 0, .slice none 0 0, .int .u64 0, .int .u64 0] hwc2 hL2 hres2 hbel2
  have HR := Lib.hid hR
  clear hwc2 hL2 hres2 hR hki
  have hN0 : w.heap.size ≤ w2.heap.size := hbel2.size
  clear hbel2
  have b0 := blk_cell HR.out.box 0
  go_wp2_with fail
  refine (rsize_any 0 (by omega) _).mono ?_
  rintro e w3 ⟨rfl, hb3⟩
  have hR3 := HR.out.call hb3
  have hfl : (1 : Int) + (fLen 0 : Int) = 4 := rfl
  rw [hfl]
  clear b0 hb3 hfl HR
  generalize w2.heap.size = N at hR3 hN0 ⊢
  have HR3 := Lib.hid hR3
  clear hR3
  have b0 := blk_cell HR3.out.box 0
  go_wp2_with fail
  clear b0
  go_loopw [7] (fun i wr => ∃ j : Nat, 1 ≤ j ∧ j ≤ 15 ∧ i = .int .i64 j ∧ RSt w ws L N #[.int .i64 1, .int .i64 0, .int .i64 (algTo x1 j), .int .i64 0, .slice none 0 0, .slice none 0 0, .slice none 0 0, .int .u64 0, .int .u64 0] wr) (fun i _ => 15 - (intOf i).toNat)
  case atStart => exact ⟨1, by omega, by omega, rfl, by rw [algTo_start]; exact HR3.out⟩
  case round =>
  obtain ⟨j, hj1, hj, rfl, hR⟩ := hrel
  by_cases hlt : j < 15
  · have hjd : decide ((j : Int) ≤ 14) = true := by rw [decide_eq_true_eq]; omega
    have c1 := hR.words 1 x1 H1.out
    obtain ⟨wj, hwj⟩ : ∃ wj, (entAt j).1 = wj := ⟨_, rfl⟩
    have HRW := Lib.hid (rword_any j hj1 (by omega))
    rw [hwj] at HRW
    have HWJ := Lib.hid hwj
    clear hwj
    by_cases hm : wj = x1
    · have hq : ((bsOf wj).toList == (bsOf x1).toList) = true := by rw [hm]; simp
      have HM := Lib.hid hm
      clear hm
      go_wp2_with fail
      go_region_held3 (fun w' => w'.cell? ⟨L, 1, none⟩ = some (.string (bsOf x1)) ∧ RSt w ws L N #[.int .i64 1, .int .i64 0, .int .i64 (algTo x1 j), .int .i64 0, .slice none 0 0, .slice none 0 0, .slice none 0 0, .int .u64 0, .int .u64 0] w')
        (first | assumption | exact ⟨c1, hR.call (Below.refl _ _).drew⟩ | exact rs_call H1 (by assumption) (by assumption))
        (first | (go_at_call 21; refine (HRW.out _).mono ?_; rintro e w5 ⟨rfl, hw5⟩))
      have hR5 := (‹_ ∧ RSt _ _ _ _ _ w5›).2
      clear ‹_ ∧ RSt _ _ _ _ _ w5› hw5
      have b2 := blk_cell hR5.box 2
      have e2 := blk_frozen hR5.box 2
      have HR5 := Lib.hid hR5
      clear hR5 hR c1
      go_wp2_with fail
      go_roundw
      case rel =>
        refine ⟨j + 1, by omega, by omega, by go_num, ?_⟩
        have h := HR5.out.set 2 (.int .i64 (j : Int))
        rw [algTo_hit hj1 (by omega) (HWJ.out.trans HM.out)]
        exact h
      case measure => simp [intOf]; omega
    · have hq : ((bsOf wj).toList == (bsOf x1).toList) = false := by rw [bsOf_list, bsOf_list]; simpa using hm
      have HM := Lib.hid hm
      clear hm
      go_wp2_with fail
      go_region_held3 (fun w' => w'.cell? ⟨L, 1, none⟩ = some (.string (bsOf x1)) ∧ RSt w ws L N #[.int .i64 1, .int .i64 0, .int .i64 (algTo x1 j), .int .i64 0, .slice none 0 0, .slice none 0 0, .slice none 0 0, .int .u64 0, .int .u64 0] w')
        (first | assumption | exact ⟨c1, hR.call (Below.refl _ _).drew⟩ | exact rs_call H1 (by assumption) (by assumption))
        (first | (go_at_call 21; refine (HRW.out _).mono ?_; rintro e w5 ⟨rfl, hw5⟩))
      have hR5 := (‹_ ∧ RSt _ _ _ _ _ w5›).2
      clear ‹_ ∧ RSt _ _ _ _ _ w5› hw5
      have HR5 := Lib.hid hR5
      clear hR5 hR c1
      go_wp2_with fail
      go_roundw
      case rel =>
        refine ⟨j + 1, by omega, by omega, by go_num, ?_⟩
        rw [algTo_miss hj1 (by rw [HWJ.out]; exact HM.out)]
        exact HR5.out
      case measure => simp [intOf]; omega
  · obtain rfl : j = 15 := by omega
    have h15 : algTo x1 15 = (u1 : Int) := HAE.out
    rw [h15] at hR
    clear h15
    have HR4 := Lib.hid hR
    clear hR hj1 hj hlt
    have b0 := blk_cell HR4.out.box 0
    have b1 := blk_cell HR4.out.box 1
    have b2 := blk_cell HR4.out.box 2
    have b3 := blk_cell HR4.out.box 3
    have b4 := blk_cell HR4.out.box 4
    have b5 := blk_cell HR4.out.box 5
    have b6 := blk_cell HR4.out.box 6
    have b7 := blk_cell HR4.out.box 7
    have b8 := blk_cell HR4.out.box 8
    have e0 := blk_frozen HR4.out.box 0
    have e1 := blk_frozen HR4.out.box 1
    have e2 := blk_frozen HR4.out.box 2
    have e3 := blk_frozen HR4.out.box 3
    have e4 := blk_frozen HR4.out.box 4
    have e5 := blk_frozen HR4.out.box 5
    have e6 := blk_frozen HR4.out.box 6
    have e7 := blk_frozen HR4.out.box 7
    have e8 := blk_frozen HR4.out.box 8
    have c1 := HR4.out.words 1 x1 H1.out
    have c2 := HR4.out.words 2 x2 H2.out
    have c3 := HR4.out.words 3 x3 H3.out
    go_wp2_with fail
    clear b0 b1 b2 b3 b4 b5 b6 b7 b8 e0 e1 e2 e3 e4 e5 e6 e7 e8 c1 c2 c3
    refine (rget_any (bsOf x2) s2 _).mono ?_
    rintro e w5 ⟨v2, rfl, hrow2, hb5⟩
    rw [bsOf_data] at hrow2 ⊢
    obtain ⟨A2, n2, cp2, rfl⟩ := hrow2.slice
    rw [Q2.out] at hrow2 ⊢
    have ROW2 := Lib.hid hrow2
    clear hrow2
    have hNB2 := blk_lt HR4.out.box
    have HR5 := Lib.hid (HR4.out.call hb5)
    clear hb5 HR4
    have b0 := blk_cell HR5.out.box 0
    have b1 := blk_cell HR5.out.box 1
    have b2 := blk_cell HR5.out.box 2
    have b3 := blk_cell HR5.out.box 3
    have b4 := blk_cell HR5.out.box 4
    have b5 := blk_cell HR5.out.box 5
    have b6 := blk_cell HR5.out.box 6
    have b7 := blk_cell HR5.out.box 7
    have b8 := blk_cell HR5.out.box 8
    have e0 := blk_frozen HR5.out.box 0
    have e1 := blk_frozen HR5.out.box 1
    have e2 := blk_frozen HR5.out.box 2
    have e3 := blk_frozen HR5.out.box 3
    have e4 := blk_frozen HR5.out.box 4
    have e5 := blk_frozen HR5.out.box 5
    have e6 := blk_frozen HR5.out.box 6
    have e7 := blk_frozen HR5.out.box 7
    have e8 := blk_frozen HR5.out.box 8
    have c1 := HR5.out.words 1 x1 H1.out
    have c2 := HR5.out.words 2 x2 H2.out
    have c3 := HR5.out.words 3 x3 H3.out
    go_wp2_with fail
    clear b0 b1 b2 b3 b4 b5 b6 b7 b8 e0 e1 e2 e3 e4 e5 e6 e7 e8 c1 c2 c3
    refine (rget_any (bsOf x3) s3 _).mono ?_
    rintro e w6 ⟨v3, rfl, hrow3, hb6⟩
    rw [bsOf_data] at hrow3 ⊢
    obtain ⟨A3, n3, cp3, rfl⟩ := hrow3.slice
    have ROW3 := Lib.hid hrow3
    clear hrow3
    have hNB3 := blk_lt HR5.out.box
    have ROW2b := Lib.hid (ROW2.out.callR hb6)
    have HR6 := Lib.hid (HR5.out.call hb6)
    clear hb6 HR5 ROW2
    have b0 := blk_cell HR6.out.box 0
    have b1 := blk_cell HR6.out.box 1
    have b2 := blk_cell HR6.out.box 2
    have b3 := blk_cell HR6.out.box 3
    have b4 := blk_cell HR6.out.box 4
    have b5 := blk_cell HR6.out.box 5
    have b6 := blk_cell HR6.out.box 6
    have b7 := blk_cell HR6.out.box 7
    have b8 := blk_cell HR6.out.box 8
    have e0 := blk_frozen HR6.out.box 0
    have e1 := blk_frozen HR6.out.box 1
    have e2 := blk_frozen HR6.out.box 2
    have e3 := blk_frozen HR6.out.box 3
    have e4 := blk_frozen HR6.out.box 4
    have e5 := blk_frozen HR6.out.box 5
    have e6 := blk_frozen HR6.out.box 6
    have e7 := blk_frozen HR6.out.box 7
    have e8 := blk_frozen HR6.out.box 8
    have c1 := HR6.out.words 1 x1 H1.out
    have c2 := HR6.out.words 2 x2 H2.out
    have c3 := HR6.out.words 3 x3 H3.out
    have hb0 := ((HR6.out.set 4 (.slice A2 n2 cp2)).set 5 (.slice A3 n3 cp3)).res
    have hbx := ((HR6.out.set 4 (.slice A2 n2 cp2)).set 5 (.slice A3 n3 cp3)).box
    have hbelF := ((HR6.out.set 4 (.slice A2 n2 cp2)).set 5 (.slice A3 n3 cp3)).below
    have HBF := Lib.hid hbelF
    clear hbelF
    go_wp2_with (refine wpList_store_row (by rfl) 34 (.tmp 2) (.tmp 158) (by rfl) _ _ (by rfl) (by rfl) _ _ hb0 (by kernel_rfl) (by rfl) (by simp [Value.oneCell']) ?_)
    clear b0 b1 b2 b3 b4 b5 b6 b7 b8 e0 e1 e2 e3 e4 e5 e6 e7 e8 c1 c2 c3
    refine bodyPost_ret (rparse_res _ _ w.heap.size _ _ rfl rfl rfl (setRow_heap _ _ _ _ _ _ hb0)) rfl ⟨?_, below_setRow HBF.out (Nat.le_refl _) _⟩
    rw [parseL_bad HK.out (.inr HPF.out)]
    exact rfl
set_option maxRecDepth 100000 in
set_option maxHeartbeats 8000000 in
theorem rp_0_2 (s : ByteArray) (hs : s.size ≤ 100000) (w : World) (ws : List (List UInt8)) (hws : splitS s.data.toList = ws) (hk : kindW (ws.headD []) = some 0) (hl : ws.length = 1 + fLen 0) (x1 : List UInt8) (h1 : ws[1]? = some x1) (x2 : List UInt8) (h2 : ws[2]? = some x2) (x3 : List UInt8) (h3 : ws[3]? = some x3) (u1 : Nat) (q1 : findN x1 = some u1) (u2 : List Int) (q2 : getN x2 = some u2) (q3 : getN x3 = none) (hpf : parseFs (fldsOf 0) ws.tail (Cl.of (((0 : Nat) : Int) + 1)) = none) :
    Calls Tryz.prog 7 #[.string s] w (ParsePost ws w) := by
  have HWL : ∀ x ∈ ws, x.length ≤ 100000 := fun x hx => by rw [← hws] at hx; have := split_len _ x hx; have e : s.data.toList.length = s.size := rfl; omega
  obtain ⟨f0, hf0, hh0⟩ : ∃ f0, ws[0]? = some f0 ∧ ws.headD [] = f0 := by
    cases ws with
    | nil => exact absurd hws (splitS_ne _)
    | cons a b => exact ⟨a, rfl, rfl⟩
  have HX := Lib.hid HWL
  have hl0 : (0 : Int) < (ws.length : Int) := by have := (List.getElem?_eq_some_iff.1 hf0).1; omega
  have HF := Lib.hid hf0
  have HH := Lib.hid hh0
  have HC := Lib.hid (rwords_any s hs (w.alloc (.cells (ClCells (Cl.of 0) (.slice none 0 0) (.slice none 0 0) (.slice none 0 0)) 34)))
  rw [hws] at HC
  have HS := Lib.hid hws
  clear HWL hf0 hh0 hws
  have hki : kindI f0 = 1 := by unfold kindI; rw [← HH.out, hk]; rfl
  have hle : ((ws.length : Int) != 4) = false := by rw [bne_eq_false_iff_eq]; have : fLen 0 = 3 := rfl; omega
  have HK := Lib.hid hk
  have HLB := Lib.hid hl
  have HPF := Lib.hid hpf
  have H1 := Lib.hid h1
  have s1 : (bsOf x1).size ≤ 100000 := by rw [bsOf_size]; exact HX.out _ (List.mem_of_getElem? h1)
  have l1 : (1 : Int) < (ws.length : Int) := by have := (List.getElem?_eq_some_iff.1 h1).1; omega
  have H2 := Lib.hid h2
  have s2 : (bsOf x2).size ≤ 100000 := by rw [bsOf_size]; exact HX.out _ (List.mem_of_getElem? h2)
  have l2 : (2 : Int) < (ws.length : Int) := by have := (List.getElem?_eq_some_iff.1 h2).1; omega
  have H3 := Lib.hid h3
  have s3 : (bsOf x3).size ≤ 100000 := by rw [bsOf_size]; exact HX.out _ (List.mem_of_getElem? h3)
  have l3 : (3 : Int) < (ws.length : Int) := by have := (List.getElem?_eq_some_iff.1 h3).1; omega
  have hae := algTo_end x1
  rw [q1] at hae
  have hae2 : natV (some u1) = (u1 : Int) := rfl
  rw [hae2] at hae
  have gp : (0 : Int) < (u1 : Int) := by have := (findN_pos q1).1; omega
  have gpd : decide ((0 : Int) < (u1 : Int)) = true := by rw [decide_eq_true_eq]; exact gp
  have HAE := Lib.hid hae
  have Q1 := Lib.hid q1
  have Q2 := Lib.hid q2
  have Q3 := Lib.hid q3
  clear hk hl hpf h1 h2 h3 hae hae2 q1 q2 q3
  go_enter Tryz.func7, Tryz.ntmps7
  go_wp2_with fail
  refine HC.out.mono ?_
  rintro e w1 ⟨⟨L, cap, hL0, rfl, hL, hwc⟩, hb1⟩
  have hres := blk_call hb1 (blk_new w _ _ rfl)
  have hbel : Below w.heap.size w w1 := below_call ((Below.refl _ _).alloc (Nat.le_refl _) _) hb1
  have c0 := hwc 0 f0 HF.out
  have HWC := Lib.hid hwc
  clear hwc hb1 HC hL0
  go_wp2_with fail
  refine (rkind_any (bsOf f0) w1).mono ?_
  rintro e w2 ⟨rfl, hb2⟩
  rw [bsOf_data]
  have hL2 : L < w2.heap.size := Nat.lt_of_lt_of_le hL hb2.size
  have hwc2 : ∀ j x, ws[j]? = some x → w2.cell? ⟨L, j, none⟩ = some (.string (bsOf x)) := fun j x hx => (hb2.cell (p := ⟨L, j, none⟩) hL).trans (HWC.out j x hx)
  have hres2 := blk_call hb2 hres
  have hbel2 := below_call hbel hb2
  clear c0 hb2 hres hbel hL HWC
  rw [hki]
  have hR := RSt.start (w := w) #[.int .i64 1, .int .i64 0, .int .i64 0, .int .i64 0, .slice none 0 0, .slice none 0 0, .slice none 0 0, .int .u64 0, .int .u64 0] hwc2 hL2 hres2 hbel2
  have HR := Lib.hid hR
  clear hwc2 hL2 hres2 hR hki
  have hN0 : w.heap.size ≤ w2.heap.size := hbel2.size
  clear hbel2
  have b0 := blk_cell HR.out.box 0
  go_wp2_with fail
  refine (rsize_any 0 (by omega) _).mono ?_
  rintro e w3 ⟨rfl, hb3⟩
  have hR3 := HR.out.call hb3
  have hfl : (1 : Int) + (fLen 0 : Int) = 4 := rfl
  rw [hfl]
  clear b0 hb3 hfl HR
  generalize w2.heap.size = N at hR3 hN0 ⊢
  have HR3 := Lib.hid hR3
  clear hR3
  have b0 := blk_cell HR3.out.box 0
  go_wp2_with fail
  clear b0
  go_loopw [7] (fun i wr => ∃ j : Nat, 1 ≤ j ∧ j ≤ 15 ∧ i = .int .i64 j ∧ RSt w ws L N #[.int .i64 1, .int .i64 0, .int .i64 (algTo x1 j), .int .i64 0, .slice none 0 0, .slice none 0 0, .slice none 0 0, .int .u64 0, .int .u64 0] wr) (fun i _ => 15 - (intOf i).toNat)
  case atStart => exact ⟨1, by omega, by omega, rfl, by rw [algTo_start]; exact HR3.out⟩
  case round =>
  obtain ⟨j, hj1, hj, rfl, hR⟩ := hrel
  by_cases hlt : j < 15
  · have hjd : decide ((j : Int) ≤ 14) = true := by rw [decide_eq_true_eq]; omega
    have c1 := hR.words 1 x1 H1.out
    obtain ⟨wj, hwj⟩ : ∃ wj, (entAt j).1 = wj := ⟨_, rfl⟩
    have HRW := Lib.hid (rword_any j hj1 (by omega))
    rw [hwj] at HRW
    have HWJ := Lib.hid hwj
    clear hwj
    by_cases hm : wj = x1
    · have hq : ((bsOf wj).toList == (bsOf x1).toList) = true := by rw [hm]; simp
      have HM := Lib.hid hm
      clear hm
      go_wp2_with fail
      go_region_held3 (fun w' => w'.cell? ⟨L, 1, none⟩ = some (.string (bsOf x1)) ∧ RSt w ws L N #[.int .i64 1, .int .i64 0, .int .i64 (algTo x1 j), .int .i64 0, .slice none 0 0, .slice none 0 0, .slice none 0 0, .int .u64 0, .int .u64 0] w')
        (first | assumption | exact ⟨c1, hR.call (Below.refl _ _).drew⟩ | exact rs_call H1 (by assumption) (by assumption))
        (first | (go_at_call 21; refine (HRW.out _).mono ?_; rintro e w5 ⟨rfl, hw5⟩))
      have hR5 := (‹_ ∧ RSt _ _ _ _ _ w5›).2
      clear ‹_ ∧ RSt _ _ _ _ _ w5› hw5
      have b2 := blk_cell hR5.box 2
      have e2 := blk_frozen hR5.box 2
      have HR5 := Lib.hid hR5
      clear hR5 hR c1
      go_wp2_with fail
      go_roundw
      case rel =>
        refine ⟨j + 1, by omega, by omega, by go_num, ?_⟩
        have h := HR5.out.set 2 (.int .i64 (j : Int))
        rw [algTo_hit hj1 (by omega) (HWJ.out.trans HM.out)]
        exact h
      case measure => simp [intOf]; omega
    · have hq : ((bsOf wj).toList == (bsOf x1).toList) = false := by rw [bsOf_list, bsOf_list]; simpa using hm
      have HM := Lib.hid hm
      clear hm
      go_wp2_with fail
      go_region_held3 (fun w' => w'.cell? ⟨L, 1, none⟩ = some (.string (bsOf x1)) ∧ RSt w ws L N #[.int .i64 1, .int .i64 0, .int .i64 (algTo x1 j), .int .i64 0, .slice none 0 0, .slice none 0 0, .slice none 0 0, .int .u64 0, .int .u64 0] w')
        (first | assumption | exact ⟨c1, hR.call (Below.refl _ _).drew⟩ | exact rs_call H1 (by assumption) (by assumption))
        (first | (go_at_call 21; refine (HRW.out _).mono ?_; rintro e w5 ⟨rfl, hw5⟩))
      have hR5 := (‹_ ∧ RSt _ _ _ _ _ w5›).2
      clear ‹_ ∧ RSt _ _ _ _ _ w5› hw5
      have HR5 := Lib.hid hR5
      clear hR5 hR c1
      go_wp2_with fail
      go_roundw
      case rel =>
        refine ⟨j + 1, by omega, by omega, by go_num, ?_⟩
        rw [algTo_miss hj1 (by rw [HWJ.out]; exact HM.out)]
        exact HR5.out
      case measure => simp [intOf]; omega
  · obtain rfl : j = 15 := by omega
    have h15 : algTo x1 15 = (u1 : Int) := HAE.out
    rw [h15] at hR
    clear h15
    have HR4 := Lib.hid hR
    clear hR hj1 hj hlt
    have b0 := blk_cell HR4.out.box 0
    have b1 := blk_cell HR4.out.box 1
    have b2 := blk_cell HR4.out.box 2
    have b3 := blk_cell HR4.out.box 3
    have b4 := blk_cell HR4.out.box 4
    have b5 := blk_cell HR4.out.box 5
    have b6 := blk_cell HR4.out.box 6
    have b7 := blk_cell HR4.out.box 7
    have b8 := blk_cell HR4.out.box 8
    have e0 := blk_frozen HR4.out.box 0
    have e1 := blk_frozen HR4.out.box 1
    have e2 := blk_frozen HR4.out.box 2
    have e3 := blk_frozen HR4.out.box 3
    have e4 := blk_frozen HR4.out.box 4
    have e5 := blk_frozen HR4.out.box 5
    have e6 := blk_frozen HR4.out.box 6
    have e7 := blk_frozen HR4.out.box 7
    have e8 := blk_frozen HR4.out.box 8
    have c1 := HR4.out.words 1 x1 H1.out
    have c2 := HR4.out.words 2 x2 H2.out
    have c3 := HR4.out.words 3 x3 H3.out
    go_wp2_with fail
    clear b0 b1 b2 b3 b4 b5 b6 b7 b8 e0 e1 e2 e3 e4 e5 e6 e7 e8 c1 c2 c3
    refine (rget_any (bsOf x2) s2 _).mono ?_
    rintro e w5 ⟨v2, rfl, hrow2, hb5⟩
    rw [bsOf_data] at hrow2 ⊢
    obtain ⟨A2, n2, cp2, rfl⟩ := hrow2.slice
    rw [Q2.out] at hrow2 ⊢
    have ROW2 := Lib.hid hrow2
    clear hrow2
    have hNB2 := blk_lt HR4.out.box
    have HR5 := Lib.hid (HR4.out.call hb5)
    clear hb5 HR4
    have b0 := blk_cell HR5.out.box 0
    have b1 := blk_cell HR5.out.box 1
    have b2 := blk_cell HR5.out.box 2
    have b3 := blk_cell HR5.out.box 3
    have b4 := blk_cell HR5.out.box 4
    have b5 := blk_cell HR5.out.box 5
    have b6 := blk_cell HR5.out.box 6
    have b7 := blk_cell HR5.out.box 7
    have b8 := blk_cell HR5.out.box 8
    have e0 := blk_frozen HR5.out.box 0
    have e1 := blk_frozen HR5.out.box 1
    have e2 := blk_frozen HR5.out.box 2
    have e3 := blk_frozen HR5.out.box 3
    have e4 := blk_frozen HR5.out.box 4
    have e5 := blk_frozen HR5.out.box 5
    have e6 := blk_frozen HR5.out.box 6
    have e7 := blk_frozen HR5.out.box 7
    have e8 := blk_frozen HR5.out.box 8
    have c1 := HR5.out.words 1 x1 H1.out
    have c2 := HR5.out.words 2 x2 H2.out
    have c3 := HR5.out.words 3 x3 H3.out
    go_wp2_with fail
    clear b0 b1 b2 b3 b4 b5 b6 b7 b8 e0 e1 e2 e3 e4 e5 e6 e7 e8 c1 c2 c3
    refine (rget_any (bsOf x3) s3 _).mono ?_
    rintro e w6 ⟨v3, rfl, hrow3, hb6⟩
    rw [bsOf_data] at hrow3 ⊢
    obtain ⟨A3, n3, cp3, rfl⟩ := hrow3.slice
    rw [Q3.out] at hrow3 ⊢
    have ROW3 := Lib.hid hrow3
    clear hrow3
    have hNB3 := blk_lt HR5.out.box
    have ROW2b := Lib.hid (ROW2.out.callR hb6)
    have HR6 := Lib.hid (HR5.out.call hb6)
    clear hb6 HR5 ROW2
    have b0 := blk_cell HR6.out.box 0
    have b1 := blk_cell HR6.out.box 1
    have b2 := blk_cell HR6.out.box 2
    have b3 := blk_cell HR6.out.box 3
    have b4 := blk_cell HR6.out.box 4
    have b5 := blk_cell HR6.out.box 5
    have b6 := blk_cell HR6.out.box 6
    have b7 := blk_cell HR6.out.box 7
    have b8 := blk_cell HR6.out.box 8
    have e0 := blk_frozen HR6.out.box 0
    have e1 := blk_frozen HR6.out.box 1
    have e2 := blk_frozen HR6.out.box 2
    have e3 := blk_frozen HR6.out.box 3
    have e4 := blk_frozen HR6.out.box 4
    have e5 := blk_frozen HR6.out.box 5
    have e6 := blk_frozen HR6.out.box 6
    have e7 := blk_frozen HR6.out.box 7
    have e8 := blk_frozen HR6.out.box 8
    have c1 := HR6.out.words 1 x1 H1.out
    have c2 := HR6.out.words 2 x2 H2.out
    have c3 := HR6.out.words 3 x3 H3.out
    have hb0 := ((HR6.out.set 4 (.slice A2 n2 cp2)).set 5 (.slice A3 n3 cp3)).res
    have hbx := ((HR6.out.set 4 (.slice A2 n2 cp2)).set 5 (.slice A3 n3 cp3)).box
    have hbelF := ((HR6.out.set 4 (.slice A2 n2 cp2)).set 5 (.slice A3 n3 cp3)).below
    have HBF := Lib.hid hbelF
    clear hbelF
    go_wp2_with (refine wpList_store_row (by rfl) 34 (.tmp 2) (.tmp 158) (by rfl) _ _ (by rfl) (by rfl) _ _ hb0 (by kernel_rfl) (by rfl) (by simp [Value.oneCell']) ?_)
    clear b0 b1 b2 b3 b4 b5 b6 b7 b8 e0 e1 e2 e3 e4 e5 e6 e7 e8 c1 c2 c3
    refine bodyPost_ret (rparse_res _ _ w.heap.size _ _ rfl rfl rfl (setRow_heap _ _ _ _ _ _ hb0)) rfl ⟨?_, below_setRow HBF.out (Nat.le_refl _) _⟩
    rw [parseL_bad HK.out (.inr HPF.out)]
    exact rfl
set_option maxRecDepth 100000 in
set_option maxHeartbeats 8000000 in
theorem rp_0_3 (s : ByteArray) (hs : s.size ≤ 100000) (w : World) (ws : List (List UInt8)) (hws : splitS s.data.toList = ws) (hk : kindW (ws.headD []) = some 0) (hl : ws.length = 1 + fLen 0) (x1 : List UInt8) (h1 : ws[1]? = some x1) (x2 : List UInt8) (h2 : ws[2]? = some x2) (x3 : List UInt8) (h3 : ws[3]? = some x3) (u1 : Nat) (q1 : findN x1 = some u1) (u2 : List Int) (q2 : getN x2 = some u2) (u3 : List Int) (q3 : getN x3 = some u3) (hpf : parseFs (fldsOf 0) ws.tail (Cl.of (((0 : Nat) : Int) + 1)) = some ⟨1, 0, (u1 : Int), 0, u2, u3, [], 0, 0⟩) :
    Calls Tryz.prog 7 #[.string s] w (ParsePost ws w) := by
  have HWL : ∀ x ∈ ws, x.length ≤ 100000 := fun x hx => by rw [← hws] at hx; have := split_len _ x hx; have e : s.data.toList.length = s.size := rfl; omega
  obtain ⟨f0, hf0, hh0⟩ : ∃ f0, ws[0]? = some f0 ∧ ws.headD [] = f0 := by
    cases ws with
    | nil => exact absurd hws (splitS_ne _)
    | cons a b => exact ⟨a, rfl, rfl⟩
  have HX := Lib.hid HWL
  have hl0 : (0 : Int) < (ws.length : Int) := by have := (List.getElem?_eq_some_iff.1 hf0).1; omega
  have HF := Lib.hid hf0
  have HH := Lib.hid hh0
  have HC := Lib.hid (rwords_any s hs (w.alloc (.cells (ClCells (Cl.of 0) (.slice none 0 0) (.slice none 0 0) (.slice none 0 0)) 34)))
  rw [hws] at HC
  have HS := Lib.hid hws
  clear HWL hf0 hh0 hws
  have hki : kindI f0 = 1 := by unfold kindI; rw [← HH.out, hk]; rfl
  have hle : ((ws.length : Int) != 4) = false := by rw [bne_eq_false_iff_eq]; have : fLen 0 = 3 := rfl; omega
  have HK := Lib.hid hk
  have HLB := Lib.hid hl
  have HPF := Lib.hid hpf
  have H1 := Lib.hid h1
  have s1 : (bsOf x1).size ≤ 100000 := by rw [bsOf_size]; exact HX.out _ (List.mem_of_getElem? h1)
  have l1 : (1 : Int) < (ws.length : Int) := by have := (List.getElem?_eq_some_iff.1 h1).1; omega
  have H2 := Lib.hid h2
  have s2 : (bsOf x2).size ≤ 100000 := by rw [bsOf_size]; exact HX.out _ (List.mem_of_getElem? h2)
  have l2 : (2 : Int) < (ws.length : Int) := by have := (List.getElem?_eq_some_iff.1 h2).1; omega
  have H3 := Lib.hid h3
  have s3 : (bsOf x3).size ≤ 100000 := by rw [bsOf_size]; exact HX.out _ (List.mem_of_getElem? h3)
  have l3 : (3 : Int) < (ws.length : Int) := by have := (List.getElem?_eq_some_iff.1 h3).1; omega
  have hae := algTo_end x1
  rw [q1] at hae
  have hae2 : natV (some u1) = (u1 : Int) := rfl
  rw [hae2] at hae
  have gp : (0 : Int) < (u1 : Int) := by have := (findN_pos q1).1; omega
  have gpd : decide ((0 : Int) < (u1 : Int)) = true := by rw [decide_eq_true_eq]; exact gp
  have HAE := Lib.hid hae
  have Q1 := Lib.hid q1
  have Q2 := Lib.hid q2
  have Q3 := Lib.hid q3
  clear hk hl hpf h1 h2 h3 hae hae2 q1 q2 q3
  go_enter Tryz.func7, Tryz.ntmps7
  go_wp2_with fail
  refine HC.out.mono ?_
  rintro e w1 ⟨⟨L, cap, hL0, rfl, hL, hwc⟩, hb1⟩
  have hres := blk_call hb1 (blk_new w _ _ rfl)
  have hbel : Below w.heap.size w w1 := below_call ((Below.refl _ _).alloc (Nat.le_refl _) _) hb1
  have c0 := hwc 0 f0 HF.out
  have HWC := Lib.hid hwc
  clear hwc hb1 HC hL0
  go_wp2_with fail
  refine (rkind_any (bsOf f0) w1).mono ?_
  rintro e w2 ⟨rfl, hb2⟩
  rw [bsOf_data]
  have hL2 : L < w2.heap.size := Nat.lt_of_lt_of_le hL hb2.size
  have hwc2 : ∀ j x, ws[j]? = some x → w2.cell? ⟨L, j, none⟩ = some (.string (bsOf x)) := fun j x hx => (hb2.cell (p := ⟨L, j, none⟩) hL).trans (HWC.out j x hx)
  have hres2 := blk_call hb2 hres
  have hbel2 := below_call hbel hb2
  clear c0 hb2 hres hbel hL HWC
  rw [hki]
  have hR := RSt.start (w := w) #[.int .i64 1, .int .i64 0, .int .i64 0, .int .i64 0, .slice none 0 0, .slice none 0 0, .slice none 0 0, .int .u64 0, .int .u64 0] hwc2 hL2 hres2 hbel2
  have HR := Lib.hid hR
  clear hwc2 hL2 hres2 hR hki
  have hN0 : w.heap.size ≤ w2.heap.size := hbel2.size
  clear hbel2
  have b0 := blk_cell HR.out.box 0
  go_wp2_with fail
  refine (rsize_any 0 (by omega) _).mono ?_
  rintro e w3 ⟨rfl, hb3⟩
  have hR3 := HR.out.call hb3
  have hfl : (1 : Int) + (fLen 0 : Int) = 4 := rfl
  rw [hfl]
  clear b0 hb3 hfl HR
  generalize w2.heap.size = N at hR3 hN0 ⊢
  have HR3 := Lib.hid hR3
  clear hR3
  have b0 := blk_cell HR3.out.box 0
  go_wp2_with fail
  clear b0
  go_loopw [7] (fun i wr => ∃ j : Nat, 1 ≤ j ∧ j ≤ 15 ∧ i = .int .i64 j ∧ RSt w ws L N #[.int .i64 1, .int .i64 0, .int .i64 (algTo x1 j), .int .i64 0, .slice none 0 0, .slice none 0 0, .slice none 0 0, .int .u64 0, .int .u64 0] wr) (fun i _ => 15 - (intOf i).toNat)
  case atStart => exact ⟨1, by omega, by omega, rfl, by rw [algTo_start]; exact HR3.out⟩
  case round =>
  obtain ⟨j, hj1, hj, rfl, hR⟩ := hrel
  by_cases hlt : j < 15
  · have hjd : decide ((j : Int) ≤ 14) = true := by rw [decide_eq_true_eq]; omega
    have c1 := hR.words 1 x1 H1.out
    obtain ⟨wj, hwj⟩ : ∃ wj, (entAt j).1 = wj := ⟨_, rfl⟩
    have HRW := Lib.hid (rword_any j hj1 (by omega))
    rw [hwj] at HRW
    have HWJ := Lib.hid hwj
    clear hwj
    by_cases hm : wj = x1
    · have hq : ((bsOf wj).toList == (bsOf x1).toList) = true := by rw [hm]; simp
      have HM := Lib.hid hm
      clear hm
      go_wp2_with fail
      go_region_held3 (fun w' => w'.cell? ⟨L, 1, none⟩ = some (.string (bsOf x1)) ∧ RSt w ws L N #[.int .i64 1, .int .i64 0, .int .i64 (algTo x1 j), .int .i64 0, .slice none 0 0, .slice none 0 0, .slice none 0 0, .int .u64 0, .int .u64 0] w')
        (first | assumption | exact ⟨c1, hR.call (Below.refl _ _).drew⟩ | exact rs_call H1 (by assumption) (by assumption))
        (first | (go_at_call 21; refine (HRW.out _).mono ?_; rintro e w5 ⟨rfl, hw5⟩))
      have hR5 := (‹_ ∧ RSt _ _ _ _ _ w5›).2
      clear ‹_ ∧ RSt _ _ _ _ _ w5› hw5
      have b2 := blk_cell hR5.box 2
      have e2 := blk_frozen hR5.box 2
      have HR5 := Lib.hid hR5
      clear hR5 hR c1
      go_wp2_with fail
      go_roundw
      case rel =>
        refine ⟨j + 1, by omega, by omega, by go_num, ?_⟩
        have h := HR5.out.set 2 (.int .i64 (j : Int))
        rw [algTo_hit hj1 (by omega) (HWJ.out.trans HM.out)]
        exact h
      case measure => simp [intOf]; omega
    · have hq : ((bsOf wj).toList == (bsOf x1).toList) = false := by rw [bsOf_list, bsOf_list]; simpa using hm
      have HM := Lib.hid hm
      clear hm
      go_wp2_with fail
      go_region_held3 (fun w' => w'.cell? ⟨L, 1, none⟩ = some (.string (bsOf x1)) ∧ RSt w ws L N #[.int .i64 1, .int .i64 0, .int .i64 (algTo x1 j), .int .i64 0, .slice none 0 0, .slice none 0 0, .slice none 0 0, .int .u64 0, .int .u64 0] w')
        (first | assumption | exact ⟨c1, hR.call (Below.refl _ _).drew⟩ | exact rs_call H1 (by assumption) (by assumption))
        (first | (go_at_call 21; refine (HRW.out _).mono ?_; rintro e w5 ⟨rfl, hw5⟩))
      have hR5 := (‹_ ∧ RSt _ _ _ _ _ w5›).2
      clear ‹_ ∧ RSt _ _ _ _ _ w5› hw5
      have HR5 := Lib.hid hR5
      clear hR5 hR c1
      go_wp2_with fail
      go_roundw
      case rel =>
        refine ⟨j + 1, by omega, by omega, by go_num, ?_⟩
        rw [algTo_miss hj1 (by rw [HWJ.out]; exact HM.out)]
        exact HR5.out
      case measure => simp [intOf]; omega
  · obtain rfl : j = 15 := by omega
    have h15 : algTo x1 15 = (u1 : Int) := HAE.out
    rw [h15] at hR
    clear h15
    have HR4 := Lib.hid hR
    clear hR hj1 hj hlt
    have b0 := blk_cell HR4.out.box 0
    have b1 := blk_cell HR4.out.box 1
    have b2 := blk_cell HR4.out.box 2
    have b3 := blk_cell HR4.out.box 3
    have b4 := blk_cell HR4.out.box 4
    have b5 := blk_cell HR4.out.box 5
    have b6 := blk_cell HR4.out.box 6
    have b7 := blk_cell HR4.out.box 7
    have b8 := blk_cell HR4.out.box 8
    have e0 := blk_frozen HR4.out.box 0
    have e1 := blk_frozen HR4.out.box 1
    have e2 := blk_frozen HR4.out.box 2
    have e3 := blk_frozen HR4.out.box 3
    have e4 := blk_frozen HR4.out.box 4
    have e5 := blk_frozen HR4.out.box 5
    have e6 := blk_frozen HR4.out.box 6
    have e7 := blk_frozen HR4.out.box 7
    have e8 := blk_frozen HR4.out.box 8
    have c1 := HR4.out.words 1 x1 H1.out
    have c2 := HR4.out.words 2 x2 H2.out
    have c3 := HR4.out.words 3 x3 H3.out
    go_wp2_with fail
    clear b0 b1 b2 b3 b4 b5 b6 b7 b8 e0 e1 e2 e3 e4 e5 e6 e7 e8 c1 c2 c3
    refine (rget_any (bsOf x2) s2 _).mono ?_
    rintro e w5 ⟨v2, rfl, hrow2, hb5⟩
    rw [bsOf_data] at hrow2 ⊢
    obtain ⟨A2, n2, cp2, rfl⟩ := hrow2.slice
    rw [Q2.out] at hrow2 ⊢
    have ROW2 := Lib.hid hrow2
    clear hrow2
    have hNB2 := blk_lt HR4.out.box
    have HR5 := Lib.hid (HR4.out.call hb5)
    clear hb5 HR4
    have b0 := blk_cell HR5.out.box 0
    have b1 := blk_cell HR5.out.box 1
    have b2 := blk_cell HR5.out.box 2
    have b3 := blk_cell HR5.out.box 3
    have b4 := blk_cell HR5.out.box 4
    have b5 := blk_cell HR5.out.box 5
    have b6 := blk_cell HR5.out.box 6
    have b7 := blk_cell HR5.out.box 7
    have b8 := blk_cell HR5.out.box 8
    have e0 := blk_frozen HR5.out.box 0
    have e1 := blk_frozen HR5.out.box 1
    have e2 := blk_frozen HR5.out.box 2
    have e3 := blk_frozen HR5.out.box 3
    have e4 := blk_frozen HR5.out.box 4
    have e5 := blk_frozen HR5.out.box 5
    have e6 := blk_frozen HR5.out.box 6
    have e7 := blk_frozen HR5.out.box 7
    have e8 := blk_frozen HR5.out.box 8
    have c1 := HR5.out.words 1 x1 H1.out
    have c2 := HR5.out.words 2 x2 H2.out
    have c3 := HR5.out.words 3 x3 H3.out
    go_wp2_with fail
    clear b0 b1 b2 b3 b4 b5 b6 b7 b8 e0 e1 e2 e3 e4 e5 e6 e7 e8 c1 c2 c3
    refine (rget_any (bsOf x3) s3 _).mono ?_
    rintro e w6 ⟨v3, rfl, hrow3, hb6⟩
    rw [bsOf_data] at hrow3 ⊢
    obtain ⟨A3, n3, cp3, rfl⟩ := hrow3.slice
    rw [Q3.out] at hrow3 ⊢
    have ROW3 := Lib.hid hrow3
    clear hrow3
    have hNB3 := blk_lt HR5.out.box
    have ROW2b := Lib.hid (ROW2.out.callR hb6)
    have HR6 := Lib.hid (HR5.out.call hb6)
    clear hb6 HR5 ROW2
    have b0 := blk_cell HR6.out.box 0
    have b1 := blk_cell HR6.out.box 1
    have b2 := blk_cell HR6.out.box 2
    have b3 := blk_cell HR6.out.box 3
    have b4 := blk_cell HR6.out.box 4
    have b5 := blk_cell HR6.out.box 5
    have b6 := blk_cell HR6.out.box 6
    have b7 := blk_cell HR6.out.box 7
    have b8 := blk_cell HR6.out.box 8
    have e0 := blk_frozen HR6.out.box 0
    have e1 := blk_frozen HR6.out.box 1
    have e2 := blk_frozen HR6.out.box 2
    have e3 := blk_frozen HR6.out.box 3
    have e4 := blk_frozen HR6.out.box 4
    have e5 := blk_frozen HR6.out.box 5
    have e6 := blk_frozen HR6.out.box 6
    have e7 := blk_frozen HR6.out.box 7
    have e8 := blk_frozen HR6.out.box 8
    have c1 := HR6.out.words 1 x1 H1.out
    have c2 := HR6.out.words 2 x2 H2.out
    have c3 := HR6.out.words 3 x3 H3.out
    have hb0 := ((HR6.out.set 4 (.slice A2 n2 cp2)).set 5 (.slice A3 n3 cp3)).res
    have hbx := ((HR6.out.set 4 (.slice A2 n2 cp2)).set 5 (.slice A3 n3 cp3)).box
    have hbelF := ((HR6.out.set 4 (.slice A2 n2 cp2)).set 5 (.slice A3 n3 cp3)).below
    have HBF := Lib.hid hbelF
    clear hbelF
    simp only [List.setIfInBounds_toArray, List.set_cons_zero, List.set_cons_succ] at hbx
    go_wp2_with (first | (refine wpList_load_row (by rfl) 34 (.tmp 5) (by rfl) _ (by rfl) _ _ _ _ hbx Tryz.underlying34 rfl (by kernel_rfl) ?_) | (refine wpList_store_row (by rfl) 34 (.tmp 2) (.tmp 159) (by rfl) _ _ (by rfl) (by rfl) _ _ hb0 (by kernel_rfl) (by rfl) (by simp [Value.oneCell']) ?_))
    clear b0 b1 b2 b3 b4 b5 b6 b7 b8 e0 e1 e2 e3 e4 e5 e6 e7 e8 c1 c2 c3
    have hbt := setRow_heap _ _ _ #[.int .i64 1, .int .i64 0, .int .i64 (u1 : Int), .int .i64 0, .slice A2 n2 cp2, .slice A3 n3 cp3, .slice none 0 0, .int .u64 0, .int .u64 0] _ _ hb0
    refine bodyPost_ret (rparse_res _ _ w.heap.size _ _ rfl rfl rfl hbt) rfl ⟨?_, below_setRow HBF.out (Nat.le_refl _) _⟩
    rw [parseL_good HK.out HLB.out HPF.out]
    exact ⟨0, _, rfl, _, _, _, rfl, Row.fin2 ROW2b.out hN0 hNB2, Row.fin2 ROW3.out hN0 hNB3, Row.nil⟩
end Go.Proofs.YtgfncnnidacllaaGreatDoor
