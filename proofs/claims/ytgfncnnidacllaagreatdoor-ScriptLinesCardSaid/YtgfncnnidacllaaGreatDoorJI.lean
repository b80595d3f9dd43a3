/- Lemmas for the claim: script.Parse: a line's call. -/
import Derived.Test.YtgfncnnidacllaaGreatDoorJH
import Derived.StillTailTactics
import Derived.IntWalk
set_option linter.unusedVariables false
set_option linter.unusedSimpArgs false
namespace Go.Proofs.YtgfncnnidacllaaGreatDoor
open Go.RowKit Go.Shelf Go.Proofs.YtgfncnnidacllaaGreatDoorW.PrintWords Go.Proofs.YtgfncnnidacllaaGreatDoorW.PrintLast Go.Proofs.YtgfncnnidacllaaGreatDoorW.PrintMore
def bsOf (l : List UInt8) : ByteArray := ⟨l.toArray⟩
theorem bsOf_list (l : List UInt8) : (bsOf l).toList = l := by rw [ba_toList]; simp [bsOf]
theorem bsOf_size (l : List UInt8) : (bsOf l).size = l.length := by simp [bsOf, ByteArray.size]
theorem bsOf_data (l : List UInt8) : (bsOf l).data.toList = l := by simp [bsOf]
theorem bsOf_inj {a b : List UInt8} (h : bsOf a = bsOf b) : a = b := by rw [← bsOf_data a, h, bsOf_data]
theorem bs_back (s : ByteArray) : bsOf s.data.toList = s := by obtain ⟨⟨l⟩⟩ := s; rfl
theorem wordsB_eq (s : ByteArray) : wordsB s = (splitS s.data.toList).map bsOf := by
  have h := Lib.splitB_data ⟨#[32]⟩ 0 (Lib.countB s ⟨#[32]⟩) s
  have hc : Lib.countB s ⟨#[32]⟩ = s.data.toList.count 32 := count_eq _ _ (Nat.le_refl _)
  have e32 : (⟨#[32]⟩ : ByteArray).data.toList = [32] := rfl
  rw [e32, hc, splitK_eq _ _ rfl] at h
  rw [← h, List.map_map]
  unfold wordsB
  rw [hc]
  conv => lhs; rw [← List.map_id (Lib.splitB _ _ _ _)]
  apply List.map_congr_left
  intro b _
  exact (bs_back b).symm
def WordsAt (L : Nat) (ws : List (List UInt8)) (w : World) : Prop := w.heap[L]? = some (.cells ((ws.map bsOf).map Value.string).toArray 9 (0, 0))
theorem WordsAt.cell {L : Nat} {ws : List (List UInt8)} {w : World} (h : WordsAt L ws w) (j : Nat) (x : List UInt8) (hj : ws[j]? = some x) : w.cell? ⟨L, j, none⟩ = some (.string (bsOf x)) := by
  rw [blk_cell h j]; simp [hj]
structure PSt (w : World) (ws : List (List UInt8)) (L B : Nat) (W : World) : Prop where
  res : W.heap[w.heap.size]? = some (.cells (ClCells (Cl.of 0) (.slice none 0 0) (.slice none 0 0) (.slice none 0 0)) 30 (0, 0))
  words : WordsAt L ws W
  shapes : ShapesAt B W
  vars : VarsAt W
  below : Below w.heap.size w W
theorem PSt.call {w : World} {ws : List (List UInt8)} {L B : Nat} {W W1 : World} (h : PSt w ws L B W) (hb : Below W.heap.size W W1) : PSt w ws L B W1 :=
  ⟨blk_call hb h.res, blk_call hb h.words, h.shapes.call hb, h.vars.call hb, below_call h.below hb⟩
def wK (k : Nat) : ByteArray := bsOf (shW.getD k [])
def sV (B k : Nat) : Array Value := #[.string (wK k), .slice (some ⟨B + k, 0, none⟩) (fLen k) (fLen k)]
theorem idx_at (B k : Nat) (hk : k < 10) (w : World) : (Instr.index 50 (.agg (shCells B)) (.int .i64 (k : Int))).run Tryz.prog w = .ok (.agg #[.string (wK k), .slice (some ⟨B + k, 0, none⟩) (fLen k) (fLen k)]) w := by
  have h : k = 0 ∨ k = 1 ∨ k = 2 ∨ k = 3 ∨ k = 4 ∨ k = 5 ∨ k = 6 ∨ k = 7 ∨ k = 8 ∨ k = 9 := by omega
  rcases h with rfl | rfl | rfl | rfl | rfl | rfl | rfl | rfl | rfl | rfl
  all_goals (show _ = _; kernel_rfl)
structure QSt (w : World) (ws : List (List UInt8)) (L B k Sb : Nat) (W : World) : Prop where
  p : PSt w ws L B W
  s : W.heap[Sb]? = some (.cells #[.string (wK k), .slice (some ⟨B + k, 0, none⟩) (fLen k) (fLen k)] 49 (0, 0))
  lt : w.heap.size < Sb
theorem fLen_le (k : Nat) (hk : k < 10) : fLen k ≤ 3 := by
  match k, hk with
  | 0, _ | 1, _ | 2, _ | 3, _ | 4, _ | 5, _ | 6, _ | 7, _ | 8, _ | 9, _ => decide
theorem QSt.call {w : World} {ws : List (List UInt8)} {L B k Sb N : Nat} {W W1 : World} (h : QSt w ws L B k Sb W) (hN : W.heap.size = N) (hb : Below N W W1) : QSt w ws L B k Sb W1 := by
  subst hN; exact ⟨h.p.call hb, blk_call hb h.s, h.lt⟩
theorem get_enters (f : Fld) : ∀ args w, (callFunc f.get args).run Tryz.prog w = .ok (.enter f.get args) w := by
  cases f
  · exact enters_of Tryz.func37 (by kernel_rfl) rfl
  · exact enters_of Tryz.func39 (by kernel_rfl) rfl
  · exact enters_of Tryz.func41 (by kernel_rfl) rfl
  · exact enters_of Tryz.func35 (by kernel_rfl) rfl
  · exact enters_of Tryz.func33 (by kernel_rfl) rfl
  · exact enters_of Tryz.func43 (by kernel_rfl) rfl
  · exact enters_of Tryz.func45 (by kernel_rfl) rfl
  · exact enters_of Tryz.func47 (by kernel_rfl) rfl
theorem Below.ofKept {N : Nat} {W w w' : World} (h : Below N W w) (hk : KeptBut N w w') (hN : N ≤ w.heap.size) : Below N W w' :=
  h.trans ⟨hk.os, hk.tape, hk.output, hk.size, fun k hlt => hk.block k (by omega) (by omega)⟩
theorem Row.setRow {w : World} {B : Nat} {v : Value} {xs : List Int} (h : Row w (B + 1) v xs) (cs : Array Value) : Row (w.setRow B cs) B v xs :=
  World.ownsRow.mono (own_move h (fun k e => setRow_other w B k cs (by have := own_base h k e; omega))) (by omega)
theorem Rep.setRow {w : World} {B N : Nat} {cells : Array Value} {c : Cl} (h : Rep w (B + 1) N cells c) (cs : Array Value) : Rep (w.setRow B cs) B N cells c := by
  obtain ⟨v4, v5, v6, e, ⟨a1, a2⟩, ⟨b1, b2⟩, ⟨c1, c2⟩⟩ := h
  exact ⟨v4, v5, v6, e, ⟨a1.setRow cs, a2⟩, ⟨b1.setRow cs, b2⟩, ⟨c1.setRow cs, c2⟩⟩
def ParsePost (ws : List (List UInt8)) (w : World) (e : Ending) (w' : World) : Prop :=
  (match parseL ws with
   | .inl c => ∃ N cells, e = .returned (.tuple #[.agg cells, .int .i64 0]) ∧ Rep w' w.heap.size N cells c
   | .inr n => e = .returned (.tuple #[.agg (ClCells (Cl.of 0) (.slice none 0 0) (.slice none 0 0) (.slice none 0 0)), .int .i64 n])) ∧ Below w.heap.size w w'
theorem parse_res (tmps : Array Value) (W : World) (N : Nat) (cells : Array Value) (v : Value) (h2 : tmps.getD 2 undef = .pointer (some ⟨N, 0, none⟩)) (h3 : tmps.getD 3 undef = v) (h9 : cells.size = 9) (hb : W.heap[N]? = some (.cells cells 30 (0, 0))) :
    (results Tryz.f6 tmps).run Tryz.prog W = .ok (.tuple #[.agg cells, v]) W := by
  rw [← h3]
  exact results_cell_tmp (p := 2) (q := 3) (ty := 30) rfl tmps W N 30 cells (0, 0) _ h2 hb Tryz.underlying30 rfl (by rw [h9]; kernel_rfl)
theorem parseL_bad {ws : List (List UInt8)} {k : Nat} (hk : kindW (ws.headD []) = some k) (h : ws.length ≠ 1 + fLen k ∨ parseFs (fldsOf k) ws.tail (Cl.of ((k : Int) + 1)) = none) : parseL ws = .inr 8 := by
  unfold parseL
  rw [hk]
  simp only []
  split
  · rename_i he
    rcases h with h | h
    · rw [fLen_eq] at h; exact absurd he h
    · rw [h]
  · rfl
theorem parseL_good {ws : List (List UInt8)} {k : Nat} {c : Cl} (hk : kindW (ws.headD []) = some k) (hl : ws.length = 1 + fLen k) (h : parseFs (fldsOf k) ws.tail (Cl.of ((k : Int) + 1)) = some c) : parseL ws = .inl c := by
  unfold parseL
  rw [hk]
  simp only []
  rw [← fLen_eq, if_pos hl, h]
theorem Row.slice {w : World} {B : Nat} {v : Value} {xs : List Int} (h : Row w B v xs) : ∃ a n c, v = .slice a n c := by
  rcases h.2 with ⟨hv, _⟩ | ⟨g, cap, cur, hv, _⟩
  · exact ⟨_, _, _, hv⟩
  · exact ⟨_, _, _, hv⟩
theorem parse_step {fs : List Fld} {ws : List (List UInt8)} {jn : Nat} {f : Fld} {x : List UInt8} {c : Cl} (hf : fs[jn]? = some f) (hx : ws[1 + jn]? = some x) (hok : f.ok x = true) :
    parseFs (fs.drop jn) (ws.drop (1 + jn)) c = parseFs (fs.drop (jn + 1)) (ws.drop (1 + (jn + 1))) (f.set x c) := by
  obtain ⟨h1, rfl⟩ := List.getElem?_eq_some_iff.1 hf
  obtain ⟨h2, rfl⟩ := List.getElem?_eq_some_iff.1 hx
  rw [List.drop_eq_getElem_cons h1, List.drop_eq_getElem_cons h2]
  conv => lhs; unfold parseFs
  rw [if_pos hok]
  rfl
theorem parse_fail {fs : List Fld} {ws : List (List UInt8)} {jn : Nat} {f : Fld} {x : List UInt8} {c : Cl} (hf : fs[jn]? = some f) (hx : ws[1 + jn]? = some x) (hok : f.ok x = false) :
    parseFs (fs.drop jn) (ws.drop (1 + jn)) c = none := by
  obtain ⟨h1, rfl⟩ := List.getElem?_eq_some_iff.1 hf
  obtain ⟨h2, rfl⟩ := List.getElem?_eq_some_iff.1 hx
  rw [List.drop_eq_getElem_cons h1, List.drop_eq_getElem_cons h2]
  conv => lhs; unfold parseFs
  rw [if_neg (by rw [hok]; simp)]
theorem kindW_some {k : Nat} {f0 : List UInt8} (hk : k < 10) (hn : ∀ j, j < k → shW.getD j [] ≠ f0) (h : shW.getD k [] = f0) : kindW f0 = some k := by
  unfold kindW
  rw [List.find?_eq_some_iff_append]
  refine ⟨by simpa using h, List.range k, (List.range' (k + 1) (9 - k)), ?_, fun a ha => ?_⟩
  · have e : List.range 10 = List.range' 0 10 := rfl
    have h1 := List.range'_append_1 (s := 0) (m := k) (n := 10 - k)
    rw [show k + (10 - k) = 10 by omega, Nat.zero_add] at h1
    rw [e, ← h1, List.range_eq_range', show 10 - k = (9 - k) + 1 by omega, List.range'_succ]
  · have := hn a (List.mem_range.1 ha)
    simpa using this
theorem kindW_none {f0 : List UInt8} (hn : ∀ j, j < 10 → shW.getD j [] ≠ f0) : kindW f0 = none := by
  unfold kindW
  rw [List.find?_eq_none]
  intro a ha
  have := hn a (List.mem_range.1 ha)
  simpa using this
set_option maxRecDepth 100000 in
set_option maxHeartbeats 4000000 in
theorem parse_any (s : ByteArray) (hs : s.size ≤ 100000) (w : World) (hV : VarsAt w) :
    Calls Tryz.prog 6 #[.string s] w (ParsePost (splitS s.data.toList) w) := by
  obtain ⟨ws, hws⟩ : ∃ ws, splitS s.data.toList = ws := ⟨_, rfl⟩
  obtain ⟨f0, hf0, hh0⟩ : ∃ f0, ws[0]? = some f0 ∧ ws.headD [] = f0 := by
    cases ws with
    | nil => exact absurd hws (splitS_ne _)
    | cons a b => exact ⟨a, rfl, rfl⟩
  rw [hws]
  have HW := Lib.hid (wordsB_eq s)
  rw [hws] at HW
  have HX : Hid (∀ x ∈ ws, x.length ≤ 100000) := Lib.hid (fun x hx => by rw [← hws] at hx; have := split_len _ x hx; have e : s.data.toList.length = s.size := rfl; omega)
  have HV := Lib.hid hV
  have HWS := Lib.hid hws
  have HF := Lib.hid hf0
  have HH := Lib.hid hh0
  clear hV hws hf0 hh0
  go_enter Tryz.func6, Tryz.ntmps6
  go_wp2_with fail
  refine (words_any s (by omega) _ (HV.out.call (by repeat' (first | (with_reducible exact Below.refl _ _) | (with_reducible assumption) | (with_reducible refine below_drewN ?_ _) | (with_reducible refine Below.drew ?_) | (with_reducible refine Below.alloc ?_ ?_ _) | (with_reducible refine Below.setCell ?_ ?_ _) | go_size)))).mono ?_
  rintro e w1 ⟨rfl, hw1, hb1⟩
  rw [HW.out] at hw1 ⊢
  simp only [World.size_alloc, List.length_map] at hw1 ⊢
  have hW1 : WordsAt (w.heap.size + 1) ws w1 := hw1
  have hP1 : PSt w ws (w.heap.size + 1) 0 w1 ∨ True := .inr trivial
  have hres1 := blk_call hb1 (blk_new w _ _ rfl)
  have hbel1 : Below w.heap.size w w1 := below_call (by repeat' (first | (with_reducible exact Below.refl _ _) | (with_reducible assumption) | (with_reducible refine below_drewN ?_ _) | (with_reducible refine Below.drew ?_) | (with_reducible refine Below.alloc ?_ ?_ _) | (with_reducible refine Below.setCell ?_ ?_ _) | go_size)) hb1
  clear hb1 hw1 hP1
  go_wp2_with fail
  refine (shapes_any w1).mono ?_
  rintro e w2 ⟨rfl, hS, hb2⟩
  have hP : PSt w ws (w.heap.size + 1) (w1.heap.size + 3) w2 := ⟨blk_call hb2 hres1, blk_call hb2 hW1, hS, (HV.out.call hbel1).call hb2, below_call hbel1 hb2⟩
  clear hS hb2 hres1 hbel1 hW1
  generalize w1.heap.size + 3 = B at hP ⊢
  clear HV HWS HW
  obtain ⟨L, hL⟩ : ∃ L, w.heap.size + 1 = L := ⟨_, rfl⟩
  rw [hL] at hP ⊢
  have hl0 : 0 < ws.length := (List.getElem?_eq_some_iff.1 HF.out).1
  have HL := Lib.hid hL
  clear hL
  go_wp2_with fail
  go_loopw [13] (fun i wr => ∃ k : Nat, k ≤ 10 ∧ i = .int .i64 k ∧ (∀ j, j < k → shW.getD j [] ≠ f0) ∧ PSt w ws L B wr) (fun i _ => 10 - (intOf i).toNat)
  case atStart => exact ⟨0, by omega, rfl, fun j hj => absurd hj (by omega), hP⟩
  case round =>
    clear hP w2
    obtain ⟨k, hk, rfl, hne, hP⟩ := hrel
    have HN := Lib.hid hne
    clear hne
    by_cases hlt : k < 10
    · have HI := idx_at B k hlt
      have hkd : decide ((k : Int) < 10) = true := by rw [decide_eq_true_eq]; omega
      have hc0 := hP.words.cell 0 f0 HF.out
      have hLs : L < wr.heap.size := blk_lt hP.words
      by_cases hm : shW.getD k [] = f0
      · have hq : (wK k).toList == (bsOf f0).toList := by unfold wK; rw [hm]; simp
        have hq' : ((wK k).toList != (bsOf f0).toList) = false := by unfold wK; rw [hm]; simp
        have HM := Lib.hid hm
        clear hm
        go_wp2_with fail
        go_quiet (fail)
        have hQ : QSt w ws L B k wr.heap.size ((wr.alloc (.cells #[.string (wK k), .slice (some ⟨B + k, 0, none⟩) (fLen k) (fLen k)] 49)).drewN nq) :=
          ⟨hP.call (pw_below_drewN ((Below.refl _ _).alloc (Nat.le_refl _) _) _), blk_new _ _ _ rfl, blk_lt hP.res⟩
        generalize (wr.alloc (.cells #[.string (wK k), .slice (some ⟨B + k, 0, none⟩) (fLen k) (fLen k)] 49)).drewN nq = W at hQ ⊢
        generalize wr.heap.size = Sb at hQ ⊢
        clear hP hc0 hLs HI hq hq' hkd
        have hs1 := blk_cell hQ.s 1
        have hs1l := blk_lt hQ.s
        have hfl : fLen k ≤ 3 := fLen_le k hlt
        by_cases hlen : ws.length = 1 + fLen k
        · have he1 : ((ws.length : Int) == 1 + (fLen k : Int)) = true := by rw [beq_iff_eq]; omega
          have HE := Lib.hid hlen
          clear hlen
          go_wp2_with fail
          obtain ⟨N, hN⟩ : ∃ N, W.heap.size = N := ⟨_, rfl⟩
          have hr0 := blk_new W (.cells (ClCells (Cl.of ((k : Int) + 1)) (.slice none 0 0) (.slice none 0 0) (.slice none 0 0)) 30 (0, 0)) N hN.symm
          have hbe0 : Below N W (W.alloc (.cells (ClCells (Cl.of ((k : Int) + 1)) (.slice none 0 0) (.slice none 0 0) (.slice none 0 0)) 30 (0, 0))) := (Below.refl _ _).alloc (by omega) _
          have hrep0 := Rep.start (W.alloc (.cells (ClCells (Cl.of ((k : Int) + 1)) (.slice none 0 0) (.slice none 0 0) (.slice none 0 0)) 30 (0, 0))) (w.heap.size + 1) N ((k : Int) + 1)
          have HQ := Lib.hid hQ
          have HNN := Lib.hid hN
          rw [hN]
          clear hQ hs1 hs1l hN
          go_loopw [8, 9] (fun okv j wr' => ∃ (jn : Nat) (b : Bool), j = .int .i64 jn ∧ okv = .bool b ∧ jn ≤ fLen k ∧ Below N W wr' ∧
            (b = true → ∃ cells cl, wr'.heap[N]? = some (.cells cells 30 (0, 0)) ∧ Rep wr' (w.heap.size + 1) N cells cl ∧ parseFs ((fldsOf k).drop jn) (ws.drop (1 + jn)) cl = parseFs (fldsOf k) ws.tail (Cl.of ((k : Int) + 1))) ∧
            (b = false → parseFs (fldsOf k) ws.tail (Cl.of ((k : Int) + 1)) = none)) (fun _ j _ => (fLen k + 1) - (intOf j).toNat)
          case atStart => exact ⟨0, true, rfl, rfl, by omega, hbe0, fun _ => ⟨_, _, hr0, hrep0, by simp⟩, fun h => by cases h⟩
          case round =>
            obtain ⟨jn, b, rfl, rfl, hj, hbe, ht, hf⟩ := hrel
            have hQw : QSt w ws L B k Sb wr := HQ.out.call HNN.out hbe
            have hs1 := blk_cell hQw.s 1
            have hfl' : (fLen k : Int) ≤ 3 := by omega
            cases b with
            | false =>
              have hn := Lib.hid (hf rfl)
              clear hf ht
              have hb0 := hQw.p.res
              have hbel := hQw.p.below
              clear hQw
              go_wp2_with (refine wpList_store_row (by rfl) 30 (.tmp 2) (.tmp 57) (by rfl) _ _ (by rfl) (by rfl) _ _ hb0 (by kernel_rfl) (by rfl) (by simp [Value.oneCell']) ?_)
              refine bodyPost_ret (parse_res _ _ w.heap.size _ _ rfl rfl rfl (setRow_heap wr _ _ _ _ _ hb0)) rfl ⟨?_, below_setRow hbel (Nat.le_refl _) _⟩
              rw [parseL_bad (k := k) (by rw [HH.out]; exact kindW_some hlt HN.out HM.out) (.inr hn.out)]
              exact rfl
            | true =>
              obtain ⟨cells, cl, hcell, hrep, hpf⟩ := ht rfl
              clear ht hf
              by_cases hjl : jn < fLen k
              · obtain ⟨f, hf⟩ : ∃ f, (fldsOf k)[jn]? = some f := ⟨(fldsOf k)[jn]'(by rw [fLen_eq] at hjl; exact hjl), List.getElem?_eq_getElem _⟩
                obtain ⟨x, hx⟩ : ∃ x, ws[1 + jn]? = some x := ⟨ws[1 + jn]'(by have := HE.out; omega), List.getElem?_eq_getElem _⟩
                have hcF := (blk_cell (hQw.p.shapes k hlt) (jn * 2)).trans (fCells_at k hlt jn f hf).1
                have hcW := hQw.p.words.cell (1 + jn) x hx
                have hwl : 1 + (jn : Int) < (ws.length : Int) := by have := HE.out; omega
                have hxl := HX.out x (List.mem_of_getElem? hx)
                have HG := Lib.hid (getF_any f (bsOf x) (w.heap.size + 1) N cells cl wr.drew (by rw [bsOf_size]; omega) (hQw.p.vars.call (Below.refl _ _).drew) hcell hrep (by have := hQw.lt; have := blk_lt HQ.out.s; have := HNN.out; omega))
                have Hf := Lib.hid hf
                have Hx := Lib.hid hx
                have HR := Lib.hid (And.intro hpf (And.intro hrep hcell))
                clear hf hx hpf hrep hcell hxl hQw
                go_wp2_with fail
                refine wp_region_still_tail 11 (by kernel_rfl) (by kernel_rfl) ?_
                simp only [List.take_succ_cons, List.take_zero, List.drop_succ_cons, List.drop_zero]
                change wpStill _ _ wr.drew (fun a' => wpList _ _ _ _ a' wr.drew) _ _
                have s1 : IntKind.i64.wrap (1 + (jn : Int)) = 1 + (jn : Int) := IntWalk.i64_in _ (by omega)
                have s2 : 0 ≤ 1 + (jn : Int) := by omega
                have s3 : (1 + (jn : Int)).toNat = 1 + jn := by omega
                have es1 : wr.drew.cell? ⟨Sb, 1, none⟩ = some (.slice (some ⟨B + k, 0, none⟩) (fLen k) (fLen k)) := hs1
                have ecF : wr.drew.cell? ⟨B + k, jn * 2, none⟩ = some (fnV f.get) := hcF
                have ecW : wr.drew.cell? ⟨L, 1 + jn, none⟩ = some (.string (bsOf x)) := hcW
                have ek : ∀ w', KeptBut N wr.drew w' → KeptBut N wr w' := fun w' h => ⟨h.os, h.tape, h.output, h.size, h.block⟩
                clear hs1 hcF hcW
                generalize wr.drew = w2 at es1 ecF ecW HG ek ⊢
                repeat still_step
                refine wpStill_nil ?_
                clear s1 s2 s3
                have hent := get_enters f
                go_wp2_with fail
                refine HG.out.mono ?_
                rintro e w3 ⟨rfl, ⟨cells', hc3, hz3, hr3⟩, hk3⟩
                rw [bsOf_data] at hr3 ⊢
                have H3 := Lib.hid (And.intro hc3 (And.intro hr3 (ek w3 hk3)))
                clear hc3 hr3 ek hk3 hent hz3
                go_wp2_with fail
                go_roundw
                case rel =>
                  obtain ⟨hc3, hr3, hk3⟩ := H3.out
                  have q1 : f.ok x = true → parseFs ((fldsOf k).drop (jn + 1)) (ws.drop (1 + (jn + 1))) (f.set x cl) = parseFs (fldsOf k) ws.tail (Cl.of ((k : Int) + 1)) := fun hok => by rw [← HR.out.1]; exact (parse_step Hf.out Hx.out hok).symm
                  have q2 : f.ok x = false → parseFs (fldsOf k) ws.tail (Cl.of ((k : Int) + 1)) = none := fun hno => by rw [← HR.out.1]; exact parse_fail Hf.out Hx.out hno
                  exact ⟨jn + 1, f.ok x, by go_num, rfl, by omega, Below.ofKept hbe hk3 (Nat.le_of_lt (blk_lt HR.out.2.2)), fun hok => ⟨cells', _, hc3, hr3 hok, q1 hok⟩, q2⟩
                case measure => simp [intOf]; omega
              · obtain ⟨v4, v5, v6, rfl, ⟨r4, n4⟩, ⟨r5, n5⟩, ⟨r6, n6⟩⟩ := hrep
                obtain ⟨a4, l4, k4, rfl⟩ := r4.slice
                obtain ⟨a5, l5, k5, rfl⟩ := r5.slice
                obtain ⟨a6, l6, k6, rfl⟩ := r6.slice
                have hjn : jn = fLen k := by omega
                have HJ := Lib.hid hjn
                have hR : Rep wr (w.heap.size + 1) N (ClCells cl (.slice a4 l4 k4) (.slice a5 l5 k5) (.slice a6 l6 k6)) cl := ⟨_, _, _, rfl, ⟨r4, n4⟩, ⟨r5, n5⟩, ⟨r6, n6⟩⟩
                have HR := Lib.hid (And.intro hpf hR)
                have hb0 := hQw.p.res
                have hbel := hQw.p.below
                clear hpf r4 r5 r6 n4 n5 n6 hR hjn hQw
                unfold ClCells at hcell
                go_wp2_with (first | (refine wpList_load_row (by rfl) 30 (.tmp 7) (by rfl) _ (by rfl) _ _ _ _ hcell Tryz.underlying30 rfl (by kernel_rfl) ?_) | (refine wpList_store_row (by rfl) 30 (.tmp 2) (.tmp 58) (by rfl) _ _ (by rfl) (by rfl) _ _ hb0 (by kernel_rfl) (by rfl) (by simp [Value.oneCell']) ?_))
                have hbt := setRow_heap wr _ _ (ClCells cl (.slice a4 l4 k4) (.slice a5 l5 k5) (.slice a6 l6 k6)) _ _ hb0
                refine bodyPost_ret (parse_res _ _ w.heap.size _ _ rfl rfl rfl hbt) rfl ⟨?_, below_setRow hbel (Nat.le_refl _) _⟩
                obtain ⟨hpf, hR⟩ := HR.out
                rw [HJ.out, fLen_eq, List.drop_length] at hpf
                rw [parseL_good (k := k) (c := cl) (by rw [HH.out]; exact kindW_some hlt HN.out HM.out) HE.out (by rw [← hpf]; rfl)]
                exact ⟨N, _, rfl, hR.setRow _⟩
        · have he1 : ((ws.length : Int) == 1 + (fLen k : Int)) = false := by rw [beq_eq_false_iff_ne]; omega
          have HE := Lib.hid hlen
          clear hlen
          go_wp2_with fail
          have hbe0 := PSt.call hQ.p (W1 := W.alloc (.cells (ClCells (Cl.of ((k : Int) + 1)) (.slice none 0 0) (.slice none 0 0) (.slice none 0 0)) 30 (0, 0))) ((Below.refl _ _).alloc (Nat.le_refl _) _)
          clear hQ hs1 hs1l
          go_loopw [8, 9] (fun okv j wr' => j = .int .i64 0 ∧ okv = .bool false ∧ PSt w ws L B wr') (fun _ _ _ => 0)
          case atStart => exact ⟨rfl, rfl, hbe0⟩
          case round =>
            obtain ⟨rfl, rfl, hQw⟩ := hrel
            have hb0 := hQw.res
            have hbel := hQw.below
            clear hQw hbe0
            go_wp2_with (refine wpList_store_row (by rfl) 30 (.tmp 2) (.tmp 57) (by rfl) _ _ (by rfl) (by rfl) _ _ hb0 (by kernel_rfl) (by rfl) (by simp [Value.oneCell']) ?_)
            refine bodyPost_ret (parse_res _ _ w.heap.size _ _ rfl rfl rfl (setRow_heap wr _ _ _ _ _ hb0)) rfl ⟨?_, below_setRow hbel (Nat.le_refl _) _⟩
            rw [parseL_bad (k := k) (by rw [HH.out]; exact kindW_some hlt HN.out HM.out) (.inl HE.out)]
            exact rfl
      · have hq : ((wK k).toList == (bsOf f0).toList) = false := by unfold wK; rw [bsOf_list, bsOf_list]; simpa using hm
        have hq' : ((wK k).toList != (bsOf f0).toList) = true := by unfold wK; rw [bsOf_list, bsOf_list]; simpa using hm
        have HM := Lib.hid hm
        clear hm
        go_wp2_with fail
        go_quiet (fail)
        go_wp2_with fail
        go_roundw
        case rel =>
          exact ⟨k + 1, by omega, by go_num, fun j hj => by by_cases e : j = k; (subst e; exact HM.out); exact HN.out j (by omega), hP.call (pw_below_drewN ((Below.refl _ _).alloc (Nat.le_refl _) _) _)⟩
        case measure => simp [intOf]; omega
    · obtain rfl : k = 10 := by omega
      have hb0 := hP.res
      have hP' := Lib.hid hP
      clear hP
      go_wp2_with (refine wpList_store_row (by rfl) 30 (.tmp 2) (.tmp 60) (by rfl) _ _ (by rfl) (by rfl) _ _ hb0 (by kernel_rfl) (by rfl) (by simp [Value.oneCell']) ?_)
      refine bodyPost_ret (parse_res _ _ w.heap.size _ _ rfl rfl rfl (setRow_heap wr _ _ _ _ _ hb0)) rfl ⟨?_, below_setRow hP'.out.below (Nat.le_refl _) _⟩
      unfold parseL
      rw [HH.out, kindW_none HN.out]
      exact rfl
end Go.Proofs.YtgfncnnidacllaaGreatDoor
