/- Lemmas for the claim, parts put together: the reference's Parse: what lies while it runs; the reference's Parse, walked where the line has no right number of words. -/
import Derived.Test.YtgfncnnidacllaaGreatDoorJN
import Derived.Test.YtgfncnnidacllaaGreatDoorJL
set_option linter.unusedVariables false
set_option linter.unusedSimpArgs false
namespace Go.Proofs.YtgfncnnidacllaaGreatDoor
open Go.RowKit Go.Shelf Go.Proofs.YtgfncnnidacllaaGreatDoorW.PrintWords Go.Proofs.YtgfncnnidacllaaGreatDoorW.PrintLast Go.Proofs.YtgfncnnidacllaaGreatDoorW.PrintMore Go.Proofs.YtgfncnnidacllaaGreatDoor.PScriptLines
theorem rwords_any (s : ByteArray) (hs : s.size ≤ 100000) (w : World) :
    Calls Tryz.prog 17 #[.string s] w fun e w' => (∃ L cap, w.heap.size ≤ L ∧ e = .returned (.slice (some ⟨L, 0, none⟩) (splitS s.data.toList).length cap) ∧ L < w'.heap.size ∧ ∀ j x, (splitS s.data.toList)[j]? = some x → w'.cell? ⟨L, j, none⟩ = some (.string (bsOf x))) ∧ Below w.heap.size w w' := by
  refine (cribbleref28_Words.calls _ s _ w (words_pure s hs)).mono fun e w' h => ?_
  obtain ⟨v, he, hr, hb⟩ := h
  refine ⟨?_, hb⟩
  have ho := Kd.own_of_R (enc := Value.string) hr
  rw [List.length_map] at ho
  rcases ho.2 with ⟨_, h0⟩ | ⟨g, cap, cur, rfl, hbase, hg, hc, hm, hz, ht⟩
  · exact absurd (List.length_eq_zero_iff.1 h0) (splitS_ne _)
  · refine ⟨g, cap, hbase, he, blk_lt hg, fun j x hx => ?_⟩
    have hj := (List.getElem?_eq_some_iff.1 hx).1
    rw [blk_cell hg j]
    have e1 : (encs Value.string ((splitS s.data.toList).map bsOf))[j]? = some (.string (bsOf x)) := by unfold encs; rw [List.getElem?_map, List.getElem?_map, hx]; rfl
    rw [← ht, List.getElem?_take, Nat.mul_one, if_pos hj] at e1
    rw [← Array.getElem?_toList]
    exact e1
structure RSt (w : World) (ws : List (List UInt8)) (L N : Nat) (a : Array Value) (W : World) : Prop where
  words : ∀ j x, ws[j]? = some x → W.cell? ⟨L, j, none⟩ = some (.string (bsOf x))
  box : W.heap[N]? = some (.cells a 34 (0, 0))
  res : W.heap[w.heap.size]? = some (.cells (ClCells (Cl.of 0) (.slice none 0 0) (.slice none 0 0) (.slice none 0 0)) 34 (0, 0))
  below : Below w.heap.size w W
  lt : w.heap.size < N
  ne : L < N
theorem RSt.call {w : World} {ws : List (List UInt8)} {L N : Nat} {a : Array Value} {W W1 : World} (h : RSt w ws L N a W) (hb : Below W.heap.size W W1) : RSt w ws L N a W1 :=
  ⟨fun j x hx => (hb.cell (p := ⟨L, j, none⟩) (by have := blk_lt h.box; have := h.ne; simp; omega)).trans (h.words j x hx), blk_call hb h.box, blk_call hb h.res, below_call h.below hb, h.lt, h.ne⟩
theorem RSt.set {w : World} {ws : List (List UInt8)} {L N : Nat} {a : Array Value} {W : World} (h : RSt w ws L N a W) (o : Nat) (v : Value) : RSt w ws L N (a.setIfInBounds o v) (W.setCell ⟨N, o, none⟩ v) :=
  ⟨fun j x hx => (World.cell?_setCell_far W _ _ _ (by have := h.ne; simp; omega)).trans (h.words j x hx), blk_set h.box o v, (old_set W N o v _ (by have := h.lt; omega)).trans h.res, h.below.setCell (by have := h.lt; simp; omega) _, h.lt, h.ne⟩
theorem RSt.start {w : World} {ws : List (List UInt8)} {L : Nat} {W : World} (a : Array Value) (hw : ∀ j x, ws[j]? = some x → W.cell? ⟨L, j, none⟩ = some (.string (bsOf x))) (hL : L < W.heap.size)
    (hr : W.heap[w.heap.size]? = some (.cells (ClCells (Cl.of 0) (.slice none 0 0) (.slice none 0 0) (.slice none 0 0)) 34 (0, 0))) (hb : Below w.heap.size w W) : RSt w ws L W.heap.size a (W.alloc (.cells a 34)) :=
  ⟨fun j x hx => (cell_alloc_l _ (hw j x hx)), blk_new _ _ _ rfl, blk_alloc hr, hb.alloc (Nat.le_of_lt (blk_lt hr)) _, blk_lt hr, hL⟩
theorem Row.callR {w w1 : World} {B : Nat} {v : Value} {xs : List Int} (h : Row w B v xs) (hb : Below w.heap.size w w1) : Row w1 B v xs := own_move h (fun k e => hb.block k (own_lt h k e))
theorem Row.setR {w : World} {B N o : Nat} {v u : Value} {xs : List Int} (h : Row w B v xs) (hN : N < B) : Row (w.setCell ⟨N, o, none⟩ u) B v xs := own_move h (fun k e => old_set w N o u k (by have := own_base h k e; omega))
theorem Row.fin {W : World} {M B N o : Nat} {v u : Value} {xs : List Int} {cs : Array Value} (h : Row W B v xs) (hM : M ≤ N) (hN : N < B) : Row ((W.setCell ⟨N, o, none⟩ u).setRow M cs) M v xs ∧ v.ownBlock ≠ some 0 :=
  ⟨World.ownsRow.mono (own_move (h.setR (o := o) (u := u) hN) (fun k e => setRow_other _ M k cs (by have := own_base h k e; omega))) (by omega), fun e => by have := own_base h 0 e; omega⟩
theorem Row.fin2 {W : World} {M B N o o' : Nat} {v u u' : Value} {xs : List Int} {cs : Array Value} (h : Row W B v xs) (hM : M ≤ N) (hN : N < B) : Row (((W.setCell ⟨N, o, none⟩ u).setCell ⟨N, o', none⟩ u').setRow M cs) M v xs ∧ v.ownBlock ≠ some 0 :=
  Row.fin (h.setR hN) hM hN
theorem rs_call {w : World} {ws : List (List UInt8)} {L N : Nat} {a : Array Value} {W w1 : World} {x : List UInt8} {p : Prop} (hx : Hid (ws[1]? = some x)) (h : p ∧ RSt w ws L N a W) (hb : Below W.heap.size W w1) :
    w1.cell? ⟨L, 1, none⟩ = some (.string (bsOf x)) ∧ RSt w ws L N a w1 := ⟨(h.2.call hb).words 1 x hx.out, h.2.call hb⟩
theorem rparse_res (tmps : Array Value) (W : World) (N : Nat) (cells : Array Value) (v : Value) (h2 : tmps.getD 2 undef = .pointer (some ⟨N, 0, none⟩)) (h3 : tmps.getD 3 undef = v) (h9 : cells.size = 9) (hb : W.heap[N]? = some (.cells cells 34 (0, 0))) :
    (results Tryz.f7 tmps).run Tryz.prog W = .ok (.tuple #[.agg cells, v]) W := by
  rw [← h3]
  exact results_cell_tmp (p := 2) (q := 3) (ty := 34) rfl tmps W N 34 cells (0, 0) _ h2 hb Tryz.underlying34 rfl (by rw [h9]; kernel_rfl)
theorem smallV_some {u : Nat} : smallV (some u) = (u : Int) := rfl
theorem smallV_none : smallV none = -1 := rfl
def algTo (l : List UInt8) (j : Nat) : Int := match (upA j).find? fun a => (entAt a).1 == l with | some a => (a : Int) | none => 0
theorem ent_inj {a b : Nat} (ha1 : 1 ≤ a) (ha : a ≤ 14) (hb1 : 1 ≤ b) (hb : b ≤ 14) (h : (entAt a).1 = (entAt b).1) : a = b := by
  have d : ∀ x y : Fin 15, x.val ≠ 0 → y.val ≠ 0 → (entAt x.val).1 = (entAt y.val).1 → x = y := by decide +kernel
  have := d ⟨a, by omega⟩ ⟨b, by omega⟩ (by simp; omega) (by simp; omega) h
  simpa using this
theorem upA_mem {j a : Nat} (h : a ∈ upA j) : 1 ≤ a ∧ a < j := by
  unfold upA at h
  rw [List.mem_range'_1] at h
  omega
theorem algTo_hit {l : List UInt8} {j : Nat} (hj1 : 1 ≤ j) (hj : j ≤ 14) (h : (entAt j).1 = l) : algTo l (j + 1) = (j : Int) := by
  unfold algTo
  rw [upA_succ j hj1, List.find?_append]
  have : (upA j).find? (fun a => (entAt a).1 == l) = none := by
    rw [List.find?_eq_none]
    intro a ha
    obtain ⟨h1, h2⟩ := upA_mem ha
    have hne : (entAt a).1 ≠ l := fun e => by have := ent_inj h1 (by omega) hj1 hj (e.trans h.symm); omega
    simpa using hne
  rw [this]
  simp [h]
theorem algTo_miss {l : List UInt8} {j : Nat} (hj1 : 1 ≤ j) (h : (entAt j).1 ≠ l) : algTo l (j + 1) = algTo l j := by
  unfold algTo
  rw [upA_succ j hj1, List.find?_append]
  cases (upA j).find? (fun a => (entAt a).1 == l) <;> simp [h]
theorem algTo_start (l : List UInt8) : algTo l 1 = 0 := by unfold algTo; rfl
theorem algTo_end (l : List UInt8) : algTo l 15 = natV (findN l) := by
  unfold algTo natV findN
  cases (upA 15).find? (fun a => (entAt a).1 == l) <;> rfl
theorem findN_pos {l : List UInt8} {a : Nat} (h : findN l = some a) : 1 ≤ a ∧ a ≤ 14 ∧ (entAt a).1 = l := by
  unfold findN at h
  have h1 := upA_mem (List.mem_of_find?_eq_some h)
  have h2 := List.find?_some h
  exact ⟨h1.1, by omega, by simpa using h2⟩
end Go.Proofs.YtgfncnnidacllaaGreatDoor
namespace Go.Proofs.YtgfncnnidacllaaGreatDoor
open Go.RowKit Go.Shelf Go.Proofs.YtgfncnnidacllaaGreatDoorW.PrintWords Go.Proofs.YtgfncnnidacllaaGreatDoorW.PrintLast Go.Proofs.YtgfncnnidacllaaGreatDoorW.PrintMore Go.Proofs.YtgfncnnidacllaaGreatDoor.PScriptLines
set_option maxRecDepth 100000 in
set_option maxHeartbeats 4000000 in
theorem rp_none (s : ByteArray) (hs : s.size ≤ 100000) (w : World) (ws : List (List UInt8)) (hws : splitS s.data.toList = ws) (hk : kindW (ws.headD []) = none) :
    Calls Tryz.prog 7 #[.string s] w (ParsePost ws w) := by
  have HWL : ∀ x ∈ ws, x.length ≤ 100000 := fun x hx => by rw [← hws] at hx; have := split_len _ x hx; have e : s.data.toList.length = s.size := rfl; omega
  obtain ⟨f0, hf0, hh0⟩ : ∃ f0, ws[0]? = some f0 ∧ ws.headD [] = f0 := by
    cases ws with
    | nil => exact absurd hws (splitS_ne _)
    | cons a b => exact ⟨a, rfl, rfl⟩
  have HX := Lib.hid HWL
  have hl0 : (0 : Int) < (ws.length : Int) := by have := (List.getElem?_eq_some_iff.1 hf0).1; omega
  have HF := Lib.hid hf0
  have HH := Lib.hid hh0
  have HC := Lib.hid (rwords_any s hs (w.alloc (.cells (ClCells (Cl.of 0) (.slice none 0 0) (.slice none 0 0) (.slice none 0 0)) 34)))
  rw [hws] at HC
  have HS := Lib.hid hws
  clear HWL hf0 hh0 hws
  have hki : kindI f0 = 0 := by unfold kindI; rw [← HH.out, hk]
  have HK := Lib.hid hk
  clear hk
  go_enter Tryz.func7, Tryz.ntmps7
  go_wp2_with fail
  refine HC.out.mono ?_
  rintro e w1 ⟨⟨L, cap, hL0, rfl, hL, hwc⟩, hb1⟩
  have hres := blk_call hb1 (blk_new w _ _ rfl)
  have hbel : Below w.heap.size w w1 := below_call ((Below.refl _ _).alloc (Nat.le_refl _) _) hb1
  have c0 := hwc 0 f0 HF.out
  have HWC := Lib.hid hwc
  clear hwc hb1 HC hL0
  go_wp2_with fail
  refine (rkind_any (bsOf f0) w1).mono ?_
  rintro e w2 ⟨rfl, hb2⟩
  rw [bsOf_data]
  have hL2 : L < w2.heap.size := Nat.lt_of_lt_of_le hL hb2.size
  have hwc2 : ∀ j x, ws[j]? = some x → w2.cell? ⟨L, j, none⟩ = some (.string (bsOf x)) := fun j x hx => (hb2.cell (p := ⟨L, j, none⟩) hL).trans (HWC.out j x hx)
  have hres2 := blk_call hb2 hres
  have hbel2 := below_call hbel hb2
  clear c0 hb2 hres hbel hL HWC
  rw [hki]
  have hR := RSt.start (w := w) #[.int .i64 0, .int .i64 0, .int .i64 0, .int .i64 0, .slice none 0 0, .slice none 0 0, .slice none 0 0, .int .u64 0, .int .u64 0] hwc2 hL2 hres2 hbel2
  have HR := Lib.hid hR
  clear hwc2 hL2 hres2 hbel2 hR hki
  have hb0 := HR.out.res
  go_wp2_with (refine wpList_store_row (by rfl) 34 (.tmp 2) (.tmp 28) (by rfl) _ _ (by rfl) (by rfl) _ _ hb0 (by kernel_rfl) (by rfl) (by simp [Value.oneCell']) ?_)
  refine bodyPost_ret (rparse_res _ _ w.heap.size _ _ rfl rfl rfl (setRow_heap _ _ _ _ _ _ hb0)) rfl ⟨?_, below_setRow HR.out.below (Nat.le_refl _) _⟩
  unfold parseL
  rw [HK.out]
  exact rfl
set_option maxRecDepth 100000 in
set_option maxHeartbeats 4000000 in
theorem rp_bad0 (s : ByteArray) (hs : s.size ≤ 100000) (w : World) (ws : List (List UInt8)) (hws : splitS s.data.toList = ws) (hk : kindW (ws.headD []) = some 0) (hl : ws.length ≠ 1 + fLen 0) :
    Calls Tryz.prog 7 #[.string s] w (ParsePost ws w) := by
  have HWL : ∀ x ∈ ws, x.length ≤ 100000 := fun x hx => by rw [← hws] at hx; have := split_len _ x hx; have e : s.data.toList.length = s.size := rfl; omega
  obtain ⟨f0, hf0, hh0⟩ : ∃ f0, ws[0]? = some f0 ∧ ws.headD [] = f0 := by
    cases ws with
    | nil => exact absurd hws (splitS_ne _)
    | cons a b => exact ⟨a, rfl, rfl⟩
  have HX := Lib.hid HWL
  have hl0 : (0 : Int) < (ws.length : Int) := by have := (List.getElem?_eq_some_iff.1 hf0).1; omega
  have HF := Lib.hid hf0
  have HH := Lib.hid hh0
  have HC := Lib.hid (rwords_any s hs (w.alloc (.cells (ClCells (Cl.of 0) (.slice none 0 0) (.slice none 0 0) (.slice none 0 0)) 34)))
  rw [hws] at HC
  have HS := Lib.hid hws
  clear HWL hf0 hh0 hws
  have hki : kindI f0 = 1 := by unfold kindI; rw [← HH.out, hk]; rfl
  have hle : ((ws.length : Int) != 4) = true := by rw [bne_iff_ne]; intro e; apply hl; have : fLen 0 = 3 := rfl; omega
  have HK := Lib.hid hk
  have HLB := Lib.hid hl
  clear hk hl
  go_enter Tryz.func7, Tryz.ntmps7
  go_wp2_with fail
  refine HC.out.mono ?_
  rintro e w1 ⟨⟨L, cap, hL0, rfl, hL, hwc⟩, hb1⟩
  have hres := blk_call hb1 (blk_new w _ _ rfl)
  have hbel : Below w.heap.size w w1 := below_call ((Below.refl _ _).alloc (Nat.le_refl _) _) hb1
  have c0 := hwc 0 f0 HF.out
  have HWC := Lib.hid hwc
  clear hwc hb1 HC hL0
  go_wp2_with fail
  refine (rkind_any (bsOf f0) w1).mono ?_
  rintro e w2 ⟨rfl, hb2⟩
  rw [bsOf_data]
  have hL2 : L < w2.heap.size := Nat.lt_of_lt_of_le hL hb2.size
  have hwc2 : ∀ j x, ws[j]? = some x → w2.cell? ⟨L, j, none⟩ = some (.string (bsOf x)) := fun j x hx => (hb2.cell (p := ⟨L, j, none⟩) hL).trans (HWC.out j x hx)
  have hres2 := blk_call hb2 hres
  have hbel2 := below_call hbel hb2
  clear c0 hb2 hres hbel hL HWC
  rw [hki]
  have hR := RSt.start (w := w) #[.int .i64 1, .int .i64 0, .int .i64 0, .int .i64 0, .slice none 0 0, .slice none 0 0, .slice none 0 0, .int .u64 0, .int .u64 0] hwc2 hL2 hres2 hbel2
  have HR := Lib.hid hR
  clear hwc2 hL2 hres2 hbel2 hR hki
  have b0 := blk_cell HR.out.box 0
  go_wp2_with fail
  refine (rsize_any 0 (by omega) _).mono ?_
  rintro e w3 ⟨rfl, hb3⟩
  have HR3 := Lib.hid (HR.out.call hb3)
  have hfl : (1 : Int) + (fLen 0 : Int) = 4 := rfl
  rw [hfl]
  clear b0 hb3 hfl
  have hb0 := HR3.out.res
  go_wp2_with (refine wpList_store_row (by rfl) 34 (.tmp 2) (.tmp 35) (by rfl) _ _ (by rfl) (by rfl) _ _ hb0 (by kernel_rfl) (by rfl) (by simp [Value.oneCell']) ?_)
  refine bodyPost_ret (rparse_res _ _ w.heap.size _ _ rfl rfl rfl (setRow_heap _ _ _ _ _ _ hb0)) rfl ⟨?_, below_setRow HR3.out.below (Nat.le_refl _) _⟩
  rw [parseL_bad HK.out (.inl HLB.out)]
  exact rfl
set_option maxRecDepth 100000 in
set_option maxHeartbeats 4000000 in
theorem rp_bad1 (s : ByteArray) (hs : s.size ≤ 100000) (w : World) (ws : List (List UInt8)) (hws : splitS s.data.toList = ws) (hk : kindW (ws.headD []) = some 1) (hl : ws.length ≠ 1 + fLen 1) :
    Calls Tryz.prog 7 #[.string s] w (ParsePost ws w) := by
  have HWL : ∀ x ∈ ws, x.length ≤ 100000 := fun x hx => by rw [← hws] at hx; have := split_len _ x hx; have e : s.data.toList.length = s.size := rfl; omega
  obtain ⟨f0, hf0, hh0⟩ : ∃ f0, ws[0]? = some f0 ∧ ws.headD [] = f0 := by
    cases ws with
    | nil => exact absurd hws (splitS_ne _)
    | cons a b => exact ⟨a, rfl, rfl⟩
  have HX := Lib.hid HWL
  have hl0 : (0 : Int) < (ws.length : Int) := by have := (List.getElem?_eq_some_iff.1 hf0).1; omega
  have HF := Lib.hid hf0
  have HH := Lib.hid hh0
  have HC := Lib.hid (rwords_any s hs (w.alloc (.cells (ClCells (Cl.of 0) (.slice none 0 0) (.slice none 0 0) (.slice none 0 0)) 34)))
  rw [hws] at HC
  have HS := Lib.hid hws
  clear HWL hf0 hh0 hws
  have hki : kindI f0 = 2 := by unfold kindI; rw [← HH.out, hk]; rfl
  have hle : ((ws.length : Int) != 2) = true := by rw [bne_iff_ne]; intro e; apply hl; have : fLen 1 = 1 := rfl; omega
  have HK := Lib.hid hk
  have HLB := Lib.hid hl
  clear hk hl
  go_enter Tryz.func7, Tryz.ntmps7
  go_wp2_with fail
  refine HC.out.mono ?_
  rintro e w1 ⟨⟨L, cap, hL0, rfl, hL, hwc⟩, hb1⟩
  have hres := blk_call hb1 (blk_new w _ _ rfl)
  have hbel : Below w.heap.size w w1 := below_call ((Below.refl _ _).alloc (Nat.le_refl _) _) hb1
  have c0 := hwc 0 f0 HF.out
  have HWC := Lib.hid hwc
  clear hwc hb1 HC hL0
  go_wp2_with fail
  refine (rkind_any (bsOf f0) w1).mono ?_
  rintro e w2 ⟨rfl, hb2⟩
  rw [bsOf_data]
  have hL2 : L < w2.heap.size := Nat.lt_of_lt_of_le hL hb2.size
  have hwc2 : ∀ j x, ws[j]? = some x → w2.cell? ⟨L, j, none⟩ = some (.string (bsOf x)) := fun j x hx => (hb2.cell (p := ⟨L, j, none⟩) hL).trans (HWC.out j x hx)
  have hres2 := blk_call hb2 hres
  have hbel2 := below_call hbel hb2
  clear c0 hb2 hres hbel hL HWC
  rw [hki]
  have hR := RSt.start (w := w) #[.int .i64 2, .int .i64 0, .int .i64 0, .int .i64 0, .slice none 0 0, .slice none 0 0, .slice none 0 0, .int .u64 0, .int .u64 0] hwc2 hL2 hres2 hbel2
  have HR := Lib.hid hR
  clear hwc2 hL2 hres2 hbel2 hR hki
  have b0 := blk_cell HR.out.box 0
  go_wp2_with fail
  refine (rsize_any 1 (by omega) _).mono ?_
  rintro e w3 ⟨rfl, hb3⟩
  have HR3 := Lib.hid (HR.out.call hb3)
  have hfl : (1 : Int) + (fLen 1 : Int) = 2 := rfl
  rw [hfl]
  clear b0 hb3 hfl
  have hb0 := HR3.out.res
  go_wp2_with (refine wpList_store_row (by rfl) 34 (.tmp 2) (.tmp 35) (by rfl) _ _ (by rfl) (by rfl) _ _ hb0 (by kernel_rfl) (by rfl) (by simp [Value.oneCell']) ?_)
  refine bodyPost_ret (rparse_res _ _ w.heap.size _ _ rfl rfl rfl (setRow_heap _ _ _ _ _ _ hb0)) rfl ⟨?_, below_setRow HR3.out.below (Nat.le_refl _) _⟩
  rw [parseL_bad HK.out (.inl HLB.out)]
  exact rfl
set_option maxRecDepth 100000 in
set_option maxHeartbeats 4000000 in
theorem rp_bad2 (s : ByteArray) (hs : s.size ≤ 100000) (w : World) (ws : List (List UInt8)) (hws : splitS s.data.toList = ws) (hk : kindW (ws.headD []) = some 2) (hl : ws.length ≠ 1 + fLen 2) :
    Calls Tryz.prog 7 #[.string s] w (ParsePost ws w) := by
  have HWL : ∀ x ∈ ws, x.length ≤ 100000 := fun x hx => by rw [← hws] at hx; have := split_len _ x hx; have e : s.data.toList.length = s.size := rfl; omega
  obtain ⟨f0, hf0, hh0⟩ : ∃ f0, ws[0]? = some f0 ∧ ws.headD [] = f0 := by
    cases ws with
    | nil => exact absurd hws (splitS_ne _)
    | cons a b => exact ⟨a, rfl, rfl⟩
  have HX := Lib.hid HWL
  have hl0 : (0 : Int) < (ws.length : Int) := by have := (List.getElem?_eq_some_iff.1 hf0).1; omega
  have HF := Lib.hid hf0
  have HH := Lib.hid hh0
  have HC := Lib.hid (rwords_any s hs (w.alloc (.cells (ClCells (Cl.of 0) (.slice none 0 0) (.slice none 0 0) (.slice none 0 0)) 34)))
  rw [hws] at HC
  have HS := Lib.hid hws
  clear HWL hf0 hh0 hws
  have hki : kindI f0 = 3 := by unfold kindI; rw [← HH.out, hk]; rfl
  have hle : ((ws.length : Int) != 2) = true := by rw [bne_iff_ne]; intro e; apply hl; have : fLen 2 = 1 := rfl; omega
  have HK := Lib.hid hk
  have HLB := Lib.hid hl
  clear hk hl
  go_enter Tryz.func7, Tryz.ntmps7
  go_wp2_with fail
  refine HC.out.mono ?_
  rintro e w1 ⟨⟨L, cap, hL0, rfl, hL, hwc⟩, hb1⟩
  have hres := blk_call hb1 (blk_new w _ _ rfl)
  have hbel : Below w.heap.size w w1 := below_call ((Below.refl _ _).alloc (Nat.le_refl _) _) hb1
  have c0 := hwc 0 f0 HF.out
  have HWC := Lib.hid hwc
  clear hwc hb1 HC hL0
  go_wp2_with fail
  refine (rkind_any (bsOf f0) w1).mono ?_
  rintro e w2 ⟨rfl, hb2⟩
  rw [bsOf_data]
  have hL2 : L < w2.heap.size := Nat.lt_of_lt_of_le hL hb2.size
  have hwc2 : ∀ j x, ws[j]? = some x → w2.cell? ⟨L, j, none⟩ = some (.string (bsOf x)) := fun j x hx => (hb2.cell (p := ⟨L, j, none⟩) hL).trans (HWC.out j x hx)
  have hres2 := blk_call hb2 hres
  have hbel2 := below_call hbel hb2
  clear c0 hb2 hres hbel hL HWC
  rw [hki]
  have hR := RSt.start (w := w) #[.int .i64 3, .int .i64 0, .int .i64 0, .int .i64 0, .slice none 0 0, .slice none 0 0, .slice none 0 0, .int .u64 0, .int .u64 0] hwc2 hL2 hres2 hbel2
  have HR := Lib.hid hR
  clear hwc2 hL2 hres2 hbel2 hR hki
  have b0 := blk_cell HR.out.box 0
  go_wp2_with fail
  refine (rsize_any 2 (by omega) _).mono ?_
  rintro e w3 ⟨rfl, hb3⟩
  have HR3 := Lib.hid (HR.out.call hb3)
  have hfl : (1 : Int) + (fLen 2 : Int) = 2 := rfl
  rw [hfl]
  clear b0 hb3 hfl
  have hb0 := HR3.out.res
  go_wp2_with (refine wpList_store_row (by rfl) 34 (.tmp 2) (.tmp 35) (by rfl) _ _ (by rfl) (by rfl) _ _ hb0 (by kernel_rfl) (by rfl) (by simp [Value.oneCell']) ?_)
  refine bodyPost_ret (rparse_res _ _ w.heap.size _ _ rfl rfl rfl (setRow_heap _ _ _ _ _ _ hb0)) rfl ⟨?_, below_setRow HR3.out.below (Nat.le_refl _) _⟩
  rw [parseL_bad HK.out (.inl HLB.out)]
  exact rfl
set_option maxRecDepth 100000 in
set_option maxHeartbeats 4000000 in
theorem rp_bad3 (s : ByteArray) (hs : s.size ≤ 100000) (w : World) (ws : List (List UInt8)) (hws : splitS s.data.toList = ws) (hk : kindW (ws.headD []) = some 3) (hl : ws.length ≠ 1 + fLen 3) :
    Calls Tryz.prog 7 #[.string s] w (ParsePost ws w) := by
  have HWL : ∀ x ∈ ws, x.length ≤ 100000 := fun x hx => by rw [← hws] at hx; have := split_len _ x hx; have e : s.data.toList.length = s.size := rfl; omega
  obtain ⟨f0, hf0, hh0⟩ : ∃ f0, ws[0]? = some f0 ∧ ws.headD [] = f0 := by
    cases ws with
    | nil => exact absurd hws (splitS_ne _)
    | cons a b => exact ⟨a, rfl, rfl⟩
  have HX := Lib.hid HWL
  have hl0 : (0 : Int) < (ws.length : Int) := by have := (List.getElem?_eq_some_iff.1 hf0).1; omega
  have HF := Lib.hid hf0
  have HH := Lib.hid hh0
  have HC := Lib.hid (rwords_any s hs (w.alloc (.cells (ClCells (Cl.of 0) (.slice none 0 0) (.slice none 0 0) (.slice none 0 0)) 34)))
  rw [hws] at HC
  have HS := Lib.hid hws
  clear HWL hf0 hh0 hws
  have hki : kindI f0 = 4 := by unfold kindI; rw [← HH.out, hk]; rfl
  have hle : ((ws.length : Int) != 3) = true := by rw [bne_iff_ne]; intro e; apply hl; have : fLen 3 = 2 := rfl; omega
  have HK := Lib.hid hk
  have HLB := Lib.hid hl
  clear hk hl
  go_enter Tryz.func7, Tryz.ntmps7
  go_wp2_with fail
  refine HC.out.mono ?_
  rintro e w1 ⟨⟨L, cap, hL0, rfl, hL, hwc⟩, hb1⟩
  have hres := blk_call hb1 (blk_new w _ _ rfl)
  have hbel : Below w.heap.size w w1 := below_call ((Below.refl _ _).alloc (Nat.le_refl _) _) hb1
  have c0 := hwc 0 f0 HF.out
  have HWC := Lib.hid hwc
  clear hwc hb1 HC hL0
  go_wp2_with fail
  refine (rkind_any (bsOf f0) w1).mono ?_
  rintro e w2 ⟨rfl, hb2⟩
  rw [bsOf_data]
  have hL2 : L < w2.heap.size := Nat.lt_of_lt_of_le hL hb2.size
  have hwc2 : ∀ j x, ws[j]? = some x → w2.cell? ⟨L, j, none⟩ = some (.string (bsOf x)) := fun j x hx => (hb2.cell (p := ⟨L, j, none⟩) hL).trans (HWC.out j x hx)
  have hres2 := blk_call hb2 hres
  have hbel2 := below_call hbel hb2
  clear c0 hb2 hres hbel hL HWC
  rw [hki]
  have hR := RSt.start (w := w) #[.int .i64 4, .int .i64 0, .int .i64 0, .int .i64 0, .slice none 0 0, .slice none 0 0, .slice none 0 0, .int .u64 0, .int .u64 0] hwc2 hL2 hres2 hbel2
  have HR := Lib.hid hR
  clear hwc2 hL2 hres2 hbel2 hR hki
  have b0 := blk_cell HR.out.box 0
  go_wp2_with fail
  refine (rsize_any 3 (by omega) _).mono ?_
  rintro e w3 ⟨rfl, hb3⟩
  have HR3 := Lib.hid (HR.out.call hb3)
  have hfl : (1 : Int) + (fLen 3 : Int) = 3 := rfl
  rw [hfl]
  clear b0 hb3 hfl
  have hb0 := HR3.out.res
  go_wp2_with (refine wpList_store_row (by rfl) 34 (.tmp 2) (.tmp 35) (by rfl) _ _ (by rfl) (by rfl) _ _ hb0 (by kernel_rfl) (by rfl) (by simp [Value.oneCell']) ?_)
  refine bodyPost_ret (rparse_res _ _ w.heap.size _ _ rfl rfl rfl (setRow_heap _ _ _ _ _ _ hb0)) rfl ⟨?_, below_setRow HR3.out.below (Nat.le_refl _) _⟩
  rw [parseL_bad HK.out (.inl HLB.out)]
  exact rfl
set_option maxRecDepth 100000 in
set_option maxHeartbeats 4000000 in
theorem rp_bad4 (s : ByteArray) (hs : s.size ≤ 100000) (w : World) (ws : List (List UInt8)) (hws : splitS s.data.toList = ws) (hk : kindW (ws.headD []) = some 4) (hl : ws.length ≠ 1 + fLen 4) :
    Calls Tryz.prog 7 #[.string s] w (ParsePost ws w) := by
  have HWL : ∀ x ∈ ws, x.length ≤ 100000 := fun x hx => by rw [← hws] at hx; have := split_len _ x hx; have e : s.data.toList.length = s.size := rfl; omega
  obtain ⟨f0, hf0, hh0⟩ : ∃ f0, ws[0]? = some f0 ∧ ws.headD [] = f0 := by
    cases ws with
    | nil => exact absurd hws (splitS_ne _)
    | cons a b => exact ⟨a, rfl, rfl⟩
  have HX := Lib.hid HWL
  have hl0 : (0 : Int) < (ws.length : Int) := by have := (List.getElem?_eq_some_iff.1 hf0).1; omega
  have HF := Lib.hid hf0
  have HH := Lib.hid hh0
  have HC := Lib.hid (rwords_any s hs (w.alloc (.cells (ClCells (Cl.of 0) (.slice none 0 0) (.slice none 0 0) (.slice none 0 0)) 34)))
  rw [hws] at HC
  have HS := Lib.hid hws
  clear HWL hf0 hh0 hws
  have hki : kindI f0 = 5 := by unfold kindI; rw [← HH.out, hk]; rfl
  have hle : ((ws.length : Int) != 3) = true := by rw [bne_iff_ne]; intro e; apply hl; have : fLen 4 = 2 := rfl; omega
  have HK := Lib.hid hk
  have HLB := Lib.hid hl
  clear hk hl
  go_enter Tryz.func7, Tryz.ntmps7
  go_wp2_with fail
  refine HC.out.mono ?_
  rintro e w1 ⟨⟨L, cap, hL0, rfl, hL, hwc⟩, hb1⟩
  have hres := blk_call hb1 (blk_new w _ _ rfl)
  have hbel : Below w.heap.size w w1 := below_call ((Below.refl _ _).alloc (Nat.le_refl _) _) hb1
  have c0 := hwc 0 f0 HF.out
  have HWC := Lib.hid hwc
  clear hwc hb1 HC hL0
  go_wp2_with fail
  refine (rkind_any (bsOf f0) w1).mono ?_
  rintro e w2 ⟨rfl, hb2⟩
  rw [bsOf_data]
  have hL2 : L < w2.heap.size := Nat.lt_of_lt_of_le hL hb2.size
  have hwc2 : ∀ j x, ws[j]? = some x → w2.cell? ⟨L, j, none⟩ = some (.string (bsOf x)) := fun j x hx => (hb2.cell (p := ⟨L, j, none⟩) hL).trans (HWC.out j x hx)
  have hres2 := blk_call hb2 hres
  have hbel2 := below_call hbel hb2
  clear c0 hb2 hres hbel hL HWC
  rw [hki]
  have hR := RSt.start (w := w) #[.int .i64 5, .int .i64 0, .int .i64 0, .int .i64 0, .slice none 0 0, .slice none 0 0, .slice none 0 0, .int .u64 0, .int .u64 0] hwc2 hL2 hres2 hbel2
  have HR := Lib.hid hR
  clear hwc2 hL2 hres2 hbel2 hR hki
  have b0 := blk_cell HR.out.box 0
  go_wp2_with fail
  refine (rsize_any 4 (by omega) _).mono ?_
  rintro e w3 ⟨rfl, hb3⟩
  have HR3 := Lib.hid (HR.out.call hb3)
  have hfl : (1 : Int) + (fLen 4 : Int) = 3 := rfl
  rw [hfl]
  clear b0 hb3 hfl
  have hb0 := HR3.out.res
  go_wp2_with (refine wpList_store_row (by rfl) 34 (.tmp 2) (.tmp 35) (by rfl) _ _ (by rfl) (by rfl) _ _ hb0 (by kernel_rfl) (by rfl) (by simp [Value.oneCell']) ?_)
  refine bodyPost_ret (rparse_res _ _ w.heap.size _ _ rfl rfl rfl (setRow_heap _ _ _ _ _ _ hb0)) rfl ⟨?_, below_setRow HR3.out.below (Nat.le_refl _) _⟩
  rw [parseL_bad HK.out (.inl HLB.out)]
  exact rfl
set_option maxRecDepth 100000 in
set_option maxHeartbeats 4000000 in
theorem rp_bad5 (s : ByteArray) (hs : s.size ≤ 100000) (w : World) (ws : List (List UInt8)) (hws : splitS s.data.toList = ws) (hk : kindW (ws.headD []) = some 5) (hl : ws.length ≠ 1 + fLen 5) :
    Calls Tryz.prog 7 #[.string s] w (ParsePost ws w) := by
  have HWL : ∀ x ∈ ws, x.length ≤ 100000 := fun x hx => by rw [← hws] at hx; have := split_len _ x hx; have e : s.data.toList.length = s.size := rfl; omega
  obtain ⟨f0, hf0, hh0⟩ : ∃ f0, ws[0]? = some f0 ∧ ws.headD [] = f0 := by
    cases ws with
    | nil => exact absurd hws (splitS_ne _)
    | cons a b => exact ⟨a, rfl, rfl⟩
  have HX := Lib.hid HWL
  have hl0 : (0 : Int) < (ws.length : Int) := by have := (List.getElem?_eq_some_iff.1 hf0).1; omega
  have HF := Lib.hid hf0
  have HH := Lib.hid hh0
  have HC := Lib.hid (rwords_any s hs (w.alloc (.cells (ClCells (Cl.of 0) (.slice none 0 0) (.slice none 0 0) (.slice none 0 0)) 34)))
  rw [hws] at HC
  have HS := Lib.hid hws
  clear HWL hf0 hh0 hws
  have hki : kindI f0 = 6 := by unfold kindI; rw [← HH.out, hk]; rfl
  have hle : ((ws.length : Int) != 3) = true := by rw [bne_iff_ne]; intro e; apply hl; have : fLen 5 = 2 := rfl; omega
  have HK := Lib.hid hk
  have HLB := Lib.hid hl
  clear hk hl
  go_enter Tryz.func7, Tryz.ntmps7
  go_wp2_with fail
  refine HC.out.mono ?_
  rintro e w1 ⟨⟨L, cap, hL0, rfl, hL, hwc⟩, hb1⟩
  have hres := blk_call hb1 (blk_new w _ _ rfl)
  have hbel : Below w.heap.size w w1 := below_call ((Below.refl _ _).alloc (Nat.le_refl _) _) hb1
  have c0 := hwc 0 f0 HF.out
  have HWC := Lib.hid hwc
  clear hwc hb1 HC hL0
  go_wp2_with fail
  refine (rkind_any (bsOf f0) w1).mono ?_
  rintro e w2 ⟨rfl, hb2⟩
  rw [bsOf_data]
  have hL2 : L < w2.heap.size := Nat.lt_of_lt_of_le hL hb2.size
  have hwc2 : ∀ j x, ws[j]? = some x → w2.cell? ⟨L, j, none⟩ = some (.string (bsOf x)) := fun j x hx => (hb2.cell (p := ⟨L, j, none⟩) hL).trans (HWC.out j x hx)
  have hres2 := blk_call hb2 hres
  have hbel2 := below_call hbel hb2
  clear c0 hb2 hres hbel hL HWC
  rw [hki]
  have hR := RSt.start (w := w) #[.int .i64 6, .int .i64 0, .int .i64 0, .int .i64 0, .slice none 0 0, .slice none 0 0, .slice none 0 0, .int .u64 0, .int .u64 0] hwc2 hL2 hres2 hbel2
  have HR := Lib.hid hR
  clear hwc2 hL2 hres2 hbel2 hR hki
  have b0 := blk_cell HR.out.box 0
  go_wp2_with fail
  refine (rsize_any 5 (by omega) _).mono ?_
  rintro e w3 ⟨rfl, hb3⟩
  have HR3 := Lib.hid (HR.out.call hb3)
  have hfl : (1 : Int) + (fLen 5 : Int) = 3 := rfl
  rw [hfl]
  clear b0 hb3 hfl
  have hb0 := HR3.out.res
  go_wp2_with (refine wpList_store_row (by rfl) 34 (.tmp 2) (.tmp 35) (by rfl) _ _ (by rfl) (by rfl) _ _ hb0 (by kernel_rfl) (by rfl) (by simp [Value.oneCell']) ?_)
  refine bodyPost_ret (rparse_res _ _ w.heap.size _ _ rfl rfl rfl (setRow_heap _ _ _ _ _ _ hb0)) rfl ⟨?_, below_setRow HR3.out.below (Nat.le_refl _) _⟩
  rw [parseL_bad HK.out (.inl HLB.out)]
  exact rfl
set_option maxRecDepth 100000 in
set_option maxHeartbeats 4000000 in
theorem rp_bad6 (s : ByteArray) (hs : s.size ≤ 100000) (w : World) (ws : List (List UInt8)) (hws : splitS s.data.toList = ws) (hk : kindW (ws.headD []) = some 6) (hl : ws.length ≠ 1 + fLen 6) :
    Calls Tryz.prog 7 #[.string s] w (ParsePost ws w) := by
  have HWL : ∀ x ∈ ws, x.length ≤ 100000 := fun x hx => by rw [← hws] at hx; have := split_len _ x hx; have e : s.data.toList.length = s.size := rfl; omega
  obtain ⟨f0, hf0, hh0⟩ : ∃ f0, ws[0]? = some f0 ∧ ws.headD [] = f0 := by
    cases ws with
    | nil => exact absurd hws (splitS_ne _)
    | cons a b => exact ⟨a, rfl, rfl⟩
  have HX := Lib.hid HWL
  have hl0 : (0 : Int) < (ws.length : Int) := by have := (List.getElem?_eq_some_iff.1 hf0).1; omega
  have HF := Lib.hid hf0
  have HH := Lib.hid hh0
  have HC := Lib.hid (rwords_any s hs (w.alloc (.cells (ClCells (Cl.of 0) (.slice none 0 0) (.slice none 0 0) (.slice none 0 0)) 34)))
  rw [hws] at HC
  have HS := Lib.hid hws
  clear HWL hf0 hh0 hws
  have hki : kindI f0 = 7 := by unfold kindI; rw [← HH.out, hk]; rfl
  have hle : ((ws.length : Int) != 2) = true := by rw [bne_iff_ne]; intro e; apply hl; have : fLen 6 = 1 := rfl; omega
  have HK := Lib.hid hk
  have HLB := Lib.hid hl
  clear hk hl
  go_enter Tryz.func7, Tryz.ntmps7
  go_wp2_with fail
  refine HC.out.mono ?_
  rintro e w1 ⟨⟨L, cap, hL0, rfl, hL, hwc⟩, hb1⟩
  have hres := blk_call hb1 (blk_new w _ _ rfl)
  have hbel : Below w.heap.size w w1 := below_call ((Below.refl _ _).alloc (Nat.le_refl _) _) hb1
  have c0 := hwc 0 f0 HF.out
  have HWC := Lib.hid hwc
  clear hwc hb1 HC hL0
  go_wp2_with fail
  refine (rkind_any (bsOf f0) w1).mono ?_
  rintro e w2 ⟨rfl, hb2⟩
  rw [bsOf_data]
  have hL2 : L < w2.heap.size := Nat.lt_of_lt_of_le hL hb2.size
  have hwc2 : ∀ j x, ws[j]? = some x → w2.cell? ⟨L, j, none⟩ = some (.string (bsOf x)) := fun j x hx => (hb2.cell (p := ⟨L, j, none⟩) hL).trans (HWC.out j x hx)
  have hres2 := blk_call hb2 hres
  have hbel2 := below_call hbel hb2
  clear c0 hb2 hres hbel hL HWC
  rw [hki]
  have hR := RSt.start (w := w) #[.int .i64 7, .int .i64 0, .int .i64 0, .int .i64 0, .slice none 0 0, .slice none 0 0, .slice none 0 0, .int .u64 0, .int .u64 0] hwc2 hL2 hres2 hbel2
  have HR := Lib.hid hR
  clear hwc2 hL2 hres2 hbel2 hR hki
  have b0 := blk_cell HR.out.box 0
  go_wp2_with fail
  refine (rsize_any 6 (by omega) _).mono ?_
  rintro e w3 ⟨rfl, hb3⟩
  have HR3 := Lib.hid (HR.out.call hb3)
  have hfl : (1 : Int) + (fLen 6 : Int) = 2 := rfl
  rw [hfl]
  clear b0 hb3 hfl
  have hb0 := HR3.out.res
  go_wp2_with (refine wpList_store_row (by rfl) 34 (.tmp 2) (.tmp 35) (by rfl) _ _ (by rfl) (by rfl) _ _ hb0 (by kernel_rfl) (by rfl) (by simp [Value.oneCell']) ?_)
  refine bodyPost_ret (rparse_res _ _ w.heap.size _ _ rfl rfl rfl (setRow_heap _ _ _ _ _ _ hb0)) rfl ⟨?_, below_setRow HR3.out.below (Nat.le_refl _) _⟩
  rw [parseL_bad HK.out (.inl HLB.out)]
  exact rfl
set_option maxRecDepth 100000 in
set_option maxHeartbeats 4000000 in
theorem rp_bad7 (s : ByteArray) (hs : s.size ≤ 100000) (w : World) (ws : List (List UInt8)) (hws : splitS s.data.toList = ws) (hk : kindW (ws.headD []) = some 7) (hl : ws.length ≠ 1 + fLen 7) :
    Calls Tryz.prog 7 #[.string s] w (ParsePost ws w) := by
  have HWL : ∀ x ∈ ws, x.length ≤ 100000 := fun x hx => by rw [← hws] at hx; have := split_len _ x hx; have e : s.data.toList.length = s.size := rfl; omega
  obtain ⟨f0, hf0, hh0⟩ : ∃ f0, ws[0]? = some f0 ∧ ws.headD [] = f0 := by
    cases ws with
    | nil => exact absurd hws (splitS_ne _)
    | cons a b => exact ⟨a, rfl, rfl⟩
  have HX := Lib.hid HWL
  have hl0 : (0 : Int) < (ws.length : Int) := by have := (List.getElem?_eq_some_iff.1 hf0).1; omega
  have HF := Lib.hid hf0
  have HH := Lib.hid hh0
  have HC := Lib.hid (rwords_any s hs (w.alloc (.cells (ClCells (Cl.of 0) (.slice none 0 0) (.slice none 0 0) (.slice none 0 0)) 34)))
  rw [hws] at HC
  have HS := Lib.hid hws
  clear HWL hf0 hh0 hws
  have hki : kindI f0 = 8 := by unfold kindI; rw [← HH.out, hk]; rfl
  have hle : ((ws.length : Int) != 2) = true := by rw [bne_iff_ne]; intro e; apply hl; have : fLen 7 = 1 := rfl; omega
  have HK := Lib.hid hk
  have HLB := Lib.hid hl
  clear hk hl
  go_enter Tryz.func7, Tryz.ntmps7
  go_wp2_with fail
  refine HC.out.mono ?_
  rintro e w1 ⟨⟨L, cap, hL0, rfl, hL, hwc⟩, hb1⟩
  have hres := blk_call hb1 (blk_new w _ _ rfl)
  have hbel : Below w.heap.size w w1 := below_call ((Below.refl _ _).alloc (Nat.le_refl _) _) hb1
  have c0 := hwc 0 f0 HF.out
  have HWC := Lib.hid hwc
  clear hwc hb1 HC hL0
  go_wp2_with fail
  refine (rkind_any (bsOf f0) w1).mono ?_
  rintro e w2 ⟨rfl, hb2⟩
  rw [bsOf_data]
  have hL2 : L < w2.heap.size := Nat.lt_of_lt_of_le hL hb2.size
  have hwc2 : ∀ j x, ws[j]? = some x → w2.cell? ⟨L, j, none⟩ = some (.string (bsOf x)) := fun j x hx => (hb2.cell (p := ⟨L, j, none⟩) hL).trans (HWC.out j x hx)
  have hres2 := blk_call hb2 hres
  have hbel2 := below_call hbel hb2
  clear c0 hb2 hres hbel hL HWC
  rw [hki]
  have hR := RSt.start (w := w) #[.int .i64 8, .int .i64 0, .int .i64 0, .int .i64 0, .slice none 0 0, .slice none 0 0, .slice none 0 0, .int .u64 0, .int .u64 0] hwc2 hL2 hres2 hbel2
  have HR := Lib.hid hR
  clear hwc2 hL2 hres2 hbel2 hR hki
  have b0 := blk_cell HR.out.box 0
  go_wp2_with fail
  refine (rsize_any 7 (by omega) _).mono ?_
  rintro e w3 ⟨rfl, hb3⟩
  have HR3 := Lib.hid (HR.out.call hb3)
  have hfl : (1 : Int) + (fLen 7 : Int) = 2 := rfl
  rw [hfl]
  clear b0 hb3 hfl
  have hb0 := HR3.out.res
  go_wp2_with (refine wpList_store_row (by rfl) 34 (.tmp 2) (.tmp 35) (by rfl) _ _ (by rfl) (by rfl) _ _ hb0 (by kernel_rfl) (by rfl) (by simp [Value.oneCell']) ?_)
  refine bodyPost_ret (rparse_res _ _ w.heap.size _ _ rfl rfl rfl (setRow_heap _ _ _ _ _ _ hb0)) rfl ⟨?_, below_setRow HR3.out.below (Nat.le_refl _) _⟩
  rw [parseL_bad HK.out (.inl HLB.out)]
  exact rfl
set_option maxRecDepth 100000 in
set_option maxHeartbeats 4000000 in
theorem rp_bad8 (s : ByteArray) (hs : s.size ≤ 100000) (w : World) (ws : List (List UInt8)) (hws : splitS s.data.toList = ws) (hk : kindW (ws.headD []) = some 8) (hl : ws.length ≠ 1 + fLen 8) :
    Calls Tryz.prog 7 #[.string s] w (ParsePost ws w) := by
  have HWL : ∀ x ∈ ws, x.length ≤ 100000 := fun x hx => by rw [← hws] at hx; have := split_len _ x hx; have e : s.data.toList.length = s.size := rfl; omega
  obtain ⟨f0, hf0, hh0⟩ : ∃ f0, ws[0]? = some f0 ∧ ws.headD [] = f0 := by
    cases ws with
    | nil => exact absurd hws (splitS_ne _)
    | cons a b => exact ⟨a, rfl, rfl⟩
  have HX := Lib.hid HWL
  have hl0 : (0 : Int) < (ws.length : Int) := by have := (List.getElem?_eq_some_iff.1 hf0).1; omega
  have HF := Lib.hid hf0
  have HH := Lib.hid hh0
  have HC := Lib.hid (rwords_any s hs (w.alloc (.cells (ClCells (Cl.of 0) (.slice none 0 0) (.slice none 0 0) (.slice none 0 0)) 34)))
  rw [hws] at HC
  have HS := Lib.hid hws
  clear HWL hf0 hh0 hws
  have hki : kindI f0 = 9 := by unfold kindI; rw [← HH.out, hk]; rfl
  have hle : ((ws.length : Int) != 4) = true := by rw [bne_iff_ne]; intro e; apply hl; have : fLen 8 = 3 := rfl; omega
  have HK := Lib.hid hk
  have HLB := Lib.hid hl
  clear hk hl
  go_enter Tryz.func7, Tryz.ntmps7
  go_wp2_with fail
  refine HC.out.mono ?_
  rintro e w1 ⟨⟨L, cap, hL0, rfl, hL, hwc⟩, hb1⟩
  have hres := blk_call hb1 (blk_new w _ _ rfl)
  have hbel : Below w.heap.size w w1 := below_call ((Below.refl _ _).alloc (Nat.le_refl _) _) hb1
  have c0 := hwc 0 f0 HF.out
  have HWC := Lib.hid hwc
  clear hwc hb1 HC hL0
  go_wp2_with fail
  refine (rkind_any (bsOf f0) w1).mono ?_
  rintro e w2 ⟨rfl, hb2⟩
  rw [bsOf_data]
  have hL2 : L < w2.heap.size := Nat.lt_of_lt_of_le hL hb2.size
  have hwc2 : ∀ j x, ws[j]? = some x → w2.cell? ⟨L, j, none⟩ = some (.string (bsOf x)) := fun j x hx => (hb2.cell (p := ⟨L, j, none⟩) hL).trans (HWC.out j x hx)
  have hres2 := blk_call hb2 hres
  have hbel2 := below_call hbel hb2
  clear c0 hb2 hres hbel hL HWC
  rw [hki]
  have hR := RSt.start (w := w) #[.int .i64 9, .int .i64 0, .int .i64 0, .int .i64 0, .slice none 0 0, .slice none 0 0, .slice none 0 0, .int .u64 0, .int .u64 0] hwc2 hL2 hres2 hbel2
  have HR := Lib.hid hR
  clear hwc2 hL2 hres2 hbel2 hR hki
  have b0 := blk_cell HR.out.box 0
  go_wp2_with fail
  refine (rsize_any 8 (by omega) _).mono ?_
  rintro e w3 ⟨rfl, hb3⟩
  have HR3 := Lib.hid (HR.out.call hb3)
  have hfl : (1 : Int) + (fLen 8 : Int) = 4 := rfl
  rw [hfl]
  clear b0 hb3 hfl
  have hb0 := HR3.out.res
  go_wp2_with (refine wpList_store_row (by rfl) 34 (.tmp 2) (.tmp 35) (by rfl) _ _ (by rfl) (by rfl) _ _ hb0 (by kernel_rfl) (by rfl) (by simp [Value.oneCell']) ?_)
  refine bodyPost_ret (rparse_res _ _ w.heap.size _ _ rfl rfl rfl (setRow_heap _ _ _ _ _ _ hb0)) rfl ⟨?_, below_setRow HR3.out.below (Nat.le_refl _) _⟩
  rw [parseL_bad HK.out (.inl HLB.out)]
  exact rfl
set_option maxRecDepth 100000 in
set_option maxHeartbeats 4000000 in
theorem rp_bad9 (s : ByteArray) (hs : s.size ≤ 100000) (w : World) (ws : List (List UInt8)) (hws : splitS s.data.toList = ws) (hk : kindW (ws.headD []) = some 9) (hl : ws.length ≠ 1 + fLen 9) :
    Calls Tryz.prog 7 #[.string s] w (ParsePost ws w) := by
  have HWL : ∀ x ∈ ws, x.length ≤ 100000 := fun x hx => by rw [← hws] at hx; have := split_len _ x hx; have e : s.data.toList.length = s.size := rfl; omega
  obtain ⟨f0, hf0, hh0⟩ : ∃ f0, ws[0]? = some f0 ∧ ws.headD [] = f0 := by
    cases ws with
    | nil => exact absurd hws (splitS_ne _)
    | cons a b => exact ⟨a, rfl, rfl⟩
  have HX := Lib.hid HWL
  have hl0 : (0 : Int) < (ws.length : Int) := by have := (List.getElem?_eq_some_iff.1 hf0).1; omega
  have HF := Lib.hid hf0
  have HH := Lib.hid hh0
  have HC := Lib.hid (rwords_any s hs (w.alloc (.cells (ClCells (Cl.of 0) (.slice none 0 0) (.slice none 0 0) (.slice none 0 0)) 34)))
  rw [hws] at HC
  have HS := Lib.hid hws
  clear HWL hf0 hh0 hws
  have hki : kindI f0 = 10 := by unfold kindI; rw [← HH.out, hk]; rfl
  have hle : ((ws.length : Int) != 2) = true := by rw [bne_iff_ne]; intro e; apply hl; have : fLen 9 = 1 := rfl; omega
  have HK := Lib.hid hk
  have HLB := Lib.hid hl
  clear hk hl
  go_enter Tryz.func7, Tryz.ntmps7
  go_wp2_with fail
  refine HC.out.mono ?_
  rintro e w1 ⟨⟨L, cap, hL0, rfl, hL, hwc⟩, hb1⟩
  have hres := blk_call hb1 (blk_new w _ _ rfl)
  have hbel : Below w.heap.size w w1 := below_call ((Below.refl _ _).alloc (Nat.le_refl _) _) hb1
  have c0 := hwc 0 f0 HF.out
  have HWC := Lib.hid hwc
  clear hwc hb1 HC hL0
  go_wp2_with fail
  refine (rkind_any (bsOf f0) w1).mono ?_
  rintro e w2 ⟨rfl, hb2⟩
  rw [bsOf_data]
  have hL2 : L < w2.heap.size := Nat.lt_of_lt_of_le hL hb2.size
  have hwc2 : ∀ j x, ws[j]? = some x → w2.cell? ⟨L, j, none⟩ = some (.string (bsOf x)) := fun j x hx => (hb2.cell (p := ⟨L, j, none⟩) hL).trans (HWC.out j x hx)
  have hres2 := blk_call hb2 hres
  have hbel2 := below_call hbel hb2
  clear c0 hb2 hres hbel hL HWC
  rw [hki]
  have hR := RSt.start (w := w) #[.int .i64 10, .int .i64 0, .int .i64 0, .int .i64 0, .slice none 0 0, .slice none 0 0, .slice none 0 0, .int .u64 0, .int .u64 0] hwc2 hL2 hres2 hbel2
  have HR := Lib.hid hR
  clear hwc2 hL2 hres2 hbel2 hR hki
  have b0 := blk_cell HR.out.box 0
  go_wp2_with fail
  refine (rsize_any 9 (by omega) _).mono ?_
  rintro e w3 ⟨rfl, hb3⟩
  have HR3 := Lib.hid (HR.out.call hb3)
  have hfl : (1 : Int) + (fLen 9 : Int) = 2 := rfl
  rw [hfl]
  clear b0 hb3 hfl
  have hb0 := HR3.out.res
  go_wp2_with (refine wpList_store_row (by rfl) 34 (.tmp 2) (.tmp 35) (by rfl) _ _ (by rfl) (by rfl) _ _ hb0 (by kernel_rfl) (by rfl) (by simp [Value.oneCell']) ?_)
  refine bodyPost_ret (rparse_res _ _ w.heap.size _ _ rfl rfl rfl (setRow_heap _ _ _ _ _ _ hb0)) rfl ⟨?_, below_setRow HR3.out.below (Nat.le_refl _) _⟩
  rw [parseL_bad HK.out (.inl HLB.out)]
  exact rfl
end Go.Proofs.YtgfncnnidacllaaGreatDoor
