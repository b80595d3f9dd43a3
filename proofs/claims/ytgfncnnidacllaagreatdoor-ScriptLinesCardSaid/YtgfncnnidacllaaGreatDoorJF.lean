/- Lemmas for the claim: alg.Find: a word's number, by a range over a function; getAlg. -/
import Derived.Test.YtgfncnnidacllaaGreatDoorJA
import Derived.Test.YtgfncnnidacllaaGreatDoorJE
import Derived.RangeFuncNested
import Derived.RangeFuncBox
import Derived.RangeFuncBound
import Derived.RangeFuncCalls
import Derived.RangeFuncLeaves
import Derived.Shelf.Abstract
import Derived.Shelf.RegionOpen
import Derived.WalkKit
import Derived.OwnWalkIn
import Derived.TacticsInMore
import Derived.LoopNIn
import Derived.LoopIn
set_option linter.unusedVariables false
set_option linter.unusedSimpArgs false
namespace Go.Proofs.YtgfncnnidacllaaGreatDoor
open Go.RowKit Go.Shelf
attribute [local go_sem] Oper.semAt_some
def wS (a : Nat) : ByteArray := ⟨(entAt a).1.toArray⟩
theorem cell_new_l (W : World) (v : Value) (t : TypeId) : (W.alloc (.cells #[v] t)).cell? ⟨W.heap.size, 0, none⟩ = some v ∧ (W.alloc (.cells #[v] t)).frozen? ⟨W.heap.size, 0, none⟩ = false :=
  ⟨blk_cell (heap_alloc_new W _) 0, blk_frozen (heap_alloc_new W _) 0⟩
theorem cell_alloc_l {W : World} {a : Addr} {v : Value} (o : Obj) (h : W.cell? a = some v) : (W.alloc o).cell? a = some v := cell_kept h (World.grownBy_alloc W o none) (fun r e => by cases e)
theorem frozen_alloc_l {W : World} {a : Addr} {v : Value} (o : Obj) (h : W.cell? a = some v) (hf : W.frozen? a = false) : (W.alloc o).frozen? a = false := (frozen_kept h (World.grownBy_alloc W o none) (fun r e => by cases e)).trans hf
def upA (k : Nat) : List Nat := List.range' 1 (k - 1)
theorem upA_succ (k : Nat) (h : 1 ≤ k) : upA (k + 1) = upA k ++ [k] := by
  obtain ⟨j, rfl⟩ : ∃ j, k = j + 1 := ⟨k - 1, by omega⟩
  unfold upA
  simp [List.range'_concat]
  omega
theorem upA_length (k : Nat) : (upA k).length = k - 1 := by simp [upA]
abbrev encA (x : Nat) : Array Value := #[Value.int .i64 (x : Int), Value.string (wS x)]
set_option maxRecDepth 100000 in
set_option maxHeartbeats 2000000 in
theorem all1_in (F : Fence) (n : Nat) (h8 : F.fn 81) (hro : F.round = none) (hn : 1 ≤ n) (l n₀ : Nat) (J Jx : List Nat → World → Prop)
    (hY : ∀ (pre : List Nat) (x : Nat) (W : World), J pre W → pre.length < 14 → YieldAt F (n - 1) Tryz.prog l #[.int .i64 (x : Int), .string (wS x)] W fun e W' =>
      (e = .returned (.bool true) ∧ J (pre ++ [x]) W' ∧ Below n₀ W W') ∨ (e = .returned (.bool false) ∧ Jx (pre ++ [x]) W'))
    (W : World) (hE : Ents W) (hb : 0 < n₀) (h0 : J [] W) :
    CallsIn F n Tryz.prog 81 #[.func (.yield l) #[] #[]] W fun e W' => (∃ v, e = .returned v) ∧
      ((∃ ys, ys = upA 15 ∧ J ys W') ∨ (∃ pre, (∃ k, 1 ≤ k ∧ k ≤ 15 ∧ pre = upA k) ∧ Jx pre W')) := by
  refine callsIn_of_wp Tryz.func81 rfl h8 ?_ hro
  simp only [Tryz.ntmps81, List.size_toArray, List.length_cons, List.length_nil, Nat.reduceAdd, Nat.reduceSub, Array.replicate_succ, Array.replicate_zero, List.push_toArray, List.append_toArray, List.nil_append, List.cons_append]
  have HE := Lib.hid hE
  clear hE
  gi_wp2
  gi_loopw [2] (fun i wr => ∃ k : Nat, 1 ≤ k ∧ k ≤ 15 ∧ i = .int .i64 k ∧ J (upA k) wr ∧ Below n₀ W wr)
    (fun i _ => 15 - (intOf i).toNat)
  case atStart => exact ⟨1, by omega, by omega, rfl, h0, Below.refl _ _⟩
  case round =>
    obtain ⟨k, hk1, hk, rfl, hJs, hnx⟩ := hrel
    by_cases hlt : k < 15
    · obtain ⟨fn, tmps, assign, body, hy, hR⟩ := hY _ k wr hJs (by rw [upA_length]; omega)
      have hcx : wr.cell? ⟨0, k * 4, none⟩ = some (.string (wS k)) := by
        obtain ⟨t, ht⟩ := HE.out
        exact (hnx.cell (p := ⟨0, k * 4, none⟩) hb).trans ((blk_cell ht (k * 4)).trans (ent_cells k hlt).1)
      gi_wp2
      refine hR.mono ?_
      rintro e W3 (⟨rfl, hJ3, hk3⟩ | ⟨rfl, hJx3⟩)
      · gi_wp2
        go_roundw
        case rel => exact ⟨k + 1, by omega, by omega, by simp, by rw [upA_succ k hk1]; exact hJ3, hnx.trans hk3⟩
        case measure => simp [intOf]; omega
      · gi_wp2
        refine bodyPost_ret (results_none rfl _ _ _) rfl ?_
        exact ⟨⟨_, rfl⟩, .inr ⟨_, ⟨k + 1, by omega, by omega, (upA_succ k hk1).symm⟩, hJx3⟩⟩
    · obtain rfl : k = 15 := by omega
      gi_wp2
      go_end0
      exact ⟨⟨_, rfl⟩, .inl ⟨_, rfl, hJs⟩⟩
theorem all_stops (F : Fence) (n : Nat) (h8 : F.fn 81) (hro : F.round = none) (hn : 1 ≤ n) (n₀ : Nat) (w : World) (hE : Ents w) (hb : 0 < n₀) :
    SeqStopsK F n Tryz.prog 81 #[] encA (Below n₀) (fun ys => ys = upA 15) (fun pre => ∃ k, 1 ≤ k ∧ k ≤ 15 ∧ pre = upA k) 14 w := fun l J Jx W hW _ _ hY h0 =>
  all1_in F n h8 hro hn l n₀ J Jx hY W (hE.below hW) hb h0
theorem all_in (F : Fence) (n : Nat) (h : F.fn 70) (hro : F.round = none) (w : World) :
    CallsIn F n Tryz.prog 70 #[] w fun e w' => e = .returned (.func (.func 81) #[] #[]) ∧ w = w' := by
  refine callsIn_of_wp Tryz.func70 rfl h ?_ hro
  simp only [Tryz.ntmps70, List.size_toArray, List.length_cons, List.length_nil, Nat.reduceAdd, Nat.reduceSub, Array.replicate_succ, Array.replicate_zero, List.push_toArray, List.append_toArray, List.nil_append, List.cons_append]
  gi_wp2
  exact bodyPost_ret (results_tmp rfl _ _ _) rfl ⟨rfl, rfl⟩
def findN (l : List UInt8) : Option Nat := (upA 15).find? fun a => (entAt a).1 == l
theorem find_hit {l : List UInt8} {k x : Nat} (hk1 : 1 ≤ k) (hk : k ≤ 15) {ini : List Nat} (e : upA k = ini ++ [x]) (hn : ∀ y ∈ ini, (entAt y).1 ≠ l) (hx : (entAt x).1 = l) : findN l = some x := by
  have hp : upA 15 = upA k ++ List.range' k (15 - k) := by
    have h := List.range'_append_1 (s := 1) (m := k - 1) (n := 15 - k)
    rw [show 1 + (k - 1) = k by omega, show k - 1 + (15 - k) = 15 - 1 by omega] at h
    exact h.symm
  unfold findN
  rw [hp, e, List.append_assoc, List.find?_append]
  have : List.find? (fun a => (entAt a).1 == l) ini = none := by
    rw [List.find?_eq_none]
    intro y hy
    simp [hn y hy]
  rw [this]
  simp [hx]
theorem find_miss {l : List UInt8} (hn : ∀ y ∈ upA 15, (entAt y).1 ≠ l) : findN l = none := by
  unfold findN
  rw [List.find?_eq_none]
  intro y hy
  simp [hn y hy]
theorem ba_list (s : ByteArray) : s.toList = s.data.toList := by
  obtain ⟨⟨l⟩⟩ := s
  exact ByteArray.toList_mk l
theorem set2_cells {W : World} {N : Nat} {v0 u0 : Value} (v u : Value) (h0 : W.cell? ⟨N, 0, none⟩ = some v0) (h1 : W.cell? ⟨N + 1, 0, none⟩ = some u0) :
    ((W.setCell ⟨N, 0, none⟩ v).setCell ⟨N + 1, 0, none⟩ u).cell? ⟨N, 0, none⟩ = some v ∧ ((W.setCell ⟨N, 0, none⟩ v).setCell ⟨N + 1, 0, none⟩ u).cell? ⟨N + 1, 0, none⟩ = some u := by
  refine ⟨?_, ?_⟩
  · rw [World.cell?_setCell_far _ _ _ _ (by simp)]
    exact World.cell?_setCell_same' _ _ _ (by rw [h0]; rfl)
  · exact World.cell?_setCell_same' _ _ _ (by rw [World.cell?_setCell_far _ _ _ _ (by simp), h1]; rfl)
set_option maxRecDepth 100000 in
set_option maxHeartbeats 2000000 in
theorem find_in (F : Fence) (n : Nat) (h4 : F.fn 59) (h5 : F.fn 70) (h6 : F.fn 81) (hro : F.round = none) (hn : 3 ≤ n) (s : ByteArray) (w : World) (hE : Ents w) :
    CallsIn F n Tryz.prog 59 #[.string s] w fun e W' => e = .returned (.tuple #[.int .i64 ((findN s.data.toList).elim 0 fun a => (a : Int)), .bool (findN s.data.toList).isSome]) ∧ Below w.heap.size w W' := by
  have h1 : 1 ≤ n := by omega
  have hg : 0 < w.heap.size := let ⟨_, h⟩ := hE; blk_lt h
  refine callsIn_of_wp_marks Tryz.func59 rfl h4 ?_ hro
  simp only [Tryz.ntmps59, List.size_toArray, List.length_cons, List.length_nil, Nat.reduceAdd, Nat.reduceSub, Array.replicate_succ, Array.replicate_zero, List.push_toArray, List.append_toArray, List.nil_append, List.cons_append]
  have HE := Lib.hid hE
  clear hE
  gi_wp2_with (gi_at_call 70; refine (all_in F (n - 1) h5 hro _).mono ?_; rintro e w' ⟨rfl, rfl⟩)
  have c0 := cell_new_l w (.string s) 9
  have c1 := cell_new_l (w.alloc (.cells #[.string s] 9)) (.int .i64 0) 3
  have c2 := cell_new_l ((w.alloc (.cells #[.string s] 9)).alloc (.cells #[.int .i64 0] 3)) (.bool false) 4
  simp only [World.size_alloc] at c1 c2
  have hB0 : Below w.heap.size w (((w.alloc (.cells #[.string s] 9)).alloc (.cells #[.int .i64 0] 3)).alloc (.cells #[.bool false] 4)) := (((Below.refl _ w).alloc (Nat.le_refl _) _).alloc (by simp) _).alloc (by simp; omega) _
  refine wpIn_rangeFunc_ownF hro h1 (gf := 81) (lb := #[]) rfl h6 (enters_of Tryz.func81 (by kernel_rfl) rfl)
    (all_stops F (n - 1) h6 hro (by omega) w.heap.size _ (HE.out.below hB0) hg) belowK_t (belowK_b (by simp; omega)) (Below.refl _ _) (fun _ => rfl)
    (fun pre W => ((∀ y ∈ pre, (entAt y).1 ≠ s.data.toList) ∧ W.cell? ⟨w.heap.size, 0, none⟩ = some (.string s) ∧ W.cell? ⟨w.heap.size + 1, 0, none⟩ = some (.int .i64 0) ∧ W.frozen? ⟨w.heap.size + 1, 0, none⟩ = false ∧ W.cell? ⟨w.heap.size + 1 + 1, 0, none⟩ = some (.bool false) ∧ W.frozen? ⟨w.heap.size + 1 + 1, 0, none⟩ = false) ∧ Below w.heap.size w W)
    (fun c pre W => (c = .ret ∧ ∃ ini x, pre = ini ++ [x] ∧ (∀ y ∈ ini, (entAt y).1 ≠ s.data.toList) ∧ (entAt x).1 = s.data.toList ∧ W.cell? ⟨w.heap.size + 1, 0, none⟩ = some (.int .i64 (x : Int)) ∧ W.cell? ⟨w.heap.size + 1 + 1, 0, none⟩ = some (.bool true)) ∧ Below w.heap.size w W)
    (OwnFrom.and (Own.from (fun s A B row hs hg hr => ⟨hs.1, cell_kept hs.2.1 hg hr, cell_kept hs.2.2.1 hg hr, (frozen_kept hs.2.2.1 hg hr).trans hs.2.2.2.1, cell_kept hs.2.2.2.2.1 hg hr, (frozen_kept hs.2.2.2.2.1 hg hr).trans hs.2.2.2.2.2⟩) _) (ownFrom_below (Nat.le_refl _) (by simp; omega)))
    (fun c => OwnFrom.and (Own.from (fun s A B row hs hg hr => by obtain ⟨hc, ini, x, e1, e2, e3, e4, e5⟩ := hs; exact ⟨hc, ini, x, e1, e2, e3, cell_kept e4 hg hr, cell_kept e5 hg hr⟩) _) (ownFrom_below (Nat.le_refl _) (by simp; omega)))
    ⟨⟨by simp, cell_alloc_l _ (cell_alloc_l _ c0.1), cell_alloc_l _ c1.1, frozen_alloc_l _ c1.1 c1.2, c2.1, c2.2⟩, hB0⟩
    (fun x => { tmps := #[.string s, .pointer (some ⟨w.heap.size, 0, none⟩), .pointer (some ⟨w.heap.size + 1, 0, none⟩), .pointer (some ⟨w.heap.size + 1 + 1, 0, none⟩), .int .i64 (x : Int), .string (wS x), .func (.func 81) #[] #[], .int .i64 (x : Int), .string (wS x), undef, undef, undef, undef], defers := [] }) ?assign ?body ?done ?stop
  case assign =>
    intro l x W K hK
    gi_wp2
    exact hK
  case body =>
    rintro l pre x W ⟨⟨hp, hcs, hcn, hfn, hcb, hfb⟩, hB⟩ _
    gi_wp2
    · rename_i hx
      have hx' : (entAt x).1 = s.data.toList := by
        have := eq_of_beq hx
        rw [ba_list, ba_list] at this
        simpa [wS] using this
      obtain ⟨k1, k2⟩ := set2_cells (.int .i64 (x : Int)) (.bool true) hcn hcb
      exact ⟨(KeepsOthers.setCell _ _ _).trans (KeepsOthers.setCell _ _ _), ⟨rfl, pre, x, rfl, hp, hx', k1, k2⟩, (hB.setCell (p := ⟨w.heap.size + 1, 0, none⟩) (by simp) _).setCell (p := ⟨w.heap.size + 1 + 1, 0, none⟩) (by simp; omega) _⟩
    · rename_i hx
      have hx' : (entAt x).1 ≠ s.data.toList := by
        intro e
        rw [ba_list, ba_list, beq_eq_false_iff_ne] at hx
        exact hx (by simpa [wS] using e)
      exact ⟨KeepsOthers.refl _, Below.refl _ _, ⟨fun y hy => (List.mem_append.1 hy).elim (hp y) (fun e => by simp at e; subst e; exact hx'), hcs, hcn, hfn, hcb, hfb⟩, hB⟩
  case done =>
    rintro D ys W hD rfl ⟨⟨hne, _, hcn, hfn, hcb, hfb⟩, hB⟩ hK
    gi_wp2
    obtain ⟨k1, k2⟩ := set2_cells (.int .i64 0) (.bool false) hcn hcb
    have hK' := ((KeepsOthers.setCell W ⟨w.heap.size + 1, 0, none⟩ (.int .i64 0)).trans (KeepsOthers.setCell _ ⟨w.heap.size + 1 + 1, 0, none⟩ (.bool false))).same D _ hK rfl
    refine ⟨by simp, .inl ⟨_, _, rfl, run_takeDeferred hK', ?_⟩⟩
    have c5 := cell_kept k1 (grownBy_putObj' _ D (.deferred none)) (fun r e => by cases e; exact ⟨_, hK', rfl⟩)
    have c6 := cell_kept k2 (grownBy_putObj' _ D (.deferred none)) (fun r e => by cases e; exact ⟨_, hK', rfl⟩)
    refine ⟨.tuple #[.int .i64 0, .bool false], ?_, by rw [find_miss hne]; rfl, ((hB.setCell (p := ⟨w.heap.size + 1, 0, none⟩) (by simp) _).setCell (p := ⟨w.heap.size + 1 + 1, 0, none⟩) (by simp; omega) _).trans (belowK_b (w := w) (Nat.le_refl _) _ D _ _ (by simp at hD; omega) hK' rfl rfl)⟩
    simp [results, Tryz.f59, go_sem, c5, c6]
  case stop =>
    rintro D c pre W hD ⟨k, hk1, hk, rfl⟩ ⟨⟨rfl, ini, x, e1, e2, e3, hcn, hcb⟩, hB⟩ hK
    gi_wp2
    refine ⟨by simp, .inl ⟨_, _, rfl, run_takeDeferred hK, ?_⟩⟩
    have c5 := cell_kept hcn (grownBy_putObj' _ D (.deferred none)) (fun r e => by cases e; exact ⟨_, hK, rfl⟩)
    have c6 := cell_kept hcb (grownBy_putObj' _ D (.deferred none)) (fun r e => by cases e; exact ⟨_, hK, rfl⟩)
    refine ⟨.tuple #[.int .i64 (x : Int), .bool true], ?_, by rw [find_hit hk1 hk e1 e2 e3]; rfl, hB.trans (belowK_b (w := w) (Nat.le_refl _) W D _ _ (by simp at hD; omega) hK rfl rfl)⟩
    simp [results, Tryz.f59, go_sem, c5, c6]
theorem find_any (s : ByteArray) (w : World) (hE : Ents w) :
    Calls Tryz.prog 59 #[.string s] w fun e W' => e = .returned (.tuple #[.int .i64 ((findN s.data.toList).elim 0 fun a => (a : Int)), .bool (findN s.data.toList).isSome]) ∧ Below w.heap.size w W' :=
  callsIn_wide.1 (find_in Fence.wide 3 trivial trivial trivial rfl (by omega) s w hE)
set_option maxRecDepth 100000 in
set_option maxHeartbeats 4000000 in
theorem getAlg_any : Gets 37 2 (fun l => (findN l).isSome) (fun l _ _ v => ∃ u, findN l = some u ∧ v = .int .i64 u) := by
  intro s c cells w hlim hV hb h9
  obtain ⟨old, hold⟩ : ∃ old, cells[2]? = some old := ⟨cells[2]'(by omega), Array.getElem?_eq_getElem _⟩
  have H := Lib.hid (find_any s w hV.ent)
  clear hV
  go_enter Tryz.func37, Tryz.ntmps37
  go_wp2_with fail
  refine H.out.mono ?_
  rintro e w1 ⟨rfl, hw⟩
  have hb1 := blk_call hw hb
  have hc1 := (blk_cell hb1 2).trans hold
  have hf1 := blk_frozen hb1 2
  go_wp2_with fail
  go_returns
  refine ⟨rfl, ⟨_, blk_set hb1 2 _, fun h => ?_⟩, KeptBut.set hw⟩
  cases hg : findN s.data.toList with
  | none => rw [hg] at h; cases h
  | some u => exact ⟨u, rfl, rfl⟩
end Go.Proofs.YtgfncnnidacllaaGreatDoor
