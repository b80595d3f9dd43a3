/- Lemmas for the claim: script.shapes: the words of lines, and what a line of each has. -/
import Derived.Test.YtgfncnnidacllaaGreatDoorJA
import Derived.Great.Walk
import Derived.Great.BuildSlice
set_option linter.unusedVariables false
set_option linter.unusedSimpArgs false
namespace Go.Proofs.YtgfncnnidacllaaGreatDoor
open Go.RowKit
abbrev fnV (f : FuncId) : Value := .func (.func f) #[] #[]
def shF : List (List (FuncId × FuncId)) :=
  let h := (33, 34)
  let b := (35, 36)
  [[(37, 38), (39, 40), (41, 42)],
   [b], [h], [h, b], [h, b], [h, (43, 44)], [h], [h],
   [h, (45, 46), (47, 48)], [h]]
def shW : List (List UInt8) := [[110, 101, 119], [108, 111, 97, 100], [99, 108, 111, 110, 101], [119, 114, 105, 116, 101], [115, 117, 109], [114, 101, 97, 100], [114, 101, 115, 101, 116], [115, 97, 118, 101], [99, 111, 117, 110, 116], [100, 114, 111, 112]]
def fCells (k : Nat) : Array Value := ((shF.getD k []).flatMap fun p => [fnV p.1, fnV p.2]).toArray
def fLen (k : Nat) : Nat := (shF.getD k []).length
def shCells (B : Nat) : Array Value := ((List.range 10).flatMap fun k => [Value.string ⟨(shW.getD k []).toArray⟩, Value.slice (some ⟨B + k, 0, none⟩) (fLen k) (fLen k)]).toArray
def ShapesAt (B : Nat) (w : World) : Prop := ∀ k, k < 10 → w.heap[B + k]? = some (.cells (fCells k) 55 (0, 0))
theorem ShapesAt.call {B : Nat} {w w1 : World} (hb : Below w.heap.size w w1) (h : ShapesAt B w) : ShapesAt B w1 := fun k hk => blk_call hb (h k hk)
structure ShSt (w W : World) (k : Nat) : Prop where
  size : W.heap.size = w.heap.size + 3 + k
  h0 : ∃ cs, W.heap[w.heap.size]? = some (.cells cs 50 (0, 0)) ∧ cs.size = 20
  h1 : W.heap[w.heap.size + 1]? = some (.cells #[fnV 33, fnV 34] 55 (0, 0))
  h2 : W.heap[w.heap.size + 2]? = some (.cells #[fnV 35, fnV 36] 55 (0, 0))
  blks : ∀ j, j < k → W.heap[w.heap.size + 3 + j]? = some (.cells (fCells j) 55 (0, 0))
  below : Below w.heap.size w W
theorem ShSt.step {w W : World} {k : Nat} (h : ShSt w W k) : ShSt w (W.alloc (.cells (fCells k) 55 (0, 0))) (k + 1) where
  size := by rw [World.size_alloc, h.size]; omega
  h0 := let ⟨cs, a, b⟩ := h.h0; ⟨cs, blk_alloc a, b⟩
  h1 := blk_alloc h.h1
  h2 := blk_alloc h.h2
  blks := fun j hj => by
    by_cases e : j = k
    · subst e; exact blk_new _ _ _ h.size.symm
    · exact blk_alloc (h.blks j (by omega))
  below := h.below.alloc (by rw [h.size]; omega) _
theorem ShSt.cells {w W : World} {k : Nat} (h : ShSt w W k) : W.cell? ⟨w.heap.size + 1, 0, none⟩ = some (fnV 33) ∧ W.cell? ⟨w.heap.size + 1, 1, none⟩ = some (fnV 34) ∧ W.cell? ⟨w.heap.size + 1 + 1, 0, none⟩ = some (fnV 35) ∧ W.cell? ⟨w.heap.size + 1 + 1, 1, none⟩ = some (fnV 36) :=
  ⟨blk_cell h.h1 0, blk_cell h.h1 1, blk_cell h.h2 0, blk_cell h.h2 1⟩
theorem wp_gen {P : Program} {c : Code} {Q : Exit → Act → World → Prop} {a : Act} {W0 : World} (S : World → Prop) (h : S W0) (hg : ∀ W, S W → c.wp P Q a W) : c.wp P Q a W0 := hg W0 h
theorem wpList_gen {P : Program} {ops : Array Oper} {rest : List Oper} {a : Act} {W0 : World} {Q : Exit → Act → World → Prop} (S : World → Prop) (h : S W0) (hg : ∀ W, S W → wpList P ops Q rest a W) : wpList P ops Q rest a W0 := hg W0 h
theorem wpList_shape {w W : World} {k : Nat} {ops : Array Oper} {rest : List Oper} {o : Oper} {a : Act} {Q : Exit → Act → World → Prop} (hs : ShSt w W k) (hg : o.guard = none) (len : Nat) (parts : Array (Nat × Operand)) (ho : o.op = .buildSlice 47 len parts)
    (hf : Tryz.prog.builtSlice 55 len (parts.map fun (i, x) => (i, a.eval x)).toList = some (fCells k))
    (h : ∀ W', ShSt w W' (k + 1) → W'.cell? ⟨w.heap.size + 1, 0, none⟩ = some (fnV 33) → W'.cell? ⟨w.heap.size + 1, 1, none⟩ = some (fnV 34) → W'.cell? ⟨w.heap.size + 1 + 1, 0, none⟩ = some (fnV 35) → W'.cell? ⟨w.heap.size + 1 + 1, 1, none⟩ = some (fnV 36) →
      wpList Tryz.prog ops Q rest (a.put o.dst (.slice (some ⟨w.heap.size + 3 + k, 0, none⟩) len len)) W') : wpList Tryz.prog ops Q (o :: rest) a W := by
  refine Go.Great.wpList_buildSliceTo hg 47 55 len parts ho (w.heap.size + 3 + k) hs.size o.dst rfl (by kernel_rfl) (fCells k) hf ?_
  obtain ⟨c1, c2, c3, c4⟩ := hs.step.cells
  exact h _ hs.step c1 c2 c3 c4
set_option maxRecDepth 100000 in
set_option maxHeartbeats 4000000 in
theorem shapes_any (w : World) :
    Calls Tryz.prog 16 #[] w fun e w' => e = .returned (.agg (shCells (w.heap.size + 3))) ∧ ShapesAt (w.heap.size + 3) w' ∧ Below w.heap.size w w' := by
  go_enter Tryz.func16, Tryz.ntmps16
  go_upto_region 3 with (fail)
  refine wp_gen (fun W => ShSt w W 0) ?_ ?_
  · exact ⟨by simp, ⟨_, blk_alloc (blk_alloc (blk_new _ _ _ rfl)), rfl⟩, blk_alloc (blk_new _ _ _ (by simp)), blk_new _ _ _ (by simp), fun j hj => absurd hj (by omega), by repeat' (first | (with_reducible exact Below.refl _ _) | (with_reducible assumption) | (with_reducible refine below_drewN ?_ _) | (with_reducible refine Below.drew ?_) | (with_reducible refine Below.alloc ?_ ?_ _) | (with_reducible refine Below.setCell ?_ ?_ _) | go_size)⟩
  intro W hs
  obtain ⟨c1, c2, c3, c4⟩ := hs.cells
  obtain ⟨cs0, hr0, hz0⟩ := hs.h0
  go_wp2_with (first
    | (refine wpList_shape hs (by rfl) _ _ (by rfl) (by kernel_rfl) ?_; clear hr0 hz0 cs0; clear hs c1 c2 c3 c4; intro W hs c1 c2 c3 c4; obtain ⟨cs0, hr0, hz0⟩ := hs.h0)
    | (refine wpList_store_row (by rfl) 50 (.tmp 0) (.tmp 42) (by rfl) _ (shCells (w.heap.size + 3)) (by rfl) (by kernel_rfl) _ _ hr0 (by kernel_rfl) hz0 (by simp [Value.oneCell', shCells, List.range, List.range.loop]) ?_))
  have hb2 : (W.setRow w.heap.size (shCells (w.heap.size + 3))).heap[w.heap.size]? = some (.cells (shCells (w.heap.size + 3)) 50 (0, 0)) := setRow_heap W w.heap.size cs0 _ _ (0, 0) hr0
  refine bodyPost_ret (v := .agg (shCells (w.heap.size + 3))) ?_ rfl ⟨rfl, fun k hk => blk_setRow_ne (by omega) (hs.blks k (by omega)), below_setRow hs.below (by omega) _⟩
  exact results_cell_row rfl _ _ w.heap.size _ _ (0, 0) _ (by rfl) hb2 Tryz.underlying50 rfl (by kernel_rfl)
end Go.Proofs.YtgfncnnidacllaaGreatDoor
