/- Lemmas for the claim: merkle.New and (*Stream).Clone at SHA-224 and SHA-256, before anything is written: a stream lies in a new block. -/
import Derived.Test.YtlbnnlnjdkjppaaGreatDoorTable
import Derived.Test.YtlbnnlnjdkjppaaGreatDoorSponge
namespace Go.Proofs.YtlbnnlnjdkjppaaGreatDoor
open Go.RowKit

def kindV : Value := .iface 96 (.agg #[.int .i64 64])
/-- A stream of SHA-224 or SHA-256 at its beginning, as its cells. -/
def stCells (a : Int) (c : Nat → Int) : Array Value := #[.int .i64 a, .int .u64 (c 0), .int .u64 (c 1), .int .u64 (c 2), .int .u64 (c 3), .int .u64 (c 4), .int .u64 (c 5), .int .u64 (c 6), .int .u64 (c 7), .int .u64 0, .int .u64 0, .slice none 0 0, .bool false, kindV]
def StreamAt (w : World) (b : Nat) (a : Int) : Prop := ∃ c, w.heap[b]? = some (.cells (stCells a c) 75 (0, 0))

set_option maxRecDepth 100000 in
set_option maxHeartbeats 1000000 in
theorem mof_any (a : Int) (ha : a = 1 ∨ a = 2) (w : World) : Calls Tryz.prog 33 #[.int .i64 a] w fun e w' => e = .returned (.iface 96 (.agg #[.int .i64 64])) ∧ w = w' := by
  rcases ha with rfl | rfl
  all_goals
    go_enter Tryz.func33, Tryz.ntmps33
    go_wp2
    go_returns
    exact ⟨rfl, rfl⟩

set_option maxRecDepth 100000 in
set_option maxHeartbeats 8000000 in
theorem reset_any (a b' : Int) (hab : (a = 1 ∧ b' = 224) ∨ (a = 2 ∧ b' = 256)) (b : Nat) (w : World) (hS : StreamAt w b a) :
    Calls Tryz.prog 34 #[.pointer (some ⟨b, 0, none⟩)] w fun e w' => e = .returned (.tuple #[]) ∧ StreamAt w' b a ∧ w.heap.size ≤ w'.heap.size ∧ (∀ k, k < w.heap.size → k ≠ b → w'.heap[k]? = w.heap[k]?) ∧ w'.os = w.os ∧ w'.tape = w.tape ∧ w'.output = w.output := by
  obtain ⟨c, hc⟩ := hS
  have k0 : w.cell? ⟨b, 0, none⟩ = some (.int .i64 a) := (blk_cell hc 0).trans rfl
  have HV := Lib.hid (value_any a b' hab)
  clear hab
  go_enter Tryz.func34, Tryz.ntmps34
  go_wp2_with fail
  refine (HV.out _).mono ?_
  rintro e w1 ⟨⟨d, rfl⟩, hw⟩
  have hc1 := blk_call hw hc
  have q0 : w1.cell? ⟨b, 0, none⟩ = some (.int .i64 a) := (blk_cell hc1 0).trans rfl
  have q1 : w1.cell? ⟨b, 1, none⟩ = some (.int .u64 (c 0)) := (blk_cell hc1 1).trans rfl
  have q2 : w1.cell? ⟨b, 2, none⟩ = some (.int .u64 (c 1)) := (blk_cell hc1 2).trans rfl
  have q3 : w1.cell? ⟨b, 3, none⟩ = some (.int .u64 (c 2)) := (blk_cell hc1 3).trans rfl
  have q4 : w1.cell? ⟨b, 4, none⟩ = some (.int .u64 (c 3)) := (blk_cell hc1 4).trans rfl
  have q5 : w1.cell? ⟨b, 5, none⟩ = some (.int .u64 (c 4)) := (blk_cell hc1 5).trans rfl
  have q6 : w1.cell? ⟨b, 6, none⟩ = some (.int .u64 (c 5)) := (blk_cell hc1 6).trans rfl
  have q7 : w1.cell? ⟨b, 7, none⟩ = some (.int .u64 (c 6)) := (blk_cell hc1 7).trans rfl
  have q8 : w1.cell? ⟨b, 8, none⟩ = some (.int .u64 (c 7)) := (blk_cell hc1 8).trans rfl
  have q9 : w1.cell? ⟨b, 9, none⟩ = some (.int .u64 0) := (blk_cell hc1 9).trans rfl
  have q10 : w1.cell? ⟨b, 10, none⟩ = some (.int .u64 0) := (blk_cell hc1 10).trans rfl
  have q11 : w1.cell? ⟨b, 11, none⟩ = some (.slice none 0 0) := (blk_cell hc1 11).trans rfl
  have q12 : w1.cell? ⟨b, 12, none⟩ = some (.bool false) := (blk_cell hc1 12).trans rfl
  have hz : ∀ i, w1.frozen? ⟨b, i, none⟩ = false := blk_frozen hc1
  have hlt := blk_lt hc1
  have HW := Lib.hid hw
  have HC := Lib.hid hc1
  clear hw hc hc1 k0
  go_wp2_with fail
  go_region
  go_wp2_with fail
  go_returns
  have hw := HW.out
  have hst := (blk_set (blk_set (blk_set (blk_set (blk_set (blk_set (blk_set (blk_set (blk_set (blk_set (blk_set (blk_set (blk_set HC.out 0 (.int .i64 a)) 1 (.int .u64 (d 0))) 2 (.int .u64 (d 1))) 3 (.int .u64 (d 2))) 4 (.int .u64 (d 3))) 5 (.int .u64 (d 4))) 6 (.int .u64 (d 5))) 7 (.int .u64 (d 6))) 8 (.int .u64 (d 7))) 9 (.int .u64 0)) 10 (.int .u64 0)) 11 (.slice none 0 0)) 12 (.bool false))
  simp only [stCells, List.setIfInBounds_toArray, List.set_cons_zero, List.set_cons_succ] at hst
  have ed : ∀ X : World, X.drew.heap = X.heap := fun _ => rfl
  refine ⟨by rfl, ⟨d, ?_⟩, ?_, ?_, ?_⟩
  · rw [stCells, ed]
    exact blk_alloc hst
  · have := hw.size
    rw [ed]
    simp only [World.size_alloc, size_set]
    omega
  · intro k hk hne
    have h1 := hw.size
    rw [ed, Below.heap_alloc _ _ k (by simp only [size_set]; omega)]
    simp only [old_set _ _ _ _ _ hne]
    exact hw.block k hk
  · simp only [set_os, set_tape, set_output, alloc_os, alloc_tape, alloc_output, drew_os, drew_tape, drew_output]
    exact ⟨hw.os, hw.tape, hw.output⟩

end Go.Proofs.YtlbnnlnjdkjppaaGreatDoor
