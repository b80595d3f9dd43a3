/- Lemmas for the claim: package root (powers, roots): each function returns, whatever numbers it is given, and only makes new memory. -/
import Derived.Test.YtlbnnlnjdkjppaaGreatDoorRoot1
namespace Go.Proofs.YtlbnnlnjdkjppaaGreatDoor
open Go.RowKit

/-- A block of four words. -/
def A4 (w : World) (b : Nat) : Prop := ∃ c0 c1 c2 c3 : Int, w.heap[b]? = some (.cells #[.int .u64 c0, .int .u64 c1, .int .u64 c2, .int .u64 c3] 168 (0, 0))

set_option maxRecDepth 100000 in
set_option maxHeartbeats 4000000 in
theorem power_any (p q : Int) (w : World) :
    Calls Tryz.prog 100 #[.int .u64 p, .int .u64 q, .int .i64 2] w fun e w' => G4 e ∧ Below w.heap.size w w' := by
  go_enter Tryz.func100, Tryz.ntmps100
  go_wp2_with fail
  go_loopw [10] (fun i wr => ∃ k : Nat, k ≤ 2 ∧ i = .int .i64 k ∧ A4 wr w.heap.size ∧ A4 wr (w.heap.size + 1) ∧ Below w.heap.size w wr) (fun i _ => 2 - (intOf i).toNat)
  case atStart => exact ⟨0, by omega, rfl, ⟨_, _, _, _, heap_alloc2_old _ _ _⟩, ⟨_, _, _, _, heap_alloc2_new _ _ _⟩, by repeat' (first | (with_reducible exact Below.refl _ _) | (with_reducible assumption) | (with_reducible refine below_drewN ?_ _) | (with_reducible refine Below.drew ?_) | (with_reducible refine Below.alloc ?_ ?_ _) | (with_reducible refine Below.setCell ?_ ?_ _) | go_size)⟩
  case round =>
    obtain ⟨k, hk, rfl, ⟨a0, a1, a2, a3, ha⟩, ⟨b0, b1, b2, b3, hb⟩, hB⟩ := hrel
    by_cases hlt : k < 2
    · go_wp2_with (first | (refine wpList_load_row (by rfl) 168 (.tmp 7) (by rfl) _ (by rfl) _ _ _ _ hb Tryz.underlying168 rfl (by kernel_rfl) ?_))
      refine (times_any _ _ _ _ _ _ _).mono ?_
      rintro e w1 ⟨⟨c0, c1, c2, c3, rfl⟩, hw⟩
      have ha1 := blk_call hw ha
      have hb1 := blk_call hw hb
      have hB1 := below_call hB hw
      go_wp2_with (first | (refine wpList_store_row (by rfl) 168 (.tmp 7) (.tmp 15) (by rfl) _ _ (by rfl) (by rfl) _ _ hb1 (by kernel_rfl) (by rfl) (by simp [Value.oneCell']) ?_))
      go_roundw
      case rel => exact ⟨k + 1, by omega, by go_num, ⟨_, _, _, _, blk_setRow_ne (by omega) ha1⟩, ⟨_, _, _, _, setRow_heap _ _ _ _ _ _ hb1⟩, below_setRow hB1 (by omega) _⟩
      case measure => simp [intOf]; omega
    · go_wp2_with (first | (refine wpList_load_row (by rfl) 168 (.tmp 7) (by rfl) _ (by rfl) _ _ _ _ hb Tryz.underlying168 rfl (by kernel_rfl) ?_) | (refine wpList_store_row (by rfl) 168 (.tmp 6) (.tmp 17) (by rfl) _ _ (by rfl) (by rfl) _ _ ha (by kernel_rfl) (by rfl) (by simp [Value.oneCell']) ?_))
      refine bodyPost_ret (results_cell_row rfl _ _ _ _ _ _ _ (by rfl) (setRow_heap _ _ _ _ _ _ ha) Tryz.underlying168 rfl (by kernel_rfl)) rfl ⟨⟨_, _, _, _, rfl⟩, below_setRow hB (by omega) _⟩

set_option maxRecDepth 100000 in
set_option maxHeartbeats 4000000 in
theorem whole_any (p : Int) (w : World) :
    Calls Tryz.prog 99 #[.int .u64 p, .int .i64 2] w fun e w' => (∃ b, e = .returned (.int .u64 b)) ∧ Below w.heap.size w w' := by
  go_enter Tryz.func99, Tryz.ntmps99
  go_wp2_with fail
  go_loopw [5, 7] (fun x b wr => ∃ xv bv : Int, x = .int .u64 xv ∧ b = .int .u64 bv ∧ 0 ≤ bv ∧ A4 wr w.heap.size ∧ Below w.heap.size w wr) (fun _ b _ => (intOf b).toNat)
  case atStart => exact ⟨0, 1024, rfl, rfl, by omega, ⟨_, _, _, _, heap_alloc_new _ _⟩, by repeat' (first | (with_reducible exact Below.refl _ _) | (with_reducible assumption) | (with_reducible refine below_drewN ?_ _) | (with_reducible refine Below.drew ?_) | (with_reducible refine Below.alloc ?_ ?_ _) | (with_reducible refine Below.setCell ?_ ?_ _) | go_size)⟩
  case round =>
    obtain ⟨xv, bv, rfl, rfl, h0, ⟨a0, a1, a2, a3, ha⟩, hB⟩ := hrel
    by_cases hp : 0 < bv
    · have k0 := blk_cell ha 0
      have k1 := blk_cell ha 1
      have k2 := blk_cell ha 2
      have k3 := blk_cell ha 3
      have hlt := blk_lt ha
      simp at k0 k1 k2 k3
      go_wp2_with fail
      go_region_held3 (fun w' => w'.cell? ⟨w.heap.size, 0, none⟩ = some (.int .u64 a0) ∧ w'.cell? ⟨w.heap.size, 1, none⟩ = some (.int .u64 a1) ∧ w'.cell? ⟨w.heap.size, 2, none⟩ = some (.int .u64 a2) ∧ w'.cell? ⟨w.heap.size, 3, none⟩ = some (.int .u64 a3) ∧ w.heap.size < w'.heap.size ∧ Below w.heap.size w w')
        (first | exact s4_drew k0 k1 k2 k3 hlt hB | exact s4_call (by assumption) (by assumption))
        (first | (go_at_call 100; refine (power_any _ _ _).mono ?_; rintro e w1 ⟨⟨c0, c1, c2, c3, rfl⟩, hw⟩) | (go_at_call 101; refine (above_any _ _ _ _ _ _ _ _ _).mono ?_; rintro e w2 ⟨⟨bb, rfl⟩, hw2⟩))
      obtain ⟨q0, q1, q2, q3, q4, q5⟩ := ‹_ ∧ _›
      go_wp2_with fail
      all_goals exact ⟨⟨_, _, rfl, rfl, by omega, ⟨_, _, _, _, blk_call hw2 (blk_call hw (blk_drew ha))⟩, q5⟩, by simp [intOf]; omega⟩
    · go_wp2_with fail
      go_returns
      exact ⟨⟨_, rfl⟩, hB⟩

set_option maxRecDepth 100000 in
set_option maxHeartbeats 4000000 in
theorem part_any (p : Int) (w : World) :
    Calls Tryz.prog 81 #[.int .u64 p, .int .i64 2] w fun e w' => (∃ b, e = .returned (.int .u64 b)) ∧ Below w.heap.size w w' := by
  go_enter Tryz.func81, Tryz.ntmps81
  go_wp2_with fail
  refine (whole_any _ _).mono ?_
  rintro e wa ⟨⟨wv, rfl⟩, hwa⟩
  have hA : A4 wa w.heap.size := ⟨_, _, _, _, blk_call hwa (heap_alloc_new _ _)⟩
  have hBa : Below w.heap.size w wa := below_call (by repeat' (first | (with_reducible exact Below.refl _ _) | (with_reducible assumption) | (with_reducible refine below_drewN ?_ _) | (with_reducible refine Below.drew ?_) | (with_reducible refine Below.alloc ?_ ?_ _) | (with_reducible refine Below.setCell ?_ ?_ _) | go_size)) hwa
  clear hwa
  go_wp2_with fail
  go_loopw [7, 8] (fun x b wr => ∃ xv bv : Int, x = .int .u64 xv ∧ b = .int .u64 bv ∧ 0 ≤ bv ∧ A4 wr w.heap.size ∧ Below w.heap.size w wr) (fun _ b _ => (intOf b).toNat)
  case atStart => exact ⟨_, _, rfl, rfl, by decide, hA, hBa⟩
  case round =>
    obtain ⟨xv, bv, rfl, rfl, h0, ⟨a0, a1, a2, a3, ha⟩, hB⟩ := hrel
    clear hA hBa
    by_cases hp : 0 < bv
    · have k0 := blk_cell ha 0
      have k1 := blk_cell ha 1
      have k2 := blk_cell ha 2
      have k3 := blk_cell ha 3
      have hlt := blk_lt ha
      simp at k0 k1 k2 k3
      go_wp2_with fail
      go_region_held3 (fun w' => w'.cell? ⟨w.heap.size, 0, none⟩ = some (.int .u64 a0) ∧ w'.cell? ⟨w.heap.size, 1, none⟩ = some (.int .u64 a1) ∧ w'.cell? ⟨w.heap.size, 2, none⟩ = some (.int .u64 a2) ∧ w'.cell? ⟨w.heap.size, 3, none⟩ = some (.int .u64 a3) ∧ w.heap.size < w'.heap.size ∧ Below w.heap.size w w')
        (first | exact s4_drew k0 k1 k2 k3 hlt hB | exact s4_call (by assumption) (by assumption))
        (first | (go_at_call 100; refine (power_any _ _ _).mono ?_; rintro e w1 ⟨⟨c0, c1, c2, c3, rfl⟩, hw⟩) | (go_at_call 101; refine (above_any _ _ _ _ _ _ _ _ _).mono ?_; rintro e w2 ⟨⟨bb, rfl⟩, hw2⟩))
      obtain ⟨q0, q1, q2, q3, q4, q5⟩ := ‹_ ∧ _›
      go_wp2_with fail
      all_goals exact ⟨⟨_, _, rfl, rfl, by omega, ⟨_, _, _, _, blk_call hw2 (blk_call hw (blk_drew ha))⟩, q5⟩, by simp [intOf]; omega⟩
    · go_wp2_with fail
      go_returns
      exact ⟨⟨_, rfl⟩, hB⟩

set_option maxHeartbeats 1000000 in
theorem square_any (p : Int) (w : World) :
    Calls Tryz.prog 69 #[.int .u64 p] w fun e w' => (∃ b, e = .returned (.int .u64 b)) ∧ Below w.heap.size w w' := by
  go_enter Tryz.func69, Tryz.ntmps69
  go_wp2_with fail
  refine (part_any _ _).mono ?_
  rintro e w1 ⟨⟨b, rfl⟩, hw⟩
  go_wp2_with fail
  go_returns
  exact ⟨⟨_, rfl⟩, hw⟩
end Go.Proofs.YtlbnnlnjdkjppaaGreatDoor
