/- Lemmas for the claim: script.Print of a call that has no line. -/
import Derived.Test.YtgfncnnidacllaaGreatDoorJL
set_option linter.unusedVariables false
set_option linter.unusedSimpArgs false
namespace Go.Proofs.YtgfncnnidacllaaGreatDoor
open Go.RowKit Go.Shelf Go.Proofs.YtgfncnnidacllaaGreatDoorW.PrintWords Go.Proofs.YtgfncnnidacllaaGreatDoorW.PrintLast Go.Proofs.YtgfncnnidacllaaGreatDoorW.PrintMore
set_option maxRecDepth 100000 in
set_option maxHeartbeats 4000000 in
theorem print_k0 (c : Cl) (hbad : c.kind < 1) (v4 v5 v6 : Value) (w : World) :
    Calls Tryz.prog 10 #[.agg (ClCells c v4 v5 v6)] w fun e w' => e = .returned (.tuple #[.string ⟨#[]⟩, .int .i64 1]) ∧ Below w.heap.size w w' := by
  have g1 : decide (c.kind < 1) = true := by rw [decide_eq_true_eq]; omega
  have hP0 : PrS w (ClCells c v4 v5 v6) (w.alloc (.cells (ClCells c v4 v5 v6) 30)) := ⟨blk_new _ _ _ rfl, (Below.refl _ _).alloc (Nat.le_refl _) _⟩
  have HP0 := Lib.hid hP0
  clear hP0 hbad
  unfold ClCells
  go_enter Tryz.func10, Tryz.ntmps10
  go_wp2_with fail
  obtain ⟨k0, k1, k3, hP⟩ := p_of HP0.out
  unfold ClCells at k0 k1 k3
  change Code.wp _ _ _ _ (w.alloc (.cells (ClCells c v4 v5 v6) 30))
  generalize w.alloc (.cells (ClCells c v4 v5 v6) 30) = W at hP ⊢
  clear k0 k1 k3
  obtain ⟨k0, k1, k3, hP⟩ := p_of hP
  go_quiet (fail)
  have hbel : Below w.heap.size w W := hP.below
  clear k0 k1 k3 hP
  go_wp2_with fail
  go_returns
  exact ⟨rfl, pw_below_drewN hbel _⟩
set_option maxRecDepth 100000 in
set_option maxHeartbeats 4000000 in
theorem print_k11 (c : Cl) (hbad : 10 < c.kind) (v4 v5 v6 : Value) (w : World) :
    Calls Tryz.prog 10 #[.agg (ClCells c v4 v5 v6)] w fun e w' => e = .returned (.tuple #[.string ⟨#[]⟩, .int .i64 1]) ∧ Below w.heap.size w w' := by
  have g1 : decide (c.kind < 1) = false := by rw [decide_eq_false_iff_not]; omega
  have g2 : decide (10 < c.kind) = true := by rw [decide_eq_true_eq]; omega
  have hP0 : PrS w (ClCells c v4 v5 v6) (w.alloc (.cells (ClCells c v4 v5 v6) 30)) := ⟨blk_new _ _ _ rfl, (Below.refl _ _).alloc (Nat.le_refl _) _⟩
  have HP0 := Lib.hid hP0
  clear hP0 hbad
  unfold ClCells
  go_enter Tryz.func10, Tryz.ntmps10
  go_wp2_with fail
  obtain ⟨k0, k1, k3, hP⟩ := p_of HP0.out
  unfold ClCells at k0 k1 k3
  change Code.wp _ _ _ _ (w.alloc (.cells (ClCells c v4 v5 v6) 30))
  generalize w.alloc (.cells (ClCells c v4 v5 v6) 30) = W at hP ⊢
  clear k0 k1 k3
  obtain ⟨k0, k1, k3, hP⟩ := p_of hP
  have HPW := Lib.hid hP
  clear hP
  first
    | (go_region_with (go_at_call 16; refine (shapes_any _).mono ?_; rintro e w3 ⟨rfl, hS3, hw3⟩; have hP3 := (HPW.out.call (Below.refl _ _).drew).call hw3; clear hS3 hw3; obtain ⟨j0, j1, j3, hP3⟩ := p_of hP3; have HP3 := Lib.hid hP3; clear hP3))
    | skip
  all_goals
    have hP3 := HP3.out
    clear k0 k1 k3 j0 j1 j3
    go_wp2_with fail
    go_returns
    exact ⟨rfl, hP3.below⟩
set_option maxRecDepth 100000 in
set_option maxHeartbeats 4000000 in
theorem print_h (c : Cl) (hbad : 1 ≤ c.kind ∧ c.kind ≤ 10 ∧ c.h < 0) (v4 v5 v6 : Value) (w : World) :
    Calls Tryz.prog 10 #[.agg (ClCells c v4 v5 v6)] w fun e w' => e = .returned (.tuple #[.string ⟨#[]⟩, .int .i64 1]) ∧ Below w.heap.size w w' := by
  have g1 : decide (c.kind < 1) = false := by rw [decide_eq_false_iff_not]; omega
  have g2 : decide (10 < c.kind) = false := by rw [decide_eq_false_iff_not]; omega
  have g3 : decide (c.h < 0) = true := by rw [decide_eq_true_eq]; omega
  have hP0 : PrS w (ClCells c v4 v5 v6) (w.alloc (.cells (ClCells c v4 v5 v6) 30)) := ⟨blk_new _ _ _ rfl, (Below.refl _ _).alloc (Nat.le_refl _) _⟩
  have HP0 := Lib.hid hP0
  clear hP0 hbad
  unfold ClCells
  go_enter Tryz.func10, Tryz.ntmps10
  go_wp2_with fail
  obtain ⟨k0, k1, k3, hP⟩ := p_of HP0.out
  unfold ClCells at k0 k1 k3
  change Code.wp _ _ _ _ (w.alloc (.cells (ClCells c v4 v5 v6) 30))
  generalize w.alloc (.cells (ClCells c v4 v5 v6) 30) = W at hP ⊢
  clear k0 k1 k3
  obtain ⟨k0, k1, k3, hP⟩ := p_of hP
  have HPW := Lib.hid hP
  clear hP
  first
    | (go_region_with (go_at_call 16; refine (shapes_any _).mono ?_; rintro e w3 ⟨rfl, hS3, hw3⟩; have hP3 := (HPW.out.call (Below.refl _ _).drew).call hw3; clear hS3 hw3; obtain ⟨j0, j1, j3, hP3⟩ := p_of hP3; have HP3 := Lib.hid hP3; clear hP3))
    | skip
  all_goals
    have hP3 := HP3.out
    clear k0 k1 k3 j0 j1 j3
    go_wp2_with fail
    go_returns
    exact ⟨rfl, hP3.below⟩
set_option maxRecDepth 100000 in
set_option maxHeartbeats 4000000 in
theorem print_n (c : Cl) (hbad : 1 ≤ c.kind ∧ c.kind ≤ 10 ∧ 0 ≤ c.h ∧ c.n < 0) (v4 v5 v6 : Value) (w : World) :
    Calls Tryz.prog 10 #[.agg (ClCells c v4 v5 v6)] w fun e w' => e = .returned (.tuple #[.string ⟨#[]⟩, .int .i64 1]) ∧ Below w.heap.size w w' := by
  have g1 : decide (c.kind < 1) = false := by rw [decide_eq_false_iff_not]; omega
  have g2 : decide (10 < c.kind) = false := by rw [decide_eq_false_iff_not]; omega
  have g3 : decide (c.h < 0) = false := by rw [decide_eq_false_iff_not]; omega
  have g4 : decide (c.n < 0) = true := by rw [decide_eq_true_eq]; omega
  have hP0 : PrS w (ClCells c v4 v5 v6) (w.alloc (.cells (ClCells c v4 v5 v6) 30)) := ⟨blk_new _ _ _ rfl, (Below.refl _ _).alloc (Nat.le_refl _) _⟩
  have HP0 := Lib.hid hP0
  clear hP0 hbad
  unfold ClCells
  go_enter Tryz.func10, Tryz.ntmps10
  go_wp2_with fail
  obtain ⟨k0, k1, k3, hP⟩ := p_of HP0.out
  unfold ClCells at k0 k1 k3
  change Code.wp _ _ _ _ (w.alloc (.cells (ClCells c v4 v5 v6) 30))
  generalize w.alloc (.cells (ClCells c v4 v5 v6) 30) = W at hP ⊢
  clear k0 k1 k3
  obtain ⟨k0, k1, k3, hP⟩ := p_of hP
  have HPW := Lib.hid hP
  clear hP
  first
    | (go_region_with (go_at_call 16; refine (shapes_any _).mono ?_; rintro e w3 ⟨rfl, hS3, hw3⟩; have hP3 := (HPW.out.call (Below.refl _ _).drew).call hw3; clear hS3 hw3; obtain ⟨j0, j1, j3, hP3⟩ := p_of hP3; have HP3 := Lib.hid hP3; clear hP3))
    | skip
  all_goals
    have hP3 := HP3.out
    clear k0 k1 k3 j0 j1 j3
    go_wp2_with fail
    go_returns
    exact ⟨rfl, hP3.below⟩
theorem print_bad (c : Cl) (hbad : ¬ (1 ≤ c.kind ∧ c.kind ≤ 10 ∧ 0 ≤ c.h ∧ 0 ≤ c.n)) (v4 v5 v6 : Value) (w : World) :
    Calls Tryz.prog 10 #[.agg (ClCells c v4 v5 v6)] w fun e w' => e = .returned (.tuple #[.string ⟨#[]⟩, .int .i64 1]) ∧ Below w.heap.size w w' := by
  by_cases h1 : c.kind < 1
  · exact print_k0 c h1 v4 v5 v6 w
  · by_cases h2 : 10 < c.kind
    · exact print_k11 c h2 v4 v5 v6 w
    · by_cases h3 : c.h < 0
      · exact print_h c (by omega) v4 v5 v6 w
      · exact print_n c (by omega) v4 v5 v6 w
end Go.Proofs.YtgfncnnidacllaaGreatDoor
