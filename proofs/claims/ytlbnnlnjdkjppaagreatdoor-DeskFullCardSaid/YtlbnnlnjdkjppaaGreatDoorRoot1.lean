/- Lemmas for the claim: package root (roots and primes): each function returns, whatever numbers it is given, and only makes new memory. -/
import Derived.Test.YtlbnnlnjdkjppaaGreatDoorBase
namespace Go.Proofs.YtlbnnlnjdkjppaaGreatDoor
open Go.RowKit

set_option maxHeartbeats 1000000 in
theorem mul64_any (a b : Int) (w : World) : Calls Tryz.prog 120 #[.int .u64 a, .int .u64 b] w fun e w' => (∃ b0 b1, e = .returned (.tuple #[.int .u64 b0, .int .u64 b1])) ∧ w' = w := by
  go_enter Tryz.func120, Tryz.ntmps120
  go_wp2
  go_ret2
  exact ⟨⟨_, _, rfl⟩, rfl⟩


/-- Add64 without a carry in: the sum, and the carry out. -/
def addS (x y : Int) : Int := (((x.toNat + y.toNat + 0) % Extern.MathBitsCarry.m64 : Nat) : Int)
def addC (x y : Int) : Int := (((x.toNat + y.toNat + 0) / Extern.MathBitsCarry.m64 : Nat) : Int)
theorem add64_run (x y : Int) (w : World) : (callFunc 121 #[.int .u64 x, .int .u64 y, .int .u64 0]).run Tryz.prog w = .ok (.value (.tuple #[.int .u64 (addS x y), .int .u64 (addC x y)])) w := by
  rw [run_callFunc_extern Tryz.func121 (by kernel_rfl) (by kernel_rfl) (by kernel_rfl) (e := add64Entry) (by kernel_rfl)]
  rfl

def G4 (e : Ending) : Prop := ∃ b0 b1 b2 b3, e = .returned (.agg #[.int .u64 b0, .int .u64 b1, .int .u64 b2, .int .u64 b3])

set_option maxRecDepth 100000 in
set_option maxHeartbeats 4000000 in
theorem times_any (a0 a1 a2 a3 hi lo : Int) (w : World) :
    Calls Tryz.prog 113 #[.agg #[.int .u64 a0, .int .u64 a1, .int .u64 a2, .int .u64 a3], .int .u64 hi, .int .u64 lo] w fun e w' => G4 e ∧ Below w.heap.size w w' := by
  have i0 : ∀ w, (Instr.index 190 (.agg #[.int .u64 lo, .int .u64 hi]) (.int .i64 0)).run Tryz.prog w = .ok (.int .u64 lo) w := fun _ => by kernel_rfl
  have i1 : ∀ w, (Instr.index 190 (.agg #[.int .u64 lo, .int .u64 hi]) (.int .i64 1)).run Tryz.prog w = .ok (.int .u64 hi) w := fun _ => by kernel_rfl
  have ha := add64_run
  go_enter Tryz.func113, Tryz.ntmps113
  go_wp2_with fail
  refine wp_loop_rounds 3 ?_
  rw [rounds_succ]
  go_wp2_with fail
  refine wp_loop_rounds 5 ?_
  repeat (rw [rounds_succ]; go_wp2_with (go_at_call 120; refine (mul64_any _ _ _).mono ?_; rintro e w' ⟨⟨b0, b1, rfl⟩, rfl⟩))
  refine wp_loop_rounds 4 ?_
  repeat (rw [rounds_succ]; go_wp2_with (go_at_call 120; refine (mul64_any _ _ _).mono ?_; rintro e w' ⟨⟨b0, b1, rfl⟩, rfl⟩))
  go_returns
  exact ⟨⟨_, _, _, _, rfl⟩, by go_grown⟩

set_option maxRecDepth 100000 in
set_option maxHeartbeats 4000000 in
theorem above_any (a0 a1 a2 a3 b0 b1 b2 b3 : Int) (w : World) :
    Calls Tryz.prog 101 #[.agg #[.int .u64 a0, .int .u64 a1, .int .u64 a2, .int .u64 a3], .agg #[.int .u64 b0, .int .u64 b1, .int .u64 b2, .int .u64 b3]] w fun e w' => (∃ b, e = .returned (.bool b)) ∧ Below w.heap.size w w' := by
  go_enter Tryz.func101, Tryz.ntmps101
  go_wp2_with fail
  refine wp_loop_rounds 5 ?_
  rw [rounds_succ]
  go_wp2_with fail
  repeat any_goals (first | (rw [rounds_succ]; go_wp2_with fail) | (go_quiet (fail); go_wp2_with fail))
  all_goals
    go_returns
    exact ⟨⟨_, rfl⟩, by repeat' (first | (with_reducible exact Below.refl _ _) | (with_reducible assumption) | (with_reducible refine below_drewN ?_ _) | (with_reducible refine Below.drew ?_) | (with_reducible refine Below.alloc ?_ ?_ _) | (with_reducible refine Below.setCell ?_ ?_ _) | go_size)⟩

end Go.Proofs.YtlbnnlnjdkjppaaGreatDoor
