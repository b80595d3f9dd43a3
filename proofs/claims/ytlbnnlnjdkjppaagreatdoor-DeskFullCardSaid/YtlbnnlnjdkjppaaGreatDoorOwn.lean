/- Lemmas for the claim: bytes.Clone and hasher.own of an empty name, slices.Contains, sponge.New. -/
import Derived.Test.YtlbnnlnjdkjppaaGreatDoorCheck
namespace Go.Proofs.YtlbnnlnjdkjppaaGreatDoor
open Go.RowKit

set_option maxRecDepth 100000 in
set_option maxHeartbeats 1000000 in
theorem bclone_nil (w : World) : Calls Tryz.prog 22 #[.slice none 0 0] w fun e w' => e = .returned (.slice none 0 0) ∧ w = w' := by
  have hn := fun (w : World) => Lib.run_eql_slice_nil (P := Tryz.prog) w 28 5 none 0 0 0 0 Tryz.underlying28
  go_enter Tryz.func22, Tryz.ntmps22
  go_wp2
  go_returns
  exact ⟨rfl, rfl⟩

set_option maxRecDepth 100000 in
set_option maxHeartbeats 2000000 in
theorem own_nil (w : World) : Calls Tryz.prog 16 #[.agg #[.slice none 0 0, .slice none 0 0]] w fun e w' => e = .returned (.agg #[.slice none 0 0, .slice none 0 0]) ∧ Below w.heap.size w w' := by
  go_enter Tryz.func16, Tryz.ntmps16
  go_wp2_with fail
  go_region_held3 (fun w' => w'.cell? ⟨w.heap.size, 0, none⟩ = some (.slice none 0 0) ∧ w'.cell? ⟨w.heap.size, 1, none⟩ = some (.slice none 0 0)) (go_keep)
    (first | (go_at_call 22; refine (bclone_nil _).mono ?_; rintro e w' ⟨rfl, rfl⟩))
  go_wp2_with fail
  go_returns
  exact ⟨rfl, by repeat' (first | (with_reducible exact Below.refl _ _) | (with_reducible assumption) | (with_reducible refine below_drewN ?_ _) | (with_reducible refine Below.drew ?_) | (with_reducible refine Below.alloc ?_ ?_ _) | (with_reducible refine Below.setCell ?_ ?_ _) | go_size)⟩

set_option maxRecDepth 100000 in
set_option maxHeartbeats 2000000 in
theorem index5 (x : Int) (hx : x = 72 ∨ x = 104 ∨ x = 136 ∨ x = 144 ∨ x = 168) (b : Nat) (w : World) (c0 : w.cell? ⟨b, 0, none⟩ = some (.int .i64 72)) (c1 : w.cell? ⟨b, 1, none⟩ = some (.int .i64 104)) (c2 : w.cell? ⟨b, 2, none⟩ = some (.int .i64 136)) (c3 : w.cell? ⟨b, 3, none⟩ = some (.int .i64 144)) (c4 : w.cell? ⟨b, 4, none⟩ = some (.int .i64 168)) :
    Calls Tryz.prog 58 #[.slice (some ⟨b, 0, none⟩) 5 5, .int .i64 x] w fun e w' => (∃ i : Int, 0 ≤ i ∧ e = .returned (.int .i64 i)) ∧ w = w' := by
  rcases hx with rfl | rfl | rfl | rfl | rfl
  all_goals
    go_enter Tryz.func58, Tryz.ntmps58
    go_wp2
    refine wp_loop_rounds 6 ?_
    repeat (rw [rounds_succ]; go_wp2)
    go_returns
    exact ⟨⟨_, by decide, rfl⟩, rfl⟩

set_option maxRecDepth 100000 in
set_option maxHeartbeats 2000000 in
theorem contains5 (x : Int) (hx : x = 72 ∨ x = 104 ∨ x = 136 ∨ x = 144 ∨ x = 168) (b : Nat) (w : World) (c0 : w.cell? ⟨b, 0, none⟩ = some (.int .i64 72)) (c1 : w.cell? ⟨b, 1, none⟩ = some (.int .i64 104)) (c2 : w.cell? ⟨b, 2, none⟩ = some (.int .i64 136)) (c3 : w.cell? ⟨b, 3, none⟩ = some (.int .i64 144)) (c4 : w.cell? ⟨b, 4, none⟩ = some (.int .i64 168)) :
    Calls Tryz.prog 47 #[.slice (some ⟨b, 0, none⟩) 5 5, .int .i64 x] w fun e w' => e = .returned (.bool true) ∧ w = w' := by
  have h := index5 x hx b w c0 c1 c2 c3 c4
  have H := Lib.hid h
  clear h c0 c1 c2 c3 c4 hx
  go_enter Tryz.func47, Tryz.ntmps47
  go_wp2_with fail
  refine H.out.mono ?_
  rintro e w' ⟨⟨i, hi, rfl⟩, rfl⟩
  clear H
  go_wp2_with fail
  go_returns
  exact ⟨rfl, rfl⟩

set_option maxRecDepth 100000 in
set_option maxHeartbeats 2000000 in
theorem index3 (x : Int) (hx : x = 4 ∨ x = 6 ∨ x = 31) (b : Nat) (w : World) (c0 : w.cell? ⟨b, 0, none⟩ = some (.int .i64 4)) (c1 : w.cell? ⟨b, 1, none⟩ = some (.int .i64 6)) (c2 : w.cell? ⟨b, 2, none⟩ = some (.int .i64 31)) :
    Calls Tryz.prog 58 #[.slice (some ⟨b, 0, none⟩) 3 3, .int .i64 x] w fun e w' => (∃ i : Int, 0 ≤ i ∧ e = .returned (.int .i64 i)) ∧ w = w' := by
  rcases hx with rfl | rfl | rfl
  all_goals
    go_enter Tryz.func58, Tryz.ntmps58
    go_wp2
    refine wp_loop_rounds 4 ?_
    repeat (rw [rounds_succ]; go_wp2)
    go_returns
    exact ⟨⟨_, by decide, rfl⟩, rfl⟩

set_option maxRecDepth 100000 in
set_option maxHeartbeats 2000000 in
theorem contains3 (x : Int) (hx : x = 4 ∨ x = 6 ∨ x = 31) (b : Nat) (w : World) (c0 : w.cell? ⟨b, 0, none⟩ = some (.int .i64 4)) (c1 : w.cell? ⟨b, 1, none⟩ = some (.int .i64 6)) (c2 : w.cell? ⟨b, 2, none⟩ = some (.int .i64 31)) :
    Calls Tryz.prog 47 #[.slice (some ⟨b, 0, none⟩) 3 3, .int .i64 x] w fun e w' => e = .returned (.bool true) ∧ w = w' := by
  have h := index3 x hx b w c0 c1 c2
  have H := Lib.hid h
  clear h c0 c1 c2 hx
  go_enter Tryz.func47, Tryz.ntmps47
  go_wp2_with fail
  refine H.out.mono ?_
  rintro e w' ⟨⟨i, hi, rfl⟩, rfl⟩
  clear H
  go_wp2_with fail
  go_returns
  exact ⟨rfl, rfl⟩


end Go.Proofs.YtlbnnlnjdkjppaaGreatDoor
