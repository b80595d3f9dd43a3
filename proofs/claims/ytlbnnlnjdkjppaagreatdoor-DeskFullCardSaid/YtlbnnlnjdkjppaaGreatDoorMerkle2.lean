/- Lemmas for the claim: merkle.New and (*Stream).Clone at SHA-224 and SHA-256, before anything is written. -/
import Derived.Test.YtlbnnlnjdkjppaaGreatDoorMerkle
namespace Go.Proofs.YtlbnnlnjdkjppaaGreatDoor
open Go.RowKit

theorem build_stream : Tryz.prog.built 75 [(1, .iface 96 (.agg #[.int .i64 64]))] = some (stCells 0 (fun _ => 0)) := by kernel_rfl

set_option maxRecDepth 100000 in
set_option maxHeartbeats 8000000 in
theorem mnew_any (a b' : Int) (hab : (a = 1 ∧ b' = 224) ∨ (a = 2 ∧ b' = 256)) (w : World) :
    Calls Tryz.prog 23 #[.int .i64 a] w fun e w' => (∃ b, w.heap.size ≤ b ∧ e = .returned (.tuple #[.pointer (some ⟨b, 0, none⟩), .int .i64 0]) ∧ StreamAt w' b a) ∧ Below w.heap.size w w' := by
  have ha : a = 1 ∨ a = 2 := by omega
  have HA := Lib.hid ha
  have HR := Lib.hid (reset_any a b' hab)
  clear hab ha
  go_enter Tryz.func23, Tryz.ntmps23
  go_wp2_with fail
  refine (mof_any a HA.out w).mono ?_
  rintro e w' ⟨rfl, rfl⟩
  go_wp2_with (first | (refine wpList_build_is (by rfl) 75 _ (by rfl) _ (by simp [Act.eval]) _ build_stream ?_))
  refine (HR.out w.heap.size _ ⟨fun _ => 0, (heap_alloc_new w _).trans rfl⟩).mono ?_
  rintro e w2 ⟨rfl, hS, hsz, hold, h1, h2, h3⟩
  have HS := Lib.hid hS
  have hB : Below w.heap.size w w2 := ⟨h1, h2, h3, by simp at hsz; omega, fun k hk => (hold k (by simp; omega) (by omega)).trans (Below.heap_alloc w _ k hk)⟩
  clear hS hsz hold h1 h2 h3
  go_wp2_with fail
  go_returns
  exact ⟨⟨w.heap.size, Nat.le_refl _, rfl, HS.out⟩, hB⟩

set_option maxRecDepth 100000 in
set_option maxHeartbeats 2000000 in
theorem sclone_nil (w : World) : Calls Tryz.prog 39 #[.slice none 0 0] w fun e w' => e = .returned (.slice none 0 0) ∧ w = w' := by
  have hn := fun (w : World) => Lib.run_eql_slice_nil (P := Tryz.prog) w 28 5 none 0 0 0 0 Tryz.underlying28
  go_enter Tryz.func39, Tryz.ntmps39
  go_wp2
  go_returns
  exact ⟨rfl, rfl⟩

set_option maxRecDepth 100000 in
set_option maxHeartbeats 4000000 in
theorem state_any (a : Int) (b : Nat) (w : World) (hS : StreamAt w b a) :
    Calls Tryz.prog 29 #[.pointer (some ⟨b, 0, none⟩)] w fun e w' => (∃ c : Nat → Int, e = .returned (.agg #[.int .i64 a, .int .u64 (c 0), .int .u64 (c 1), .int .u64 (c 2), .int .u64 (c 3), .int .u64 (c 4), .int .u64 (c 5), .int .u64 (c 6), .int .u64 (c 7), .int .u64 0, .int .u64 0, .slice none 0 0, .bool false])) ∧ Below w.heap.size w w' := by
  obtain ⟨c, hc⟩ := hS
  have q0 : w.cell? ⟨b, 0, none⟩ = some (.int .i64 a) := (blk_cell hc 0).trans rfl
  have q1 : w.cell? ⟨b, 1, none⟩ = some (.int .u64 (c 0)) := (blk_cell hc 1).trans rfl
  have q2 : w.cell? ⟨b, 2, none⟩ = some (.int .u64 (c 1)) := (blk_cell hc 2).trans rfl
  have q3 : w.cell? ⟨b, 3, none⟩ = some (.int .u64 (c 2)) := (blk_cell hc 3).trans rfl
  have q4 : w.cell? ⟨b, 4, none⟩ = some (.int .u64 (c 3)) := (blk_cell hc 4).trans rfl
  have q5 : w.cell? ⟨b, 5, none⟩ = some (.int .u64 (c 4)) := (blk_cell hc 5).trans rfl
  have q6 : w.cell? ⟨b, 6, none⟩ = some (.int .u64 (c 5)) := (blk_cell hc 6).trans rfl
  have q7 : w.cell? ⟨b, 7, none⟩ = some (.int .u64 (c 6)) := (blk_cell hc 7).trans rfl
  have q8 : w.cell? ⟨b, 8, none⟩ = some (.int .u64 (c 7)) := (blk_cell hc 8).trans rfl
  have q9 : w.cell? ⟨b, 9, none⟩ = some (.int .u64 0) := (blk_cell hc 9).trans rfl
  have q10 : w.cell? ⟨b, 10, none⟩ = some (.int .u64 0) := (blk_cell hc 10).trans rfl
  have q11 : w.cell? ⟨b, 11, none⟩ = some (.slice none 0 0) := (blk_cell hc 11).trans rfl
  have q12 : w.cell? ⟨b, 12, none⟩ = some (.bool false) := (blk_cell hc 12).trans rfl
  have hlt := blk_lt hc
  clear hc
  go_enter Tryz.func29, Tryz.ntmps29
  go_wp2_with fail
  refine (sclone_nil _).mono ?_
  rintro e w' ⟨rfl, rfl⟩
  go_wp2_with fail
  go_returns
  exact ⟨⟨c, rfl⟩, by repeat' (first | (with_reducible exact Below.refl _ _) | (with_reducible assumption) | (with_reducible refine below_drewN ?_ _) | (with_reducible refine Below.drew ?_) | (with_reducible refine Below.alloc ?_ ?_ _) | (with_reducible refine Below.setCell ?_ ?_ _) | go_size)⟩
end Go.Proofs.YtlbnnlnjdkjppaaGreatDoor
