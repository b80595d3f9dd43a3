/- Lemmas for the claim: (*Desk).Clone at a full desk, whole. -/
import Derived.Test.YtlbnnlnjdkjppaaGreatDoorDesk6
namespace Go.Proofs.YtlbnnlnjdkjppaaGreatDoor
open Go.RowKit

set_option maxRecDepth 100000 in
set_option maxHeartbeats 4000000 in
theorem with_clone (B : Nat) (a : Int) (w : World) (p N1 N2 : Nat) (k : Int) (ks : List Int) (last : Int) (hD : DeskAt B (some a) w p ks last) (hk : k ∈ ks) (hn : ks.length = 64) (c1 : w.cell? ⟨N1, 0, none⟩ = some (.pointer (some ⟨p, 0, none⟩))) (h2 : w.heap[N2]? = some (.cells #[.int .i64 0] 3 (0, 0))) :
    Calls Tryz.prog 11 #[.pointer (some ⟨p, 0, none⟩), .int .i64 k, .func (.func 12) #[] #[.pointer (some ⟨N1, 0, none⟩), .pointer (some ⟨N2, 0, none⟩)]] w fun e w' => e = .returned (.int .i64 9) ∧ w'.heap[N2]? = some (.cells #[.int .i64 0] 3 (0, 0)) ∧ Below w.heap.size w w' := by
  have H1 := Lib.hid (fun q hH => clone1_full B a w p N1 N2 q ks last hD hH hn c1 h2)
  obtain ⟨M, es, c, hBp, hp, hM, h⟩ := hD
  obtain ⟨j, q, hf, hv, _⟩ := find_some h hk
  have hl := run_lookup_found Tryz.underlying34 Tryz.underlying3 w M es c hM k j _ hf
  have k0 : w.cell? ⟨p, 0, none⟩ = some (.map (some M)) := (blk_cell hp 0).trans rfl
  clear h hp hM hk hf c1 h2 hn
  go_enter Tryz.func11, Tryz.ntmps11
  go_wp2_with fail
  refine (H1.out _ hv).mono ?_
  rintro e w2 ⟨rfl, hR⟩
  have HR := Lib.hid hR
  clear hR
  go_wp2_with fail
  go_returns
  exact ⟨rfl, HR.out⟩

set_option maxRecDepth 100000 in
set_option maxHeartbeats 4000000 in
theorem dclone_full (B : Nat) (a : Int) (w : World) (p : Nat) (k : Int) (ks : List Int) (last : Int) (hD : DeskAt B (some a) w p ks last) (hk : k ∈ ks) (hn : ks.length = 64) :
    Calls Tryz.prog 7 #[.pointer (some ⟨p, 0, none⟩), .int .i64 k] w fun e w' => e = .returned (.tuple #[.int .i64 0, .int .i64 9]) ∧ Below w.heap.size w w' := by
  have hmf : ∀ (fn : Fn) (first cap : Array Value) (w : World), (Instr.makeFunc fn first cap).run Tryz.prog w = .ok (.func fn first cap) w := fun _ _ _ _ => rfl
  have HD := Lib.hid hD
  clear hD
  go_enter Tryz.func7, Tryz.ntmps7
  go_wp2_with fail
  refine (with_clone B a _ p _ _ k ks last (HD.out.call ?c1) hk hn ?c3 ?c4).mono ?_
  case c1 => repeat' (first | (with_reducible exact Below.refl _ _) | (with_reducible assumption) | (with_reducible refine below_drewN ?_ _) | (with_reducible refine Below.drew ?_) | (with_reducible refine Below.alloc ?_ ?_ _) | (with_reducible refine Below.setCell ?_ ?_ _) | go_size)
  case c3 => exact (blk_cell (blk_alloc (blk_new _ _ _ rfl)) 0).trans rfl
  case c4 => exact blk_new _ _ _ (by simp)
  rintro e w2 ⟨rfl, h2, hw⟩
  have hB : Below w.heap.size w w2 := below_call (by repeat' (first | (with_reducible exact Below.refl _ _) | (with_reducible assumption) | (with_reducible refine below_drewN ?_ _) | (with_reducible refine Below.drew ?_) | (with_reducible refine Below.alloc ?_ ?_ _) | (with_reducible refine Below.setCell ?_ ?_ _) | go_size)) hw
  have k2 : w2.cell? ⟨w.heap.size + 1, 0, none⟩ = some (.int .i64 0) := (blk_cell h2 0).trans rfl
  have f2 := blk_frozen h2 0
  have hs := set_same h2 0 (.int .i64 0) rfl
  clear hw h2
  go_wp2_with fail
  refine bodyPost_ret (v := .tuple #[.int .i64 0, .int .i64 9]) (by simp [results, Tryz.results7, go_sem, k2]; try rfl) rfl ⟨rfl, hB⟩
end Go.Proofs.YtlbnnlnjdkjppaaGreatDoor
