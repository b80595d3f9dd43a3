/- Lemmas for the claim: (*Desk).put. -/
import Derived.Test.YtlbnnlnjdkjppaaGreatDoorDesk2
namespace Go.Proofs.YtlbnnlnjdkjppaaGreatDoor
open Go.RowKit

set_option maxRecDepth 100000 in
set_option maxHeartbeats 4000000 in
theorem put_ok (B : Nat) (a : Option Int) (w : World) (p : Nat) (ks : List Int) (last : Int) (q : Nat) (hD : DeskAt B a w p ks last) (hE : Ents w) (hv : Val a w q) (hl : ks.length < 64) (hk : last + 1 ∉ ks) (h0 : 0 ≤ last) (h1 : last < 1000) :
    Calls Tryz.prog 9 #[.pointer (some ⟨p, 0, none⟩), .pointer (some ⟨q, 0, none⟩), .int .i64 0] w fun e w' => e = .returned (.tuple #[.int .i64 (last + 1), .int .i64 0]) ∧ DeskAt B a w' p (ks ++ [last + 1]) (last + 1) ∧ Ents w' ∧ Below B w w' := by
  obtain ⟨M, es, c, hBp, hp, hM, h⟩ := hD
  obtain ⟨w2, hm, m1, hD2, hE2, hB2⟩ := put_lays hBp hp hM h hE q hv hk
  have hlen := fun ty => run_len_map Tryz.underlying34 hM ty
  have hsz : ¬ ((es.size : Int) = 64) := by
    have := ments_length h
    simp at this
    omega
  have k0 : w.cell? ⟨p, 0, none⟩ = some (.map (some M)) := (blk_cell hp 0).trans rfl
  have k1 : w.cell? ⟨p, 1, none⟩ = some (.int .i64 last) := (blk_cell hp 1).trans rfl
  have f0 := blk_frozen hp 0
  have f1 := blk_frozen hp 1
  have HD := Lib.hid hD2
  have HE := Lib.hid hE2
  clear hD2 hE2 hE h hp hM hv hk hl
  go_enter Tryz.func9, Tryz.ntmps9
  go_wp2_with fail
  go_region
  go_wp2_with fail
  go_returns
  exact ⟨rfl, HD.out, HE.out, hB2⟩

set_option maxRecDepth 100000 in
set_option maxHeartbeats 4000000 in
theorem put_full (B : Nat) (a : Option Int) (w : World) (p : Nat) (ks : List Int) (last : Int) (q : Nat) (hD : DeskAt B a w p ks last) (hl : ks.length = 64) :
    Calls Tryz.prog 9 #[.pointer (some ⟨p, 0, none⟩), .pointer (some ⟨q, 0, none⟩), .int .i64 0] w fun e w' => e = .returned (.tuple #[.int .i64 0, .int .i64 9]) ∧ w' = w := by
  obtain ⟨M, es, c, hBp, hp, hM, h⟩ := hD
  have hsz : ((es.size : Int) = 64) := by
    have := ments_length h
    simp at this
    omega
  have hlen := fun ty => run_len_map Tryz.underlying34 hM ty
  rw [hsz] at hlen
  have k0 : w.cell? ⟨p, 0, none⟩ = some (.map (some M)) := (blk_cell hp 0).trans rfl
  clear h hp hM hl hsz
  go_enter Tryz.func9, Tryz.ntmps9
  go_wp2_with fail
  go_returns
  exact ⟨rfl, rfl⟩

set_option maxRecDepth 100000 in
set_option maxHeartbeats 4000000 in
theorem desk_new (B : Nat) (a : Option Int) (w : World) (hB : B ≤ w.heap.size) :
    Calls Tryz.prog 5 #[] w fun e w' => (∃ p, e = .returned (.pointer (some ⟨p, 0, none⟩)) ∧ DeskAt B a w' p [] 0) ∧ Below w.heap.size w w' := by
  have m0 : ∀ w, (Instr.makeMap 34 none).run Tryz.prog w = .ok (.map (some w.heap.size)) (w.alloc (.map #[] 0)) := fun _ => rfl
  go_enter Tryz.func5, Tryz.ntmps5
  go_wp2_with fail
  go_returns
  exact ⟨⟨w.heap.size + 1, rfl, w.heap.size, #[], 0, ⟨by omega, hB⟩, (blk_new _ _ _ (by simp)).trans rfl, blk_alloc (blk_new _ _ _ rfl), ⟨rfl, by simp⟩⟩, by repeat' (first | (with_reducible exact Below.refl _ _) | (with_reducible assumption) | (with_reducible refine below_drewN ?_ _) | (with_reducible refine Below.drew ?_) | (with_reducible refine Below.alloc ?_ ?_ _) | (with_reducible refine Below.setCell ?_ ?_ _) | go_size)⟩
end Go.Proofs.YtlbnnlnjdkjppaaGreatDoor
