/- Lemmas for the claim: (*Hasher).Clone of a hash of SHA-224 to which nothing was written. -/
import Derived.Test.YtlbnnlnjdkjppaaGreatDoorHNew
namespace Go.Proofs.YtlbnnlnjdkjppaaGreatDoor
open Go.RowKit

theorem h_cells {w : World} {p : Nat} {a : Int} (h : HasherAt w p a) : w.cell? ⟨p, 0, none⟩ = some (.int .i64 a) ∧ w.cell? ⟨p, 1, none⟩ = some (.slice none 0 0) ∧ w.cell? ⟨p, 2, none⟩ = some (.slice none 0 0) := by
  obtain ⟨b, hp, _⟩ := h
  exact ⟨(blk_cell hp 0).trans rfl, (blk_cell hp 1).trans rfl, (blk_cell hp 2).trans rfl⟩
theorem h_mk {w W : World} {p : Nat} {a : Int} (h : HasherAt W p a) (hb : Below w.heap.size w W) : W.cell? ⟨p, 0, none⟩ = some (.int .i64 a) ∧ W.cell? ⟨p, 1, none⟩ = some (.slice none 0 0) ∧ W.cell? ⟨p, 2, none⟩ = some (.slice none 0 0) ∧ HasherAt W p a ∧ Below w.heap.size w W := ⟨(h_cells h).1, (h_cells h).2.1, (h_cells h).2.2, h, hb⟩
theorem h_call {w W w1 : World} {p : Nat} {a : Int} (h : W.cell? ⟨p, 0, none⟩ = some (.int .i64 a) ∧ W.cell? ⟨p, 1, none⟩ = some (.slice none 0 0) ∧ W.cell? ⟨p, 2, none⟩ = some (.slice none 0 0) ∧ HasherAt W p a ∧ Below w.heap.size w W) (hb : Below W.heap.size W w1) : w1.cell? ⟨p, 0, none⟩ = some (.int .i64 a) ∧ w1.cell? ⟨p, 1, none⟩ = some (.slice none 0 0) ∧ w1.cell? ⟨p, 2, none⟩ = some (.slice none 0 0) ∧ HasherAt w1 p a ∧ Below w.heap.size w w1 := h_mk (h.2.2.2.1.call hb) (below_call h.2.2.2.2 hb)
theorem h_drew {w W : World} {p : Nat} {a : Int} (h : HasherAt W p a) (hb : Below w.heap.size w W) : W.drew.cell? ⟨p, 0, none⟩ = some (.int .i64 a) ∧ W.drew.cell? ⟨p, 1, none⟩ = some (.slice none 0 0) ∧ W.drew.cell? ⟨p, 2, none⟩ = some (.slice none 0 0) ∧ HasherAt W.drew p a ∧ Below w.heap.size w W.drew := h_mk (show HasherAt W.drew p a from h) hb.drew
theorem h_alloc {w W : World} {p : Nat} {a : Int} (h : W.cell? ⟨p, 0, none⟩ = some (.int .i64 a) ∧ W.cell? ⟨p, 1, none⟩ = some (.slice none 0 0) ∧ W.cell? ⟨p, 2, none⟩ = some (.slice none 0 0) ∧ HasherAt W p a ∧ Below w.heap.size w W) (ob : Obj) : (W.alloc ob).cell? ⟨p, 0, none⟩ = some (.int .i64 a) ∧ (W.alloc ob).cell? ⟨p, 1, none⟩ = some (.slice none 0 0) ∧ (W.alloc ob).cell? ⟨p, 2, none⟩ = some (.slice none 0 0) ∧ HasherAt (W.alloc ob) p a ∧ Below w.heap.size w (W.alloc ob) := h_call h ((Below.refl _ _).alloc (Nat.le_refl _) ob)

set_option maxRecDepth 100000 in
set_option maxHeartbeats 4000000 in
theorem hclone_any (a : Int) (p : Nat) (w : World) (hH : HasherAt w p a) :
    Calls Tryz.prog 13 #[.pointer (some ⟨p, 0, none⟩)] w fun e w' => (∃ q, e = .returned (.pointer (some ⟨q, 0, none⟩))) ∧ Below w.heap.size w w' := by
  have HH := Lib.hid hH
  obtain ⟨b, hp, hS⟩ := hH
  have k0 := blk_cell hp 0
  have k1 := blk_cell hp 1
  have k2 := blk_cell hp 2
  have k3 := blk_cell hp 3
  have hlt := blk_lt hp
  simp at k0 k1 k2 k3
  have HP := Lib.hid hp
  have HS := Lib.hid hS
  clear hp hS
  go_enter Tryz.func13, Tryz.ntmps13
  go_wp2_with fail
  go_region_held3 (fun w' => w'.cell? ⟨p, 0, none⟩ = some (.int .i64 a) ∧ w'.cell? ⟨p, 1, none⟩ = some (.slice none 0 0) ∧ w'.cell? ⟨p, 2, none⟩ = some (.slice none 0 0) ∧ HasherAt w' p a ∧ Below w.heap.size w w')
    (first | exact h_drew HH.out (Below.refl _ _) | exact h_call (by assumption) (by assumption) | exact h_alloc (by assumption) _)
    (first | (go_at_call 16; refine (own_nil _).mono ?_; rintro e w3 ⟨rfl, hw3⟩; have hz3 : w.heap.size ≤ w3.heap.size := Nat.le_trans (‹_ ∧ _ ∧ _ ∧ HasherAt _ _ _ ∧ Below _ _ _›).2.2.2.2.size hw3.size))
  have hH4 := (‹_ ∧ _ ∧ _ ∧ HasherAt _ _ _ ∧ Below _ _ _›).2.2.2.1
  have hB4 := (‹_ ∧ _ ∧ _ ∧ HasherAt _ _ _ ∧ Below _ _ _›).2.2.2.2
  have hn4 := blk_new w3 (.cells #[.int .i64 a, .slice none 0 0, .slice none 0 0, .nilIface] 50) _ rfl
  have hz : w.heap.size ≤ w3.heap.size := hz3
  clear ‹_ ∧ _ ∧ _ ∧ HasherAt _ _ _ ∧ Below _ _ _›
  generalize w3.heap.size = N at *
  generalize w3.alloc _ = W4 at *
  obtain ⟨b', hp', hS'⟩ := hH4
  have k3' := (blk_cell hp' 3).trans rfl
  have HC := Lib.hid (mclone_any a b' _ hS')
  have ta : ∀ W : World, (Instr.typeAssert (.iface 52 (.pointer (some ⟨b', 0, none⟩))) 47 52 true).run Tryz.prog W = .ok (.tuple #[.pointer (some ⟨b', 0, none⟩), .bool true]) W := fun W => rfl
  have c4 := blk_cell hn4 3
  simp at c4
  have hltN := blk_lt hn4
  go_wp2_with fail
  refine HC.out.mono ?_
  rintro e W5 ⟨⟨q, rfl⟩, hw5⟩
  have hB5 : Below w.heap.size w W5 := below_call hB4 hw5
  have c5 := (hw5.cell (p := ⟨N, 3, none⟩) hltN).trans c4
  have f5 := blk_frozen (blk_call hw5 hn4) 3
  clear hw5
  go_wp2_with fail
  go_returns
  exact ⟨⟨_, rfl⟩, by repeat' (first | (with_reducible exact Below.refl _ _) | (with_reducible assumption) | (with_reducible refine below_drewN ?_ _) | (with_reducible refine Below.drew ?_) | (with_reducible refine Below.alloc ?_ ?_ _) | (with_reducible refine Below.setCell ?_ ?_ _) | go_size)⟩
end Go.Proofs.YtlbnnlnjdkjppaaGreatDoor
