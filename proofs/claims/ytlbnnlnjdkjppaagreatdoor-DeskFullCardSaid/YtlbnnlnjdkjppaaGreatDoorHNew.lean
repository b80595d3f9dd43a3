/- Lemmas for the claim: hasher.New and (*Hasher).Clone of a hash to which nothing was written. -/
import Derived.Test.YtlbnnlnjdkjppaaGreatDoorHasher
namespace Go.Proofs.YtlbnnlnjdkjppaaGreatDoor
open Go.RowKit

/-- A hasher of SHA-224 or SHA-256 to which nothing was written lies at p. -/
def HasherAt (w : World) (p : Nat) (a : Int) : Prop :=
  ∃ b, w.heap[p]? = some (.cells #[.int .i64 a, .slice none 0 0, .slice none 0 0, .iface 52 (.pointer (some ⟨b, 0, none⟩))] 50 (0, 0)) ∧ StreamAt w b a
theorem HasherAt.call {w w1 : World} {p : Nat} {a : Int} (hb : Below w.heap.size w w1) (h : HasherAt w p a) : HasherAt w1 p a := let ⟨b, h1, h2⟩ := h; ⟨b, blk_call hb h1, h2.call hb⟩

theorem check12 (a : Int) (ha : a = 1 ∨ a = 2) : checkOf a 0 0 = 0 := by rcases ha with rfl | rfl <;> decide
theorem check11 : checkOf 11 0 0 = 0 := by decide

set_option maxRecDepth 100000 in
set_option maxHeartbeats 4000000 in
theorem hnew12 (a b' : Int) (hab : (a = 1 ∧ b' = 224) ∨ (a = 2 ∧ b' = 256)) (w : World) (hE : Ents w) :
    Calls Tryz.prog 10 #[.int .i64 a, .agg #[.slice none 0 0, .slice none 0 0]] w fun e w' => (∃ p, w.heap.size ≤ p ∧ e = .returned (.tuple #[.pointer (some ⟨p, 0, none⟩), .int .i64 0]) ∧ HasherAt w' p a) ∧ Below w.heap.size w w' := by
  have hc := check_any a none 0 0 none 0 0 (by omega) (by omega) _ (Ents.alloc (o' := .cells #[.slice none 0 0, .slice none 0 0] 30) hE)
  rw [check12 a (by omega)] at hc
  have HC := Lib.hid hc
  have hE1 : Ents (w.alloc (.cells #[.slice none 0 0, .slice none 0 0] 30)) := Ents.alloc hE
  have HF := Lib.hid (fresh12 a b' hab)
  clear hc hab hE
  go_enter Tryz.func10, Tryz.ntmps10
  go_wp2_with fail
  refine HC.out.mono ?_
  rintro e w1 ⟨rfl, hw⟩
  have hB : Below w.heap.size w w1 := below_call (by repeat' (first | (with_reducible exact Below.refl _ _) | (with_reducible assumption) | (with_reducible refine below_drewN ?_ _) | (with_reducible refine Below.drew ?_) | (with_reducible refine Below.alloc ?_ ?_ _) | (with_reducible refine Below.setCell ?_ ?_ _) | go_size)) hw
  have hn := blk_call hw (heap_alloc_new _ _)
  have k0 := blk_cell hn 0
  have k1 := blk_cell hn 1
  have hE2 := hE1.below hw
  simp at k0 k1
  clear hw hn hE1
  go_wp2_with fail
  go_region_held3 (fun w' => w'.cell? ⟨w.heap.size, 0, none⟩ = some (.slice none 0 0) ∧ w'.cell? ⟨w.heap.size, 1, none⟩ = some (.slice none 0 0) ∧ Ents w' ∧ Below w.heap.size w w')
    (first | exact n_drew k0 k1 hE2 hB | exact n_call (by assumption) (by assumption) | exact n_alloc (by assumption) _)
    (first | (go_at_call 16; refine (own_nil _).mono ?_; rintro e w3 ⟨rfl, hw3⟩) | (go_at_call 17; refine (HF.out _ (‹_ ∧ _ ∧ Ents _ ∧ _›).2.2.1).mono ?_; rintro e w4 ⟨⟨b, hb, rfl, hS⟩, hw4⟩; have HS := Lib.hid hS; clear hS))
  have z1 := hB.size
  have z3 : w1.heap.size ≤ w3.heap.size := hw3.size
  have z4 := hw4.size
  go_wp2_with fail
  go_returns
  exact ⟨⟨_, by omega, rfl, b, blk_new _ _ _ rfl, HS.out.call ((Below.refl _ _).alloc (Nat.le_refl _) _)⟩, (‹_ ∧ _ ∧ Ents _ ∧ Below _ _ _›).2.2.2⟩

set_option maxRecDepth 100000 in
set_option maxHeartbeats 4000000 in
theorem hnew11 (w : World) (hE : Ents w) :
    Calls Tryz.prog 10 #[.int .i64 11, .agg #[.slice none 0 0, .slice none 0 0]] w fun e w' => (∃ p, w.heap.size ≤ p ∧ e = .returned (.tuple #[.pointer (some ⟨p, 0, none⟩), .int .i64 0])) ∧ Below w.heap.size w w' := by
  have hc := check_any 11 none 0 0 none 0 0 (by omega) (by omega) _ (Ents.alloc (o' := .cells #[.slice none 0 0, .slice none 0 0] 30) hE)
  rw [check11] at hc
  have HC := Lib.hid hc
  have hE1 : Ents (w.alloc (.cells #[.slice none 0 0, .slice none 0 0] 30)) := Ents.alloc hE
  have HF := Lib.hid fresh11
  clear hc hE
  go_enter Tryz.func10, Tryz.ntmps10
  go_wp2_with fail
  refine HC.out.mono ?_
  rintro e w1 ⟨rfl, hw⟩
  have hB : Below w.heap.size w w1 := below_call (by repeat' (first | (with_reducible exact Below.refl _ _) | (with_reducible assumption) | (with_reducible refine below_drewN ?_ _) | (with_reducible refine Below.drew ?_) | (with_reducible refine Below.alloc ?_ ?_ _) | (with_reducible refine Below.setCell ?_ ?_ _) | go_size)) hw
  have hn := blk_call hw (heap_alloc_new _ _)
  have k0 := blk_cell hn 0
  have k1 := blk_cell hn 1
  have hE2 := hE1.below hw
  simp at k0 k1
  clear hw hn hE1
  go_wp2_with fail
  go_region_held3 (fun w' => w'.cell? ⟨w.heap.size, 0, none⟩ = some (.slice none 0 0) ∧ w'.cell? ⟨w.heap.size, 1, none⟩ = some (.slice none 0 0) ∧ Ents w' ∧ Below w.heap.size w w')
    (first | exact n_drew k0 k1 hE2 hB | exact n_call (by assumption) (by assumption) | exact n_alloc (by assumption) _)
    (first | (go_at_call 16; refine (own_nil _).mono ?_; rintro e w3 ⟨rfl, hw3⟩) | (go_at_call 17; refine (HF.out _ (‹_ ∧ _ ∧ Ents _ ∧ _›).2.2.1).mono ?_; rintro e w4 ⟨⟨b, rfl⟩, hw4⟩))
  have z1 := hB.size
  have z3 : w1.heap.size ≤ w3.heap.size := hw3.size
  have z4 := hw4.size
  go_wp2_with fail
  go_returns
  exact ⟨⟨_, by omega, rfl⟩, (‹_ ∧ _ ∧ Ents _ ∧ Below _ _ _›).2.2.2⟩

end Go.Proofs.YtlbnnlnjdkjppaaGreatDoor
