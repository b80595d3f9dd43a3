/- Lemmas for the claim: hasher.fresh, hasher.New, (*Hasher).Clone of a hash to which nothing was written. -/
import Derived.Test.YtlbnnlnjdkjppaaGreatDoorMerkle2
namespace Go.Proofs.YtlbnnlnjdkjppaaGreatDoor
open Go.RowKit

theorem StreamAt.call {w w1 : World} {b : Nat} {a : Int} (hb : Below w.heap.size w w1) (h : StreamAt w b a) : StreamAt w1 b a := let ⟨c, hc⟩ := h; ⟨c, blk_call hb hc⟩
theorem k_call {w W w1 : World} {b o : Nat} {v : Value} (h : W.cell? ⟨b, o, none⟩ = some v ∧ Below w.heap.size w W) (hb : Below W.heap.size W w1) : w1.cell? ⟨b, o, none⟩ = some v ∧ Below w.heap.size w w1 :=
  ⟨(hb.cell (p := ⟨b, o, none⟩) (World.block_lt_of_cell? W _ h.1)).trans h.1, below_call h.2 hb⟩
theorem k_drew {w : World} {b o : Nat} {v : Value} (h : w.cell? ⟨b, o, none⟩ = some v) : w.drew.cell? ⟨b, o, none⟩ = some v ∧ Below w.heap.size w w.drew := ⟨h, (Below.refl _ _).drew⟩
theorem k_alloc {w W : World} {b o : Nat} {v : Value} (h : W.cell? ⟨b, o, none⟩ = some v ∧ Below w.heap.size w W) (ob : Obj) : (W.alloc ob).cell? ⟨b, o, none⟩ = some v ∧ Below w.heap.size w (W.alloc ob) :=
  ⟨(World.cell?_of_block (a := ⟨b, o, none⟩) (Below.heap_alloc W ob b (World.block_lt_of_cell? W _ h.1))).trans h.1, h.2.alloc h.2.size ob⟩

set_option maxRecDepth 100000 in
set_option maxHeartbeats 4000000 in
theorem mclone_any (a : Int) (b : Nat) (w : World) (hS : StreamAt w b a) :
    Calls Tryz.prog 18 #[.pointer (some ⟨b, 0, none⟩)] w fun e w' => (∃ b', e = .returned (.pointer (some ⟨b', 0, none⟩))) ∧ Below w.heap.size w w' := by
  have hk : w.cell? ⟨b, 13, none⟩ = some (.iface 96 (.agg #[.int .i64 64])) := by
    obtain ⟨c, hc⟩ := hS
    exact (blk_cell hc 13).trans rfl
  go_enter Tryz.func18, Tryz.ntmps18
  go_wp2_with fail
  go_region_held3 (fun w' => w'.cell? ⟨b, 13, none⟩ = some (.iface 96 (.agg #[.int .i64 64])) ∧ Below w.heap.size w w')
    (first | exact k_drew hk | exact k_call (by assumption) (by assumption) | exact k_alloc (by assumption) _)
    (first | (go_at_call 29; refine (state_any a b _ (StreamAt.call (‹_ ∧ Below _ _ _›).2 hS)).mono ?_; rintro e w1 ⟨⟨c, rfl⟩, hw⟩))
  go_wp2_with fail
  go_returns
  exact ⟨⟨_, rfl⟩, (‹_ ∧ Below _ _ _› : _ ∧ _).2⟩

theorem kinds : kindOf 1 = 1 ∧ kindOf 2 = 1 ∧ kindOf 11 = 3 ∧ blkOf 11 = 168 := by decide

set_option maxRecDepth 100000 in
set_option maxHeartbeats 4000000 in
theorem fresh12 (a b' : Int) (hab : (a = 1 ∧ b' = 224) ∨ (a = 2 ∧ b' = 256)) (w : World) (hE : Ents w) :
    Calls Tryz.prog 17 #[.int .i64 a, .agg #[.slice none 0 0, .slice none 0 0]] w fun e w' => (∃ b, w.heap.size ≤ b ∧ e = .returned (.iface 52 (.pointer (some ⟨b, 0, none⟩))) ∧ StreamAt w' b a) ∧ Below w.heap.size w w' := by
  have hk : kindOf a = 1 := by rcases hab with ⟨rfl, _⟩ | ⟨rfl, _⟩ <;> decide
  have HM := Lib.hid (mnew_any a b' hab)
  have h1 := kind_any a _ (Ents.alloc (o' := .cells #[.slice none 0 0, .slice none 0 0] 30) hE)
  rw [hk] at h1
  have HK := Lib.hid h1
  clear h1 hk hab
  go_enter Tryz.func17, Tryz.ntmps17
  go_wp2_with fail
  refine HK.out.mono ?_
  rintro e w1 ⟨rfl, hw⟩
  have hB : Below w.heap.size w w1 := below_call (by repeat' (first | (with_reducible exact Below.refl _ _) | (with_reducible assumption) | (with_reducible refine below_drewN ?_ _) | (with_reducible refine Below.drew ?_) | (with_reducible refine Below.alloc ?_ ?_ _) | (with_reducible refine Below.setCell ?_ ?_ _) | go_size)) hw
  clear hw
  go_wp2_with fail
  refine (HM.out _).mono ?_
  rintro e w2 ⟨⟨b, hb, rfl, hS⟩, hw⟩
  have HS := Lib.hid hS
  have hB2 := below_call hB hw
  have hb2 : w.heap.size ≤ b := Nat.le_trans hB.size hb
  clear hw hS
  go_wp2_with fail
  go_returns
  exact ⟨⟨b, hb2, rfl, HS.out⟩, hB2⟩

set_option maxRecDepth 100000 in
set_option maxHeartbeats 4000000 in
theorem suffix11 (w : World) (hE : Ents w) :
    Calls Tryz.prog 28 #[.int .i64 11, .agg #[.slice none 0 0, .slice none 0 0]] w fun e w' => e = .returned (.int .i64 31) ∧ Below w.heap.size w w' := by
  have h1 := kind_any 11 _ (Ents.alloc (o' := .cells #[.slice none 0 0, .slice none 0 0] 30) hE)
  rw [kinds.2.2.1] at h1
  have HK := Lib.hid h1
  clear h1
  go_enter Tryz.func28, Tryz.ntmps28
  go_wp2_with fail
  refine HK.out.mono ?_
  rintro e w1 ⟨rfl, hw⟩
  have hB : Below w.heap.size w w1 := below_call (by repeat' (first | (with_reducible exact Below.refl _ _) | (with_reducible assumption) | (with_reducible refine below_drewN ?_ _) | (with_reducible refine Below.drew ?_) | (with_reducible refine Below.alloc ?_ ?_ _) | (with_reducible refine Below.setCell ?_ ?_ _) | go_size)) hw
  have hn := blk_call hw (heap_alloc_new _ _)
  have k0 := blk_cell hn 0
  have k1 := blk_cell hn 1
  simp at k0 k1
  clear hw hn
  go_wp2_with fail
  refine (suffix_any _ _ _ _ _ _ _).mono ?_
  rintro e w2 ⟨rfl, hw⟩
  have hs : suffixOf 0 0 = 31 := rfl
  rw [hs]
  clear hs
  go_wp2_with fail
  go_returns
  exact ⟨rfl, below_call hB hw⟩

theorem n_call {w W w1 : World} {x0 x1 : Value} {N : Nat} (h : W.cell? ⟨N, 0, none⟩ = some x0 ∧ W.cell? ⟨N, 1, none⟩ = some x1 ∧ Ents W ∧ Below w.heap.size w W) (hb : Below W.heap.size W w1) : w1.cell? ⟨N, 0, none⟩ = some x0 ∧ w1.cell? ⟨N, 1, none⟩ = some x1 ∧ Ents w1 ∧ Below w.heap.size w w1 :=
  ⟨(hb.cell (p := ⟨N, 0, none⟩) (World.block_lt_of_cell? W _ h.1)).trans h.1, (hb.cell (p := ⟨N, 1, none⟩) (World.block_lt_of_cell? W _ h.2.1)).trans h.2.1, h.2.2.1.below hb, below_call h.2.2.2 hb⟩
theorem n_drew {w W : World} {x0 x1 : Value} {N : Nat} (h0 : W.cell? ⟨N, 0, none⟩ = some x0) (h1 : W.cell? ⟨N, 1, none⟩ = some x1) (h2 : Ents W) (h3 : Below w.heap.size w W) : W.drew.cell? ⟨N, 0, none⟩ = some x0 ∧ W.drew.cell? ⟨N, 1, none⟩ = some x1 ∧ Ents W.drew ∧ Below w.heap.size w W.drew := ⟨h0, h1, h2, h3.drew⟩
theorem n_alloc {w W : World} {x0 x1 : Value} {N : Nat} (h : W.cell? ⟨N, 0, none⟩ = some x0 ∧ W.cell? ⟨N, 1, none⟩ = some x1 ∧ Ents W ∧ Below w.heap.size w W) (ob : Obj) : (W.alloc ob).cell? ⟨N, 0, none⟩ = some x0 ∧ (W.alloc ob).cell? ⟨N, 1, none⟩ = some x1 ∧ Ents (W.alloc ob) ∧ Below w.heap.size w (W.alloc ob) :=
  n_call h ((Below.refl _ _).alloc (Nat.le_refl _) ob)

set_option maxRecDepth 100000 in
set_option maxHeartbeats 4000000 in
theorem fresh11 (w : World) (hE : Ents w) :
    Calls Tryz.prog 17 #[.int .i64 11, .agg #[.slice none 0 0, .slice none 0 0]] w fun e w' => (∃ b, e = .returned (.iface 54 (.pointer (some ⟨b, 0, none⟩)))) ∧ Below w.heap.size w w' := by
  have h1 := kind_any 11 _ (Ents.alloc (o' := .cells #[.slice none 0 0, .slice none 0 0] 30) hE)
  rw [kinds.2.2.1] at h1
  have HK := Lib.hid h1
  have hE1 : Ents (w.alloc (.cells #[.slice none 0 0, .slice none 0 0] 30)) := Ents.alloc hE
  have hbk : ∀ w, Ents w → Calls Tryz.prog 27 #[.int .i64 11] w fun e w' => e = .returned (.int .i64 168) ∧ Below w.heap.size w w' := fun w h => by
    have := block_any 11 w h
    rwa [kinds.2.2.2] at this
  have HBK := Lib.hid (@hbk)
  clear h1 hbk hE
  go_enter Tryz.func17, Tryz.ntmps17
  go_wp2_with fail
  refine HK.out.mono ?_
  rintro e w1 ⟨rfl, hw⟩
  have hB : Below w.heap.size w w1 := below_call (by repeat' (first | (with_reducible exact Below.refl _ _) | (with_reducible assumption) | (with_reducible refine below_drewN ?_ _) | (with_reducible refine Below.drew ?_) | (with_reducible refine Below.alloc ?_ ?_ _) | (with_reducible refine Below.setCell ?_ ?_ _) | go_size)) hw
  have hn := blk_call hw (heap_alloc_new _ _)
  have k0 := blk_cell hn 0
  have k1 := blk_cell hn 1
  have hE2 := hE1.below hw
  simp at k0 k1
  clear hw hn hE1
  go_wp2_with fail
  go_region_held3 (fun w' => w'.cell? ⟨w.heap.size, 0, none⟩ = some (.slice none 0 0) ∧ w'.cell? ⟨w.heap.size, 1, none⟩ = some (.slice none 0 0) ∧ Ents w' ∧ Below w.heap.size w w')
    (first | exact n_drew k0 k1 hE2 hB | exact n_call (by assumption) (by assumption) | exact n_alloc (by assumption) _)
    (first | (go_at_call 27; refine (HBK.out _ (‹_ ∧ _ ∧ Ents _ ∧ _›).2.2.1).mono ?_; rintro e w3 ⟨rfl, hw3⟩) | (go_at_call 28; refine (suffix11 _ (‹_ ∧ _ ∧ Ents _ ∧ _›).2.2.1).mono ?_; rintro e w4 ⟨rfl, hw4⟩) | (go_at_call 26; refine (snew_any 168 31 (by omega) (by omega) _).mono ?_; rintro e w5 ⟨⟨b5, _, rfl, _⟩, hw5⟩))
  all_goals
    go_wp2_with fail
    go_returns
    exact ⟨⟨_, rfl⟩, (‹_ ∧ _ ∧ Ents _ ∧ _› : _ ∧ _ ∧ _ ∧ _).2.2.2⟩
end Go.Proofs.YtlbnnlnjdkjppaaGreatDoor
