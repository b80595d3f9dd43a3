/- Lemmas for the claim: package alg: what the table of algorithms says, for every number. -/
import Derived.Test.YtlbnnlnjdkjppaaGreatDoorBase
namespace Go.Proofs.YtlbnnlnjdkjppaaGreatDoor
open Go.RowKit

/-- The table of algorithms: word, kind, digest, block. -/
def entT : List (List UInt8 × Int × Int × Int) := [([], 0, 0, 0), ([115, 104, 97, 50, 50, 52], 1, 28, 64), ([115, 104, 97, 50, 53, 54], 1, 32, 64), ([115, 104, 97, 51, 56, 52], 1, 48, 128), ([115, 104, 97, 53, 49, 50], 1, 64, 128), ([115, 104, 97, 53, 49, 50, 45, 50, 50, 52], 1, 28, 128), ([115, 104, 97, 53, 49, 50, 45, 50, 53, 54], 1, 32, 128), ([115, 104, 97, 51, 45, 50, 50, 52], 2, 28, 144), ([115, 104, 97, 51, 45, 50, 53, 54], 2, 32, 136), ([115, 104, 97, 51, 45, 51, 56, 52], 2, 48, 104), ([115, 104, 97, 51, 45, 53, 49, 50], 2, 64, 72), ([115, 104, 97, 107, 101, 49, 50, 56], 3, 32, 168), ([115, 104, 97, 107, 101, 50, 53, 54], 3, 64, 136), ([99, 115, 104, 97, 107, 101, 49, 50, 56], 4, 32, 168), ([99, 115, 104, 97, 107, 101, 50, 53, 54], 4, 64, 136)]
def entAt (a : Nat) : List UInt8 × Int × Int × Int := entT.getD a ([], 0, 0, 0)
/-- .. for every number: an empty one where there is none. -/
def entOf (a : Int) : List UInt8 × Int × Int × Int := if a < 0 then ([], 0, 0, 0) else entAt a.toNat
def entCells : Array Value := (entT.flatMap fun e => [Value.string ⟨e.1.toArray⟩, .int .i64 e.2.1, .int .i64 e.2.2.1, .int .i64 e.2.2.2]).toArray
def kindOf (a : Int) : Int := (entOf a).2.1
def digOf (a : Int) : Int := (entOf a).2.2.1
def blkOf (a : Int) : Int := (entOf a).2.2.2
/-- The variable alg.entries holds what the text lays. -/
def Ents (w : World) : Prop := ∃ t, w.heap[1]? = some (.cells entCells t (0, 0))
theorem Ents.below {w w1 : World} (h : Ents w) (hb : Below w.heap.size w w1) : Ents w1 := let ⟨t, h⟩ := h; ⟨t, blk_call hb h⟩
theorem Ents.alloc {w : World} {o' : Obj} (h : Ents w) : Ents (w.alloc o') := let ⟨t, h⟩ := h; ⟨t, blk_alloc h⟩

theorem entOf_nat (a : Nat) : entOf a = entAt a := by unfold entOf; rw [if_neg (by omega)]; rfl
theorem entOf_neg {a : Int} (h : a < 0) : entOf a = ([], 0, 0, 0) := by unfold entOf; rw [if_pos h]
theorem entAt_big {a : Nat} (h : 15 ≤ a) : entAt a = ([], 0, 0, 0) := by unfold entAt; rw [List.getD_eq_getElem?_getD, List.getElem?_eq_none (by exact h)]; rfl

def EntV (a : Int) : Value := .agg #[.string ⟨(entOf a).1.toArray⟩, .int .i64 (entOf a).2.1, .int .i64 (entOf a).2.2.1, .int .i64 (entOf a).2.2.2]

theorem ent_cells (a : Nat) (h : a < 15) : entCells[a * 4]? = some (.string ⟨(entAt a).1.toArray⟩) ∧ entCells[a * 4 + 1]? = some (.int .i64 (entAt a).2.1) ∧ entCells[a * 4 + 2]? = some (.int .i64 (entAt a).2.2.1) ∧ entCells[a * 4 + 3]? = some (.int .i64 (entAt a).2.2.2) := by
  match a, h with
  | 0, _ | 1, _ | 2, _ | 3, _ | 4, _ | 5, _ | 6, _ | 7, _ | 8, _ | 9, _ | 10, _ | 11, _ | 12, _ | 13, _ | 14, _ => exact ⟨rfl, rfl, rfl, rfl⟩

set_option maxRecDepth 100000 in
set_option maxHeartbeats 4000000 in
theorem of_in (a : Nat) (ha : a < 15) (w : World) (hE : Ents w) :
    Calls Tryz.prog 30 #[.int .i64 a] w fun e w' => e = .returned (EntV a) ∧ Below w.heap.size w w' := by
  obtain ⟨c0, c1, c2, c3⟩ := ent_cells a ha
  obtain ⟨tE, hE⟩ := hE
  have k0 := (blk_cell hE (a * 4)).trans c0
  have k1 := (blk_cell hE (a * 4 + 1)).trans c1
  have k2 := (blk_cell hE (a * 4 + 2)).trans c2
  have k3 := (blk_cell hE (a * 4 + 3)).trans c3
  have hl := blk_lt hE
  have h1 : (0 : Int) ≤ a := by omega
  have h2 : (a : Int) < 15 := by omega
  rw [show EntV (a : Int) = .agg #[.string ⟨(entAt a).1.toArray⟩, .int .i64 (entAt a).2.1, .int .i64 (entAt a).2.2.1, .int .i64 (entAt a).2.2.2] from by unfold EntV; rw [entOf_nat]]
  generalize (entAt a).1.toArray = s0 at *
  generalize (entAt a).2.1 = s1 at *
  generalize (entAt a).2.2.1 = s2 at *
  generalize (entAt a).2.2.2 = s3 at *
  clear c0 c1 c2 c3 hE
  go_enter Tryz.func30, Tryz.ntmps30
  go_wp2
  go_returns
  exact ⟨rfl, by repeat' (first | (with_reducible exact Below.refl _ _) | (with_reducible assumption) | (with_reducible refine below_drewN ?_ _) | (with_reducible refine Below.drew ?_) | (with_reducible refine Below.alloc ?_ ?_ _) | (with_reducible refine Below.setCell ?_ ?_ _) | go_size)⟩

set_option maxRecDepth 100000 in
set_option maxHeartbeats 4000000 in
theorem of_out (a : Int) (ha : a < 0 ∨ 15 ≤ a) (w : World) :
    Calls Tryz.prog 30 #[.int .i64 a] w fun e w' => e = .returned (EntV a) ∧ Below w.heap.size w w' := by
  have e : EntV a = .agg #[.string ByteArray.empty, .int .i64 0, .int .i64 0, .int .i64 0] := by
    have : entOf a = ([], 0, 0, 0) := by
      rcases ha with h | h
      · exact entOf_neg h
      · obtain ⟨n, rfl⟩ := Int.eq_ofNat_of_zero_le (show 0 ≤ a by omega)
        rw [entOf_nat]; exact entAt_big (by omega)
    unfold EntV; rw [this]; rfl
  rw [e]
  clear e
  rcases ha with h | h
  · go_enter Tryz.func30, Tryz.ntmps30
    go_wp2
    go_returns
    exact ⟨rfl, by repeat' (first | (with_reducible exact Below.refl _ _) | (with_reducible assumption) | (with_reducible refine below_drewN ?_ _) | (with_reducible refine Below.drew ?_) | (with_reducible refine Below.alloc ?_ ?_ _) | (with_reducible refine Below.setCell ?_ ?_ _) | go_size)⟩
  · have h' : ¬ a < 0 := by omega
    go_enter Tryz.func30, Tryz.ntmps30
    go_wp2
    go_returns
    exact ⟨rfl, by repeat' (first | (with_reducible exact Below.refl _ _) | (with_reducible assumption) | (with_reducible refine below_drewN ?_ _) | (with_reducible refine Below.drew ?_) | (with_reducible refine Below.alloc ?_ ?_ _) | (with_reducible refine Below.setCell ?_ ?_ _) | go_size)⟩

theorem of_any (a : Int) (w : World) (hE : Ents w) :
    Calls Tryz.prog 30 #[.int .i64 a] w fun e w' => e = .returned (EntV a) ∧ Below w.heap.size w w' := by
  by_cases h : a < 0 ∨ 15 ≤ a
  · exact of_out a h w
  · obtain ⟨n, rfl⟩ := Int.eq_ofNat_of_zero_le (show 0 ≤ a by omega)
    exact of_in n (by omega) w hE

set_option maxRecDepth 100000 in
set_option maxHeartbeats 1000000 in
theorem kind_any (a : Int) (w : World) (hE : Ents w) :
    Calls Tryz.prog 20 #[.int .i64 a] w fun e w' => e = .returned (.int .i64 (kindOf a)) ∧ Below w.heap.size w w' := by
  have h := of_any a w hE
  unfold EntV at h
  unfold kindOf
  generalize entOf a = E at h ⊢
  obtain ⟨s0, s1, s2, s3⟩ := E
  simp only at h ⊢
  have H := Lib.hid h
  clear h hE
  have hfi : ∀ w, (Instr.field 81 (.agg #[.string ⟨s0.toArray⟩, .int .i64 s1, .int .i64 s2, .int .i64 s3]) 1).run Tryz.prog w = .ok (.int .i64 s1) w := fun _ => by kernel_rfl
  go_enter Tryz.func20, Tryz.ntmps20
  go_wp2_with fail
  refine H.out.mono ?_
  rintro e w1 ⟨rfl, hw⟩
  go_wp2_with fail
  go_returns
  exact ⟨rfl, hw⟩

set_option maxRecDepth 100000 in
set_option maxHeartbeats 1000000 in
theorem digest_any (a : Int) (w : World) (hE : Ents w) :
    Calls Tryz.prog 25 #[.int .i64 a] w fun e w' => e = .returned (.int .i64 (digOf a)) ∧ Below w.heap.size w w' := by
  have h := of_any a w hE
  unfold EntV at h
  unfold digOf
  generalize entOf a = E at h ⊢
  obtain ⟨s0, s1, s2, s3⟩ := E
  simp only at h ⊢
  have H := Lib.hid h
  clear h hE
  have hfi : ∀ w, (Instr.field 81 (.agg #[.string ⟨s0.toArray⟩, .int .i64 s1, .int .i64 s2, .int .i64 s3]) 2).run Tryz.prog w = .ok (.int .i64 s2) w := fun _ => by kernel_rfl
  go_enter Tryz.func25, Tryz.ntmps25
  go_wp2_with fail
  refine H.out.mono ?_
  rintro e w1 ⟨rfl, hw⟩
  go_wp2_with fail
  go_returns
  exact ⟨rfl, hw⟩

set_option maxRecDepth 100000 in
set_option maxHeartbeats 1000000 in
theorem block_any (a : Int) (w : World) (hE : Ents w) :
    Calls Tryz.prog 27 #[.int .i64 a] w fun e w' => e = .returned (.int .i64 (blkOf a)) ∧ Below w.heap.size w w' := by
  have h := of_any a w hE
  unfold EntV at h
  unfold blkOf
  generalize entOf a = E at h ⊢
  obtain ⟨s0, s1, s2, s3⟩ := E
  simp only at h ⊢
  have H := Lib.hid h
  clear h hE
  have hfi : ∀ w, (Instr.field 81 (.agg #[.string ⟨s0.toArray⟩, .int .i64 s1, .int .i64 s2, .int .i64 s3]) 3).run Tryz.prog w = .ok (.int .i64 s3) w := fun _ => by kernel_rfl
  go_enter Tryz.func27, Tryz.ntmps27
  go_wp2_with fail
  refine H.out.mono ?_
  rintro e w1 ⟨rfl, hw⟩
  go_wp2_with fail
  go_returns
  exact ⟨rfl, hw⟩
end Go.Proofs.YtlbnnlnjdkjppaaGreatDoor
