/- Lemmas for the claim: sponge.From and sponge.New: a sponge lies in a new block. -/
import Derived.Test.YtlbnnlnjdkjppaaGreatDoorOwn
namespace Go.Proofs.YtlbnnlnjdkjppaaGreatDoor
open Go.RowKit

/-- A sponge's values, as its cells: rate, suffix, the lanes, the place, whether something was read. -/
def spCells (rate suf : Int) (L : Array Value) (at_ : Int) (rd : Bool) : Array Value := #[.int .i64 rate, .int .i64 suf] ++ L ++ #[.int .i64 at_, .bool rd]
def lanes0 : Array Value := Array.replicate 25 (.int .u64 0)
/-- Where a sponge lies. -/
def SpongeAt (w : World) (b : Nat) (cs : Array Value) : Prop := w.heap[b]? = some (.cells cs 79 (0, 0))

set_option maxRecDepth 100000 in
theorem build_sponge (rate suf : Int) (L : Array Value) (hL : L.size = 25) (at_ : Int) (rd : Bool) :
    Tryz.prog.built 79 [(0, .int .i64 rate), (1, .int .i64 suf), (2, .agg L), (3, .int .i64 at_), (4, .bool rd)] = some (spCells rate suf L at_ rd) := by
  obtain ⟨l⟩ := L
  match l, hL with
  | [a0, a1, a2, a3, a4, a5, a6, a7, a8, a9, a10, a11, a12, a13, a14, a15, a16, a17, a18, a19, a20, a21, a22, a23, a24], _ =>
    show _ = _
    kernel_rfl

set_option maxRecDepth 100000 in
set_option maxHeartbeats 4000000 in
theorem from_any (rate suf : Int) (hr : rate = 72 ∨ rate = 104 ∨ rate = 136 ∨ rate = 144 ∨ rate = 168) (hs : suf = 4 ∨ suf = 6 ∨ suf = 31) (L : Array Value) (hL : L.size = 25) (w : World) :
    Calls Tryz.prog 38 #[.int .i64 rate, .int .i64 suf, .agg L, .int .i64 0, .bool false] w fun e w' =>
      (∃ b, w.heap.size ≤ b ∧ e = .returned (.tuple #[.pointer (some ⟨b, 0, none⟩), .int .i64 0]) ∧ SpongeAt w' b (spCells rate suf L 0 false)) ∧ Below w.heap.size w w' := by
  have h5 := contains5 rate hr
  have h3 := contains3 suf hs
  have hr1 : 0 < rate := by omega
  have hr3 : ¬ rate < 0 := by omega
  have hr2 : ((0 : Int) == rate) = false := by simp; omega
  have hb := build_sponge rate suf L hL 0 false
  have HB := Lib.hid hb
  clear hb
  have H5 := Lib.hid (@h5)
  have H3 := Lib.hid (@h3)
  have HL := Lib.hid hL
  have hi : (Tryz.prog.info? 77).map (·.size) = some L.size := by rw [hL]; kernel_rfl
  have HI := Lib.hid hi
  clear h5 h3 hr hs hL hi
  go_enter Tryz.func38, Tryz.ntmps38
  go_wp2_with fail
  refine (H5.out _ _ (by simp [go_sem]) (by simp [go_sem]) (by simp [go_sem]) (by simp [go_sem]) (by simp [go_sem])).mono ?_
  rintro e w' ⟨rfl, rfl⟩
  go_wp2_with fail
  refine (H3.out _ _ (by simp [go_sem]) (by simp [go_sem]) (by simp [go_sem])).mono ?_
  rintro e w' ⟨rfl, rfl⟩
  go_wp2_with (first | (refine wpList_load_row (by rfl) 77 (.tmp 7) (by rfl) _ (by rfl) _ _ _ _ (blk_alloc (blk_alloc (heap_alloc_new _ _))) Tryz.underlying77 rfl HI.out ?_) | (refine wpList_build_is (by rfl) 79 _ (by rfl) _ (by simp [Act.eval]) _ HB.out ?_))
  go_returns
  exact ⟨⟨w.heap.size + 1 + 1 + 1, by omega, rfl, blk_new _ _ _ (by simp)⟩, by repeat' (first | (with_reducible exact Below.refl _ _) | (with_reducible assumption) | (with_reducible refine below_drewN ?_ _) | (with_reducible refine Below.drew ?_) | (with_reducible refine Below.alloc ?_ ?_ _) | (with_reducible refine Below.setCell ?_ ?_ _) | go_size)⟩

set_option maxRecDepth 100000 in
set_option maxHeartbeats 4000000 in
theorem snew_any (rate suf : Int) (hr : rate = 72 ∨ rate = 104 ∨ rate = 136 ∨ rate = 144 ∨ rate = 168) (hs : suf = 4 ∨ suf = 6 ∨ suf = 31) (w : World) :
    Calls Tryz.prog 26 #[.int .i64 rate, .int .i64 suf] w fun e w' =>
      (∃ b, w.heap.size ≤ b ∧ e = .returned (.tuple #[.pointer (some ⟨b, 0, none⟩), .int .i64 0]) ∧ SpongeAt w' b (spCells rate suf lanes0 0 false)) ∧ Below w.heap.size w w' := by
  have hb : Tryz.prog.built 77 [] = some lanes0 := by kernel_rfl
  have h := from_any rate suf hr hs lanes0 (by decide)
  have H := Lib.hid (@h)
  have HB := Lib.hid hb
  clear h hb hr hs
  go_enter Tryz.func26, Tryz.ntmps26
  go_wp2_with (first | (refine wpList_build_is (by rfl) 77 _ (by rfl) _ (by simp [Act.eval]) _ HB.out ?_))
  refine (H.out _).mono ?_
  rintro e w1 ⟨⟨b, hb, rfl, hs⟩, hw⟩
  have HS := Lib.hid hs
  clear hs
  go_wp2_with fail
  go_returns
  exact ⟨⟨b, hb, rfl, HS.out⟩, hw⟩
end Go.Proofs.YtlbnnlnjdkjppaaGreatDoor
