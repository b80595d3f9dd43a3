/- Lemmas for the claim: table.First and first.Value return, and only make new memory. -/
import Derived.Test.YtlbnnlnjdkjppaaGreatDoorPrimes
namespace Go.Proofs.YtlbnnlnjdkjppaaGreatDoor
open Go.RowKit

/-- A block of eight words. -/
def A8 (w : World) (b : Nat) : Prop := ∃ c : Nat → Int, w.heap[b]? = some (.cells #[.int .u64 (c 0), .int .u64 (c 1), .int .u64 (c 2), .int .u64 (c 3), .int .u64 (c 4), .int .u64 (c 5), .int .u64 (c 6), .int .u64 (c 7)] 66 (0, 0))
theorem A8.cell {w : World} {b : Nat} (h : A8 w b) (i : Nat) (hi : i < 8) : ∃ c : Int, w.cell? ⟨b, i, none⟩ = some (.int .u64 c) := by
  obtain ⟨c, hc⟩ := h
  rw [blk_cell hc i]
  match i, hi with
  | 0, _ => exact ⟨_, rfl⟩
  | 1, _ => exact ⟨_, rfl⟩
  | 2, _ => exact ⟨_, rfl⟩
  | 3, _ => exact ⟨_, rfl⟩
  | 4, _ => exact ⟨_, rfl⟩
  | 5, _ => exact ⟨_, rfl⟩
  | 6, _ => exact ⟨_, rfl⟩
  | 7, _ => exact ⟨_, rfl⟩
theorem A8.frozen {w : World} {b : Nat} (h : A8 w b) (i : Nat) : w.frozen? ⟨b, i, none⟩ = false := let ⟨_, hc⟩ := h; blk_frozen hc i
theorem A8.lt {w : World} {b : Nat} (h : A8 w b) : b < w.heap.size := let ⟨_, hc⟩ := h; blk_lt hc
theorem A8.call {w w1 : World} {b : Nat} (hb : Below w.heap.size w w1) (h : A8 w b) : A8 w1 b := let ⟨c, hc⟩ := h; ⟨c, blk_call hb hc⟩
theorem A8.set {w : World} {b : Nat} (h : A8 w b) (i : Nat) (hi : i < 8) (x : Int) : A8 (w.setCell ⟨b, i, none⟩ (.int .u64 x)) b := by
  obtain ⟨c, hc⟩ := h
  refine ⟨fun j => if j = i then x else c j, ?_⟩
  rw [setCell_eq_setRow w b i _ _ (0, 0) _ hc, setRow_heap w b _ _ _ (0, 0) hc]
  match i, hi with
  | 0, _ => rfl
  | 1, _ => rfl
  | 2, _ => rfl
  | 3, _ => rfl
  | 4, _ => rfl
  | 5, _ => rfl
  | 6, _ => rfl
  | 7, _ => rfl

/-- What is read at a cell (kept from the walk's own rules). -/
def pick (w : World) (a : Addr) : Value := (w.cell? a).getD undef

/-- The state in which the closure of First finds and leaves the world: O is a block of eight words, all else that was there is as it was. -/
structure Fills (w0 : World) (O : Nat) (w : World) : Prop where
  a8 : A8 w O
  size : w0.heap.size ≤ w.heap.size
  old : ∀ k, k < w0.heap.size → k ≠ O → w.heap[k]? = w0.heap[k]?
  os : w.os = w0.os
  tape : w.tape = w0.tape
  output : w.output = w0.output
theorem Fills.refl {w0 : World} {O : Nat} (h : A8 w0 O) : Fills w0 O w0 := ⟨h, Nat.le_refl _, fun _ _ _ => rfl, rfl, rfl, rfl⟩
theorem Fills.below {w0 w : World} {O B : Nat} (h : Fills w0 O w) (hO : B ≤ O) (hB : B ≤ w0.heap.size) : Below B w0 w :=
  ⟨h.os, h.tape, h.output, h.size, fun k hk => h.old k (by omega) (by omega)⟩
theorem Fills.call {w0 w w1 : World} {O : Nat} (h : Fills w0 O w) (hb : Below w.heap.size w w1) : Fills w0 O w1 :=
  ⟨h.a8.call hb, Nat.le_trans h.size hb.size, fun k hk hne => (hb.block k (Nat.lt_of_lt_of_le hk h.size)).trans (h.old k hk hne), hb.os.trans h.os, hb.tape.trans h.tape, hb.output.trans h.output⟩
theorem Fills.set {w0 w : World} {O : Nat} (h : Fills w0 O w) (i : Nat) (hi : i < 8) (x : Int) : Fills w0 O (w.setCell ⟨O, i, none⟩ (.int .u64 x)) :=
  ⟨h.a8.set i hi x, by simpa [World.setCell] using h.size, fun k hk hne => (Below.heap_setCell _ _ _ _ hne).trans (h.old k hk hne), h.os, h.tape, h.output⟩
theorem Fills.cellAt {w0 w : World} {O : Nat} (h : Fills w0 O w) {i : Nat} (hi : i < 8) : w.cell? ⟨O, i, none⟩ = some (pick w ⟨O, i, none⟩) := by
  obtain ⟨c, hc⟩ := h.a8.cell i hi
  simp [pick, hc]

/-- The two cells that are read, and the block that is filled. -/
def FK (w0 : World) (S M O : Nat) (s m : Value) (w : World) : Prop := w.cell? ⟨S, 0, none⟩ = some s ∧ w.cell? ⟨M, 0, none⟩ = some m ∧ Fills w0 O w
theorem fk_call {w0 w w1 : World} {S M O : Nat} {s m : Value} (h : w.cell? ⟨S, 0, none⟩ = some s ∧ w.cell? ⟨M, 0, none⟩ = some m ∧ Fills w0 O w) (hb : Below w.heap.size w w1) :
    w1.cell? ⟨S, 0, none⟩ = some s ∧ w1.cell? ⟨M, 0, none⟩ = some m ∧ Fills w0 O w1 :=
  ⟨(hb.cell (p := ⟨S, 0, none⟩) (World.block_lt_of_cell? w _ h.1)).trans h.1, (hb.cell (p := ⟨M, 0, none⟩) (World.block_lt_of_cell? w _ h.2.1)).trans h.2.1, h.2.2.call hb⟩
theorem fk_drew {w0 w : World} {S M O : Nat} {s m : Value} (h1 : w.cell? ⟨S, 0, none⟩ = some s) (h2 : w.cell? ⟨M, 0, none⟩ = some m) (h3 : Fills w0 O w) :
    w.drew.cell? ⟨S, 0, none⟩ = some s ∧ w.drew.cell? ⟨M, 0, none⟩ = some m ∧ Fills w0 O w.drew := ⟨h1, h2, h3.a8, h3.size, h3.old, h3.os, h3.tape, h3.output⟩
theorem fk_set {w0 w : World} {S M O : Nat} {s m : Value} (h : w.cell? ⟨S, 0, none⟩ = some s ∧ w.cell? ⟨M, 0, none⟩ = some m ∧ Fills w0 O w) (hSO : S ≠ O) (hMO : M ≠ O) {i : Nat} (hi : i < 8) (x : Int) :
    (w.setCell ⟨O, i, none⟩ (.int .u64 x)).cell? ⟨S, 0, none⟩ = some s ∧ (w.setCell ⟨O, i, none⟩ (.int .u64 x)).cell? ⟨M, 0, none⟩ = some m ∧ Fills w0 O (w.setCell ⟨O, i, none⟩ (.int .u64 x)) :=
  ⟨(World.cell?_of_block (a := ⟨S, 0, none⟩) (Below.heap_setCell w ⟨O, i, none⟩ _ S hSO)).trans h.1, (World.cell?_of_block (a := ⟨M, 0, none⟩) (Below.heap_setCell w ⟨O, i, none⟩ _ M hMO)).trans h.2.1, h.2.2.set i hi x⟩

set_option maxRecDepth 100000 in
set_option maxHeartbeats 4000000 in
theorem fill_any (i : Nat) (hi : i < 8) (p m : Int) (S M O : Nat) (hSO : S ≠ O) (hMO : M ≠ O) (sh : Nat) (hsh : sh ≤ 63) (w : World) (hS : w.cell? ⟨S, 0, none⟩ = some (.int .i64 sh)) (hM : w.cell? ⟨M, 0, none⟩ = some (.int .u64 m)) (hO : A8 w O) :
    Calls Tryz.prog 68 #[.int .i64 i, .int .u64 p, .pointer (some ⟨S, 0, none⟩), .pointer (some ⟨M, 0, none⟩), .pointer (some ⟨O, 0, none⟩)] w fun e w' =>
      e = .returned (.tuple #[]) ∧ Fills w O w' := by
  have hF : Fills w O w := Fills.refl hO
  have hcO : ∀ w', Fills w O w' → w'.cell? ⟨O, i, none⟩ = some (pick w' ⟨O, i, none⟩) := fun w' h => h.cellAt hi
  have hfO : ∀ w', Fills w O w' → w'.frozen? ⟨O, i, none⟩ = false := fun w' h => h.a8.frozen i
  have h0 : (0 : Int) ≤ (i : Int) := by omega
  have h8 : (i : Int) < 8 := by omega
  go_enter Tryz.func68, Tryz.ntmps68
  go_wp2_with fail
  go_region_held3 (fun w' => w'.cell? ⟨S, 0, none⟩ = some (.int .i64 sh) ∧ w'.cell? ⟨M, 0, none⟩ = some (.int .u64 m) ∧ Fills w O w')
    (first | exact fk_drew hS hM hF | exact fk_call (by assumption) (by assumption) | exact fk_set (by assumption) hSO hMO hi _)
    (first | (go_at_call 69; refine (square_any _ _).mono ?_; rintro e w1 ⟨⟨b, rfl⟩, hw⟩))
  go_wp2_with fail
  go_returns
  exact ⟨rfl, (‹_ ∧ _ ∧ _› : _ ∧ _ ∧ _).2.2⟩

theorem Fills.trans {w0 w1 w2 : World} {O : Nat} (h : Fills w0 O w1) (k : Fills w1 O w2) : Fills w0 O w2 :=
  ⟨k.a8, Nat.le_trans h.size k.size, fun b hb hne => (k.old b (Nat.lt_of_lt_of_le hb h.size) hne).trans (h.old b hb hne), k.os.trans h.os, k.tape.trans h.tape, k.output.trans h.output⟩
theorem Fills.cell {w0 w1 : World} {O b o : Nat} {v : Value} (h : Fills w0 O w1) (hc : w0.cell? ⟨b, o, none⟩ = some v) (hne : b ≠ O) : w1.cell? ⟨b, o, none⟩ = some v :=
  (World.cell?_of_block (a := ⟨b, o, none⟩) (h.old b (World.block_lt_of_cell? w0 _ hc) hne)).trans hc

set_option maxRecDepth 100000 in
set_option maxHeartbeats 4000000 in
theorem each_any (fr tt B : Nat) (ht : tt = fr + 8) (hok : okN tt B) (m : Int) (S M O : Nat) (hSO : S ≠ O) (hMO : M ≠ O) (sh : Nat) (hsh : sh ≤ 63) (w : World) (hS : w.cell? ⟨S, 0, none⟩ = some (.int .i64 sh)) (hM : w.cell? ⟨M, 0, none⟩ = some (.int .u64 m)) (hO : A8 w O) :
    Calls Tryz.prog 67 #[.int .i64 fr, .int .i64 tt, .func (.func 68) #[] #[.pointer (some ⟨S, 0, none⟩), .pointer (some ⟨M, 0, none⟩), .pointer (some ⟨O, 0, none⟩)]] w fun e w' =>
      e = .returned (.tuple #[]) ∧ Fills w O w' := by
  have hlenB : (PL B).length = fr + 8 := by have := okN_len hok; omega
  have hF0 : Fills w O w := Fills.refl hO
  have HT := Lib.hid ht
  have HL := Lib.hid hlenB
  clear ht hlenB
  go_enter Tryz.func67, Tryz.ntmps67
  go_wp2_with fail
  refine (primes_any _ B hok _).mono ?_
  rintro e w1 ⟨⟨v, rfl, hown⟩, hw⟩
  have hl := HL.out
  rcases hown.2 with ⟨_, hxs⟩ | ⟨g, cap, cur, rfl, hbg, hg, hlc, hcm, hcs, htk⟩
  · exfalso
    have h0 : PL B = [] := by simpa using hxs
    rw [h0] at hl
    simp at hl
  have hF1 : Fills w O w1 := hF0.call hw
  have hgO : g ≠ O := by have := hO.lt; omega
  have hcell : ∀ j : Nat, j < 8 → ∃ x : Int, w1.cell? ⟨g, fr + j, none⟩ = some (.int .u64 x) := fun j hj => by
    refine ⟨(PL B)[fr + j], ?_⟩
    have := hown.cells (g := g) rfl (fr + j) (.int .u64 (PL B)[fr + j]) (by simp [hl, hj])
    rwa [show (⟨g, 0, none⟩ : Addr).add (fr + j) = ⟨g, fr + j, none⟩ from by unfold Addr.add; split <;> simp_all] at this
  have hcap : fr < cap := by omega
  have hle : (fr : Int) ≤ cap := by omega
  have hln : (fr : Int) ≤ ((PL B).length : Nat) := by omega
  have HC := Lib.hid hcell
  have hS1 := hF1.cell hS hSO
  have hM1 := hF1.cell hM hMO
  clear hown hbg hg hcm hcs htk hw hcell hl hF0
  go_wp2_with fail
  have hl8 : (PL B).length - fr = 8 := by have := HL.out; omega
  have HL8 := Lib.hid hl8
  clear hl8
  go_loopw [13] (fun i wr => ∃ k : Nat, k ≤ 8 ∧ i = .int .i64 k ∧ Fills w O wr ∧ wr.cell? ⟨S, 0, none⟩ = some (.int .i64 sh) ∧ wr.cell? ⟨M, 0, none⟩ = some (.int .u64 m) ∧ Fills w1 O wr) (fun i _ => 8 - (intOf i).toNat)
  case atStart => exact ⟨0, by omega, rfl, hF1, hS1, hM1, Fills.refl hF1.a8⟩
  case round =>
    obtain ⟨k, hk, rfl, hF, hSr, hMr, hF2⟩ := hrel
    have h8 := HL8.out
    by_cases hlt : k < 8
    · obtain ⟨x, hx⟩ := HC.out k hlt
      have hxr := hF2.cell hx hgO
      have ht1 : (k : Int) < (((PL B).length - fr : Nat) : Int) := by omega
      have ht2 : k < (PL B).length - fr := by omega
      clear h8
      go_wp2_with fail
      refine (fill_any k hlt x m S M O hSO hMO sh hsh wr hSr hMr hF.a8).mono ?_
      rintro e w2 ⟨rfl, hf⟩
      have hS2 := hf.cell hSr hSO
      have hM2 := hf.cell hMr hMO
      go_wp2_with fail
      go_roundw
      case rel => exact ⟨k + 1, by omega, by go_num, hF.trans hf, hS2, hM2, hF2.trans hf⟩
      case measure => simp [intOf]; omega
    · have ht1 : ¬ (k : Int) < (((PL B).length - fr : Nat) : Int) := by omega
      clear h8
      go_wp2_with fail
      go_returns
      exact ⟨rfl, hF⟩
end Go.Proofs.YtlbnnlnjdkjppaaGreatDoor
