/- Lemmas for the claim: table.First, first.whole, first.Value at SHA-224 and SHA-256 return eight words and only make new memory. -/
import Derived.Test.YtlbnnlnjdkjppaaGreatDoorFirst
namespace Go.Proofs.YtlbnnlnjdkjppaaGreatDoor
open Go.RowKit

def Has8 (e : Ending) : Prop := ∃ c : Nat → Int, e = .returned (.agg #[.int .u64 (c 0), .int .u64 (c 1), .int .u64 (c 2), .int .u64 (c 3), .int .u64 (c 4), .int .u64 (c 5), .int .u64 (c 6), .int .u64 (c 7)])

set_option maxHeartbeats 400000 in
theorem has_yes (b : Int) (hb : b = 224 ∨ b = 256) (w : World) : Calls Tryz.prog 66 #[.int .i64 b] w fun e w' => e = .returned (.bool true) ∧ w = w' := by
  rcases hb with rfl | rfl
  all_goals
    go_enter Tryz.func66, Tryz.ntmps66
    go_wp2
    go_returns
    exact ⟨rfl, rfl⟩

set_option maxRecDepth 100000 in
set_option maxHeartbeats 4000000 in
theorem first224 (w : World) : Calls Tryz.prog 59 #[.int .i64 224] w fun e w' => Has8 e ∧ Below w.heap.size w w' := by
  have hmf : ∀ (fn : Fn) (first cap : Array Value) (w : World), (Instr.makeFunc fn first cap).run Tryz.prog w = .ok (.func fn first cap) w := fun _ _ _ _ => rfl
  go_enter Tryz.func59, Tryz.ntmps59
  go_wp2_with (first | (go_at_call 66; refine (has_yes _ (.inl rfl) _).mono ?_; rintro e w' ⟨rfl, rfl⟩))
  refine (each_any 8 16 52 rfl (.inr ⟨rfl, rfl⟩) 4294967295 (w.heap.size + 1 + 1) (w.heap.size + 1 + 1 + 1) (w.heap.size + 1) (by omega) (by omega) 0 (by omega) _ (by simp [go_sem]) (by simp [go_sem]) ⟨fun _ => 0, blk_alloc (blk_alloc (heap_alloc2_new _ _ _))⟩).mono ?_
  rintro e w1 ⟨rfl, hf⟩
  have hB : Below w.heap.size w w1 := Below.trans (by repeat' (first | (with_reducible exact Below.refl _ _) | (with_reducible assumption) | (with_reducible refine below_drewN ?_ _) | (with_reducible refine Below.drew ?_) | (with_reducible refine Below.alloc ?_ ?_ _) | (with_reducible refine Below.setCell ?_ ?_ _) | go_size)) (hf.below (by omega) (by simp; omega))
  obtain ⟨c, hc⟩ := hf.a8
  have hn := (hf.old w.heap.size (by simp; omega) (by omega)).trans (blk_alloc (blk_alloc (heap_alloc2_old _ _ _)))
  clear hf
  go_wp2_with (first | (refine wpList_load_row (by rfl) 66 (.tmp 3) (by rfl) _ (by rfl) _ _ _ _ hc Tryz.underlying66 rfl (by kernel_rfl) ?_) | (refine wpList_store_row (by rfl) 66 (.tmp 2) (.tmp 23) (by rfl) _ _ (by rfl) (by rfl) _ _ hn (by kernel_rfl) (by rfl) (by simp [Value.oneCell']) ?_))
  refine bodyPost_ret (results_cell_row rfl _ _ _ _ _ _ _ (by rfl) (setRow_heap _ _ _ _ _ _ hn) Tryz.underlying66 rfl (by kernel_rfl)) rfl ⟨⟨c, rfl⟩, below_setRow hB (by omega) _⟩
set_option maxRecDepth 100000 in
set_option maxHeartbeats 4000000 in
theorem first256 (w : World) : Calls Tryz.prog 59 #[.int .i64 256] w fun e w' => Has8 e ∧ Below w.heap.size w w' := by
  have hmf : ∀ (fn : Fn) (first cap : Array Value) (w : World), (Instr.makeFunc fn first cap).run Tryz.prog w = .ok (.func fn first cap) w := fun _ _ _ _ => rfl
  go_enter Tryz.func59, Tryz.ntmps59
  go_wp2_with (first | (go_at_call 66; refine (has_yes _ (.inr rfl) _).mono ?_; rintro e w' ⟨rfl, rfl⟩))
  refine (each_any 0 8 18 rfl (.inl ⟨rfl, rfl⟩) 18446744073709551615 (w.heap.size + 1 + 1) (w.heap.size + 1 + 1 + 1) (w.heap.size + 1) (by omega) (by omega) 32 (by omega) _ (by simp [go_sem]) (by simp [go_sem]) ⟨fun _ => 0, blk_alloc (blk_alloc (heap_alloc2_new _ _ _))⟩).mono ?_
  rintro e w1 ⟨rfl, hf⟩
  have hB : Below w.heap.size w w1 := Below.trans (by repeat' (first | (with_reducible exact Below.refl _ _) | (with_reducible assumption) | (with_reducible refine below_drewN ?_ _) | (with_reducible refine Below.drew ?_) | (with_reducible refine Below.alloc ?_ ?_ _) | (with_reducible refine Below.setCell ?_ ?_ _) | go_size)) (hf.below (by omega) (by simp; omega))
  obtain ⟨c, hc⟩ := hf.a8
  have hn := (hf.old w.heap.size (by simp; omega) (by omega)).trans (blk_alloc (blk_alloc (heap_alloc2_old _ _ _)))
  clear hf
  go_wp2_with (first | (refine wpList_load_row (by rfl) 66 (.tmp 3) (by rfl) _ (by rfl) _ _ _ _ hc Tryz.underlying66 rfl (by kernel_rfl) ?_) | (refine wpList_store_row (by rfl) 66 (.tmp 2) (.tmp 23) (by rfl) _ _ (by rfl) (by rfl) _ _ hn (by kernel_rfl) (by rfl) (by simp [Value.oneCell']) ?_))
  refine bodyPost_ret (results_cell_row rfl _ _ _ _ _ _ _ (by rfl) (setRow_heap _ _ _ _ _ _ hn) Tryz.underlying66 rfl (by kernel_rfl)) rfl ⟨⟨c, rfl⟩, below_setRow hB (by omega) _⟩

theorem first_any (b : Int) (hb : b = 224 ∨ b = 256) (w : World) : Calls Tryz.prog 59 #[.int .i64 b] w fun e w' => Has8 e ∧ Below w.heap.size w w' := by
  rcases hb with rfl | rfl
  · exact first224 w
  · exact first256 w

def Has8T (e : Ending) : Prop := ∃ c : Nat → Int, e = .returned (.tuple #[.agg #[.int .u64 (c 0), .int .u64 (c 1), .int .u64 (c 2), .int .u64 (c 3), .int .u64 (c 4), .int .u64 (c 5), .int .u64 (c 6), .int .u64 (c 7)], .bool true])

set_option maxRecDepth 100000 in
set_option maxHeartbeats 4000000 in
theorem whole_first (b : Int) (hb : b = 224 ∨ b = 256) (w : World) : Calls Tryz.prog 48 #[.int .i64 b] w fun e w' => Has8T e ∧ Below w.heap.size w w' := by
  go_enter Tryz.func48, Tryz.ntmps48
  go_wp2_with fail
  refine (first_any b hb _).mono ?_
  rintro e w1 ⟨⟨c, rfl⟩, hw⟩
  have hn := blk_call hw (heap_alloc_new _ _)
  have hB : Below w.heap.size w w1 := below_call (by repeat' (first | (with_reducible exact Below.refl _ _) | (with_reducible assumption) | (with_reducible refine below_drewN ?_ _) | (with_reducible refine Below.drew ?_) | (with_reducible refine Below.alloc ?_ ?_ _) | (with_reducible refine Below.setCell ?_ ?_ _) | go_size)) hw
  clear hw
  go_wp2_with (first | (refine wpList_store_row (by rfl) 66 (.tmp 2) (.tmp 5) (by rfl) _ _ (by rfl) (by rfl) _ _ hn (by kernel_rfl) (by rfl) (by simp [Value.oneCell']) ?_))
  refine bodyPost_ret (results_cell_tmp rfl _ _ _ _ _ _ _ (by rfl) (setRow_heap _ _ _ _ _ _ hn) Tryz.underlying66 rfl (by kernel_rfl)) rfl ⟨⟨c, rfl⟩, below_setRow hB (by omega) _⟩

/-- The first n entries of the map in first.Value. -/
def wayE (n : Nat) : Array MapEntry :=
  (#[⟨.int .i64 1, .agg #[.func (.func 48) #[] #[], .int .i64 224], 0⟩, ⟨.int .i64 2, .agg #[.func (.func 48) #[] #[], .int .i64 256], 1⟩,
    ⟨.int .i64 3, .agg #[.func (.func 48) #[] #[], .int .i64 384], 2⟩, ⟨.int .i64 4, .agg #[.func (.func 48) #[] #[], .int .i64 512], 3⟩,
    ⟨.int .i64 5, .agg #[.func (.func 49) #[] #[], .int .i64 224], 4⟩, ⟨.int .i64 6, .agg #[.func (.func 49) #[] #[], .int .i64 256], 5⟩] : Array MapEntry).extract 0 n

def waysPut (w : World) : World := w.alloc (.cells #[.int .u64 0, .int .u64 0, .int .u64 0, .int .u64 0, .int .u64 0, .int .u64 0, .int .u64 0, .int .u64 0] 66)
theorem way_step (w : World) (n : Nat) (k : Int) (v : Value) (hf : Instr.findNow (.int .i64) (.int .i64 k) (wayE n).toList 0 = some none) (he : (wayE n).push ⟨.int .i64 k, v, n⟩ = wayE (n + 1)) :
    (Instr.mapUpdate 111 (.map (some (w.heap.size + 1))) (.int .i64 k) v).run Tryz.prog ((waysPut w).alloc (.map (wayE n) n)) = .ok () ((waysPut w).alloc (.map (wayE (n + 1)) (n + 1))) := by
  rw [run_insert_new Tryz.underlying111 Tryz.underlying3 (waysPut w) (w.heap.size + 1) (by simp [waysPut]) _ _ _ _ hf, he]

set_option maxRecDepth 100000 in
set_option maxHeartbeats 4000000 in
theorem value_any (a b : Int) (hab : (a = 1 ∧ b = 224) ∨ (a = 2 ∧ b = 256)) (w : World) : Calls Tryz.prog 40 #[.int .i64 a] w fun e w' => Has8T e ∧ Below w.heap.size w w' := by
  have m0 : ∀ w, (Instr.makeMap 111 none).run Tryz.prog w = .ok (.map (some w.heap.size)) (w.alloc (.map (wayE 0) 0)) := fun _ => rfl
  have s0 := way_step w 0 1 (.agg #[.func (.func 48) #[] #[], .int .i64 224]) rfl rfl
  have s1 := way_step w 1 2 (.agg #[.func (.func 48) #[] #[], .int .i64 256]) rfl rfl
  have s2 := way_step w 2 3 (.agg #[.func (.func 48) #[] #[], .int .i64 384]) rfl rfl
  have s3 := way_step w 3 4 (.agg #[.func (.func 48) #[] #[], .int .i64 512]) rfl rfl
  have s4 := way_step w 4 5 (.agg #[.func (.func 49) #[] #[], .int .i64 224]) rfl rfl
  have s5 := way_step w 5 6 (.agg #[.func (.func 49) #[] #[], .int .i64 256]) rfl rfl
  have hl : (Instr.lookup 111 (.map (some (w.heap.size + 1))) (.int .i64 a) true).run Tryz.prog ((waysPut w).alloc (.map (wayE 6) 6)) = .ok (.tuple #[.agg #[.func (.func 48) #[] #[], .int .i64 b], .bool true]) ((waysPut w).alloc (.map (wayE 6) 6)) := by
    rcases hab with ⟨rfl, rfl⟩ | ⟨rfl, rfl⟩
    · exact run_lookup_found Tryz.underlying111 Tryz.underlying3 _ _ _ _ (blk_new _ _ _ (by simp [waysPut])) 1 0 _ rfl
    · exact run_lookup_found Tryz.underlying111 Tryz.underlying3 _ _ _ _ (blk_new _ _ _ (by simp [waysPut])) 2 1 _ rfl
  simp only [waysPut] at s0 s1 s2 s3 s4 s5 hl
  have hb : b = 224 ∨ b = 256 := by rcases hab with ⟨_, rfl⟩ | ⟨_, rfl⟩ <;> simp
  clear hab
  go_enter Tryz.func40, Tryz.ntmps40
  go_wp2_with fail
  refine (whole_first b hb _).mono ?_
  rintro e w1 ⟨⟨c, rfl⟩, hw⟩
  have hn := blk_call hw (blk_alloc (blk_alloc (heap_alloc_new _ _)))
  have hB : Below w.heap.size w w1 := below_call (by repeat' (first | (with_reducible exact Below.refl _ _) | (with_reducible assumption) | (with_reducible refine below_drewN ?_ _) | (with_reducible refine Below.drew ?_) | (with_reducible refine Below.alloc ?_ ?_ _) | (with_reducible refine Below.setCell ?_ ?_ _) | go_size)) hw
  clear hw
  go_wp2_with (first | (refine wpList_store_row (by rfl) 66 (.tmp 2) (.tmp 27) (by rfl) _ _ (by rfl) (by rfl) _ _ hn (by kernel_rfl) (by rfl) (by simp [Value.oneCell']) ?_))
  refine bodyPost_ret (results_cell_tmp rfl _ _ _ _ _ _ _ (by rfl) (setRow_heap _ _ _ _ _ _ hn) Tryz.underlying66 rfl (by kernel_rfl)) rfl ⟨⟨c, rfl⟩, below_setRow hB (by omega) _⟩
end Go.Proofs.YtlbnnlnjdkjppaaGreatDoor
