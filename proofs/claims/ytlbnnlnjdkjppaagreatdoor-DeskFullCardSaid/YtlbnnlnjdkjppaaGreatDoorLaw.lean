/- Lemmas for the claim: the law itself: its example, and what it asks of a full desk. -/
import Derived.Test.YtlbnnlnjdkjppaaGreatDoorDesk7
namespace Go.Proofs.YtlbnnlnjdkjppaaGreatDoor
open Go.RowKit

set_option maxRecDepth 100000 in
set_option maxHeartbeats 4000000 in
theorem wakes_any (w : World) (hE : Ents w) : Calls Tryz.prog 4 #[] w fun e w' => e = .returned (.bool true) ∧ Ents w' ∧ Below w.heap.size w w' := by
  have HE := Lib.hid hE
  clear hE
  go_enter Tryz.func4, Tryz.ntmps4
  go_wp2_with fail
  refine (desk_new w.heap.size none w (Nat.le_refl _)).mono ?_
  rintro e w1 ⟨⟨p, rfl, hD⟩, hB1⟩
  have H2 := Lib.hid (dnew_ok _ 2 none (makes12' 2 256 (by omega)) w1 hB1.size p [] 0 hD (HE.out.below hB1) (by decide) (by decide) (by omega) (by omega))
  clear hD
  go_wp2_with fail
  refine H2.out.mono ?_
  rintro e w2 ⟨rfl, hD, hE, hb⟩
  have hB2 := hB1.trans hb
  clear hb hB1
  have H3 := Lib.hid (dnew_ok _ 11 none makes11 w2 hB2.size p _ _ hD hE (by decide) (by decide) (by omega) (by omega))
  clear hD hE
  go_wp2_with fail
  refine H3.out.mono ?_
  rintro e w3 ⟨rfl, hD, hE, hb⟩
  have hB3 := hB2.trans hb
  clear hb hB2
  have H4 := Lib.hid (ddrop_in _ none w3 hB3.size p 1 _ _ hD hE (by decide))
  clear hD hE
  go_wp2_with fail
  refine H4.out.mono ?_
  rintro e w4 ⟨rfl, ⟨j, hj, hD⟩, hE, hb⟩
  have hB4 := hB3.trans hb
  clear hb hB3
  have hj0 : j = 0 := by
    rcases j with _ | _ | j
    · rfl
    · simp at hj
    · simp at hj
  subst hj0
  have H5 := Lib.hid (dnew_ok _ 2 none (makes12' 2 256 (by omega)) w4 hB4.size p _ _ hD hE (by decide) (by decide) (by omega) (by omega))
  clear hD hE hj
  go_wp2_with fail
  refine H5.out.mono ?_
  rintro e w5 ⟨rfl, hD, hE, hb⟩
  have hB5 := hB4.trans hb
  clear hb hB4
  have HE5 := Lib.hid hE
  clear hD hE
  go_wp2_with fail
  go_returns
  exact ⟨rfl, HE5.out, hB5⟩

/-- The numbers 1 to n. -/
def nums : Nat → List Int
  | 0 => []
  | n + 1 => nums n ++ [(n : Int) + 1]
theorem nums_length : ∀ n, (nums n).length = n
  | 0 => rfl
  | n + 1 => by simp [nums, nums_length n]
theorem mem_nums (k : Int) : ∀ n : Nat, k ∈ nums n ↔ 1 ≤ k ∧ k ≤ n
  | 0 => by simp [nums]; omega
  | n + 1 => by simp only [nums, List.mem_append, List.mem_singleton, mem_nums k n]; omega

set_option maxRecDepth 100000 in
set_option maxHeartbeats 8000000 in
theorem full_any (m h : Int) (hm : 0 ≤ m ∧ m < 256) (w : World) (hE : Ents w) : Calls Tryz.prog 3 #[.int .u8 m, .int .i64 h] w fun e w' => e = .returned (.bool true) ∧ Below w.heap.size w w' := by
  have HW := Lib.hid (wakes_any w hE)
  have hMk : Makes 1 (some 1) := makes12 1 224 (by omega)
  have HMk := Lib.hid hMk
  clear hE hMk
  go_enter Tryz.func3, Tryz.ntmps3
  go_wp2_with fail
  refine HW.out.mono ?_
  rintro e w1 ⟨rfl, hE1, hB1⟩
  have HE1 := Lib.hid hE1
  clear hE1 HW
  go_wp2_with fail
  refine (desk_new w.heap.size (some 1) w1 hB1.size).mono ?_
  rintro e w2 ⟨⟨p, rfl, hD2⟩, hw2⟩
  have HD2 := Lib.hid hD2
  have HE2 := Lib.hid (HE1.out.below hw2)
  have hB2 := below_call hB1 hw2
  clear hD2 hw2 HE1 hB1
  go_wp2_with fail
  go_loopw [21] (fun i wr => ∃ k : Nat, k ≤ 64 ∧ i = .int .i64 k ∧ DeskAt w.heap.size (some 1) wr p (nums k) k ∧ Ents wr ∧ Below w.heap.size w wr) (fun i _ => 64 - (intOf i).toNat)
  case atStart => exact ⟨0, by omega, rfl, HD2.out, HE2.out, hB2⟩
  case round =>
    obtain ⟨k, hk, rfl, hDr, hEr, hBr⟩ := hrel
    by_cases hlt : k < 64
    · have HN := Lib.hid (dnew_ok _ 1 (some 1) HMk.out wr hBr.size p _ _ hDr hEr (by rw [nums_length]; omega) (by rw [mem_nums]; omega) (by omega) (by omega))
      clear hDr hEr
      go_wp2_with fail
      refine HN.out.mono ?_
      rintro e w3 ⟨rfl, hD3, hE3, hb⟩
      have hB3 := hBr.trans hb
      clear hb
      have HD3 := Lib.hid hD3
      have HE3 := Lib.hid hE3
      clear hD3 hE3
      go_wp2_with fail
      go_roundw
      case rel => exact ⟨k + 1, by omega, by go_num, HD3.out, HE3.out, hB3⟩
      case measure => simp [intOf]; omega
    · have hk64 : k = 64 := by omega
      subst hk64
      have HD3 := Lib.hid (show DeskAt w.heap.size (some 1) wr p (nums 64) 64 from hDr)
      have HE3 := Lib.hid hEr
      clear hDr hEr
      go_wp2_with fail
      go_loopw [42] (fun i wr => ∃ k : Nat, (k : Int) ≤ m % 4 ∧ i = .int .i64 k ∧ DeskAt w.heap.size (some 1) wr p (nums 64) 64 ∧ Ents wr ∧ Below w.heap.size w wr) (fun i _ => 4 - (intOf i).toNat)
      case atStart => exact ⟨0, by omega, rfl, HD3.out, HE3.out, hBr⟩
      case round =>
        obtain ⟨k, hk2, rfl, hD4, hE4, hB4⟩ := hrel
        by_cases hlt2 : (k : Int) < m % 4
        · have HN := Lib.hid (dnew_full _ 1 (some 1) HMk.out _ p _ _ hD4 hE4 (by rw [nums_length]))
          have HD4 := Lib.hid hD4
          have HE4 := Lib.hid hE4
          clear hD4 hE4
          go_wp2_with fail
          refine HN.out.mono ?_
          rintro e w5 ⟨rfl, hw5⟩
          have HD5 := Lib.hid (HD4.out.call hw5)
          have HE5 := Lib.hid (HE4.out.below hw5)
          have hB5 := below_call hB4 hw5
          clear hw5
          have HC := Lib.hid (dclone_full _ 1 _ p 1 _ _ HD5.out (by rw [mem_nums]; omega) (by rw [nums_length]))
          go_wp2_with fail
          refine HC.out.mono ?_
          rintro e w6 ⟨rfl, hw6⟩
          have HD6 := Lib.hid (HD5.out.call hw6)
          have HE6 := Lib.hid (HE5.out.below hw6)
          have hB6 := below_call hB5 hw6
          clear hw6
          go_wp2_with fail
          refine ⟨?_, ?_⟩
          · iterate 31 apply Exists.intro
            exact ⟨⟨k + 1, by omega, by go_num, HD6.out, HE6.out, hB6⟩, rfl⟩
          · simp [intOf]; omega
        · by_cases hin : 1 ≤ h ∧ h ≤ 64
          · have HX := Lib.hid (ddrop_in _ (some 1) _ hB4.size p h _ _ hD4 hE4 (by rw [mem_nums]; omega))
            clear hD4 hE4
            obtain ⟨hi1, hi2⟩ := hin
            go_wp2_with fail
            refine HX.out.mono ?_
            rintro e w5 ⟨rfl, ⟨j, hj, hD5⟩, hE5, hb⟩
            have hB5 := hB4.trans hb
            clear hb
            have hjl : j < 64 := by
              have := (List.getElem?_eq_some_iff.1 hj).1
              rwa [nums_length] at this
            have HN := Lib.hid (dnew_ok _ 1 (some 1) HMk.out _ hB5.size p _ _ hD5 hE5 (by rw [List.length_eraseIdx, nums_length, if_pos hjl]; decide) (fun hm => by have := List.mem_of_mem_eraseIdx hm; rw [mem_nums] at this; omega) (by omega) (by omega))
            clear hD5 hE5 hj hjl
            go_wp2_with fail
            refine HN.out.mono ?_
            rintro e w6 ⟨rfl, _, _, hb⟩
            go_wp2_with fail
            go_returns
            exact ⟨rfl, hB5.trans hb⟩
          · have HX := Lib.hid (ddrop_out _ (some 1) _ p h _ _ hD4 (by rw [mem_nums]; omega))
            have HD4 := Lib.hid hD4
            have HE4 := Lib.hid hE4
            clear hD4 hE4
            go_wp2_with fail
            refine HX.out.mono ?_
            rintro e w5 ⟨rfl, hw5⟩
            have HN := Lib.hid (dnew_full _ 1 (some 1) HMk.out _ p _ _ (HD4.out.call hw5) (HE4.out.below hw5) (by rw [nums_length]))
            have hB5 := below_call hB4 hw5
            clear hw5
            go_wp2_with fail
            refine HN.out.mono ?_
            rintro e w6 ⟨rfl, hw6⟩
            have hB6 := below_call hB5 hw6
            by_cases h1 : 1 ≤ h
            · have h64 : ¬ h ≤ 64 := fun hh => hin ⟨h1, hh⟩
              go_wp2_with fail
              go_returns
              exact ⟨rfl, hB6⟩
            · go_wp2_with fail
              go_returns
              exact ⟨rfl, hB6⟩
end Go.Proofs.YtlbnnlnjdkjppaaGreatDoor
