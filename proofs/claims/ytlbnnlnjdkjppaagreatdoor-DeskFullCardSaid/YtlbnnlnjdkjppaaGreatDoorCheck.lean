/- Lemmas for the claim: digest.Check, bytes.Clone and hasher.own of an empty name, slices.Contains, sponge.New. -/
import Derived.Test.YtlbnnlnjdkjppaaGreatDoorCustom
namespace Go.Proofs.YtlbnnlnjdkjppaaGreatDoor
open Go.RowKit

/-- What digest.Check answers. -/
def checkOf (a : Int) (l1 l2 : Nat) : Int := if kindOf a = 0 then 3 else if (kindOf a ≠ 4 ∧ l1 + l2 > 0) ∨ ¬ (l1 ≤ 1000 ∧ l2 ≤ 1000) then 1 else 0

set_option maxRecDepth 100000 in
set_option maxHeartbeats 2000000 in
theorem check_any (a : Int) (a1 : Option Addr) (l1 c1 : Nat) (a2 : Option Addr) (l2 c2 : Nat) (hl1 : l1 ≤ 140737488355328) (hl2 : l2 ≤ 140737488355328) (w : World) (hE : Ents w) :
    Calls Tryz.prog 15 #[.int .i64 a, .agg #[.slice a1 l1 c1, .slice a2 l2 c2]] w fun e w' => e = .returned (.int .i64 (checkOf a l1 l2)) ∧ Below w.heap.size w w' := by
  have hk := kind_any a
  have hE' : Ents (w.alloc (.cells #[.slice a1 l1 c1, .slice a2 l2 c2] 30)) := Ents.alloc hE
  unfold checkOf
  generalize kindOf a = k at hk ⊢
  have HK := Lib.hid (@hk)
  clear hk hE
  by_cases h0 : k = 0
  · subst h0
    go_enter Tryz.func15, Tryz.ntmps15
    go_wp2_with fail
    refine (HK.out _ hE').mono ?_
    rintro e w1 ⟨rfl, hw⟩
    have hB : Below w.heap.size w w1 := below_call (by repeat' (first | (with_reducible exact Below.refl _ _) | (with_reducible assumption) | (with_reducible refine below_drewN ?_ _) | (with_reducible refine Below.drew ?_) | (with_reducible refine Below.alloc ?_ ?_ _) | (with_reducible refine Below.setCell ?_ ?_ _) | go_size)) hw
    clear hw
    go_wp2_with fail
    go_returns
    exact ⟨rfl, hB⟩
  · rw [if_neg h0]
    have h0' : (k == 0) = false := by simpa using h0
    by_cases h4 : k = 4
    · subst h4
      have hq : (if ((4 : Int) ≠ 4 ∧ l1 + l2 > 0) ∨ ¬ (l1 ≤ 1000 ∧ l2 ≤ 1000) then (1 : Int) else 0) = if (decide ((l1 : Int) ≤ 1000) && decide ((l2 : Int) ≤ 1000)) = true then 0 else 1 := by
        by_cases q1 : l1 ≤ 1000 <;> by_cases q2 : l2 ≤ 1000 <;> simp [q1, q2] <;> omega
      rw [hq]
      generalize hqq : (decide ((l1 : Int) ≤ 1000) && decide ((l2 : Int) ≤ 1000)) = q
      have HQ := Lib.hid hqq
      clear hqq hq h0 h0'
      cases q
      all_goals
        go_enter Tryz.func15, Tryz.ntmps15
        go_wp2_with fail
        refine (HK.out _ hE').mono ?_
        rintro e w1 ⟨rfl, hw⟩
        have hB : Below w.heap.size w w1 := below_call (by repeat' (first | (with_reducible exact Below.refl _ _) | (with_reducible assumption) | (with_reducible refine below_drewN ?_ _) | (with_reducible refine Below.drew ?_) | (with_reducible refine Below.alloc ?_ ?_ _) | (with_reducible refine Below.setCell ?_ ?_ _) | go_size)) hw
        have hn := blk_call hw (heap_alloc_new _ _)
        have k0 := blk_cell hn 0
        have k1 := blk_cell hn 1
        simp at k0 k1
        clear hw hn
        go_wp2_with fail
        refine (right_any _ _ _ _ _ _ _).mono ?_
        rintro e w2 ⟨rfl, hw⟩
        rw [HQ.out]
        have hB2 := below_call hB hw
        clear hw
        go_wp2_with fail
        go_returns
        exact ⟨rfl, hB2⟩
    · have h4' : (k != 4) = true := by simpa using h4
      by_cases hp : l1 + l2 > 0
      · rw [if_pos (.inl ⟨h4, hp⟩)]
        have hp' : (0 : Int) < (l1 : Int) + (l2 : Int) := by omega
        clear h0 h4
        go_enter Tryz.func15, Tryz.ntmps15
        go_wp2_with fail
        refine (HK.out _ hE').mono ?_
        rintro e w1 ⟨rfl, hw⟩
        have hB : Below w.heap.size w w1 := below_call (by repeat' (first | (with_reducible exact Below.refl _ _) | (with_reducible assumption) | (with_reducible refine below_drewN ?_ _) | (with_reducible refine Below.drew ?_) | (with_reducible refine Below.alloc ?_ ?_ _) | (with_reducible refine Below.setCell ?_ ?_ _) | go_size)) hw
        have hn := blk_call hw (heap_alloc_new _ _)
        have k0 := blk_cell hn 0
        have k1 := blk_cell hn 1
        simp at k0 k1
        clear hw hn
        go_wp2
        go_returns
        exact ⟨rfl, hB⟩
      · have e1 : l1 = 0 := by omega
        have e2 : l2 = 0 := by omega
        subst e1; subst e2
        rw [if_neg (by omega)]
        clear h0 h4 hp
        go_enter Tryz.func15, Tryz.ntmps15
        go_wp2_with fail
        refine (HK.out _ hE').mono ?_
        rintro e w1 ⟨rfl, hw⟩
        have hB : Below w.heap.size w w1 := below_call (by repeat' (first | (with_reducible exact Below.refl _ _) | (with_reducible assumption) | (with_reducible refine below_drewN ?_ _) | (with_reducible refine Below.drew ?_) | (with_reducible refine Below.alloc ?_ ?_ _) | (with_reducible refine Below.setCell ?_ ?_ _) | go_size)) hw
        have hn := blk_call hw (heap_alloc_new _ _)
        have k0 := blk_cell hn 0
        have k1 := blk_cell hn 1
        simp at k0 k1
        clear hw hn
        go_wp2_with (first | (go_at_call 21; refine (right_any _ _ _ _ _ _ _).mono ?_; rintro e w2 ⟨rfl, hw⟩))
        go_returns
        exact ⟨rfl, below_call hB hw⟩
end Go.Proofs.YtlbnnlnjdkjppaaGreatDoor
