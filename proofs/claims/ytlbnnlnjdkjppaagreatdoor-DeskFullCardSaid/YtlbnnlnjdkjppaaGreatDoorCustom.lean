/- Lemmas for the claim: package custom (Right, empty, Suffix): what they say of a name hangs on its two lengths alone. -/
import Derived.Test.YtlbnnlnjdkjppaaGreatDoorAlg
namespace Go.Proofs.YtlbnnlnjdkjppaaGreatDoor
open Go.RowKit

def nameV (a1 : Option Addr) (l1 c1 : Nat) (a2 : Option Addr) (l2 c2 : Nat) : Value := .agg #[.slice a1 l1 c1, .slice a2 l2 c2]

set_option maxHeartbeats 1000000 in
theorem right1_any (a : Option Addr) (l c : Nat) (w : World) : Calls Tryz.prog 32 #[.slice a l c] w fun e w' => e = .returned (.bool (decide ((l : Int) ≤ 1000))) ∧ w = w' := by
  go_enter Tryz.func32, Tryz.ntmps32
  go_wp2
  go_returns
  exact ⟨rfl, rfl⟩
set_option maxHeartbeats 1000000 in
theorem empty1_any (a : Option Addr) (l c : Nat) (w : World) : Calls Tryz.prog 50 #[.slice a l c] w fun e w' => e = .returned (.bool ((l : Int) == 0)) ∧ w = w' := by
  go_enter Tryz.func50, Tryz.ntmps50
  go_wp2
  go_returns
  exact ⟨rfl, rfl⟩

set_option maxRecDepth 100000 in
set_option maxHeartbeats 2000000 in
theorem both_right (a1 : Option Addr) (l1 c1 : Nat) (a2 : Option Addr) (l2 c2 : Nat) (w : World) :
    Calls Tryz.prog 31 #[.agg #[.slice a1 l1 c1, .slice a2 l2 c2], .func (.func 32) #[] #[]] w fun e w' => e = .returned (.bool (decide ((l1 : Int) ≤ 1000) && decide ((l2 : Int) ≤ 1000))) ∧ Below w.heap.size w w' := by
  by_cases h : (l1 : Int) ≤ 1000
  · have h1 : decide ((l1 : Int) ≤ 1000) = true := by simpa using h
    have H := Lib.hid h
    rw [h1, Bool.true_and]
    clear h h1
    go_enter Tryz.func31, Tryz.ntmps31
    go_wp2_with fail
    refine (right1_any _ _ _ _).mono ?_
    rintro e w' ⟨rfl, rfl⟩
    have h := H.out
    go_wp2_with fail
    refine (right1_any _ _ _ _).mono ?_
    rintro e w' ⟨rfl, rfl⟩
    go_wp2_with fail
    go_returns
    exact ⟨rfl, by repeat' (first | (with_reducible exact Below.refl _ _) | (with_reducible assumption) | (with_reducible refine below_drewN ?_ _) | (with_reducible refine Below.drew ?_) | (with_reducible refine Below.alloc ?_ ?_ _) | (with_reducible refine Below.setCell ?_ ?_ _) | go_size)⟩
  · have h1 : decide ((l1 : Int) ≤ 1000) = false := by simpa using h
    rw [h1, Bool.false_and]
    go_enter Tryz.func31, Tryz.ntmps31
    go_wp2_with fail
    refine (right1_any _ _ _ _).mono ?_
    rintro e w' ⟨rfl, rfl⟩
    go_wp2_with fail
    go_returns
    exact ⟨rfl, by repeat' (first | (with_reducible exact Below.refl _ _) | (with_reducible assumption) | (with_reducible refine below_drewN ?_ _) | (with_reducible refine Below.drew ?_) | (with_reducible refine Below.alloc ?_ ?_ _) | (with_reducible refine Below.setCell ?_ ?_ _) | go_size)⟩

set_option maxRecDepth 100000 in
set_option maxHeartbeats 2000000 in
theorem both_empty (a1 : Option Addr) (l1 c1 : Nat) (a2 : Option Addr) (l2 c2 : Nat) (w : World) :
    Calls Tryz.prog 31 #[.agg #[.slice a1 l1 c1, .slice a2 l2 c2], .func (.func 50) #[] #[]] w fun e w' => e = .returned (.bool ((l1 : Int) == 0 && (l2 : Int) == 0)) ∧ Below w.heap.size w w' := by
  by_cases h : l1 = 0
  · have h1 : ((l1 : Int) == 0) = true := by simpa using h
    have H := Lib.hid h1
    rw [h1, Bool.true_and]
    clear h h1
    go_enter Tryz.func31, Tryz.ntmps31
    go_wp2_with fail
    refine (empty1_any _ _ _ _).mono ?_
    rintro e w' ⟨rfl, rfl⟩
    rw [H.out]
    go_wp2_with fail
    refine (empty1_any _ _ _ _).mono ?_
    rintro e w' ⟨rfl, rfl⟩
    go_wp2_with fail
    go_returns
    exact ⟨rfl, by repeat' (first | (with_reducible exact Below.refl _ _) | (with_reducible assumption) | (with_reducible refine below_drewN ?_ _) | (with_reducible refine Below.drew ?_) | (with_reducible refine Below.alloc ?_ ?_ _) | (with_reducible refine Below.setCell ?_ ?_ _) | go_size)⟩
  · have h1 : ((l1 : Int) == 0) = false := by simpa using h
    have H := Lib.hid h1
    rw [h1, Bool.false_and]
    clear h h1
    go_enter Tryz.func31, Tryz.ntmps31
    go_wp2_with fail
    refine (empty1_any _ _ _ _).mono ?_
    rintro e w' ⟨rfl, rfl⟩
    rw [H.out]
    go_wp2_with fail
    go_returns
    exact ⟨rfl, by repeat' (first | (with_reducible exact Below.refl _ _) | (with_reducible assumption) | (with_reducible refine below_drewN ?_ _) | (with_reducible refine Below.drew ?_) | (with_reducible refine Below.alloc ?_ ?_ _) | (with_reducible refine Below.setCell ?_ ?_ _) | go_size)⟩

set_option maxRecDepth 100000 in
set_option maxHeartbeats 2000000 in
theorem right_any (a1 : Option Addr) (l1 c1 : Nat) (a2 : Option Addr) (l2 c2 : Nat) (w : World) :
    Calls Tryz.prog 21 #[.agg #[.slice a1 l1 c1, .slice a2 l2 c2]] w fun e w' => e = .returned (.bool (decide ((l1 : Int) ≤ 1000) && decide ((l2 : Int) ≤ 1000))) ∧ Below w.heap.size w w' := by
  generalize hq : (decide ((l1 : Int) ≤ 1000) && decide ((l2 : Int) ≤ 1000)) = q
  have HQ := Lib.hid hq
  clear hq
  go_enter Tryz.func21, Tryz.ntmps21
  go_wp2_with fail
  refine (both_right _ _ _ _ _ _ _).mono ?_
  rintro e w1 ⟨rfl, hw⟩
  rw [HQ.out]
  have hB : Below w.heap.size w w1 := below_call (by repeat' (first | (with_reducible exact Below.refl _ _) | (with_reducible assumption) | (with_reducible refine below_drewN ?_ _) | (with_reducible refine Below.drew ?_) | (with_reducible refine Below.alloc ?_ ?_ _) | (with_reducible refine Below.setCell ?_ ?_ _) | go_size)) hw
  clear hw
  go_wp2_with fail
  go_returns
  exact ⟨rfl, hB⟩

set_option maxRecDepth 100000 in
set_option maxHeartbeats 2000000 in
theorem empty_any (a1 : Option Addr) (l1 c1 : Nat) (a2 : Option Addr) (l2 c2 : Nat) (w : World) :
    Calls Tryz.prog 41 #[.agg #[.slice a1 l1 c1, .slice a2 l2 c2]] w fun e w' => e = .returned (.bool ((l1 : Int) == 0 && (l2 : Int) == 0)) ∧ Below w.heap.size w w' := by
  generalize hq : ((l1 : Int) == 0 && (l2 : Int) == 0) = q
  have HQ := Lib.hid hq
  clear hq
  go_enter Tryz.func41, Tryz.ntmps41
  go_wp2_with fail
  refine (both_empty _ _ _ _ _ _ _).mono ?_
  rintro e w1 ⟨rfl, hw⟩
  rw [HQ.out]
  have hB : Below w.heap.size w w1 := below_call (by repeat' (first | (with_reducible exact Below.refl _ _) | (with_reducible assumption) | (with_reducible refine below_drewN ?_ _) | (with_reducible refine Below.drew ?_) | (with_reducible refine Below.alloc ?_ ?_ _) | (with_reducible refine Below.setCell ?_ ?_ _) | go_size)) hw
  clear hw
  go_wp2_with fail
  go_returns
  exact ⟨rfl, hB⟩

def suffixOf (l1 l2 : Nat) : Int := if l1 = 0 ∧ l2 = 0 then 31 else 4
set_option maxRecDepth 100000 in
set_option maxHeartbeats 2000000 in
theorem suffix_any (a1 : Option Addr) (l1 c1 : Nat) (a2 : Option Addr) (l2 c2 : Nat) (w : World) :
    Calls Tryz.prog 35 #[.agg #[.slice a1 l1 c1, .slice a2 l2 c2]] w fun e w' => e = .returned (.int .i64 (suffixOf l1 l2)) ∧ Below w.heap.size w w' := by
  generalize hq : ((l1 : Int) == 0 && (l2 : Int) == 0) = q
  have hs : suffixOf l1 l2 = if q then 31 else 4 := by
    subst hq
    unfold suffixOf
    by_cases h1 : l1 = 0 <;> by_cases h2 : l2 = 0 <;> simp [h1, h2]
  rw [hs]
  have HQ := Lib.hid hq
  clear hq hs
  cases q
  all_goals
    go_enter Tryz.func35, Tryz.ntmps35
    go_wp2_with fail
    refine (empty_any _ _ _ _ _ _ _).mono ?_
    rintro e w1 ⟨rfl, hw⟩
    rw [HQ.out]
    have hB : Below w.heap.size w w1 := below_call (by repeat' (first | (with_reducible exact Below.refl _ _) | (with_reducible assumption) | (with_reducible refine below_drewN ?_ _) | (with_reducible refine Below.drew ?_) | (with_reducible refine Below.alloc ?_ ?_ _) | (with_reducible refine Below.setCell ?_ ?_ _) | go_size)) hw
    clear hw
    go_wp2_with fail
    go_returns
    exact ⟨rfl, hB⟩
end Go.Proofs.YtlbnnlnjdkjppaaGreatDoor
