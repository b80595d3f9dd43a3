/- Lemmas for the claim, parts put together: the reference's Parse: a line's call, as the program has it; a line's call has that line, and a call's line is read as it. -/
import Derived.Test.YtgfncnnidacllaaGreatDoorJO
import Derived.Test.YtgfncnnidacllaaGreatDoorJP
import Derived.Test.YtgfncnnidacllaaGreatDoorJQ
import Derived.Test.YtgfncnnidacllaaGreatDoorJR
import Derived.Test.YtgfncnnidacllaaGreatDoorJS
set_option linter.unusedVariables false
set_option linter.unusedSimpArgs false
namespace Go.Proofs.YtgfncnnidacllaaGreatDoor
open Go.RowKit Go.Shelf
theorem kindW_lt {l : List UInt8} {k : Nat} (h : kindW l = some k) : k < 10 := List.mem_range.1 (List.mem_of_find?_eq_some h)
theorem len2 {α : Type} {ws : List α} (h : ws.length = 2) : ∃ a b, ws = [a, b] := by
  match ws, h with
  | [a, b], _ => exact ⟨a, b, rfl⟩
theorem len3 {α : Type} {ws : List α} (h : ws.length = 3) : ∃ a b c, ws = [a, b, c] := by
  match ws, h with
  | [a, b, c], _ => exact ⟨a, b, c, rfl⟩
theorem len4 {α : Type} {ws : List α} (h : ws.length = 4) : ∃ a b c d, ws = [a, b, c, d] := by
  match ws, h with
  | [a, b, c, d], _ => exact ⟨a, b, c, d, rfl⟩
theorem rparse_any (s : ByteArray) (hs : s.size ≤ 100000) (w : World) :
    Calls Tryz.prog 7 #[.string s] w (ParsePost (splitS s.data.toList) w) := by
  obtain ⟨ws, hws⟩ : ∃ ws, splitS s.data.toList = ws := ⟨_, rfl⟩
  rw [hws]
  cases hk : kindW (ws.headD []) with
  | none => exact rp_none s hs w ws hws hk
  | some k =>
    have hk10 := kindW_lt hk
    have h : k = 0 ∨ k = 1 ∨ k = 2 ∨ k = 3 ∨ k = 4 ∨ k = 5 ∨ k = 6 ∨ k = 7 ∨ k = 8 ∨ k = 9 := by omega
    rcases h with rfl | rfl | rfl | rfl | rfl | rfl | rfl | rfl | rfl | rfl
    · by_cases hl : ws.length = 1 + fLen 0
      · obtain ⟨f0, x1, x2, x3, rfl⟩ := len4 hl
        cases q1 : findN x1 with
        | none => exact rp_0_0 s hs w _ hws hk hl x1 rfl x2 rfl x3 rfl  q1 (by simp [parseFs, fldsOf, shFld, Fld.ok, Fld.set, q1])
        | some u1 =>
          cases q2 : getN x2 with
          | none => exact rp_0_1 s hs w _ hws hk hl x1 rfl x2 rfl x3 rfl u1 q1 q2 (by simp [parseFs, fldsOf, shFld, Fld.ok, Fld.set, q1, q2])
          | some u2 =>
            cases q3 : getN x3 with
            | none => exact rp_0_2 s hs w _ hws hk hl x1 rfl x2 rfl x3 rfl u1 q1 u2 q2 q3 (by simp [parseFs, fldsOf, shFld, Fld.ok, Fld.set, q1, q2, q3])
            | some u3 =>
              exact rp_0_3 s hs w _ hws hk hl x1 rfl x2 rfl x3 rfl u1 q1 u2 q2 u3 q3 (by simp [parseFs, fldsOf, shFld, Fld.ok, Fld.set, natV, Cl.of, q1, q2, q3])
      · exact rp_bad0 s hs w ws hws hk hl
    · by_cases hl : ws.length = 1 + fLen 1
      · obtain ⟨f0, x1, rfl⟩ := len2 hl
        cases q1 : getN x1 with
        | none => exact rp_1_0 s hs w _ hws hk hl x1 rfl  q1 (by simp [parseFs, fldsOf, shFld, Fld.ok, Fld.set, q1])
        | some u1 =>
          exact rp_1_1 s hs w _ hws hk hl x1 rfl u1 q1 (by simp [parseFs, fldsOf, shFld, Fld.ok, Fld.set, natV, Cl.of, q1])
      · exact rp_bad1 s hs w ws hws hk hl
    · by_cases hl : ws.length = 1 + fLen 2
      · obtain ⟨f0, x1, rfl⟩ := len2 hl
        cases q1 : smallN x1 1000000000 with
        | none => exact rp_2_0 s hs w _ hws hk hl x1 rfl  q1 (by simp [parseFs, fldsOf, shFld, Fld.ok, Fld.set, q1])
        | some u1 =>
          exact rp_2_1 s hs w _ hws hk hl x1 rfl u1 q1 (by simp [parseFs, fldsOf, shFld, Fld.ok, Fld.set, natV, Cl.of, q1])
      · exact rp_bad2 s hs w ws hws hk hl
    · by_cases hl : ws.length = 1 + fLen 3
      · obtain ⟨f0, x1, x2, rfl⟩ := len3 hl
        cases q1 : smallN x1 1000000000 with
        | none => exact rp_3_0 s hs w _ hws hk hl x1 rfl x2 rfl  q1 (by simp [parseFs, fldsOf, shFld, Fld.ok, Fld.set, q1])
        | some u1 =>
          cases q2 : getN x2 with
          | none => exact rp_3_1 s hs w _ hws hk hl x1 rfl x2 rfl u1 q1 q2 (by simp [parseFs, fldsOf, shFld, Fld.ok, Fld.set, q1, q2])
          | some u2 =>
            exact rp_3_2 s hs w _ hws hk hl x1 rfl x2 rfl u1 q1 u2 q2 (by simp [parseFs, fldsOf, shFld, Fld.ok, Fld.set, natV, Cl.of, q1, q2])
      · exact rp_bad3 s hs w ws hws hk hl
    · by_cases hl : ws.length = 1 + fLen 4
      · obtain ⟨f0, x1, x2, rfl⟩ := len3 hl
        cases q1 : smallN x1 1000000000 with
        | none => exact rp_4_0 s hs w _ hws hk hl x1 rfl x2 rfl  q1 (by simp [parseFs, fldsOf, shFld, Fld.ok, Fld.set, q1])
        | some u1 =>
          cases q2 : getN x2 with
          | none => exact rp_4_1 s hs w _ hws hk hl x1 rfl x2 rfl u1 q1 q2 (by simp [parseFs, fldsOf, shFld, Fld.ok, Fld.set, q1, q2])
          | some u2 =>
            exact rp_4_2 s hs w _ hws hk hl x1 rfl x2 rfl u1 q1 u2 q2 (by simp [parseFs, fldsOf, shFld, Fld.ok, Fld.set, natV, Cl.of, q1, q2])
      · exact rp_bad4 s hs w ws hws hk hl
    · by_cases hl : ws.length = 1 + fLen 5
      · obtain ⟨f0, x1, x2, rfl⟩ := len3 hl
        cases q1 : smallN x1 1000000000 with
        | none => exact rp_5_0 s hs w _ hws hk hl x1 rfl x2 rfl  q1 (by simp [parseFs, fldsOf, shFld, Fld.ok, Fld.set, q1])
        | some u1 =>
          cases q2 : smallN x2 1073741824 with
          | none => exact rp_5_1 s hs w _ hws hk hl x1 rfl x2 rfl u1 q1 q2 (by simp [parseFs, fldsOf, shFld, Fld.ok, Fld.set, q1, q2])
          | some u2 =>
            exact rp_5_2 s hs w _ hws hk hl x1 rfl x2 rfl u1 q1 u2 q2 (by simp [parseFs, fldsOf, shFld, Fld.ok, Fld.set, natV, Cl.of, q1, q2])
      · exact rp_bad5 s hs w ws hws hk hl
    · by_cases hl : ws.length = 1 + fLen 6
      · obtain ⟨f0, x1, rfl⟩ := len2 hl
        cases q1 : smallN x1 1000000000 with
        | none => exact rp_6_0 s hs w _ hws hk hl x1 rfl  q1 (by simp [parseFs, fldsOf, shFld, Fld.ok, Fld.set, q1])
        | some u1 =>
          exact rp_6_1 s hs w _ hws hk hl x1 rfl u1 q1 (by simp [parseFs, fldsOf, shFld, Fld.ok, Fld.set, natV, Cl.of, q1])
      · exact rp_bad6 s hs w ws hws hk hl
    · by_cases hl : ws.length = 1 + fLen 7
      · obtain ⟨f0, x1, rfl⟩ := len2 hl
        cases q1 : smallN x1 1000000000 with
        | none => exact rp_7_0 s hs w _ hws hk hl x1 rfl  q1 (by simp [parseFs, fldsOf, shFld, Fld.ok, Fld.set, q1])
        | some u1 =>
          exact rp_7_1 s hs w _ hws hk hl x1 rfl u1 q1 (by simp [parseFs, fldsOf, shFld, Fld.ok, Fld.set, natV, Cl.of, q1])
      · exact rp_bad7 s hs w ws hws hk hl
    · by_cases hl : ws.length = 1 + fLen 8
      · obtain ⟨f0, x1, x2, x3, rfl⟩ := len4 hl
        cases q1 : smallN x1 1000000000 with
        | none => exact rp_8_0 s hs w _ hws hk hl x1 rfl x2 rfl x3 rfl  q1 (by simp [parseFs, fldsOf, shFld, Fld.ok, Fld.set, q1])
        | some u1 =>
          cases q2 : ofN x2 with
          | none => exact rp_8_1 s hs w _ hws hk hl x1 rfl x2 rfl x3 rfl u1 q1 q2 (by simp [parseFs, fldsOf, shFld, Fld.ok, Fld.set, q1, q2])
          | some u2 =>
            cases q3 : ofN x3 with
            | none => exact rp_8_2 s hs w _ hws hk hl x1 rfl x2 rfl x3 rfl u1 q1 u2 q2 q3 (by simp [parseFs, fldsOf, shFld, Fld.ok, Fld.set, q1, q2, q3])
            | some u3 =>
              exact rp_8_3 s hs w _ hws hk hl x1 rfl x2 rfl x3 rfl u1 q1 u2 q2 u3 q3 (by simp [parseFs, fldsOf, shFld, Fld.ok, Fld.set, natV, Cl.of, q1, q2, q3])
      · exact rp_bad8 s hs w ws hws hk hl
    · by_cases hl : ws.length = 1 + fLen 9
      · obtain ⟨f0, x1, rfl⟩ := len2 hl
        cases q1 : smallN x1 1000000000 with
        | none => exact rp_9_0 s hs w _ hws hk hl x1 rfl  q1 (by simp [parseFs, fldsOf, shFld, Fld.ok, Fld.set, q1])
        | some u1 =>
          exact rp_9_1 s hs w _ hws hk hl x1 rfl u1 q1 (by simp [parseFs, fldsOf, shFld, Fld.ok, Fld.set, natV, Cl.of, q1])
      · exact rp_bad9 s hs w ws hws hk hl
end Go.Proofs.YtgfncnnidacllaaGreatDoor
namespace Go.Proofs.YtgfncnnidacllaaGreatDoor
open Go.RowKit
theorem hexD_dvI : ∀ n : Fin 256, 0 ≤ dvI (UInt8.ofNat n.val) → hexD (dvI (UInt8.ofNat n.val)).toNat = UInt8.ofNat n.val := by decide +kernel
theorem hexD_at (c : UInt8) (h : 0 ≤ dvI c) : hexD (dvI c).toNat = c := by
  have := hexD_dvI ⟨c.toNat, c.toNat_lt⟩
  simp only [UInt8.ofNat_toNat] at this
  exact this h
theorem dvI_hexD : ∀ n : Fin 16, dvI (hexD n.val) = (n.val : Int) := by decide +kernel
theorem dvI_put (n : Nat) (h : n < 16) : dvI (hexD n) = (n : Int) := dvI_hexD ⟨n, h⟩
attribute [local irreducible] dvI
set_option maxRecDepth 10000 in
theorem putB_pairs : ∀ l : List UInt8, l.length % 2 = 0 → allDig l = true → putB (pairsOf l) = l
  | [], _, _ => rfl
  | [x], h, _ => by simp at h
  | a :: b :: t, h, hd => by
    rw [allDig_two] at hd
    simp only [Bool.and_eq_true, decide_eq_true_eq] at hd
    have ih := putB_pairs t (by simp only [List.length_cons] at h; omega) hd.2.2
    have ha := dvI_le a
    have hb := dvI_le b
    have e1 : (16 * dvI a + dvI b).toNat / 16 = (dvI a).toNat := by omega
    have e2 : (16 * dvI a + dvI b).toNat % 16 = (dvI b).toNat := by omega
    rw [pairs_two]
    unfold putB at ih ⊢
    rw [List.flatMap_cons, e1, e2, hexD_at a hd.1, hexD_at b hd.2.1, ih]
    rfl
theorem putN_get {l : List UInt8} {xs : List Int} (h : getN l = some xs) : putN xs = l := by
  unfold getN at h
  split at h
  · cases h; rename_i e; rw [e]; rfl
  · split at h
    · cases h
    · split at h
      · rename_i h1 h2 h3
        cases h
        have hl : l.length % 2 = 0 := by
          rcases Nat.mod_two_eq_zero_or_one l.length with h4 | h4
          · exact h4
          · exact absurd (.inr (by omega)) h2
        have hp := putB_pairs l hl h3
        unfold putN
        rw [if_neg (fun e => h2 (.inl (by rw [← hp, e]; rfl))), hp]
      · cases h
theorem allDig_put : ∀ l : List Int, (∀ x ∈ l, 0 ≤ x ∧ x < 256) → allDig (putB l) = true ∧ pairsOf (putB l) = l
  | [], _ => ⟨rfl, rfl⟩
  | x :: l, h => by
    have hx := h x (List.mem_cons_self ..)
    obtain ⟨i1, i2⟩ := allDig_put l (fun y hy => h y (List.mem_cons_of_mem _ hy))
    have e : putB (x :: l) = hexD (x.toNat / 16) :: hexD (x.toNat % 16) :: putB l := rfl
    rw [e, allDig_two, pairs_two, dvI_put _ (by omega), dvI_put _ (by omega), i1, i2]
    refine ⟨by simp only [Bool.and_true, Bool.and_eq_true, decide_eq_true_eq]; omega, ?_⟩
    congr 1
    omega
theorem getN_put {l : List Int} (h : ∀ x ∈ l, 0 ≤ x ∧ x < 256) : getN (putN l) = some l := by
  unfold putN
  split
  · rename_i e; subst e; rfl
  · rename_i hne
    obtain ⟨h1, h2⟩ := allDig_put l h
    have hl := putB_length l
    have hp : 0 < l.length := List.length_pos_iff.2 hne
    unfold getN
    rw [if_neg (fun e => by have := congrArg List.length e; simp only [List.length_cons, List.length_nil] at this; omega), if_neg (by rintro (e | e); (have := congrArg List.length e; simp only [List.length_nil] at this; omega); omega), if_pos h1, h2]
theorem getN_len {l : List UInt8} {xs : List Int} (h : getN l = some xs) : xs.length ≤ l.length := by
  unfold getN at h
  split at h
  · cases h; simp
  · split at h
    · cases h
    · split at h
      · cases h; exact pairs_le l
      · cases h
theorem smallN_of {l : List UInt8} {m u : Nat} (h : smallN l m = some u) : ofN l = some u ∧ u ≤ m := by
  unfold smallN at h
  split at h
  · split at h
    · cases h; exact ⟨by assumption, by assumption⟩
    · cases h
  · cases h
theorem smallN_dec {l : List UInt8} {m u : Nat} (h : smallN l m = some u) : Lib.decDigits u = l := ofN_eq (smallN_of h).1
theorem find_word {l : List UInt8} {a : Nat} (h : findN l = some a) : wordOf (a : Int) = l := by
  unfold wordOf
  rw [entOf_nat]
  exact (findN_pos h).2.2
structure Read (n : Nat) (c : Cl) : Prop where
  hh : 0 ≤ c.h ∧ c.h ≤ 1000000000
  nn : 0 ≤ c.n ∧ c.n ≤ 1073741824
  hi : 0 ≤ c.hi ∧ c.hi < 18446744073709551616
  lo : 0 ≤ c.lo ∧ c.lo < 18446744073709551616
  nm : c.nm.length ≤ n
  sm : c.sm.length ≤ n
  b : c.b.length ≤ n
set_option maxRecDepth 10000 in
theorem line_back (k : Nat) (hk : k < 10) (n : Nat) (ws : List (List UInt8)) (c : Cl) (hn : ∀ x ∈ ws, x.length ≤ n) (h0 : shW.getD k [] = ws.headD []) (hl : ws.length = 1 + fLen k) (hp : parseFs (fldsOf k) ws.tail (Cl.of ((k : Int) + 1)) = some c) :
    lineWs k c = ws ∧ c.kind = (k : Int) + 1 ∧ Read n c := by
  have h : k = 0 ∨ k = 1 ∨ k = 2 ∨ k = 3 ∨ k = 4 ∨ k = 5 ∨ k = 6 ∨ k = 7 ∨ k = 8 ∨ k = 9 := by omega
  rcases h with rfl | rfl | rfl | rfl | rfl | rfl | rfl | rfl | rfl | rfl
  · obtain ⟨f0, x1, x2, x3, rfl⟩ := len4 hl
    have e0 : f0 = shW.getD 0 [] := h0.symm
    cases q1 : findN x1 with
    | none => simp [parseFs, fldsOf, shFld, Fld.ok, Fld.set, q1] at hp
    | some u1 =>
      cases q2 : getN x2 with
      | none => simp [parseFs, fldsOf, shFld, Fld.ok, Fld.set, q1, q2] at hp
      | some u2 =>
        cases q3 : getN x3 with
        | none => simp [parseFs, fldsOf, shFld, Fld.ok, Fld.set, q1, q2, q3] at hp
        | some u3 =>
          have d1 := find_word q1
          have d2 := putN_get q2
          have t2 := Nat.le_trans (getN_len q2) (hn x2 (by simp))
          have d3 := putN_get q3
          have t3 := Nat.le_trans (getN_len q3) (hn x3 (by simp))
          have hc : c = ⟨1, 0, (u1 : Int), 0, u2, u3, [], 0, 0⟩ := by
            simp [parseFs, fldsOf, shFld, Fld.ok, Fld.set, natV, Cl.of, q1, q2, q3] at hp
            exact hp.symm
          subst hc
          refine ⟨by rw [e0]; simp [lineWs, fldsOf, shFld, Fld.word, d1, d2, d3], rfl, ?_⟩
          exact ⟨⟨by simp only []; omega, by simp only []; omega⟩, ⟨by simp only []; omega, by simp only []; omega⟩, ⟨by simp only []; omega, by simp only []; omega⟩, ⟨by simp only []; omega, by simp only []; omega⟩, t2, t3, by simp⟩
  · obtain ⟨f0, x1, rfl⟩ := len2 hl
    have e0 : f0 = shW.getD 1 [] := h0.symm
    cases q1 : getN x1 with
    | none => simp [parseFs, fldsOf, shFld, Fld.ok, Fld.set, q1] at hp
    | some u1 =>
      have d1 := putN_get q1
      have t1 := Nat.le_trans (getN_len q1) (hn x1 (by simp))
      have hc : c = ⟨2, 0, 0, 0, [], [], u1, 0, 0⟩ := by
        simp [parseFs, fldsOf, shFld, Fld.ok, Fld.set, natV, Cl.of, q1] at hp
        exact hp.symm
      subst hc
      refine ⟨by rw [e0]; simp [lineWs, fldsOf, shFld, Fld.word, d1], rfl, ?_⟩
      exact ⟨⟨by simp only []; omega, by simp only []; omega⟩, ⟨by simp only []; omega, by simp only []; omega⟩, ⟨by simp only []; omega, by simp only []; omega⟩, ⟨by simp only []; omega, by simp only []; omega⟩, by simp, by simp, t1⟩
  · obtain ⟨f0, x1, rfl⟩ := len2 hl
    have e0 : f0 = shW.getD 2 [] := h0.symm
    cases q1 : smallN x1 1000000000 with
    | none => simp [parseFs, fldsOf, shFld, Fld.ok, Fld.set, q1] at hp
    | some u1 =>
      have d1 := smallN_dec q1
      have t1 := (smallN_of q1).2
      have hc : c = ⟨3, (u1 : Int), 0, 0, [], [], [], 0, 0⟩ := by
        simp [parseFs, fldsOf, shFld, Fld.ok, Fld.set, natV, Cl.of, q1] at hp
        exact hp.symm
      subst hc
      refine ⟨by rw [e0]; simp [lineWs, fldsOf, shFld, Fld.word, d1], rfl, ?_⟩
      exact ⟨⟨by simp only []; omega, by simp only []; omega⟩, ⟨by simp only []; omega, by simp only []; omega⟩, ⟨by simp only []; omega, by simp only []; omega⟩, ⟨by simp only []; omega, by simp only []; omega⟩, by simp, by simp, by simp⟩
  · obtain ⟨f0, x1, x2, rfl⟩ := len3 hl
    have e0 : f0 = shW.getD 3 [] := h0.symm
    cases q1 : smallN x1 1000000000 with
    | none => simp [parseFs, fldsOf, shFld, Fld.ok, Fld.set, q1] at hp
    | some u1 =>
      cases q2 : getN x2 with
      | none => simp [parseFs, fldsOf, shFld, Fld.ok, Fld.set, q1, q2] at hp
      | some u2 =>
        have d1 := smallN_dec q1
        have t1 := (smallN_of q1).2
        have d2 := putN_get q2
        have t2 := Nat.le_trans (getN_len q2) (hn x2 (by simp))
        have hc : c = ⟨4, (u1 : Int), 0, 0, [], [], u2, 0, 0⟩ := by
          simp [parseFs, fldsOf, shFld, Fld.ok, Fld.set, natV, Cl.of, q1, q2] at hp
          exact hp.symm
        subst hc
        refine ⟨by rw [e0]; simp [lineWs, fldsOf, shFld, Fld.word, d1, d2], rfl, ?_⟩
        exact ⟨⟨by simp only []; omega, by simp only []; omega⟩, ⟨by simp only []; omega, by simp only []; omega⟩, ⟨by simp only []; omega, by simp only []; omega⟩, ⟨by simp only []; omega, by simp only []; omega⟩, by simp, by simp, t2⟩
  · obtain ⟨f0, x1, x2, rfl⟩ := len3 hl
    have e0 : f0 = shW.getD 4 [] := h0.symm
    cases q1 : smallN x1 1000000000 with
    | none => simp [parseFs, fldsOf, shFld, Fld.ok, Fld.set, q1] at hp
    | some u1 =>
      cases q2 : getN x2 with
      | none => simp [parseFs, fldsOf, shFld, Fld.ok, Fld.set, q1, q2] at hp
      | some u2 =>
        have d1 := smallN_dec q1
        have t1 := (smallN_of q1).2
        have d2 := putN_get q2
        have t2 := Nat.le_trans (getN_len q2) (hn x2 (by simp))
        have hc : c = ⟨5, (u1 : Int), 0, 0, [], [], u2, 0, 0⟩ := by
          simp [parseFs, fldsOf, shFld, Fld.ok, Fld.set, natV, Cl.of, q1, q2] at hp
          exact hp.symm
        subst hc
        refine ⟨by rw [e0]; simp [lineWs, fldsOf, shFld, Fld.word, d1, d2], rfl, ?_⟩
        exact ⟨⟨by simp only []; omega, by simp only []; omega⟩, ⟨by simp only []; omega, by simp only []; omega⟩, ⟨by simp only []; omega, by simp only []; omega⟩, ⟨by simp only []; omega, by simp only []; omega⟩, by simp, by simp, t2⟩
  · obtain ⟨f0, x1, x2, rfl⟩ := len3 hl
    have e0 : f0 = shW.getD 5 [] := h0.symm
    cases q1 : smallN x1 1000000000 with
    | none => simp [parseFs, fldsOf, shFld, Fld.ok, Fld.set, q1] at hp
    | some u1 =>
      cases q2 : smallN x2 1073741824 with
      | none => simp [parseFs, fldsOf, shFld, Fld.ok, Fld.set, q1, q2] at hp
      | some u2 =>
        have d1 := smallN_dec q1
        have t1 := (smallN_of q1).2
        have d2 := smallN_dec q2
        have t2 := (smallN_of q2).2
        have hc : c = ⟨6, (u1 : Int), 0, (u2 : Int), [], [], [], 0, 0⟩ := by
          simp [parseFs, fldsOf, shFld, Fld.ok, Fld.set, natV, Cl.of, q1, q2] at hp
          exact hp.symm
        subst hc
        refine ⟨by rw [e0]; simp [lineWs, fldsOf, shFld, Fld.word, d1, d2], rfl, ?_⟩
        exact ⟨⟨by simp only []; omega, by simp only []; omega⟩, ⟨by simp only []; omega, by simp only []; omega⟩, ⟨by simp only []; omega, by simp only []; omega⟩, ⟨by simp only []; omega, by simp only []; omega⟩, by simp, by simp, by simp⟩
  · obtain ⟨f0, x1, rfl⟩ := len2 hl
    have e0 : f0 = shW.getD 6 [] := h0.symm
    cases q1 : smallN x1 1000000000 with
    | none => simp [parseFs, fldsOf, shFld, Fld.ok, Fld.set, q1] at hp
    | some u1 =>
      have d1 := smallN_dec q1
      have t1 := (smallN_of q1).2
      have hc : c = ⟨7, (u1 : Int), 0, 0, [], [], [], 0, 0⟩ := by
        simp [parseFs, fldsOf, shFld, Fld.ok, Fld.set, natV, Cl.of, q1] at hp
        exact hp.symm
      subst hc
      refine ⟨by rw [e0]; simp [lineWs, fldsOf, shFld, Fld.word, d1], rfl, ?_⟩
      exact ⟨⟨by simp only []; omega, by simp only []; omega⟩, ⟨by simp only []; omega, by simp only []; omega⟩, ⟨by simp only []; omega, by simp only []; omega⟩, ⟨by simp only []; omega, by simp only []; omega⟩, by simp, by simp, by simp⟩
  · obtain ⟨f0, x1, rfl⟩ := len2 hl
    have e0 : f0 = shW.getD 7 [] := h0.symm
    cases q1 : smallN x1 1000000000 with
    | none => simp [parseFs, fldsOf, shFld, Fld.ok, Fld.set, q1] at hp
    | some u1 =>
      have d1 := smallN_dec q1
      have t1 := (smallN_of q1).2
      have hc : c = ⟨8, (u1 : Int), 0, 0, [], [], [], 0, 0⟩ := by
        simp [parseFs, fldsOf, shFld, Fld.ok, Fld.set, natV, Cl.of, q1] at hp
        exact hp.symm
      subst hc
      refine ⟨by rw [e0]; simp [lineWs, fldsOf, shFld, Fld.word, d1], rfl, ?_⟩
      exact ⟨⟨by simp only []; omega, by simp only []; omega⟩, ⟨by simp only []; omega, by simp only []; omega⟩, ⟨by simp only []; omega, by simp only []; omega⟩, ⟨by simp only []; omega, by simp only []; omega⟩, by simp, by simp, by simp⟩
  · obtain ⟨f0, x1, x2, x3, rfl⟩ := len4 hl
    have e0 : f0 = shW.getD 8 [] := h0.symm
    cases q1 : smallN x1 1000000000 with
    | none => simp [parseFs, fldsOf, shFld, Fld.ok, Fld.set, q1] at hp
    | some u1 =>
      cases q2 : ofN x2 with
      | none => simp [parseFs, fldsOf, shFld, Fld.ok, Fld.set, q1, q2] at hp
      | some u2 =>
        cases q3 : ofN x3 with
        | none => simp [parseFs, fldsOf, shFld, Fld.ok, Fld.set, q1, q2, q3] at hp
        | some u3 =>
          have d1 := smallN_dec q1
          have t1 := (smallN_of q1).2
          have d2 := ofN_eq q2
          have t2 := ofN_lt q2
          have d3 := ofN_eq q3
          have t3 := ofN_lt q3
          have hc : c = ⟨9, (u1 : Int), 0, 0, [], [], [], (u2 : Int), (u3 : Int)⟩ := by
            simp [parseFs, fldsOf, shFld, Fld.ok, Fld.set, natV, Cl.of, q1, q2, q3] at hp
            exact hp.symm
          subst hc
          refine ⟨by rw [e0]; simp [lineWs, fldsOf, shFld, Fld.word, d1, d2, d3], rfl, ?_⟩
          exact ⟨⟨by simp only []; omega, by simp only []; omega⟩, ⟨by simp only []; omega, by simp only []; omega⟩, ⟨by simp only []; omega, by simp only []; omega⟩, ⟨by simp only []; omega, by simp only []; omega⟩, by simp, by simp, by simp⟩
  · obtain ⟨f0, x1, rfl⟩ := len2 hl
    have e0 : f0 = shW.getD 9 [] := h0.symm
    cases q1 : smallN x1 1000000000 with
    | none => simp [parseFs, fldsOf, shFld, Fld.ok, Fld.set, q1] at hp
    | some u1 =>
      have d1 := smallN_dec q1
      have t1 := (smallN_of q1).2
      have hc : c = ⟨10, (u1 : Int), 0, 0, [], [], [], 0, 0⟩ := by
        simp [parseFs, fldsOf, shFld, Fld.ok, Fld.set, natV, Cl.of, q1] at hp
        exact hp.symm
      subst hc
      refine ⟨by rw [e0]; simp [lineWs, fldsOf, shFld, Fld.word, d1], rfl, ?_⟩
      exact ⟨⟨by simp only []; omega, by simp only []; omega⟩, ⟨by simp only []; omega, by simp only []; omega⟩, ⟨by simp only []; omega, by simp only []; omega⟩, ⟨by simp only []; omega, by simp only []; omega⟩, by simp, by simp, by simp⟩
theorem kindW_word {l : List UInt8} {k : Nat} (h : kindW l = some k) : shW.getD k [] = l := by
  have := List.find?_some h
  simpa using this
theorem parseL_line {ws : List (List UInt8)} {c : Cl} (n : Nat) (hn : ∀ x ∈ ws, x.length ≤ n) (h : parseL ws = .inl c) : ∃ k, k < 10 ∧ lineWs k c = ws ∧ c.kind = (k : Int) + 1 ∧ Read n c := by
  unfold parseL at h
  cases hk : kindW (ws.headD []) with
  | none => rw [hk] at h; cases h
  | some k =>
    rw [hk] at h
    simp only [] at h
    split at h
    · rename_i hl
      split at h
      · rename_i hp
        cases h
        rw [← fLen_eq] at hl
        have hk10 := kindW_lt hk
        obtain ⟨h1, h2, h3⟩ := line_back k hk10 n ws c hn (kindW_word hk) hl hp
        exact ⟨k, hk10, h1, h2, h3⟩
      · cases h
    · cases h
theorem line_round {l : List UInt8} {c : Cl} (h : parseL (splitS l) = .inl c) : ∃ k, k < 10 ∧ lineOf k c = l ∧ c.kind = (k : Int) + 1 ∧ Read l.length c := by
  obtain ⟨k, h1, h2, h3, h4⟩ := parseL_line l.length (fun x hx => split_len l x hx) h
  exact ⟨k, h1, by unfold lineOf; rw [h2, join_split], h3, h4⟩
theorem Read.fits {n : Nat} {c : Cl} (h : Read n c) (hn : n ≤ 2000) (hr : Rng c) : Fits c :=
  ⟨⟨h.hh.1, by have := h.hh.2; omega⟩, ⟨h.nn.1, by have := h.nn.2; omega⟩, h.hi, h.lo, ⟨by have := h.nm; omega, hr.nm⟩, ⟨by have := h.sm; omega, hr.sm⟩, ⟨by have := h.b; omega, hr.b⟩⟩
end Go.Proofs.YtgfncnnidacllaaGreatDoor
