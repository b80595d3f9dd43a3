/- Lemmas for the claim, parts put together: the reference's Same, and the calls handed over from the program to the reference; the law's example holds. -/
import Derived.Test.YtgfncnnidacllaaGreatDoorJK
import Derived.Test.YtgfncnnidacllaaGreatDoorJN
import Derived.Test.YtgfncnnidacllaaGreatDoorJM
set_option linter.unusedVariables false
set_option linter.unusedSimpArgs false
namespace Go.Proofs.YtgfncnnidacllaaGreatDoor
open Go.RowKit Go.Shelf Go.Proofs.YtgfncnnidacllaaGreatDoorW.PrintWords Go.Proofs.YtgfncnnidacllaaGreatDoorW.PrintLast Go.Proofs.YtgfncnnidacllaaGreatDoorW.PrintMore Go.Proofs.YtgfncnnidacllaaGreatDoor.PScriptLines
theorem rd_drop {l : List Int} {i : Nat} {x : Int} {t : List Int} (h : l.drop i = x :: t) : rd l (i : Int) = x := by
  have hlt : i < l.length := by
    rcases Nat.lt_or_ge i l.length with h1 | h1
    · exact h1
    · rw [List.drop_eq_nil_of_le h1] at h; cases h
  rw [List.drop_eq_getElem_cons hlt] at h
  unfold rd
  rw [Int.toNat_natCast, List.getD_eq_getElem?_getD, List.getElem?_eq_getElem hlt, Option.getD_some]
  exact (List.cons.inj h).1
theorem drop_nextI {l : List Int} {i : Nat} {c : Int} {t : List Int} (h : l.drop i = c :: t) : l.drop (i + 1) = t := by
  have hlt : i < l.length := by
    rcases Nat.lt_or_ge i l.length with h1 | h1
    · exact h1
    · rw [List.drop_eq_nil_of_le h1] at h; cases h
  rw [List.drop_eq_getElem_cons hlt] at h
  exact (List.cons.inj h).2
theorem same_loop (l m : List Int) (hl : l.length ≤ 100000) (hm : l.length = m.length) : ∀ (d k i : Nat), i + d = l.length → d < k → cribbleref03_Same.l0 k l m (i : Int) = some (decide (l.drop i = m.drop i))
  | 0, k, i, hi, hk => by
    obtain ⟨k, rfl⟩ : ∃ q, k = q + 1 := ⟨k - 1, by omega⟩
    rw [List.drop_eq_nil_of_le (by omega), List.drop_eq_nil_of_le (by omega)]
    simp only [cribbleref03_Same.l0]
    rw [if_neg (by omega)]
    simp
  | d + 1, k, i, hi, hk => by
    obtain ⟨k, rfl⟩ : ∃ q, k = q + 1 := ⟨k - 1, by omega⟩
    obtain ⟨a, t, ha⟩ : ∃ c t, l.drop i = c :: t := ⟨_, _, List.drop_eq_getElem_cons (by omega)⟩
    obtain ⟨b, u, hb⟩ : ∃ c t, m.drop i = c :: t := ⟨_, _, List.drop_eq_getElem_cons (by omega)⟩
    have hw := wrap_next (i := i) (n := l.length) (by omega) hl
    have ih := same_loop l m hl hm d k (i + 1) (by omega) (by omega)
    rw [drop_nextI ha, drop_nextI hb] at ih
    simp only [cribbleref03_Same.l0]
    rw [if_pos (by omega), if_pos (by omega), if_pos (by omega), rd_drop ha, rd_drop hb, ha, hb, hw, ih]
    by_cases h : a = b
    · rw [if_pos h]; simp [h]
    · rw [if_neg h]; simp [h]
theorem same_pure (l m : List Int) (hl : l.length ≤ 100000) : cribbleref03_Same.f 100001 l m = some (decide (l = m)) := by
  unfold cribbleref03_Same.f
  by_cases h : (l.length : Int) = (m.length : Int)
  · rw [if_pos h]
    have := same_loop l m hl (by omega) l.length 100001 0 (by omega) (by omega)
    rw [List.drop_zero, List.drop_zero] at this
    exact this
  · rw [if_neg h, decide_eq_false (fun e => h (by rw [e]))]
structure Short (c : Cl) : Prop where
  nm : c.nm.length ≤ 100000
  sm : c.sm.length ≤ 100000
  b : c.b.length ≤ 100000
theorem rsame_pure (a b : Cl) (ha : Short a) : cribbleref29_Same.f 100001 a.kind a.h a.alg a.n a.nm a.sm a.b a.hi a.lo b.kind b.h b.alg b.n b.nm b.sm b.b b.hi b.lo = some (decide (a = b)) := by
  unfold cribbleref29_Same.f cribbleref17_Same.f
  rw [same_pure _ _ ha.b, same_pure _ _ ha.nm, same_pure _ _ ha.sm]
  simp only [Option.bind_some]
  by_cases h : a = b
  · subst h; simp
  · rw [decide_eq_false h]
    rw [Cl.ext_iff] at h
    simp only [beq_iff_eq, Bool.and_eq_true, decide_eq_true_eq]
    repeat' split
    all_goals simp_all
theorem rsame_any (ca cb : Array Value) (a b : Cl) (w : World) (ha : RepR w ca a) (hb : RepR w cb b) (hs : Short a) :
    Calls Tryz.prog 8 #[.agg ca, .agg cb] w fun e w' => e = .returned (.bool (decide (a = b))) ∧ Below w.heap.size w w' := by
  obtain ⟨v4, v5, v6, rfl, ⟨A4, c4, rfl, l4, r4⟩, ⟨A5, c5, rfl, l5, r5⟩, ⟨A6, c6, rfl, l6, r6⟩⟩ := ha
  obtain ⟨u4, u5, u6, rfl, ⟨B4, d4, rfl, m4, s4⟩, ⟨B5, d5, rfl, m5, s5⟩, ⟨B6, d6, rfl, m6, s6⟩⟩ := hb
  exact cribbleref29_Same.calls 100001 a.kind a.h a.alg a.n A4 c4 a.nm A5 c5 a.sm A6 c6 a.b a.hi a.lo b.kind b.h b.alg b.n B4 d4 b.nm B5 d5 b.sm B6 d6 b.b b.hi b.lo _ w r4 l4 r5 l5 r6 l6 s4 m4 s5 m5 s6 m6 (rsame_pure a b hs)
set_option maxRecDepth 100000 in
set_option maxHeartbeats 2000000 in
theorem back_any (c : Cl) (A4 A5 A6 : Option Addr) (n4 n5 n6 c4 c5 c6 : Nat) (w : World) :
    Calls Tryz.prog 9 #[.agg (ClCells c (.slice A4 n4 c4) (.slice A5 n5 c5) (.slice A6 n6 c6))] w fun e w' => e = .returned (.agg (ClCells c (.slice A4 n4 c4) (.slice A5 n5 c5) (.slice A6 n6 c6))) ∧ Below w.heap.size w w' := by
  unfold ClCells
  go_enter Tryz.func9, Tryz.ntmps9
  go_wp2
  go_returns
  exact ⟨rfl, by repeat' (first | (with_reducible exact Below.refl _ _) | (with_reducible assumption) | (with_reducible refine below_drewN ?_ _) | (with_reducible refine Below.drew ?_) | (with_reducible refine Below.alloc ?_ ?_ _) | (with_reducible refine Below.setCell ?_ ?_ _) | go_size)⟩
set_option maxRecDepth 100000 in
set_option maxHeartbeats 2000000 in
theorem of_call (c : Cl) (A4 A5 A6 : Option Addr) (n4 n5 n6 c4 c5 c6 : Nat) (w : World) :
    Calls Tryz.prog 12 #[.agg (ClCells c (.slice A4 n4 c4) (.slice A5 n5 c5) (.slice A6 n6 c6))] w fun e w' => e = .returned (.agg (ClCells c (.slice A4 n4 c4) (.slice A5 n5 c5) (.slice A6 n6 c6))) ∧ Below w.heap.size w w' := by
  unfold ClCells
  go_enter Tryz.func12, Tryz.ntmps12
  go_wp2
  go_returns
  exact ⟨rfl, by repeat' (first | (with_reducible exact Below.refl _ _) | (with_reducible assumption) | (with_reducible refine below_drewN ?_ _) | (with_reducible refine Below.drew ?_) | (with_reducible refine Below.alloc ?_ ?_ _) | (with_reducible refine Below.setCell ?_ ?_ _) | go_size)⟩
end Go.Proofs.YtgfncnnidacllaaGreatDoor
namespace Go.Proofs.YtgfncnnidacllaaGreatDoor
open Go.RowKit Go.Shelf Go.Proofs.YtgfncnnidacllaaGreatDoorW.PrintWords Go.Proofs.YtgfncnnidacllaaGreatDoorW.PrintLast Go.Proofs.YtgfncnnidacllaaGreatDoorW.PrintMore
def wk1 : ByteArray := ⟨#[110, 101, 119, 32, 115, 104, 97, 50, 53, 54, 32, 45, 32, 45]⟩
def wk2 : ByteArray := ⟨#[119, 114, 105, 116, 101, 32, 49, 32, 54, 49, 54, 50, 54, 51]⟩
theorem wk1_words : splitS wk1.data.toList = [[110, 101, 119], [115, 104, 97, 50, 53, 54], [45], [45]] := by decide
theorem wk2_words : splitS wk2.data.toList = [[119, 114, 105, 116, 101], [49], [54, 49, 54, 50, 54, 51]] := by decide
theorem wk1_pure : parseL (splitS wk1.data.toList) = .inl ⟨1, 0, 2, 0, [], [], [], 0, 0⟩ := by
  rw [wk1_words]
  refine parseL_good (k := 0) (by decide) (by decide) ?_
  have h1 : findN [115, 104, 97, 50, 53, 54] = some 2 := by decide +kernel
  have h2 : getN [45] = some [] := by decide +kernel
  simp [parseFs, fldsOf, shFld, Fld.ok, Fld.set, natV, Cl.of, h1, h2]
theorem wk2_pure : parseL (splitS wk2.data.toList) = .inl ⟨4, 1, 0, 0, [], [], [97, 98, 99], 0, 0⟩ := by
  rw [wk2_words]
  refine parseL_good (k := 3) (by decide) (by decide) ?_
  have h0 : ofN [49] = some 1 := by
    have h := ofN_dec (u := 1) (by omega)
    rw [Lib.decDigits_one (by omega)] at h
    exact h
  have h1 : smallN [49] 1000000000 = some 1 := by unfold smallN; rw [h0]; rfl
  have h2 : getN [54, 49, 54, 50, 54, 51] = some [97, 98, 99] := by decide +kernel
  simp [parseFs, fldsOf, shFld, Fld.ok, Fld.set, natV, Cl.of, h1, h2]
set_option maxRecDepth 100000 in
set_option maxHeartbeats 4000000 in
theorem wakes_any (w : World) (hV : VarsAt w) :
    Calls Tryz.prog 5 #[] w fun e w' => e = .returned (.bool true) ∧ Below w.heap.size w w' := by
  have H1 := Lib.hid (parse_any wk1 (by decide) w hV)
  have HV := Lib.hid hV
  clear hV
  go_enter Tryz.func5, Tryz.ntmps5
  go_wp2_with fail
  refine H1.out.mono ?_
  rintro e w1 ⟨he, hw1⟩
  rw [wk1_pure] at he
  obtain ⟨N, cells, rfl, hrep⟩ := he
  obtain ⟨v4, v5, v6, rfl, ⟨A4, c4, rfl, l4, r4⟩, ⟨A5, c5, rfl, l5, r5⟩, ⟨A6, c6, rfl, l6, r6⟩⟩ := hrep.rd
  have HB1 := Lib.hid hw1
  clear hw1 hrep r4 r5 r6 l4 l5 l6
  unfold ClCells
  have HP2 := Lib.hid (fun W hb => parse_any wk2 (by decide) W (HV.out.call (w1 := W) hb))
  go_wp2_with fail
  refine (HP2.out _ (HB1.out.alloc HB1.out.size _)).mono ?_
  rintro e w2 ⟨he, hw2⟩
  rw [wk2_pure] at he
  obtain ⟨N', cells', rfl, hrep⟩ := he
  obtain ⟨u4, u5, u6, rfl, ⟨D4, d4, rfl, m4, s4⟩, ⟨D5, d5, rfl, m5, s5⟩, ⟨D6, d6, rfl, m6, s6⟩⟩ := hrep.rd
  have hbox := blk_call hw2 (blk_new w1 _ _ rfl)
  have hB2 : Below w.heap.size w w2 := below_new (HB1.out.alloc HB1.out.size _) hw2 (by have := HB1.out.size; simp; omega)
  have b0 := blk_cell hbox 0
  have b2 := blk_cell hbox 2
  have bl := blk_lt hbox
  clear hbox hrep hw2 s4 s5 m4 m5
  have hcv := Kd.C_string (P := Tryz.prog) (A := D6) (c := d6) Tryz.underlying23 Tryz.underlying5 Tryz.underlying9 (Kd.C_below s6 ((Below.refl _ w2).alloc (Nat.le_refl _) (.cells (ClCells ⟨4, 1, 0, 0, [], [], [97, 98, 99], 0, 0⟩ (.slice D4 0 d4) (.slice D5 0 d5) (.slice D6 3 d6)) 30)))
  have hlit : strOfNums [97, 98, 99] = ⟨#[97, 98, 99]⟩ := by decide
  rw [hlit] at hcv
  have HB2 := Lib.hid hB2
  clear s6 m6 hB2 hlit
  have e3 : ([97, 98, 99] : List Int).length = 3 := rfl
  have e0 : ([] : List Int).length = 0 := rfl
  simp only [e3, e0] at hcv ⊢
  unfold ClCells at *
  go_wp2_with fail
  go_returns
  exact ⟨rfl, HB2.out.alloc HB2.out.size _⟩
end Go.Proofs.YtgfncnnidacllaaGreatDoor
