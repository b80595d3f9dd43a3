/- Lemmas for the claim, parts put together: a call that can be read, and one of its fields told as a word; script.Same: two calls are the same where all that is in them is. -/
import Derived.Test.YtgfncnnidacllaaGreatDoorJI
import Derived.Test.YtgfncnnidacllaaGreatDoorPScriptLinesx4
set_option linter.unusedVariables false
set_option linter.unusedSimpArgs false
namespace Go.Proofs.YtgfncnnidacllaaGreatDoor
open Go.RowKit Go.Shelf Go.Proofs.YtgfncnnidacllaaGreatDoorW.PrintWords Go.Proofs.YtgfncnnidacllaaGreatDoorW.PrintLast Go.Proofs.YtgfncnnidacllaaGreatDoorW.PrintMore
def RdB (w : World) (v : Value) (xs : List Int) : Prop := ∃ A c, v = .slice A xs.length c ∧ xs.length ≤ c ∧ Kd.C (Kd.int .u8) w A xs.length xs
theorem RdB.below {w w1 : World} {v : Value} {xs : List Int} (h : RdB w v xs) (hb : Below w.heap.size w w1) : RdB w1 v xs := let ⟨A, c, e, hl, hr⟩ := h; ⟨A, c, e, hl, Kd.C_below hr hb⟩
theorem Row.rd {w : World} {B : Nat} {v : Value} {xs : List Int} (h : Row w B v xs) : RdB w v xs := by
  obtain ⟨A, c, e, hl, hr⟩ := own_reads_of_le (enc := Value.int .u8) (d := (0 : Int)) (xs := xs) h
  exact ⟨A, c, e, hl, Kd.C_of_reads hr⟩
def RepR (w : World) (cells : Array Value) (c : Cl) : Prop := ∃ v4 v5 v6, cells = ClCells c v4 v5 v6 ∧ RdB w v4 c.nm ∧ RdB w v5 c.sm ∧ RdB w v6 c.b
theorem RepR.below {w w1 : World} {cells : Array Value} {c : Cl} (h : RepR w cells c) (hb : Below w.heap.size w w1) : RepR w1 cells c := let ⟨v4, v5, v6, e, a, b, d⟩ := h; ⟨v4, v5, v6, e, a.below hb, b.below hb, d.below hb⟩
theorem Rep.rd {w : World} {B N : Nat} {cells : Array Value} {c : Cl} (h : Rep w B N cells c) : RepR w cells c := let ⟨v4, v5, v6, e, a, b, d⟩ := h; ⟨v4, v5, v6, e, a.1.rd, b.1.rd, d.1.rd⟩
structure Fits (c : Cl) : Prop where
  hh : 0 ≤ c.h ∧ c.h < 9223372036854775808
  nn : 0 ≤ c.n ∧ c.n < 9223372036854775808
  hi : 0 ≤ c.hi ∧ c.hi < 18446744073709551616
  lo : 0 ≤ c.lo ∧ c.lo < 18446744073709551616
  nm : c.nm.length ≤ 2000 ∧ ∀ x ∈ c.nm, 0 ≤ x ∧ x < 256
  sm : c.sm.length ≤ 2000 ∧ ∀ x ∈ c.sm, 0 ≤ x ∧ x < 256
  b : c.b.length ≤ 2000 ∧ ∀ x ∈ c.b, 0 ≤ x ∧ x < 256
def Fld.word : Fld → Cl → List UInt8
  | .alg, c => wordOf c.alg
  | .first, c => putN c.nm
  | .last, c => putN c.sm
  | .b, c => putN c.b
  | .h, c => Lib.decDigits c.h.toNat
  | .n, c => Lib.decDigits c.n.toNat
  | .hi, c => Lib.decDigits c.hi.toNat
  | .lo, c => Lib.decDigits c.lo.toNat
theorem putF_any (f : Fld) (N : Nat) (cells : Array Value) (c : Cl) (w : World) (hV : VarsAt w) (hb : w.heap[N]? = some (.cells cells 30 (0, 0))) (hR : RepR w cells c) (hF : Fits c) :
    Calls Tryz.prog f.put #[.pointer (some ⟨N, 0, none⟩)] w fun e w' => e = .returned (.string (bsOf (f.word c))) ∧ Below w.heap.size w w' := by
  obtain ⟨v4, v5, v6, rfl, ⟨A4, c4, rfl, l4, r4⟩, ⟨A5, c5, rfl, l5, r5⟩, ⟨A6, c6, rfl, l6, r6⟩⟩ := hR
  cases f with
  | alg => exact putAlg_any N c.alg w hV.ent (blk_cell hb 2)
  | first => exact putFirst_any N A4 c4 c.nm w (blk_cell hb 4) r4 l4 (by have := hF.nm.1; omega) hF.nm.2
  | last => exact putLast_any N A5 c5 c.sm w (blk_cell hb 5) r5 l5 (by have := hF.sm.1; omega) hF.sm.2
  | b => exact putB_any N A6 c6 c.b w (blk_cell hb 6) r6 l6 (by have := hF.b.1; omega) hF.b.2
  | h =>
    obtain ⟨u, hu⟩ := Int.eq_ofNat_of_zero_le hF.hh.1
    have hl := hF.hh.2
    have := putH_any N u (by omega) w hV ((blk_cell hb 1).trans (by simp [ClCells, hu]))
    have e : Fld.h.word c = Lib.decDigits u := by show Lib.decDigits c.h.toNat = _; rw [hu]; rfl
    rw [e]
    exact this
  | n =>
    obtain ⟨u, hu⟩ := Int.eq_ofNat_of_zero_le hF.nn.1
    have hl := hF.nn.2
    have := putNn_any N u (by omega) w hV ((blk_cell hb 3).trans (by simp [ClCells, hu]))
    have e : Fld.n.word c = Lib.decDigits u := by show Lib.decDigits c.n.toNat = _; rw [hu]; rfl
    rw [e]
    exact this
  | hi =>
    obtain ⟨u, hu⟩ := Int.eq_ofNat_of_zero_le hF.hi.1
    have hl := hF.hi.2
    have := putHi_any N u (by omega) w hV ((blk_cell hb 7).trans (by simp [ClCells, hu]))
    have e : Fld.hi.word c = Lib.decDigits u := by show Lib.decDigits c.hi.toNat = _; rw [hu]; rfl
    rw [e]
    exact this
  | lo =>
    obtain ⟨u, hu⟩ := Int.eq_ofNat_of_zero_le hF.lo.1
    have hl := hF.lo.2
    have := putLo_any N u (by omega) w hV ((blk_cell hb 8).trans (by simp [ClCells, hu]))
    have e : Fld.lo.word c = Lib.decDigits u := by show Lib.decDigits c.lo.toNat = _; rw [hu]; rfl
    rw [e]
    exact this
theorem put_enters (f : Fld) : ∀ args w, (callFunc f.put args).run Tryz.prog w = .ok (.enter f.put args) w := by
  cases f
  · exact enters_of Tryz.func38 (by kernel_rfl) rfl
  · exact enters_of Tryz.func40 (by kernel_rfl) rfl
  · exact enters_of Tryz.func42 (by kernel_rfl) rfl
  · exact enters_of Tryz.func36 (by kernel_rfl) rfl
  · exact enters_of Tryz.func34 (by kernel_rfl) rfl
  · exact enters_of Tryz.func44 (by kernel_rfl) rfl
  · exact enters_of Tryz.func46 (by kernel_rfl) rfl
  · exact enters_of Tryz.func48 (by kernel_rfl) rfl
theorem dec_le : ∀ (k u : Nat), u < 10 ^ (k + 1) → (Lib.decDigits u).length ≤ k + 1
  | k, u, h => by
    rw [Lib.decDigits]
    split
    · simp
    · rename_i hu
      cases k with
      | zero => simp at h; omega
      | succ k =>
        have := dec_le k (u / 10) (by rw [Nat.pow_succ] at h; omega)
        rw [List.length_append]
        simp
        omega
theorem wordOf_le (a : Int) : (wordOf a).length ≤ 10 := by
  unfold wordOf
  by_cases h : a < 0 ∨ 15 ≤ a
  · have : entOf a = ([], 0, 0, 0) := by
      rcases h with h | h
      · exact entOf_neg h
      · obtain ⟨n, rfl⟩ := Int.eq_ofNat_of_zero_le (show 0 ≤ a by omega)
        rw [entOf_nat]; exact entAt_big (by omega)
    rw [this]; simp
  · obtain ⟨n, rfl⟩ := Int.eq_ofNat_of_zero_le (show 0 ≤ a by omega)
    rw [entOf_nat]
    have hn : n < 15 := by omega
    match n, hn with
    | 0, _ | 1, _ | 2, _ | 3, _ | 4, _ | 5, _ | 6, _ | 7, _ | 8, _ | 9, _ | 10, _ | 11, _ | 12, _ | 13, _ | 14, _ => decide
theorem putN_le {l : List Int} (h : l.length ≤ 2000) : (putN l).length ≤ 4001 := by
  unfold putN
  split
  · simp
  · rw [putB_length]; omega
theorem word_le (f : Fld) {c : Cl} (hF : Fits c) : (f.word c).length ≤ 4001 := by
  have big : ∀ x : Int, x < 18446744073709551616 → (Lib.decDigits x.toNat).length ≤ 4001 := fun x h => by have := dec_le 19 x.toNat (by omega); omega
  have h1 := hF.hh.2; have h2 := hF.nn.2
  cases f with
  | alg => exact Nat.le_trans (wordOf_le c.alg) (by omega)
  | first => exact putN_le hF.nm.1
  | last => exact putN_le hF.sm.1
  | b => exact putN_le hF.b.1
  | h => exact big _ (by omega)
  | n => exact big _ (by omega)
  | hi => exact big _ hF.hi.2
  | lo => exact big _ hF.lo.2
def lineWs (k : Nat) (c : Cl) : List (List UInt8) := shW.getD k [] :: (fldsOf k).map fun f => f.word c
def lineOf (k : Nat) (c : Cl) : List UInt8 := Lib.join (lineWs k c) [32]
end Go.Proofs.YtgfncnnidacllaaGreatDoor
namespace Go.Proofs.YtgfncnnidacllaaGreatDoor
open Go.RowKit Go.Shelf Go.Proofs.YtgfncnnidacllaaGreatDoorW.PrintWords Go.Proofs.YtgfncnnidacllaaGreatDoorW.PrintLast Go.Proofs.YtgfncnnidacllaaGreatDoorW.PrintMore
theorem Cl.ext_iff (a b : Cl) : a = b ↔ a.kind = b.kind ∧ a.h = b.h ∧ a.alg = b.alg ∧ a.n = b.n ∧ a.nm = b.nm ∧ a.sm = b.sm ∧ a.b = b.b ∧ a.hi = b.hi ∧ a.lo = b.lo := by
  cases a; cases b; simp
instance (a b : Cl) : Decidable (a = b) := decidable_of_iff _ (Cl.ext_iff a b).symm
theorem strNums_inj : ∀ {l m : List Int}, (∀ x ∈ l, 0 ≤ x ∧ x < 256) → (∀ x ∈ m, 0 ≤ x ∧ x < 256) → (strOfNums l).toList = (strOfNums m).toList → l = m := by
  intro l m hl hm h
  rw [ba_toList, ba_toList, strOfNums_data, strOfNums_data] at h
  induction l generalizing m with
  | nil =>
    cases m with
    | nil => rfl
    | cons y m => simp at h
  | cons x l ih =>
    cases m with
    | nil => simp at h
    | cons y m =>
      simp only [List.map_cons, List.cons.injEq] at h
      have hx := hl x (List.mem_cons_self ..)
      have hy := hm y (List.mem_cons_self ..)
      have e := congrArg UInt8.toNat h.1
      rw [UInt8.toNat_ofNat', UInt8.toNat_ofNat'] at e
      rw [ih (fun z hz => hl z (List.mem_cons_of_mem _ hz)) (fun z hz => hm z (List.mem_cons_of_mem _ hz)) h.2, show x = y by omega]
structure Rng (c : Cl) : Prop where
  nm : ∀ x ∈ c.nm, 0 ≤ x ∧ x < 256
  sm : ∀ x ∈ c.sm, 0 ≤ x ∧ x < 256
  b : ∀ x ∈ c.b, 0 ≤ x ∧ x < 256
theorem Fits.rng {c : Cl} (h : Fits c) : Rng c := ⟨h.nm.2, h.sm.2, h.b.2⟩
theorem sameF (a b : Cl) (ha : Rng a) (hb : Rng b) : PScriptLines.script_Same.f a.kind a.h a.alg a.n a.nm a.sm a.b a.hi a.lo b.kind b.h b.alg b.n b.nm b.sm b.b b.hi b.lo = some (decide (a = b)) := by
  have e : ∀ l m : List Int, (∀ x ∈ l, 0 ≤ x ∧ x < 256) → (∀ x ∈ m, 0 ≤ x ∧ x < 256) → ((strOfNums l).toList == (strOfNums m).toList) = decide (l = m) := by
    intro l m hl hm
    rw [Bool.eq_iff_iff]
    simp only [beq_iff_eq, decide_eq_true_eq]
    exact ⟨strNums_inj hl hm, fun h => by rw [h]⟩
  unfold PScriptLines.script_Same.f PScriptLines.bytes_Equal.f
  rw [e _ _ ha.b hb.b, e _ _ ha.nm hb.nm, e _ _ ha.sm hb.sm]
  simp only [Option.bind_some]
  by_cases h : a = b
  · subst h; simp
  · rw [decide_eq_false h]
    rw [Cl.ext_iff] at h
    simp only [beq_iff_eq, Bool.and_eq_true, decide_eq_true_eq]
    repeat' split
    all_goals simp_all
theorem same_any (ca cb : Array Value) (a b : Cl) (w : World) (ha : RepR w ca a) (hb : RepR w cb b) (fa : Rng a) (fb : Rng b) :
    Calls Tryz.prog 27 #[.agg ca, .agg cb] w fun e w' => e = .returned (.bool (decide (a = b))) ∧ Below w.heap.size w w' := by
  obtain ⟨v4, v5, v6, rfl, ⟨A4, c4, rfl, l4, r4⟩, ⟨A5, c5, rfl, l5, r5⟩, ⟨A6, c6, rfl, l6, r6⟩⟩ := ha
  obtain ⟨u4, u5, u6, rfl, ⟨B4, d4, rfl, m4, s4⟩, ⟨B5, d5, rfl, m5, s5⟩, ⟨B6, d6, rfl, m6, s6⟩⟩ := hb
  exact PScriptLines.script_Same.calls a.kind a.h a.alg a.n A4 c4 a.nm A5 c5 a.sm A6 c6 a.b a.hi a.lo b.kind b.h b.alg b.n B4 d4 b.nm B5 d5 b.sm B6 d6 b.b b.hi b.lo _ w r4 l4 r5 l5 r6 l6 s4 m4 s5 m5 s6 m6 (sameF a b fa fb)
end Go.Proofs.YtgfncnnidacllaaGreatDoor
