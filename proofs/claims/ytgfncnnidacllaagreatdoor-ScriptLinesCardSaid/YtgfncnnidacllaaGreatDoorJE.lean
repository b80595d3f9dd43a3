/- Lemmas for the claim, parts put together: strings.IndexRune in the sixteen hexadecimal digits, for every rune; hex.Get: a word's bytes, where it is hexadecimal digits in pairs, or '-'; hex.Words: a line's words; script.number and script.bytesOf: a word read into a call's field; the methods that read a word into one field of a call; the methods that tell one field of a call as a word. -/
import Derived.Test.YtgfncnnidacllaaGreatDoorJD
import Derived.Laws.Runes
import Derived.Laws.RangeAny
import Derived.Lib.OthersKept
import Derived.Laws.MakeOwn
import Derived.Lib.SplitLaws
set_option linter.unusedVariables false
set_option linter.unusedSimpArgs false
namespace Go.Proofs.YtgfncnnidacllaaGreatDoor
open Go.RowKit
def digs : ByteArray := ⟨#[48, 49, 50, 51, 52, 53, 54, 55, 56, 57, 97, 98, 99, 100, 101, 102]⟩
def digI (r : Int) : Int := if 0 ≤ r ∧ r < 128 then Lib.indexByte digs.data.toList r.toNat.toUInt8 else -1
theorem digs_ascii (i : Nat) (h : i < digs.size) : (digs[i]'h).toNat < 128 := by
  have h16 : i < 16 := h
  have e : digs[i]'h = hexD i := dig_at i h
  rw [e]
  rcases i with _ | _ | _ | _ | _ | _ | _ | _ | _ | _ | _ | _ | _ | _ | _ | _ | i
  all_goals first | (exact of_decide_eq_true rfl) | omega
theorem digs_all (b : UInt8) (hb : b ∈ digs.data.toList) : b.toNat < 128 := by
  have h : digs.data.toList.all (fun b => decide (b.toNat < 128)) = true := by decide
  exact of_decide_eq_true (List.all_eq_true.1 h b hb)
theorem index_none (l : List UInt8) (c : UInt8) (h : ∀ b ∈ l, b ≠ c) : Lib.indexByte l c = -1 := by
  induction l with
  | nil => rfl
  | cons b l ih =>
    have h1 : (b == c) = false := beq_eq_false_iff_ne.2 (h b (List.mem_cons_self))
    have h2 := ih (fun x hx => h x (List.mem_cons_of_mem _ hx))
    simp [Lib.indexByte, h1, h2]
theorem valid_of {r : Int} (h : Lib.validRune r = true) : Utf8.valid r = true := by
  unfold Lib.validRune at h
  have h := of_decide_eq_true h
  unfold Utf8.valid
  rcases h with h | h
  · simp [h.1, h.2]
  · have h1 : (57344 : Int) ≤ r := by omega
    simp [h1, h.2]
set_option maxRecDepth 100000 in
set_option maxHeartbeats 8000000 in
theorem irune_any (r : Int) (h0 : 0 ≤ r) (h1 : r ≤ 2147483647) (w : World) :
    Calls Tryz.prog 80 #[.string digs, .int .i32 r] w fun e w' => e = .returned (.int .i64 (digI r)) ∧ Below w.heap.size w w' := by
  by_cases h128 : r < 128
  · have hd : digI r = Lib.indexByte digs.data.toList r.toNat.toUInt8 := by rw [digI, if_pos ⟨h0, h128⟩]
    rw [hd]
    exact (Tryz.strings_IndexRune_ascii digs r w h0 h128).mono fun _ _ ⟨h1, h2⟩ => ⟨h1, h2 ▸ Below.refl _ _⟩
  · have hd : digI r = -1 := by rw [digI, if_neg (by omega)]
    rw [hd]
    by_cases hR : r = 65533
    · subst hR
      clear hd h0 h1 h128
      go_enter Tryz.func80, Tryz.ntmps80
      go_wp2_with fail
      go_loopw [] (fun wr => ∃ p : Nat, p ≤ 16 ∧ wr = w.iter digs p) (fun wr => 16 - wr.iterPos w.heap.size)
      case atStart => exact ⟨0, by omega, rfl⟩
      case round =>
        obtain ⟨p, hp, rfl⟩ := hrel
        by_cases hlt : p < 16
        · have hs : p < digs.size := hlt
          have ha := digs_ascii p hs
          have hnx := fun ty => run_next_ascii (P := Tryz.prog) w digs p ty hs ha
          have hne : (((digs[p]'hs).toNat : Int) == 65533) = false := beq_eq_false_iff_ne.2 (by omega)
          go_wp2_with fail
          go_roundw
          case rel => exact ⟨p + 1, by omega, rfl⟩
          case measure => simp; omega
        · have hs : ¬ p < digs.size := hlt
          have hnx := fun ty => run_next_end (P := Tryz.prog) w digs p ty hs
          go_wp2_with fail
          go_returns
          exact ⟨rfl, (Below.refl _ _).alloc (Nat.le_refl _) _⟩
    · cases hv : Lib.validRune r with
      | false =>
        have HV := Lib.hid hv
        have hlt : decide (r < 128) = false := decide_eq_false h128
        have hne : (r == 65533) = false := beq_eq_false_iff_ne.2 hR
        go_enter Tryz.func80, Tryz.ntmps80
        go_wp2_with fail
        refine (Tryz.utf8_ValidRune r _).mono ?_
        rintro e w1 ⟨rfl, rfl⟩
        rw [HV.out]
        go_wp2_with fail
        go_returns
        exact ⟨rfl, Below.refl _ _⟩
      | true =>
        have HV := Lib.hid hv
        have hne : (r == 65533) = false := beq_eq_false_iff_ne.2 hR
        obtain ⟨e1, e2, e3⟩ := encode_facts r (valid_of hv) (by omega)
        clear hv
        go_enter Tryz.func80, Tryz.ntmps80
        go_wp2_with fail
        refine (Tryz.utf8_ValidRune r _).mono ?_
        rintro e w1 ⟨rfl, rfl⟩
        rw [HV.out]
        obtain ⟨m, hL⟩ : ∃ m : Nat, (Utf8.encode r).size = m + 1 := ⟨(Utf8.encode r).size - 1, by omega⟩
        have hm1 : 1 ≤ m := by omega
        have hm3 : m ≤ 3 := by omega
        have hLi : ((Utf8.encode r).size : Int) - 1 = (m : Int) := by omega
        have hmL : m < (Utf8.encode r).size := by omega
        have hm16 : m < digs.size := Nat.lt_of_le_of_lt hm3 (by decide)
        have hc : 128 ≤ ((Utf8.encode r)[m]'hmL).toNat := by
          have := e3 (by omega)
          simpa [hL] using this
        have hda := digs_ascii m hm16
        have hcne : (((digs[m]'hm16).toNat : Int) == (((Utf8.encode r)[m]'hmL).toNat : Int)) = false := beq_eq_false_iff_ne.2 (by omega)
        have hds : (digs.size : Int) = 16 := rfl
        have hm16i : (m : Int) < 16 := by omega
        have hix : ∀ W : World, (Instr.index 9 (.string (Utf8.encode r)) (.int .i64 (m : Int))).run Tryz.prog W = .ok (.int .u8 ((Utf8.encode r)[m]'hmL).toNat) W := fun W => by
          rw [run_index_string W 9 (Utf8.encode r) .i64 m Tryz.underlying9, dif_pos ⟨by omega, by omega⟩]
          rfl
        have hb1 : (0 : Int) ≤ (m : Int) + 1 := by omega
        have hb2 : (m : Int) + 1 ≤ (digs.size : Int) := by rw [hds]; omega
        have hb3 : (m : Int) + 1 ≤ 16 := by omega
        have hwr : IntKind.i64.wrap ((m : Int) + 1) = (m : Int) + 1 := by rw [IntKind.wrap_i64]; omega
        have HN := Lib.hid (index_none (List.take (digs.size - (m + 1)) (List.drop (m + 1) digs.data.toList)) ((Utf8.encode r)[m]'hmL) (fun b hb e => by
          have h1 := digs_all b (List.mem_of_mem_drop (List.mem_of_mem_take hb))
          rw [e] at h1
          omega))
        clear e1 e2 e3
        go_wp2_with fail
        go_step3
        go_wp2_with fail
        refine wp_loop_rounds 1 ?_
        rw [rounds_succ]
        go_wp2_with fail
        go_step3
        go_wp2_with fail
        go_quiet (fail)
        go_wp2_with fail
        go_region_held3 (fun w' => Below w1.heap.size w1 w')
          (first | exact below_drewN (Below.refl _ _) _ | exact Below.drew (by assumption) | (repeat' first | exact Below.refl _ _ | refine below_drewN ?_ _ | refine Below.drew ?_) | assumption)
          (first | (go_at_call 93; refine (Tryz.strings_IndexByte _ _ _).mono ?_; rintro e w3 ⟨rfl, rfl⟩))
        have hN := HN.out
        rw [hN]
        go_wp2_with fail
        simp only [Exit.noGoto, Exit.inBlock, Exit.then]
        go_returns
        exact ⟨rfl, by assumption⟩
end Go.Proofs.YtgfncnnidacllaaGreatDoor
namespace Go.Proofs.YtgfncnnidacllaaGreatDoor
open Go.RowKit Go.Proofs.YtgfncnnidacllaaGreatDoorW.PrintWords Go.Proofs.YtgfncnnidacllaaGreatDoorW.PrintLast Go.Proofs.YtgfncnnidacllaaGreatDoorW.PrintMore
theorem ba_of (s : ByteArray) : s = ⟨s.data.toList.toArray⟩ := by obtain ⟨⟨l⟩⟩ := s; rfl
def dvI (b : UInt8) : Int := digI b.toNat
def pairsOf : List UInt8 → List Int
  | a :: b :: t => (16 * dvI a + dvI b) :: pairsOf t
  | _ => []
def allDig (l : List UInt8) : Bool := l.all fun b => decide (0 ≤ dvI b)
def getN (l : List UInt8) : Option (List Int) := if l = [45] then some [] else if l = [] ∨ l.length % 2 ≠ 0 then none else if allDig l then some (pairsOf l) else none
def halfOf (l : List UInt8) : Int := match l.getLast? with | some b => dvI b | none => 0
theorem dvI_high {b : UInt8} (h : 128 ≤ b.toNat) : dvI b = -1 := by unfold dvI digI; rw [if_neg (by omega)]
theorem allDig_false {l : List UInt8} {k : Nat} {b : UInt8} (hb : l[k]? = some b) (h : dvI b < 0) : allDig l = false := by
  unfold allDig
  rw [List.all_eq_false]
  exact ⟨b, List.mem_of_getElem? hb, by simp; omega⟩
theorem allDig_take {l : List UInt8} {k : Nat} {b : UInt8} (hb : l[k]? = some b) (h : 0 ≤ dvI b) (ha : allDig (l.take k) = true) : allDig (l.take (k + 1)) = true := by
  have hlt := (List.getElem?_eq_some_iff.1 hb).1
  have he := (List.getElem?_eq_some_iff.1 hb).2
  rw [List.take_succ_eq_append_getElem hlt, he]
  unfold allDig at ha ⊢
  rw [List.all_append, ha]
  simp [h]
theorem half_snoc (l : List UInt8) (b : UInt8) : halfOf (l ++ [b]) = dvI b := by unfold halfOf; simp
theorem pairs_even (b : UInt8) : ∀ l : List UInt8, l.length % 2 = 0 → pairsOf (l ++ [b]) = pairsOf l
  | [], _ => rfl
  | [x], h => by simp at h
  | x :: y :: t, h => by
    have ih := pairs_even b t (by simp at h; omega)
    show (16 * dvI x + dvI y) :: pairsOf (t ++ [b]) = (16 * dvI x + dvI y) :: pairsOf t
    rw [ih]
theorem pairs_odd (b : UInt8) : ∀ l : List UInt8, l.length % 2 = 1 → pairsOf (l ++ [b]) = pairsOf l ++ [16 * halfOf l + dvI b]
  | [], h => by simp at h
  | [x], _ => rfl
  | x :: y :: t, h => by
    have ht : t.length % 2 = 1 := by simp at h; omega
    have ih := pairs_odd b t ht
    have hne : t ≠ [] := by rintro rfl; simp at ht
    have hh : halfOf (x :: y :: t) = halfOf t := by
      unfold halfOf
      rw [List.getLast?_cons_cons, List.getLast?_cons]
      cases hl : t.getLast? with
      | none => exact absurd (List.getLast?_eq_none_iff.1 hl) hne
      | some z => simp
    show (16 * dvI x + dvI y) :: pairsOf (t ++ [b]) = (16 * dvI x + dvI y) :: pairsOf t ++ [16 * halfOf (x :: y :: t) + dvI b]
    rw [ih, hh]
    rfl
theorem pairs_le : ∀ l : List UInt8, (pairsOf l).length ≤ l.length
  | [] => Nat.le_refl _
  | [x] => by simp [pairsOf]
  | x :: y :: t => by
    have ih := pairs_le t
    simp only [pairsOf, List.length_cons]
    omega
theorem or_at (h n : Int) (h0 : 0 ≤ h) (h1 : h ≤ 15) (n0 : 0 ≤ n) (n1 : n ≤ 15) : bits BinOp.or IntKind.i64 (h * 16) n % 256 = 16 * h + n := by
  have hd : ∀ a : Fin 16, ∀ b : Fin 16, bits BinOp.or IntKind.i64 (((a.val : Nat) : Int) * 16) ((b.val : Nat) : Int) % 256 = 16 * ((a.val : Nat) : Int) + ((b.val : Nat) : Int) := by decide +kernel
  obtain ⟨a, rfl⟩ : ∃ a : Nat, h = a := ⟨h.toNat, by omega⟩
  obtain ⟨b, rfl⟩ : ∃ b : Nat, n = b := ⟨n.toNat, by omega⟩
  exact hd ⟨a, by omega⟩ ⟨b, by omega⟩
theorem index_lt (c : UInt8) : ∀ l : List UInt8, Lib.indexByte l c < l.length
  | [] => by simp [Lib.indexByte]
  | b :: l => by
    have h := index_lt c l
    unfold Lib.indexByte
    simp only [List.length_cons]
    split
    · omega
    · split <;> omega
theorem dvI_le (b : UInt8) : dvI b ≤ 15 := by
  unfold dvI digI
  split
  · have h := index_lt ((b.toNat : Int).toNat.toUInt8) digs.data.toList
    have h16 : digs.data.toList.length = 16 := rfl
    omega
  · decide
theorem half_range {l : List UInt8} (hl : l.length % 2 = 1) (ha : allDig l = true) : 0 ≤ halfOf l ∧ halfOf l ≤ 15 := by
  unfold halfOf
  cases h : l.getLast? with
  | none => rw [List.getLast?_eq_none_iff] at h; subst h; simp at hl
  | some z =>
    have hm := List.mem_of_getLast? h
    have := of_decide_eq_true (List.all_eq_true.1 ha z hm)
    exact ⟨this, dvI_le z⟩
set_option maxRecDepth 100000 in
set_option maxHeartbeats 8000000 in
theorem get_any (s : ByteArray) (hlim : s.size ≤ 100000) (w : World) (h45 : s.data.toList ≠ [45]) (he : s.data.toList ≠ []) (h2 : s.size % 2 = 0) :
    Calls Tryz.prog 68 #[.string s] w fun e w' => (∃ v, e = .returned (.tuple #[v, .bool (allDig s.data.toList)]) ∧ (allDig s.data.toList = true → w'.ownsRow w.heap.size 5 1 v (pairsOf s.data.toList).length ((pairsOf s.data.toList).map (Value.int .u8))) ∧ (allDig s.data.toList = false → v = .slice none 0 0)) ∧ Below w.heap.size w w' := by
  obtain ⟨i0, hi, hz0, hz1, hz2⟩ := info_parts byInfo
  have e45 : (s.toList == [45]) = false := by rw [ba_toList]; exact beq_eq_false_iff_ne.2 h45
  have e0 : (s.toList == []) = false := by rw [ba_toList]; exact beq_eq_false_iff_ne.2 he
  have hm2 : (s.size : Int) % 2 = 0 := by omega
  have hmk := fun W : World => run_make W 23 5 i0 (.int .u8 0) Tryz.underlying23 hi hz0 .i64 .i64 0 ((s.size : Int) / 2) (by omega) (by omega) (by rw [hz2]; omega) (by omega)
  go_enter Tryz.func68, Tryz.ntmps68
  go_wp2_with fail
  clear hmk hm2 e45 e0
  go_loopw [4, 5] (fun v h wr => ∃ pos : Nat, pos ≤ s.size ∧ h = .int .i64 (halfOf (s.data.toList.take pos)) ∧ wr.heap[w.heap.size + 1]? = some (.stringIter s pos) ∧ allDig (s.data.toList.take pos) = true ∧ wr.ownsRow w.heap.size 5 1 v (pairsOf (s.data.toList.take pos)).length ((pairsOf (s.data.toList.take pos)).map (Value.int .u8)) ∧ v.ownBlock ≠ some (w.heap.size + 1) ∧ Below w.heap.size w wr)
    (fun _ _ wr => s.size - wr.iterPos (w.heap.size + 1))
  case atStart =>
    refine ⟨0, Nat.zero_le _, rfl, ?_, rfl, ?_, by simp [Value.ownBlock], ((Below.refl _ w).alloc (Nat.le_refl _) _).alloc (by simp) _⟩
    · have h5 := World.iter_heap (w.alloc (.cells (madeCells #[.int .u8 0] (s.size / 2)) 5)) s 0
      simpa using h5
    · refine ⟨rfl, .inr ⟨w.heap.size, s.size / 2, madeCells #[.int .u8 0] (s.size / 2), rfl, Nat.le_refl _, ?_, ?_⟩⟩
      · exact (Below.heap_alloc _ _ _ (by simp)).trans (heap_alloc_new _ _)
      · exact ⟨Nat.zero_le _, by unfold maxLen; omega, by rw [size_madeCells, Nat.mul_one], rfl⟩
  case round =>
    obtain ⟨pos, hps, rfl, hk, hA, hown, hne, hB⟩ := hrel
    by_cases hp : pos < s.size
    · have hpl : pos < s.data.toList.length := hp
      obtain ⟨b, hb⟩ : ∃ b, s.data.toList[pos]? = some b := ⟨_, List.getElem?_eq_getElem hpl⟩
      have hbs : s[pos]'hp = b := by
        have := (List.getElem?_eq_some_iff.1 hb).2
        rw [← this]
        rfl
      by_cases h128 : b.toNat < 128
      · have hnx : ∀ ty, (Instr.next (.pointer (some ⟨w.heap.size + 1, 0, none⟩)) true ty).run Tryz.prog wr = .ok (.tuple #[.bool true, .int .i64 pos, .int .i32 b.toNat]) (wr.iterAt (w.heap.size + 1) s (pos + 1)) := fun ty => by
          have h := Lib.run_next_ascii_at (P := Tryz.prog) wr (w.heap.size + 1) s pos ty hk hp (by rw [hbs]; exact h128)
          rw [hbs] at h
          exact h
        go_wp2_with fail
        refine (irune_any (b.toNat : Int) (by omega) (by omega) _).mono ?_
        rintro e w2 ⟨rfl, hw2⟩
        have hB1 : Below w.heap.size w (wr.iterAt (w.heap.size + 1) s (pos + 1)) := Lib.below_iterAt hB (by omega) s (pos + 1)
        have hB2 := below_call hB1 hw2
        have hdv : digI (b.toNat : Int) = dvI b := rfl
        rw [hdv]
        by_cases hd : dvI b < 0
        · have hfa := allDig_false hb hd
          go_wp2_with fail
          go_returns
          exact ⟨⟨_, by rw [hfa]; rfl, fun h => (by rw [hfa] at h; cases h), fun _ => rfl⟩, hB2⟩
        · have hdl := dvI_le b
          have hk2 : w2.heap[w.heap.size + 1]? = some (.stringIter s (pos + 1)) := blk_call hw2 (Lib.iterAt_heap wr (w.heap.size + 1) s pos (pos + 1) hk)
          have hA2 := allDig_take hb (by omega) hA
          have hts : s.data.toList.take (pos + 1) = s.data.toList.take pos ++ [b] := by
            rw [List.take_succ_eq_append_getElem hpl, (List.getElem?_eq_some_iff.1 hb).2]
          have htl : (s.data.toList.take pos).length = pos := by rw [List.length_take]; omega
          have hi1 : w2.iterPos (w.heap.size + 1) = pos + 1 := by simp [World.iterPos, hk2]
          have hi0 : wr.iterPos (w.heap.size + 1) = pos := by simp [World.iterPos, hk]
          have hwr : ∀ k, k < wr.heap.size → k ≠ w.heap.size + 1 → w2.heap[k]? = wr.heap[k]? := fun k h1 h2 =>
            (hw2.block k (by rw [Lib.iterAt_size]; exact h1)).trans (Lib.iterAt_other wr (w.heap.size + 1) k s (pos + 1) h2)
          have hown2 : w2.ownsRow w.heap.size 5 1 u4 (pairsOf (s.data.toList.take pos)).length ((pairsOf (s.data.toList.take pos)).map (Value.int .u8)) := by
            refine own_move hown (fun k hko => hwr k ?_ (fun e => hne (by rw [hko, e])))
            exact own_lt hown k hko
          have hpar : ((pos : Int) % 2 == 1) = decide (pos % 2 = 1) := by
            rw [Bool.eq_iff_iff]; simp; omega
          by_cases ho : pos % 2 = 1
          · have hpt : ((pos : Int) % 2 == 1) = true := by rw [hpar]; simpa using ho
            have hs2 : w.heap.size ≤ w2.heap.size := hB2.size
            have hnl : (pairsOf (s.data.toList.take pos)).length ≤ 100000 := Nat.le_trans (pairs_le _) (by rw [htl]; omega)
            have hh := half_range (by rw [htl]; exact ho) hA
            have hval := or_at (halfOf (s.data.toList.take pos)) (dvI b) hh.1 hh.2 (by omega) hdl
            have hps2 := pairs_odd b (s.data.toList.take pos) (by rw [htl]; exact ho)
            go_wp2_with (first | (at_builtin; refine wpList_append_own _ (by rfl) (.tmp 36) (.tmp 42) 23 (by rfl) w.heap.size 5 i0 (.int .u8 0) 1 1 Tryz.underlying23 hi hz0 hz1 hz2 rfl (by decide) _ _ _ (by rfl) (hown2.alloc _) ⟨w2.heap.size, 0, none⟩ 1 1 [_] (by rfl) rfl (one_news _ _ _) (by simp [Value.oneCell']) (by unfold maxLen; omega) (by omega) (by simp; omega) ?_))
            intro v' w3 hown3 hgrow _
            have hk3 : w3.heap[w.heap.size + 1]? = some (.stringIter s (pos + 1)) :=
              (hgrow.block _ (by have := blk_lt hk2; simp; omega) (fun e => hne e.symm)).trans (blk_alloc hk2)
            have hi3 : w3.iterPos (w.heap.size + 1) = pos + 1 := by simp [World.iterPos, hk3]
            have hne3 : v'.ownBlock ≠ some (w.heap.size + 1) := fun e => by
              obtain ⟨cells, hc⟩ := own_typed hown3 _ e
              rw [hk3] at hc
              cases hc
            have hB3 : Below w.heap.size w w3 := (hB2.alloc hs2 _).grown hgrow (by simp; omega) (fun k hk => own_base hown2 k hk)
            have hown4 : w3.ownsRow w.heap.size 5 1 v' (pairsOf (s.data.toList.take (pos + 1))).length ((pairsOf (s.data.toList.take (pos + 1))).map (Value.int .u8)) := by
              rw [hts, hps2]
              simpa using hown3
            have HO := Lib.hid hown4
            clear hown3 hgrow hown4
            go_wp2_with fail
            exact ⟨⟨pos + 1, by omega, by rw [hts, half_snoc], hk3, hA2, HO.out, hne3, hB3⟩, by rw [hi3, hi0]; omega⟩
          · have hpt : ((pos : Int) % 2 == 1) = false := by rw [hpar]; simpa using ho
            have hps2 := pairs_even b (s.data.toList.take pos) (by rw [htl]; omega)
            go_wp2_with fail
            refine ⟨⟨pos + 1, by omega, by rw [hts, half_snoc], hk2, hA2, ?_, hne, hB2⟩, by rw [hi1, hi0]; omega⟩
            rw [hts, hps2]
            exact hown2
      · have hnx : ∀ ty, (Instr.next (.pointer (some ⟨w.heap.size + 1, 0, none⟩)) true ty).run Tryz.prog wr = .ok (.tuple #[.bool true, .int .i64 pos, .int .i32 (Utf8.decode s pos).1]) (wr.iterAt (w.heap.size + 1) s (pos + (Utf8.decode s pos).2)) := fun ty => Lib.run_next_any_at (P := Tryz.prog) wr (w.heap.size + 1) s pos ty hk hp
        have hhi := (decode_high s pos hp (by rw [hbs]; omega)).1
        have hle := decode_le s pos
        go_wp2_with fail
        refine (irune_any ((Utf8.decode s pos).1 : Int) (by omega) (by omega) _).mono ?_
        rintro e w2 ⟨rfl, hw2⟩
        have hB2 := below_call (Lib.below_iterAt hB (by omega) s (pos + (Utf8.decode s pos).2)) hw2
        have hdv : digI ((Utf8.decode s pos).1 : Int) = -1 := by unfold digI; rw [if_neg (by omega)]
        rw [hdv]
        have hfa := allDig_false hb (by rw [dvI_high (by omega)]; omega)
        go_wp2_with fail
        go_returns
        exact ⟨⟨_, by rw [hfa]; rfl, fun h => (by rw [hfa] at h; cases h), fun _ => rfl⟩, hB2⟩
    · have hpos : pos = s.size := by omega
      have hnx : ∀ ty, (Instr.next (.pointer (some ⟨w.heap.size + 1, 0, none⟩)) true ty).run Tryz.prog wr = .ok (.tuple #[.bool false]) wr := fun ty => Lib.run_next_end_at wr (w.heap.size + 1) s pos ty hk hp
      have hft : s.data.toList.take pos = s.data.toList := by rw [hpos]; exact List.take_length
      rw [hft] at hA hown
      go_wp2_with fail
      go_returns
      exact ⟨⟨_, by rw [hA]; rfl, fun _ => hown, fun h => by rw [hA] at h; cases h⟩, hB⟩
set_option maxRecDepth 100000 in
set_option maxHeartbeats 4000000 in
theorem get_dash (w : World) : Calls Tryz.prog 68 #[.string ⟨#[45]⟩] w fun e w' => e = .returned (.tuple #[.slice none 0 0, .bool true]) ∧ w' = w := by
  go_enter Tryz.func68, Tryz.ntmps68
  go_wp2_with fail
  go_returns
  exact ⟨rfl, rfl⟩
set_option maxRecDepth 100000 in
set_option maxHeartbeats 4000000 in
theorem get_empty (w : World) : Calls Tryz.prog 68 #[.string ⟨#[]⟩] w fun e w' => e = .returned (.tuple #[.slice none 0 0, .bool false]) ∧ w' = w := by
  go_enter Tryz.func68, Tryz.ntmps68
  go_wp2_with fail
  go_returns
  exact ⟨rfl, rfl⟩
set_option maxRecDepth 100000 in
set_option maxHeartbeats 4000000 in
theorem get_odd (s : ByteArray) (h2 : s.size % 2 = 1) (h45 : s.data.toList ≠ [45]) (w : World) : Calls Tryz.prog 68 #[.string s] w fun e w' => e = .returned (.tuple #[.slice none 0 0, .bool false]) ∧ w' = w := by
  have e45 : (s.toList == [45]) = false := by rw [ba_toList]; exact beq_eq_false_iff_ne.2 h45
  have e0 : (s.toList == []) = false := by
    rw [ba_toList]
    exact beq_eq_false_iff_ne.2 (fun e => by
      have : s.data.toList.length = 0 := by rw [e]; rfl
      have h3 : s.data.toList.length = s.size := rfl
      omega)
  have hm2 : (s.size : Int) % 2 = 1 := by omega
  go_enter Tryz.func68, Tryz.ntmps68
  go_wp2_with fail
  go_returns
  exact ⟨rfl, rfl⟩
def Row (w : World) (B : Nat) (v : Value) (xs : List Int) : Prop := w.ownsRow B 5 1 v xs.length (xs.map (Value.int .u8))
theorem getall_any (s : ByteArray) (hlim : s.size ≤ 100000) (w : World) :
    Calls Tryz.prog 68 #[.string s] w fun e w' => (∃ v, e = .returned (.tuple #[v, .bool (getN s.data.toList).isSome]) ∧ (∀ xs, getN s.data.toList = some xs → Row w' w.heap.size v xs) ∧ (getN s.data.toList = none → v = .slice none 0 0)) ∧ Below w.heap.size w w' := by
  have hsz : s.data.toList.length = s.size := rfl
  have hnil : ∀ w' : World, Row w' w.heap.size (.slice none 0 0) [] := fun w' => World.ownsRow_nil w' w.heap.size _ 1
  by_cases h45 : s.data.toList = [45]
  · have hg : getN s.data.toList = some [] := by unfold getN; rw [if_pos h45]
    have hs : s = ⟨#[45]⟩ := by rw [ba_of s, h45]
    rw [hg]
    subst hs
    refine (get_dash w).mono fun e w' ⟨h1, h2⟩ => ⟨⟨_, h1, fun xs hx => ?_, fun h => by cases h⟩, h2 ▸ Below.refl _ _⟩
    cases hx
    exact hnil w'
  · by_cases he : s.data.toList = []
    · have hg : getN s.data.toList = none := by unfold getN; rw [if_neg h45, if_pos (.inl he)]
      have hs : s = ⟨#[]⟩ := by rw [ba_of s, he]
      rw [hg]
      subst hs
      exact (get_empty w).mono fun e w' ⟨h1, h2⟩ => ⟨⟨_, h1, fun xs hx => (by cases hx), fun _ => rfl⟩, h2 ▸ Below.refl _ _⟩
    · by_cases ho : s.size % 2 = 1
      · have hg : getN s.data.toList = none := by unfold getN; rw [if_neg h45, if_pos (.inr (by omega))]
        rw [hg]
        exact (get_odd s ho h45 w).mono fun e w' ⟨h1, h2⟩ => ⟨⟨_, h1, fun xs hx => (by cases hx), fun _ => rfl⟩, h2 ▸ Below.refl _ _⟩
      · have hc : ¬ (s.data.toList = [] ∨ s.data.toList.length % 2 ≠ 0) := by rw [hsz]; rintro (h | h); exact he h; omega
        have hg : getN s.data.toList = if allDig s.data.toList then some (pairsOf s.data.toList) else none := by unfold getN; rw [if_neg h45, if_neg hc]
        rw [hg]
        refine (get_any s hlim w h45 he (by omega)).mono fun e w' ⟨⟨v, h1, h2, h3⟩, hb⟩ => ⟨⟨v, ?_, ?_, ?_⟩, hb⟩
        · rw [h1]; cases allDig s.data.toList <;> rfl
        · intro xs hx
          cases ha : allDig s.data.toList with
          | false => rw [ha] at hx; cases hx
          | true => rw [ha] at hx; cases hx; exact h2 ha
        · intro hx
          cases ha : allDig s.data.toList with
          | false => exact h3 ha
          | true => rw [ha] at hx; cases hx
end Go.Proofs.YtgfncnnidacllaaGreatDoor
namespace Go.Proofs.YtgfncnnidacllaaGreatDoor
open Go.RowKit
def wordsB (s : ByteArray) : List ByteArray := Lib.splitB ⟨#[32]⟩ 0 (Lib.countB s ⟨#[32]⟩) s
theorem wordsB_length (s : ByteArray) : (wordsB s).length = Lib.countB s ⟨#[32]⟩ + 1 := Lib.splitB_all ⟨#[32]⟩ (by decide) 0 _ s rfl
set_option maxRecDepth 100000 in
set_option maxHeartbeats 2000000 in
theorem words_any (s : ByteArray) (hs : s.size < 4294967281) (w : World) (hV : VarsAt w) :
    Calls Tryz.prog 15 #[.string s] w fun e w' => e = .returned (.slice (some ⟨w.heap.size, 0, none⟩) (wordsB s).length (wordsB s).length) ∧ w'.heap[w.heap.size]? = some (.cells ((wordsB s).map Value.string).toArray 9 (0, 0)) ∧ Below w.heap.size w w' := by
  obtain ⟨m, hm⟩ := hV.max
  have H := Lib.hid (Tryz.strings_Split s ⟨#[32]⟩ m w hs hm (by decide))
  have hl := wordsB_length s
  clear hm hV
  go_enter Tryz.func15, Tryz.ntmps15
  go_wp2_with fail
  refine H.out.mono ?_
  rintro e w' ⟨rfl, rfl⟩
  go_wp2_with fail
  go_returns
  exact ⟨by rw [hl]; rfl, blk_new _ _ _ rfl, (Below.refl _ _).alloc (Nat.le_refl _) _⟩
end Go.Proofs.YtgfncnnidacllaaGreatDoor
namespace Go.Proofs.YtgfncnnidacllaaGreatDoor
open Go.RowKit
def smallN (l : List UInt8) (most : Nat) : Option Nat := match ofN l with | some u => if u ≤ most then some u else none | none => none
set_option maxRecDepth 100000 in
set_option maxHeartbeats 4000000 in
theorem num_any (s : ByteArray) (hlim : s.size ≤ 100000) (most c off : Nat) (hm : most ≤ 1073741824) (old : Value) (w : World) (hV : VarsAt w) (hc : w.cell? ⟨c, off, none⟩ = some old) (hf : w.frozen? ⟨c, off, none⟩ = false) :
    Calls Tryz.prog 55 #[.string s, .int .u64 most, .pointer (some ⟨c, off, none⟩)] w fun e w' => ∃ w1, Below w.heap.size w w1 ∧ e = .returned (.bool (smallN s.data.toList most).isSome) ∧ w' = match smallN s.data.toList most with | some u => w1.setCell ⟨c, off, none⟩ (.int .i64 u) | none => w1 := by
  have H := Lib.hid (of_any s (by omega) w hV)
  have hclt := World.block_lt_of_cell? w _ hc
  clear hV
  cases ho : ofN s.data.toList with
  | none =>
    have hs : smallN s.data.toList most = none := by unfold smallN; rw [ho]
    rw [ho] at H
    rw [hs]
    go_enter Tryz.func55, Tryz.ntmps55
    go_wp2_with fail
    refine H.out.mono ?_
    rintro e w1 ⟨rfl, hw⟩
    go_wp2_with fail
    go_returns
    exact ⟨w1, hw, rfl, rfl⟩
  | some u =>
    rw [ho] at H
    by_cases hle : u ≤ most
    · have hs : smallN s.data.toList most = some u := by unfold smallN; rw [ho]; simp only []; rw [if_pos hle]
      rw [hs]
      have hle' : (u : Int) ≤ (most : Int) := by omega
      have hwr : IntKind.i64.wrap (u : Int) = (u : Int) := by rw [IntKind.wrap_i64]; omega
      go_enter Tryz.func55, Tryz.ntmps55
      go_wp2_with fail
      refine H.out.mono ?_
      rintro e w1 ⟨rfl, hw⟩
      have hc1 := (hw.cell (p := ⟨c, off, none⟩) hclt).trans hc
      have hf1 := (hw.frozen (p := ⟨c, off, none⟩) hclt).trans hf
      have hu : optV (some u) = (u : Int) := rfl
      rw [hu]
      go_wp2_with fail
      go_returns
      exact ⟨w1, hw, rfl, rfl⟩
    · have hs : smallN s.data.toList most = none := by unfold smallN; rw [ho]; simp only []; rw [if_neg hle]
      rw [hs]
      have hle' : ¬ (u : Int) ≤ (most : Int) := by omega
      go_enter Tryz.func55, Tryz.ntmps55
      go_wp2_with fail
      refine H.out.mono ?_
      rintro e w1 ⟨rfl, hw⟩
      have hu : optV (some u) = (u : Int) := rfl
      rw [hu]
      go_wp2_with fail
      go_returns
      exact ⟨w1, hw, rfl, rfl⟩
set_option maxRecDepth 100000 in
set_option maxHeartbeats 4000000 in
theorem bytesOf_any (s : ByteArray) (hlim : s.size ≤ 100000) (c off : Nat) (old : Value) (w : World) (hc : w.cell? ⟨c, off, none⟩ = some old) (hf : w.frozen? ⟨c, off, none⟩ = false) :
    Calls Tryz.prog 57 #[.string s, .pointer (some ⟨c, off, none⟩)] w fun e w' => ∃ w1 v, Below w.heap.size w w1 ∧ e = .returned (.bool (getN s.data.toList).isSome) ∧ w' = w1.setCell ⟨c, off, none⟩ v ∧ (∀ xs, getN s.data.toList = some xs → Row w1 w.heap.size v xs) ∧ (getN s.data.toList = none → v = .slice none 0 0) := by
  have H := Lib.hid (getall_any s hlim w)
  have hclt := World.block_lt_of_cell? w _ hc
  go_enter Tryz.func57, Tryz.ntmps57
  go_wp2_with fail
  refine H.out.mono ?_
  rintro e w1 ⟨⟨v, rfl, h2, h3⟩, hw⟩
  obtain ⟨A, n, cc, rfl⟩ : ∃ A n cc, v = .slice A n cc := by
    cases hg : getN s.data.toList with
    | none => exact ⟨_, _, _, h3 hg⟩
    | some xs =>
      rcases (h2 xs hg).2 with ⟨hv, _⟩ | ⟨g, cap, cur, hv, _⟩
      · exact ⟨_, _, _, hv⟩
      · exact ⟨_, _, _, hv⟩
  have hc1 := (hw.cell (p := ⟨c, off, none⟩) hclt).trans hc
  have hf1 := (hw.frozen (p := ⟨c, off, none⟩) hclt).trans hf
  go_wp2_with fail
  go_returns
  exact ⟨w1, _, hw, rfl, rfl, h2, h3⟩
end Go.Proofs.YtgfncnnidacllaaGreatDoor
namespace Go.Proofs.YtgfncnnidacllaaGreatDoor
open Go.RowKit Go.Proofs.YtgfncnnidacllaaGreatDoorW.PrintWords Go.Proofs.YtgfncnnidacllaaGreatDoorW.PrintLast Go.Proofs.YtgfncnnidacllaaGreatDoorW.PrintMore
structure KeptBut (c : Nat) (w w' : World) : Prop where
  os : w'.os = w.os
  tape : w'.tape = w.tape
  output : w'.output = w.output
  size : w.heap.size ≤ w'.heap.size
  block : ∀ k, k < w.heap.size → k ≠ c → w'.heap[k]? = w.heap[k]?
theorem KeptBut.set {c off : Nat} {v : Value} {w w1 : World} (h : Below w.heap.size w w1) : KeptBut c w (w1.setCell ⟨c, off, none⟩ v) :=
  ⟨h.os, h.tape, h.output, by rw [size_set]; exact h.size, fun k hk hne => (old_set w1 c off v k hne).trans (h.block k hk)⟩
theorem KeptBut.of {c : Nat} {w w1 : World} (h : Below w.heap.size w w1) : KeptBut c w w1 := ⟨h.os, h.tape, h.output, h.size, fun k hk _ => h.block k hk⟩
def Gets (fn : FuncId) (off : Nat) (ok : List UInt8 → Bool) (good : List UInt8 → World → Nat → Value → Prop) : Prop :=
  ∀ (s : ByteArray) (c : Nat) (cells : Array Value) (w : World), s.size ≤ 100000 → VarsAt w → w.heap[c]? = some (.cells cells 30 (0, 0)) → cells.size = 9 →
    Calls Tryz.prog fn #[.pointer (some ⟨c, 0, none⟩), .string s] w fun e w' => e = .returned (.bool (ok s.data.toList)) ∧ (∃ v, w'.heap[c]? = some (.cells (cells.setIfInBounds off v) 30 (0, 0)) ∧ (ok s.data.toList = true → good s.data.toList w' w.heap.size v)) ∧ KeptBut c w w'
theorem set_cells_same {cells : Array Value} {off : Nat} {v : Value} (h : cells[off]? = some v) : cells.setIfInBounds off v = cells := by
  apply Array.ext_getElem?
  intro j
  rw [Array.getElem?_setIfInBounds]
  split
  · rename_i e; subst e
    split
    · exact h.symm
    · rename_i hn; rw [Array.getElem?_eq_none (by omega)]
  · rfl
set_option maxRecDepth 100000 in
set_option maxHeartbeats 4000000 in
theorem getH_any : Gets 33 1 (fun l => (smallN l 1000000000).isSome) (fun l _ _ v => ∃ u, smallN l 1000000000 = some u ∧ v = .int .i64 u) := by
  intro s c cells w hlim hV hb h9
  obtain ⟨old, hold⟩ : ∃ old, cells[1]? = some old := ⟨cells[1]'(by omega), Array.getElem?_eq_getElem _⟩
  have H := Lib.hid (num_any s hlim 1000000000 c 1 (by omega) old w hV ((blk_cell hb 1).trans hold) (blk_frozen hb 1))
  clear hV
  go_enter Tryz.func33, Tryz.ntmps33
  go_wp2_with fail
  refine H.out.mono ?_
  rintro e w' ⟨w1, hw, rfl, hw'⟩
  have HW := Lib.hid hw'
  clear hw'
  go_wp2_with fail
  go_returns
  have hw' := HW.out
  refine ⟨rfl, ?_⟩
  have hb1 := blk_call hw hb
  cases hs : smallN s.data.toList 1000000000 with
  | none =>
    rw [hs] at hw'
    subst hw'
    exact ⟨⟨old, by rw [set_cells_same hold]; exact hb1, fun h => by simp [hs] at h⟩, KeptBut.of hw⟩
  | some u =>
    rw [hs] at hw'
    subst hw'
    exact ⟨⟨_, blk_set hb1 1 _, fun _ => ⟨u, rfl, rfl⟩⟩, KeptBut.set hw⟩
set_option maxRecDepth 100000 in
set_option maxHeartbeats 4000000 in
theorem getN_any : Gets 43 3 (fun l => (smallN l 1073741824).isSome) (fun l _ _ v => ∃ u, smallN l 1073741824 = some u ∧ v = .int .i64 u) := by
  intro s c cells w hlim hV hb h9
  obtain ⟨old, hold⟩ : ∃ old, cells[3]? = some old := ⟨cells[3]'(by omega), Array.getElem?_eq_getElem _⟩
  have H := Lib.hid (num_any s hlim 1073741824 c 3 (by omega) old w hV ((blk_cell hb 3).trans hold) (blk_frozen hb 3))
  clear hV
  go_enter Tryz.func43, Tryz.ntmps43
  go_wp2_with fail
  refine H.out.mono ?_
  rintro e w' ⟨w1, hw, rfl, hw'⟩
  have HW := Lib.hid hw'
  clear hw'
  go_wp2_with fail
  go_returns
  have hw' := HW.out
  refine ⟨rfl, ?_⟩
  have hb1 := blk_call hw hb
  cases hs : smallN s.data.toList 1073741824 with
  | none =>
    rw [hs] at hw'
    subst hw'
    exact ⟨⟨old, by rw [set_cells_same hold]; exact hb1, fun h => by simp [hs] at h⟩, KeptBut.of hw⟩
  | some u =>
    rw [hs] at hw'
    subst hw'
    exact ⟨⟨_, blk_set hb1 3 _, fun _ => ⟨u, rfl, rfl⟩⟩, KeptBut.set hw⟩
set_option maxRecDepth 100000 in
set_option maxHeartbeats 4000000 in
theorem getB_any : Gets 35 6 (fun l => (getN l).isSome) (fun l w B v => ∃ xs, getN l = some xs ∧ Row w B v xs) := by
  intro s c cells w hlim hV hb h9
  obtain ⟨old, hold⟩ : ∃ old, cells[6]? = some old := ⟨cells[6]'(by omega), Array.getElem?_eq_getElem _⟩
  have H := Lib.hid (bytesOf_any s hlim c 6 old w ((blk_cell hb 6).trans hold) (blk_frozen hb 6))
  clear hV
  go_enter Tryz.func35, Tryz.ntmps35
  go_wp2_with fail
  refine H.out.mono ?_
  rintro e w' ⟨w1, v, hw, rfl, hw', h2, h3⟩
  have HW := Lib.hid hw'
  clear hw'
  go_wp2_with fail
  go_returns
  have hw' := HW.out
  subst hw'
  have hb1 := blk_call hw hb
  refine ⟨rfl, ⟨v, blk_set hb1 6 _, fun h => ?_⟩, KeptBut.set hw⟩
  cases hg : getN s.data.toList with
  | none => rw [hg] at h; cases h
  | some xs =>
    refine ⟨xs, rfl, own_move (h2 xs hg) (fun k hk => old_set w1 c 6 v k (fun e => ?_))⟩
    have h4 := own_base (h2 xs hg) k hk
    have h5 := blk_lt hb
    omega
set_option maxRecDepth 100000 in
set_option maxHeartbeats 4000000 in
theorem getFirst_any : Gets 39 4 (fun l => (getN l).isSome) (fun l w B v => ∃ xs, getN l = some xs ∧ Row w B v xs) := by
  intro s c cells w hlim hV hb h9
  obtain ⟨old, hold⟩ : ∃ old, cells[4]? = some old := ⟨cells[4]'(by omega), Array.getElem?_eq_getElem _⟩
  have H := Lib.hid (bytesOf_any s hlim c 4 old w ((blk_cell hb 4).trans hold) (blk_frozen hb 4))
  clear hV
  go_enter Tryz.func39, Tryz.ntmps39
  go_wp2_with fail
  refine H.out.mono ?_
  rintro e w' ⟨w1, v, hw, rfl, hw', h2, h3⟩
  have HW := Lib.hid hw'
  clear hw'
  go_wp2_with fail
  go_returns
  have hw' := HW.out
  subst hw'
  have hb1 := blk_call hw hb
  refine ⟨rfl, ⟨v, blk_set hb1 4 _, fun h => ?_⟩, KeptBut.set hw⟩
  cases hg : getN s.data.toList with
  | none => rw [hg] at h; cases h
  | some xs =>
    refine ⟨xs, rfl, own_move (h2 xs hg) (fun k hk => old_set w1 c 4 v k (fun e => ?_))⟩
    have h4 := own_base (h2 xs hg) k hk
    have h5 := blk_lt hb
    omega
set_option maxRecDepth 100000 in
set_option maxHeartbeats 4000000 in
theorem getLast_any : Gets 41 5 (fun l => (getN l).isSome) (fun l w B v => ∃ xs, getN l = some xs ∧ Row w B v xs) := by
  intro s c cells w hlim hV hb h9
  obtain ⟨old, hold⟩ : ∃ old, cells[5]? = some old := ⟨cells[5]'(by omega), Array.getElem?_eq_getElem _⟩
  have H := Lib.hid (bytesOf_any s hlim c 5 old w ((blk_cell hb 5).trans hold) (blk_frozen hb 5))
  clear hV
  go_enter Tryz.func41, Tryz.ntmps41
  go_wp2_with fail
  refine H.out.mono ?_
  rintro e w' ⟨w1, v, hw, rfl, hw', h2, h3⟩
  have HW := Lib.hid hw'
  clear hw'
  go_wp2_with fail
  go_returns
  have hw' := HW.out
  subst hw'
  have hb1 := blk_call hw hb
  refine ⟨rfl, ⟨v, blk_set hb1 5 _, fun h => ?_⟩, KeptBut.set hw⟩
  cases hg : getN s.data.toList with
  | none => rw [hg] at h; cases h
  | some xs =>
    refine ⟨xs, rfl, own_move (h2 xs hg) (fun k hk => old_set w1 c 5 v k (fun e => ?_))⟩
    have h4 := own_base (h2 xs hg) k hk
    have h5 := blk_lt hb
    omega
set_option maxRecDepth 100000 in
set_option maxHeartbeats 4000000 in
theorem getHi_any : Gets 45 7 (fun l => (ofN l).isSome) (fun l _ _ v => ∃ u, ofN l = some u ∧ v = .int .u64 u) := by
  intro s c cells w hlim hV hb h9
  obtain ⟨old, hold⟩ : ∃ old, cells[7]? = some old := ⟨cells[7]'(by omega), Array.getElem?_eq_getElem _⟩
  have H := Lib.hid (of_any s (by omega) w hV)
  clear hV
  go_enter Tryz.func45, Tryz.ntmps45
  go_wp2_with fail
  refine H.out.mono ?_
  rintro e w1 ⟨rfl, hw⟩
  have hb1 := blk_call hw hb
  have hc1 := (blk_cell hb1 7).trans hold
  have hf1 := blk_frozen hb1 7
  go_wp2_with fail
  go_returns
  refine ⟨rfl, ⟨_, blk_set hb1 7 _, fun h => ?_⟩, KeptBut.set hw⟩
  cases hg : ofN s.data.toList with
  | none => rw [hg] at h; cases h
  | some u => exact ⟨u, rfl, rfl⟩
set_option maxRecDepth 100000 in
set_option maxHeartbeats 4000000 in
theorem getLo_any : Gets 47 8 (fun l => (ofN l).isSome) (fun l _ _ v => ∃ u, ofN l = some u ∧ v = .int .u64 u) := by
  intro s c cells w hlim hV hb h9
  obtain ⟨old, hold⟩ : ∃ old, cells[8]? = some old := ⟨cells[8]'(by omega), Array.getElem?_eq_getElem _⟩
  have H := Lib.hid (of_any s (by omega) w hV)
  clear hV
  go_enter Tryz.func47, Tryz.ntmps47
  go_wp2_with fail
  refine H.out.mono ?_
  rintro e w1 ⟨rfl, hw⟩
  have hb1 := blk_call hw hb
  have hc1 := (blk_cell hb1 8).trans hold
  have hf1 := blk_frozen hb1 8
  go_wp2_with fail
  go_returns
  refine ⟨rfl, ⟨_, blk_set hb1 8 _, fun h => ?_⟩, KeptBut.set hw⟩
  cases hg : ofN s.data.toList with
  | none => rw [hg] at h; cases h
  | some u => exact ⟨u, rfl, rfl⟩
end Go.Proofs.YtgfncnnidacllaaGreatDoor
namespace Go.Proofs.YtgfncnnidacllaaGreatDoor
open Go.RowKit Go.Proofs.YtgfncnnidacllaaGreatDoorW.PrintWords Go.Proofs.YtgfncnnidacllaaGreatDoorW.PrintLast Go.Proofs.YtgfncnnidacllaaGreatDoorW.PrintMore
set_option maxRecDepth 100000 in
set_option maxHeartbeats 2000000 in
theorem putH_any (c u : Nat) (hu : u < 9223372036854775808) (w : World) (hV : VarsAt w) (hc : w.cell? ⟨c, 1, none⟩ = some (.int .i64 u)) :
    Calls Tryz.prog 34 #[.pointer (some ⟨c, 0, none⟩)] w fun e w' => e = .returned (.string ⟨(Lib.decDigits u).toArray⟩) ∧ Below w.heap.size w w' := by
  have H := Lib.hid (number_any u (by omega) w hV.tab)
  have hwr : IntKind.u64.wrap (u : Int) = (u : Int) := by rw [IntKind.wrap_u64]; omega
  clear hV
  go_enter Tryz.func34, Tryz.ntmps34
  go_wp2_with fail
  refine H.out.mono ?_
  rintro e w1 ⟨rfl, hw⟩
  go_wp2_with fail
  go_returns
  exact ⟨rfl, hw⟩
set_option maxRecDepth 100000 in
set_option maxHeartbeats 2000000 in
theorem putNn_any (c u : Nat) (hu : u < 9223372036854775808) (w : World) (hV : VarsAt w) (hc : w.cell? ⟨c, 3, none⟩ = some (.int .i64 u)) :
    Calls Tryz.prog 44 #[.pointer (some ⟨c, 0, none⟩)] w fun e w' => e = .returned (.string ⟨(Lib.decDigits u).toArray⟩) ∧ Below w.heap.size w w' := by
  have H := Lib.hid (number_any u (by omega) w hV.tab)
  have hwr : IntKind.u64.wrap (u : Int) = (u : Int) := by rw [IntKind.wrap_u64]; omega
  clear hV
  go_enter Tryz.func44, Tryz.ntmps44
  go_wp2_with fail
  refine H.out.mono ?_
  rintro e w1 ⟨rfl, hw⟩
  go_wp2_with fail
  go_returns
  exact ⟨rfl, hw⟩
set_option maxRecDepth 100000 in
set_option maxHeartbeats 2000000 in
theorem putB_any (c : Nat) (A : Option Addr) (cp : Nat) (l : List Int) (w : World) (hc : w.cell? ⟨c, 6, none⟩ = some (.slice A l.length cp)) (hr : Kd.C (Kd.int .u8) w A l.length l) (hcp : l.length ≤ cp) (hl : l.length ≤ 100000) (hx : ∀ x ∈ l, 0 ≤ x ∧ x < 256) :
    Calls Tryz.prog 36 #[.pointer (some ⟨c, 0, none⟩)] w fun e w' => e = .returned (.string ⟨(putN l).toArray⟩) ∧ Below w.heap.size w w' := by
  have H := Lib.hid (put_any A cp l w hr hcp hl hx)
  clear hr hx
  go_enter Tryz.func36, Tryz.ntmps36
  go_wp2_with fail
  refine H.out.mono ?_
  rintro e w1 ⟨rfl, hw⟩
  go_wp2_with fail
  go_returns
  exact ⟨rfl, hw⟩
set_option maxRecDepth 100000 in
set_option maxHeartbeats 2000000 in
theorem putFirst_any (c : Nat) (A : Option Addr) (cp : Nat) (l : List Int) (w : World) (hc : w.cell? ⟨c, 4, none⟩ = some (.slice A l.length cp)) (hr : Kd.C (Kd.int .u8) w A l.length l) (hcp : l.length ≤ cp) (hl : l.length ≤ 100000) (hx : ∀ x ∈ l, 0 ≤ x ∧ x < 256) :
    Calls Tryz.prog 40 #[.pointer (some ⟨c, 0, none⟩)] w fun e w' => e = .returned (.string ⟨(putN l).toArray⟩) ∧ Below w.heap.size w w' := by
  have H := Lib.hid (put_any A cp l w hr hcp hl hx)
  clear hr hx
  go_enter Tryz.func40, Tryz.ntmps40
  go_wp2_with fail
  refine H.out.mono ?_
  rintro e w1 ⟨rfl, hw⟩
  go_wp2_with fail
  go_returns
  exact ⟨rfl, hw⟩
set_option maxRecDepth 100000 in
set_option maxHeartbeats 2000000 in
theorem putLast_any (c : Nat) (A : Option Addr) (cp : Nat) (l : List Int) (w : World) (hc : w.cell? ⟨c, 5, none⟩ = some (.slice A l.length cp)) (hr : Kd.C (Kd.int .u8) w A l.length l) (hcp : l.length ≤ cp) (hl : l.length ≤ 100000) (hx : ∀ x ∈ l, 0 ≤ x ∧ x < 256) :
    Calls Tryz.prog 42 #[.pointer (some ⟨c, 0, none⟩)] w fun e w' => e = .returned (.string ⟨(putN l).toArray⟩) ∧ Below w.heap.size w w' := by
  have H := Lib.hid (put_any A cp l w hr hcp hl hx)
  clear hr hx
  go_enter Tryz.func42, Tryz.ntmps42
  go_wp2_with fail
  refine H.out.mono ?_
  rintro e w1 ⟨rfl, hw⟩
  go_wp2_with fail
  go_returns
  exact ⟨rfl, hw⟩
set_option maxRecDepth 100000 in
set_option maxHeartbeats 2000000 in
theorem putHi_any (c u : Nat) (hu : u < 18446744073709551616) (w : World) (hV : VarsAt w) (hc : w.cell? ⟨c, 7, none⟩ = some (.int .u64 u)) :
    Calls Tryz.prog 46 #[.pointer (some ⟨c, 0, none⟩)] w fun e w' => e = .returned (.string ⟨(Lib.decDigits u).toArray⟩) ∧ Below w.heap.size w w' := by
  have H := Lib.hid (number_any u hu w hV.tab)
  clear hV
  go_enter Tryz.func46, Tryz.ntmps46
  go_wp2_with fail
  refine H.out.mono ?_
  rintro e w1 ⟨rfl, hw⟩
  go_wp2_with fail
  go_returns
  exact ⟨rfl, hw⟩
set_option maxRecDepth 100000 in
set_option maxHeartbeats 2000000 in
theorem putLo_any (c u : Nat) (hu : u < 18446744073709551616) (w : World) (hV : VarsAt w) (hc : w.cell? ⟨c, 8, none⟩ = some (.int .u64 u)) :
    Calls Tryz.prog 48 #[.pointer (some ⟨c, 0, none⟩)] w fun e w' => e = .returned (.string ⟨(Lib.decDigits u).toArray⟩) ∧ Below w.heap.size w w' := by
  have H := Lib.hid (number_any u hu w hV.tab)
  clear hV
  go_enter Tryz.func48, Tryz.ntmps48
  go_wp2_with fail
  refine H.out.mono ?_
  rintro e w1 ⟨rfl, hw⟩
  go_wp2_with fail
  go_returns
  exact ⟨rfl, hw⟩
end Go.Proofs.YtgfncnnidacllaaGreatDoor
