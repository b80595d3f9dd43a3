/- Lemmas for the claim, parts put together: strconv.FormatUint at base 10 and hex.Number: the decimal numeral, for every uint64; hex.Of: a word is a number where it is the number's own decimal numeral. -/
import Derived.Test.YtgfncnnidacllaaGreatDoorJA
import Derived.Test.YtgfncnnidacllaaGreatDoorJB
import Derived.Lib.ItoaMem
import Derived.Laws.IdiomStrings
import Derived.BigCall
import Derived.BigGuard
import Derived.Lib.SmallJoins
set_option linter.unusedVariables false
set_option linter.unusedSimpArgs false
namespace Go.Proofs.YtgfncnnidacllaaGreatDoor
open Go.RowKit Go.Sort
theorem holds_zero0 (w : World) (T : TypeId) (nd : Nat) (hs : nd ≤ 24) : Holds (fun (b : UInt8) => Value.int .u8 (b.toNat : Int)) (w.alloc (.cells Lib.zeros24 T)) w.heap.size 0 (Array.replicate nd (0 : UInt8)) := fun j hj => by
  have hj' : j < nd := by simpa using hj
  refine ⟨?_, World.frozen?_alloc_new _ _ _ _⟩
  rw [World.cell?_alloc_new, Nat.zero_add, Lib.zeros24_at j (by omega)]
  rw [getElem!_pos _ j hj, Array.getElem_replicate]
  rfl
theorem below_putRow {B : Nat} {w : World} {b : Nat} (hb : B ≤ b) (off : Nat) (dk : Array UInt8) : Below B w (putRow (fun (b : UInt8) => Value.int .u8 (b.toNat : Int)) w b off dk) := by
  unfold putRow mapBlock
  refine ⟨rfl, rfl, rfl, Nat.le_of_eq (by simp), fun k hk => ?_⟩
  simp only []
  rw [Array.getElem?_modify, if_neg (by omega)]
set_option maxRecDepth 100000 in
set_option maxHeartbeats 6400000 in
theorem fmtuint_any (u : Nat) (hu64 : u < 18446744073709551616) (w : World) (htab : Lib.TabIs Tryz.prog w "internal/strconv.uint64pow10" .u64 Lib.pow10Tab) :
    Calls Tryz.prog 79 #[.int .u64 u, .int .i64 10] w fun e w' => e = .returned (.string ⟨(Lib.decDigits u).toArray⟩) ∧ Below w.heap.size w w' := by
  by_cases hs : u < 100
  · have hw : IntKind.i64.wrap (u : Int) = (u : Int) := by rw [IntKind.wrap_i64]; omega
    go_enter Tryz.func79, Tryz.ntmps79
    go_wp2_with fail
    refine (Tryz.internal_strconv_small u hs _).mono ?_
    rintro e w' ⟨rfl, rfl⟩
    go_wp2_with fail
    go_returns
    exact ⟨by rfl, Below.refl _ _⟩
  · have hu1 : 1 ≤ u := by omega
    have hnd20 : Lib.nDigits u ≤ 20 := by have := Lib.numDigits_eq u hu1 hu64; split at this <;> omega
    have hb3 : Lib.nDigits u ≤ 24 := by omega
    have hal : Tryz.prog.arrayLen 115 = 24 := by kernel_rfl
    have hsl : ∀ W, (Instr.sliceAt 115 (.pointer (some ⟨w.heap.size, 0, none⟩)) none (some (.int .i64 (Lib.nDigits u : Int))) none).run Tryz.prog W = .ok (.slice (some ⟨w.heap.size, 0, none⟩) (Lib.nDigits u) 24) W := fun W => by
      rw [run_sliceAt_array_h W 115 ⟨w.heap.size, 0, none⟩ Tryz.underlying115 .i64 (Lib.nDigits u : Int) (by omega) (by rw [hal]; omega)]
      go_simp
      try omega
    have hH0 := holds_zero0 w 115 (Lib.nDigits u) (by omega)
    have hfmt := Tryz.internal_strconv_formatBase10 w.heap.size 0 24 u (Array.replicate (Lib.nDigits u) 0) (w.alloc (.cells Lib.zeros24 115)) hH0 (by rw [Array.size_replicate]; exact Lib.lt_pow_nDigits u) hu64 (by rw [Array.size_replicate]; omega)
    rw [Array.size_replicate] at hfmt
    have HH0 := Lib.hid hH0
    clear hH0 hal
    go_enter Tryz.func79, Tryz.ntmps79
    go_wp2_with fail
    refine (Tryz.internal_strconv_numDigits u hu1 hu64 _ (Lib.tabIs_alloc htab _)).mono ?_
    rintro e w' ⟨rfl, rfl⟩
    go_wp2_with fail
    refine hfmt.mono ?_
    rintro e w' ⟨rfl, k, v', dk, rfl, hF⟩
    have hcv : (convert 23 9 (.slice (some ⟨w.heap.size, 0, none⟩) (Lib.nDigits u) 24)).run Tryz.prog ((putRow (fun (b : UInt8) => Value.int .u8 (b.toNat : Int)) (w.alloc (.cells Lib.zeros24 115)) w.heap.size 0 dk).drewN k) = .ok (.string ⟨(Lib.decDigits u).toArray⟩) ((putRow (fun (b : UInt8) => Value.int .u8 (b.toNat : Int)) (w.alloc (.cells Lib.zeros24 115)) w.heap.size 0 dk).drewN k) := by
      have h := run_convert_bytes_back (P := Tryz.prog) ((putRow (fun (b : UInt8) => Value.int .u8 (b.toNat : Int)) (w.alloc (.cells Lib.zeros24 115)) w.heap.size 0 dk).drewN k) 23 9 5 ⟨w.heap.size, 0, none⟩ 24 (Lib.decDigits u) Tryz.underlying23 Tryz.underlying5 Tryz.underlying9 (fun j hj => by
        rw [Lib.row_is_numeral hF j hj, Lib.add_plain, World.cell?_drewN]
        exact cell?_putRow (fun (b : UInt8) => Value.int .u8 (b.toNat : Int)) _ w.heap.size 0 _ dk HH0.out (by rw [hF.size, Array.size_replicate]) j (by rw [hF.size]; rw [Lib.decDigits_length] at hj; exact hj))
      rw [Lib.decDigits_length] at h
      exact h
    go_wp2_with fail
    go_returns
    exact ⟨rfl, below_drewN (Below.trans ((Below.refl _ _).alloc (Nat.le_refl _) _) (below_putRow (Nat.le_refl _) _ _)) _⟩
set_option maxRecDepth 100000 in
set_option maxHeartbeats 2000000 in
theorem number_any (u : Nat) (hu64 : u < 18446744073709551616) (w : World) (htab : Lib.TabIs Tryz.prog w "internal/strconv.uint64pow10" .u64 Lib.pow10Tab) :
    Calls Tryz.prog 56 #[.int .u64 u] w fun e w' => e = .returned (.string ⟨(Lib.decDigits u).toArray⟩) ∧ Below w.heap.size w w' := by
  have h67 : Calls Tryz.prog 67 #[.int .u64 u, .int .i64 10] w fun e w' => e = .returned (.string ⟨(Lib.decDigits u).toArray⟩) ∧ Below w.heap.size w w' := by
    go_enter Tryz.func67, Tryz.ntmps67
    go_wp2_with fail
    refine (fmtuint_any u hu64 w htab).mono ?_
    rintro e w' ⟨rfl, hw⟩
    go_wp2_with fail
    go_returns
    exact ⟨rfl, hw⟩
  have H := Lib.hid h67
  clear h67
  go_enter Tryz.func56, Tryz.ntmps56
  go_wp2_with fail
  refine H.out.mono ?_
  rintro e w' ⟨rfl, hw⟩
  go_wp2_with fail
  go_returns
  exact ⟨rfl, hw⟩
end Go.Proofs.YtgfncnnidacllaaGreatDoor
namespace Go.Proofs.YtgfncnnidacllaaGreatDoor
open Go.RowKit
structure VarsAt (w : World) : Prop where
  syn : ∃ ev, w.cell? ⟨5, 0, none⟩ = some ev ∧ (ev = .nilIface ∨ ∃ te pe, ev = .iface te pe)
  ran : ∃ ev, w.cell? ⟨6, 0, none⟩ = some ev ∧ (ev = .nilIface ∨ ∃ te pe, ev = .iface te pe)
  max : ∃ m, w.cell? ⟨1, 0, none⟩ = some (.int .i64 m)
  tab : Lib.TabIs Tryz.prog w "internal/strconv.uint64pow10" .u64 Lib.pow10Tab
  ent : Ents w
theorem VarsAt.call {w w1 : World} (hb : Below w.heap.size w w1) (h : VarsAt w) : VarsAt w1 where
  syn := let ⟨ev, h1, h2⟩ := h.syn; ⟨ev, (hb.cell (World.block_lt_of_cell? w _ h1)).trans h1, h2⟩
  ran := let ⟨ev, h1, h2⟩ := h.ran; ⟨ev, (hb.cell (World.block_lt_of_cell? w _ h1)).trans h1, h2⟩
  max := let ⟨m, h1⟩ := h.max; ⟨m, (hb.cell (World.block_lt_of_cell? w _ h1)).trans h1⟩
  ent := h.ent.below hb
  tab := by
    have h1 := h.tab
    unfold Lib.TabIs World.var? at h1 ⊢
    cases hg : Tryz.prog.globalNamed "internal/strconv.uint64pow10" with
    | none => simp [hg] at h1
    | some g =>
      simp only [hg, Option.bind_some] at h1 ⊢
      have hlt : g < w.heap.size := by
        cases hh : w.heap[g]? with
        | none => simp [hh] at h1
        | some o => exact (Array.getElem?_eq_some_iff.1 hh).1
      rw [hb.block g hlt]
      exact h1
def ofN (l : List UInt8) : Option Nat :=
  match Lib.parseUintB 64 l with
  | .ok u => if Lib.decDigits u = l then some u else none
  | _ => none
theorem parseM_le (M : Nat) : ∀ (l : List UInt8) (acc u : Nat), acc ≤ M → Lib.parseUintM M acc l = .ok u → u ≤ M
  | [], acc, u, h, e => by simp [Lib.parseUintM] at e; omega
  | c :: r, acc, u, h, e => by
    unfold Lib.parseUintM at e
    split at e
    · split at e
      · cases e
      · split at e
        · cases e
        · exact parseM_le M r _ u (by omega) e
    · cases e
theorem parse_lt {l : List UInt8} {u : Nat} (h : Lib.parseUintB 64 l = .ok u) : u < 18446744073709551616 := by
  unfold Lib.parseUintB at h
  split at h
  · cases h
  · have := parseM_le _ _ _ _ (Nat.zero_le _) h
    omega
theorem ba_toList (s : ByteArray) : s.toList = s.data.toList := by
  obtain ⟨⟨l⟩⟩ := s
  exact ByteArray.toList_mk l
def optV (o : Option Nat) : Int := match o with | some u => u | none => 0
set_option maxRecDepth 100000 in
set_option maxHeartbeats 4000000 in
theorem of_any (s : ByteArray) (hlim : s.size ≤ 281474976710656) (w : World) (hV : VarsAt w) :
    Calls Tryz.prog 61 #[.string s] w fun e w' => e = .returned (.tuple #[.int .u64 (optV (ofN s.data.toList)), .bool (ofN s.data.toList).isSome]) ∧ Below w.heap.size w w' := by
  cases hp : Lib.parseUintB 64 s.data.toList with
  | range =>
    have ho : ofN s.data.toList = none := by unfold ofN; rw [hp]
    rw [ho]
    obtain ⟨ev, h1, h2⟩ := hV.ran
    have H := Lib.hid (Tryz.strconv_ParseUint_10_at64_range s hlim hp ev w h1 h2)
    clear hp h1 h2 hV ho
    go_enter Tryz.func61, Tryz.ntmps61
    go_wp2_with fail
    refine H.out.mono ?_
    rintro e w' ⟨N, rfl, _, _, hw⟩
    go_wp2_with fail
    go_returns
    exact ⟨rfl, hw⟩
  | ok u =>
    have hu := parse_lt hp
    have H := Lib.hid (Tryz.strconv_ParseUint_10_at64_ok s (by omega) u hp w)
    by_cases hd : (⟨(Lib.decDigits u).toArray⟩ : ByteArray) = s
    · have ho : ofN s.data.toList = some u := by unfold ofN; rw [hp]; simp only []; rw [if_pos (by rw [← hd])]
      rw [ho]
      have HV := Lib.hid hV
      clear hp ho hV
      go_enter Tryz.func61, Tryz.ntmps61
      go_wp2_with fail
      refine H.out.mono ?_
      rintro e w1 ⟨rfl, hw⟩
      have hB : Below w.heap.size w w1 := by
        rcases hw with rfl | rfl
        · exact Below.refl _ _
        · exact Joins.below_bytesWorld _ _ _ _ (Nat.le_refl _)
      have HN := Lib.hid (number_any u hu w1 (HV.out.call hB).tab)
      clear hw
      go_wp2_with fail
      refine HN.out.mono ?_
      rintro e w2 ⟨rfl, hw2⟩
      have hB2 := below_call hB hw2
      rw [hd]
      clear hw2 hd
      go_wp2_with fail
      go_returns
      exact ⟨rfl, hB2⟩
    · have ho : ofN s.data.toList = none := by
        unfold ofN; rw [hp]; simp only []
        rw [if_neg (fun e => hd (by rw [e]))]
      rw [ho]
      have HV := Lib.hid hV
      clear hp ho hV
      have HD := Lib.hid hd
      clear hd
      go_enter Tryz.func61, Tryz.ntmps61
      go_wp2_with fail
      refine H.out.mono ?_
      rintro e w1 ⟨rfl, hw⟩
      have hB : Below w.heap.size w w1 := by
        rcases hw with rfl | rfl
        · exact Below.refl _ _
        · exact Joins.below_bytesWorld _ _ _ _ (Nat.le_refl _)
      have HN := Lib.hid (number_any u hu w1 (HV.out.call hB).tab)
      clear hw
      go_wp2_with fail
      refine HN.out.mono ?_
      rintro e w2 ⟨rfl, hw2⟩
      have hB2 := below_call hB hw2
      have hd : (Lib.decDigits u == s.toList) = false := by
        rw [beq_eq_false_iff_ne]
        intro e
        rw [ba_toList] at e
        exact HD.out (by rw [e])
      clear hw2
      go_wp2_with fail
      go_returns
      exact ⟨rfl, hB2⟩
  | _ =>
    have ho : ofN s.data.toList = none := by unfold ofN; rw [hp]
    rw [ho]
    obtain ⟨ev, h1, h2⟩ := hV.syn
    have H := Lib.hid (Tryz.strconv_ParseUint_10_at64_syntax s hlim hp ev w h1 h2)
    clear hp h1 h2 hV ho
    go_enter Tryz.func61, Tryz.ntmps61
    go_wp2_with fail
    refine H.out.mono ?_
    rintro e w' ⟨N, rfl, _, _, hw⟩
    go_wp2_with fail
    go_returns
    exact ⟨rfl, hw⟩
end Go.Proofs.YtgfncnnidacllaaGreatDoor
