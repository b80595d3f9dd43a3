/- Lemmas for the claim, parts put together: (*strings.Builder).copyCheck and WriteByte at this dump; hex.Put: the bytes in lower-case hexadecimal digits, '-' for none. -/
import Derived.Test.YtgfncnnidacllaaGreatDoorJC
import Derived.Test.YtgfncnnidacllaaGreatDoorWMore
set_option linter.unusedVariables false
set_option linter.unusedSimpArgs false
namespace Go.Proofs.YtgfncnnidacllaaGreatDoor
open Go.RowKit
theorem bInfo : (Tryz.prog.info? 78).map (fun i => (i.bytes, i.size)) = some (32, 2) := by kernel_rfl
theorem byInfo : (Tryz.prog.info? 5).map (fun i => (i.zero, i.size, i.bytes)) = some (some (.int .u8 0), 1, 1) := by kernel_rfl
set_option maxHeartbeats 2000000 in
set_option maxRecDepth 100000 in
theorem ccheck_any (B b : Nat) (bs : List Value) (w : World) (h : Lib.IsBuilder 78 5 B b bs w) :
    Calls Tryz.prog 62 #[.pointer (some ⟨b, 0, none⟩)] w fun e w' => e = .returned (.tuple #[]) ∧ (Lib.BuilderAt 78 5 B b (.pointer (some ⟨b, 0, none⟩)) bs w' ∧ Below B w w') := by
  obtain ⟨j, hj, hjs⟩ := Option.map_eq_some_iff.1 bInfo
  have hj2 : j.size = 2 := by have := congrArg Prod.snd hjs; simpa using this
  rcases h with h | h
  · have h0 := h.cell0
    have hsh := h.shape
    have hfz := h.frozen0
    have HU := Lib.hid (h.used (.pointer (some ⟨b, 0, none⟩)))
    have hB := h.1
    have c1 := Lib.run_to_unsafe w ⟨b, 0, none⟩ Tryz.underlying76 Tryz.underlying105 hj (by rw [hj2]; decide) hsh (Nat.zero_lt_succ 1)
    have c2 := Lib.run_from_unsafe w ⟨b, 0, none⟩ Tryz.underlying105 Tryz.underlying76 hj hsh (by kernel_rfl)
    have ne : ∀ (x : Value) (w : World), (callFunc 73 #[x]).run Tryz.prog w = .ok (.value x) w := fun x w => by
      rw [run_callFunc_extern Tryz.func73 (by kernel_rfl) (by kernel_rfl) (by kernel_rfl) (e := Extern.AbiNoEscape.same) (by kernel_rfl), Lib.run_noEscape]
      rfl
    clear h hsh
    go_enter Tryz.func62, Tryz.ntmps62
    go_wp2_with fail
    go_returns
    exact ⟨rfl, HU.out, (Below.refl B w).setCell (p := ⟨b, 0, none⟩) hB _⟩
  · have h0 := h.cell0
    have HU := Lib.hid h
    have c1 := Lib.run_neq_ptr_same w ⟨b, 0, none⟩ Tryz.underlying76 hj
    clear h
    go_enter Tryz.func62, Tryz.ntmps62
    go_wp2_with fail
    go_returns
    exact ⟨rfl, HU.out, Below.refl B _⟩
set_option maxHeartbeats 4000000 in
set_option maxRecDepth 100000 in
theorem wbyte_any (B b : Nat) (bs : List Value) (c : Int) (w : World) (h : Lib.IsBuilder 78 5 B b bs w) (hlen : bs.length + 1 ≤ 140737488355328) (hBw : B ≤ w.heap.size) :
    Calls Tryz.prog 69 #[.pointer (some ⟨b, 0, none⟩), .int .u8 c] w fun e w' => e = .returned .nilIface ∧ (Lib.BuilderAt 78 5 B b (.pointer (some ⟨b, 0, none⟩)) (bs ++ [.int .u8 c]) w' ∧ Below B w w') := by
  obtain ⟨i0, hi, hz0, hz1, hz2⟩ := info_parts byInfo
  have HC := Lib.hid (ccheck_any B b bs w h)
  clear h
  go_enter Tryz.func69, Tryz.ntmps69
  go_wp2_with fail
  refine HC.out.mono ?_
  rintro e w1 ⟨rfl, ⟨hB, v, hbk, hown, hne⟩, hb1⟩
  have k0 : w1.cell? ⟨b, 0, none⟩ = some (.pointer (some ⟨b, 0, none⟩)) := (blk_cell hbk 0).trans rfl
  have k1 : w1.cell? ⟨b, 1, none⟩ = some v := (blk_cell hbk 1).trans rfl
  have hs1 : B ≤ w1.heap.size := Nat.le_trans hBw hb1.size
  go_wp2_with (first | (at_builtin; refine wpList_append_own _ (by rfl) (.tmp 11) (.tmp 13) 23 (by rfl) B 5 i0 (.int .u8 0) 1 1 Tryz.underlying23 hi hz0 hz1 hz2 rfl (by decide) _ _ _ (by rfl) (hown.alloc _) ⟨w1.heap.size, 0, none⟩ 1 1 [.int .u8 c] (by rfl) rfl (one_news _ _ _) (by simp [Value.oneCell']) (by unfold maxLen; omega) (by omega) (by simp; omega) ?_))
  intro v' w2 hown' hgrow _
  have hlt : b < w1.heap.size := blk_lt hbk
  have hb2 : w2.heap[b]? = some (.cells #[.pointer (some ⟨b, 0, none⟩), v] 78 (0, 0)) :=
    (hgrow.block b (by simp; omega) (fun e => hne e.symm)).trans (blk_alloc hbk)
  have d0 : w2.cell? ⟨b, 0, none⟩ = some (.pointer (some ⟨b, 0, none⟩)) := (blk_cell hb2 0).trans rfl
  have d1 : w2.cell? ⟨b, 1, none⟩ = some v := (blk_cell hb2 1).trans rfl
  have f1 : w2.frozen? ⟨b, 1, none⟩ = false := blk_frozen hb2 1
  obtain ⟨g, cap, rfl⟩ : ∃ g cap, v' = .slice (some ⟨g, 0, none⟩) (bs.length + 1) cap := by
    rcases hown'.2 with ⟨_, h0⟩ | ⟨g, cap, cur, hv, _⟩
    · omega
    · exact ⟨g, cap, hv⟩
  go_wp2_with fail
  go_returns
  refine ⟨rfl, ?_, ?_⟩
  · exact Lib.BuilderAt.put (T := 78) (e := 5) hB hb2 (bs' := bs ++ [.int .u8 c]) (by simpa using hown') (by decide)
  · exact ((hb1.alloc hs1 _).grown hgrow (by simp; omega) (fun k hk => (hown.lt k hk).1)).setCell (p := ⟨b, 1, none⟩) hB _
end Go.Proofs.YtgfncnnidacllaaGreatDoor
namespace Go.Proofs.YtgfncnnidacllaaGreatDoor
open Go.RowKit Go.Proofs.YtgfncnnidacllaaGreatDoorW.PrintWords Go.Proofs.YtgfncnnidacllaaGreatDoorW.PrintLast Go.Proofs.YtgfncnnidacllaaGreatDoorW.PrintMore
def hexD (n : Nat) : UInt8 := if n < 10 then UInt8.ofNat (48 + n) else UInt8.ofNat (87 + n)
def putB (l : List Int) : List UInt8 := l.flatMap fun x => [hexD (x.toNat / 16), hexD (x.toNat % 16)]
def putN (l : List Int) : List UInt8 := if l = [] then [45] else putB l
theorem dig_at (i : Nat) (h : i < (⟨#[48, 49, 50, 51, 52, 53, 54, 55, 56, 57, 97, 98, 99, 100, 101, 102]⟩ : ByteArray).size) : (⟨#[48, 49, 50, 51, 52, 53, 54, 55, 56, 57, 97, 98, 99, 100, 101, 102]⟩ : ByteArray)[i] = hexD i := by
  have h16 : i < 16 := h
  rcases i with _ | _ | _ | _ | _ | _ | _ | _ | _ | _ | _ | _ | _ | _ | _ | _ | i
  all_goals first | rfl | omega
theorem putB_length : ∀ l : List Int, (putB l).length = 2 * l.length
  | [] => rfl
  | x :: l => by
    have := putB_length l
    simp only [putB, List.flatMap_cons, List.length_append, List.length_cons, List.length_nil] at this ⊢
    omega
theorem putB_take {l : List Int} {k : Nat} {x : Int} (hx : l[k]? = some x) : putB (l.take (k + 1)) = putB (l.take k) ++ [hexD (x.toNat / 16), hexD (x.toNat % 16)] := by
  have hlt := (List.getElem?_eq_some_iff.1 hx).1
  have he := (List.getElem?_eq_some_iff.1 hx).2
  rw [List.take_succ_eq_append_getElem hlt, he]
  simp [putB, List.flatMap_append]
set_option maxHeartbeats 4000000 in
set_option maxRecDepth 100000 in
theorem put_any (A : Option Addr) (c : Nat) (l : List Int) (w : World) (hr : Kd.C (Kd.int .u8) w A l.length l) (hc : l.length ≤ c) (hl : l.length ≤ 100000) (hx : ∀ x ∈ l, 0 ≤ x ∧ x < 256) :
    Calls Tryz.prog 58 #[.slice A l.length c] w fun e w' => e = .returned (.string ⟨(putN l).toArray⟩) ∧ Below w.heap.size w w' := by
  by_cases h0 : l = []
  · subst h0
    go_enter Tryz.func58, Tryz.ntmps58
    go_wp2_with fail
    go_returns
    exact ⟨rfl, Below.refl _ _⟩
  · have hn : ((l.length : Int) == 0) = false := by
      rw [beq_eq_false_iff_ne]
      intro e
      exact h0 (List.length_eq_zero_iff.1 (by omega))
    have hp : putN l = putB l := by rw [putN, if_neg h0]
    rw [hp]
    have HR := Lib.hid hr
    have HX := Lib.hid hx
    clear hr hx hp
    go_enter Tryz.func58, Tryz.ntmps58
    go_wp2_with fail
    go_loopw [11] (fun i wr => ∃ k : Nat, k ≤ l.length ∧ i = .int .i64 k ∧ Lib.IsBuilder 78 5 w.heap.size w.heap.size (Lib.byteCells (putB (l.take k))) wr ∧ Below w.heap.size w wr) (fun i _ => l.length - (intOf i).toNat)
    case atStart =>
      exact ⟨0, by omega, rfl, .inl ⟨Nat.le_refl _, .slice none 0 0, blk_new _ _ _ rfl, by simpa [putB, Lib.byteCells] using World.ownsRow_nil _ _ _ 1, by simp [Value.ownBlock]⟩, by repeat' (first | (with_reducible exact Below.refl _ _) | (with_reducible assumption) | (with_reducible refine below_drewN ?_ _) | (with_reducible refine Below.drew ?_) | (with_reducible refine Below.alloc ?_ ?_ _) | (with_reducible refine Below.setCell ?_ ?_ _) | go_size)⟩
    case round =>
      obtain ⟨k, hk, rfl, hI, hB⟩ := hrel
      have HI := Lib.hid hI
      clear hI
      by_cases hlt : k < l.length
      · obtain ⟨ad, e1, hcell⟩ := Kd.at_int HR.out (k : Int) (by omega) (by omega)
        subst e1
        have hcw := (hB.cell (World.block_lt_of_cell? w _ hcell)).trans hcell
        rw [Int.toNat_natCast] at hcw
        obtain ⟨x, hx⟩ : ∃ x, l[k]? = some x := ⟨l[k], List.getElem?_eq_getElem hlt⟩
        have hrd : rd l (k : Int) = x := by simp [rd, hx]
        rw [hrd] at hcw
        have hxr := HX.out x (List.mem_of_getElem? hx)
        have hcell0 := hcell
        clear hcell hrd
        have hlen : (Lib.byteCells (putB (l.take k))).length = 2 * k := by rw [Lib.byteCells_length, putB_length, List.length_take]; omega
        have hsz := hB.size
        go_wp2_with fail
        refine (wbyte_any w.heap.size w.heap.size _ _ wr HI.out (by rw [hlen]; omega) hsz).mono ?_
        rintro e w2 ⟨rfl, hA2, hb2⟩
        have hB2 := hB.trans hb2
        have hcw2 : w2.cell? (ad.add k) = some (.int .u8 x) := by
          exact (hb2.cell (p := ad.add k) (by
            have := World.block_lt_of_cell? w _ hcell0
            exact this)).trans hcw
        have HA2 := Lib.hid hA2
        clear hA2
        go_wp2_with fail
        refine (wbyte_any w.heap.size w.heap.size _ _ w2 (.inr HA2.out) (by rw [List.length_append, hlen, List.length_singleton]; omega) hB2.size).mono ?_
        rintro e w3 ⟨rfl, hA3, hb3⟩
        have hB3 := hB2.trans hb3
        have HA3 := Lib.hid hA3
        clear hA3
        go_wp2_with fail
        have hfin : Lib.IsBuilder 78 5 w.heap.size w.heap.size (Lib.byteCells (putB (l.take (k + 1)))) w3 := by
          have hA3 := HA3.out
          rw [dig_at, dig_at] at hA3
          rw [putB_take hx]
          have h1 : (x / 16).toNat = x.toNat / 16 := by omega
          have h2 : (x % 16).toNat = x.toNat % 16 := by omega
          rw [h1, h2] at hA3
          refine .inr ?_
          simpa [Lib.byteCells] using hA3
        have HF := Lib.hid hfin
        clear hfin
        go_roundw
        case rel => exact ⟨k + 1, by omega, by go_num, HF.out, hB3⟩
        case measure => simp [intOf]; omega
      · have hk' : k = l.length := by omega
        subst hk'
        go_wp2_with fail
        have hI := HI.out
        rw [List.take_length] at hI
        refine (Tryz.Builder_String_any w.heap.size w.heap.size _ wr hI hB.size).mono ?_
        rintro e w2 ⟨rfl, hw2⟩
        have hB2 := hB.trans hw2
        go_wp2_with fail
        go_returns
        exact ⟨rfl, hB2⟩
end Go.Proofs.YtgfncnnidacllaaGreatDoor
