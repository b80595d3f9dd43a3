/- Lemmas for the claim: what the operations on a desk's map do, as runs. -/
import Derived.Test.YtlbnnlnjdkjppaaGreatDoorDesk
namespace Go.Proofs.YtlbnnlnjdkjppaaGreatDoor
open Go.RowKit

theorem run_len_map {P : Program} {t : TypeId} {kt et : TypeId} (hm : P.underlying t = some (.map kt et)) {w : World} {M : Nat} {es : Array MapEntry} {c : Nat} (hb : w.heap[M]? = some (.map es c)) (ty : TypeId) :
    (Builtin.len_ #[t] ty #[.map (some M)]).run P w = .ok (.int .i64 es.size) w := by
  simp [Builtin.len_, run_underlying hm, MapKept.run_getObj_map hb, Result.andThen, goInt]
theorem run_lookup_none {P : Program} {mty kt et : TypeId} (hm : P.underlying mty = some (.map kt et)) (hk : P.underlying kt = some (.int .i64)) (w : World) (r : Nat) (es : Array MapEntry) (clock : Nat) (hb : w.heap[r]? = some (.map es clock)) (k : Int) (z : Value)
    (hz : (zeroValue et).run P w = .ok z w) (hf : Instr.findNow (.int .i64) (.int .i64 k) es.toList 0 = some none) :
    (Instr.lookup mty (.map (some r)) (.int .i64 k) true).run P w = .ok (.tuple #[z, .bool false]) w := by
  have hc : (Instr.checkKey es.isEmpty 10000 kt (.int .i64 k)).run P w = .ok () w := MapKept.run_checkKey (k := .int .i64 k) hk (by simp [MapKept.IsKey]) _ 9999
  simp [Instr.lookup, run_underlying hm, MapKept.run_getObj_map hb, hc, MapKept.run_findKey hk hf, Result.andThen, hz]
theorem run_push {P : Program} {mty kt et : TypeId} (hm : P.underlying mty = some (.map kt et)) (hk : P.underlying kt = some (.int .i64)) (w : World) (r : Nat) (es : Array MapEntry) (clock : Nat) (hb : w.heap[r]? = some (.map es clock)) (k : Int) (v : Value)
    (hf : Instr.findNow (.int .i64) (.int .i64 k) es.toList 0 = some none) :
    (Instr.mapUpdate mty (.map (some r)) (.int .i64 k) v).run P w = .ok () { w with heap := w.heap.setIfInBounds r (.map (es.push { key := .int .i64 k, val := v, born := clock }) (clock + 1)) } := by
  have hc : (Instr.checkKey false 10000 kt (.int .i64 k)).run P w = .ok () w := MapKept.run_checkKey (k := .int .i64 k) hk (by simp [MapKept.IsKey]) _ 9999
  simp [Instr.mapUpdate, run_underlying hm, MapKept.run_getObj_map hb, hc, MapKept.run_findKey hk hf, Result.andThen, MapKept.run_setObj_map _ hb]
theorem run_delete {P : Program} {mty kt et : TypeId} (hm : P.underlying mty = some (.map kt et)) (hk : P.underlying kt = some (.int .i64)) (w : World) (r : Nat) (es : Array MapEntry) (clock : Nat) (hb : w.heap[r]? = some (.map es clock)) (k : Int) (j : Nat) (v : Value)
    (hf : Instr.findNow (.int .i64) (.int .i64 k) es.toList 0 = some (some (j, v))) (t2 ty : TypeId) :
    (Builtin.delete_ #[mty, t2] ty #[.map (some r), .int .i64 k]).run P w = .ok (.tuple #[]) { w with heap := w.heap.setIfInBounds r (.map (es.eraseIdxIfInBounds j) clock) } := by
  have hc : (Instr.checkKey es.isEmpty 10000 kt (.int .i64 k)).run P w = .ok () w := MapKept.run_checkKey (k := .int .i64 k) hk (by simp [MapKept.IsKey]) _ 9999
  simp [Builtin.delete_, run_underlying hm, MapKept.run_getObj_map hb, hc, MapKept.run_findKey hk hf, Result.andThen, MapKept.run_setObj_map _ hb]

theorem Ments.rest {w w' : World} {p M : Nat} {a : Option Int} {cs : Array Value} {es : Array MapEntry} {c : Nat} {l : List MapEntry} {ks : List Int} (hp : w.heap[p]? = some (.cells cs 36 (0, 0))) (hM : w.heap[M]? = some (.map es c)) (hr : Rest p M w w') (h : Ments a w l ks) : Ments a w' l ks :=
  ⟨h.1, fun x hx => let ⟨q, h1, h2⟩ := h.2 x hx; ⟨q, h1, Val.rest hp hM hr h2⟩⟩

theorem ments_push {a : Option Int} {w : World} {es : Array MapEntry} {ks : List Int} (h : Ments a w es.toList ks) (k : Int) (q c : Nat) (hv : Val a w q) : Ments a w (es.push { key := .int .i64 k, val := .pointer (some ⟨q, 0, none⟩), born := c }).toList (ks ++ [k]) := by
  refine ⟨by simp [h.1], fun x hx => ?_⟩
  simp only [Array.toList_push, List.mem_append, List.mem_singleton] at hx
  rcases hx with hx | rfl
  · exact h.2 x hx
  · exact ⟨q, rfl, hv⟩
theorem map_erase {α β : Type} (f : α → β) : ∀ (l : List α) (j : Nat), (l.eraseIdx j).map f = (l.map f).eraseIdx j
  | [], _ => rfl
  | _ :: _, 0 => rfl
  | x :: l, j + 1 => congrArg (f x :: ·) (map_erase f l j)
theorem ments_erase {a : Option Int} {w : World} {es : Array MapEntry} {ks : List Int} (h : Ments a w es.toList ks) (j : Nat) : Ments a w (es.eraseIdxIfInBounds j).toList (ks.eraseIdx j) := by
  have hs : (es.eraseIdxIfInBounds j).toList = es.toList.eraseIdx j := by
    unfold Array.eraseIdxIfInBounds
    split
    · simp
    · rename_i hlt
      rw [List.eraseIdx_of_length_le]
      simpa using hlt
  rw [hs]
  refine ⟨by rw [map_erase, h.1, map_erase], fun x hx => h.2 x (List.mem_of_mem_eraseIdx hx)⟩

set_option maxRecDepth 100000 in
/-- The next number is laid: first the number, then the hasher. -/
theorem put_lays {B : Nat} {a : Option Int} {w : World} {p M : Nat} {es : Array MapEntry} {c : Nat} {ks : List Int} {last : Int} (hBp : B ≤ p ∧ B ≤ M) (hp : w.heap[p]? = some (.cells #[.map (some M), .int .i64 last] 36 (0, 0))) (hM : w.heap[M]? = some (.map es c)) (h : Ments a w es.toList ks)
    (hE : Ents w) (q : Nat) (hv : Val a w q) (hk : last + 1 ∉ ks) :
    ∃ w2, (Instr.mapUpdate 34 (.map (some M)) (.int .i64 (last + 1)) (.pointer (some ⟨q, 0, none⟩))).run Tryz.prog (w.setCell ⟨p, 1, none⟩ (.int .i64 (last + 1))).drew = .ok () w2 ∧
      w2.cell? ⟨p, 1, none⟩ = some (.int .i64 (last + 1)) ∧ DeskAt B a w2 p (ks ++ [last + 1]) (last + 1) ∧ Ents w2 ∧ Below B w w2 := by
  have hne : M ≠ p := by rintro rfl; rw [hp] at hM; simp at hM
  have hp1 := blk_set hp 1 (.int .i64 (last + 1))
  have hM1 : (w.setCell ⟨p, 1, none⟩ (.int .i64 (last + 1))).heap[M]? = some (.map es c) := (old_set w p 1 _ M hne).trans hM
  have hs := MapKept.heap_set (o' := .map (es.push { key := .int .i64 (last + 1), val := .pointer (some ⟨q, 0, none⟩), born := c }) (c + 1)) hM1
  refine ⟨_, run_push Tryz.underlying34 Tryz.underlying3 (w.setCell ⟨p, 1, none⟩ (.int .i64 (last + 1))).drew M es c hM1 (last + 1) _ (find_none h hk), ?_⟩
  have hr : Rest p M w { (w.setCell ⟨p, 1, none⟩ (.int .i64 (last + 1))).drew with heap := (w.setCell ⟨p, 1, none⟩ (.int .i64 (last + 1))).drew.heap.setIfInBounds M (.map (es.push { key := .int .i64 (last + 1), val := .pointer (some ⟨q, 0, none⟩), born := c }) (c + 1)) } := by
    intro k o h1 h2 h3
    exact (hs.2 k h2).trans ((old_set w p 1 _ k h1).trans h3)
  have hp2 := (hs.2 p (Ne.symm hne)).trans hp1
  have hp3 : _ = some (Obj.cells #[.map (some M), .int .i64 (last + 1)] 36 (0, 0)) := hp2.trans rfl
  refine ⟨(blk_cell (i := 1) (w := { (w.setCell ⟨p, 1, none⟩ (.int .i64 (last + 1))).drew with heap := _ }) hp3).trans rfl, ⟨M, _, c + 1, hBp, hp3, hs.1, Ments.rest hp hM hr (ments_push h (last + 1) q c hv)⟩, Ents.rest hp hM hr hE, ⟨rfl, rfl, rfl, by simp [World.setCell, World.drew], fun k hk => (hs.2 k (by omega)).trans (old_set w p 1 _ k (by omega))⟩⟩
set_option maxRecDepth 100000 in
theorem drop_does {B : Nat} {a : Option Int} {w : World} {p M : Nat} {es : Array MapEntry} {c : Nat} {ks : List Int} {last : Int} (hBp : B ≤ p ∧ B ≤ M) (hp : w.heap[p]? = some (.cells #[.map (some M), .int .i64 last] 36 (0, 0))) (hM : w.heap[M]? = some (.map es c)) (h : Ments a w es.toList ks)
    (hE : Ents w) (k : Int) (hk : k ∈ ks) :
    ∃ w2 j, (∀ ty, (Builtin.delete_ #[34, 3] ty #[.map (some M), .int .i64 k]).run Tryz.prog w.drew = .ok (.tuple #[]) w2) ∧ ks[j]? = some k ∧ DeskAt B a w2 p (ks.eraseIdx j) last ∧ Ents w2 ∧ Below B w w2 := by
  have hne : M ≠ p := by rintro rfl; rw [hp] at hM; simp at hM
  obtain ⟨j, q, hf, _, hj⟩ := find_some h hk
  have hs := MapKept.heap_set (o' := .map (es.eraseIdxIfInBounds j) c) hM
  refine ⟨_, j, fun ty => run_delete Tryz.underlying34 Tryz.underlying3 w.drew M es c hM k j _ hf _ ty, hj, ?_⟩
  have hr : Rest p M w { w.drew with heap := w.drew.heap.setIfInBounds M (.map (es.eraseIdxIfInBounds j) c) } := by
    intro k o h1 h2 h3
    exact (hs.2 k h2).trans h3
  exact ⟨⟨M, _, c, hBp, (hs.2 p (Ne.symm hne)).trans hp, hs.1, Ments.rest hp hM hr (ments_erase h j)⟩, Ents.rest hp hM hr hE, ⟨rfl, rfl, rfl, Nat.le_of_eq (Array.size_setIfInBounds ..).symm, fun k hk => hs.2 k (by omega)⟩⟩
end Go.Proofs.YtlbnnlnjdkjppaaGreatDoor
