/- Lemmas for the claim, parts put together: small facts on worlds that every walk of this seat uses; package alg: what the table of algorithms says, for every number. -/
import Derived.Test.YtgfncnnidacllaaGreatDoorProg
import Derived.WalkKit
import Derived.WalkSpells
import Derived.WalkLawsBesides
import Derived.WalkSmall
import Derived.MapKept
import Derived.Laws.EntriesVeiled
import Derived.WideMake
import Derived.Handy
import Derived.Laws.Externs
import Derived.Lib.Hide
import Derived.Laws.Rows
import Derived.Laws.Tables
import Derived.KernelRfl
import Derived.Deep.RegionHeld3
import Derived.Deep.DeepCutAuto
import Derived.Deep.QuietTactic
import Derived.BigQuiet
set_option linter.unusedVariables false
set_option linter.unusedSimpArgs false
namespace Go.Proofs.YtgfncnnidacllaaGreatDoor
open Go.RowKit
theorem bcell {W w1 : World} (hb : Below W.heap.size W w1) : (∀ b o, b < W.heap.size → w1.cell? ⟨b, o, none⟩ = W.cell? ⟨b, o, none⟩) ∧ (∀ b o, b < W.heap.size → w1.frozen? ⟨b, o, none⟩ = W.frozen? ⟨b, o, none⟩) :=
  ⟨fun b o h => hb.cell (p := ⟨b, o, none⟩) h, fun b o h => hb.frozen (p := ⟨b, o, none⟩) h⟩
theorem below_call {w W w1 : World} (h : Below w.heap.size w W) (hb : Below W.heap.size W w1) : Below w.heap.size w w1 := h.trans (hb.mono h.size)
theorem below_setRow {B : Nat} {a w : World} (h : Below B a w) {g : Nat} (hg : B ≤ g) (cs : Array Value) : Below B a (w.setRow g cs) :=
  h.trans ⟨rfl, rfl, rfl, by simp [World.setRow], fun k hk => setRow_other w g k cs (by omega)⟩
theorem size_setRow (w : World) (g : Nat) (cs : Array Value) : (w.setRow g cs).heap.size = w.heap.size := by simp [World.setRow]
theorem blk_cell {w : World} {b : Nat} {cs : Array Value} {t : TypeId} (h : w.heap[b]? = some (.cells cs t (0, 0))) (i : Nat) : w.cell? ⟨b, i, none⟩ = cs[i]? := cell_of_row w b i cs t (0, 0) h
theorem blk_frozen {w : World} {b : Nat} {cs : Array Value} {t : TypeId} (h : w.heap[b]? = some (.cells cs t (0, 0))) (i : Nat) : w.frozen? ⟨b, i, none⟩ = false := by simp [World.frozen?, h]
theorem blk_set {w : World} {b : Nat} {cs : Array Value} {t : TypeId} (h : w.heap[b]? = some (.cells cs t (0, 0))) (i : Nat) (v : Value) : (w.setCell ⟨b, i, none⟩ v).heap[b]? = some (.cells (cs.setIfInBounds i v) t (0, 0)) := by
  rw [setCell_eq_setRow w b i cs t (0, 0) v h, setRow_heap w b cs _ t (0, 0) h]
theorem old_set (w : World) (b i : Nat) (v : Value) (k : Nat) (h : k ≠ b) : (w.setCell ⟨b, i, none⟩ v).heap[k]? = w.heap[k]? := Below.heap_setCell w ⟨b, i, none⟩ v k h
theorem size_set (w : World) (p : Addr) (v : Value) : (w.setCell p v).heap.size = w.heap.size := by simp [World.setCell]
theorem set_os (w : World) (p : Addr) (v : Value) : (w.setCell p v).os = w.os := rfl
theorem set_tape (w : World) (p : Addr) (v : Value) : (w.setCell p v).tape = w.tape := rfl
theorem set_output (w : World) (p : Addr) (v : Value) : (w.setCell p v).output = w.output := rfl
theorem alloc_os (w : World) (o : Obj) : (w.alloc o).os = w.os := rfl
theorem alloc_tape (w : World) (o : Obj) : (w.alloc o).tape = w.tape := rfl
theorem alloc_output (w : World) (o : Obj) : (w.alloc o).output = w.output := rfl
theorem drew_os (w : World) : w.drew.os = w.os := rfl
theorem drew_tape (w : World) : w.drew.tape = w.tape := rfl
theorem drew_output (w : World) : w.drew.output = w.output := rfl
theorem blk_lt {w : World} {b : Nat} {o : Obj} (h : w.heap[b]? = some o) : b < w.heap.size := (Array.getElem?_eq_some_iff.1 h).1
theorem blk_below {B : Nat} {w w1 : World} {b : Nat} {o : Obj} (hb : Below B w w1) (h : w.heap[b]? = some o) (hB : b < B) : w1.heap[b]? = some o := (hb.block b hB).trans h
theorem blk_call {w w1 : World} {b : Nat} {o : Obj} (hb : Below w.heap.size w w1) (h : w.heap[b]? = some o) : w1.heap[b]? = some o := blk_below hb h (blk_lt h)
theorem blk_alloc {w : World} {b : Nat} {o o' : Obj} (h : w.heap[b]? = some o) : (w.alloc o').heap[b]? = some o := (Below.heap_alloc w o' b (blk_lt h)).trans h
theorem blk_setRow_ne {w : World} {g b : Nat} {o : Obj} {cs : Array Value} (hne : b ≠ g) (h : w.heap[b]? = some o) : (w.setRow g cs).heap[b]? = some o := (setRow_other w g b cs hne).trans h
theorem blk_new (w : World) (o : Obj) (n : Nat) (h : n = w.heap.size) : (w.alloc o).heap[n]? = some o := by subst h; exact heap_alloc_new w o
theorem blk_drew {w : World} {b : Nat} {o : Obj} (h : w.heap[b]? = some o) : w.drew.heap[b]? = some o := h
theorem below_new {w W w1 : World} {B : Nat} (h : Below B w W) (hb : Below W.heap.size W w1) (hB : B ≤ W.heap.size) : Below B w w1 := h.trans (hb.mono hB)
theorem results_cell_tmp {P : Program} {fn : Func} {p q : Tmp} {ty : TypeId} (h : fn.results = #[.cell p ty, .tmp q]) (tmps : Array Value) (w : World) (g : Nat) (t : TypeId) (cs : Array Value) (fr : Nat × Nat) (d : TypeDesc)
    (hp : tmps.getD p undef = .pointer (some ⟨g, 0, none⟩)) (hg : w.heap[g]? = some (.cells cs t fr))
    (hu : P.underlying ty = some d) (hd : (match d with | .struct _ | .array _ _ => true | _ => false) = true) (hi : (P.info? ty).map (·.size) = some cs.size) :
    (results fn tmps).run P w = .ok (.tuple #[.agg cs, tmps.getD q undef]) w := by
  have hp' : tmps[p]?.getD undef = .pointer (some ⟨g, 0, none⟩) := by simpa using hp
  simp [results, h, hp', asAddr, run_loadVar_row w g t ty cs fr d hg hu hd hi]
theorem run_insert_new {P : Program} {mty kt et : TypeId} (hm : P.underlying mty = some (.map kt et)) (hk : P.underlying kt = some (.int .i64)) (W : World) (r : Nat) (hr : r = W.heap.size) (es : Array MapEntry) (clock : Nat) (k : Int) (val : Value)
    (hf : Instr.findNow (.int .i64) (.int .i64 k) es.toList 0 = some none) :
    (Instr.mapUpdate mty (.map (some r)) (.int .i64 k) val).run P (W.alloc (.map es clock)) = .ok () (W.alloc (.map (es.push { key := .int .i64 k, val := val, born := clock }) (clock + 1))) := by
  subst hr
  have hb := heap_alloc_new W (.map es clock)
  have hc : (Instr.checkKey false 10000 kt (.int .i64 k)).run P (W.alloc (.map es clock)) = .ok () (W.alloc (.map es clock)) := MapKept.run_checkKey (k := .int .i64 k) hk (by simp [MapKept.IsKey]) false 9999
  have he : (W.heap.push (.map es clock)).setIfInBounds W.heap.size (.map (es.push { key := .int .i64 k, val := val, born := clock }) (clock + 1)) = W.heap.push (.map (es.push { key := .int .i64 k, val := val, born := clock }) (clock + 1)) := by
    apply Array.ext_getElem?
    intro i
    rw [Array.getElem?_setIfInBounds, Array.getElem?_push, Array.getElem?_push]
    by_cases h : i = W.heap.size
    · subst h; simp
    · have h' : ¬ W.heap.size = i := fun e => h e.symm
      simp [h, h']
  have hs := MapKept.run_setObj_map (P := P) (.map (es.push { key := .int .i64 k, val := val, born := clock }) (clock + 1)) hb
  simp only [Instr.mapUpdate, Sem.run_bind, run_underlying hm, MapKept.run_getObj_map hb, hc, MapKept.run_findKey hk hf, hs, Result.andThen]
  show Result.ok () _ = Result.ok () _
  congr 1
  simp only [World.alloc]
  congr 1
theorem run_lookup_found {P : Program} {mty kt et : TypeId} (hm : P.underlying mty = some (.map kt et)) (hk : P.underlying kt = some (.int .i64)) (w : World) (r : Nat) (es : Array MapEntry) (clock : Nat) (hb : w.heap[r]? = some (.map es clock)) (k : Int) (i : Nat) (val : Value)
    (hf : Instr.findNow (.int .i64) (.int .i64 k) es.toList 0 = some (some (i, val))) :
    (Instr.lookup mty (.map (some r)) (.int .i64 k) true).run P w = .ok (.tuple #[val, .bool true]) w := by
  have hc : (Instr.checkKey es.isEmpty 10000 kt (.int .i64 k)).run P w = .ok () w := MapKept.run_checkKey (k := .int .i64 k) hk (by simp [MapKept.IsKey]) _ 9999
  simp [Instr.lookup, run_underlying hm, MapKept.run_getObj_map hb, hc, MapKept.run_findKey hk hf, Result.andThen]
theorem wpList_build_is {P : Program} {ops : Array Oper} {rest : List Oper} {o : Oper} {a : Act} {w : World} {Q : Exit → Act → World → Prop} (hgd : o.guard = none) (t : TypeId) (parts : Array (Nat × Operand)) (ho : o.op = .build t parts)
    (vs : List (Nat × Value)) (hv : (parts.map fun (i, x) => (i, a.eval x)).toList = vs) (cs : Array Value) (hb : P.built t vs = some cs)
    (h : wpList P ops Q rest (a.put o.dst (.agg cs)) w) : wpList P ops Q (o :: rest) a w :=
  wpList_build hgd t parts ho (by rw [hv, hb]; rfl) (by rw [hv, hb]; exact h)
theorem one_news (wr : World) (x : Value) (t : TypeId) : ∀ j u, [x][j]? = some u → (wr.alloc (.cells #[x] t)).cell? ((⟨wr.heap.size, 0, none⟩ : Addr).add j) = some u := by
  intro j u h
  cases j with
  | zero =>
    simp at h; subst h
    have : (⟨wr.heap.size, 0, none⟩ : Addr).add 0 = ⟨wr.heap.size, 0, none⟩ := by simp [Addr.add]
    rw [this, blk_cell (heap_alloc_new _ _) 0]; rfl
  | succ j => simp at h
theorem s4_call {w W w1 : World} {N : Nat} {x0 x1 x2 x3 : Value} (h : W.cell? ⟨N, 0, none⟩ = some x0 ∧ W.cell? ⟨N, 1, none⟩ = some x1 ∧ W.cell? ⟨N, 2, none⟩ = some x2 ∧ W.cell? ⟨N, 3, none⟩ = some x3 ∧ N < W.heap.size ∧ Below w.heap.size w W)
    (hb : Below W.heap.size W w1) : w1.cell? ⟨N, 0, none⟩ = some x0 ∧ w1.cell? ⟨N, 1, none⟩ = some x1 ∧ w1.cell? ⟨N, 2, none⟩ = some x2 ∧ w1.cell? ⟨N, 3, none⟩ = some x3 ∧ N < w1.heap.size ∧ Below w.heap.size w w1 := by
  obtain ⟨h0, h1, h2, h3, h4, h5⟩ := h
  exact ⟨(hb.cell (p := ⟨N, 0, none⟩) h4).trans h0, (hb.cell (p := ⟨N, 1, none⟩) h4).trans h1, (hb.cell (p := ⟨N, 2, none⟩) h4).trans h2, (hb.cell (p := ⟨N, 3, none⟩) h4).trans h3, Nat.lt_of_lt_of_le h4 hb.size, below_call h5 hb⟩
theorem s4_drew {w W : World} {N : Nat} {x0 x1 x2 x3 : Value} (h0 : W.cell? ⟨N, 0, none⟩ = some x0) (h1 : W.cell? ⟨N, 1, none⟩ = some x1) (h2 : W.cell? ⟨N, 2, none⟩ = some x2) (h3 : W.cell? ⟨N, 3, none⟩ = some x3) (h4 : N < W.heap.size) (h5 : Below w.heap.size w W) :
    W.drew.cell? ⟨N, 0, none⟩ = some x0 ∧ W.drew.cell? ⟨N, 1, none⟩ = some x1 ∧ W.drew.cell? ⟨N, 2, none⟩ = some x2 ∧ W.drew.cell? ⟨N, 3, none⟩ = some x3 ∧ N < W.drew.heap.size ∧ Below w.heap.size w W.drew := ⟨h0, h1, h2, h3, h4, h5.drew⟩
end Go.Proofs.YtgfncnnidacllaaGreatDoor
namespace Go.Proofs.YtgfncnnidacllaaGreatDoor
open Go.RowKit
def entT : List (List UInt8 × Int × Int × Int) := [([], 0, 0, 0), ([115, 104, 97, 50, 50, 52], 1, 28, 64), ([115, 104, 97, 50, 53, 54], 1, 32, 64), ([115, 104, 97, 51, 56, 52], 1, 48, 128), ([115, 104, 97, 53, 49, 50], 1, 64, 128), ([115, 104, 97, 53, 49, 50, 45, 50, 50, 52], 1, 28, 128), ([115, 104, 97, 53, 49, 50, 45, 50, 53, 54], 1, 32, 128), ([115, 104, 97, 51, 45, 50, 50, 52], 2, 28, 144), ([115, 104, 97, 51, 45, 50, 53, 54], 2, 32, 136), ([115, 104, 97, 51, 45, 51, 56, 52], 2, 48, 104), ([115, 104, 97, 51, 45, 53, 49, 50], 2, 64, 72), ([115, 104, 97, 107, 101, 49, 50, 56], 3, 32, 168), ([115, 104, 97, 107, 101, 50, 53, 54], 3, 64, 136), ([99, 115, 104, 97, 107, 101, 49, 50, 56], 4, 32, 168), ([99, 115, 104, 97, 107, 101, 50, 53, 54], 4, 64, 136)]
def entAt (a : Nat) : List UInt8 × Int × Int × Int := entT.getD a ([], 0, 0, 0)
def entOf (a : Int) : List UInt8 × Int × Int × Int := if a < 0 then ([], 0, 0, 0) else entAt a.toNat
def entCells : Array Value := (entT.flatMap fun e => [Value.string ⟨e.1.toArray⟩, .int .i64 e.2.1, .int .i64 e.2.2.1, .int .i64 e.2.2.2]).toArray
def kindOf (a : Int) : Int := (entOf a).2.1
def digOf (a : Int) : Int := (entOf a).2.2.1
def blkOf (a : Int) : Int := (entOf a).2.2.2
def Ents (w : World) : Prop := ∃ t, w.heap[0]? = some (.cells entCells t (0, 0))
theorem Ents.below {w w1 : World} (h : Ents w) (hb : Below w.heap.size w w1) : Ents w1 := let ⟨t, h⟩ := h; ⟨t, blk_call hb h⟩
theorem Ents.alloc {w : World} {o' : Obj} (h : Ents w) : Ents (w.alloc o') := let ⟨t, h⟩ := h; ⟨t, blk_alloc h⟩
theorem entOf_nat (a : Nat) : entOf a = entAt a := by unfold entOf; rw [if_neg (by omega)]; rfl
theorem entOf_neg {a : Int} (h : a < 0) : entOf a = ([], 0, 0, 0) := by unfold entOf; rw [if_pos h]
theorem entAt_big {a : Nat} (h : 15 ≤ a) : entAt a = ([], 0, 0, 0) := by unfold entAt; rw [List.getD_eq_getElem?_getD, List.getElem?_eq_none (by exact h)]; rfl
def EntV (a : Int) : Value := .agg #[.string ⟨(entOf a).1.toArray⟩, .int .i64 (entOf a).2.1, .int .i64 (entOf a).2.2.1, .int .i64 (entOf a).2.2.2]
theorem ent_cells (a : Nat) (h : a < 15) : entCells[a * 4]? = some (.string ⟨(entAt a).1.toArray⟩) ∧ entCells[a * 4 + 1]? = some (.int .i64 (entAt a).2.1) ∧ entCells[a * 4 + 2]? = some (.int .i64 (entAt a).2.2.1) ∧ entCells[a * 4 + 3]? = some (.int .i64 (entAt a).2.2.2) := by
  match a, h with
  | 0, _ | 1, _ | 2, _ | 3, _ | 4, _ | 5, _ | 6, _ | 7, _ | 8, _ | 9, _ | 10, _ | 11, _ | 12, _ | 13, _ | 14, _ => exact ⟨rfl, rfl, rfl, rfl⟩
set_option maxRecDepth 100000 in
set_option maxHeartbeats 4000000 in
theorem of_in (a : Nat) (ha : a < 15) (w : World) (hE : Ents w) :
    Calls Tryz.prog 71 #[.int .i64 a] w fun e w' => e = .returned (EntV a) ∧ Below w.heap.size w w' := by
  obtain ⟨c0, c1, c2, c3⟩ := ent_cells a ha
  obtain ⟨tE, hE⟩ := hE
  have k0 := (blk_cell hE (a * 4)).trans c0
  have k1 := (blk_cell hE (a * 4 + 1)).trans c1
  have k2 := (blk_cell hE (a * 4 + 2)).trans c2
  have k3 := (blk_cell hE (a * 4 + 3)).trans c3
  have hl := blk_lt hE
  have h1 : (0 : Int) ≤ a := by omega
  have h2 : (a : Int) < 15 := by omega
  rw [show EntV (a : Int) = .agg #[.string ⟨(entAt a).1.toArray⟩, .int .i64 (entAt a).2.1, .int .i64 (entAt a).2.2.1, .int .i64 (entAt a).2.2.2] from by unfold EntV; rw [entOf_nat]]
  generalize (entAt a).1.toArray = s0 at *
  generalize (entAt a).2.1 = s1 at *
  generalize (entAt a).2.2.1 = s2 at *
  generalize (entAt a).2.2.2 = s3 at *
  clear c0 c1 c2 c3 hE
  go_enter Tryz.func71, Tryz.ntmps71
  go_wp2
  go_returns
  exact ⟨rfl, by repeat' (first | (with_reducible exact Below.refl _ _) | (with_reducible assumption) | (with_reducible refine below_drewN ?_ _) | (with_reducible refine Below.drew ?_) | (with_reducible refine Below.alloc ?_ ?_ _) | (with_reducible refine Below.setCell ?_ ?_ _) | go_size)⟩
set_option maxRecDepth 100000 in
set_option maxHeartbeats 4000000 in
theorem of_out (a : Int) (ha : a < 0 ∨ 15 ≤ a) (w : World) :
    Calls Tryz.prog 71 #[.int .i64 a] w fun e w' => e = .returned (EntV a) ∧ Below w.heap.size w w' := by
  have e : EntV a = .agg #[.string ByteArray.empty, .int .i64 0, .int .i64 0, .int .i64 0] := by
    have : entOf a = ([], 0, 0, 0) := by
      rcases ha with h | h
      · exact entOf_neg h
      · obtain ⟨n, rfl⟩ := Int.eq_ofNat_of_zero_le (show 0 ≤ a by omega)
        rw [entOf_nat]; exact entAt_big (by omega)
    unfold EntV; rw [this]; rfl
  rw [e]
  clear e
  rcases ha with h | h
  · go_enter Tryz.func71, Tryz.ntmps71
    go_wp2
    go_returns
    exact ⟨rfl, by repeat' (first | (with_reducible exact Below.refl _ _) | (with_reducible assumption) | (with_reducible refine below_drewN ?_ _) | (with_reducible refine Below.drew ?_) | (with_reducible refine Below.alloc ?_ ?_ _) | (with_reducible refine Below.setCell ?_ ?_ _) | go_size)⟩
  · have h' : ¬ a < 0 := by omega
    go_enter Tryz.func71, Tryz.ntmps71
    go_wp2
    go_returns
    exact ⟨rfl, by repeat' (first | (with_reducible exact Below.refl _ _) | (with_reducible assumption) | (with_reducible refine below_drewN ?_ _) | (with_reducible refine Below.drew ?_) | (with_reducible refine Below.alloc ?_ ?_ _) | (with_reducible refine Below.setCell ?_ ?_ _) | go_size)⟩
theorem entof_any (a : Int) (w : World) (hE : Ents w) :
    Calls Tryz.prog 71 #[.int .i64 a] w fun e w' => e = .returned (EntV a) ∧ Below w.heap.size w w' := by
  by_cases h : a < 0 ∨ 15 ≤ a
  · exact of_out a h w
  · obtain ⟨n, rfl⟩ := Int.eq_ofNat_of_zero_le (show 0 ≤ a by omega)
    exact of_in n (by omega) w hE
def wordOf (a : Int) : List UInt8 := (entOf a).1
set_option maxRecDepth 100000 in
set_option maxHeartbeats 1000000 in
theorem word_any (a : Int) (w : World) (hE : Ents w) :
    Calls Tryz.prog 60 #[.int .i64 a] w fun e w' => e = .returned (.string ⟨(wordOf a).toArray⟩) ∧ Below w.heap.size w w' := by
  have h := entof_any a w hE
  unfold EntV at h
  unfold wordOf
  generalize entOf a = E at h ⊢
  obtain ⟨s0, s1, s2, s3⟩ := E
  simp only at h ⊢
  have H := Lib.hid h
  clear h hE
  have hfi : ∀ w, (Instr.field 101 (.agg #[.string ⟨s0.toArray⟩, .int .i64 s1, .int .i64 s2, .int .i64 s3]) 0).run Tryz.prog w = .ok (.string ⟨s0.toArray⟩) w := fun _ => by kernel_rfl
  go_enter Tryz.func60, Tryz.ntmps60
  go_wp2_with fail
  refine H.out.mono ?_
  rintro e w1 ⟨rfl, hw⟩
  go_wp2_with fail
  go_returns
  exact ⟨rfl, hw⟩
set_option maxRecDepth 100000 in
set_option maxHeartbeats 1000000 in
theorem putAlg_any (c : Nat) (a : Int) (w : World) (hE : Ents w) (hc : w.cell? ⟨c, 2, none⟩ = some (.int .i64 a)) :
    Calls Tryz.prog 38 #[.pointer (some ⟨c, 0, none⟩)] w fun e w' => e = .returned (.string ⟨(wordOf a).toArray⟩) ∧ Below w.heap.size w w' := by
  have H := Lib.hid (word_any a w hE)
  clear hE
  go_enter Tryz.func38, Tryz.ntmps38
  go_wp2_with fail
  refine H.out.mono ?_
  rintro e w1 ⟨rfl, hw⟩
  go_wp2_with fail
  go_returns
  exact ⟨rfl, hw⟩
end Go.Proofs.YtgfncnnidacllaaGreatDoor
