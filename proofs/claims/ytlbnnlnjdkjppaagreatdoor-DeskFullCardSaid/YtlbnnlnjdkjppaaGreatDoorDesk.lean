/- Lemmas for the claim: a desk's state: its map of hashers by number, and its last number; what a lookup, a new number and a dropped one make of it. -/
import Derived.Test.YtlbnnlnjdkjppaaGreatDoorHClone
namespace Go.Proofs.YtlbnnlnjdkjppaaGreatDoor
open Go.RowKit

/-- What is known of a hasher that lies there: nothing, or its algorithm. -/
def Val (a : Option Int) (w : World) (q : Nat) : Prop := match a with | none => True | some a => HasherAt w q a
/-- Numbers and hashers. -/
def Ments (a : Option Int) (w : World) (l : List MapEntry) (ks : List Int) : Prop :=
  l.map (·.key) = ks.map (fun k => Value.int .i64 k) ∧ ∀ x ∈ l, ∃ q, x.val = .pointer (some ⟨q, 0, none⟩) ∧ Val a w q
/-- A desk lies at p: these are its numbers, and its last one. -/
def DeskAt (B : Nat) (a : Option Int) (w : World) (p : Nat) (ks : List Int) (last : Int) : Prop :=
  ∃ M es clock, (B ≤ p ∧ B ≤ M) ∧ w.heap[p]? = some (.cells #[.map (some M), .int .i64 last] 36 (0, 0)) ∧ w.heap[M]? = some (.map es clock) ∧ Ments a w es.toList ks

theorem Val.call {a : Option Int} {w w1 : World} {q : Nat} (hb : Below w.heap.size w w1) (h : Val a w q) : Val a w1 q := by
  cases a with
  | none => trivial
  | some a => exact HasherAt.call hb h
theorem Ments.call {a : Option Int} {w w1 : World} {l : List MapEntry} {ks : List Int} (hb : Below w.heap.size w w1) (h : Ments a w l ks) : Ments a w1 l ks :=
  ⟨h.1, fun x hx => let ⟨q, h1, h2⟩ := h.2 x hx; ⟨q, h1, h2.call hb⟩⟩
theorem DeskAt.call {B : Nat} {a : Option Int} {w w1 : World} {p : Nat} {ks : List Int} {last : Int} (hb : Below w.heap.size w w1) (h : DeskAt B a w p ks last) : DeskAt B a w1 p ks last :=
  let ⟨M, es, clock, h0, h1, h2, h3⟩ := h; ⟨M, es, clock, h0, blk_call hb h1, blk_call hb h2, h3.call hb⟩

/-- All else stays. -/
def Rest (p M : Nat) (w w' : World) : Prop := ∀ k o, k ≠ p → k ≠ M → w.heap[k]? = some o → w'.heap[k]? = some o
theorem HasherAt.rest {w w' : World} {q p M : Nat} {a : Int} {cs : Array Value} {es : Array MapEntry} {c : Nat} (hp : w.heap[p]? = some (.cells cs 36 (0, 0))) (hM : w.heap[M]? = some (.map es c)) (hr : Rest p M w w') (h : HasherAt w q a) : HasherAt w' q a := by
  obtain ⟨b, h1, ⟨c', h2⟩⟩ := h
  refine ⟨b, hr _ _ ?_ ?_ h1, c', hr _ _ ?_ ?_ h2⟩
  · rintro rfl; rw [hp] at h1; simp at h1
  · rintro rfl; rw [hM] at h1; simp at h1
  · rintro rfl; rw [hp] at h2; simp at h2
  · rintro rfl; rw [hM] at h2; simp at h2
theorem Ents.rest {w w' : World} {p M : Nat} {x y : Value} {es : Array MapEntry} {c : Nat} (hp : w.heap[p]? = some (.cells #[x, y] 36 (0, 0))) (hM : w.heap[M]? = some (.map es c)) (hr : Rest p M w w') (h : Ents w) : Ents w' := by
  obtain ⟨t, h⟩ := h
  refine ⟨t, hr _ _ ?_ ?_ h⟩
  · intro e; rw [← e] at hp; rw [h] at hp; simp [entCells, entT] at hp
  · intro e; rw [← e] at hM; rw [h] at hM; simp at hM
theorem Val.rest {w w' : World} {q p M : Nat} {a : Option Int} {cs : Array Value} {es : Array MapEntry} {c : Nat} (hp : w.heap[p]? = some (.cells cs 36 (0, 0))) (hM : w.heap[M]? = some (.map es c)) (hr : Rest p M w w') (h : Val a w q) : Val a w' q := by
  cases a with
  | none => trivial
  | some a => exact HasherAt.rest hp hM hr h

theorem keys_int {a : Option Int} {w : World} {l : List MapEntry} {ks : List Int} (h : Ments a w l ks) : ∀ x ∈ l, MapKept.IsKey (.int .i64) x.key := by
  intro x hx
  have : x.key ∈ l.map (·.key) := List.mem_map_of_mem hx
  rw [h.1] at this
  obtain ⟨k, _, hk⟩ := List.mem_map.1 this
  rw [← hk]; simp [MapKept.IsKey]
theorem ments_length {a : Option Int} {w : World} {l : List MapEntry} {ks : List Int} (h : Ments a w l ks) : l.length = ks.length := by
  have := congrArg List.length h.1
  simpa using this

/-- A number that no hasher has. -/
theorem find_none {a : Option Int} {w : World} {l : List MapEntry} {ks : List Int} (h : Ments a w l ks) {k : Int} (hk : k ∉ ks) : Instr.findNow (.int .i64) (.int .i64 k) l 0 = some none := by
  rcases MapKept.findNow_spec (d := .int .i64) (k := .int .i64 k) (by simp [MapKept.IsKey]) l 0 (keys_int h) with h1 | ⟨j, e, _, h2, h3⟩
  · exact h1.1
  · exfalso
    have hm : e.key ∈ l.map (·.key) := List.mem_map_of_mem (List.mem_of_getElem? h2)
    rw [h.1, h3] at hm
    obtain ⟨k', hk', e'⟩ := List.mem_map.1 hm
    cases e'
    exact hk hk'
/-- A number that a hasher has. -/
theorem find_some {a : Option Int} {w : World} {l : List MapEntry} {ks : List Int} (h : Ments a w l ks) {k : Int} (hk : k ∈ ks) : ∃ j q, Instr.findNow (.int .i64) (.int .i64 k) l 0 = some (some (j, .pointer (some ⟨q, 0, none⟩))) ∧ Val a w q ∧ ks[j]? = some k := by
  rcases MapKept.findNow_spec (d := .int .i64) (k := .int .i64 k) (by simp [MapKept.IsKey]) l 0 (keys_int h) with h1 | ⟨j, e, h1, h2, h3⟩
  · exfalso
    have hm : Value.int .i64 k ∈ ks.map (fun k => Value.int .i64 k) := List.mem_map_of_mem hk
    rw [← h.1] at hm
    obtain ⟨x, hx, e'⟩ := List.mem_map.1 hm
    exact h1.2 x hx e'
  · obtain ⟨q, hq, hv⟩ := h.2 e (List.mem_of_getElem? h2)
    refine ⟨j, q, by rw [h1, hq]; simp, hv, ?_⟩
    have hm : (l.map (·.key))[j]? = some (.int .i64 k) := by rw [List.getElem?_map, h2]; simp [h3]
    rw [h.1, List.getElem?_map] at hm
    cases hks : ks[j]? with
    | none => rw [hks] at hm; simp at hm
    | some k' => rw [hks] at hm; simp at hm; rw [hm]
end Go.Proofs.YtlbnnlnjdkjppaaGreatDoor
