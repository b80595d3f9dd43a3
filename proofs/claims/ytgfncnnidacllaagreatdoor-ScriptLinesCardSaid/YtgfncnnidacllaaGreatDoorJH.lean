/- Lemmas for the claim, parts put together: a call as plain data, its cells, and one word read into it; a line's words, and the line that they are the words of. -/
import Derived.Test.YtgfncnnidacllaaGreatDoorJF
import Derived.Test.YtgfncnnidacllaaGreatDoorJG
import Derived.Test.YtgfncnnidacllaaGreatDoorJE
import Derived.Deep.Onto
import Derived.Lib.SplitLaws
import Derived.Lib.Join
import Derived.Lib.IndexBytes
import Derived.Lib.CountLaws
set_option linter.unusedVariables false
set_option linter.unusedSimpArgs false
namespace Go.Proofs.YtgfncnnidacllaaGreatDoor
open Go.RowKit Go.Proofs.YtgfncnnidacllaaGreatDoorW.PrintWords Go.Proofs.YtgfncnnidacllaaGreatDoorW.PrintLast Go.Proofs.YtgfncnnidacllaaGreatDoorW.PrintMore
structure Cl where
  kind : Int
  h : Int
  alg : Int
  n : Int
  nm : List Int
  sm : List Int
  b : List Int
  hi : Int
  lo : Int
def Cl.of (k : Int) : Cl := ⟨k, 0, 0, 0, [], [], [], 0, 0⟩
inductive Fld | alg | first | last | b | h | n | hi | lo
def Fld.get : Fld → FuncId
  | .alg => 37 | .first => 39 | .last => 41 | .b => 35
  | .h => 33 | .n => 43 | .hi => 45 | .lo => 47
def Fld.put : Fld → FuncId
  | .alg => 38 | .first => 40 | .last => 42 | .b => 36
  | .h => 34 | .n => 44 | .hi => 46 | .lo => 48
def Fld.ok : Fld → List UInt8 → Bool
  | .alg, l => (findN l).isSome
  | .first, l | .last, l | .b, l => (getN l).isSome
  | .h, l => (smallN l 1000000000).isSome
  | .n, l => (smallN l 1073741824).isSome
  | .hi, l | .lo, l => (ofN l).isSome
def natV (o : Option Nat) : Int := ((o.getD 0 : Nat) : Int)
def Fld.set : Fld → List UInt8 → Cl → Cl
  | .alg, l, c => { c with alg := natV (findN l) }
  | .first, l, c => { c with nm := (getN l).getD [] }
  | .last, l, c => { c with sm := (getN l).getD [] }
  | .b, l, c => { c with b := (getN l).getD [] }
  | .h, l, c => { c with h := natV (smallN l 1000000000) }
  | .n, l, c => { c with n := natV (smallN l 1073741824) }
  | .hi, l, c => { c with hi := natV (ofN l) }
  | .lo, l, c => { c with lo := natV (ofN l) }
def ClCells (c : Cl) (v4 v5 v6 : Value) : Array Value := #[.int .i64 c.kind, .int .i64 c.h, .int .i64 c.alg, .int .i64 c.n, v4, v5, v6, .int .u64 c.hi, .int .u64 c.lo]
def Rep (w : World) (B N : Nat) (cells : Array Value) (c : Cl) : Prop :=
  ∃ v4 v5 v6, cells = ClCells c v4 v5 v6 ∧ (Row w B v4 c.nm ∧ v4.ownBlock ≠ some N) ∧ (Row w B v5 c.sm ∧ v5.ownBlock ≠ some N) ∧ (Row w B v6 c.b ∧ v6.ownBlock ≠ some N)
theorem Row.kept {w w1 : World} {B N : Nat} {v : Value} {xs : List Int} (h : Row w B v xs) (hn : v.ownBlock ≠ some N) (hk : KeptBut N w w1) : Row w1 B v xs :=
  own_move h (fun k e => hk.block k (own_lt h k e) (fun e1 => hn (by rw [e, e1])))
theorem Row.fresh {w1 : World} {B N M : Nat} {v : Value} {xs : List Int} (h : Row w1 M v xs) (hB : B ≤ M) (hN : N < M) : Row w1 B v xs ∧ v.ownBlock ≠ some N :=
  ⟨World.ownsRow.mono h hB, fun e => by have := own_base h N e; omega⟩
theorem Row.nil {w : World} {B N : Nat} : Row w B (.slice none 0 0) [] ∧ (Value.slice none 0 0).ownBlock ≠ some N := ⟨World.ownsRow_nil w B _ 1, by simp [Value.ownBlock]⟩
theorem Rep.start (w : World) (B N : Nat) (k : Int) : Rep w B N (ClCells (Cl.of k) (.slice none 0 0) (.slice none 0 0) (.slice none 0 0)) (Cl.of k) := ⟨_, _, _, rfl, Row.nil, Row.nil, Row.nil⟩
theorem Rep.kept {w w1 : World} {B N : Nat} {cells : Array Value} {c : Cl} (h : Rep w B N cells c) (hk : KeptBut N w w1) : Rep w1 B N cells c := by
  obtain ⟨v4, v5, v6, e, ⟨a1, a2⟩, ⟨b1, b2⟩, ⟨c1, c2⟩⟩ := h
  exact ⟨v4, v5, v6, e, ⟨a1.kept a2 hk, a2⟩, ⟨b1.kept b2 hk, b2⟩, ⟨c1.kept c2 hk, c2⟩⟩
theorem Rep.size {w : World} {B N : Nat} {cells : Array Value} {c : Cl} (h : Rep w B N cells c) : cells.size = 9 := by
  obtain ⟨v4, v5, v6, rfl, _⟩ := h; rfl
theorem getF_any (f : Fld) (s : ByteArray) (B N : Nat) (cells : Array Value) (c : Cl) (w : World) (hs : s.size ≤ 100000) (hV : VarsAt w) (hb : w.heap[N]? = some (.cells cells 30 (0, 0))) (hR : Rep w B N cells c) (hB : B ≤ N) :
    Calls Tryz.prog f.get #[.pointer (some ⟨N, 0, none⟩), .string s] w fun e w' => e = .returned (.bool (f.ok s.data.toList)) ∧ (∃ cells', w'.heap[N]? = some (.cells cells' 30 (0, 0)) ∧ cells'.size = 9 ∧ (f.ok s.data.toList = true → Rep w' B N cells' (f.set s.data.toList c))) ∧ KeptBut N w w' := by
  have h9 := hR.size
  have hN := blk_lt hb
  cases f with
  | alg =>
    refine (getAlg_any s N cells w hs hV hb h9).mono ?_
    rintro e w' ⟨he, ⟨v, hv, hg⟩, hk⟩
    refine ⟨he, ⟨_, hv, by simpa using h9, fun hok => ?_⟩, hk⟩
    obtain ⟨u, hu, rfl⟩ := hg hok
    obtain ⟨v4, v5, v6, rfl, r4, r5, r6⟩ := hR.kept hk
    refine ⟨v4, v5, v6, ?_, r4, r5, r6⟩
    simp [ClCells, Fld.set, hu, natV]
  | h =>
    refine (getH_any s N cells w hs hV hb h9).mono ?_
    rintro e w' ⟨he, ⟨v, hv, hg⟩, hk⟩
    refine ⟨he, ⟨_, hv, by simpa using h9, fun hok => ?_⟩, hk⟩
    obtain ⟨u, hu, rfl⟩ := hg hok
    obtain ⟨v4, v5, v6, rfl, r4, r5, r6⟩ := hR.kept hk
    refine ⟨v4, v5, v6, ?_, r4, r5, r6⟩
    simp [ClCells, Fld.set, hu, natV]
  | n =>
    refine (getN_any s N cells w hs hV hb h9).mono ?_
    rintro e w' ⟨he, ⟨v, hv, hg⟩, hk⟩
    refine ⟨he, ⟨_, hv, by simpa using h9, fun hok => ?_⟩, hk⟩
    obtain ⟨u, hu, rfl⟩ := hg hok
    obtain ⟨v4, v5, v6, rfl, r4, r5, r6⟩ := hR.kept hk
    refine ⟨v4, v5, v6, ?_, r4, r5, r6⟩
    simp [ClCells, Fld.set, hu, natV]
  | hi =>
    refine (getHi_any s N cells w hs hV hb h9).mono ?_
    rintro e w' ⟨he, ⟨v, hv, hg⟩, hk⟩
    refine ⟨he, ⟨_, hv, by simpa using h9, fun hok => ?_⟩, hk⟩
    obtain ⟨u, hu, rfl⟩ := hg hok
    obtain ⟨v4, v5, v6, rfl, r4, r5, r6⟩ := hR.kept hk
    refine ⟨v4, v5, v6, ?_, r4, r5, r6⟩
    simp [ClCells, Fld.set, hu, natV]
  | lo =>
    refine (getLo_any s N cells w hs hV hb h9).mono ?_
    rintro e w' ⟨he, ⟨v, hv, hg⟩, hk⟩
    refine ⟨he, ⟨_, hv, by simpa using h9, fun hok => ?_⟩, hk⟩
    obtain ⟨u, hu, rfl⟩ := hg hok
    obtain ⟨v4, v5, v6, rfl, r4, r5, r6⟩ := hR.kept hk
    refine ⟨v4, v5, v6, ?_, r4, r5, r6⟩
    simp [ClCells, Fld.set, hu, natV]
  | first =>
    refine (getFirst_any s N cells w hs hV hb h9).mono ?_
    rintro e w' ⟨he, ⟨v, hv, hg⟩, hk⟩
    refine ⟨he, ⟨_, hv, by simpa using h9, fun hok => ?_⟩, hk⟩
    obtain ⟨xs, hu, hr⟩ := hg hok
    obtain ⟨v4, v5, v6, rfl, r4, r5, r6⟩ := hR.kept hk
    refine ⟨v, v5, v6, ?_, ?_, r5, r6⟩
    · simp [ClCells, Fld.set]
    · simpa [Fld.set, hu] using hr.fresh (N := N) (B := B) (by omega) hN
  | last =>
    refine (getLast_any s N cells w hs hV hb h9).mono ?_
    rintro e w' ⟨he, ⟨v, hv, hg⟩, hk⟩
    refine ⟨he, ⟨_, hv, by simpa using h9, fun hok => ?_⟩, hk⟩
    obtain ⟨xs, hu, hr⟩ := hg hok
    obtain ⟨v4, v5, v6, rfl, r4, r5, r6⟩ := hR.kept hk
    refine ⟨v4, v, v6, ?_, r4, ?_, r6⟩
    · simp [ClCells, Fld.set]
    · simpa [Fld.set, hu] using hr.fresh (N := N) (B := B) (by omega) hN
  | b =>
    refine (getB_any s N cells w hs hV hb h9).mono ?_
    rintro e w' ⟨he, ⟨v, hv, hg⟩, hk⟩
    refine ⟨he, ⟨_, hv, by simpa using h9, fun hok => ?_⟩, hk⟩
    obtain ⟨xs, hu, hr⟩ := hg hok
    obtain ⟨v4, v5, v6, rfl, r4, r5, r6⟩ := hR.kept hk
    refine ⟨v4, v5, v, ?_, r4, r5, ?_⟩
    · simp [ClCells, Fld.set]
    · simpa [Fld.set, hu] using hr.fresh (N := N) (B := B) (by omega) hN
def shFld : List (List Fld) := [[.alg, .first, .last], [.b], [.h], [.h, .b], [.h, .b], [.h, .n], [.h], [.h], [.h, .hi, .lo], [.h]]
theorem shF_eq : shF = shFld.map fun fs => fs.map fun f => (f.get, f.put) := rfl
def fldsOf (k : Nat) : List Fld := shFld.getD k []
theorem fLen_eq (k : Nat) : fLen k = (fldsOf k).length := by
  unfold fLen fldsOf
  rw [shF_eq, List.getD_eq_getElem?_getD, List.getD_eq_getElem?_getD, List.getElem?_map]
  cases h : shFld[k]? <;> simp
theorem fCells_at (k : Nat) (hk : k < 10) (j : Nat) (f : Fld) (hf : (fldsOf k)[j]? = some f) : (fCells k)[j * 2]? = some (fnV f.get) ∧ (fCells k)[j * 2 + 1]? = some (fnV f.put) := by
  have hj : j < 3 := by
    have h1 := (List.getElem?_eq_some_iff.1 hf).1
    have h2 : (fldsOf k).length ≤ 3 := by
      match k, hk with
      | 0, _ | 1, _ | 2, _ | 3, _ | 4, _ | 5, _ | 6, _ | 7, _ | 8, _ | 9, _ => decide
    omega
  match k, hk, j, hj with
  | 0, _, 0, _ | 0, _, 1, _ | 0, _, 2, _ | 1, _, 0, _ | 2, _, 0, _ | 3, _, 0, _ | 3, _, 1, _ | 4, _, 0, _ | 4, _, 1, _ | 5, _, 0, _ | 5, _, 1, _ | 6, _, 0, _ | 7, _, 0, _ | 8, _, 0, _ | 8, _, 1, _ | 8, _, 2, _ | 9, _, 0, _ =>
    cases hf; exact ⟨rfl, rfl⟩
  | 1, _, 1, _ | 1, _, 2, _ | 2, _, 1, _ | 2, _, 2, _ | 3, _, 2, _ | 4, _, 2, _ | 5, _, 2, _ | 6, _, 1, _ | 6, _, 2, _ | 7, _, 1, _ | 7, _, 2, _ | 9, _, 1, _ | 9, _, 2, _ => cases hf
def parseFs : List Fld → List (List UInt8) → Cl → Option Cl
  | [], _, c => some c
  | f :: fs, w :: ws, c => if f.ok w then parseFs fs ws (f.set w c) else none
  | _ :: _, [], _ => none
def kindW (w : List UInt8) : Option Nat := (List.range 10).find? fun i => shW.getD i [] == w
def parseL (ws : List (List UInt8)) : Cl ⊕ Int :=
  match kindW (ws.headD []) with
  | none => .inr 10
  | some i => if ws.length = 1 + (fldsOf i).length then match parseFs (fldsOf i) ws.tail (Cl.of ((i : Int) + 1)) with | some c => .inl c | none => .inr 8 else .inr 8
end Go.Proofs.YtgfncnnidacllaaGreatDoor
namespace Go.Proofs.YtgfncnnidacllaaGreatDoor
def splitS : List UInt8 → List (List UInt8)
  | [] => [[]]
  | c :: t => if c = 32 then [] :: splitS t else match splitS t with | w :: ws => (c :: w) :: ws | [] => [[c]]
theorem splitS_ne : ∀ l, splitS l ≠ []
  | [] => by simp [splitS]
  | c :: t => by
    unfold splitS
    split
    · simp
    · split <;> simp
theorem join_split : ∀ l, Lib.join (splitS l) [32] = l
  | [] => rfl
  | c :: t => by
    have ih := join_split t
    unfold splitS
    cases h : splitS t with
    | nil => exact absurd h (splitS_ne t)
    | cons w ws =>
      rw [h] at ih
      rw [Lib.join_cons] at ih
      split
      · rename_i e
        rw [Lib.join_cons, e]
        simp only [Lib.joinTail, List.map_cons, List.flatten_cons, List.nil_append] at ih ⊢
        rw [← ih]
        simp
      · rw [Lib.join_cons]
        simp only [List.cons_append]
        rw [ih]
theorem split_miss : ∀ l : List UInt8, Lib.indexByte l 32 = -1 → splitS l = [l] ∧ l.count 32 = 0
  | [], _ => ⟨rfl, rfl⟩
  | c :: t, h => by
    unfold Lib.indexByte at h
    split at h
    · cases h
    · rename_i hc
      have hc' : ¬ c = 32 := by simpa using hc
      have ht : Lib.indexByte t 32 = -1 := by
        split at h
        · rename_i h1; simpa using h1
        · have := Lib.indexByte_ge t 32; omega
      obtain ⟨i1, i2⟩ := split_miss t ht
      refine ⟨?_, ?_⟩
      · unfold splitS; rw [if_neg hc', i1]
      · rw [List.count_cons, i2]; simp [hc']
theorem split_hit : ∀ (l : List UInt8) (i : Nat), Lib.indexByte l 32 = i → splitS l = l.take i :: splitS (l.drop (i + 1)) ∧ l.count 32 = (l.drop (i + 1)).count 32 + 1
  | [], i, h => by simp [Lib.indexByte] at h
  | c :: t, i, h => by
    unfold Lib.indexByte at h
    split at h
    · rename_i hc
      have hc' : c = 32 := by simpa using hc
      have hi : i = 0 := by omega
      subst hi
      refine ⟨?_, ?_⟩
      · conv => lhs; unfold splitS
        rw [if_pos hc']; rfl
      · rw [List.count_cons]; simp [hc']
    · rename_i hc
      have hc' : ¬ c = 32 := by simpa using hc
      split at h
      · omega
      · obtain ⟨j, rfl⟩ : ∃ j, i = j + 1 := ⟨i - 1, by have := Lib.indexByte_ge t 32; rename_i hx; simp at hx; omega⟩
        obtain ⟨i1, i2⟩ := split_hit t j (by omega)
        refine ⟨?_, ?_⟩
        · conv => lhs; unfold splitS
          rw [if_neg hc', i1]; rfl
        · rw [List.count_cons, i2]; simp [hc']
theorem splitK_eq : ∀ (k : Nat) (l : List UInt8), l.count 32 = k → Lib.splitK [32] 0 k l = splitS l
  | 0, l, h => by
    have h1 : Lib.indexByte l 32 = -1 := by
      rcases Int.lt_or_le (Lib.indexByte l 32) 0 with h2 | h2
      · have := Lib.indexByte_ge l 32; omega
      · obtain ⟨i, hi⟩ := Int.eq_ofNat_of_zero_le h2
        have := (split_hit l i hi).2
        omega
    rw [(split_miss l h1).1]; rfl
  | k + 1, l, h => by
    unfold Lib.splitK
    rw [Lib.index_one]
    rcases Int.lt_or_le (Lib.indexByte l 32) 0 with h2 | h2
    · have h3 : Lib.indexByte l 32 = -1 := by have := Lib.indexByte_ge l 32; omega
      have := (split_miss l h3).2
      omega
    · obtain ⟨i, hi⟩ := Int.eq_ofNat_of_zero_le h2
      obtain ⟨e1, e2⟩ := split_hit l i hi
      have hne : ¬ ((Lib.indexByte l 32 == -1) = true) := by rw [hi]; simp
      rw [if_neg hne, hi, e1]
      have ih := splitK_eq k (l.drop (i + 1)) (by omega)
      simp only [Int.toNat_natCast, Nat.add_zero, List.length_singleton]
      rw [ih]
theorem split_len : ∀ (l : List UInt8) (x : List UInt8), x ∈ splitS l → x.length ≤ l.length
  | [], x, h => by simp [splitS] at h; subst h; simp
  | c :: t, x, h => by
    unfold splitS at h
    split at h
    · rcases List.mem_cons.1 h with rfl | h
      · simp
      · have := split_len t x h; simp; omega
    · cases hs : splitS t with
      | nil => exact absurd hs (splitS_ne t)
      | cons w ws =>
        rw [hs] at h
        simp only at h
        rcases List.mem_cons.1 h with rfl | h
        · have := split_len t w (by rw [hs]; exact List.mem_cons_self ..); simp; omega
        · have := split_len t x (by rw [hs]; exact List.mem_cons_of_mem _ h); simp; omega
theorem count_eq : ∀ (n : Nat) (l : List UInt8), l.length ≤ n → Lib.count l [32] = l.count 32
  | n, l, hn => by
    rcases Int.lt_or_le (Lib.indexByte l 32) 0 with h2 | h2
    · have h1 : Lib.indexByte l 32 = -1 := by have := Lib.indexByte_ge l 32; omega
      rw [(split_miss l h1).2, Lib.count_miss (by rw [Lib.index_one]; exact h1)]
    · obtain ⟨i, hi⟩ := Int.eq_ofNat_of_zero_le h2
      rw [(split_hit l i hi).2, Lib.count_hit (by simp) (by rw [Lib.index_one]; exact hi)]
      have hl : 0 < l.length := by
        cases l with
        | nil => simp [Lib.indexByte] at hi
        | cons c t => simp
      cases n with
      | zero => omega
      | succ n =>
        have hd : (l.drop (i + 1)).length ≤ n := by rw [List.length_drop]; omega
        have ih := count_eq n (l.drop (i + 1)) hd
        simp only [List.length_singleton]
        omega
end Go.Proofs.YtgfncnnidacllaaGreatDoor
