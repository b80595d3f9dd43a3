/- Lemmas for the claim: script.Print: a call's line. -/
import Derived.Test.YtgfncnnidacllaaGreatDoorJK
set_option linter.unusedVariables false
set_option linter.unusedSimpArgs false
namespace Go.Proofs.YtgfncnnidacllaaGreatDoor
open Go.RowKit Go.Shelf Go.Proofs.YtgfncnnidacllaaGreatDoorW.PrintWords Go.Proofs.YtgfncnnidacllaaGreatDoorW.PrintLast Go.Proofs.YtgfncnnidacllaaGreatDoorW.PrintMore
structure PrS (w : World) (cells : Array Value) (W : World) : Prop where
  b : W.heap[w.heap.size]? = some (.cells cells 30 (0, 0))
  below : Below w.heap.size w W
theorem PrS.call {w : World} {cells : Array Value} {W w1 : World} (h : PrS w cells W) (hb : Below W.heap.size W w1) : PrS w cells w1 := ⟨blk_call hb h.b, below_call h.below hb⟩
theorem PrS.set {w : World} {cells : Array Value} {W : World} (h : PrS w cells W) (N o : Nat) (v : Value) (hN : w.heap.size < N) : PrS w cells (W.setCell ⟨N, o, none⟩ v) :=
  ⟨(old_set W N o v _ (by omega)).trans h.b, h.below.setCell (by simp; omega) _⟩
structure PQ (w : World) (cells : Array Value) (k B Sb : Nat) (W : World) : Prop where
  p : PrS w cells W
  sh : ShapesAt B W
  s : W.heap[Sb]? = some (.cells #[.string (wK k), .slice (some ⟨B + k, 0, none⟩) (fLen k) (fLen k)] 49 (0, 0))
theorem PQ.call {w : World} {cells : Array Value} {k B Sb : Nat} {W w1 : World} (h : PQ w cells k B Sb W) (hb : Below W.heap.size W w1) : PQ w cells k B Sb w1 := ⟨h.p.call hb, h.sh.call hb, blk_call hb h.s⟩
theorem PQ.ofAlloc {w : World} {cells : Array Value} {k B : Nat} {W : World} (h : PrS w cells W) (hs : ShapesAt B W) : PQ w cells k B W.heap.size (W.alloc (.cells #[.string (wK k), .slice (some ⟨B + k, 0, none⟩) (fLen k) (fLen k)] 49)) :=
  ⟨h.call ((Below.refl _ _).alloc (Nat.le_refl _) _), hs.call ((Below.refl _ _).alloc (Nat.le_refl _) _), blk_new _ _ _ rfl⟩
theorem PQ.ofSet {w : World} {cells : Array Value} {k B Sb : Nat} {W : World} (h : PrS w cells W) (hs : ShapesAt B W) (hN : w.heap.size < Sb) (hB : Sb < B) (a b : Value) (hb : W.heap[Sb]? = some (.cells #[a, b] 49 (0, 0))) :
    PQ w cells k B Sb ((W.setCell ⟨Sb, 0, none⟩ (.string (wK k))).setCell ⟨Sb, 1, none⟩ (.slice (some ⟨B + k, 0, none⟩) (fLen k) (fLen k))) :=
  ⟨(h.set _ _ _ hN).set _ _ _ hN, fun j hj => (old_set _ _ _ _ _ (by omega)).trans ((old_set _ _ _ _ _ (by omega)).trans (hs j hj)), blk_set (blk_set hb 0 _) 1 _⟩
theorem p_of {w : World} {c : Cl} {v4 v5 v6 : Value} {W : World} (h : PrS w (ClCells c v4 v5 v6) W) :
    W.cell? ⟨w.heap.size, 0, none⟩ = some (.int .i64 c.kind) ∧ W.cell? ⟨w.heap.size, 1, none⟩ = some (.int .i64 c.h) ∧ W.cell? ⟨w.heap.size, 3, none⟩ = some (.int .i64 c.n) ∧ PrS w (ClCells c v4 v5 v6) W :=
  ⟨blk_cell h.b 0, blk_cell h.b 1, blk_cell h.b 3, h⟩
theorem p_call {w : World} {c : Cl} {v4 v5 v6 : Value} {W w1 : World} {p q r : Prop} (h : p ∧ q ∧ r ∧ PrS w (ClCells c v4 v5 v6) W) (hb : Below W.heap.size W w1) :
    w1.cell? ⟨w.heap.size, 0, none⟩ = some (.int .i64 c.kind) ∧ w1.cell? ⟨w.heap.size, 1, none⟩ = some (.int .i64 c.h) ∧ w1.cell? ⟨w.heap.size, 3, none⟩ = some (.int .i64 c.n) ∧ PrS w (ClCells c v4 v5 v6) w1 := p_of (h.2.2.2.call hb)
theorem q_of {w : World} {c : Cl} {k : Nat} (hk : c.kind = (k : Int) + 1) {v4 v5 v6 : Value} {W : World} (h : PrS w (ClCells c v4 v5 v6) W) :
    W.cell? ⟨w.heap.size, 0, none⟩ = some (.int .i64 ((k : Int) + 1)) ∧ PrS w (ClCells c v4 v5 v6) W :=
  ⟨by rw [← hk]; exact blk_cell h.b 0, h⟩
theorem q_call {w : World} {c : Cl} {k : Nat} (hk : Hid (c.kind = (k : Int) + 1)) {v4 v5 v6 : Value} {W w1 : World} {p : Prop} (h : p ∧ PrS w (ClCells c v4 v5 v6) W) (hb : Below W.heap.size W w1) :
    w1.cell? ⟨w.heap.size, 0, none⟩ = some (.int .i64 ((k : Int) + 1)) ∧ PrS w (ClCells c v4 v5 v6) w1 := q_of hk.out (h.2.call hb)
theorem putF_at {w : World} {cells : Array Value} {c : Cl} {k B Sb : Nat} {W0 W1 : World} (f : Fld) (hV : VarsAt w) (hR : RepR w cells c) (hF : Fits c) (hQ : PQ w cells k B Sb W0) (hb : Below W0.heap.size W0 W1) :
    Calls Tryz.prog f.put #[.pointer (some ⟨w.heap.size, 0, none⟩)] W1 fun e w' => e = .returned (.string (bsOf (f.word c))) ∧ Below W1.heap.size W1 w' :=
  putF_any f w.heap.size cells c W1 (hV.call (hQ.call hb).p.below) (hQ.call hb).p.b (hR.below (hQ.call hb).p.below) hF
theorem strInfo : (Tryz.prog.info? 9).map (fun i => (i.zero, i.size, i.bytes)) = some (some (.string ⟨#[]⟩), 1, 16) := by kernel_rfl
def wsC (ws : List (List UInt8)) (n : Nat) : List Value := (ws.take n).map fun x => .string (bsOf x)
theorem wsC_succ {ws : List (List UInt8)} {n : Nat} {x : List UInt8} (h : ws[n]? = some x) : wsC ws (n + 1) = wsC ws n ++ [.string (bsOf x)] := by
  obtain ⟨h1, rfl⟩ := List.getElem?_eq_some_iff.1 h
  unfold wsC
  rw [List.take_succ_eq_append_getElem h1, List.map_append]
  rfl
theorem lineWs_len (k : Nat) (c : Cl) : (lineWs k c).length = 1 + fLen k := by unfold lineWs; rw [List.length_cons, List.length_map, fLen_eq]; omega
theorem lineWs_at {k : Nat} {c : Cl} {j : Nat} {f : Fld} (h : (fldsOf k)[j]? = some f) : (lineWs k c)[1 + j]? = some (f.word c) := by
  unfold lineWs
  rw [Nat.add_comm, List.getElem?_cons_succ, List.getElem?_map, h]
  rfl
theorem joinTail_le (sep : List UInt8) (m : Nat) : ∀ ws : List (List UInt8), (∀ x ∈ ws, x.length ≤ m) → (Lib.joinTail sep ws).length ≤ ws.length * (m + sep.length)
  | [], _ => by simp [Lib.joinTail]
  | x :: ws, h => by
    have ih := joinTail_le sep m ws (fun y hy => h y (List.mem_cons_of_mem _ hy))
    have hx := h x (List.mem_cons_self ..)
    simp only [Lib.joinTail, List.map_cons, List.flatten_cons, List.length_append, List.length_cons] at ih ⊢
    rw [Nat.add_mul]
    omega
theorem shW_le (k : Nat) (hk : k < 10) : (shW.getD k []).length ≤ 10 := by
  match k, hk with
  | 0, _ | 1, _ | 2, _ | 3, _ | 4, _ | 5, _ | 6, _ | 7, _ | 8, _ | 9, _ => decide
theorem line_le {k : Nat} {c : Cl} (hk : k < 10) (hF : Fits c) : (lineOf k c).length ≤ 20000 := by
  unfold lineOf lineWs
  rw [Lib.join_cons, List.length_append]
  have h1 := joinTail_le [32] 4001 ((fldsOf k).map fun f => f.word c) (fun x hx => by obtain ⟨f, _, rfl⟩ := List.mem_map.1 hx; exact word_le f hF)
  rw [List.length_map, ← fLen_eq] at h1
  have h2 := fLen_le k hk
  have h3 := shW_le k hk
  have h4 : fLen k * (4001 + [(32 : UInt8)].length) ≤ 3 * 4002 := Nat.mul_le_mul h2 (by simp)
  omega
theorem join_own (ws : List (List UInt8)) (v : Value) (b : Nat) (w : World) (hn : 0 < ws.length) (hl : ws.length ≤ 1000) (hlen : (Lib.join ws [32]).length ≤ 140737488355328) (h : w.ownsRow b 9 1 v ws.length (wsC ws ws.length)) :
    ∃ g cap, v = .slice (some ⟨g, 0, none⟩) ws.length cap ∧ Calls Tryz.prog 26 #[.slice (some ⟨g, 0, none⟩) ws.length cap, .string ⟨#[32]⟩] w fun e w' => e = .returned (.string (bsOf (Lib.join ws [32]))) ∧ Below w.heap.size w w' := by
  rcases h.2 with ⟨_, h0⟩ | ⟨g, cap, cur, rfl, hb, hg, hc, hm, hz, ht⟩
  · omega
  · refine ⟨g, cap, rfl, ?_⟩
    have hcells : ∀ (j : Nat) x, (ws.map bsOf)[j]? = some x → w.cell? ⟨g, 0 + j, none⟩ = some (.string x) := by
      intro j x hx
      rw [List.getElem?_map] at hx
      cases hw : ws[j]? with
      | none => rw [hw] at hx; cases hx
      | some y =>
        rw [hw] at hx
        cases hx
        have hj := (List.getElem?_eq_some_iff.1 hw).1
        rw [Nat.zero_add, blk_cell hg j]
        have e1 : (wsC ws ws.length)[j]? = some (.string (bsOf y)) := by unfold wsC; rw [List.take_length, List.getElem?_map, hw]; rfl
        rw [← ht, List.getElem?_take, Nat.mul_one, if_pos hj] at e1
        rw [← Array.getElem?_toList]
        exact e1
    have hd : (ws.map bsOf).map (·.data.toList) = ws := by
      rw [List.map_map]
      conv => rhs; rw [← List.map_id ws]
      exact List.map_congr_left (fun x _ => bsOf_data x)
    have e32 : (⟨#[32]⟩ : ByteArray).data.toList = [32] := rfl
    have := Tryz.strings_Join g 0 cap (ws.map bsOf) ⟨#[32]⟩ w hcells (blk_lt hg) (by rw [List.length_map]; omega) (by rw [List.length_map]; exact hc) (by rw [hd, e32]; exact hlen)
    rw [hd, e32, List.length_map] at this
    exact this
set_option maxRecDepth 100000 in
theorem pairs_rng : ∀ l : List UInt8, allDig l = true → ∀ x ∈ pairsOf l, 0 ≤ x ∧ x < 256
  | [], _, x, h => by simp [pairsOf] at h
  | [_], _, x, h => by simp [pairsOf] at h
  | a :: b :: t, hd, x, h => by
    unfold allDig at hd
    simp only [List.all_cons, Bool.and_eq_true, decide_eq_true_eq] at hd
    unfold pairsOf at h
    rcases List.mem_cons.1 h with rfl | h
    · have := dvI_le a; have := dvI_le b; omega
    · exact pairs_rng t hd.2.2 x h
theorem getN_rng {l : List UInt8} {xs : List Int} (h : getN l = some xs) : ∀ x ∈ xs, 0 ≤ x ∧ x < 256 := by
  unfold getN at h
  split at h
  · cases h; intro x hx; cases hx
  · split at h
    · cases h
    · split at h
      · rename_i hd; cases h; exact pairs_rng l hd
      · cases h
theorem getD_rng (l : List UInt8) : ∀ x ∈ (getN l).getD [], 0 ≤ x ∧ x < 256 := by
  cases h : getN l with
  | none => intro x hx; cases hx
  | some xs => exact getN_rng h
theorem parseFs_rng : ∀ (fs : List Fld) (ws : List (List UInt8)) (c c' : Cl), Rng c → parseFs fs ws c = some c' → Rng c'
  | [], ws, c, c', h, e => by simp [parseFs] at e; exact e ▸ h
  | f :: fs, [], c, c', h, e => by simp [parseFs] at e
  | f :: fs, x :: ws, c, c', h, e => by
    unfold parseFs at e
    split at e
    · refine parseFs_rng fs ws _ c' ?_ e
      cases f with
      | first => exact ⟨getD_rng x, h.sm, h.b⟩
      | last => exact ⟨h.nm, getD_rng x, h.b⟩
      | b => exact ⟨h.nm, h.sm, getD_rng x⟩
      | _ => exact ⟨h.nm, h.sm, h.b⟩
    · cases e
theorem parseL_rng {ws : List (List UInt8)} {c : Cl} (h : parseL ws = .inl c) : Rng c := by
  have h0 : ∀ k, Rng (Cl.of k) := fun k => by constructor <;> intro x hx <;> cases hx
  unfold parseL at h
  split at h
  · cases h
  · split at h
    · split at h
      · rename_i hp; cases h; exact parseFs_rng _ _ _ _ (h0 _) hp
      · cases h
    · cases h
theorem parseL_inr {ws : List (List UInt8)} {n : Int} (h : parseL ws = .inr n) : n = 8 ∨ n = 10 := by
  unfold parseL at h
  split at h
  · cases h; exact .inr rfl
  · split at h
    · split at h
      · cases h
      · cases h; exact .inl rfl
    · cases h; exact .inl rfl
def PrintPost (k : Nat) (c : Cl) (w : World) (e : Ending) (w' : World) : Prop :=
  e = (if parseL (splitS (lineOf k c)) = .inl c then .returned (.tuple #[.string (bsOf (lineOf k c)), .int .i64 0]) else .returned (.tuple #[.string ⟨#[]⟩, .int .i64 1])) ∧ Below w.heap.size w w'
set_option maxRecDepth 100000 in
set_option maxHeartbeats 4000000 in
theorem print_main (c : Cl) (k : Nat) (hk : k < 10) (hck : c.kind = (k : Int) + 1) (hF : Fits c) (cells : Array Value) (w : World) (hV : VarsAt w) (hR : RepR w cells c) :
    Calls Tryz.prog 10 #[.agg cells] w (PrintPost k c w) := by
  obtain ⟨v4, v5, v6, rfl, h4, h5, h6⟩ := hR
  obtain ⟨A4, c4, rfl, l4, r4⟩ := h4
  obtain ⟨A5, c5, rfl, l5, r5⟩ := h5
  obtain ⟨A6, c6, rfl, l6, r6⟩ := h6
  have hR : RepR w (ClCells c (.slice A4 c.nm.length c4) (.slice A5 c.sm.length c5) (.slice A6 c.b.length c6)) c := ⟨_, _, _, rfl, ⟨_, _, rfl, l4, r4⟩, ⟨_, _, rfl, l5, r5⟩, ⟨_, _, rfl, l6, r6⟩⟩
  have HR := Lib.hid hR
  have HV := Lib.hid hV
  have HF := Lib.hid hF
  have g1 : decide (c.kind < 1) = false := by rw [decide_eq_false_iff_not]; omega
  have g2 : decide (10 < c.kind) = false := by rw [decide_eq_false_iff_not]; omega
  have g3 : decide (c.h < 0) = false := by rw [decide_eq_false_iff_not]; have := hF.hh; omega
  have g4 : decide (c.n < 0) = false := by rw [decide_eq_false_iff_not]; have := hF.nn; omega
  have HK := Lib.hid hck
  clear hR hV hF l4 r4 l5 r5 l6 r6 hck
  have hP0 : PrS w (ClCells c (.slice A4 c.nm.length c4) (.slice A5 c.sm.length c5) (.slice A6 c.b.length c6)) (w.alloc (.cells (ClCells c (.slice A4 c.nm.length c4) (.slice A5 c.sm.length c5) (.slice A6 c.b.length c6)) 30)) := ⟨blk_new _ _ _ rfl, (Below.refl _ _).alloc (Nat.le_refl _) _⟩
  have HP0 := Lib.hid hP0
  clear hP0
  unfold ClCells
  go_enter Tryz.func10, Tryz.ntmps10
  go_wp2_with fail
  obtain ⟨k0, k1, k3, hP⟩ := p_of HP0.out
  unfold ClCells at k0 k1 k3
  change Code.wp _ _ _ _ (w.alloc (.cells (ClCells c (.slice A4 c.nm.length c4) (.slice A5 c.sm.length c5) (.slice A6 c.b.length c6)) 30))
  generalize w.alloc (.cells (ClCells c (.slice A4 c.nm.length c4) (.slice A5 c.sm.length c5) (.slice A6 c.b.length c6)) 30) = W at hP ⊢
  clear k0 k1 k3
  obtain ⟨k0, k1, k3, hP⟩ := p_of hP
  go_region_held3 (fun w' => w'.cell? ⟨w.heap.size, 0, none⟩ = some (.int .i64 c.kind) ∧ w'.cell? ⟨w.heap.size, 1, none⟩ = some (.int .i64 c.h) ∧ w'.cell? ⟨w.heap.size, 3, none⟩ = some (.int .i64 c.n) ∧ PrS w (ClCells c (.slice A4 c.nm.length c4) (.slice A5 c.sm.length c5) (.slice A6 c.b.length c6)) w')
    (first | exact p_of (hP.call (Below.refl _ _).drew) | exact p_call (by assumption) (by assumption))
    (first | (go_at_call 16; refine (shapes_any _).mono ?_; rintro e w3 ⟨rfl, _, hw3⟩))
  have hP3 := (‹_ ∧ _ ∧ _ ∧ PrS _ _ w3›).2.2.2
  clear ‹_ ∧ _ ∧ _ ∧ PrS _ _ w3› hw3 ‹ShapesAt _ _› k0 k1 k3 hP
  obtain ⟨k0, hP⟩ := q_of HK.out hP3
  clear g1 g2 g3 g4 hP3
  have HI : ∀ (B : Nat) (w : World), (Instr.index 50 (.agg (shCells B)) (.int .i64 (k : Int))).run Tryz.prog w = .ok (.agg #[.string (wK k), .slice (some ⟨B + k, 0, none⟩) (fLen k) (fLen k)]) w := fun B w => idx_at B k hk w
  have s1 : IntKind.i64.wrap (k : Int) = (k : Int) := IntWalk.i64_in _ (by omega)
  have s2 : (k : Int) + 1 - 1 = k := by omega
  have hlt3 : w.heap.size < w3.heap.size := blk_lt hP.b
  go_upto_region 3 with fail
  go_cut [4] (fun s4 wx => ∃ B Sb, s4 = .pointer (some ⟨Sb, 0, none⟩) ∧ PQ w (ClCells c (.slice A4 c.nm.length c4) (.slice A5 c.sm.length c5) (.slice A6 c.b.length c6)) k B Sb wx)
  case first =>
    go_region_held3 (fun w' => w'.cell? ⟨w.heap.size, 0, none⟩ = some (.int .i64 ((k : Int) + 1)) ∧ PrS w (ClCells c (.slice A4 c.nm.length c4) (.slice A5 c.sm.length c5) (.slice A6 c.b.length c6)) w')
      (first | assumption | exact q_of HK.out (hP.call (Below.refl _ _).drew) | exact q_of HK.out (hP.call ((Below.refl _ _).alloc (Nat.le_refl _) _).drew) | exact q_call HK (by assumption) (by assumption) | exact q_of HK.out (PrS.call ‹PrS _ _ w4› ((Below.refl _ _).alloc (Nat.le_refl _) _)) | exact q_of HK.out ((PrS.set ‹PrS _ _ w4› _ _ _ hlt3).set _ _ _ hlt3))
      (first | (go_at_call 16; refine (shapes_any _).mono ?_; rintro e w4 ⟨rfl, hS4, hw4⟩; have hX4 := (q_call HK (by assumption) hw4).2; (try (have hz4 := blk_call hw4 (blk_drew (blk_new w3 (.cells #[.string ⟨#[]⟩, .slice none 0 0] 49 (0, 0)) w3.heap.size rfl)); have hz40 := blk_cell hz4 0; have hz41 := blk_cell hz4 1; have hzf0 := blk_frozen hz4 0; have hzf1 := blk_frozen hz4 1))))
    all_goals
      go_wp2_with fail
      go_meet
      first
        | exact ⟨w3.heap.size + 3, w4.heap.size, rfl, PQ.ofAlloc hX4 hS4⟩
        | exact ⟨w3.heap.size + 1 + 3, w3.heap.size, rfl, PQ.ofSet hX4 (by simpa using hS4) hlt3 (by omega) _ _ hz4⟩
  case rest =>
    obtain ⟨B, Sb, rfl, hQ⟩ := hcut
    clear hP hlt3 k0 s1 s2 HI
    have q0 := blk_cell hQ.s 0
    have q1 := blk_cell hQ.s 1
    have qlt := blk_lt hQ.s
    have hfl := fLen_le k hk
    go_wp2_with fail
    have hb0 := blk_new wc (.cells #[.string (wK k)] 9 (0, 0)) wc.heap.size rfl
    have hw0 : (wc.alloc (.cells #[.string (wK k)] 9)).ownsRow wc.heap.size 9 1 (.slice (some ⟨wc.heap.size, 0, none⟩) 1 1) 1 (wsC (lineWs k c) 1) :=
      ⟨rfl, .inr ⟨wc.heap.size, 1, _, rfl, Nat.le_refl _, hb0, Nat.le_refl _, by decide, rfl, rfl⟩⟩
    have hbe0 : Below wc.heap.size wc (wc.alloc (.cells #[.string (wK k)] 9)) := (Below.refl _ _).alloc (Nat.le_refl _) _
    have HQ := Lib.hid hQ
    clear hQ q0 q1 hb0
    obtain ⟨L0, hL0⟩ : ∃ L0, wc.heap.size = L0 := ⟨_, rfl⟩
    have HL0 := Lib.hid hL0
    rw [hL0] at hw0 hbe0 ⊢
    clear hL0 qlt
    obtain ⟨i0, hi, hz0, hz1, hz2⟩ := info_parts strInfo
    go_loopw [5, 42] (fun v j wr => ∃ jn : Nat, jn ≤ fLen k ∧ j = .int .i64 jn ∧ wr.ownsRow L0 9 1 v (1 + jn) (wsC (lineWs k c) (1 + jn)) ∧ Below L0 wc wr) (fun _ j _ => fLen k - (intOf j).toNat)
    case atStart => exact ⟨0, by omega, rfl, hw0, hbe0⟩
    case round =>
      clear hw0 hbe0
      obtain ⟨jn, hj, rfl, hown, hbe⟩ := hrel
      have HO := Lib.hid hown
      by_cases hjl : jn < fLen k
      · obtain ⟨f, hf⟩ : ∃ f, (fldsOf k)[jn]? = some f := ⟨(fldsOf k)[jn]'(by rw [fLen_eq] at hjl; exact hjl), List.getElem?_eq_getElem _⟩
        have hQr := HQ.out.call (by rw [HL0.out]; exact hbe)
        have hc0 := (blk_cell (hQr.sh k hk) (jn * 2)).trans (fCells_at k hk jn f hf).1
        have hc1 := (blk_cell (hQr.sh k hk) (jn * 2 + 1)).trans (fCells_at k hk jn f hf).2
        have hjd : decide ((jn : Int) < (fLen k : Int)) = true := by rw [decide_eq_true_eq]; omega
        have hent := put_enters f
        have Hf := Lib.hid hf
        have HQr := Lib.hid hQr
        clear hf hQr hown
        go_wp2_with fail
        refine (putF_at f HV.out HR.out HF.out HQr.out (by repeat' (first | (with_reducible exact Below.refl _ _) | (with_reducible assumption) | (with_reducible refine below_drewN ?_ _) | (with_reducible refine Below.drew ?_) | (with_reducible refine Below.alloc ?_ ?_ _) | (with_reducible refine Below.setCell ?_ ?_ _) | go_size))).mono ?_
        rintro e w5 ⟨rfl, hw5⟩
        have hs0 : L0 ≤ wr.heap.size := by have := hbe.size; have := HL0.out; omega
        have hB5 : Below L0 wc w5 := below_new (hbe.alloc hs0 _) hw5 (by simp; omega)
        have hs5 : L0 ≤ w5.heap.size := by have := hw5.size; simp at this; omega
        have hown5 : w5.ownsRow L0 9 1 u5 (1 + jn) (wsC (lineWs k c) (1 + jn)) :=
          own_move HO.out (fun k hk => (hw5.block k (by have := own_lt HO.out k hk; simp; omega)).trans (Below.heap_alloc _ _ _ (own_lt HO.out k hk)))
        have hjb : jn < 1000 := by omega
        clear hw5 hc0 hc1 hent hbe
        go_wp2_with (first | (at_builtin; refine wpList_append_own _ (by rfl) (.tmp 46) (.tmp 50) 45 (by rfl) L0 9 i0 (.string ⟨#[]⟩) 1 16 Tryz.underlying45 hi hz0 hz1 hz2 rfl (by decide) _ _ _ (by rfl) (hown5.alloc _) ⟨w5.heap.size, 0, none⟩ 1 1 [_] (by rfl) rfl (one_news _ _ _) (by simp [Value.oneCell']) (by unfold maxLen; omega) (by omega) (by simp; omega) ?_))
        intro v' w6 hown6 hgrow _
        have hB6 : Below L0 wc w6 := (hB5.alloc hs5 _).grown hgrow (by simp; omega) (fun k hk => own_base hown5 k hk)
        have H6 := Lib.hid hown6
        clear hown6 hgrow hown5 hB5
        go_wp2_with fail
        go_roundw
        case rel =>
          refine ⟨jn + 1, by omega, by go_num, ?_, hB6⟩
          rw [show 1 + (jn + 1) = 1 + jn + 1 by omega, wsC_succ (lineWs_at Hf.out)]
          exact H6.out
        case measure => simp [intOf]; omega
      · have hjn : jn = fLen k := by omega
        have hjd : decide ((jn : Int) < (fLen k : Int)) = false := by rw [decide_eq_false_iff_not]; omega
        have hll := lineWs_len k c
        have hle : (lineOf k c).length ≤ 20000 := line_le hk HF.out
        obtain ⟨g, cap, rfl, hJ⟩ := join_own (lineWs k c) u5 L0 wr (by omega) (by omega) (by unfold lineOf at hle; omega) (by rw [hll, ← hjn]; exact hown)
        have hJ' : Calls Tryz.prog 26 #[.slice (some ⟨g, 0, none⟩) (lineWs k c).length cap, .string ⟨#[32]⟩] wr fun e w' => e = .returned (.string (bsOf (lineOf k c))) ∧ Below wr.heap.size wr w' := hJ
        have HJ := Lib.hid hJ'
        have HLL := Lib.hid hll
        have hQr := HQ.out.call (by rw [HL0.out]; exact hbe)
        have HPr := Lib.hid hQr.p
        have hfin : Below w.heap.size w wr := hQr.p.below
        clear hjn hll hJ hJ' hown HO hQr HQ
        go_wp2_with fail
        refine HJ.out.mono ?_
        rintro e w6 ⟨rfl, hw6⟩
        have hP6 := HPr.out.call hw6
        have hPa := Lib.hid (parse_any (bsOf (lineOf k c)) (by rw [bsOf_size]; omega) w6 (HV.out.call hP6.below))
        have HP6 := Lib.hid hP6
        clear hP6 hw6 hfin hbe
        go_wp2_with fail
        refine hPa.out.mono ?_
        rintro e w7 ⟨he, hw7⟩
        rw [bsOf_data] at he
        have hP7 := HP6.out.call hw7
        cases hpl : parseL (splitS (lineOf k c)) with
        | inr n =>
          rw [hpl] at he
          obtain rfl : e = _ := he
          have hn : (n == 0) = false := by
            rcases parseL_inr hpl with rfl | rfl <;> rfl
          have hn' : (n != 0) = true := by
            rcases parseL_inr hpl with rfl | rfl <;> rfl
          have Hpl := Lib.hid hpl
          have HP7 := Lib.hid hP7
          clear hpl hw7 hP7
          unfold ClCells
          go_wp2_with fail
          go_returns
          refine ⟨?_, (HP7.out.call ((Below.refl _ _).alloc (Nat.le_refl _) _)).below⟩
          rw [if_neg (by rw [Hpl.out]; simp)]
          rfl
        | inl c' =>
          rw [hpl] at he
          obtain ⟨N, cells', rfl, hrep⟩ := he
          have hrd := hrep.rd
          obtain ⟨v4, v5, v6, rfl, ⟨A4', c4', rfl, l4', r4'⟩, ⟨A5', c5', rfl, l5', r5'⟩, ⟨A6', c6', rfl, l6', r6'⟩⟩ := hrd
          clear hrep
          have hal : Below w7.heap.size w7 (w7.alloc (.cells (ClCells c' (.slice A4' c'.nm.length c4') (.slice A5' c'.sm.length c5') (.slice A6' c'.b.length c6')) 30)) := (Below.refl _ _).alloc (Nat.le_refl _) _
          have hR8 : RepR (w7.alloc (.cells (ClCells c' (.slice A4' c'.nm.length c4') (.slice A5' c'.sm.length c5') (.slice A6' c'.b.length c6')) 30)) (ClCells c' (.slice A4' c'.nm.length c4') (.slice A5' c'.sm.length c5') (.slice A6' c'.b.length c6')) c' :=
            RepR.below ⟨_, _, _, rfl, ⟨_, _, rfl, l4', r4'⟩, ⟨_, _, rfl, l5', r5'⟩, ⟨_, _, rfl, l6', r6'⟩⟩ hal
          have hP8 := hP7.call hal
          have hS := Lib.hid (same_any _ _ c' c _ hR8 (HR.out.below hP8.below) (parseL_rng hpl) HF.out.rng)
          have h9 := blk_new w7 (.cells (ClCells c' (.slice A4' c'.nm.length c4') (.slice A5' c'.sm.length c5') (.slice A6' c'.b.length c6')) 30 (0, 0)) w7.heap.size rfl
          have h1 := hP8.b
          have HP8 := Lib.hid hP8
          have Hpl := Lib.hid hpl
          have x0 := blk_cell h9 0
          have x1 := blk_cell h9 1
          have x2 := blk_cell h9 2
          have x3 := blk_cell h9 3
          have x4 := blk_cell h9 4
          have x5 := blk_cell h9 5
          have x6 := blk_cell h9 6
          have x7 := blk_cell h9 7
          have x8 := blk_cell h9 8
          have y0 := blk_cell h1 0
          have y1 := blk_cell h1 1
          have y2 := blk_cell h1 2
          have y3 := blk_cell h1 3
          have y4 := blk_cell h1 4
          have y5 := blk_cell h1 5
          have y6 := blk_cell h1 6
          have y7 := blk_cell h1 7
          have y8 := blk_cell h1 8
          clear h9 h1 hP8 hpl hP7 hw7 hR8 hal l4' r4' l5' r5' l6' r6'
          unfold ClCells at *
          go_wp2_with fail
          refine hS.out.mono ?_
          rintro e w9 ⟨rfl, hw9⟩
          have hbel := (HP8.out.call hw9).below
          clear hw9 x0 x1 x2 x3 x4 x5 x6 x7 x8 y0 y1 y2 y3 y4 y5 y6 y7 y8
          by_cases heq : c' = c
          · rw [decide_eq_true heq]
            have HE := Lib.hid heq
            clear heq
            go_wp2_with fail
            go_returns
            refine ⟨?_, hbel⟩
            rw [if_pos (by rw [Hpl.out, HE.out])]
            rfl
          · rw [decide_eq_false heq]
            have HE := Lib.hid heq
            clear heq
            go_wp2_with fail
            go_returns
            refine ⟨?_, hbel⟩
            rw [if_neg (by rw [Hpl.out]; intro e; exact HE.out (Sum.inl.inj e))]
            rfl
end Go.Proofs.YtgfncnnidacllaaGreatDoor
