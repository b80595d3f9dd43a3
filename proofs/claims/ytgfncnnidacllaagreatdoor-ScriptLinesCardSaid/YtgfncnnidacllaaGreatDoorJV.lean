/- Lemmas for the claim, parts put together: what a listed variable's block holds, out of the row's condition: here the table of algorithms; what the package-level variables hold, out of the row's condition and of the world's shape. -/
import Derived.Test.YtgfncnnidacllaaGreatDoorJA
import Derived.Test.YtgfncnnidacllaaGreatDoorRows
import Derived.Lib.LaidU8
import Derived.OpenShut
import Derived.LaidSub
import Derived.Test.YtgfncnnidacllaaGreatDoorJC
import Derived.HandedShaped
import Derived.Shelf.Vars
import Derived.Lib.LaidTab
set_option linter.unusedVariables false
set_option linter.unusedSimpArgs false
namespace Go.Proofs.YtgfncnnidacllaaGreatDoor
open Go.RowKit
theorem laidVars_block {P : Program} {w : World} : ∀ {l : List (String × DataW Unit)} {ps : List MemPlace}, DataW.LaidVars P w l ps → ∀ n d, (n, d) ∈ l →
    ∃ g t cs fuel p, P.globalNamed n = some g ∧ (P.globals[g]?).map (·.type) = some t ∧ w.var? P n = some cs ∧ DataW.trod (fun _ => ()) P w 0 (fun _ => true) false fuel t cs.toList = some (d, p) ∧ ∀ i, i < cs.size → MemPlace.cell g i ∈ ps
  | [], _, _, _, _, hm => by cases hm
  | (n', d') :: r, ps, h, n, d, hm => by
    obtain ⟨g, t, cs, fuel, p, q, h1, h2, h3, h4, h5, h6⟩ := h
    rcases List.mem_cons.1 hm with e | e
    · cases e
      refine ⟨g, t, cs, fuel, p, h1, h2, h3, h4, fun i hi => ?_⟩
      rw [h6, List.mem_append, List.mem_append]
      refine .inl (.inl ?_)
      simp only [MemPlace.row, List.mem_map, List.mem_range]
      exact ⟨i, hi, by simp⟩
    · obtain ⟨g', t', cs', fuel', p', k1, k2, k3, k4, k5⟩ := laidVars_block h5 n d e
      exact ⟨g', t', cs', fuel', p', k1, k2, k3, k4, fun i hi => by rw [h6]; exact List.mem_append_right _ (k5 i hi)⟩
theorem laid_block {P : Program} {w : World} {l : List (String × DataW Unit)} (h : laidMet P l w) {n : String} {d : DataW Unit} (hm : (n, d) ∈ l) {g : Nat} {t : TypeId} (hg : P.globalNamed n = some g) (ht : (P.globals[g]?).map (·.type) = some t) :
    ∃ cs fuel p, DataW.trod (fun _ => ()) P w 0 (fun _ => true) false fuel t cs.toList = some (d, p) ∧ (0 < cs.size → ∃ t', w.heap[g]? = some (.cells cs t' (0, 0))) := by
  obtain ⟨ps, hv, _, hz⟩ := h
  obtain ⟨g', t', cs, fuel, p, h1, h2, h3, h4, h5⟩ := laidVars_block hv n d hm
  obtain rfl := Option.some.inj (hg.symm.trans h1)
  obtain rfl := Option.some.inj (ht.symm.trans h2)
  refine ⟨cs, fuel, p, h4, fun hc => ?_⟩
  obtain ⟨⟨c, t', hb⟩, _⟩ := hz g 0 (h5 0 hc)
  simp only [World.var?, h1, Option.bind_some, hb, Option.some.injEq] at h3
  exact ⟨t', h3 ▸ hb⟩
theorem chunks_eq {α : Type} (k : Nat) : ∀ (n : Nat) (a b : List α), a.length = n * k → b.length = n * k → (∀ i, i < n → (a.drop (i * k)).take k = (b.drop (i * k)).take k) → a = b
  | 0, a, b, ha, hb, _ => by
    rw [Nat.zero_mul] at ha hb
    rw [List.length_eq_zero_iff.1 ha, List.length_eq_zero_iff.1 hb]
  | n + 1, a, b, ha, hb, h => by
    have h0 := h 0 (by omega)
    rw [Nat.zero_mul, List.drop_zero, List.drop_zero] at h0
    have hr := chunks_eq k n (a.drop k) (b.drop k) (by rw [List.length_drop, ha, Nat.add_mul]; omega) (by rw [List.length_drop, hb, Nat.add_mul]; omega) (fun i hi => by
      have := h (i + 1) (by omega)
      rw [List.drop_drop, List.drop_drop]
      rw [Nat.add_mul, Nat.one_mul, Nat.add_comm] at this
      exact this)
    rw [← List.take_append_drop k a, ← List.take_append_drop k b, h0, hr]
theorem gEnts : Tryz.prog.globalNamed "cribble/alg.entries" = some 0 := by kernel_rfl
theorem tEnts : (Tryz.prog.globals[0]?).map (·.type) = some 113 := by kernel_rfl
theorem cEnts : Tryz.prog.cellsOf 113 = 60 := by kernel_rfl
theorem cEntry : Tryz.prog.cellsOf 101 = 4 := by kernel_rfl
theorem cStr : Tryz.prog.cellsOf 9 = 1 := by kernel_rfl
theorem cInt : Tryz.prog.cellsOf 3 = 1 := by kernel_rfl
theorem ba_eq {s : ByteArray} {l : List UInt8} (h : s.data.toList = l) : s = ⟨l.toArray⟩ := by rw [← h]
set_option maxRecDepth 100000 in
theorem entry_chunks : ∀ i, i < 15 → ((entCells.toList.drop (i * 4)).take 4) = [Value.string ⟨(entAt i).1.toArray⟩, .int .i64 (entAt i).2.1, .int .i64 (entAt i).2.2.1, .int .i64 (entAt i).2.2.2] := by
  intro i hi
  rcases i with _ | _ | _ | _ | _ | _ | _ | _ | _ | _ | _ | _ | _ | _ | _ | i
  all_goals first | rfl | omega
set_option maxRecDepth 100000 in
theorem entry_read {w : World} {m : Nat} {cs : List Value} {x : DataW Unit × List MemPlace} (h : DataW.trod (fun _ => ()) Tryz.prog w 0 (fun _ => true) false m 101 cs = some x) :
    ∃ (s : ByteArray) (a b c : Int), cs = [.string s, .int .i64 a, .int .i64 b, .int .i64 c] ∧ x.1 = .agg [.lit (.string s.data.toList), .lit (.int .i64 a), .lit (.int .i64 b), .lit (.int .i64 c)] := by
  obtain ⟨xs, n, _, rfl, hl, hlen, hf⟩ := DataW.trod_struct Tryz.underlying101 h
  rw [cEntry] at hl
  match cs, hl, xs, hlen, hf with
  | [c0, c1, c2, c3], _, [y0, y1, y2, y3], _, hf =>
    have h0 : DataW.trod (fun _ => ()) Tryz.prog w 0 (fun _ => true) false n 9 (([c0, c1, c2, c3].drop 0).take (Tryz.prog.cellsOf 9)) = some y0 := hf 0 _ rfl
    have h1 : DataW.trod (fun _ => ()) Tryz.prog w 0 (fun _ => true) false n 3 (([c0, c1, c2, c3].drop 1).take (Tryz.prog.cellsOf 3)) = some y1 := hf 1 _ rfl
    have h2 : DataW.trod (fun _ => ()) Tryz.prog w 0 (fun _ => true) false n 3 (([c0, c1, c2, c3].drop 2).take (Tryz.prog.cellsOf 3)) = some y2 := hf 2 _ rfl
    have h3 : DataW.trod (fun _ => ()) Tryz.prog w 0 (fun _ => true) false n 3 (([c0, c1, c2, c3].drop 3).take (Tryz.prog.cellsOf 3)) = some y3 := hf 3 _ rfl
    rw [cStr] at h0
    rw [cInt] at h1 h2 h3
    obtain ⟨s, e0, rfl, _⟩ := DataW.trod_string Tryz.underlying9 h0
    obtain ⟨a, e1, rfl, _⟩ := DataW.trod_int Tryz.underlying3 h1
    obtain ⟨b, e2, rfl, _⟩ := DataW.trod_int Tryz.underlying3 h2
    obtain ⟨c, e3, rfl, _⟩ := DataW.trod_int Tryz.underlying3 h3
    simp at e0 e1 e2 e3
    subst e0 e1 e2 e3
    exact ⟨s, a, b, c, rfl, rfl⟩
theorem entries_data : (Rows.laid_cribble_alg_entries : DataW Unit) = .agg (entT.map fun e => .agg [.lit (.string e.1), .lit (.int .i64 e.2.1), .lit (.int .i64 e.2.2.1), .lit (.int .i64 e.2.2.2)]) := rfl
set_option maxRecDepth 100000 in
theorem ents_of_laid {w : World} {l : List (String × DataW Unit)} (h : laidMet Tryz.prog l w) (hm : ("cribble/alg.entries", Rows.laid_cribble_alg_entries) ∈ l) : Ents w := by
  obtain ⟨cs, fuel, p, hd, hb⟩ := laid_block h hm gEnts tEnts
  rw [entries_data] at hd
  obtain ⟨xs, m, _, hx, hl, hn, hel⟩ := DataW.trod_array Tryz.underlying113 hd
  rw [cEnts] at hl
  simp only [Prod.mk.injEq, DataW.agg.injEq] at hx
  have hcs : cs.toList = entCells.toList := by
    refine chunks_eq 4 15 _ _ hl (by rfl) fun i hi => ?_
    have hE := hel i hi
    rw [cEntry, List.getElem?_eq_getElem (by omega)] at hE
    obtain ⟨s, a, b, c, e1, e2⟩ := entry_read hE
    have e3 : (xs.map (·.1))[i]? = some (xs[i]'(by omega)).1 := by rw [List.getElem?_map, List.getElem?_eq_getElem (by omega)]; rfl
    rw [← hx.1, List.getElem?_map, e2] at e3
    have hlen : entT.length = 15 := rfl
    rw [List.getElem?_eq_getElem (by omega)] at e3
    simp only [Option.map_some, Option.some.injEq, DataW.agg.injEq, List.cons.injEq, DataW.lit.injEq, Lit.string.injEq, Lit.int.injEq, true_and, and_true] at e3
    obtain ⟨f1, f2, f3, f4⟩ := e3
    have hat : entAt i = entT[i]'(by omega) := by rw [entAt, List.getD, List.getElem?_eq_getElem (by omega)]; rfl
    rw [e1, entry_chunks i hi, hat, f2, f3, f4, ba_eq f1.symm]
  have hc : cs = entCells := by
    rw [← Array.toArray_toList (xs := cs), hcs]
  subst hc
  exact hb (by rw [show entCells.size = 60 from rfl]; omega)
end Go.Proofs.YtgfncnnidacllaaGreatDoor
namespace Go.Proofs.YtgfncnnidacllaaGreatDoor
open Go.RowKit Go.ChangeShapes
theorem handed_laid_shaped {H : Type} {enc : TypeId × Value → H} {a : Assume} {C : Checked} {os : Os} {f : FuncId} {fn : Func} {s : ChangeSpec} {conds : List PathCond} {apart fresh handsOn again : Bool} {X : World → Array Value → Prop}
    (hX : ∀ (w w' : World) (args : Array Value), w.heap = w'.heap → X w args → X w' args)
    (own : ownKnob C.prog.godebug = none) (started : os.Started) (noInit : C.prog.inits.idxOf? f = none) (hfn : C.prog.funcs[f]? = some fn)
    (witness : ∃ (w : World) (tape : Tape) (i : Input), w.os = os ∧ (w.forCall tape i).Shaped C.prog ∧ i.vars = [] ∧ Input.okWide C.prog (w.forCall tape i) .any w.heap.size f i ∧
      ((s.pre enc C.prog fn conds apart (w.forCall tape i).memory i.args ∧ X (w.forCall tape i).memory i.args) ∧ sizedMet enc C.prog fn (OpenSpec.ofChange s) apart (w.forCall tape i).memory i.args) ∧ a.holds C.prog (lone (Frame.enter C.prog f i.args .normal) [] (w.forCall tape i)))
    (contract : ∀ (W : World) (base : Nat) (args : Array Value) (ds gs : List (DataW H)) (before : List MemPlace),
      (∀ (j : Nat) t v, fn.params[j]? = some t → args[j]? = some v → Value.okWide C.prog W .any base t v) →
      DataW.Whole enc C.prog fn.params.toList s.vars apart W args.toList ds gs before →
      conds.all (PathCond.test C.prog ⟨fn.params.toList, ds, s.plain.varTypes C.prog, gs⟩) = true →
      (DataW.weightsEach C.prog (fn.params.toList ++ s.plain.varTypes C.prog) (ds ++ gs)).all (· ≤ reachBytes) = true → X W args → W.ShapedOpen C.prog →
      a.holds C.prog (lone (Frame.enter C.prog f args .normal) [] W) →
      Calls C.prog f args W fun e W' => ∃ v, e = .returned v ∧ s.post enc C.prog fn apart fresh handsOn again W args v W') :
    ReturnsInHanded a C os f .any (fun w args => (s.pre enc C.prog fn conds apart w args ∧ X w args) ∧ sizedMet enc C.prog fn (OpenSpec.ofChange s) apart w args) (s.post enc C.prog fn apart fresh handsOn again) := by
  refine returnsInHanded_of_calls own started noInit witness ?_
  intro w tape i _ hsh _ hok hpre hholds
  obtain ⟨_, _, _, fn', hfn', _, _, _, _, hval⟩ := hok
  have e : fn' = fn := Option.some.inj (hfn'.symm.trans hfn)
  subst e
  obtain ⟨⟨⟨ds, gs, before, hw, hc⟩, hx⟩, hz⟩ := hpre
  have hw' := DataW.Whole.of_heap (w' := w.forCall tape i) (by rfl) hw
  refine (contract (w.forCall tape i) w.heap.size i.args ds gs before hval hw' hc (hz.weights hw) (hX _ _ _ (by rfl) hx) hsh hholds).mono fun e W' ⟨v, he, hp⟩ => ?_
  subst he
  exact ChangeSpec.post_blind hp
set_option maxRecDepth 100000 in
theorem trod_face {t : TypeId} {ms : Array (String × TypeId)} (ht : Tryz.prog.underlying t = some (.interface ms)) {W : World} {fuel : Nat} {cs : List Value} {y : DataW Unit × List MemPlace} (h : DataW.trod (fun _ => ()) Tryz.prog W 0 (fun _ => true) false fuel t cs = some y) :
    ∃ v, cs = [v] ∧ (v = .nilIface ∨ ∃ te pe, v = .iface te pe) := by
  cases fuel with
  | zero => simp [DataW.trod] at h
  | succ n =>
    match cs, h with
    | [], h => simp [DataW.trod, ht] at h
    | [v], h => cases v <;> simp [DataW.trod, ht] at h <;> simp
    | _ :: _ :: _, h => simp [DataW.trod, ht] at h
theorem err_of_laid {w : World} {l : List (String × DataW Unit)} (h : laidMet Tryz.prog l w) {n : String} {d : DataW Unit} (hm : (n, d) ∈ l) {g : Nat} (hg : Tryz.prog.globalNamed n = some g) (ht : (Tryz.prog.globals[g]?).map (·.type) = some 81) :
    ∃ ev, w.cell? ⟨g, 0, none⟩ = some ev ∧ (ev = .nilIface ∨ ∃ te pe, ev = .iface te pe) := by
  obtain ⟨cs, fuel, p, hd, hb⟩ := laid_block h hm hg ht
  obtain ⟨v, hv, hface⟩ := trod_face Tryz.underlying81 hd
  have hc : cs = #[v] := Array.eq_one_of_toList hv
  subst hc
  obtain ⟨t', ht'⟩ := hb (by simp)
  exact ⟨v, blk_cell ht' 0, hface⟩
theorem laid_head {P : Program} {w : World} {n : String} {d : DataW Unit} (h : Lib.VarReads P w n d) {k : IntKind} {zs : List Int} (hd : d = Lib.tabData k zs) {g : Nat} {t e : TypeId} {m : Nat}
    (hg : P.globalNamed n = some g) (hty : (P.globals[g]?).map (·.type) = some t) (ht : P.underlying t = some (.array m e)) (he : P.underlying e = some (.int k)) (hce : P.cellsOf e = 1) (hct : P.cellsOf t = m) : Lib.TabIs P w n k zs := by
  obtain ⟨g', t', cs, fuel, p, hg', ht', hvar, hd'⟩ := h
  subst hd
  obtain rfl := Option.some.inj (hg.symm.trans hg')
  obtain rfl := Option.some.inj (hty.symm.trans ht')
  unfold Lib.TabIs
  rw [hvar, ← Lib.cells_of_tab ht he hce hct hd']
theorem vars_at {w : World} {l : List (String × DataW Unit)} (h : laidMet Tryz.prog l w) (hsh : w.ShapedOpen Tryz.prog) (h1 : ("cribble/alg.entries", Rows.laid_cribble_alg_entries) ∈ l) (h2 : ("strconv.ErrSyntax", Rows.laid_strconv_ErrSyntax) ∈ l) (h3 : ("strconv.ErrRange", Rows.laid_strconv_ErrRange) ∈ l)
    (h4 : ("internal/strconv.uint64pow10", Rows.laid_internal_strconv_uint64pow10) ∈ l) : VarsAt w where
  syn := err_of_laid h h2 (by kernel_rfl) (by kernel_rfl)
  ran := err_of_laid h h3 (by kernel_rfl) (by kernel_rfl)
  max := cell_of_shapedOpen_int hsh (t := 3) (zero := #[.int .i64 0]) (of_decide_eq_true (by kernel_rfl)) (by kernel_rfl) rfl (by kernel_rfl) (by kernel_rfl) Tryz.underlying3
  tab := laid_head (Lib.laidMet.reads h h4) (k := .u64) (zs := Lib.pow10Tab) (by kernel_rfl) (g := 4) (t := 134) (e := 26) (m := 20) (by kernel_rfl) (by kernel_rfl) Tryz.underlying134 Tryz.underlying26 (by kernel_rfl) (by kernel_rfl)
  ent := ents_of_laid h h1
end Go.Proofs.YtgfncnnidacllaaGreatDoor
