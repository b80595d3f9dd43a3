/- The tied card of the law that a full desk takes no hasher more is proved: for every input the law returns true. Conditions: the card's own (the listed variables start as the program's text lays them). -/
import Derived.Test.YtlbnnlnjdkjppaaGreatDoorLaw
import Derived.Test.YtlbnnlnjdkjppaaGreatDoorLaid
import Derived.Test.YtlbnnlnjdkjppaaGreatDoorCards
import Derived.Test.YtlbnnlnjdkjppaaGreatDoorTie
import Derived.ProofKit
import Derived.LaidMore
import Derived.Lay
import Derived.SevenTiedAt
import Derived.Stop.Joined
import Derived.Leaving
import Derived.Conc.Holds
namespace Go.Proofs.YtlbnnlnjdkjppaaGreatDoor
open Go.ChangeShapes Go.WideShapes Go.ChangeAt Go.RowKit

theorem own : ownKnob Tryz.prog.godebug = none := by kernel_rfl

/-- A call that starts no goroutine leaves none behind. -/
theorem leaving_of_handed {a : Assume} {C : Checked} {os : Os} {f : FuncId} {r : Reach} {Pre : World → Array Value → Prop} {Post : World → Array Value → Value → World → Prop} (h : ReturnsInHanded a C os f r Pre Post) : ReturnsInLeavingWide a C os f r Pre Post := fun enter =>
  ReturnsInOpen.mono (fun _ _ _ x => ⟨x.2.1, onlyLeaving_of_quiet x.1, x.2.2⟩) (fun _ x => x) (h enter)

set_option maxRecDepth 100000 in
theorem deskFull_lifted (os : Os) (started : os.Started) (H : Type) (enc : TypeId × Value → H) :
    ReturnsInHanded {} Tryz.checked os 3 .any (fun w args => (Rows.deskFullSpec.pre enc Tryz.prog Tryz.f3 [] false w args ∧ laidMetH Tryz.prog Rows.deskFullRow.laid w) ∧ sizedMet enc Tryz.prog Tryz.f3 (OpenSpec.ofChange Rows.deskFullSpec) false w args)
      (Rows.deskFullSpec.post enc Tryz.prog Tryz.f3 false true false false) := by
  refine returnsInHanded_of_change_and (C := Tryz.checked) (X := fun w _ => laidMetH Tryz.prog Rows.deskFullRow.laid w) (fun _ _ _ hh h => h.of_heap hh) own started (by kernel_rfl) Tryz.func3
    (ChangeSpec.witness_shaped (enc := enc) (C := Tryz.checked) (os := os) (X := fun w _ => laidMetH Tryz.prog Rows.deskFullRow.laid w) false (World.laidAll Tryz.prog os Rows.deskFullRow.laid) #[.int .u8 0, .int .i64 0] 8 (World.laidAll_os _ _ _)
      (World.shaped_of_ZipB (by kernel_rfl) (by kernel_rfl)) (by kernel_rfl) (by kernel_rfl) (by kernel_rfl)
      (by rw [MakeChecks.laidMetH_plain _ _ _ (by kernel_rfl)]; exact laidMet_laidAll _ (by kernel_rfl) (by kernel_rfl))) ?_
  intro W base args ds gs before hval0 hW _ _ hL _
  have hval : ∀ (j : Nat) t v, Tryz.f3.params[j]? = some t → args[j]? = some v → Value.okWide Tryz.prog W .any base t v := hval0
  have hW' := hW
  obtain ⟨p, q, hA0, hV, rfl, _, _⟩ := hW
  have hA : DataW.TrodAll enc Tryz.prog W 0 (fun _ => true) true Tryz.f3.params.toList args.toList ds p := hA0
  rw [Tryz.params3] at hA hval
  obtain ⟨v0, v1, d0, d1, p0, p1, rfl, rfl, rfl, h0, h1⟩ := trodAll_two hA
  obtain ⟨rfl, rfl⟩ := trodVars_none hV
  obtain ⟨m, rfl, rfl, rfl, wm⟩ := open_int Tryz.underlying5 (hval 0 5 v0 rfl rfl) h0
  obtain ⟨h, rfl, rfl, rfl, wh⟩ := open_int Tryz.underlying3 (hval 1 3 v1 rfl rfl) h1
  clear hA0 hval0
  simp only [List.append_nil] at hW'
  have hE : Ents W := by
    rw [MakeChecks.laidMetH_plain _ _ _ (by kernel_rfl)] at hL
    exact ents_of_laid hL (by simp [Rows.deskFullRow])
  have hm := bounds_u8 wm
  refine (full_any m h (by omega) W hE).mono fun e W' ⟨he, hB⟩ => ?_
  subst he
  exact ⟨_, rfl, _, _, _, [], [], [], hW', trodAll_mk1 (shut_bool Tryz.underlying4 _), trodAll_mk2 (shut_int Tryz.underlying5 wm) (shut_int Tryz.underlying3 wh), rfl, hB.frame _, fun h => by cases h⟩

theorem deskFull_holds : Rows.DeskFullSaid :=
  OpenClaim.holds_of_wide_leaving 3 Tryz.f3 rfl rfl rfl rfl rfl rfl rfl ⟨rfl, rfl, rfl, rfl, rfl⟩ rfl rfl rfl rfl rfl (by kernel_rfl) Tryz.func3 (by kernel_rfl)
    (of_decide_eq_true (by kernel_rfl)) (by unfold Func.isWrapper; first | (rw [if_pos (by decide +kernel)]; kernel_rfl) | (rw [if_neg (by decide +kernel)]; exact ⟨rfl, rfl⟩))
    (fun os started H enc _ => leaving_of_handed (deskFull_lifted os started H enc))

theorem deskFull_looks : ∀ f fn, Tryz.pinned.checked.prog.funcNamed Rows.deskFullRow.func = some f → Tryz.pinned.checked.prog.funcs[f]? = some fn → true = Tryz.pinned.checked.prog.looks [] ∧ ∀ (j : Nat) t, fn.params[j]? = some t → Tryz.pinned.checked.prog.wantsStandIn t = false := fun f fn hf hfn => by
  obtain rfl : f = 3 := Option.some.inj ((show Tryz.prog.funcNamed "cribble/cribblelaw23.DeskFull" = some 3 by kernel_rfl).symm.trans hf) |>.symm
  obtain rfl : fn = Tryz.f3 := (Option.some.inj (Tryz.func3.symm.trans hfn)).symm
  exact ⟨by kernel_rfl, fun j t ht => by
    rw [Tryz.params3] at ht
    have hm : t ∈ [5, 3] := by simpa using Array.mem_of_getElem? ht
    have hall : ([5, 3].all fun u => !Tryz.prog.wantsStandIn u) = true := by kernel_rfl
    exact (show Tryz.prog.wantsStandIn t = false by simpa using List.all_eq_true.1 hall t hm)⟩

/-- THE TIED CARD. -/
theorem deskFull_card_holds : Rows.DeskFullCardSaid := by
  have h6 : Claim7.isSixth { stood := { row := Rows.deskFullRow, standIns := [], harness := (true, "49c3631f3dc7773025b3801f838056b161aca2d67153e7ef27d034b392ae5c03"), looks := true }, kinds := [] } = false := by simp [Claim7.isSixth]
  exact ⟨Claim7.tied_new_at .later [.data, .data, .data, .data, .widerDeep, .data, .data, .data, .data, .data, .data, .pinned] true (Claim7.new_of_sixth deskFull_holds (true, "49c3631f3dc7773025b3801f838056b161aca2d67153e7ef27d034b392ae5c03") true rfl ⟨rfl, rfl⟩ (by kernel_rfl) h6 deskFull_looks) (by kernel_rfl),
    (fun _ h => by cases h), deskFull_row_tie, (fun h => by cases h), by kernel_rfl⟩
#print axioms deskFull_holds
#print axioms deskFull_card_holds
end Go.Proofs.YtlbnnlnjdkjppaaGreatDoor
