/- Lemmas for the claim: (*Desk).Clone at a full desk. -/
import Derived.Test.YtlbnnlnjdkjppaaGreatDoorDesk5
namespace Go.Proofs.YtlbnnlnjdkjppaaGreatDoor
open Go.RowKit

/-- What stays while a full desk's hasher is cloned. -/
def Full (w W : World) (B N1 N2 p q : Nat) (a : Int) (ks : List Int) (last : Int) : Prop :=
  W.cell? ⟨N1, 0, none⟩ = some (.pointer (some ⟨p, 0, none⟩)) ∧ W.heap[N2]? = some (.cells #[.int .i64 0] 3 (0, 0)) ∧ HasherAt W q a ∧ DeskAt B (some a) W p ks last ∧ Below w.heap.size w W
theorem Full.out {w W : World} {B N1 N2 p q : Nat} {a : Int} {ks : List Int} {last : Int} (h : Full w W B N1 N2 p q a ks last) : W.cell? ⟨N1, 0, none⟩ = some (.pointer (some ⟨p, 0, none⟩)) ∧ W.cell? ⟨N2, 0, none⟩ = some (.int .i64 0) ∧ W.frozen? ⟨N2, 0, none⟩ = false ∧ Full w W B N1 N2 p q a ks last := ⟨h.1, (blk_cell h.2.1 0).trans rfl, blk_frozen h.2.1 0, h⟩
theorem c_call {w W w1 : World} {B N1 N2 p q : Nat} {a : Int} {ks : List Int} {last : Int} (h : W.cell? ⟨N1, 0, none⟩ = some (.pointer (some ⟨p, 0, none⟩)) ∧ W.cell? ⟨N2, 0, none⟩ = some (.int .i64 0) ∧ W.frozen? ⟨N2, 0, none⟩ = false ∧ Full w W B N1 N2 p q a ks last) (hb : Below W.heap.size W w1) : w1.cell? ⟨N1, 0, none⟩ = some (.pointer (some ⟨p, 0, none⟩)) ∧ w1.cell? ⟨N2, 0, none⟩ = some (.int .i64 0) ∧ w1.frozen? ⟨N2, 0, none⟩ = false ∧ Full w w1 B N1 N2 p q a ks last :=
  Full.out ⟨(hb.cell (p := ⟨N1, 0, none⟩) (World.block_lt_of_cell? W _ h.1)).trans h.1, blk_call hb h.2.2.2.2.1, h.2.2.2.2.2.1.call hb, h.2.2.2.2.2.2.1.call hb, below_call h.2.2.2.2.2.2.2 hb⟩
theorem set_same {w : World} {b : Nat} {cs : Array Value} {t : TypeId} (h : w.heap[b]? = some (.cells cs t (0, 0))) (i : Nat) (v : Value) (hv : cs[i]? = some v) : w.setCell ⟨b, i, none⟩ v = w := by
  have hb := blk_set h i v
  have he : (w.setCell ⟨b, i, none⟩ v).heap = w.heap := by
    apply Array.ext_getElem?
    intro k
    by_cases hk : k = b
    · subst hk
      rw [hb, h]
      congr 2
      apply Array.ext_getElem?
      intro j
      rw [Array.getElem?_setIfInBounds]
      split
      · rename_i e; subst e; split
        · exact hv.symm
        · rename_i hn; rw [Array.getElem?_eq_none (by omega)]
      · rfl
    · exact old_set w b i v k hk
  show { w with heap := (w.setCell ⟨b, i, none⟩ v).heap } = w
  rw [he]
theorem c_set {w W : World} {B N1 N2 p q : Nat} {a : Int} {ks : List Int} {last : Int} (h : W.cell? ⟨N1, 0, none⟩ = some (.pointer (some ⟨p, 0, none⟩)) ∧ W.cell? ⟨N2, 0, none⟩ = some (.int .i64 0) ∧ W.frozen? ⟨N2, 0, none⟩ = false ∧ Full w W B N1 N2 p q a ks last) : (W.setCell ⟨N2, 0, none⟩ (.int .i64 0)).cell? ⟨N1, 0, none⟩ = some (.pointer (some ⟨p, 0, none⟩)) ∧ (W.setCell ⟨N2, 0, none⟩ (.int .i64 0)).cell? ⟨N2, 0, none⟩ = some (.int .i64 0) ∧ (W.setCell ⟨N2, 0, none⟩ (.int .i64 0)).frozen? ⟨N2, 0, none⟩ = false ∧ Full w (W.setCell ⟨N2, 0, none⟩ (.int .i64 0)) B N1 N2 p q a ks last := by
  rw [set_same h.2.2.2.2.1 0 (.int .i64 0) rfl]; exact h

set_option maxRecDepth 100000 in
set_option maxHeartbeats 4000000 in
theorem put_full' (B : Nat) (a : Option Int) (w : World) (p : Nat) (ks : List Int) (last : Int) (q : Nat) (hD : DeskAt B a w p ks last) (hl : ks.length = 64) :
    Calls Tryz.prog 9 #[.pointer (some ⟨p, 0, none⟩), .pointer (some ⟨q, 0, none⟩), .int .i64 0] w fun e w' => e = .returned (.tuple #[.int .i64 0, .int .i64 9]) ∧ Below w.heap.size w w' :=
  (put_full B a w p ks last q hD hl).mono fun _ _ ⟨h1, h2⟩ => ⟨h1, h2 ▸ Below.refl _ _⟩

set_option maxRecDepth 100000 in
set_option maxHeartbeats 4000000 in
theorem clone1_full (B : Nat) (a : Int) (w : World) (p N1 N2 q : Nat) (ks : List Int) (last : Int) (hD : DeskAt B (some a) w p ks last) (hH : HasherAt w q a) (hl : ks.length = 64) (c1 : w.cell? ⟨N1, 0, none⟩ = some (.pointer (some ⟨p, 0, none⟩))) (h2 : w.heap[N2]? = some (.cells #[.int .i64 0] 3 (0, 0))) :
    Calls Tryz.prog 12 #[.pointer (some ⟨q, 0, none⟩), .pointer (some ⟨N1, 0, none⟩), .pointer (some ⟨N2, 0, none⟩)] w fun e w' => e = .returned (.int .i64 9) ∧ w'.heap[N2]? = some (.cells #[.int .i64 0] 3 (0, 0)) ∧ Below w.heap.size w w' := by
  have HF := Lib.hid (show Full w w.drew B N1 N2 p q a ks last from ⟨c1, h2, hH, hD, (Below.refl _ _).drew⟩)
  have k2 := (blk_cell h2 0).trans rfl
  have f2 := blk_frozen h2 0
  clear hH hD
  go_enter Tryz.func12, Tryz.ntmps12
  go_wp2_with fail
  go_region_held3 (fun w' => w'.cell? ⟨N1, 0, none⟩ = some (.pointer (some ⟨p, 0, none⟩)) ∧ w'.cell? ⟨N2, 0, none⟩ = some (.int .i64 0) ∧ w'.frozen? ⟨N2, 0, none⟩ = false ∧ Full w w' B N1 N2 p q a ks last)
    (first | exact HF.out.out | exact c_call (by assumption) (by assumption) | exact c_set (by assumption))
    (first | (go_at_call 13; refine (hclone_any a q _ (‹_ ∧ _ ∧ _ ∧ Full _ _ _ _ _ _ _ _ _ _›).2.2.2.2.2.1).mono ?_; rintro e w3 ⟨⟨q', rfl⟩, hw3⟩) | (go_at_call 9; refine (put_full' B (some a) _ p ks last _ (‹_ ∧ _ ∧ _ ∧ Full _ _ _ _ _ _ _ _ _ _›).2.2.2.2.2.2.1 hl).mono ?_; rintro e w4 ⟨rfl, hw4⟩))
  all_goals
    have HE := Lib.hid (‹_ ∧ _ ∧ _ ∧ Full _ _ _ _ _ _ _ _ _ _›).2.2.2
    go_wp2_with fail
    go_returns
    exact ⟨rfl, HE.out.2.1, HE.out.2.2.2.2⟩
end Go.Proofs.YtlbnnlnjdkjppaaGreatDoor
