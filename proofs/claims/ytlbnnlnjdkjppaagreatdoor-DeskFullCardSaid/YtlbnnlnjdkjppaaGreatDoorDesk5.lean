/- Lemmas for the claim: (*Desk).with and (*Desk).Drop. -/
import Derived.Test.YtlbnnlnjdkjppaaGreatDoorDesk4
namespace Go.Proofs.YtlbnnlnjdkjppaaGreatDoor
open Go.RowKit

set_option maxRecDepth 100000 in
set_option maxHeartbeats 4000000 in
theorem drop1_any (B : Nat) (a : Option Int) (w : World) (p N1 N2 : Nat) (k : Int) (ks : List Int) (last : Int) (x : Value) (hD : DeskAt B a w p ks last) (hE : Ents w) (hk : k ∈ ks) (c1 : w.cell? ⟨N1, 0, none⟩ = some (.pointer (some ⟨p, 0, none⟩))) (c2 : w.cell? ⟨N2, 0, none⟩ = some (.int .i64 k)) :
    Calls Tryz.prog 14 #[x, .pointer (some ⟨N1, 0, none⟩), .pointer (some ⟨N2, 0, none⟩)] w fun e w' => e = .returned (.int .i64 0) ∧ (∃ j, ks[j]? = some k ∧ DeskAt B a w' p (ks.eraseIdx j) last) ∧ Ents w' ∧ Below B w w' := by
  obtain ⟨M, es, c, hBp, hp, hM, h⟩ := hD
  obtain ⟨w2, j, hm, hj, hD2, hE2, hB2⟩ := drop_does hBp hp hM h hE k hk
  have k0 : w.cell? ⟨p, 0, none⟩ = some (.map (some M)) := (blk_cell hp 0).trans rfl
  have HD := Lib.hid (And.intro hj hD2)
  have HE := Lib.hid hE2
  clear hD2 hE2 hE h hp hM hk hj
  go_enter Tryz.func14, Tryz.ntmps14
  go_wp2_with fail
  go_region
  go_wp2_with fail
  go_returns
  exact ⟨rfl, ⟨j, HD.out⟩, HE.out, hB2⟩

set_option maxRecDepth 100000 in
set_option maxHeartbeats 4000000 in
theorem with_out (B : Nat) (a : Option Int) (w : World) (p : Nat) (k : Int) (ks : List Int) (last : Int) (x : Value) (hD : DeskAt B a w p ks last) (hk : k ∉ ks) :
    Calls Tryz.prog 11 #[.pointer (some ⟨p, 0, none⟩), .int .i64 k, x] w fun e w' => e = .returned (.int .i64 2) ∧ w' = w := by
  obtain ⟨M, es, c, hBp, hp, hM, h⟩ := hD
  have hl := run_lookup_none Tryz.underlying34 Tryz.underlying3 w M es c hM k (.pointer none) rfl (find_none h hk)
  have k0 : w.cell? ⟨p, 0, none⟩ = some (.map (some M)) := (blk_cell hp 0).trans rfl
  clear h hp hM hk
  go_enter Tryz.func11, Tryz.ntmps11
  go_wp2_with fail
  go_returns
  exact ⟨rfl, rfl⟩

set_option maxRecDepth 100000 in
set_option maxHeartbeats 4000000 in
theorem with_drop (B : Nat) (a : Option Int) (w : World) (p N1 N2 : Nat) (k : Int) (ks : List Int) (last : Int) (hD : DeskAt B a w p ks last) (hE : Ents w) (hk : k ∈ ks) (c1 : w.cell? ⟨N1, 0, none⟩ = some (.pointer (some ⟨p, 0, none⟩))) (c2 : w.cell? ⟨N2, 0, none⟩ = some (.int .i64 k)) :
    Calls Tryz.prog 11 #[.pointer (some ⟨p, 0, none⟩), .int .i64 k, .func (.func 14) #[] #[.pointer (some ⟨N1, 0, none⟩), .pointer (some ⟨N2, 0, none⟩)]] w fun e w' => e = .returned (.int .i64 0) ∧ (∃ j, ks[j]? = some k ∧ DeskAt B a w' p (ks.eraseIdx j) last) ∧ Ents w' ∧ Below B w w' := by
  have H1 := Lib.hid (fun x => drop1_any B a w p N1 N2 k ks last x hD hE hk c1 c2)
  obtain ⟨M, es, c, hBp, hp, hM, h⟩ := hD
  obtain ⟨j, q, hf, _, _⟩ := find_some h hk
  have hl := run_lookup_found Tryz.underlying34 Tryz.underlying3 w M es c hM k j _ hf
  have k0 : w.cell? ⟨p, 0, none⟩ = some (.map (some M)) := (blk_cell hp 0).trans rfl
  clear h hp hM hk hf c1 c2 hE
  go_enter Tryz.func11, Tryz.ntmps11
  go_wp2_with fail
  refine (H1.out _).mono ?_
  rintro e w2 ⟨rfl, hR⟩
  have HR := Lib.hid hR
  clear hR
  go_wp2_with fail
  go_returns
  exact ⟨rfl, HR.out⟩

set_option maxRecDepth 100000 in
set_option maxHeartbeats 4000000 in
theorem ddrop_in (B : Nat) (a : Option Int) (w : World) (hBw : B ≤ w.heap.size) (p : Nat) (k : Int) (ks : List Int) (last : Int) (hD : DeskAt B a w p ks last) (hE : Ents w) (hk : k ∈ ks) :
    Calls Tryz.prog 8 #[.pointer (some ⟨p, 0, none⟩), .int .i64 k] w fun e w' => e = .returned (.int .i64 0) ∧ (∃ j, ks[j]? = some k ∧ DeskAt B a w' p (ks.eraseIdx j) last) ∧ Ents w' ∧ Below B w w' := by
  have hmf : ∀ (fn : Fn) (first cap : Array Value) (w : World), (Instr.makeFunc fn first cap).run Tryz.prog w = .ok (.func fn first cap) w := fun _ _ _ _ => rfl
  have HD := Lib.hid hD
  have HE := Lib.hid hE
  clear hD hE
  go_enter Tryz.func8, Tryz.ntmps8
  go_wp2_with fail
  refine (with_drop B a _ p _ _ k ks last (HD.out.call ?c1) (HE.out.below ?c2) hk ?c3 ?c4).mono ?_
  case c1 => repeat' (first | (with_reducible exact Below.refl _ _) | (with_reducible assumption) | (with_reducible refine below_drewN ?_ _) | (with_reducible refine Below.drew ?_) | (with_reducible refine Below.alloc ?_ ?_ _) | (with_reducible refine Below.setCell ?_ ?_ _) | go_size)
  case c2 => repeat' (first | (with_reducible exact Below.refl _ _) | (with_reducible assumption) | (with_reducible refine below_drewN ?_ _) | (with_reducible refine Below.drew ?_) | (with_reducible refine Below.alloc ?_ ?_ _) | (with_reducible refine Below.setCell ?_ ?_ _) | go_size)
  case c3 => exact (blk_cell (blk_alloc (blk_new _ _ _ rfl)) 0).trans rfl
  case c4 => exact (blk_cell (blk_new _ _ _ (by simp)) 0).trans rfl
  rintro e w2 ⟨rfl, hR1, hR2, hw2⟩
  have HR := Lib.hid (And.intro hR1 hR2)
  clear hR1 hR2
  have hB2 : Below B w w2 := Below.trans (Below.mono (B := w.heap.size) (by repeat' (first | (with_reducible exact Below.refl _ _) | (with_reducible assumption) | (with_reducible refine below_drewN ?_ _) | (with_reducible refine Below.drew ?_) | (with_reducible refine Below.alloc ?_ ?_ _) | (with_reducible refine Below.setCell ?_ ?_ _) | go_size)) hBw) hw2
  clear hw2
  go_wp2_with fail
  go_returns
  exact ⟨rfl, HR.out.1, HR.out.2, hB2⟩

set_option maxRecDepth 100000 in
set_option maxHeartbeats 4000000 in
theorem ddrop_out (B : Nat) (a : Option Int) (w : World) (p : Nat) (k : Int) (ks : List Int) (last : Int) (hD : DeskAt B a w p ks last) (hk : k ∉ ks) :
    Calls Tryz.prog 8 #[.pointer (some ⟨p, 0, none⟩), .int .i64 k] w fun e w' => e = .returned (.int .i64 2) ∧ Below w.heap.size w w' := by
  have hmf : ∀ (fn : Fn) (first cap : Array Value) (w : World), (Instr.makeFunc fn first cap).run Tryz.prog w = .ok (.func fn first cap) w := fun _ _ _ _ => rfl
  have HD := Lib.hid hD
  clear hD
  go_enter Tryz.func8, Tryz.ntmps8
  go_wp2_with fail
  refine (with_out B a _ p k ks last _ (HD.out.call ?c1) hk).mono ?_
  case c1 => repeat' (first | (with_reducible exact Below.refl _ _) | (with_reducible assumption) | (with_reducible refine below_drewN ?_ _) | (with_reducible refine Below.drew ?_) | (with_reducible refine Below.alloc ?_ ?_ _) | (with_reducible refine Below.setCell ?_ ?_ _) | go_size)
  rintro e w2 ⟨rfl, rfl⟩
  go_wp2_with fail
  go_returns
  exact ⟨rfl, by repeat' (first | (with_reducible exact Below.refl _ _) | (with_reducible assumption) | (with_reducible refine below_drewN ?_ _) | (with_reducible refine Below.drew ?_) | (with_reducible refine Below.alloc ?_ ?_ _) | (with_reducible refine Below.setCell ?_ ?_ _) | go_size)⟩
end Go.Proofs.YtlbnnlnjdkjppaaGreatDoor
