/- Lemmas for the claim: (*Desk).New. -/
import Derived.Test.YtlbnnlnjdkjppaaGreatDoorDesk3
namespace Go.Proofs.YtlbnnlnjdkjppaaGreatDoor
open Go.RowKit

/-- hasher.New makes a hasher of this algorithm. -/
def Makes (alg : Int) (a : Option Int) : Prop := ∀ w, Ents w → Calls Tryz.prog 10 #[.int .i64 alg, .agg #[.slice none 0 0, .slice none 0 0]] w fun e w' => (∃ q, e = .returned (.tuple #[.pointer (some ⟨q, 0, none⟩), .int .i64 0]) ∧ Val a w' q) ∧ Below w.heap.size w w'
theorem makes12 (alg b' : Int) (h : (alg = 1 ∧ b' = 224) ∨ (alg = 2 ∧ b' = 256)) : Makes alg (some alg) := fun w hE => (hnew12 alg b' h w hE).mono fun _ _ ⟨⟨p, _, h2, h3⟩, h4⟩ => ⟨⟨p, h2, h3⟩, h4⟩
theorem makes12' (alg b' : Int) (h : (alg = 1 ∧ b' = 224) ∨ (alg = 2 ∧ b' = 256)) : Makes alg none := fun w hE => (hnew12 alg b' h w hE).mono fun _ _ ⟨⟨p, _, h2, _⟩, h4⟩ => ⟨⟨p, h2, trivial⟩, h4⟩
theorem makes11 : Makes 11 none := fun w hE => (hnew11 w hE).mono fun _ _ ⟨⟨p, _, h2⟩, h4⟩ => ⟨⟨p, h2, trivial⟩, h4⟩

set_option maxRecDepth 100000 in
set_option maxHeartbeats 4000000 in
theorem dnew_ok (B : Nat) (alg : Int) (a : Option Int) (H : Makes alg a) (w : World) (hBw : B ≤ w.heap.size) (p : Nat) (ks : List Int) (last : Int) (hD : DeskAt B a w p ks last) (hE : Ents w) (hl : ks.length < 64) (hk : last + 1 ∉ ks) (h0 : 0 ≤ last) (h1 : last < 1000) :
    Calls Tryz.prog 6 #[.pointer (some ⟨p, 0, none⟩), .int .i64 alg, .agg #[.slice none 0 0, .slice none 0 0]] w fun e w' => e = .returned (.tuple #[.int .i64 (last + 1), .int .i64 0]) ∧ DeskAt B a w' p (ks ++ [last + 1]) (last + 1) ∧ Ents w' ∧ Below B w w' := by
  have HH := Lib.hid (H _ (Ents.alloc (o' := .cells #[.slice none 0 0, .slice none 0 0] 30) hE))
  have HD := Lib.hid hD
  have HE := Lib.hid hE
  clear hD hE H
  go_enter Tryz.func6, Tryz.ntmps6
  go_wp2_with fail
  refine HH.out.mono ?_
  rintro e w1 ⟨⟨q, rfl, hv⟩, hw⟩
  have hB : Below w.heap.size w w1 := below_call (by repeat' (first | (with_reducible exact Below.refl _ _) | (with_reducible assumption) | (with_reducible refine below_drewN ?_ _) | (with_reducible refine Below.drew ?_) | (with_reducible refine Below.alloc ?_ ?_ _) | (with_reducible refine Below.setCell ?_ ?_ _) | go_size)) hw
  have HP := Lib.hid (put_ok B a w1 p ks last q (HD.out.call hB) (HE.out.below hB) hv hl hk h0 h1)
  clear hw hv hl hk h0 h1
  go_wp2_with fail
  refine HP.out.mono ?_
  rintro e w2 ⟨rfl, hD2, hE2, hB2⟩
  have HD2 := Lib.hid hD2
  have HE2 := Lib.hid hE2
  clear hD2 hE2
  go_wp2_with fail
  go_returns
  exact ⟨rfl, HD2.out, HE2.out, (hB.mono hBw).trans hB2⟩

set_option maxRecDepth 100000 in
set_option maxHeartbeats 4000000 in
theorem dnew_full (B : Nat) (alg : Int) (a : Option Int) (H : Makes alg a) (w : World) (p : Nat) (ks : List Int) (last : Int) (hD : DeskAt B a w p ks last) (hE : Ents w) (hl : ks.length = 64) :
    Calls Tryz.prog 6 #[.pointer (some ⟨p, 0, none⟩), .int .i64 alg, .agg #[.slice none 0 0, .slice none 0 0]] w fun e w' => e = .returned (.tuple #[.int .i64 0, .int .i64 9]) ∧ Below w.heap.size w w' := by
  have HH := Lib.hid (H _ (Ents.alloc (o' := .cells #[.slice none 0 0, .slice none 0 0] 30) hE))
  have HD := Lib.hid hD
  clear hD hE H
  go_enter Tryz.func6, Tryz.ntmps6
  go_wp2_with fail
  refine HH.out.mono ?_
  rintro e w1 ⟨⟨q, rfl, hv⟩, hw⟩
  have hB : Below w.heap.size w w1 := below_call (by repeat' (first | (with_reducible exact Below.refl _ _) | (with_reducible assumption) | (with_reducible refine below_drewN ?_ _) | (with_reducible refine Below.drew ?_) | (with_reducible refine Below.alloc ?_ ?_ _) | (with_reducible refine Below.setCell ?_ ?_ _) | go_size)) hw
  have HP := Lib.hid (put_full B a w1 p ks last q (HD.out.call hB) hl)
  clear hw hv hl
  go_wp2_with fail
  refine HP.out.mono ?_
  rintro e w2 ⟨rfl, rfl⟩
  go_wp2_with fail
  go_returns
  exact ⟨rfl, hB⟩
end Go.Proofs.YtlbnnlnjdkjppaaGreatDoor
