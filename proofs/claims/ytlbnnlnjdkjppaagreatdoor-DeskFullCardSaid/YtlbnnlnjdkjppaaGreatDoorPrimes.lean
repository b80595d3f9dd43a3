/- Lemmas for the claim: root.Primes at 8 and at 16 returns so many numbers, in new memory. -/
import Derived.Test.YtlbnnlnjdkjppaaGreatDoorRoot2
namespace Go.Proofs.YtlbnnlnjdkjppaaGreatDoor
open Go.RowKit

/-- Does the round over the primes found so far keep x (true: x is appended)? -/
def scanP (x : Int) : List Int → Bool
  | [] => true
  | p :: l => if IntKind.u64.wrap (p * p) > x then true else if x % p = 0 then false else scanP x l
/-- What has been found when x is n + 2. -/
def PL : Nat → List Int
  | 0 => []
  | n + 1 => if scanP ((n : Int) + 2) (PL n) then PL n ++ [(n : Int) + 2] else PL n
theorem pl_mem : ∀ n, ∀ p ∈ PL n, 2 ≤ p ∧ p < (n : Int) + 2
  | 0, p, h => by simp [PL] at h
  | n + 1, p, h => by
    simp only [PL] at h
    split at h
    · rcases List.mem_append.1 h with h | h
      · have := pl_mem n p h; omega
      · simp at h; omega
    · have := pl_mem n p h; omega
theorem pl_len : ∀ n, (PL n).length ≤ n
  | 0 => by simp [PL]
  | n + 1 => by
    simp only [PL]
    have := pl_len n
    split
    · simp; omega
    · omega
theorem pl_18 : (PL 18).length = 8 := by decide +kernel
theorem pl_52 : (PL 52).length = 16 := by decide +kernel
theorem scan_drop {x : Int} {l : List Int} {j : Nat} (h : j < l.length) : scanP x (l.drop j) = if IntKind.u64.wrap (l[j] * l[j]) > x then true else if x % l[j] = 0 then false else scanP x (l.drop (j + 1)) := by
  rw [List.drop_eq_getElem_cons h, scanP]

def okN (tt : Int) (B : Nat) : Prop := (tt = 8 ∧ B = 18) ∨ (tt = 16 ∧ B = 52)
theorem okN_len {tt : Int} {B : Nat} (h : okN tt B) : ((PL B).length   : Int) = tt := by
  rcases h with ⟨rfl, rfl⟩ | ⟨rfl, rfl⟩
  · rw [pl_18]; rfl
  · rw [pl_52]; rfl

theorem pl_lt18 : ∀ n, n < 18 → (PL n).length < 8 := by decide +kernel
theorem pl_lt52 : ∀ n, n < 52 → (PL n).length < 16 := by decide +kernel
theorem okN_lt {tt : Int} {B : Nat} (h : okN tt B) (n : Nat) (hn : n < B) : ((PL n).length : Int) < tt := by
  rcases h with ⟨rfl, rfl⟩ | ⟨rfl, rfl⟩
  · have := pl_lt18 n hn; omega
  · have := pl_lt52 n hn; omega

theorem Tryz.elem65 : (Tryz.prog.info? 65).map (fun i => (i.zero, i.size, i.bytes)) = some (some (.int .u64 0), 1, 8) := by kernel_rfl

set_option maxRecDepth 100000 in
set_option maxHeartbeats 4000000 in
theorem primes_any (tt : Int) (B : Nat) (hto : okN tt B) (w : World) :
    Calls Tryz.prog 80 #[.int .i64 tt] w fun e w' => (∃ v, e = .returned v ∧ w'.ownsRow w.heap.size 65 1 v (PL B).length ((PL B).map (Value.int .u64))) ∧ Below w.heap.size w w' := by
  have hb1 : 0 ≤ tt := by rcases hto with ⟨rfl, _⟩ | ⟨rfl, _⟩ <;> omega
  have hb2 : tt ≤ 16 := by rcases hto with ⟨rfl, _⟩ | ⟨rfl, _⟩ <;> omega
  obtain ⟨i0, hi, hz0, hz1, hz2⟩ := info_parts Tryz.elem65
  have HT := Lib.hid hto
  clear hto
  go_enter Tryz.func80, Tryz.ntmps80
  go_wp2_with fail
  go_step3
  go_wp2_with fail
  go_step3
  go_wp2_with fail
  go_loopw [3, 4] (fun v x wr => ∃ n : Nat, n ≤ B ∧ x = .int .u64 ((n : Int) + 2) ∧ ((PL n).length : Int) ≤ tt ∧ wr.ownsRow w.heap.size 65 1 v (PL n).length ((PL n).map (Value.int .u64)) ∧ Below w.heap.size w wr) (fun _ x _ => (B + 2) - (intOf x).toNat)
  case atStart => exact ⟨0, by omega, rfl, by simp [PL]; omega, by simpa [PL] using World.ownsRow_nil w w.heap.size _ 1, Below.refl _ _⟩
  case round =>
    obtain ⟨n, hn, rfl, hle, hown, hB⟩ := hrel
    have hpl := pl_len n
    have hB54 : B ≤ 52 := by rcases HT.out with ⟨_, rfl⟩ | ⟨_, rfl⟩ <;> omega
    by_cases hlt : ((PL n).length : Int) < tt
    · have hnB : n < B := by
        rcases Nat.lt_or_ge n B with h | h
        · exact h
        · exfalso
          have : n = B := by omega
          subst this
          have := okN_len HT.out
          omega
      have HOWN := hown
      have c3 : (PL n).length + 1 ≤ maxLen := by unfold maxLen; omega
      have c4 : ((PL n).length + 1) * 8 ≤ 140737488355328 := by omega
      have c5 : w.heap.size ≤ (wr.alloc (.cells #[.int .u64 ((n : Int) + 2)] 65)).heap.size := by have := hB.size; simp; omega
      have hfin : ∀ (v' : Value) (w1 : World), scanP ((n : Int) + 2) (PL n) = true → w1.ownsRow w.heap.size 65 1 v' ((PL n).length + 1) ((PL n).map (Value.int .u64) ++ [.int .u64 ((n : Int) + 2)]) → w1.ownsRow w.heap.size 65 1 v' (PL (n + 1)).length ((PL (n + 1)).map (Value.int .u64)) := by
        intro v' w1 hs ho
        simpa [PL, hs] using ho
      have hnot : scanP ((n : Int) + 2) (PL n) = false → PL (n + 1) = PL n := fun hs => by simp [PL, hs]
      have hlen1 : ((PL (n + 1)).length : Int) ≤ tt := by
        simp only [PL]; split
        · simp; omega
        · omega
      have HF := Lib.hid hfin
      have HN := Lib.hid hnot
      clear hfin hnot
      rcases hown.2 with ⟨rfl, hxs⟩ | ⟨g, cap, cur, rfl, hbg, hg, hlc, hcm, hcs, htk⟩
      · have h0 : PL n = [] := by simpa using hxs
        have Hn := Lib.hid h0
        have hl0 : (PL n).length = 0 := by rw [h0]; rfl
        have HO := Lib.hid hown
        clear hxs hown h0 hl0
        go_wp2_with fail
        refine wp_loop_rounds 1 ?_
        rw [rounds_succ]
        go_wp2_with (first | ((at_builtin; refine wpList_append_own _ (by rfl) (.tmp 32) (.tmp 34) 128 (by rfl) (w.heap.size) 65 i0 (.int .u64 0) 1 8 Tryz.underlying128 hi hz0 hz1 hz2 rfl (by decide) _ _ _ (by rfl) (HOWN.alloc _) ⟨wr.heap.size, 0, none⟩ 1 1 [.int .u64 ((n : Int) + 2)] (by rfl) rfl (one_news _ _ _) (by simp [Value.oneCell']) c3 c4 c5 ?_); intro v' w1 hown' hgrow _))
        have hs : scanP ((n : Int) + 2) (PL n) = true := by rw [Hn.out]; rfl
        refine ⟨⟨n + 1, by omega, by go_num, hlen1, HF.out _ _ hs (by rw [Hn.out] at hown' ⊢; exact hown'), (hB.alloc hB.size _).grown hgrow c5 (fun k hk => by cases hk)⟩, by simp [intOf]; omega⟩
      · have hmem := pl_mem n
        have hcell : ∀ j (hj : j < (PL n).length), wr.cell? ⟨g, j, none⟩ = some (.int .u64 (PL n)[j]) := fun j hj => by
          have := HOWN.cells (g := g) rfl j (.int .u64 (PL n)[j]) (by simp [hj])
          rwa [show (⟨g, 0, none⟩ : Addr).add j = ⟨g, j, none⟩ from by unfold Addr.add; split <;> simp_all] at this
        have HGR : w.heap.size ≤ g := hbg
        clear hown hbg hg hlc hcm hcs htk
        generalize hL : PL n = L at *
        have HL := Lib.hid hL
        clear hL
        go_wp2_with fail
        have hlen64 : L.length ≤ 52 := by omega
        go_loop [18] (fun i => ∃ j : Nat, j ≤ L.length ∧ i = .int .i64 j ∧ scanP ((n : Int) + 2) (L.drop j) = scanP ((n : Int) + 2) L) (fun i => L.length - (intOf i).toNat)
        case atStart => exact ⟨0, by omega, rfl, rfl⟩
        case round =>
          obtain ⟨j, hj, rfl, hs⟩ := hrel
          have HS := Lib.hid hs
          clear hs
          by_cases hjl : j < L.length
          · have hp := hmem L[j] (List.getElem_mem _)
            have hc := hcell j hjl
            have HC := Lib.hid (@hcell)
            have HM := Lib.hid hmem
            clear hcell hmem
            go_wp2_with (first | ((at_builtin; refine wpList_append_own _ (by rfl) (.tmp 32) (.tmp 34) 128 (by rfl) (w.heap.size) 65 i0 (.int .u64 0) 1 8 Tryz.underlying128 hi hz0 hz1 hz2 rfl (by decide) _ _ _ (by rfl) (HOWN.alloc _) ⟨wr.heap.size, 0, none⟩ 1 1 [.int .u64 ((n : Int) + 2)] (by rfl) rfl (one_news _ _ _) (by simp [Value.oneCell']) c3 c4 c5 ?_); intro v' w1 hown' hgrow _))
            · have hs : scanP ((n : Int) + 2) L = true := by rw [← HS.out, scan_drop hjl, if_pos (by assumption)]
              exact ⟨⟨n + 1, by omega, by go_num, hlen1, HF.out _ _ hs hown', (hB.alloc hB.size _).grown hgrow c5 (fun k hk => by cases hk; exact HGR)⟩, by simp [intOf]; omega⟩
            · have hd : ((n : Int) + 2) % L[j] = 0 := by have := ‹(((n : Int) + 2) % L[j] == 0) = true›; simpa using this
              have hs : scanP ((n : Int) + 2) L = false := by rw [← HS.out, scan_drop hjl, if_neg (by omega), if_pos hd]
              exact ⟨⟨n + 1, by omega, by go_num, hlen1, by rw [HN.out hs]; exact HOWN, hB⟩, by simp [intOf]; omega⟩
            · have hd : ¬((n : Int) + 2) % L[j] = 0 := by have := ‹(((n : Int) + 2) % L[j] == 0) = false›; simpa using this
              exact ⟨⟨j + 1, by omega, by go_num, by rw [← HS.out, scan_drop hjl, if_neg (by omega), if_neg hd]⟩, by simp [intOf]; omega⟩
          · go_wp2_with (first | ((at_builtin; refine wpList_append_own _ (by rfl) (.tmp 32) (.tmp 34) 128 (by rfl) (w.heap.size) 65 i0 (.int .u64 0) 1 8 Tryz.underlying128 hi hz0 hz1 hz2 rfl (by decide) _ _ _ (by rfl) (HOWN.alloc _) ⟨wr.heap.size, 0, none⟩ 1 1 [.int .u64 ((n : Int) + 2)] (by rfl) rfl (one_news _ _ _) (by simp [Value.oneCell']) c3 c4 c5 ?_); intro v' w1 hown' hgrow _))
            have hs : scanP ((n : Int) + 2) L = true := by rw [← HS.out, List.drop_of_length_le (by omega)]; rfl
            exact ⟨⟨n + 1, by omega, by go_num, hlen1, HF.out _ _ hs hown', (hB.alloc hB.size _).grown hgrow c5 (fun k hk => by cases hk; exact HGR)⟩, by simp [intOf]; omega⟩
    · have hnB : n = B := by
        rcases Nat.lt_or_ge n B with h | h
        · exact absurd (okN_lt HT.out n h) hlt
        · omega
      subst hnB
      have HO := Lib.hid hown
      rcases hown.2 with ⟨rfl, hxs⟩ | ⟨g, cap, cur, rfl, hbg, hg, hlc, hcm, hcs, htk⟩
      · exfalso
        have h0 : PL n = [] := by simpa using hxs
        rw [h0] at hlt
        simp at hlt
        rcases HT.out with ⟨rfl, _⟩ | ⟨rfl, _⟩ <;> omega
      · clear hown hbg hg hlc hcm hcs htk
        go_wp2_with fail
        go_returns
        exact ⟨⟨_, rfl, HO.out⟩, hB⟩
end Go.Proofs.YtlbnnlnjdkjppaaGreatDoor
