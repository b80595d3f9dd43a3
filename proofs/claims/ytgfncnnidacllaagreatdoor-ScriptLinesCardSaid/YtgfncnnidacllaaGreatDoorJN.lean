/- Lemmas for the claim, parts put together: decimal numerals, read and written; what the reference's functions on words tell, in this proof's own words. -/
import Derived.Test.YtgfncnnidacllaaGreatDoorJC
import Derived.Test.YtgfncnnidacllaaGreatDoorPScriptLinesx3
import Derived.Test.YtgfncnnidacllaaGreatDoorPScriptLinesx4
import Derived.Test.YtgfncnnidacllaaGreatDoorRefA
import Derived.Test.YtgfncnnidacllaaGreatDoorJI
set_option linter.unusedVariables false
set_option linter.unusedSimpArgs false
namespace Go.Proofs.YtgfncnnidacllaaGreatDoor
open Go.RowKit Go.Proofs.YtgfncnnidacllaaGreatDoorW.PrintWords Go.Proofs.YtgfncnnidacllaaGreatDoorW.PrintLast Go.Proofs.YtgfncnnidacllaaGreatDoorW.PrintMore Go.Proofs.YtgfncnnidacllaaGreatDoor.PScriptLines
def stepM (M : Nat) (r : Lib.NumEnd Nat) (c : UInt8) : Lib.NumEnd Nat :=
  match r with
  | .ok a => Lib.parseUintM M a [c]
  | r' => r'
theorem parseM_snoc (M : Nat) (c : UInt8) : ∀ (l : List UInt8) (acc : Nat), Lib.parseUintM M acc (l ++ [c]) = stepM M (Lib.parseUintM M acc l) c
  | [], acc => by simp only [List.nil_append, Lib.parseUintM, stepM]
  | d :: l, acc => by
    simp only [List.cons_append, Lib.parseUintM]
    split
    · split
      · rfl
      · split
        · rfl
        · exact parseM_snoc M c l _
    · rfl
theorem dec_snoc {a d : Nat} (ha : 1 ≤ a) (hd : d ≤ 9) : Lib.decDigits (a * 10 + d) = Lib.decDigits a ++ [UInt8.ofNat (48 + d)] := by
  rw [Lib.decDigits, dif_neg (by omega), show (a * 10 + d) / 10 = a by omega, show (a * 10 + d) % 10 = d by omega]
theorem u8_back (c : UInt8) (h : 48 ≤ c.toNat) : UInt8.ofNat (48 + (c.toNat - 48)) = c := by rw [show 48 + (c.toNat - 48) = c.toNat by omega]; simp
theorem dec_zero : Lib.decDigits 0 = [48] := Lib.decDigits_one (by omega)
theorem parse_dec (M : Nat) : ∀ (n : Nat) (l : List UInt8) (u : Nat), l.length = n → l ≠ [] → (l.head? = some 48 → l = [48]) → Lib.parseUintM M 0 l = .ok u → Lib.decDigits u = l
  | 0, l, u, hn, hne, _, _ => absurd (List.length_eq_zero_iff.1 hn) hne
  | n + 1, l, u, hn, hne, hz, hp => by
    rcases List.eq_nil_or_concat l with rfl | ⟨t, c, rfl⟩
    · exact absurd rfl hne
    · rw [List.concat_eq_append] at hp hz hn ⊢
      rw [parseM_snoc] at hp
      by_cases ht : t = []
      · subst ht
        simp only [stepM, Lib.parseUintM] at hp
        split at hp
        · rename_i hc
          split at hp
          · cases hp
          · split at hp
            · cases hp
            · cases hp
              rw [Nat.zero_mul, Nat.zero_add, Lib.decDigits_one (by omega), u8_back c hc.1]; rfl
        · cases hp
      · have hh : t.head? ≠ some 48 := by
          intro e
          have h2 : (t ++ [c]).head? = some 48 := by cases t with | nil => exact absurd rfl ht | cons x t => simpa using e
          have := congrArg List.length (hz h2)
          have h3 : 0 < t.length := List.length_pos_iff.2 ht
          rw [List.length_append] at this
          simp only [List.length_cons, List.length_nil] at this
          omega
        cases hr : Lib.parseUintM M 0 t with
        | ok a =>
          rw [hr] at hp
          have hd := parse_dec M n t a (by simp at hn; omega) ht (fun e => absurd e hh) hr
          have ha : 1 ≤ a := by
            rcases Nat.eq_zero_or_pos a with rfl | h
            · rw [dec_zero] at hd; rw [← hd] at hh; exact absurd rfl hh
            · exact h
          simp only [stepM, Lib.parseUintM] at hp
          split at hp
          · rename_i hc
            split at hp
            · cases hp
            · split at hp
              · cases hp
              · cases hp
                rw [dec_snoc ha (by omega), hd, u8_back c hc.1]
          · cases hp
        | _ => rw [hr] at hp; cases hp
theorem u8_dig {d : Nat} (h : d ≤ 9) : (UInt8.ofNat (48 + d)).toNat = 48 + d := by rw [UInt8.toNat_ofNat']; omega
theorem dec_parse (M : Nat) (hM : M ≤ 18446744073709551615) : ∀ (n u : Nat), u ≤ n → u ≤ M → Lib.parseUintM M 0 (Lib.decDigits u) = .ok u
  | n, u, hn, hu => by
    by_cases h : u < 10
    · rw [Lib.decDigits_one h]
      simp only [Lib.parseUintM]
      rw [u8_dig (by omega), if_pos (by omega), if_neg (by omega), if_neg (by omega)]
      simp
    · cases n with
      | zero => omega
      | succ n =>
        have ih := dec_parse M hM n (u / 10) (by omega) (by omega)
        have e := dec_snoc (a := u / 10) (d := u % 10) (by omega) (by omega)
        rw [show u / 10 * 10 + u % 10 = u by omega] at e
        rw [e, parseM_snoc, ih]
        simp only [stepM, Lib.parseUintM]
        rw [u8_dig (by omega), if_pos (by omega), if_neg (by omega), if_neg (by omega)]
        rw [show u / 10 * 10 + (48 + u % 10 - 48) = u by omega]
theorem dec_ne (u : Nat) : Lib.decDigits u ≠ [] := by
  rw [Lib.decDigits]
  split <;> simp
theorem dec_head : ∀ (n u : Nat), u ≤ n → 1 ≤ u → (Lib.decDigits u).head? ≠ some 48
  | n, u, hn, hu => by
    by_cases h : u < 10
    · rw [Lib.decDigits_one h]
      intro e
      have e2 : UInt8.ofNat (48 + u) = 48 := by simpa using e
      have := congrArg UInt8.toNat e2
      rw [u8_dig (by omega)] at this
      have h48 : (48 : UInt8).toNat = 48 := rfl
      omega
    · cases n with
      | zero => omega
      | succ n =>
        have ih := dec_head n (u / 10) (by omega) (by omega)
        have e := dec_snoc (a := u / 10) (d := u % 10) (by omega) (by omega)
        rw [show u / 10 * 10 + u % 10 = u by omega] at e
        rw [e]
        cases hd : Lib.decDigits (u / 10) with
        | nil => exact absurd hd (dec_ne _)
        | cons x t => rw [hd] at ih; simpa using ih
theorem ofN_dec {u : Nat} (h : u < 18446744073709551616) : ofN (Lib.decDigits u) = some u := by
  unfold ofN Lib.parseUintB
  rw [if_neg (dec_ne u), show 2 ^ 64 - 1 = 18446744073709551615 from rfl, dec_parse _ (Nat.le_refl _) u u (Nat.le_refl _) (by omega)]
  simp
theorem ofN_eq {l : List UInt8} {u : Nat} (h : ofN l = some u) : Lib.decDigits u = l := by
  unfold ofN at h
  split at h
  · split at h
    · cases h; assumption
    · cases h
  · cases h
theorem ofN_lt {l : List UInt8} {u : Nat} (h : ofN l = some u) : u < 18446744073709551616 := by
  unfold ofN at h
  split at h
  · rename_i hp
    split at h
    · cases h; exact parse_lt hp
    · cases h
  · cases h
theorem dec_le2 : ∀ (k u : Nat), u < 10 ^ (k + 1) → (Lib.decDigits u).length ≤ k + 1
  | k, u, h => by
    rw [Lib.decDigits]
    split
    · simp
    · rename_i hu
      cases k with
      | zero => simp at h; omega
      | succ k =>
        have := dec_le2 k (u / 10) (by rw [Nat.pow_succ] at h; omega)
        rw [List.length_append]
        simp
        omega
theorem dec_le' (u : Nat) (h : u < 18446744073709551616) : (Lib.decDigits u).length ≤ 20 := dec_le2 19 u (by omega)
theorem bt_drop {s : ByteArray} {i : Nat} {c : UInt8} {t : List UInt8} (h : s.data.toList.drop i = c :: t) : bt s (i : Int) = (c.toNat : Int) := by
  have hlt : i < s.data.toList.length := by
    rcases Nat.lt_or_ge i s.data.toList.length with h1 | h1
    · exact h1
    · rw [List.drop_eq_nil_of_le h1] at h; cases h
  have hsz : s.data.toList.length = s.size := rfl
  rw [List.drop_eq_getElem_cons hlt] at h
  unfold bt
  rw [dif_pos (by simpa using (by omega : i < s.size))]
  have h2 := (List.cons.inj h).1
  rw [← h2]
  rfl
theorem drop_next {l : List UInt8} {i : Nat} {c : UInt8} {t : List UInt8} (h : l.drop i = c :: t) : l.drop (i + 1) = t ∧ i < l.length := by
  have hlt : i < l.length := by
    rcases Nat.lt_or_ge i l.length with h1 | h1
    · exact h1
    · rw [List.drop_eq_nil_of_le h1] at h; cases h
  rw [List.drop_eq_getElem_cons hlt] at h
  exact ⟨(List.cons.inj h).2, hlt⟩
def endV (r : Lib.NumEnd Nat) : Int × Bool := match r with | .ok u => ((u : Int), true) | _ => (0, false)
theorem wrap_next {i n : Nat} (h : i < n) (hn : n ≤ 100000) : wrap64 ((i : Int) + 1) = ((i + 1 : Nat) : Int) := by unfold wrap64; omega
theorem of_loop (s : ByteArray) (hs : s.size ≤ 100000) : ∀ (d k i acc : Nat), i + d = s.size → 2 * d < k → acc ≤ 18446744073709551615 →
    cribbleref28_Of.l0 k s (acc : Int) (i : Int) = some (endV (Lib.parseUintM 18446744073709551615 acc (s.data.toList.drop i)))
  | 0, k, i, acc, hi, hk, ha => by
    obtain ⟨k, rfl⟩ : ∃ m, k = m + 1 := ⟨k - 1, by omega⟩
    have hsz : s.data.toList.length = s.size := rfl
    rw [List.drop_eq_nil_of_le (by omega)]
    simp only [cribbleref28_Of.l0, Lib.parseUintM, endV]
    rw [if_neg (by omega)]
  | d + 1, k, i, acc, hi, hk, ha => by
    obtain ⟨k, rfl⟩ : ∃ m, k = m + 1 + 1 := ⟨k - 2, by omega⟩
    have hsz : s.data.toList.length = s.size := rfl
    obtain ⟨c, t, hc⟩ : ∃ c t, s.data.toList.drop i = c :: t := ⟨_, _, List.drop_eq_getElem_cons (by omega)⟩
    have hb := bt_drop hc
    have hc' := c.toNat_lt
    have hw := wrap_next (i := i) (n := s.size) (by omega) hs
    rw [hc]
    simp only [cribbleref28_Of.l0]
    rw [if_pos (by omega), if_pos (by omega), hb]
    by_cases h1 : (c.toNat : Int) < 48
    · rw [if_pos h1]
      simp only [cribbleref28_Of.j2, Lib.parseUintM]
      rw [if_pos trivial, if_neg (by omega)]
      rfl
    · rw [if_neg h1]
      by_cases h2 : (c.toNat : Int) > 57
      · rw [decide_eq_true h2]
        simp only [cribbleref28_Of.j2, Lib.parseUintM]
        rw [if_pos trivial, if_neg (by omega)]
        rfl
      · rw [decide_eq_false h2]
        simp only [cribbleref28_Of.j2, Lib.parseUintM]
        rw [if_neg (by simp), if_pos (by omega), if_pos (by omega), hb]
        have e48 : ((c.toNat : Int) - 48) % 256 = ((c.toNat - 48 : Nat) : Int) := by omega
        rw [e48, if_pos (show 48 ≤ c.toNat ∧ c.toNat ≤ 57 by omega)]
        by_cases h3 : (acc : Int) > (18446744073709551615 - ((c.toNat - 48 : Nat) : Int)) / 10
        · rw [if_pos h3]
          by_cases h4 : 1844674407370955162 ≤ acc
          · rw [if_pos h4]; rfl
          · rw [if_neg h4, if_pos (by omega)]; rfl
        · rw [if_neg h3, if_neg (by omega), if_neg (by omega), hw]
          have e1 : IntKind.u64.wrap (IntKind.u64.wrap (10 * (acc : Int)) + ((c.toNat - 48 : Nat) : Int)) = ((acc * 10 + (c.toNat - 48) : Nat) : Int) := by
            rw [IntKind.wrap_u64, IntKind.wrap_u64]; omega
          rw [e1, of_loop s hs d k (i + 1) _ (by omega) (by omega) (by omega), (drop_next hc).1]
theorem endV_of {r : Lib.NumEnd Nat} {o : Option Nat} (h : ∀ u, r = .ok u → o = some u) (h2 : (∀ u, r ≠ .ok u) → o = none) : endV r = (optV o, o.isSome) := by
  cases r with
  | ok u => rw [h u rfl]; rfl
  | _ => rw [h2 (fun u e => by cases e)]; rfl
theorem of_pure (s : ByteArray) (hs : s.size ≤ 100000) : cribbleref28_Of.f (2 * s.size + 4) s = some (optV (ofN s.data.toList), (ofN s.data.toList).isSome) := by
  have hsz : s.data.toList.length = s.size := rfl
  have bad : ofN s.data.toList = none → cribbleref28_Of.j0 (2 * s.size + 4) s true = some (optV (ofN s.data.toList), (ofN s.data.toList).isSome) := by
    intro h; rw [h]; simp only [cribbleref28_Of.j0]; rw [if_pos trivial]; rfl
  have none_of : (∀ u, ofN s.data.toList ≠ some u) → ofN s.data.toList = none := fun h => by
    cases ho : ofN s.data.toList with
    | none => rfl
    | some u => exact absurd ho (h u)
  unfold cribbleref28_Of.f
  by_cases h0 : (s.size : Int) = 0
  · rw [if_pos h0]
    exact bad (none_of fun u h => dec_ne u (by rw [ofN_eq h]; exact List.length_eq_zero_iff.1 (by omega)))
  · rw [if_neg h0]
    by_cases h20 : (s.size : Int) > 20
    · rw [if_pos h20]
      refine bad (none_of fun u h => ?_)
      have h1 := dec_le' u (ofN_lt h)
      rw [ofN_eq h] at h1
      omega
    · rw [if_neg h20, if_pos (by omega)]
      obtain ⟨c, t, hc⟩ : ∃ c t, s.data.toList.drop 0 = c :: t := ⟨_, _, List.drop_eq_getElem_cons (by omega)⟩
      have hb := bt_drop hc
      have hl : s.data.toList = c :: t := by simpa using hc
      have go : (c = 48 → s.size = 1) → cribbleref28_Of.j0 (2 * s.size + 4) s false = some (optV (ofN s.data.toList), (ofN s.data.toList).isSome) := by
        intro hz
        simp only [cribbleref28_Of.j0]
        rw [if_neg (by simp)]
        have h := of_loop s hs s.size (2 * s.size + 3) 0 0 (by omega) (by omega) (by omega)
        rw [List.drop_zero] at h
        refine h.trans (congrArg some (endV_of (fun u hu => ?_) (fun hu => none_of fun u h2 => ?_)))
        · have hd := parse_dec 18446744073709551615 _ s.data.toList u rfl (by rw [hl]; simp) (fun e => by
            rw [hl] at e
            have ec : c = 48 := by simpa using e
            have h1 := hz ec
            rw [hl] at hsz
            have : t = [] := List.length_eq_zero_iff.1 (by simp at hsz; omega)
            rw [hl, ec, this]) hu
          rw [← hd]
          exact ofN_dec (by have := parseM_le _ _ _ _ (Nat.zero_le _) hu; omega)
        · rw [← ofN_eq h2] at hu
          exact hu u (dec_parse _ (Nat.le_refl _) u u (Nat.le_refl _) (by have := ofN_lt h2; omega))
      have hb0 : bt s 0 = (c.toNat : Int) := hb
      rw [hb0]
      by_cases hc48 : (c.toNat : Int) = 48
      · rw [if_pos hc48]
        by_cases h1 : (s.size : Int) > 1
        · rw [decide_eq_true h1]
          refine bad (none_of fun u h => ?_)
          have hd := ofN_eq h
          rcases Nat.eq_zero_or_pos u with rfl | hu
          · rw [dec_zero] at hd
            have := congrArg List.length hd
            simp at this
            omega
          · have hh := dec_head u u (Nat.le_refl _) hu
            rw [hd, hl] at hh
            apply hh
            have : c = 48 := UInt8.toNat_inj.1 (by have : (48 : UInt8).toNat = 48 := rfl; omega)
            rw [this]; rfl
        · rw [decide_eq_false h1]
          exact go (fun _ => by omega)
      · rw [if_neg hc48]
        exact go (fun e => absurd (by rw [e]; rfl) hc48)
theorem rof_any (s : ByteArray) (hs : s.size ≤ 100000) (w : World) :
    Calls Tryz.prog 23 #[.string s] w fun e w' => e = .returned (.tuple #[.int .u64 (optV (ofN s.data.toList)), .bool (ofN s.data.toList).isSome]) ∧ Drawn0 w w' :=
  cribbleref28_Of.calls _ s _ _ w (of_pure s hs)
end Go.Proofs.YtgfncnnidacllaaGreatDoor
namespace Go.Proofs.YtgfncnnidacllaaGreatDoor
open Go.RowKit Go.Proofs.YtgfncnnidacllaaGreatDoorW.PrintWords Go.Proofs.YtgfncnnidacllaaGreatDoorW.PrintLast Go.Proofs.YtgfncnnidacllaaGreatDoorW.PrintMore Go.Proofs.YtgfncnnidacllaaGreatDoor.PScriptLines
theorem extract_bs (s : ByteArray) (a b : Nat) : s.extract a b = bsOf ((s.data.toList.drop a).take (b - a)) := by
  have h : (s.extract a b).data.toList = (s.data.toList.drop a).take (b - a) := by
    simp [ByteArray.data_extract, List.extract_eq_take_drop]
  rw [← h, bs_back]
def restW (pre : List UInt8) : List (List UInt8) → List (List UInt8)
  | w :: ws => (pre ++ w) :: ws
  | [] => []
theorem words_loop (s : ByteArray) (hs : s.size ≤ 100000) : ∀ (d k st i : Nat) (acc : List ByteArray), i + d = s.size → d + 1 < k → st ≤ i → acc.length + d ≤ 100000 →
    cribbleref28_Words.l0 k s acc (st : Int) (i : Int) = some (acc ++ (restW ((s.data.toList.drop st).take (i - st)) (splitS (s.data.toList.drop i))).map bsOf)
  | 0, k, st, i, acc, hi, hk, hst, ha => by
    obtain ⟨k, rfl⟩ : ∃ m, k = m + 1 + 1 := ⟨k - 2, by omega⟩
    have hsz : s.data.toList.length = s.size := rfl
    have hi' : i = s.size := by omega
    have hw : wrap64 ((i : Int) + 1) = ((i + 1 : Nat) : Int) := by unfold wrap64; omega
    rw [List.drop_eq_nil_of_le (show s.data.toList.length ≤ i by omega)]
    simp only [cribbleref28_Words.l0]
    rw [if_pos (by omega), if_pos (by omega), if_pos (by omega), if_pos (by omega), if_pos (by omega), hw, if_neg (by omega), extract_bs]
    simp [splitS, restW]
  | d + 1, k, st, i, acc, hi, hk, hst, ha => by
    obtain ⟨k, rfl⟩ : ∃ m, k = m + 1 := ⟨k - 1, by omega⟩
    have hsz : s.data.toList.length = s.size := rfl
    obtain ⟨c, t, hc⟩ : ∃ c t, s.data.toList.drop i = c :: t := ⟨_, _, List.drop_eq_getElem_cons (by omega)⟩
    have hb := bt_drop hc
    have hc' := c.toNat_lt
    have hw := wrap_next (i := i) (n := s.size) (by omega) hs
    have hn := (drop_next hc).1
    simp only [cribbleref28_Words.l0]
    rw [if_pos (by omega), if_neg (by omega), if_pos (by omega), if_pos (by omega), hb, hw, hc]
    by_cases h32 : (c.toNat : Int) = 32
    · have hce : c = 32 := UInt8.toNat_inj.1 (by have : (32 : UInt8).toNat = 32 := rfl; omega)
      rw [if_pos h32, if_pos (by omega), if_pos (by omega), if_pos (by omega)]
      rw [words_loop s hs d k (i + 1) (i + 1) _ (by omega) (by omega) (by omega) (by simp; omega), hn, extract_bs]
      subst hce
      cases hsp : splitS t with
      | nil => exact absurd hsp (splitS_ne t)
      | cons x xs =>
        have e : splitS (32 :: t) = [] :: x :: xs := by unfold splitS; rw [if_pos rfl, hsp]
        rw [e]
        simp [restW]
    · have hce : c ≠ 32 := fun e => h32 (by rw [e]; rfl)
      rw [if_neg h32, words_loop s hs d k st (i + 1) acc (by omega) (by omega) (by omega) (by omega), hn]
      cases hsp : splitS t with
      | nil => exact absurd hsp (splitS_ne t)
      | cons x xs =>
        have e : splitS (c :: t) = (c :: x) :: xs := by unfold splitS; rw [if_neg hce, hsp]
        rw [e]
        have hx : (s.data.toList.drop st).take (i + 1 - st) = (s.data.toList.drop st).take (i - st) ++ [c] := by
          have hl : i - st < (s.data.toList.drop st).length := by rw [List.length_drop]; omega
          rw [show i + 1 - st = (i - st) + 1 by omega, List.take_succ_eq_append_getElem hl, List.getElem_drop]
          congr 2
          have hil : i < s.data.toList.length := by omega
          rw [List.drop_eq_getElem_cons hil] at hc
          rw [← (List.cons.inj hc).1]
          congr 1
          omega
        rw [hx]
        simp [restW]
theorem words_pure (s : ByteArray) (hs : s.size ≤ 100000) : cribbleref28_Words.f (s.size + 2) s = some ((splitS s.data.toList).map bsOf) := by
  unfold cribbleref28_Words.f
  have h := words_loop s hs s.size (s.size + 2) 0 0 [] (by omega) (by omega) (by omega) (by simp; omega)
  refine h.trans ?_
  cases hsp : splitS s.data.toList with
  | nil => exact absurd hsp (splitS_ne _)
  | cons x xs =>
    rw [List.drop_zero, hsp]
    simp [restW]
theorem shW_nil : shW.length = 10 := rfl
def kindI (l : List UInt8) : Int := match kindW l with | some k => (k : Int) + 1 | none => 0
def kindL : List ByteArray := bsOf [] :: shW.map bsOf
theorem kindL_at (j : Nat) (hj : j < 10) : (rdOf ByteArray.empty kindL ((j : Int) + 1)).toList = shW.getD j [] := by
  have h : j = 0 ∨ j = 1 ∨ j = 2 ∨ j = 3 ∨ j = 4 ∨ j = 5 ∨ j = 6 ∨ j = 7 ∨ j = 8 ∨ j = 9 := by omega
  rcases h with rfl | rfl | rfl | rfl | rfl | rfl | rfl | rfl | rfl | rfl <;> exact bsOf_list _
theorem kind_loop (s : ByteArray) : ∀ (d k j : Nat), j + d = 10 → d < k → (∀ i, i < j → shW.getD i [] ≠ s.data.toList) → cribbleref29_Kind.l0 k s kindL ((j : Int) + 1) = some (kindI s.data.toList)
  | 0, k, j, hj, hk, hn => by
    obtain ⟨k, rfl⟩ : ∃ m, k = m + 1 := ⟨k - 1, by omega⟩
    simp only [cribbleref29_Kind.l0]
    rw [if_neg (by omega)]
    unfold kindI
    rw [kindW_none (fun i hi => hn i (by omega))]
  | d + 1, k, j, hj, hk, hn => by
    obtain ⟨k, rfl⟩ : ∃ m, k = m + 1 := ⟨k - 1, by omega⟩
    have hw : wrap64 ((j : Int) + 1 + 1) = ((j + 1 : Nat) : Int) + 1 := by unfold wrap64; omega
    have hl : (kindL.length : Int) = 11 := rfl
    simp only [cribbleref29_Kind.l0]
    rw [if_pos (by omega), if_pos (by omega), if_pos (by omega), kindL_at j (by omega), ba_toList, hw]
    by_cases h : shW.getD j [] = s.data.toList
    · rw [if_pos h]
      unfold kindI
      rw [kindW_some (by omega) hn h]
    · rw [if_neg h]
      exact kind_loop s d k (j + 1) (by omega) (by omega) (fun i hi => by by_cases e : i = j; (subst e; exact h); exact hn i (by omega))
theorem kind_pure (s : ByteArray) : cribbleref29_Kind.f 12 s = some (kindI s.data.toList) :=
  kind_loop s 10 12 0 (by omega) (by omega) (fun i hi => absurd hi (by omega))
theorem rkind_any (s : ByteArray) (w : World) : Calls Tryz.prog 18 #[.string s] w fun e w' => e = .returned (.int .i64 (kindI s.data.toList)) ∧ Below w.heap.size w w' :=
  cribbleref29_Kind.calls _ s _ w (kind_pure s)
theorem size_pure (k : Nat) (hk : k < 10) : cribbleref29_size.f ((k : Int) + 1) = some (1 + (fLen k : Int)) := by
  have h : k = 0 ∨ k = 1 ∨ k = 2 ∨ k = 3 ∨ k = 4 ∨ k = 5 ∨ k = 6 ∨ k = 7 ∨ k = 8 ∨ k = 9 := by omega
  rcases h with rfl | rfl | rfl | rfl | rfl | rfl | rfl | rfl | rfl | rfl <;> rfl
theorem rsize_any (k : Nat) (hk : k < 10) (w : World) : Calls Tryz.prog 19 #[.int .i64 ((k : Int) + 1)] w fun e w' => e = .returned (.int .i64 (1 + (fLen k : Int))) ∧ Below w.heap.size w w' :=
  cribbleref29_size.calls _ _ w (size_pure k hk)
def smallV (o : Option Nat) : Int := match o with | some u => u | none => -1
theorem small_pure (s : ByteArray) (hs : s.size ≤ 100000) (most : Nat) (hm : most ≤ 1073741824) : cribbleref29_small.f (2 * s.size + 4) s most = some (smallV (smallN s.data.toList most)) := by
  unfold cribbleref29_small.f
  rw [of_pure s hs]
  simp only [Option.bind_some]
  unfold smallN
  cases ho : ofN s.data.toList with
  | none => rfl
  | some u =>
    simp only [Option.isSome_some, if_true]
    by_cases h : u ≤ most
    · rw [if_neg (show ¬ (optV (some u) > (most : Int)) by show ¬ ((u : Int) > most); omega), if_pos h]
      show some (wrap64 (u : Int)) = some (u : Int)
      congr 1
      unfold wrap64
      omega
    · rw [if_pos (show (optV (some u) > (most : Int)) by show ((u : Int) > most); omega), if_neg h]
      rfl
theorem rsmall_any (s : ByteArray) (hs : s.size ≤ 100000) (most : Nat) (hm : most ≤ 1073741824) (w : World) :
    Calls Tryz.prog 20 #[.string s, .int .u64 most] w fun e w' => e = .returned (.int .i64 (smallV (smallN s.data.toList most))) ∧ Drawn0 w w' :=
  cribbleref29_small.calls _ s _ _ w (small_pure s hs most hm)
theorem dvI_at : ∀ n : Fin 256, dvI (UInt8.ofNat n.val) = if 48 ≤ (n.val : Int) ∧ (n.val : Int) ≤ 57 then (n.val : Int) - 48 else if 97 ≤ (n.val : Int) ∧ (n.val : Int) ≤ 102 then (n.val : Int) - 87 else -1 := by decide +kernel
theorem dvI_eq (c : UInt8) : dvI c = if 48 ≤ (c.toNat : Int) ∧ (c.toNat : Int) ≤ 57 then (c.toNat : Int) - 48 else if 97 ≤ (c.toNat : Int) ∧ (c.toNat : Int) ≤ 102 then (c.toNat : Int) - 87 else -1 := by
  have h := dvI_at ⟨c.toNat, c.toNat_lt⟩
  simpa using h
theorem digit_pure (k : Nat) (c : UInt8) : cribbleref28_digit.f (k + 1) (c.toNat : Int) = some (dvI c) := by
  have hc := c.toNat_lt
  have wr : wrap64 (c.toNat : Int) = (c.toNat : Int) := by unfold wrap64; omega
  rw [dvI_eq]
  unfold cribbleref28_digit.f
  by_cases h1 : (c.toNat : Int) ≥ 48
  · rw [if_pos h1]
    by_cases h2 : (c.toNat : Int) ≤ 57
    · rw [decide_eq_true h2, if_pos ⟨h1, h2⟩]
      simp only [cribbleref28_digit.j0]
      rw [if_pos trivial, wr]
      congr 1
      unfold wrap64
      omega
    · rw [decide_eq_false h2, if_neg (by omega)]
      simp only [cribbleref28_digit.j0]
      rw [if_neg (by simp), wr]
      by_cases h3 : (c.toNat : Int) ≥ 97
      · rw [if_pos h3]
        by_cases h4 : (c.toNat : Int) ≤ 102
        · rw [if_pos h4, if_pos ⟨h3, h4⟩]
          congr 1
          unfold wrap64
          omega
        · rw [if_neg h4, if_neg (by omega)]
      · rw [if_neg h3, if_neg (by omega)]
  · rw [if_neg h1, if_neg (by omega), if_neg (by omega)]
    simp only [cribbleref28_digit.j0]
    rw [if_neg (by simp), if_neg (by omega)]
theorem digit_pure' (k : Nat) (hk : 1 ≤ k) (c : UInt8) : cribbleref28_digit.f k (c.toNat : Int) = some (dvI c) := by
  obtain ⟨m, rfl⟩ : ∃ m, k = m + 1 := ⟨k - 1, by omega⟩
  exact digit_pure m c
def getV (l : List UInt8) : List Int × Bool := ((getN l).getD [], (getN l).isSome)
theorem wrap_next2 {i n : Nat} (h : i + 1 < n) (hn : n ≤ 100000) : wrap64 ((i : Int) + 2) = ((i + 2 : Nat) : Int) := by unfold wrap64; omega
theorem val_of {x y : Int} (h1 : 0 ≤ x) (h2 : x ≤ 15) (h3 : 0 ≤ y) (h4 : y ≤ 15) : (wrap64 (wrap64 (16 * x) + y)) % 256 = 16 * x + y := by unfold wrap64; omega
theorem pairs_two (a b : UInt8) (t : List UInt8) : pairsOf (a :: b :: t) = (16 * dvI a + dvI b) :: pairsOf t := by rw [pairsOf]
theorem allDig_two (a b : UInt8) (t : List UInt8) : allDig (a :: b :: t) = (decide (0 ≤ dvI a) && (decide (0 ≤ dvI b) && allDig t)) := by unfold allDig; rw [List.all_cons, List.all_cons]
attribute [local irreducible] dvI
set_option maxHeartbeats 1000000 in
theorem get_loop (s : ByteArray) (hs : s.size ≤ 100000) : ∀ (d k i : Nat) (acc : List Int), i + 2 * d = s.size → d + 1 < k → acc.length + d ≤ 100000 →
    cribbleref28_Get.l0 k s acc (i : Int) = some (if allDig (s.data.toList.drop i) then (acc ++ pairsOf (s.data.toList.drop i), true) else ([], false))
  | 0, k, i, acc, hi, hk, ha => by
    obtain ⟨k, rfl⟩ : ∃ m, k = m + 1 := ⟨k - 1, by omega⟩
    have hsz : s.data.toList.length = s.size := rfl
    rw [List.drop_eq_nil_of_le (show s.data.toList.length ≤ i by omega)]
    simp only [cribbleref28_Get.l0]
    rw [if_neg (by omega)]
    simp [allDig, pairsOf]
  | d + 1, k, i, acc, hi, hk, ha => by
    obtain ⟨k, rfl⟩ : ∃ m, k = m + 1 := ⟨k - 1, by omega⟩
    have hsz : s.data.toList.length = s.size := rfl
    have z0 : 0 ≤ (i : Int) := Int.natCast_nonneg i
    have z1 : (i : Int) < (s.size : Int) := by omega
    have z2 : 0 ≤ ((i + 1 : Nat) : Int) := Int.natCast_nonneg _
    have z3 : ((i + 1 : Nat) : Int) < (s.size : Int) := by omega
    have z4 : 1 ≤ k := by omega
    have z5 : acc.length < 140737488355328 := by omega
    have hw := wrap_next (i := i) (n := s.size) (by omega) hs
    have hw2 := wrap_next2 (i := i) (n := s.size) (by omega) hs
    have ih := fun v => get_loop s hs d k (i + 2) (acc ++ [v]) (by omega) (by omega) (by simp; omega)
    obtain ⟨a, t0, ha0⟩ : ∃ c t, s.data.toList.drop i = c :: t := ⟨_, _, List.drop_eq_getElem_cons (by omega)⟩
    obtain ⟨b, t, hb0⟩ : ∃ c t, s.data.toList.drop (i + 1) = c :: t := ⟨_, _, List.drop_eq_getElem_cons (by omega)⟩
    have h01 : t0 = b :: t := by rw [← (drop_next ha0).1, hb0]
    subst h01
    have h2 : s.data.toList.drop (i + 2) = t := (drop_next hb0).1
    have hba := bt_drop ha0
    have hbb := bt_drop hb0
    rw [ha0]
    simp only [cribbleref28_Get.l0]
    rw [if_pos z1, if_pos z0, hba, digit_pure' k z4 a, Option.bind_some, hw, if_pos z2, if_pos z3, hbb, digit_pure' k z4 b, Option.bind_some, hw2]
    clear hw hw2 hba hbb z0 z1 z2 z3 z4
    have la := dvI_le a
    have lb := dvI_le b
    rw [pairs_two, allDig_two]
    generalize dvI a = x at la ⊢
    generalize dvI b = y at lb ⊢
    rw [h2] at ih
    by_cases ha1 : x < 0
    · rw [if_pos ha1, decide_eq_false (show ¬ 0 ≤ x from Int.not_le.2 ha1)]; simp
    · have ha2 := Int.not_lt.1 ha1
      rw [if_neg ha1, decide_eq_true ha2]
      by_cases hb1 : y < 0
      · rw [if_pos hb1, decide_eq_false (show ¬ 0 ≤ y from Int.not_le.2 hb1)]; simp
      · have hb2 := Int.not_lt.1 hb1
        rw [if_neg hb1, decide_eq_true hb2, if_pos z5, val_of ha2 la hb2 lb, ih]
        cases allDig t <;> simp
theorem get_pure (s : ByteArray) (hs : s.size ≤ 100000) : cribbleref28_Get.f (s.size + 4) s = some (getV s.data.toList) := by
  have hsz : s.data.toList.length = s.size := rfl
  unfold cribbleref28_Get.f getV getN
  rw [ba_toList]
  by_cases h1 : s.data.toList = [45]
  · rw [if_pos h1, if_pos h1]; rfl
  · rw [if_neg h1, if_neg h1]
    by_cases h2 : (s.size : Int) = 0
    · have : s.data.toList = [] := List.length_eq_zero_iff.1 (by omega)
      rw [if_pos h2, if_pos (.inl this)]
      simp only [cribbleref28_Get.j0]
      rw [if_pos trivial]; rfl
    · have hne : s.data.toList ≠ [] := fun e => by rw [e] at hsz; simp at hsz; omega
      rw [if_neg h2]
      by_cases h3 : s.size % 2 = 0
      · have e : (((s.size : Int) % 2) != 0) = false := by rw [bne_eq_false_iff_eq]; omega
        rw [e, if_neg (by rw [hsz]; rintro (h | h); exact hne h; omega)]
        simp only [cribbleref28_Get.j0]
        rw [if_neg (by simp)]
        have h := get_loop s hs (s.size / 2) (s.size + 3) 0 [] (by omega) (by omega) (by simp; omega)
        refine h.trans ?_
        rw [List.drop_zero]
        split <;> simp_all
      · have e : (((s.size : Int) % 2) != 0) = true := by rw [bne_iff_ne]; omega
        rw [e, if_pos (.inr (by omega))]
        simp only [cribbleref28_Get.j0]
        rw [if_pos trivial]; rfl
theorem rget_any (s : ByteArray) (hs : s.size ≤ 100000) (w : World) :
    Calls Tryz.prog 22 #[.string s] w fun e w' => ∃ v, e = .returned (.tuple #[v, .bool (getN s.data.toList).isSome]) ∧ Row w' w.heap.size v ((getN s.data.toList).getD []) ∧ Below w.heap.size w w' := by
  refine (cribbleref28_Get.calls _ s _ _ w (get_pure s hs)).mono fun e w' h => ?_
  obtain ⟨v, he, hr, hb⟩ := h
  refine ⟨v, he, ?_, hb⟩
  exact Kd.own_of_R hr
theorem word18_pure (a : Nat) (h1 : 1 ≤ a) (h2 : a ≤ 14) : cribbleref18_Word.f (a : Int) = some (bsOf (entAt a).1) := by
  have h : a = 1 ∨ a = 2 ∨ a = 3 ∨ a = 4 ∨ a = 5 ∨ a = 6 ∨ a = 7 ∨ a = 8 ∨ a = 9 ∨ a = 10 ∨ a = 11 ∨ a = 12 ∨ a = 13 ∨ a = 14 := by omega
  rcases h with rfl | rfl | rfl | rfl | rfl | rfl | rfl | rfl | rfl | rfl | rfl | rfl | rfl | rfl <;> rfl
theorem rword_any (a : Nat) (h1 : 1 ≤ a) (h2 : a ≤ 14) (w : World) : Calls Tryz.prog 21 #[.int .i64 a] w fun e w' => e = .returned (.string (bsOf (entAt a).1)) ∧ Below w.heap.size w w' :=
  cribbleref18_Word.calls _ _ w (word18_pure a h1 h2)
end Go.Proofs.YtgfncnnidacllaaGreatDoor
