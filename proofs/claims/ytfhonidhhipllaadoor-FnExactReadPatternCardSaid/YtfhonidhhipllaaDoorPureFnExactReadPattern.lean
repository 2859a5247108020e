/- ReadPattern of the program and of the reference come to the same pattern, at every text of at most 2^20 bytes. -/
import Derived.Test.YtfhonidhhipllaaDoorMarkFnExactReadPattern
import Derived.Test.YtfhonidhhipllaaDoorPlain3
import Derived.Test.YtfhonidhhipllaaDoorQFnExactReadPattern2
import Derived.Test.YtfhonidhhipllaaDoorQFnExactReadPattern3
import Derived.Test.YtfhonidhhipllaaDoorQFnExactReadPattern4
import Derived.Test.YtfhonidhhipllaaDoorQFnExactReadPattern5
namespace Go.Proofs.YtfhonidhhipllaaDoor.QFnExactReadPattern
open Go.RowKit Go.Proofs.YtfhonidhhipllaaDoorW.PrintWords Go.Proofs.YtfhonidhhipllaaDoorW.PrintLast Go.Proofs.YtfhonidhhipllaaDoorW.PrintMore Go.Proofs.YtfhonidhhipllaaDoor.Plain
set_option linter.unusedVariables false
set_option linter.unusedSimpArgs false

abbrev Pat := List Int × Int × Bool
def zeroP : Pat := ([], 0, false)
def pitches (xs : List Int) : Bool := xs.all fun x => decide (-12 ≤ x) && decide (x ≤ 23)
def validP (xs : List Int) (n : Int) : Bool := decide (1 ≤ (xs.length : Int)) && decide ((xs.length : Int) ≤ 8) && (pitches xs && (decide (0 ≤ n) && decide (n ≤ 1000)))
/-- The pattern of two words. -/
def pat2 (a b : List UInt8) : Pat :=
  match num a, listOf b with
  | some n, some xs => if validP xs n then (xs, n, true) else zeroP
  | _, _ => zeroP
def patOf (l : List UInt8) : Pat :=
  match split 58 l with
  | [a, b] => pat2 a b
  | _ => zeroP
theorem pitches_l0 (xs : List Int) (hx : xs.length ≤ 4611686018427387904) : ∀ (r : List Int) (k i : Nat), xs.drop i = r → i ≤ xs.length → r.length < k → spec_l05Pitches.l0 k xs (i : Int) = some (pitches r && decide ((xs.length : Int) ≤ 64)) := by
  intro r
  induction r with
  | nil =>
    intro k i hd hi hk
    obtain ⟨k, rfl⟩ := succ_of hk
    have := List.drop_eq_nil_iff.1 hd
    simp only [spec_l05Pitches.l0]
    rw [if_neg (by omega)]
    rfl
  | cons x r ih =>
    intro k i hd hi hk
    obtain ⟨k, rfl⟩ := succ_of hk
    obtain ⟨_, hlt, hn⟩ := get_at 0 hd
    have hr := rd_at hd
    rw [List.length_cons] at hk
    simp only [spec_l05Pitches.l0, spec_l03Pitch.f]
    rw [if_pos (by omega), if_pos (by omega), hr, spec_in]
    simp only [Option.bind_some]
    rw [w1 (by omega), ih k (i + 1) hn (by omega) (by omega)]
    unfold pitches
    rw [List.all_cons]
    cases (decide (-12 ≤ x) && decide (x ≤ 23)) <;> simp
theorem spec_one (k : Nat) (xs : List Int) (n : Int) (hx : xs.length ≤ 1048576) (hk : 1048800 < k) : spec_l11One.f k xs n = some (validP xs n) := by
  unfold spec_l11One.f
  rw [spec_in]
  simp only [Option.bind_some]
  unfold spec_l05Pitches.f
  have hp := pitches_l0 xs (by omega) xs k 0 rfl (Nat.zero_le _) (by omega)
  rw [show ((0 : Nat) : Int) = 0 from rfl] at hp
  rw [hp, spec_in]
  simp only [Option.bind_some]
  unfold validP
  by_cases h1 : 1 ≤ (xs.length : Int)
  · by_cases h8 : (xs.length : Int) ≤ 8
    · rw [decide_eq_true h1, decide_eq_true h8, decide_eq_true (show (xs.length : Int) ≤ 64 by omega)]
      cases pitches xs <;> simp
    · rw [decide_eq_false h8]
      simp
  · rw [decide_eq_false h1]
    simp
theorem impl_valid (xs : List Int) (n : Int) (hx : xs.length ≤ 1048576) : impl_Pattern_valid.f xs n = some (validP xs n) := by
  unfold impl_Pattern_valid.f impl_allWithin.f
  rw [impl_in]
  unfold validP pitches
  by_cases h1 : 1 ≤ (xs.length : Int)
  · by_cases h8 : (xs.length : Int) ≤ 8
    · rw [if_pos (by omega), if_pos h8, if_pos (by omega), decide_eq_true h1, decide_eq_true h8]
      simp only [Option.bind_some]
      cases (xs.all fun x => decide (-12 ≤ x) && decide (x ≤ 23)) <;> simp
    · rw [if_pos (by omega), if_neg h8, decide_eq_false h8]
      simp
  · rw [if_neg (by omega), decide_eq_false h1]
    simp
theorem listOf_len {l : List UInt8} {xs : List Int} (h : listOf l = some xs) : xs.length ≤ 64 := by
  unfold listOf at h
  split at h
  · cases h; simp
  · split at h
    · cases h
    · rename_i h64
      simp only [Option.bind_eq_some_iff] at h
      obtain ⟨ys, hy, h⟩ := h
      split at h
      · cases h
        have := (mapM_itoa hy).2
        omega
      · cases h
theorem listR_len (l : List UInt8) : (listR l).1.length ≤ 64 := by
  unfold listR
  cases h : listOf l with
  | none => simp
  | some xs => exact listOf_len h
theorem spec_read (s : ByteArray) (hs : s.size ≤ 1048576) (k : Nat) (hk : 1048900 < k) : spec_ReadPattern.f k s = some (patOf (L s)) := by
  unfold spec_ReadPattern.f patOf
  rw [show (58 : Int) = ((58 : UInt8).toNat : Int) from rfl, spec_split s 58 hs k (by omega)]
  have hlen := split_len 58 (L s)
  rw [L_size] at hlen
  simp only [Option.bind_some, List.length_map]
  match hw : split 58 (L s) with
  | [] => rw [if_neg (by simp)]; rfl
  | [_] => rw [if_neg (by simp)]; rfl
  | _ :: _ :: _ :: _ => rw [if_neg (by simp; omega)]; rfl
  | [a, b] =>
    rw [hw] at hlen
    have la := hlen a (by simp)
    have lb := hlen b (by simp)
    rw [if_pos (by simp), if_pos (by simp)]
    have ea : rdOf ByteArray.empty ([a, b].map ofL) 0 = ofL a := rfl
    have eb : rdOf ByteArray.empty ([a, b].map ofL) 1 = ofL b := rfl
    rw [ea, eb, spec_num (ofL a) (by rw [ofL_size]; omega) k (by rw [ofL_size]; omega), L_ofL]
    simp only [Option.bind_some]
    rw [if_pos (by simp), spec_list (ofL b) (by rw [ofL_size]; omega) k (by omega), L_ofL]
    simp only [Option.bind_some]
    have hb := listR_len b
    unfold pat2 numR
    unfold listR at hb ⊢
    cases num a with
    | none => rfl
    | some n =>
      cases hl : listOf b with
      | none => rfl
      | some xs =>
        rw [hl] at hb
        simp only [if_true]
        rw [spec_one k xs n (by simp only at hb; omega) (by omega)]
        simp only [Option.bind_some]
        cases validP xs n <;> rfl
def textP (xs : List Int) (n : Int) : List UInt8 := Lib.itoa n ++ [58] ++ listText xs
theorem listText_len {l : List UInt8} {xs : List Int} (h : listOf l = some xs) (hl : l.length ≤ 1048576) : (listText xs).length ≤ 1048576 := by
  rw [listText_listOf h]
  exact hl
theorem app_ofL (x y : List UInt8) : ofL x ++ ofL y = ofL (x ++ y) := by rw [← ofL_L (ofL x ++ ofL y), L_app, L_ofL, L_ofL]
theorem impl_ptext (k : Nat) (xs : List Int) (n : Int) (hx : xs.length ≤ 64) (ht : (listText xs).length ≤ 1048576) (hk : 1048800 < k) :
    impl_PatternText.f k xs n = some (ofL (if validP xs n then textP xs n else [])) := by
  unfold impl_PatternText.f
  rw [impl_valid xs n (by omega)]
  simp only [Option.bind_some]
  cases hv : validP xs n with
  | false => rfl
  | true =>
    have hn : 0 ≤ n ∧ n ≤ 1000 := by
      unfold validP at hv
      simp only [Bool.and_eq_true, decide_eq_true_eq] at hv
      omega
    have ln := itoa_len (n := n) (by simp only [inB, Bool.and_eq_true, decide_eq_true_eq]; omega)
    rw [if_pos rfl, impl_dec n (by omega) (by omega)]
    simp only [Option.bind_some]
    have e1 : (⟨#[58]⟩ : ByteArray) = ofL [58] := rfl
    rw [impl_text xs (by omega) k (by omega)]
    simp only [Option.bind_some, e1, app_ofL, ofL_size, List.length_append, List.length_singleton]
    rw [if_pos (by omega), if_pos (by omega)]
    rfl
theorem impl_cut (s : ByteArray) (hs : s.size ≤ 1048576) (c : UInt8) : strings_Cut.f s ⟨#[c]⟩ = some (ofL (Lib.cut (L s) [c]).1, ofL (Lib.cut (L s) [c]).2.1, (Lib.cut (L s) [c]).2.2) := by
  unfold strings_Cut.f
  rw [if_pos (by omega)]
  rfl
theorem impl_read (s : ByteArray) (hs : s.size ≤ 1048576) (k : Nat) (hk : 1048900 < k) : impl_ReadPattern.f k s = some (patOf (L s)) := by
  unfold impl_ReadPattern.f patOf
  rw [impl_cut s hs 58]
  have hsz := L_size s
  have hj := split_join 58 (L s)
  simp only [Option.bind_some]
  by_cases hm : (58 : UInt8) ∈ L s
  · obtain ⟨a, b, hab, ha⟩ := first_of hm
    have hl : a.length + b.length + 1 = s.size := by rw [← hsz, hab]; simp; omega
    rw [hab, cut_hit 58 a b ha]
    simp only
    have hsp : split 58 (a ++ 58 :: b) = a :: split 58 b := by
      unfold split
      rw [splitFrom_hit 58 a b ha]
      rfl
    rw [hsp, impl_num (ofL a) (by rw [ofL_size]; omega), L_ofL]
    simp only [Option.bind_some]
    rw [impl_list (ofL b) (by rw [ofL_size]; omega) k (by omega), L_ofL]
    simp only [Option.bind_some]
    by_cases hb : (58 : UInt8) ∈ b
    · have hz : listR b = ([], false) := by unfold listR; rw [list_bad hb (by decide) (by decide) (by decide)]
      rw [hz]
      have h2 : 1 < (split 58 b).length := by
        unfold split
        rw [splitFrom_length]
        have := List.count_pos_iff.2 hb
        omega
      match hw : split 58 b with
      | [] => rw [hw] at h2; simp at h2
      | [_] => rw [hw] at h2; simp at h2
      | _ :: _ :: _ => cases (numR a).2 <;> rfl
    · have h1 : split 58 b = [b] := by
        unfold split
        rw [splitFrom_none 58 b hb]
        rfl
      rw [h1]
      show _ = some (pat2 a b)
      have hbl := listR_len b
      unfold pat2 numR
      unfold listR at hbl ⊢
      cases hna : num a with
      | none => rfl
      | some n =>
        cases hlb : listOf b with
        | none => rfl
        | some xs =>
          rw [hlb] at hbl
          simp only [if_true]
          rw [impl_ptext k xs n (by simpa using hbl) (listText_len hlb (by omega)) (by omega)]
          simp only [Option.bind_some]
          rw [tl, tl, L_ofL]
          cases hv : validP xs n with
          | true =>
            rw [if_pos (by
              rw [if_pos rfl, hab]
              unfold textP
              rw [listText_listOf hlb, (num_itoa hna).1]
              simp)]
            rfl
          | false =>
            rw [if_neg (by
              rw [if_neg (by simp), hab]
              simp)]
            rfl
  · rw [cut_none 58 (L s) hm]
    simp only
    rw [impl_num (ofL (L s)) (by rw [ofL_size]; omega)]
    simp only [Option.bind_some]
    rw [impl_list (ofL []) (by rw [ofL_size]; simp) k (by omega), L_ofL, L_ofL]
    simp only [Option.bind_some]
    have hz : listR [] = ([], false) := by decide
    rw [hz]
    have h1 : split 58 (L s) = [L s] := by
      unfold split
      rw [splitFrom_none 58 (L s) hm]
      rfl
    rw [h1]
    cases (numR (L s)).2 <;> rfl
theorem patOf_len (l : List UInt8) : (patOf l).1.length ≤ 64 := by
  unfold patOf
  split
  · unfold pat2
    split
    · rename_i _ h
      split
      · exact listOf_len h
      · simp [zeroP]
    · simp [zeroP]
  · simp [zeroP]
theorem pure : laws_FnExactReadPattern.Pure := by
  intro s hs
  refine ⟨1049002, ?_⟩
  unfold laws_FnExactReadPattern.f
  by_cases h : (s.size : Int) > 1048576
  · rw [if_pos h]
  · rw [if_neg h, spec_read s (by omega) _ (by omega), impl_read s (by omega) _ (by omega)]
    have hp := patOf_len (L s)
    have hread : ∀ k, 1048900 < k → impl_ReadPattern.f k s = some (patOf (L s)) := fun k hk => impl_read s (by omega) k hk
    generalize patOf (L s) = p at hp hread
    obtain ⟨xs, n, b⟩ := p
    simp only [Option.bind_some]
    have heq : ∀ k, 1048900 < k → laws_eqPattern.f k xs n xs n = some true := by
      intro k hk
      unfold laws_eqPattern.f
      rw [eqI xs (by simp only at hp; omega) k (by omega)]
      simp
    have hheld : ∀ k, 1048900 < k → laws_heldPattern.f k (seqI 1 xs.length) n 1 = some (1 + (xs.length : Int)) := by
      intro k hk
      unfold laws_heldPattern.f
      rw [heldI xs.length 1 (by simp only at hp; omega) (by omega) (by omega) k (by omega)]
      simp only [Option.bind_some]
      rw [if_neg (by omega)]
    have hj1 : ∀ k, 1048901 < k → laws_FnExactReadPattern.j1 k (1 + xs.length) false (seqI 1 xs.length) n = some true := by
      intro k hk
      obtain ⟨k, rfl⟩ := succ_of hk
      simp only [laws_FnExactReadPattern.j1]
      rw [if_neg (by simp), hheld k (by omega)]
      simp only [Option.bind_some]
      rw [if_neg (by omega), if_pos trivial]
    rw [heq _ (by omega)]
    simp only [Option.bind_some, if_true]
    rw [bne_self_eq_false]
    simp only [laws_FnExactReadPattern.j0, laws_markPattern.f]
    rw [if_neg (by simp), markI xs 1 (by simp only at hp; omega) (by omega) (by omega) _ (by omega)]
    simp only [Option.bind_some]
    rw [hheld _ (by omega)]
    simp only [Option.bind_some]
    rw [if_neg (by omega), if_pos trivial, hread _ (by omega)]
    simp only [Option.bind_some]
    rw [heq _ (by omega)]
    simp only [Option.bind_some, if_true]
    rw [bne_self_eq_false]
    exact hj1 _ (by omega)
end Go.Proofs.YtfhonidhhipllaaDoor.QFnExactReadPattern
