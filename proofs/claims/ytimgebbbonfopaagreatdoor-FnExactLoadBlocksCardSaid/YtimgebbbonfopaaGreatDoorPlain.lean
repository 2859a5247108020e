/- Plain facts on texts: numbers in decimal, texts divided at a byte, lists of numbers as text, names. No program in sight. -/
import Derived.Lib.ItoaNum
import Derived.Lib.ParseIntBCases
import Derived.Lib.Split
import Derived.Lib.SplitLaws
import Derived.Lib.CountLaws
import Derived.Lib.Join
import Derived.Lib.IndexBytes
import Derived.Lib.Strings
namespace Go.Proofs.YtimgebbbonfopaaGreatDoor.Plain
open Go Go.Lib

/-! ### numbers in decimal -/
def digB (c : UInt8) : Bool := decide (48 ≤ c.toNat) && decide (c.toNat ≤ 57)
def dval : Nat → List UInt8 → Nat
  | acc, [] => acc
  | acc, c :: r => dval (10 * acc + (c.toNat - 48)) r
theorem dval_append (l : List UInt8) (c : UInt8) : ∀ acc, dval acc (l ++ [c]) = 10 * dval acc l + (c.toNat - 48) := by
  induction l with
  | nil => intro acc; rfl
  | cons x r ih => intro acc; exact ih _
theorem dval_mono (l : List UInt8) : ∀ acc, acc ≤ dval acc l := by
  induction l with
  | nil => intro acc; exact Nat.le_refl _
  | cons x r ih => intro acc; exact Nat.le_trans (by omega) (ih _)
theorem dval_lt (l : List UInt8) (h : l.all digB = true) : ∀ acc, dval acc l < (acc + 1) * 10 ^ l.length := by
  induction l with
  | nil => intro acc; show acc < (acc + 1) * 1; omega
  | cons x r ih =>
    intro acc
    simp only [List.all_cons, Bool.and_eq_true] at h
    have hx : x.toNat ≤ 57 := by have := h.1; simp [digB] at this; exact this.2
    have := ih h.2 (10 * acc + (x.toNat - 48))
    refine Nat.lt_of_lt_of_le this ?_
    rw [List.length_cons, Nat.pow_succ, Nat.mul_comm (10 ^ r.length) 10, ← Nat.mul_assoc]
    exact Nat.mul_le_mul_right _ (by omega)
/-- The digits of a numeral without leading zeros. -/
def okD (l : List UInt8) : Bool := !l.isEmpty && l.all digB && (l.head? != some 48 || l.length == 1)
theorem e18 : (10 : Nat) ^ 18 = 1000000000000000000 := by decide
theorem pow18 {k : Nat} (h : k ≤ 18) : 10 ^ k ≤ 1000000000000000000 := by
  rw [← e18]
  exact Nat.pow_le_pow_right (by decide) h
theorem dec_small {u : Nat} (h : u < 10) : decDigits u = [UInt8.ofNat (48 + u)] := by rw [decDigits, dif_pos h]
theorem dec_snoc {a d : Nat} (ha : 1 ≤ a) (hd : d < 10) : decDigits (10 * a + d) = decDigits a ++ [UInt8.ofNat (48 + d)] := by
  rw [decDigits, dif_neg (by omega), show (10 * a + d) / 10 = a by omega, show (10 * a + d) % 10 = d by omega]
theorem dec_dval : ∀ (n : Nat) (l : List UInt8), l.length = n → okD l = true → decDigits (dval 0 l) = l := by
  intro n
  induction n with
  | zero => intro l hl h; cases l with
    | nil => simp [okD] at h
    | cons x r => simp at hl
  | succ n ih =>
    intro l hl h
    rcases List.eq_nil_or_concat l with rfl | ⟨p, c, rfl⟩
    · simp at hl
    · rw [List.concat_eq_append] at h hl ⊢
      simp only [okD, Bool.and_eq_true] at h
      obtain ⟨⟨_, hd⟩, hh⟩ := h
      rw [List.all_append, Bool.and_eq_true] at hd
      have hc : 48 ≤ c.toNat ∧ c.toNat ≤ 57 := by have := hd.2; simp [digB] at this; exact this
      have hcc : UInt8.ofNat (48 + (c.toNat - 48)) = c := by rw [Nat.add_sub_cancel' hc.1]; simp
      rw [dval_append]
      cases p with
      | nil =>
        have e0 : 10 * dval 0 [] + (c.toNat - 48) = c.toNat - 48 := by show 10 * 0 + (c.toNat - 48) = _; omega
        rw [e0, dec_small (by omega), hcc]
        rfl
      | cons x r =>
        have hx : x ≠ 48 := by
          rintro rfl
          simp at hh
        have hxd : 48 ≤ x.toNat := by have := hd.1; simp [digB] at this; exact this.1.1
        have hx0 : 49 ≤ x.toNat := by
          rcases Nat.lt_or_ge 48 x.toNat with h' | h'
          · exact h'
          · exact absurd (UInt8.toNat_inj.1 (show x.toNat = (48 : UInt8).toNat by simpa using Nat.le_antisymm h' hxd)) hx
        have h1 : 1 ≤ dval 0 (x :: r) := Nat.le_trans (by simp; omega) (dval_mono r (10 * 0 + (x.toNat - 48)))
        rw [dec_snoc h1 (by omega), hcc]
        rw [ih (x :: r) (by simpa using hl) (by simp only [okD, hd.1]; simp [hx])]
theorem decDigits_ok (u : Nat) : okD (decDigits u) = true ∧ dval 0 (decDigits u) = u ∧ (decDigits u).head? ≠ some 45 ∧ (10 ≤ u → (decDigits u).head? ≠ some 48) := by
  induction u using Nat.strongRecOn with
  | _ u ih =>
    rw [decDigits]
    split
    · rename_i h
      have e : (UInt8.ofNat (48 + u)).toNat = 48 + u := by simp; omega
      refine ⟨?_, ?_, ?_, ?_⟩
      · simp only [okD, digB, List.all_cons, List.all_nil, e, List.isEmpty_cons]; simp; omega
      · show 10 * 0 + ((UInt8.ofNat (48 + u)).toNat - 48) = u
        rw [e]; omega
      · intro h'
        simp only [List.head?_cons, Option.some.injEq] at h'
        have := congrArg UInt8.toNat h'
        rw [e] at this
        simp at this
        omega
      · omega
    · rename_i h
      obtain ⟨h1, h2, h3, h4⟩ := ih (u / 10) (by omega)
      have e : (UInt8.ofNat (48 + u % 10)).toNat = 48 + u % 10 := by simp; omega
      have hne : decDigits (u / 10) ≠ [] := by intro hn; rw [hn] at h1; simp [okD] at h1
      have hhd : (decDigits (u / 10) ++ [UInt8.ofNat (48 + u % 10)]).head? = (decDigits (u / 10)).head? := by
        cases hq : decDigits (u / 10) with
        | nil => exact absurd hq hne
        | cons x r => rfl
      have hz : (decDigits (u / 10)).head? ≠ some 48 := by
        by_cases h10 : 10 ≤ u / 10
        · exact h4 h10
        · rw [decDigits, dif_pos (by omega)]
          intro h'
          simp only [List.head?_cons, Option.some.injEq] at h'
          have := congrArg UInt8.toNat h'
          simp at this
          omega
      refine ⟨?_, ?_, by rw [hhd]; exact h3, fun _ => by rw [hhd]; exact hz⟩
      · simp only [okD, Bool.and_eq_true] at h1 ⊢
        refine ⟨⟨by simp, by rw [List.all_append, h1.1.2]; simp only [digB, List.all_cons, List.all_nil, e]; simp; omega⟩, ?_⟩
        rw [hhd]
        simp [hz]
      · rw [dval_append, h2, e]; omega

/-- The number with a decimal form of at most 18 digits. -/
def num (l : List UInt8) : Option Int :=
  match l with
  | [] => none
  | c :: r => if c = 45 then (if okD r && decide (r.length ≤ 18) && r.head? != some 48 then some (-(dval 0 r : Int)) else none)
      else if okD (c :: r) && decide ((c :: r).length ≤ 18) then some (dval 0 (c :: r) : Int) else none
theorem num_itoa {l : List UInt8} {n : Int} (h : num l = some n) : itoa n = l ∧ n.natAbs < 1000000000000000000 := by
  unfold num at h
  split at h
  · cases h
  · rename_i c r
    split at h
    · rename_i hc
      subst hc
      split at h
      · rename_i hk
        simp only [Bool.and_eq_true, decide_eq_true_eq] at hk
        obtain rfl := Option.some.inj h
        have hr := dec_dval _ r rfl hk.1.1
        have hlt : dval 0 r < 1000000000000000000 := by
          have h1 : r.all digB = true := by have := hk.1.1; simp only [okD, Bool.and_eq_true] at this; exact this.1.2
          have h2 := dval_lt r h1 0
          rw [Nat.zero_add, Nat.one_mul] at h2
          exact Nat.lt_of_lt_of_le h2 (pow18 hk.1.2)
        have hp : 0 < dval 0 r := by
          rcases Nat.eq_zero_or_pos (dval 0 r) with h0 | h0
          · exfalso
            rw [h0, decDigits, dif_pos (by decide)] at hr
            rw [← hr] at hk
            exact absurd hk.2 (by decide)
          · exact h0
        refine ⟨?_, by rw [Int.natAbs_neg, Int.natAbs_natCast]; exact hlt⟩
        unfold itoa
        rw [if_pos (by omega), Int.natAbs_neg, Int.natAbs_natCast, hr]
      · cases h
    · split at h
      · rename_i hk
        simp only [Bool.and_eq_true, decide_eq_true_eq] at hk
        obtain rfl := Option.some.inj h
        have hr := dec_dval _ (c :: r) rfl hk.1
        have hlt : dval 0 (c :: r) < 1000000000000000000 := by
          have h1 : (c :: r).all digB = true := by have := hk.1; simp only [okD, Bool.and_eq_true] at this; exact this.1.2
          have h2 := dval_lt (c :: r) h1 0
          rw [Nat.zero_add, Nat.one_mul] at h2
          exact Nat.lt_of_lt_of_le h2 (pow18 hk.2)
        refine ⟨?_, by rw [Int.natAbs_natCast]; exact hlt⟩
        unfold itoa
        rw [if_neg (by omega), Int.toNat_natCast, hr]
      · cases h
theorem nDigits_le {u : Nat} (h : u < 1000000000000000000) : nDigits u ≤ 18 := by
  rcases Nat.lt_or_ge 18 (nDigits u) with h' | h'
  · exfalso
    by_cases h0 : u < 10
    · rw [nDigits_small h0] at h'; omega
    · have key : ∀ (k u : Nat), k + 1 < nDigits u → 10 ^ (k + 1) ≤ u := by
        intro k
        induction k with
        | zero => intro u hu; rcases Nat.lt_or_ge u 10 with h1 | h1
                  · rw [nDigits_small h1] at hu; omega
                  · simpa using h1
        | succ k ih =>
          intro u hu
          rcases Nat.lt_or_ge u 10 with h1 | h1
          · rw [nDigits_small h1] at hu; omega
          · rw [nDigits_big (by omega)] at hu
            have := ih (u / 10) (by omega)
            rw [Nat.pow_succ]
            omega
      have := key 17 u h'
      have e : (10 : Nat) ^ (17 + 1) = 1000000000000000000 := by decide
      omega
  · exact h'
theorem itoa_num {n : Int} (h : n.natAbs < 1000000000000000000) : num (itoa n) = some n := by
  unfold itoa
  split
  · rename_i hn
    obtain ⟨h1, h2, h3, h4⟩ := decDigits_ok n.natAbs
    unfold num
    simp only [if_true]
    have hz : (decDigits n.natAbs).head? ≠ some 48 := by
      by_cases h10 : 10 ≤ n.natAbs
      · exact h4 h10
      · rw [decDigits, dif_pos (by omega)]
        intro h'
        simp only [List.head?_cons, Option.some.injEq] at h'
        have := congrArg UInt8.toNat h'
        simp at this
        omega
    rw [if_pos, h2]
    · congr 1; omega
    · simp only [h1, Bool.true_and, Bool.and_eq_true, decide_eq_true_eq]
      exact ⟨by rw [decDigits_length]; exact nDigits_le h, by simpa using hz⟩
  · rename_i hn
    obtain ⟨h1, h2, h3, h4⟩ := decDigits_ok n.toNat
    have hl : (decDigits n.toNat).length ≤ 18 := by rw [decDigits_length]; exact nDigits_le (by omega)
    cases hd : decDigits n.toNat with
    | nil => rw [hd] at h1; simp [okD] at h1
    | cons c r =>
      rw [hd] at h1 h2 h3 hl
      unfold num
      simp only
      rw [if_neg (by intro hc; subst hc; exact h3 rfl), if_pos (by simp only [h1, Bool.true_and, decide_eq_true_eq]; exact hl), h2]
      congr 1
      omega
/-- What ParseInt makes of digits. -/
theorem parseUintM_digits (l : List UInt8) (h : l.all digB = true) : ∀ acc, dval acc l < 1000000000000000000 → parseUintM 18446744073709551615 acc l = .ok (dval acc l) := by
  induction l with
  | nil => intro acc _; rfl
  | cons c r ih =>
    intro acc ha
    simp only [List.all_cons, Bool.and_eq_true] at h
    have hc : 48 ≤ c.toNat ∧ c.toNat ≤ 57 := by have := h.1; simp [digB] at this; exact this
    have hm := dval_mono r (10 * acc + (c.toNat - 48))
    have ha' : dval (10 * acc + (c.toNat - 48)) r < 1000000000000000000 := ha
    simp only [parseUintM]
    rw [if_pos hc, if_neg (by omega), if_neg (by omega), show acc * 10 + (c.toNat - 48) = 10 * acc + (c.toNat - 48) by omega, ih h.2 _ ha']
    rfl
theorem parse_itoa {n : Int} (h : n.natAbs < 1000000000000000000) : parseIntB 64 (itoa n) = .ok n := by
  have e63 : (2 : Nat) ^ (64 - 1) = 9223372036854775808 := by decide
  have e64 : (2 : Nat) ^ 64 - 1 = 18446744073709551615 := by decide
  unfold itoa
  split
  · rename_i hn
    obtain ⟨h1, h2, h3, h4⟩ := decDigits_ok n.natAbs
    have ha : (decDigits n.natAbs).all digB = true := by simp only [okD, Bool.and_eq_true] at h1; exact h1.1.2
    have hne : decDigits n.natAbs ≠ [] := by intro hq; rw [hq] at h1; simp [okD] at h1
    rw [parseIntB_minus, parseUintB, if_neg hne, e64, parseUintM_digits _ ha 0 (by rw [h2]; exact h), h2]
    simp only [signedC]
    rw [if_neg (by rw [e63]; omega)]
    congr 1
    omega
  · rename_i hn
    obtain ⟨h1, h2, h3, h4⟩ := decDigits_ok n.toNat
    have ha : (decDigits n.toNat).all digB = true := by simp only [okD, Bool.and_eq_true] at h1; exact h1.1.2
    cases hd : decDigits n.toNat with
    | nil => rw [hd] at h1; simp [okD] at h1
    | cons c r =>
      rw [hd] at ha h2
      have hc : 48 ≤ c.toNat ∧ c.toNat ≤ 57 := by simp [digB] at ha; exact ha.1
      rw [parseIntB_plain _ _ _ (by omega) (by omega), parseUintB, if_neg (by simp), e64, parseUintM_digits _ ha 0 (by rw [h2]; omega), h2]
      simp only [signlessC]
      rw [if_neg (by rw [e63]; omega)]
      congr 1
      omega
theorem trim_itoa (n : Int) : (trimPrefix (itoa n) [45]).length = nDigits n.natAbs := by
  have hp : ∀ (c : UInt8) (r : List UInt8), hasPrefix (c :: r) [45] = (c == 45) := by
    intro c r
    by_cases h : c = 45
    · subst h; simp [hasPrefix]
    · have h' : ¬ (45 : UInt8) = c := fun e => h e.symm
      simp only [hasPrefix, List.isPrefixOf, Bool.and_true]
      rw [beq_eq_false_iff_ne.2 h', beq_eq_false_iff_ne.2 h]
  unfold itoa
  split
  · rename_i hn
    unfold trimPrefix
    rw [hp, if_pos (by decide)]
    simp [decDigits_length]
  · rename_i hn
    obtain ⟨h1, h2, h3, h4⟩ := decDigits_ok n.toNat
    have e : n.natAbs = n.toNat := by omega
    cases hd : decDigits n.toNat with
    | nil => rw [hd] at h1; simp [okD] at h1
    | cons c r =>
      rw [hd] at h3
      unfold trimPrefix
      rw [hp, if_neg (by intro hc; simp at hc; subst hc; exact h3 rfl), ← hd, decDigits_length, e]
theorem nDigits_gt {u : Nat} (h : nDigits u ≤ 18) : u < 1000000000000000000 := by
  have h1 := lt_pow_nDigits u
  exact Nat.lt_of_lt_of_le h1 (pow18 h)
/-- What the program's reading of a number comes to. -/
theorem readDec_eq (l : List UInt8) : (match parseIntB 64 l with
    | .ok v => if 18 < (trimPrefix l [45]).length then ((0 : Int), false) else if itoa v = l then (v, true) else (0, false)
    | _ => (0, false)) = (match num l with | some n => (n, true) | none => (0, false)) := by
  cases hn : num l with
  | some n =>
    obtain ⟨h1, h2⟩ := num_itoa hn
    subst h1
    rw [parse_itoa h2]
    simp only
    rw [if_neg (by rw [trim_itoa]; have := nDigits_le h2; omega), if_pos trivial]
  | none =>
    cases hp : parseIntB 64 l with
    | ok v =>
      simp only
      split
      · rfl
      · rename_i ht
        split
        · rename_i he
          exfalso
          subst he
          rw [trim_itoa] at ht
          rw [itoa_num (nDigits_gt (by omega))] at hn
          cases hn
        · rfl
    | range => rfl
    | _ => rfl
end Go.Proofs.YtimgebbbonfopaaGreatDoor.Plain
