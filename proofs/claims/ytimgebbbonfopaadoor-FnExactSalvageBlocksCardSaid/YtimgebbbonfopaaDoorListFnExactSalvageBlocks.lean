/- What the functions on lists of numbers and on names come to. -/
import Derived.Test.YtimgebbbonfopaaDoorBaseFnExactSalvageBlocks
import Derived.Test.YtimgebbbonfopaaDoorQFnExactSalvageBlocks1
import Derived.Test.YtimgebbbonfopaaDoorQFnExactSalvageBlocks2
import Derived.Test.YtimgebbbonfopaaDoorQFnExactSalvageBlocks4
import Derived.Test.YtimgebbbonfopaaDoorQFnExactSalvageBlocks5
namespace Go.Proofs.YtimgebbbonfopaaDoor.QFnExactSalvageBlocks
open Go.RowKit Go.Proofs.YtimgebbbonfopaaDoorW.PrintWords Go.Proofs.YtimgebbbonfopaaDoorW.PrintLast Go.Proofs.YtimgebbbonfopaaDoorW.PrintMore Go.Proofs.YtimgebbbonfopaaDoor.Plain
set_option linter.unusedVariables false
set_option linter.unusedSimpArgs false

theorem in_dec (n a b : Int) : (if n ≥ a then some (decide (n ≤ b)) else some false : Option Bool) = some (decide (a ≤ n) && decide (n ≤ b)) := by
  by_cases h : n ≥ a
  · rw [if_pos h, show decide (a ≤ n) = true from decide_eq_true h, Bool.true_and]
  · rw [if_neg h, show decide (a ≤ n) = false from decide_eq_false h, Bool.false_and]
theorem impl_in (n a b : Int) : impl_within.f n a b = some (decide (a ≤ n) && decide (n ≤ b)) := in_dec n a b
theorem splitFrom_len (c : UInt8) (l : List UInt8) : ∀ acc, ∀ p ∈ splitFrom c acc l, p.length ≤ acc.length + l.length := by
  induction l with
  | nil => intro acc p hp; simp [splitFrom] at hp; subst hp; simp
  | cons x r ih =>
    intro acc p hp
    by_cases hx : x = c
    · subst hx
      rw [splitFrom_eq] at hp
      rcases List.mem_cons.1 hp with rfl | hp
      · simp
      · have := ih [] p hp
        simp at this ⊢
        omega
    · rw [splitFrom_ne hx] at hp
      have := ih _ p hp
      simp at this ⊢
      omega
theorem split_len (c : UInt8) (l : List UInt8) : ∀ p ∈ split c l, p.length ≤ l.length := fun p hp => by
  have := splitFrom_len c l [] p hp
  simpa using this
theorem impl_dec (n : Int) (h0 : -9223372036854775808 ≤ n) (h1 : n ≤ 9223372036854775807) : impl_Decimal.f n = some (ofL (Lib.itoa n)) := by
  unfold impl_Decimal.f
  rw [if_pos ⟨h0, h1⟩]
  rfl
/-! ### names -/
theorem small_ok (c : UInt8) : spec_l01Small.f (c.toNat : Int) = some (smallB c) := by
  unfold spec_l01Small.f smallB
  rw [in_dec]
  congr 2 <;> exact decide_eq_decide.2 ⟨fun h => by omega, fun h => by omega⟩
theorem name_l0 (s : ByteArray) (hs : s.size ≤ 1048576) : ∀ (l : List UInt8) (k i : Nat), (L s).drop i = l → i ≤ s.size → l.length < k → spec_l01Name.l0 k s (i : Int) = some (l.all fun c => smallB c || digB c) := by
  intro l
  induction l with
  | nil =>
    intro k i hd hi hk
    obtain ⟨k, rfl⟩ := succ_of hk
    have := drop_end hd
    simp only [spec_l01Name.l0]
    rw [if_neg (by omega)]
    rfl
  | cons x r ih =>
    intro k i hd hi hk
    obtain ⟨k, rfl⟩ := succ_of hk
    have hlt := drop_lt hd
    obtain ⟨hn, _⟩ := drop_next hd
    rw [List.length_cons] at hk
    simp only [spec_l01Name.l0]
    rw [if_pos (by omega), if_pos (by omega), bt_drop hd, small_ok]
    simp only [Option.bind_some]
    rw [dig_ok]
    simp only [Option.bind_some]
    rw [w1 (by omega), ih k (i + 1) hn (by omega) (by omega)]
    rw [List.all_cons]
    cases smallB x <;> cases digB x <;> rfl
theorem spec_name (s : ByteArray) (hs : s.size ≤ 1048576) (k : Nat) (hk : s.size + 4 < k) : spec_l01Name.f k s = some (nameB (L s)) := by
  unfold spec_l01Name.f
  obtain ⟨k, rfl⟩ := succ_of hk
  have jt : spec_l01Name.j0 (k + 1) s true = some false := by simp only [spec_l01Name.j0]; rfl
  have jf : spec_l01Name.j0 (k + 1) s false = spec_l01Name.l0 k s 0 := by simp only [spec_l01Name.j0]; rfl
  rw [tl]
  unfold nameB
  rw [L_size]
  cases hl : L s with
  | nil =>
    have h0 : s.size = 0 := by rw [← L_size, hl]; rfl
    rw [if_pos rfl, jt, h0]
    rfl
  | cons c r =>
    have h0 : 0 < s.size := by rw [← L_size, hl]; simp
    rw [if_neg (by simp)]
    by_cases h10 : s.size > 10
    · rw [if_pos (by omega), jt, show decide (s.size ≤ 10) = false by simp; omega]
      simp
    · rw [if_neg (by omega), if_pos (by omega)]
      have hb : bt s 0 = (c.toNat : Int) := bt_drop (i := 0) hl
      rw [hb, small_ok]
      simp only [Option.bind_some]
      have hl0 := name_l0 s hs (c :: r) k 0 hl (Nat.zero_le _) (by rw [← hl, L_size]; omega)
      rw [show ((0 : Nat) : Int) = 0 from rfl] at hl0
      rw [show decide (s.size ≤ 10) = true by simp; omega, show decide (1 ≤ s.size) = true by simp; omega]
      cases hc : smallB c with
      | true =>
        rw [show (!true) = false from rfl, jf, hl0]
        simp [hc]
      | false =>
        rw [show (!false) = true from rfl, jt]
        simp [hc]
theorem only_l0 (s : ByteArray) (hs : s.size ≤ 1048576) : ∀ (l : List UInt8) (k i : Nat), (L s).drop i = l → i ≤ s.size → l.length < k → impl_onlyNameBytes.l0 k s (s.size : Int) (i : Int) = some (l.all fun c => smallB c || digB c) := by
  intro l
  induction l with
  | nil =>
    intro k i hd hi hk
    obtain ⟨k, rfl⟩ := succ_of hk
    have := drop_end hd
    simp only [impl_onlyNameBytes.l0]
    rw [if_neg (by omega)]
    rfl
  | cons x r ih =>
    intro k i hd hi hk
    obtain ⟨k, rfl⟩ := succ_of hk
    have hlt := drop_lt hd
    obtain ⟨hn, _⟩ := drop_next hd
    rw [List.length_cons] at hk
    simp only [impl_onlyNameBytes.l0]
    rw [if_pos (by omega), if_pos (by omega), if_pos (by omega), bt_drop hd, w1 (by omega), ih k (i + 1) hn (by omega) (by omega), List.all_cons]
    by_cases h1 : (x.toNat : Int) < 97
    · have hs' : smallB x = false := by simp [smallB]; omega
      rw [if_pos h1, hs', Bool.false_or]
      by_cases h2 : (x.toNat : Int) < 48
      · have hd' : digB x = false := by simp [digB]; omega
        rw [if_pos h2, hd', Bool.false_and]
      · rw [if_neg h2]
        by_cases h3 : (x.toNat : Int) > 57
        · have hd' : digB x = false := by simp [digB]; omega
          rw [if_pos h3, hd', Bool.false_and]
        · have hd' : digB x = true := by simp [digB]; omega
          rw [if_neg h3, hd', Bool.true_and]
    · rw [if_neg h1]
      by_cases h4 : (x.toNat : Int) > 122
      · have hs' : smallB x = false := by simp [smallB]; omega
        have hd' : digB x = false := by simp [digB]; omega
        rw [if_pos h4, if_neg (by omega), if_pos (by omega), hs', hd', Bool.false_or, Bool.false_and]
      · have hs' : smallB x = true := by simp [smallB]; omega
        rw [if_neg h4, hs', Bool.true_or, Bool.true_and]
theorem impl_name (s : ByteArray) (hs : s.size ≤ 1048576) (k : Nat) (hk : s.size + 4 < k) : impl_IsName.f k s = some (nameB (L s)) := by
  unfold impl_IsName.f impl_onlyNameBytes.f
  have hl0 := only_l0 s hs (L s) k 0 (List.drop_zero) (Nat.zero_le _) (by rw [L_size]; omega)
  rw [show ((0 : Nat) : Int) = 0 from rfl] at hl0
  rw [hl0]
  unfold nameB
  rw [L_size]
  cases hl : L s with
  | nil =>
    have h0 : s.size = 0 := by rw [← L_size, hl]; rfl
    rw [if_pos (by omega), h0]
    rfl
  | cons c r =>
    have h0 : 0 < s.size := by rw [← L_size, hl]; simp
    have hb : bt s 0 = (c.toNat : Int) := bt_drop (i := 0) hl
    rw [if_neg (by omega), show decide (1 ≤ s.size) = true by simp; omega]
    by_cases h10 : s.size > 10
    · rw [if_pos (by omega), show decide (s.size ≤ 10) = false by simp; omega]
      simp
    · rw [if_neg (by omega), if_pos (by omega), hb, show decide (s.size ≤ 10) = true by simp; omega]
      by_cases h1 : (c.toNat : Int) < 97
      · have hs' : smallB c = false := by simp [smallB]; omega
        rw [if_pos h1]
        simp [hs']
      · rw [if_neg h1]
        by_cases h4 : (c.toNat : Int) > 122
        · have hs' : smallB c = false := by simp [smallB]; omega
          rw [if_pos h4]
          simp [hs']
        · have hs' : smallB c = true := by simp [smallB]; omega
          rw [if_neg h4]
          simp [hs']
end Go.Proofs.YtimgebbbonfopaaDoor.QFnExactSalvageBlocks
