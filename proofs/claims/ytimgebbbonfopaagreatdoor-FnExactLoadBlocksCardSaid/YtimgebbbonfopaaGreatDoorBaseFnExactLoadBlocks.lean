/- What the texts' functions come to: divided texts, numbers, lists of numbers, names. -/
import Derived.Test.YtimgebbbonfopaaGreatDoorPlain2
import Derived.Test.YtimgebbbonfopaaGreatDoorQFnExactLoadBlocks1
import Derived.Test.YtimgebbbonfopaaGreatDoorQFnExactLoadBlocks5
import Derived.Test.YtimgebbbonfopaaGreatDoorQFnExactLoadBlocks7
namespace Go.Proofs.YtimgebbbonfopaaGreatDoor.QFnExactLoadBlocks
open Go.RowKit Go.Proofs.YtimgebbbonfopaaGreatDoorW.PrintWords Go.Proofs.YtimgebbbonfopaaGreatDoorW.PrintLast Go.Proofs.YtimgebbbonfopaaGreatDoorW.PrintMore Go.Proofs.YtimgebbbonfopaaGreatDoor.Plain
set_option linter.unusedVariables false
set_option linter.unusedSimpArgs false

def L (s : ByteArray) : List UInt8 := s.data.toList
def ofL (l : List UInt8) : ByteArray := ⟨l.toArray⟩
theorem L_ofL (l : List UInt8) : L (ofL l) = l := rfl
theorem ofL_L (s : ByteArray) : ofL (L s) = s := by cases s; simp [ofL, L]
theorem L_size (s : ByteArray) : (L s).length = s.size := by unfold L; rw [Array.length_toList]; rfl
theorem ofL_size (l : List UInt8) : (ofL l).size = l.length := by unfold ofL ByteArray.size; simp
theorem tl (s : ByteArray) : s.toList = L s := Lib.toList_data s
theorem L_app (a b : ByteArray) : L (a ++ b) = L a ++ L b := by unfold L; simp
theorem L_extract (s : ByteArray) (a b : Nat) : L (s.extract a b) = ((L s).take b).drop a := by
  unfold L
  rw [ByteArray.data_extract, Array.toList_extract, List.extract_eq_take_drop, List.drop_take]
theorem ext_eq (s : ByteArray) (a b : Nat) : s.extract a b = ofL (((L s).take b).drop a) := by rw [← L_extract, ofL_L]
theorem drop_lt {s : ByteArray} {i : Nat} {c : UInt8} {r : List UInt8} (h : (L s).drop i = c :: r) : i < s.size := by
  rcases Nat.lt_or_ge i s.size with h' | h'
  · exact h'
  · rw [List.drop_eq_nil_of_le (by rw [L_size]; exact h')] at h; cases h
theorem bt_drop {s : ByteArray} {i : Nat} {c : UInt8} {r : List UInt8} (h : (L s).drop i = c :: r) : bt s (i : Int) = (c.toNat : Int) := by
  have hi := drop_lt h
  unfold bt
  rw [dif_pos (by simpa using hi)]
  have hc : (L s)[i]? = some c := by rw [← List.head?_drop, h]; rfl
  have h2 : (L s)[i]? = some (s[i]'hi) := by
    unfold L
    rw [Array.getElem?_toList]
    exact Array.getElem?_eq_getElem hi
  rw [h2] at hc
  simp only [Int.toNat_natCast]
  rw [Option.some.inj hc]
theorem drop_next {s : ByteArray} {i : Nat} {c : UInt8} {r : List UInt8} (h : (L s).drop i = c :: r) : (L s).drop (i + 1) = r ∧ (L s).take (i + 1) = (L s).take i ++ [c] := by
  constructor
  · rw [← List.drop_drop, h]; rfl
  · rw [List.take_add_one]
    have : (L s)[i]? = some c := by rw [← List.head?_drop, h]; rfl
    rw [this]; rfl
theorem drop_end {s : ByteArray} {i : Nat} (h : (L s).drop i = []) : s.size ≤ i := by
  have := List.drop_eq_nil_iff.1 h
  rwa [L_size] at this
theorem w1 {i : Nat} (h : i ≤ 4611686018427387904) : wrap64 ((i : Int) + 1) = ((i + 1 : Nat) : Int) := by
  unfold wrap64
  omega
theorem wr {n : Int} (h0 : -9223372036854775808 ≤ n) (h1 : n ≤ 9223372036854775807) : wrap64 n = n := by
  unfold wrap64
  omega
theorem succ_of {k n : Nat} (h : n < k) : ∃ m, k = m + 1 := ⟨k - 1, by omega⟩
theorem c_eq (c d : UInt8) : ((c.toNat : Int) = (d.toNat : Int)) ↔ c = d := by
  rw [Int.ofNat_inj]
  exact UInt8.toNat_inj

/-! ### divided texts -/
theorem split_l0 (s : ByteArray) (c : UInt8) (hs : s.size ≤ 1048576) : ∀ (l : List UInt8) (k i fr : Nat) (out : List ByteArray), (L s).drop i = l → fr ≤ i → i ≤ s.size → l.length < k → out.length + l.length ≤ 1048577 →
    spec_l01Split.l0 k s (c.toNat : Int) out (fr : Int) (i : Int) = some (out ++ (splitFrom c (((L s).take i).drop fr) l).map ofL) := by
  intro l
  induction l with
  | nil =>
    intro k i fr out hd hf hi hk ho
    obtain ⟨k, rfl⟩ := succ_of hk
    have he := drop_end hd
    have e : i = s.size := by omega
    subst e
    simp only [spec_l01Split.l0]
    rw [if_neg (by omega), if_pos (by omega), if_pos (by omega), if_pos (by omega), ext_eq]
    simp [splitFrom]
  | cons x r ih =>
    intro k i fr out hd hf hi hk ho
    obtain ⟨k, rfl⟩ := succ_of hk
    have hlt := drop_lt hd
    obtain ⟨hn, ht⟩ := drop_next hd
    have hb := bt_drop hd
    rw [List.length_cons] at hk ho
    simp only [spec_l01Split.l0]
    rw [if_pos (by omega), if_pos (by omega), hb]
    by_cases hx : x = c
    · subst hx
      rw [if_pos rfl, if_pos (by omega), if_pos (by omega), if_pos (by omega), if_pos (by omega), w1 (by omega), ext_eq]
      rw [ih k (i + 1) (i + 1) _ hn (Nat.le_refl _) (by omega) (by omega) (by rw [List.length_append, List.length_singleton]; omega)]
      rw [splitFrom_eq]
      have e0 : ((L s).take (i + 1)).drop (i + 1) = [] := by rw [List.drop_eq_nil_iff, List.length_take]; omega
      rw [e0]
      simp
    · rw [if_neg (by rw [c_eq]; exact hx), w1 (by omega), ih k (i + 1) fr out hn (by omega) (by omega) (by omega) (by omega), splitFrom_ne hx, ht]
      rw [List.drop_append_of_le_length (by rw [List.length_take, L_size]; omega)]
theorem spec_split (s : ByteArray) (c : UInt8) (hs : s.size ≤ 1048576) (k : Nat) (hk : s.size < k) : spec_l01Split.f k s (c.toNat : Int) = some ((split c (L s)).map ofL) := by
  unfold spec_l01Split.f
  have := split_l0 s c hs (L s) k 0 0 [] (by simp) (Nat.le_refl _) (Nat.zero_le _) (by rw [L_size]; exact hk) (by rw [L_size]; simp; omega)
  simpa [split] using this
theorem splitB_L (c : UInt8) (k : Nat) (s : ByteArray) : Lib.splitB ⟨#[c]⟩ 0 k s = (Lib.splitK [c] 0 k (L s)).map ofL := by
  have h := Lib.splitB_data ⟨#[c]⟩ 0 k s
  have h2 : (Lib.splitB ⟨#[c]⟩ 0 k s).map (fun z => ofL z.data.toList) = (Lib.splitK [c] 0 k (L s)).map ofL := by
    rw [show (fun z : ByteArray => ofL z.data.toList) = ofL ∘ (fun z : ByteArray => z.data.toList) from rfl, ← List.map_map, h]
    rfl
  rw [← h2]
  have : (fun z : ByteArray => ofL z.data.toList) = id := by funext z; exact ofL_L z
  rw [this, List.map_id]
theorem impl_split (s : ByteArray) (c : UInt8) (hs : s.size ≤ 1048576) : strings_Split.f s ⟨#[c]⟩ = some ((split c (L s)).map ofL) := by
  unfold strings_Split.f
  rw [if_pos ⟨by omega, Nat.le_refl _⟩, splitB_L]
  have e : Lib.countB s ⟨#[c]⟩ = (L s).count c := Lib.count_one c (L s)
  rw [e, splitK_all c _ _ (L s) rfl (Nat.le_refl _)]
/-! ### numbers -/
theorem dig_ok (c : UInt8) : spec_l01Digit.f (c.toNat : Int) = some (digB c) := by
  unfold spec_l01Digit.f digB
  split
  · rename_i h
    have : decide (48 ≤ c.toNat) = true := by simp; omega
    rw [this, Bool.true_and]
    congr 1
    exact decide_eq_decide.2 ⟨fun h => by omega, fun h => by omega⟩
  · rename_i h
    have : decide (48 ≤ c.toNat) = false := by simp; omega
    rw [this]
    rfl
theorem num_l0 (s : ByteArray) (a : Int) : ∀ (l : List UInt8) (k i acc : Nat), (L s).drop i = l → i ≤ s.size → s.size ≤ 1048576 → l.length < k → (acc + 1) * 10 ^ l.length ≤ 1000000000000000000 →
    spec_l01Number.l0 k s a (acc : Int) (i : Int) = some (if l.all digB = true then (if a = 1 then -(dval acc l : Int) else (dval acc l : Int), true) else (0, false)) := by
  intro l
  induction l with
  | nil =>
    intro k i acc hd hi hs hk hb
    obtain ⟨k, rfl⟩ := succ_of hk
    have he := drop_end hd
    rw [List.length_nil, Nat.pow_zero, Nat.mul_one] at hb
    simp only [spec_l01Number.l0]
    rw [if_neg (by omega)]
    split
    · rename_i h1
      rw [wr (by omega) (by omega)]; rfl
    · rename_i h1
      rfl
  | cons x r ih =>
    intro k i acc hd hi hs hk hb
    obtain ⟨k, rfl⟩ := succ_of hk
    have hlt := drop_lt hd
    obtain ⟨hn, _⟩ := drop_next hd
    have hbt := bt_drop hd
    rw [List.length_cons] at hk hb
    simp only [spec_l01Number.l0]
    rw [if_pos (by omega), if_pos (by omega), hbt, dig_ok]
    simp only [Option.bind_some]
    by_cases hx : digB x = true
    · have h48 : 48 ≤ x.toNat ∧ x.toNat ≤ 57 := by simp [digB] at hx; exact hx
      have hp : 1 ≤ 10 ^ r.length := Nat.one_le_pow _ _ (by decide)
      rw [Nat.pow_succ, Nat.mul_comm (10 ^ r.length) 10, ← Nat.mul_assoc] at hb
      have hb2 : (acc + 1) * 10 ≤ 1000000000000000000 := Nat.le_trans (Nat.le_mul_of_pos_right _ hp) hb
      rw [if_pos hx, w1 (by omega), wr (n := 10 * (acc : Int)) (by omega) (by omega), Int.emod_eq_of_lt (by omega) (by omega), wr (by omega) (by omega)]
      rw [show 10 * (acc : Int) + ((x.toNat : Int) - 48) = ((10 * acc + (x.toNat - 48) : Nat) : Int) by omega]
      rw [ih k (i + 1) (10 * acc + (x.toNat - 48)) hn (by omega) hs (by omega) (Nat.le_trans (Nat.mul_le_mul_right _ (by omega)) hb)]
      simp only [List.all_cons, hx, Bool.true_and]
      rfl
    · have hx' : digB x = false := Bool.eq_false_iff.2 hx
      rw [hx', if_neg (by simp)]
      simp [hx']
def numR (l : List UInt8) : Int × Bool := match num l with | some n => (n, true) | none => (0, false)
theorem head_drop (s : ByteArray) (i : Nat) {c : UInt8} {r : List UInt8} (h : (L s).drop i = c :: r) : (bt s (i : Int) = 48) ↔ c = 48 := by
  rw [bt_drop h]
  exact c_eq c 48
theorem num_j1 (s : ByteArray) (hs : s.size ≤ 1048576) (k : Nat) (a : Nat) (ha : a ≤ s.size) (hk : s.size + 2 < k) (h1 : s.size ≠ 0 → a ≤ 1) :
    spec_l01Number.j1 k s (a : Int) = some (if okD ((L s).drop a) && decide (((L s).drop a).length ≤ 18) && (((L s).drop a).head? != some 48 || a == 0) then (if (a : Int) = 1 then -(dval 0 ((L s).drop a) : Int) else (dval 0 ((L s).drop a) : Int), true) else (0, false)) := by
  obtain ⟨k, rfl⟩ := succ_of hk
  have hl : ((L s).drop a).length = s.size - a := by rw [List.length_drop, L_size]
  simp only [spec_l01Number.j1]
  have j2t : ∀ k, spec_l01Number.j2 (k + 1) s (a : Int) true = some (0, false) := fun k => by simp only [spec_l01Number.j2]; rfl
  have j2f : ∀ k, spec_l01Number.j2 (k + 1) s (a : Int) false = spec_l01Number.l0 k s (a : Int) 0 (a : Int) := fun k => by simp only [spec_l01Number.j2]; rfl
  obtain ⟨k, rfl⟩ := succ_of (n := s.size + 1) (k := k) (by omega)
  by_cases e0 : s.size = a
  · rw [if_pos (by omega), j2t]
    have : (L s).drop a = [] := List.length_eq_zero_iff.1 (by omega)
    rw [this]
    rfl
  · rw [if_neg (by omega), wr (by omega) (by omega)]
    by_cases e18 : s.size - a > 18
    · rw [if_pos (by omega), j2t]
      have : decide (((L s).drop a).length ≤ 18) = false := by simp [hl]; omega
      rw [this]
      simp
    · rw [if_neg (by omega), if_pos (by omega), if_pos (by omega)]
      cases hd : (L s).drop a with
      | nil => rw [hd] at hl; simp at hl; omega
      | cons c r =>
        have hlen : (c :: r).length = s.size - a := by rw [← hd]; exact hl
        have e18' : decide ((c :: r).length ≤ 18) = true := by simp only [decide_eq_true_eq]; omega
        have hpow : (0 + 1) * 10 ^ (c :: r).length ≤ 1000000000000000000 := by rw [Nat.zero_add, Nat.one_mul]; exact pow18 (by omega)
        by_cases h48 : c = 48
        · rw [if_pos ((head_drop s a hd).2 h48)]
          subst h48
          by_cases hs1 : s.size > 1
          · rw [show decide ((s.size : Int) > 1) = true by simp; omega, j2t]
            by_cases ha0 : a = 0
            · subst ha0
              have : okD (48 :: r) = false := by
                have : r ≠ [] := by rintro rfl; simp at hlen; omega
                simp [okD, this]
              rw [this]
              rfl
            · have : (a == 0) = false := by simp [ha0]
              rw [this]
              simp
          · rw [show decide ((s.size : Int) > 1) = false by simp; omega, j2f]
            have ha0 : a = 0 := by omega
            subst ha0
            have hr : r = [] := by apply List.length_eq_zero_iff.1; simp at hlen; omega
            subst hr
            have := num_l0 s (0 : Int) [48] k 0 0 hd (Nat.zero_le _) hs (by simp; omega) (by decide)
            simpa [okD, digB] using this
        · rw [if_neg (fun h => h48 ((head_drop s a hd).1 h)), j2f]
          have := num_l0 s (a : Int) (c :: r) k a 0 hd ha hs (by omega) hpow
          rw [show ((0 : Nat) : Int) = 0 from rfl] at this
          rw [this, e18']
          have hne : (c :: r).head? != some 48 := by simp [h48]
          have hok : okD (c :: r) = (c :: r).all digB := by unfold okD; rw [hne]; simp
          rw [hne, hok, Bool.true_or, Bool.and_true, Bool.and_true]
theorem spec_num (s : ByteArray) (hs : s.size ≤ 1048576) (k : Nat) (hk : s.size + 4 < k) : spec_l01Number.f k s = some (numR (L s)) := by
  unfold spec_l01Number.f
  obtain ⟨k, rfl⟩ := succ_of hk
  have j0t : spec_l01Number.j0 (k + 1) s 0 true = spec_l01Number.j1 k s 1 := by simp only [spec_l01Number.j0]; rfl
  have j0f : spec_l01Number.j0 (k + 1) s 0 false = spec_l01Number.j1 k s 0 := by simp only [spec_l01Number.j0]; rfl
  cases hl : L s with
  | nil =>
    have h0 : s.size = 0 := by rw [← L_size, hl]; rfl
    rw [if_neg (by omega), j0f]
    have := num_j1 s hs k 0 (Nat.zero_le _) (by omega) (fun h => absurd h0 h)
    rw [show ((0 : Nat) : Int) = 0 from rfl] at this
    rw [this, List.drop_zero, hl]
    rfl
  | cons c r =>
    have h0 : 0 < s.size := by rw [← L_size, hl]; simp
    have hd : (L s).drop 0 = c :: r := hl
    rw [if_pos (by omega), if_pos (by omega)]
    have hb : bt s 0 = (c.toNat : Int) := bt_drop hd
    rw [hb]
    by_cases h45 : c = 45
    · subst h45
      rw [show (((45 : UInt8).toNat : Int) == 45) = true by decide, j0t]
      have := num_j1 s hs k 1 (by omega) (by omega) (fun _ => Nat.le_refl _)
      rw [show ((1 : Nat) : Int) = 1 from rfl] at this
      have hd1 : (L s).drop 1 = r := by rw [hl]; rfl
      rw [this, hd1]
      unfold numR num
      simp only [if_true]
      cases hq : okD r && decide (r.length ≤ 18) && r.head? != some 48 with
      | true => rw [if_pos (by simpa using hq)]; rw [if_pos (by simp)]
      | false => rw [if_neg (by simpa using hq)]; rw [if_neg (by simp)]
    · rw [show ((c.toNat : Int) == 45) = false by rw [beq_eq_false_iff_ne]; intro h; exact h45 ((c_eq c 45).1 h), j0f]
      have := num_j1 s hs k 0 (Nat.zero_le _) (by omega) (fun _ => Nat.zero_le _)
      rw [show ((0 : Nat) : Int) = 0 from rfl] at this
      rw [this, List.drop_zero, hl]
      unfold numR num
      simp only [if_neg h45]
      cases hq : okD (c :: r) && decide ((c :: r).length ≤ 18) with
      | true => rw [if_pos (by simp), if_neg (by decide), if_pos rfl]
      | false => rw [if_neg (by simp), if_neg (by simp)]
theorem impl_num (s : ByteArray) (hs : s.size ≤ 1048576) : impl_ReadDecimal.f s = some (numR (L s)) := by
  unfold impl_ReadDecimal.f
  rw [if_pos (by omega)]
  congr 1
  exact readDec_eq (L s)
end Go.Proofs.YtimgebbbonfopaaGreatDoor.QFnExactLoadBlocks
