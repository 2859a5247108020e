/- What the texts' functions come to: divided texts, numbers, lists of numbers, names. -/
import Derived.Test.YtimgebbbonfopaaDoorPlain2
import Derived.Test.YtimgebbbonfopaaDoorQFnExactSalvageBlocks1
import Derived.Test.YtimgebbbonfopaaDoorQFnExactSalvageBlocks4
namespace Go.Proofs.YtimgebbbonfopaaDoor.QFnExactSalvageBlocks
open Go.RowKit Go.Proofs.YtimgebbbonfopaaDoorW.PrintWords Go.Proofs.YtimgebbbonfopaaDoorW.PrintLast Go.Proofs.YtimgebbbonfopaaDoorW.PrintMore Go.Proofs.YtimgebbbonfopaaDoor.Plain
set_option linter.unusedVariables false
set_option linter.unusedSimpArgs false

def L (s : ByteArray) : List UInt8 := s.data.toList
def ofL (l : List UInt8) : ByteArray := ⟨l.toArray⟩
theorem L_ofL (l : List UInt8) : L (ofL l) = l := rfl
theorem ofL_L (s : ByteArray) : ofL (L s) = s := by cases s; simp [ofL, L]
theorem L_size (s : ByteArray) : (L s).length = s.size := by unfold L; rw [Array.length_toList]; rfl
theorem ofL_size (l : List UInt8) : (ofL l).size = l.length := by unfold ofL ByteArray.size; simp
theorem tl (s : ByteArray) : s.toList = L s := Lib.toList_data s
theorem L_app (a b : ByteArray) : L (a ++ b) = L a ++ L b := by unfold L; simp
theorem L_extract (s : ByteArray) (a b : Nat) : L (s.extract a b) = ((L s).take b).drop a := by
  unfold L
  rw [ByteArray.data_extract, Array.toList_extract, List.extract_eq_take_drop, List.drop_take]
theorem ext_eq (s : ByteArray) (a b : Nat) : s.extract a b = ofL (((L s).take b).drop a) := by rw [← L_extract, ofL_L]
theorem drop_lt {s : ByteArray} {i : Nat} {c : UInt8} {r : List UInt8} (h : (L s).drop i = c :: r) : i < s.size := by
  rcases Nat.lt_or_ge i s.size with h' | h'
  · exact h'
  · rw [List.drop_eq_nil_of_le (by rw [L_size]; exact h')] at h; cases h
theorem bt_drop {s : ByteArray} {i : Nat} {c : UInt8} {r : List UInt8} (h : (L s).drop i = c :: r) : bt s (i : Int) = (c.toNat : Int) := by
  have hi := drop_lt h
  unfold bt
  rw [dif_pos (by simpa using hi)]
  have hc : (L s)[i]? = some c := by rw [← List.head?_drop, h]; rfl
  have h2 : (L s)[i]? = some (s[i]'hi) := by
    unfold L
    rw [Array.getElem?_toList]
    exact Array.getElem?_eq_getElem hi
  rw [h2] at hc
  simp only [Int.toNat_natCast]
  rw [Option.some.inj hc]
theorem drop_next {s : ByteArray} {i : Nat} {c : UInt8} {r : List UInt8} (h : (L s).drop i = c :: r) : (L s).drop (i + 1) = r ∧ (L s).take (i + 1) = (L s).take i ++ [c] := by
  constructor
  · rw [← List.drop_drop, h]; rfl
  · rw [List.take_add_one]
    have : (L s)[i]? = some c := by rw [← List.head?_drop, h]; rfl
    rw [this]; rfl
theorem drop_end {s : ByteArray} {i : Nat} (h : (L s).drop i = []) : s.size ≤ i := by
  have := List.drop_eq_nil_iff.1 h
  rwa [L_size] at this
theorem w1 {i : Nat} (h : i ≤ 4611686018427387904) : wrap64 ((i : Int) + 1) = ((i + 1 : Nat) : Int) := by
  unfold wrap64
  omega
theorem wr {n : Int} (h0 : -9223372036854775808 ≤ n) (h1 : n ≤ 9223372036854775807) : wrap64 n = n := by
  unfold wrap64
  omega
theorem succ_of {k n : Nat} (h : n < k) : ∃ m, k = m + 1 := ⟨k - 1, by omega⟩
theorem c_eq (c d : UInt8) : ((c.toNat : Int) = (d.toNat : Int)) ↔ c = d := by
  rw [Int.ofNat_inj]
  exact UInt8.toNat_inj

/-! ### divided texts -/
theorem split_l0 (s : ByteArray) (c : UInt8) (hs : s.size ≤ 1048576) : ∀ (l : List UInt8) (k i fr : Nat) (out : List ByteArray), (L s).drop i = l → fr ≤ i → i ≤ s.size → l.length < k → out.length + l.length ≤ 1048577 →
    spec_l01Split.l0 k s (c.toNat : Int) out (fr : Int) (i : Int) = some (out ++ (splitFrom c (((L s).take i).drop fr) l).map ofL) := by
  intro l
  induction l with
  | nil =>
    intro k i fr out hd hf hi hk ho
    obtain ⟨k, rfl⟩ := succ_of hk
    have he := drop_end hd
    have e : i = s.size := by omega
    subst e
    simp only [spec_l01Split.l0]
    rw [if_neg (by omega), if_pos (by omega), if_pos (by omega), if_pos (by omega), ext_eq]
    simp [splitFrom]
  | cons x r ih =>
    intro k i fr out hd hf hi hk ho
    obtain ⟨k, rfl⟩ := succ_of hk
    have hlt := drop_lt hd
    obtain ⟨hn, ht⟩ := drop_next hd
    have hb := bt_drop hd
    rw [List.length_cons] at hk ho
    simp only [spec_l01Split.l0]
    rw [if_pos (by omega), if_pos (by omega), hb]
    by_cases hx : x = c
    · subst hx
      rw [if_pos rfl, if_pos (by omega), if_pos (by omega), if_pos (by omega), if_pos (by omega), w1 (by omega), ext_eq]
      rw [ih k (i + 1) (i + 1) _ hn (Nat.le_refl _) (by omega) (by omega) (by rw [List.length_append, List.length_singleton]; omega)]
      rw [splitFrom_eq]
      have e0 : ((L s).take (i + 1)).drop (i + 1) = [] := by rw [List.drop_eq_nil_iff, List.length_take]; omega
      rw [e0]
      simp
    · rw [if_neg (by rw [c_eq]; exact hx), w1 (by omega), ih k (i + 1) fr out hn (by omega) (by omega) (by omega) (by omega), splitFrom_ne hx, ht]
      rw [List.drop_append_of_le_length (by rw [List.length_take, L_size]; omega)]
theorem spec_split (s : ByteArray) (c : UInt8) (hs : s.size ≤ 1048576) (k : Nat) (hk : s.size < k) : spec_l01Split.f k s (c.toNat : Int) = some ((split c (L s)).map ofL) := by
  unfold spec_l01Split.f
  have := split_l0 s c hs (L s) k 0 0 [] (by simp) (Nat.le_refl _) (Nat.zero_le _) (by rw [L_size]; exact hk) (by rw [L_size]; simp; omega)
  simpa [split] using this
theorem splitB_L (c : UInt8) (k : Nat) (s : ByteArray) : Lib.splitB ⟨#[c]⟩ 0 k s = (Lib.splitK [c] 0 k (L s)).map ofL := by
  have h := Lib.splitB_data ⟨#[c]⟩ 0 k s
  have h2 : (Lib.splitB ⟨#[c]⟩ 0 k s).map (fun z => ofL z.data.toList) = (Lib.splitK [c] 0 k (L s)).map ofL := by
    rw [show (fun z : ByteArray => ofL z.data.toList) = ofL ∘ (fun z : ByteArray => z.data.toList) from rfl, ← List.map_map, h]
    rfl
  rw [← h2]
  have : (fun z : ByteArray => ofL z.data.toList) = id := by funext z; exact ofL_L z
  rw [this, List.map_id]
theorem impl_split (s : ByteArray) (c : UInt8) (hs : s.size ≤ 1048576) : strings_Split.f s ⟨#[c]⟩ = some ((split c (L s)).map ofL) := by
  unfold strings_Split.f
  rw [if_pos ⟨by omega, Nat.le_refl _⟩, splitB_L]
  have e : Lib.countB s ⟨#[c]⟩ = (L s).count c := Lib.count_one c (L s)
  rw [e, splitK_all c _ _ (L s) rfl (Nat.le_refl _)]
/-! ### numbers -/
theorem dig_ok (c : UInt8) : spec_l01Digit.f (c.toNat : Int) = some (digB c) := by
  unfold spec_l01Digit.f digB
  split
  · rename_i h
    have : decide (48 ≤ c.toNat) = true := by simp; omega
    rw [this, Bool.true_and]
    congr 1
    exact decide_eq_decide.2 ⟨fun h => by omega, fun h => by omega⟩
  · rename_i h
    have : decide (48 ≤ c.toNat) = false := by simp; omega
    rw [this]
    rfl
end Go.Proofs.YtimgebbbonfopaaDoor.QFnExactSalvageBlocks
