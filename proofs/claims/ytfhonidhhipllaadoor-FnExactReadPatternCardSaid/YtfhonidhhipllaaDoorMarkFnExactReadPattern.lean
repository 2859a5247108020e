/- Comparing, marking and counting a row of whole numbers: what the law's own functions come to. -/
import Derived.Test.YtfhonidhhipllaaDoorListFnExactReadPattern
import Derived.Test.YtfhonidhhipllaaDoorQFnExactReadPattern4
namespace Go.Proofs.YtfhonidhhipllaaDoor.QFnExactReadPattern
open Go.RowKit Go.Proofs.YtfhonidhhipllaaDoorW.PrintWords Go.Proofs.YtfhonidhhipllaaDoorW.PrintLast Go.Proofs.YtfhonidhhipllaaDoorW.PrintMore Go.Proofs.YtfhonidhhipllaaDoor.Plain
set_option linter.unusedVariables false
set_option linter.unusedSimpArgs false
def seqI : Int → Nat → List Int
  | _, 0 => []
  | m, n + 1 => m :: seqI (m + 1) n
theorem seqI_length : ∀ (n : Nat) (m : Int), (seqI m n).length = n
  | 0, _ => rfl
  | n + 1, m => by simp [seqI, seqI_length n]
theorem eqI_l0 (xs : List Int) (hx : xs.length ≤ 4611686018427387904) : ∀ (r : List Int) (k i : Nat), xs.drop i = r → i ≤ xs.length → r.length < k → laws_eqInt64S.l0 k xs xs (i : Int) = some true := by
  intro r
  induction r with
  | nil =>
    intro k i hd hi hk
    obtain ⟨k, rfl⟩ := succ_of hk
    have := List.drop_eq_nil_iff.1 hd
    simp only [laws_eqInt64S.l0]
    rw [if_neg (by omega)]
  | cons x r ih =>
    intro k i hd hi hk
    obtain ⟨k, rfl⟩ := succ_of hk
    obtain ⟨_, hlt, hn⟩ := get_at 0 hd
    rw [List.length_cons] at hk
    simp only [laws_eqInt64S.l0]
    rw [if_pos (by omega), if_pos (by omega), if_pos (by omega), if_pos trivial, w1 (by omega)]
    exact ih k (i + 1) hn (by omega) (by omega)
theorem eqI (xs : List Int) (hx : xs.length ≤ 1048576) (k : Nat) (hk : 1048576 < k) : laws_eqInt64S.f k xs xs = some true := by
  unfold laws_eqInt64S.f
  rw [if_pos rfl]
  exact eqI_l0 xs (by omega) xs k 0 rfl (Nat.zero_le _) (by omega)
theorem markI_l0 : ∀ (r : List Int) (k : Nat) (m : Int) (p : List Int), r.length < k → p.length + r.length ≤ 4611686018427387904 → 0 ≤ m → m + r.length ≤ 4611686018427387904 → laws_markInt64S.l0 k (p ++ r) m (p.length : Int) = some (m + r.length, p ++ seqI m r.length) := by
  intro r
  induction r with
  | nil =>
    intro k m p hk h1 h2 h3
    obtain ⟨k, rfl⟩ := succ_of hk
    simp only [laws_markInt64S.l0]
    rw [if_neg (by simp)]
    simp [seqI]
  | cons x r ih =>
    intro k m p hk h1 h2 h3
    obtain ⟨k, rfl⟩ := succ_of hk
    rw [List.length_cons] at hk h1 h3
    simp only [laws_markInt64S.l0]
    rw [if_pos (by simp; omega), if_pos (by omega), w1 (by omega), wr (by omega) (by omega)]
    have e : (p ++ x :: r).set ((p.length : Int)).toNat m = (p ++ [m]) ++ r := by
      rw [show ((p.length : Int)).toNat = p.length by omega, List.set_append_right _ _ (Nat.le_refl _)]
      simp
    rw [e, show ((p.length + 1 : Nat) : Int) = ((p ++ [m]).length : Int) by simp]
    rw [ih k (m + 1) (p ++ [m]) (by omega) (by rw [List.length_append, List.length_singleton]; omega) (by omega) (by omega)]
    simp only [List.length_cons, seqI, List.append_assoc, List.singleton_append]
    congr 2
    omega
theorem markI (xs : List Int) (m : Int) (hx : xs.length ≤ 1048576) (h0 : 0 ≤ m) (h1 : m ≤ 1048576000) (k : Nat) (hk : 1048576 < k) : laws_markInt64S.f k xs m = some (m + xs.length, seqI m xs.length) := by
  unfold laws_markInt64S.f
  exact markI_l0 xs k m [] (by omega) (by simp; omega) h0 (by omega)
theorem heldI_l0 : ∀ (n k : Nat) (m : Int) (p : List Int), n < k → p.length + n ≤ 4611686018427387904 → 0 ≤ m → m + n ≤ 4611686018427387904 → laws_heldInt64S.l0 k (p ++ seqI m n) m (p.length : Int) = some (m + n) := by
  intro n
  induction n with
  | zero =>
    intro k m p hk h1 h2 h3
    obtain ⟨k, rfl⟩ := succ_of hk
    simp only [laws_heldInt64S.l0, seqI, List.append_nil]
    rw [if_neg (by omega)]
    simp
  | succ n ih =>
    intro k m p hk h1 h2 h3
    obtain ⟨k, rfl⟩ := succ_of hk
    have hd : (p ++ seqI m (n + 1)).drop p.length = m :: seqI (m + 1) n := by rw [List.drop_left]; rfl
    obtain ⟨hr, hlt, _⟩ := get_at 0 hd
    simp only [laws_heldInt64S.l0]
    rw [if_pos (by omega), if_pos (by omega), if_pos (show rd (p ++ seqI m (n + 1)) (p.length : Int) = m from hr), w1 (by omega), wr (by omega) (by omega)]
    have e : p ++ seqI m (n + 1) = (p ++ [m]) ++ seqI (m + 1) n := by simp [seqI]
    rw [e, show ((p.length + 1 : Nat) : Int) = ((p ++ [m]).length : Int) by simp]
    rw [ih k (m + 1) (p ++ [m]) (by omega) (by rw [List.length_append, List.length_singleton]; omega) (by omega) (by omega)]
    congr 1
    omega
theorem heldI (n : Nat) (m : Int) (hn : n ≤ 1048576) (h0 : 0 ≤ m) (h1 : m ≤ 1048576000) (k : Nat) (hk : 1048576 < k) : laws_heldInt64S.f k (seqI m n) m = some (m + n) := by
  unfold laws_heldInt64S.f
  exact heldI_l0 n k m [] (by omega) (by simp; omega) h0 (by omega)
end Go.Proofs.YtfhonidhhipllaaDoor.QFnExactReadPattern
