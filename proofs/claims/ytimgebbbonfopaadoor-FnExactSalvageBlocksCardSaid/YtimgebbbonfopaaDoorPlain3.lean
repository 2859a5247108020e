/- A text cut at a byte, and what is no number or list of numbers because of a byte. -/
import Derived.Test.YtimgebbbonfopaaDoorPlain2
namespace Go.Proofs.YtimgebbbonfopaaDoor.Plain
open Go.Lib
set_option linter.unusedVariables false
theorem cut_none (c : UInt8) (l : List UInt8) (h : c ∉ l) : cut l [c] = (l, [], false) := by
  unfold cut
  rw [index_none' c l h, if_neg (by omega)]
theorem cut_hit (c : UInt8) (a b : List UInt8) (h : c ∉ a) : cut (a ++ c :: b) [c] = (a, b, true) := by
  unfold cut
  rw [index_hit' c a b h, if_pos (by omega)]
  have e : ((a.length : Int)).toNat = a.length := by omega
  rw [e, List.take_append_of_le_length (Nat.le_refl _), List.take_length]
  congr 2
  rw [List.drop_append, List.drop_eq_nil_of_le (by simp)]
  simp
theorem first_of {c : UInt8} {l : List UInt8} (h : c ∈ l) : ∃ a b, l = a ++ c :: b ∧ c ∉ a := by
  induction l with
  | nil => cases h
  | cons x r ih =>
    by_cases hx : x = c
    · subst hx; exact ⟨[], r, rfl, List.not_mem_nil⟩
    · have hr : c ∈ r := by
        rcases List.mem_cons.1 h with e | e
        · exact absurd e.symm hx
        · exact e
      obtain ⟨a, b, rfl, ha⟩ := ih hr
      exact ⟨x :: a, b, rfl, fun hm => by
        rcases List.mem_cons.1 hm with e | e
        · exact hx e.symm
        · exact ha e⟩
end Go.Proofs.YtimgebbbonfopaaDoor.Plain
