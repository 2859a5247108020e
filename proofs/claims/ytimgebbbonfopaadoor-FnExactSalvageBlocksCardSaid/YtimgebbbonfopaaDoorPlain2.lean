/- Plain facts on texts, continued: texts divided at a byte, lists of numbers as text, names. No program in sight. -/
import Derived.Test.YtimgebbbonfopaaDoorPlain
namespace Go.Proofs.YtimgebbbonfopaaDoor.Plain
open Go Go.Lib

/-! ### texts divided at a byte -/
def splitFrom (c : UInt8) : List UInt8 → List UInt8 → List (List UInt8)
  | acc, [] => [acc]
  | acc, x :: r => if x = c then acc :: splitFrom c [] r else splitFrom c (acc ++ [x]) r
def split (c : UInt8) (l : List UInt8) : List (List UInt8) := splitFrom c [] l
theorem splitFrom_pos (c : UInt8) (l : List UInt8) : ∀ acc, 0 < (splitFrom c acc l).length := by
  induction l with
  | nil => intro acc; exact Nat.zero_lt_one
  | cons x r ih =>
    intro acc
    unfold splitFrom
    split
    · simp
    · exact ih _
theorem splitFrom_length (c : UInt8) (l : List UInt8) : ∀ acc, (splitFrom c acc l).length = l.count c + 1 := by
  induction l with
  | nil => intro acc; rfl
  | cons x r ih =>
    intro acc
    unfold splitFrom
    split
    · rename_i h
      subst h
      rw [List.length_cons, ih, List.count_cons_self]
    · rename_i h
      rw [ih, List.count_cons_of_ne h]
theorem splitFrom_none (c : UInt8) (l : List UInt8) (h : c ∉ l) : ∀ acc, splitFrom c acc l = [acc ++ l] := by
  induction l with
  | nil => intro acc; simp [splitFrom]
  | cons x r ih =>
    intro acc
    unfold splitFrom
    rw [if_neg (by intro e; subst e; exact h List.mem_cons_self), ih (fun hm => h (List.mem_cons_of_mem _ hm))]
    simp
theorem splitFrom_ne {c x : UInt8} (h : x ≠ c) (acc r : List UInt8) : splitFrom c acc (x :: r) = splitFrom c (acc ++ [x]) r := by
  conv => lhs; unfold splitFrom
  exact if_neg h
theorem splitFrom_eq (c : UInt8) (acc r : List UInt8) : splitFrom c acc (c :: r) = acc :: splitFrom c [] r := by
  conv => lhs; unfold splitFrom
  exact if_pos rfl
theorem splitFrom_hit (c : UInt8) (a b : List UInt8) (h : c ∉ a) : ∀ acc, splitFrom c acc (a ++ c :: b) = (acc ++ a) :: splitFrom c [] b := by
  induction a with
  | nil => intro acc; rw [List.nil_append, splitFrom_eq, List.append_nil]
  | cons x r ih =>
    intro acc
    rw [List.cons_append, splitFrom_ne (by intro e; subst e; exact h List.mem_cons_self), ih (fun hm => h (List.mem_cons_of_mem _ hm))]
    simp
theorem index_none' (c : UInt8) (l : List UInt8) (h : c ∉ l) : index l [c] = -1 := by
  rw [index_one]
  induction l with
  | nil => rfl
  | cons x r ih =>
    unfold indexByte
    have h1 : (x == c) = false := by
      rw [beq_eq_false_iff_ne]
      intro e; subst e; exact h List.mem_cons_self
    rw [ih (fun hm => h (List.mem_cons_of_mem _ hm))]
    simp [h1]
theorem index_hit' (c : UInt8) (a b : List UInt8) (h : c ∉ a) : index (a ++ c :: b) [c] = (a.length : Int) := by
  rw [index_one]
  induction a with
  | nil => simp [indexByte]
  | cons x r ih =>
    rw [List.cons_append]
    unfold indexByte
    have h1 : (x == c) = false := by
      rw [beq_eq_false_iff_ne]
      intro e; subst e; exact h List.mem_cons_self
    rw [ih (fun hm => h (List.mem_cons_of_mem _ hm))]
    have h2 : ((r.length : Int) == -1) = false := by rw [beq_eq_false_iff_ne]; omega
    simp [h1, h2]
theorem splitK_miss (c : UInt8) (k : Nat) (l : List UInt8) (h : c ∉ l) : splitK [c] 0 k l = [l] := by
  cases k with
  | zero => rfl
  | succ k => unfold splitK; rw [index_none' c l h]; rfl
theorem splitK_hit (c : UInt8) (k : Nat) (a b : List UInt8) (h : c ∉ a) : splitK [c] 0 (k + 1) (a ++ c :: b) = a :: splitK [c] 0 k b := by
  conv => lhs; unfold splitK
  rw [index_hit' c a b h, if_neg (by simp)]
  have e1 : ((a.length : Int)).toNat = a.length := Int.toNat_natCast _
  rw [e1, Nat.add_zero, List.take_left', List.length_singleton, show a ++ c :: b = (a ++ [c]) ++ b by simp, List.drop_left' (by simp)]
  simp
theorem splitK_all (c : UInt8) : ∀ (n k : Nat) (l : List UInt8), l.length = n → l.count c ≤ k → splitK [c] 0 k l = split c l := by
  intro n
  induction n using Nat.strongRecOn with
  | _ n ih =>
    intro k l hl hk
    by_cases hm : c ∈ l
    · obtain ⟨a, b, rfl, ha⟩ := List.eq_append_cons_of_mem hm
      rw [List.count_append, List.count_cons_self] at hk
      cases k with
      | zero => omega
      | succ k =>
        rw [splitK_hit c k a b ha, ih b.length (by rw [← hl]; simp; omega) k b rfl (by omega)]
        unfold split
        rw [splitFrom_hit c a b ha]
        rfl
    · rw [splitK_miss c k l hm]
      unfold split
      rw [splitFrom_none c l hm]
      rfl
/-! ### lists of numbers -/
/-! ### names -/
def smallB (c : UInt8) : Bool := decide (97 ≤ c.toNat) && decide (c.toNat ≤ 122)
def nameB (l : List UInt8) : Bool := decide (1 ≤ l.length) && decide (l.length ≤ 10) && smallB (l.headD 0) && l.all fun c => smallB c || digB c
end Go.Proofs.YtimgebbbonfopaaDoor.Plain
