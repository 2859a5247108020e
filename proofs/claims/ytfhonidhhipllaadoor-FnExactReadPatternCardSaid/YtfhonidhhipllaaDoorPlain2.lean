/- Plain facts on texts, continued: texts divided at a byte, lists of numbers as text, names. No program in sight. -/
import Derived.Test.YtfhonidhhipllaaDoorPlain
namespace Go.Proofs.YtfhonidhhipllaaDoor.Plain
open Go Go.Lib

/-! ### texts divided at a byte -/
def splitFrom (c : UInt8) : List UInt8 → List UInt8 → List (List UInt8)
  | acc, [] => [acc]
  | acc, x :: r => if x = c then acc :: splitFrom c [] r else splitFrom c (acc ++ [x]) r
def split (c : UInt8) (l : List UInt8) : List (List UInt8) := splitFrom c [] l
theorem splitFrom_pos (c : UInt8) (l : List UInt8) : ∀ acc, 0 < (splitFrom c acc l).length := by
  induction l with
  | nil => intro acc; exact Nat.zero_lt_one
  | cons x r ih =>
    intro acc
    unfold splitFrom
    split
    · simp
    · exact ih _
theorem splitFrom_length (c : UInt8) (l : List UInt8) : ∀ acc, (splitFrom c acc l).length = l.count c + 1 := by
  induction l with
  | nil => intro acc; rfl
  | cons x r ih =>
    intro acc
    unfold splitFrom
    split
    · rename_i h
      subst h
      rw [List.length_cons, ih, List.count_cons_self]
    · rename_i h
      rw [ih, List.count_cons_of_ne h]
theorem splitFrom_join (c : UInt8) (l : List UInt8) : ∀ acc, join (splitFrom c acc l) [c] = acc ++ l := by
  induction l with
  | nil => intro acc; rw [List.append_nil]; exact join_one _ _
  | cons x r ih =>
    intro acc
    unfold splitFrom
    split
    · rename_i h
      subst h
      have hp := splitFrom_pos x r []
      have h1 := ih []
      cases hs : splitFrom x [] r with
      | nil => rw [hs] at hp; simp at hp
      | cons a b =>
        rw [hs] at h1
        rw [join_cons] at h1 ⊢
        unfold joinTail at h1 ⊢
        rw [List.map_cons, List.flatten_cons, List.append_assoc, h1]
        simp
    · rw [ih]
      simp
theorem split_join (c : UInt8) (l : List UInt8) : join (split c l) [c] = l := by
  have := splitFrom_join c l []
  simpa [split] using this
theorem splitFrom_none (c : UInt8) (l : List UInt8) (h : c ∉ l) : ∀ acc, splitFrom c acc l = [acc ++ l] := by
  induction l with
  | nil => intro acc; simp [splitFrom]
  | cons x r ih =>
    intro acc
    unfold splitFrom
    rw [if_neg (by intro e; subst e; exact h List.mem_cons_self), ih (fun hm => h (List.mem_cons_of_mem _ hm))]
    simp
theorem splitFrom_ne {c x : UInt8} (h : x ≠ c) (acc r : List UInt8) : splitFrom c acc (x :: r) = splitFrom c (acc ++ [x]) r := by
  conv => lhs; unfold splitFrom
  exact if_neg h
theorem splitFrom_eq (c : UInt8) (acc r : List UInt8) : splitFrom c acc (c :: r) = acc :: splitFrom c [] r := by
  conv => lhs; unfold splitFrom
  exact if_pos rfl
theorem splitFrom_hit (c : UInt8) (a b : List UInt8) (h : c ∉ a) : ∀ acc, splitFrom c acc (a ++ c :: b) = (acc ++ a) :: splitFrom c [] b := by
  induction a with
  | nil => intro acc; rw [List.nil_append, splitFrom_eq, List.append_nil]
  | cons x r ih =>
    intro acc
    rw [List.cons_append, splitFrom_ne (by intro e; subst e; exact h List.mem_cons_self), ih (fun hm => h (List.mem_cons_of_mem _ hm))]
    simp
theorem index_none' (c : UInt8) (l : List UInt8) (h : c ∉ l) : index l [c] = -1 := by
  rw [index_one]
  induction l with
  | nil => rfl
  | cons x r ih =>
    unfold indexByte
    have h1 : (x == c) = false := by
      rw [beq_eq_false_iff_ne]
      intro e; subst e; exact h List.mem_cons_self
    rw [ih (fun hm => h (List.mem_cons_of_mem _ hm))]
    simp [h1]
theorem index_hit' (c : UInt8) (a b : List UInt8) (h : c ∉ a) : index (a ++ c :: b) [c] = (a.length : Int) := by
  rw [index_one]
  induction a with
  | nil => simp [indexByte]
  | cons x r ih =>
    rw [List.cons_append]
    unfold indexByte
    have h1 : (x == c) = false := by
      rw [beq_eq_false_iff_ne]
      intro e; subst e; exact h List.mem_cons_self
    rw [ih (fun hm => h (List.mem_cons_of_mem _ hm))]
    have h2 : ((r.length : Int) == -1) = false := by rw [beq_eq_false_iff_ne]; omega
    simp [h1, h2]
theorem splitK_miss (c : UInt8) (k : Nat) (l : List UInt8) (h : c ∉ l) : splitK [c] 0 k l = [l] := by
  cases k with
  | zero => rfl
  | succ k => unfold splitK; rw [index_none' c l h]; rfl
theorem splitK_hit (c : UInt8) (k : Nat) (a b : List UInt8) (h : c ∉ a) : splitK [c] 0 (k + 1) (a ++ c :: b) = a :: splitK [c] 0 k b := by
  conv => lhs; unfold splitK
  rw [index_hit' c a b h, if_neg (by simp)]
  have e1 : ((a.length : Int)).toNat = a.length := Int.toNat_natCast _
  rw [e1, Nat.add_zero, List.take_left', List.length_singleton, show a ++ c :: b = (a ++ [c]) ++ b by simp, List.drop_left' (by simp)]
  simp
theorem splitK_all (c : UInt8) : ∀ (n k : Nat) (l : List UInt8), l.length = n → l.count c ≤ k → splitK [c] 0 k l = split c l := by
  intro n
  induction n using Nat.strongRecOn with
  | _ n ih =>
    intro k l hl hk
    by_cases hm : c ∈ l
    · obtain ⟨a, b, rfl, ha⟩ := List.eq_append_cons_of_mem hm
      rw [List.count_append, List.count_cons_self] at hk
      cases k with
      | zero => omega
      | succ k =>
        rw [splitK_hit c k a b ha, ih b.length (by rw [← hl]; simp; omega) k b rfl (by omega)]
        unfold split
        rw [splitFrom_hit c a b ha]
        rfl
    · rw [splitK_miss c k l hm]
      unfold split
      rw [splitFrom_none c l hm]
      rfl
theorem splitK_some (c : UInt8) : ∀ (n k : Nat) (l : List UInt8), l.length = n → k < l.count c → ∃ p ∈ splitK [c] 0 k l, c ∈ p := by
  intro n
  induction n using Nat.strongRecOn with
  | _ n ih =>
    intro k l hl hk
    have hm : c ∈ l := List.count_pos_iff.1 (by omega)
    cases k with
    | zero => exact ⟨l, by simp [splitK], hm⟩
    | succ k =>
      obtain ⟨a, b, rfl, ha⟩ := List.eq_append_cons_of_mem hm
      rw [List.count_append, List.count_cons_self, List.count_eq_zero.2 ha] at hk
      obtain ⟨p, hp, hc⟩ := ih b.length (by rw [← hl]; simp; omega) k b rfl (by omega)
      exact ⟨p, by rw [splitK_hit c k a b ha]; exact List.mem_cons_of_mem _ hp, hc⟩

/-! ### lists of numbers -/
def inB (n : Int) : Bool := decide (-1000000000000 ≤ n) && decide (n ≤ 1000000000000)
def listOf (l : List UInt8) : Option (List Int) :=
  if l = [45] then some [] else if 64 < (split 44 l).length then none else ((split 44 l).mapM num).bind fun xs => if xs.all inB then some xs else none
def listText (xs : List Int) : List UInt8 :=
  if 64 < xs.length then [] else if xs = [] then [45] else if xs.all inB then join (xs.map itoa) [44] else []
theorem mapM_itoa : ∀ {ps : List (List UInt8)} {xs : List Int}, ps.mapM num = some xs → xs.map itoa = ps ∧ xs.length = ps.length := by
  intro ps
  induction ps with
  | nil => intro xs h; simp at h; subst h; exact ⟨rfl, rfl⟩
  | cons p r ih =>
    intro xs h
    simp only [List.mapM_cons, Option.bind_eq_bind, Option.bind_eq_some_iff, Option.pure_def, Option.some.injEq] at h
    obtain ⟨n, hn, ys, hy, rfl⟩ := h
    obtain ⟨h1, h2⟩ := ih hy
    exact ⟨by rw [List.map_cons, h1, (num_itoa hn).1], by simp [h2]⟩
theorem mapM_none {ps : List (List UInt8)} {p : List UInt8} (hp : p ∈ ps) (h : num p = none) : ps.mapM num = none := by
  induction ps with
  | nil => simp at hp
  | cons q r ih =>
    simp only [List.mapM_cons, Option.bind_eq_bind]
    rcases List.mem_cons.1 hp with rfl | hr
    · rw [h]; rfl
    · rw [ih hr]
      cases num q <;> rfl
theorem num_nil : num [] = none := rfl
theorem okD_comma {l : List UInt8} (h : (44 : UInt8) ∈ l) : okD l = false := by
  have : l.all digB = false := by
    rw [Bool.eq_false_iff]
    intro ha
    have := List.all_eq_true.1 ha _ h
    simp [digB] at this
  simp [okD, this]
theorem num_comma {l : List UInt8} (h : (44 : UInt8) ∈ l) : num l = none := by
  unfold num
  split
  · rfl
  · rename_i c r
    split
    · rename_i hc
      subst hc
      have hr : (44 : UInt8) ∈ r := by
        rcases List.mem_cons.1 h with e | e
        · exact absurd e (by decide)
        · exact e
      rw [okD_comma hr]
      rfl
    · rw [okD_comma h]
      rfl
/-- What the program's reading of a list comes to. -/
theorem readList_eq (l : List UInt8) (K : Nat) (hK : K = min 65 (l.length + 1) - 1) (h45 : l ≠ [45]) :
    (((splitK [44] 0 K l).mapM num).bind fun xs => if listText xs = l then some xs else none) = listOf l := by
  unfold listOf
  rw [if_neg h45]
  have hc := List.count_le_length (l := l) (a := (44 : UInt8))
  have hlen : (split 44 l).length = l.count 44 + 1 := splitFrom_length 44 l []
  by_cases h64 : 64 < (split 44 l).length
  · rw [if_pos h64]
    by_cases h65 : l.count 44 ≤ K
    · rw [splitK_all 44 _ K l rfl h65]
      cases hm : (split 44 l).mapM num with
      | none => rfl
      | some xs =>
        obtain ⟨h1, h2⟩ := mapM_itoa hm
        simp only [Option.bind_some]
        rw [if_neg]
        unfold listText
        rw [if_pos (by omega)]
        rintro rfl
        simp [split, splitFrom] at h64
    · obtain ⟨p, hp, hcp⟩ := splitK_some 44 _ K l rfl (by omega)
      rw [mapM_none hp (num_comma hcp)]
      rfl
  · rw [if_neg h64, splitK_all 44 _ K l rfl (by omega)]
    cases hm : (split 44 l).mapM num with
    | none => rfl
    | some xs =>
      obtain ⟨h1, h2⟩ := mapM_itoa hm
      simp only [Option.bind_some]
      have hne : xs ≠ [] := by rintro rfl; simp at h2; omega
      have hl : l ≠ [] := by
        rintro rfl
        simp [split, splitFrom, num_nil] at hm
      have e : listText xs = if xs.all inB then l else [] := by
        unfold listText
        rw [if_neg (by omega), if_neg hne, h1, split_join]
      rw [e]
      cases hb : xs.all inB with
      | true => simp
      | false => simp [hl.symm]
theorem listText_listOf {l : List UInt8} {xs : List Int} (h : listOf l = some xs) : listText xs = l := by
  unfold listOf at h
  split at h
  · rename_i e
    obtain rfl := Option.some.inj h
    rw [e]; rfl
  · split at h
    · cases h
    · rename_i h64
      obtain ⟨ys, hy, h⟩ := Option.bind_eq_some_iff.1 h
      obtain ⟨h1, h2⟩ := mapM_itoa hy
      split at h
      · rename_i hb
        obtain rfl := Option.some.inj h
        have hlen : (split 44 l).length = l.count 44 + 1 := splitFrom_length 44 l []
        have hne : ys ≠ [] := by rintro rfl; simp at h2; omega
        unfold listText
        rw [if_neg (by omega), if_neg hne, if_pos hb, h1, split_join]
      · cases h

/-! ### names -/
def smallB (c : UInt8) : Bool := decide (97 ≤ c.toNat) && decide (c.toNat ≤ 122)
def nameB (l : List UInt8) : Bool := decide (1 ≤ l.length) && decide (l.length ≤ 10) && smallB (l.headD 0) && l.all fun c => smallB c || digB c
end Go.Proofs.YtfhonidhhipllaaDoor.Plain
