/- What the functions on lists of numbers and on names come to. -/
import Derived.Test.YtfhonidhhipllaaDoorBaseFnExactReadPattern
import Derived.Test.YtfhonidhhipllaaDoorQFnExactReadPattern1
import Derived.Test.YtfhonidhhipllaaDoorQFnExactReadPattern2
import Derived.Test.YtfhonidhhipllaaDoorQFnExactReadPattern3
namespace Go.Proofs.YtfhonidhhipllaaDoor.QFnExactReadPattern
open Go.RowKit Go.Proofs.YtfhonidhhipllaaDoorW.PrintWords Go.Proofs.YtfhonidhhipllaaDoorW.PrintLast Go.Proofs.YtfhonidhhipllaaDoorW.PrintMore Go.Proofs.YtfhonidhhipllaaDoor.Plain
set_option linter.unusedVariables false
set_option linter.unusedSimpArgs false

theorem get_at {α : Type} (d : α) {xs : List α} {i : Nat} {x : α} {r : List α} (h : xs.drop i = x :: r) : rdOf d xs (i : Int) = x ∧ i < xs.length ∧ xs.drop (i + 1) = r := by
  have hi : i < xs.length := by
    rcases Nat.lt_or_ge i xs.length with h' | h'
    · exact h'
    · rw [List.drop_eq_nil_of_le h'] at h; cases h
  have hg : xs[i]? = some x := by rw [← List.head?_drop, h]; rfl
  refine ⟨?_, hi, by rw [← List.drop_drop, h]; rfl⟩
  unfold rdOf
  rw [Int.toNat_natCast, List.getD_eq_getElem?_getD, hg]
  rfl
theorem rd_at {xs : List Int} {i : Nat} {x : Int} {r : List Int} (h : xs.drop i = x :: r) : rd xs (i : Int) = x := (get_at 0 h).1
theorem in_dec (n a b : Int) : (if n ≥ a then some (decide (n ≤ b)) else some false : Option Bool) = some (decide (a ≤ n) && decide (n ≤ b)) := by
  by_cases h : n ≥ a
  · rw [if_pos h, show decide (a ≤ n) = true from decide_eq_true h, Bool.true_and]
  · rw [if_neg h, show decide (a ≤ n) = false from decide_eq_false h, Bool.false_and]
theorem spec_in (n a b : Int) : spec_l00In.f n a b = some (decide (a ≤ n) && decide (n ≤ b)) := in_dec n a b
theorem impl_in (n a b : Int) : impl_within.f n a b = some (decide (a ≤ n) && decide (n ≤ b)) := in_dec n a b
def listR (l : List UInt8) : List Int × Bool := match listOf l with | some xs => (xs, true) | none => ([], false)
theorem sizes_map {ps : List (List UInt8)} {M : Nat} (h : ∀ p ∈ ps, p.length ≤ M) : ∀ z ∈ ps.map ofL, z.size ≤ M := by
  intro z hz
  obtain ⟨p, hp, rfl⟩ := List.mem_map.1 hz
  rw [ofL_size]
  exact h p hp
theorem splitFrom_len (c : UInt8) (l : List UInt8) : ∀ acc, ∀ p ∈ splitFrom c acc l, p.length ≤ acc.length + l.length := by
  induction l with
  | nil => intro acc p hp; simp [splitFrom] at hp; subst hp; simp
  | cons x r ih =>
    intro acc p hp
    by_cases hx : x = c
    · subst hx
      rw [splitFrom_eq] at hp
      rcases List.mem_cons.1 hp with rfl | hp
      · simp
      · have := ih [] p hp
        simp at this ⊢
        omega
    · rw [splitFrom_ne hx] at hp
      have := ih _ p hp
      simp at this ⊢
      omega
theorem split_len (c : UInt8) (l : List UInt8) : ∀ p ∈ split c l, p.length ≤ l.length := fun p hp => by
  have := splitFrom_len c l [] p hp
  simpa using this
theorem list_l0 (ps : List ByteArray) (hp : ∀ z ∈ ps, z.size ≤ 1048576) (hl : ps.length ≤ 64) : ∀ (qs : List ByteArray) (k i : Nat) (out : List Int), ps.drop i = qs → qs.length + 1048590 < k → out.length + qs.length ≤ 64 →
    spec_ReadList.l0 k ps out (i : Int) = some (match ((qs.map L).mapM num).bind fun xs => if xs.all inB then some xs else none with | some xs => (out ++ xs, true) | none => ([], false)) := by
  intro qs
  induction qs with
  | nil =>
    intro k i out hd hk ho
    obtain ⟨k, rfl⟩ := succ_of hk
    have := List.drop_eq_nil_iff.1 hd
    simp only [spec_ReadList.l0]
    rw [if_neg (by omega)]
    simp
  | cons q r ih =>
    intro k i out hd hk ho
    obtain ⟨k, rfl⟩ := succ_of hk
    obtain ⟨hg, hi, hn⟩ := get_at ByteArray.empty hd
    rw [List.length_cons] at hk ho
    have hq : q ∈ ps := List.mem_of_mem_drop (i := i) (by rw [hd]; exact List.mem_cons_self)
    simp only [spec_ReadList.l0]
    rw [if_pos (by omega), if_pos (by omega), hg, spec_num q (hp q hq) k (by have := hp q hq; omega)]
    simp only [Option.bind_some, List.map_cons, List.mapM_cons, Option.bind_eq_bind, Option.pure_def]
    unfold numR
    cases hnum : num (L q) with
    | none => simp
    | some n =>
      simp only [if_true, Option.bind_some]
      rw [spec_in]
      simp only [Option.bind_some]
      by_cases hb : inB n = true
      · have hb' : (decide (-1000000000000 ≤ n) && decide (n ≤ 1000000000000)) = true := hb
        rw [hb', if_pos rfl, if_pos (by omega), w1 (by omega), ih k (i + 1) (out ++ [n]) hn (by omega) (by rw [List.length_append, List.length_singleton]; omega)]
        cases hm : (r.map L).mapM num with
        | none => simp
        | some xs =>
          simp only [Option.bind_some, List.all_cons, hb, Bool.true_and]
          cases ha : xs.all inB <;> simp
      · have hb' : (decide (-1000000000000 ≤ n) && decide (n ≤ 1000000000000)) = false := Bool.eq_false_iff.2 hb
        rw [hb']
        have hb2 : inB n = false := hb'
        cases hm : (r.map L).mapM num with
        | none => simp
        | some xs => simp [hb2]
theorem map_L_ofL (ps : List (List UInt8)) : (ps.map ofL).map L = ps := by
  rw [List.map_map]
  exact List.map_id _
theorem spec_list (s : ByteArray) (hs : s.size ≤ 1048576) (k : Nat) (hk : 1048700 < k) : spec_ReadList.f k s = some (listR (L s)) := by
  unfold spec_ReadList.f listR listOf
  rw [tl]
  by_cases h45 : L s = [45]
  · rw [if_pos h45, if_pos h45]
  · rw [if_neg h45, if_neg h45, show (44 : Int) = ((44 : UInt8).toNat : Int) from rfl, spec_split s 44 hs k (by omega)]
    simp only [Option.bind_some, List.length_map]
    by_cases h64 : 64 < (split 44 (L s)).length
    · rw [if_pos (by omega), if_pos h64]
    · rw [if_neg (by omega), if_neg h64]
      have := list_l0 ((split 44 (L s)).map ofL) (sizes_map fun p hp => by have := split_len 44 (L s) p hp; rw [L_size] at this; omega) (by simp; omega) _ k 0 [] rfl (by simp; omega) (by simp; omega)
      rw [show ((0 : Nat) : Int) = 0 from rfl, List.drop_zero, map_L_ofL] at this
      rw [this]
      simp
theorem impl_dec (n : Int) (h0 : -9223372036854775808 ≤ n) (h1 : n ≤ 9223372036854775807) : impl_Decimal.f n = some (ofL (Lib.itoa n)) := by
  unfold impl_Decimal.f
  rw [if_pos ⟨h0, h1⟩]
  rfl
theorem itoa_len {n : Int} (h : inB n = true) : (Lib.itoa n).length ≤ 19 := by
  have hb : n.natAbs < 1000000000000000000 := by
    simp only [inB, Bool.and_eq_true, decide_eq_true_eq] at h
    omega
  have h1 := nDigits_le hb
  unfold Lib.itoa
  split
  · rw [List.length_cons, Lib.decDigits_length]; omega
  · rw [Lib.decDigits_length]
    have e : n.toNat = n.natAbs := by omega
    rw [e]; omega
theorem lens_le {ys : List (List UInt8)} {M : Nat} (h : ∀ y ∈ ys, y.length ≤ M) : Lib.lens ys ≤ M * ys.length := by
  induction ys with
  | nil => simp [Lib.lens]
  | cons y r ih =>
    have h1 := h y List.mem_cons_self
    have h2 := ih fun z hz => h z (List.mem_cons_of_mem _ hz)
    unfold Lib.lens at h2 ⊢
    simp only [List.map_cons, List.sum_cons, List.length_cons]
    rw [Nat.mul_add]
    omega
theorem join_bound {ys : List (List UInt8)} {M : Nat} (h : ∀ y ∈ ys, y.length ≤ M) : (Lib.join ys [44]).length ≤ (M + 1) * ys.length := by
  cases ys with
  | nil => simp [Lib.join_nil]
  | cons y r =>
    rw [Lib.join_length]
    have := lens_le h
    rw [List.length_singleton, Nat.one_mul, Nat.add_mul, Nat.one_mul]
    simp only [List.length_cons] at this ⊢
    omega
theorem text_l0 (xs : List Int) (hl : xs.length ≤ 64) : ∀ (qs : List Int) (k i : Nat) (out : List ByteArray), xs.drop i = qs → qs.length < k → out.length = i → i ≤ xs.length → (∀ z ∈ out, z.size ≤ 19) →
    impl_ListText.l0 k out xs (xs.length : Int) (i : Int) = some (if qs.all inB then ofL (Lib.join (out.map L ++ qs.map Lib.itoa) [44]) else ofL []) := by
  intro qs
  induction qs with
  | nil =>
    intro k i out hd hk ho hix hz
    obtain ⟨k, rfl⟩ := succ_of hk
    have := List.drop_eq_nil_iff.1 hd
    simp only [impl_ListText.l0]
    rw [if_neg (by omega)]
    unfold strings_Join.f
    have hj : (Lib.join (out.map (·.data.toList)) [44]).length ≤ 20 * out.length := by
      have := join_bound (ys := out.map (·.data.toList)) (M := 19) (by
        intro y hy
        obtain ⟨z, hz', rfl⟩ := List.mem_map.1 hy
        have := hz z hz'
        rw [← L_size] at this
        exact this)
      rwa [List.length_map] at this
    rw [if_pos ⟨by omega, by show (Lib.join (out.map (·.data.toList)) [44]).length ≤ _; omega⟩]
    simp only [Option.bind_some, List.all_nil, if_true, List.map_nil, List.append_nil]
    rfl
  | cons q r ih =>
    intro k i out hd hk ho hix hz
    obtain ⟨k, rfl⟩ := succ_of hk
    have hg := rd_at hd
    obtain ⟨_, hi, hn⟩ := get_at 0 hd
    rw [List.length_cons] at hk
    simp only [impl_ListText.l0]
    rw [if_pos (by omega), if_pos (by omega), if_pos (by omega), hg, impl_in]
    simp only [Option.bind_some]
    by_cases hb : inB q = true
    · have hb' : (decide (-1000000000000 ≤ q) && decide (q ≤ 1000000000000)) = true := hb
      have hb2 := hb
      simp only [inB, Bool.and_eq_true, decide_eq_true_eq] at hb2
      rw [hb', if_pos rfl, impl_dec q (by omega) (by omega)]
      simp only [Option.bind_some]
      rw [if_pos (by omega), w1 (by omega), ih k (i + 1) _ hn (by omega) (by rw [List.length_append, List.length_singleton, ho]) (by omega) (by
        intro z hz'
        rcases List.mem_append.1 hz' with h | h
        · exact hz z h
        · rw [List.mem_singleton.1 h, ofL_size]; exact itoa_len hb)]
      simp [hb, L_ofL]
    · have hb' : (decide (-1000000000000 ≤ q) && decide (q ≤ 1000000000000)) = false := Bool.eq_false_iff.2 hb
      have hb2 : inB q = false := hb'
      rw [hb']
      simp [hb2]
      rfl
theorem impl_text (xs : List Int) (hx : xs.length ≤ 1048576) (k : Nat) (hk : 70 < k) : impl_ListText.f k xs = some (ofL (listText xs)) := by
  unfold impl_ListText.f listText
  by_cases h64 : 64 < xs.length
  · rw [if_pos (by omega), if_pos h64]; rfl
  · rw [if_neg (by omega), if_neg h64]
    by_cases h0 : xs = []
    · subst h0; rfl
    · have : 0 < xs.length := List.length_pos_iff.2 h0
      rw [if_neg (by omega), if_neg h0, if_pos (by omega), if_pos (by simp; omega)]
      have := text_l0 xs (by omega) xs k 0 [] rfl (by omega) rfl (Nat.zero_le _) (by simp)
      rw [show ((0 : Nat) : Int) = 0 from rfl] at this
      rw [this]
      simp only [List.map_nil, List.nil_append]
      split <;> rfl
theorem rl_l0 (s : ByteArray) (hs : s.size ≤ 1048576) (ps : List ByteArray) (hp : ∀ z ∈ ps, z.size ≤ 1048576) (hl : ps.length ≤ 65) : ∀ (qs : List ByteArray) (k i : Nat) (out : List Int), ps.drop i = qs → qs.length + 100 < k → out.length + qs.length ≤ 65 →
    impl_ReadList.l0 k s out ps (ps.length : Int) (i : Int) = some (match ((qs.map L).mapM num).bind fun xs => if listText (out ++ xs) = L s then some (out ++ xs) else none with | some xs => (xs, true) | none => ([], false)) := by
  intro qs
  induction qs with
  | nil =>
    intro k i out hd hk ho
    obtain ⟨k, rfl⟩ := succ_of hk
    have := List.drop_eq_nil_iff.1 hd
    simp only [impl_ReadList.l0]
    rw [if_neg (by omega), impl_text out (by simp at ho; omega) k (by omega)]
    simp only [Option.bind_some, List.map_nil, List.mapM_nil, Option.pure_def, List.append_nil]
    rw [tl, tl, L_ofL]
    split <;> rfl
  | cons q r ih =>
    intro k i out hd hk ho
    obtain ⟨k, rfl⟩ := succ_of hk
    obtain ⟨hg, hi, hn⟩ := get_at ByteArray.empty hd
    rw [List.length_cons] at hk ho
    have hq : q ∈ ps := List.mem_of_mem_drop (i := i) (by rw [hd]; exact List.mem_cons_self)
    simp only [impl_ReadList.l0]
    rw [if_pos (by omega), if_pos (by omega), if_pos (by omega), hg, impl_num q (hp q hq)]
    simp only [Option.bind_some, List.map_cons, List.mapM_cons, Option.bind_eq_bind, Option.pure_def]
    unfold numR
    cases hnum : num (L q) with
    | none => simp
    | some n =>
      simp only [if_true, Option.bind_some]
      rw [if_pos (by omega), w1 (by omega), ih k (i + 1) (out ++ [n]) hn (by omega) (by rw [List.length_append, List.length_singleton]; omega)]
      cases hm : (r.map L).mapM num with
      | none => simp
      | some xs => simp
theorem splitK_len (c : UInt8) : ∀ (k : Nat) (l : List UInt8), (Lib.splitK [c] 0 k l).length ≤ k + 1 ∧ ∀ p ∈ Lib.splitK [c] 0 k l, p.length ≤ l.length := by
  intro k
  induction k with
  | zero => intro l; simp [Lib.splitK]
  | succ k ih =>
    intro l
    by_cases hm : c ∈ l
    · obtain ⟨a, b, rfl, ha⟩ := List.eq_append_cons_of_mem hm
      rw [splitK_hit c k a b ha]
      obtain ⟨h1, h2⟩ := ih b
      refine ⟨by simp; omega, fun p hp => ?_⟩
      rcases List.mem_cons.1 hp with rfl | hp
      · simp
      · have := h2 p hp
        simp
        omega
    · rw [splitK_miss c _ l hm]
      simp
theorem impl_list (s : ByteArray) (hs : s.size ≤ 1048576) (k : Nat) (hk : 200 < k) : impl_ReadList.f k s = some (listR (L s)) := by
  unfold impl_ReadList.f listR
  rw [tl]
  by_cases h45 : L s = [45]
  · rw [if_pos h45]
    unfold listOf
    rw [if_pos h45]
  · rw [if_neg h45]
    unfold strings_SplitN.f
    rw [if_pos ⟨by omega, Nat.le_refl _, by omega, by omega⟩]
    simp only [Option.bind_some]
    have e44 : (⟨#[44]⟩ : ByteArray) = ⟨#[(44 : UInt8)]⟩ := rfl
    rw [e44, splitB_L]
    have e65 : (65 : Int).toNat = 65 := rfl
    rw [e65]
    obtain ⟨h1, h2⟩ := splitK_len 44 (min 65 (s.size + 1) - 1) (L s)
    have := rl_l0 s hs ((Lib.splitK [44] 0 (min 65 (s.size + 1) - 1) (L s)).map ofL) (by
      intro z hz
      obtain ⟨p, hp, rfl⟩ := List.mem_map.1 hz
      have := h2 p hp
      rw [L_size] at this
      rw [ofL_size]; omega) (by rw [List.length_map]; omega) _ k 0 [] rfl (by rw [List.drop_zero, List.length_map]; omega) (by rw [List.drop_zero, List.length_map]; simp; omega)
    rw [show ((0 : Nat) : Int) = 0 from rfl, List.drop_zero, List.map_map] at this
    rw [this]
    have e2 : (Lib.splitK [44] 0 (min 65 (s.size + 1) - 1) (L s)).map (L ∘ ofL) = Lib.splitK [44] 0 (min 65 (s.size + 1) - 1) (L s) := List.map_id _
    rw [e2]
    have hr := readList_eq (L s) (min 65 (s.size + 1) - 1) (by rw [L_size]) h45
    simp only [List.nil_append]
    rw [hr]
/-! ### names -/
end Go.Proofs.YtfhonidhhipllaaDoor.QFnExactReadPattern
