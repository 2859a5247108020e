/- Blocks of an archive: the block of a line, the order of blocks; and comparing, marking and counting a row of blocks. -/
import Derived.Test.YtimgebbbonfopaaDoorCrcFnExactSalvageBlocks
import Derived.Test.YtimgebbbonfopaaDoorQFnExactSalvageBlocks10
import Derived.Test.YtimgebbbonfopaaDoorQFnExactSalvageBlocks11
import Derived.Test.YtimgebbbonfopaaDoorQFnExactSalvageBlocks12
import Derived.Test.YtimgebbbonfopaaDoorQFnExactSalvageBlocks2
import Derived.Test.YtimgebbbonfopaaDoorQFnExactSalvageBlocks3
import Derived.Test.YtimgebbbonfopaaDoorQFnExactSalvageBlocks4
import Derived.Test.YtimgebbbonfopaaDoorQFnExactSalvageBlocks5
import Derived.Test.YtimgebbbonfopaaDoorQFnExactSalvageBlocks6
import Derived.Test.YtimgebbbonfopaaDoorQFnExactSalvageBlocks7
namespace Go.Proofs.YtimgebbbonfopaaDoor.QFnExactSalvageBlocks
open Go.RowKit Go.Proofs.YtimgebbbonfopaaDoorW.PrintWords Go.Proofs.YtimgebbbonfopaaDoorW.PrintLast Go.Proofs.YtimgebbbonfopaaDoorW.PrintMore Go.Proofs.YtimgebbbonfopaaDoor.Plain
set_option linter.unusedVariables false
set_option linter.unusedSimpArgs false

/-! ### lines -/
def validB (a b t : List UInt8) : Bool := nameB a && (nameB b && (decide (t.length ≤ 400) && !decide ((10 : UInt8) ∈ t)))
abbrev Bl := List UInt8 × List UInt8 × List UInt8 × Int
def badB (c : Int) : Bl := ([], [], [], c)
def twoOf (a : List UInt8) (q : List UInt8 × List UInt8 × Bool) : Bl := if q.2.2 && validB a q.1 q.2.1 then (a, q.1, q.2.1, 0) else badB 9
def blkRest (r : List UInt8) : Bl := twoOf (Lib.cut r [32]).1 (Lib.cut (Lib.cut r [32]).2.1 [32])
def blkOf (l : List UInt8) : Bl :=
  match l.drop 5 with
  | [] => badB 9
  | c :: r => if c = 32 then (if l.take 5 = check r then blkRest r else badB 10) else badB 9
def toB (b : Bl) : ByteArray × ByteArray × ByteArray × Int := (ofL b.1, ofL b.2.1, ofL b.2.2.1, b.2.2.2)
theorem contains_dec (c : UInt8) (l : List UInt8) : Lib.contains l [c] = decide (c ∈ l) := by
  unfold Lib.contains
  by_cases h : c ∈ l
  · obtain ⟨a, b, rfl, ha⟩ := first_of h
    rw [index_hit' c a b ha, decide_eq_true h]
    exact decide_eq_true (by omega)
  · rw [index_none' c l h, decide_eq_false h]
    rfl
theorem impl_contains (s : ByteArray) (hs : s.size ≤ 1048576) (c : UInt8) : strings_Contains.f s ⟨#[c]⟩ = some (decide (c ∈ L s)) := by
  unfold strings_Contains.f
  rw [if_pos (by omega)]
  exact congrArg some (contains_dec c (L s))
theorem impl_cut' (s : ByteArray) (hs : s.size ≤ 1048576) (c : UInt8) : strings_Cut.f s ⟨#[c]⟩ = some (ofL (Lib.cut (L s) [c]).1, ofL (Lib.cut (L s) [c]).2.1, (Lib.cut (L s) [c]).2.2) := by
  unfold strings_Cut.f
  rw [if_pos (by omega)]
  rfl
theorem cut_len (c : UInt8) (l : List UInt8) : (Lib.cut l [c]).1.length ≤ l.length ∧ (Lib.cut l [c]).2.1.length ≤ l.length := by
  by_cases h : c ∈ l
  · obtain ⟨a, b, rfl, ha⟩ := first_of h
    rw [cut_hit c a b ha]
    simp
    omega
  · rw [cut_none c l h]
    simp
theorem impl_validB (a b t : ByteArray) (ha : a.size ≤ 1048576) (hb : b.size ≤ 1048576) (ht : t.size ≤ 1048576) (k : Nat) (hk : 1048600 < k) : impl_ValidBlock.f k a b t = some (validB (L a) (L b) (L t)) := by
  unfold impl_ValidBlock.f validB
  rw [impl_name a ha k (by omega)]
  simp only [Option.bind_some]
  cases nameB (L a) with
  | false => simp
  | true =>
    rw [if_pos rfl, impl_name b hb k (by omega)]
    simp only [Option.bind_some]
    cases nameB (L b) with
    | false => simp
    | true =>
      rw [if_pos rfl, L_size]
      by_cases h : (t.size : Int) ≤ 400
      · rw [if_pos h, impl_contains t ht 10, decide_eq_true (show t.size ≤ 400 by omega)]
        simp
      · rw [if_neg h, decide_eq_false (show ¬ t.size ≤ 400 by omega)]
        simp
theorem rest_ext {s : ByteArray} {i : Nat} : L (s.extract i s.size) = (L s).drop i := by
  rw [L_extract, List.take_of_length_le (by rw [L_size]; exact Nat.le_refl _)]
theorem rest_size {s : ByteArray} {i : Nat} : (s.extract i s.size).size = s.size - i := by
  rw [← L_size, rest_ext, List.length_drop, L_size]
theorem five_ext {s : ByteArray} : (s.extract 0 5).toList = (L s).take 5 := by rw [tl, L_extract, List.drop_zero]
theorem at5 {s : ByteArray} (h : 5 < s.size) : ∃ c r, (L s).drop 5 = c :: r := by
  refine ⟨(L s)[5]'(by rw [L_size]; exact h), (L s).drop 6, List.drop_eq_getElem_cons _⟩
theorem impl_block (s : ByteArray) (hs : s.size ≤ 1048576) (k : Nat) (hk : 10500000 < k) : impl_blockOf.f k s = some (toB (blkOf (L s))) := by
  unfold impl_blockOf.f blkOf
  by_cases h6 : (s.size : Int) < 6
  · obtain ⟨k, rfl⟩ := succ_of (show 0 < k by omega)
    rw [if_pos h6, List.drop_eq_nil_of_le (by rw [L_size]; omega)]
    simp only [impl_blockOf.j0]
    rfl
  · obtain ⟨k, rfl⟩ := succ_of (show 0 < k by omega)
    obtain ⟨c, r, hd⟩ := at5 (s := s) (by omega)
    have hb : bt s 5 = (c.toNat : Int) := bt_drop (i := 5) hd
    have hr : (L s).drop 6 = r := (drop_next (i := 5) hd).1
    rw [if_neg h6, if_pos (by omega), hb, hd]
    simp only [impl_blockOf.j0]
    by_cases hc : c = 32
    · subst hc
      rw [if_neg (by decide), if_pos (by omega), if_pos (by omega), if_pos (by omega), if_pos rfl]
      rw [impl_check _ (by rw [rest_size]; omega) k (by rw [rest_size]; omega), rest_ext, hr]
      simp only [Option.bind_some]
      rw [five_ext, tl, L_ofL]
      by_cases hq : (L s).take 5 = check r
      · rw [if_pos hq, if_pos hq, impl_cut' _ (by rw [rest_size]; omega), rest_ext, hr]
        simp only [Option.bind_some]
        have hl : r.length ≤ 1048576 := by rw [← hr, List.length_drop, L_size]; omega
        have l1 := cut_len 32 r
        have l2 := cut_len 32 (Lib.cut r [32]).2.1
        rw [impl_cut' _ (by rw [ofL_size]; omega), L_ofL]
        simp only [Option.bind_some]
        unfold blkRest twoOf
        cases (Lib.cut (Lib.cut r [32]).2.1 [32]).2.2 with
        | false => rfl
        | true =>
          rw [if_pos rfl, impl_validB _ _ _ (by rw [ofL_size]; omega) (by rw [ofL_size]; omega) (by rw [ofL_size]; omega) k (by omega)]
          simp only [Option.bind_some, L_ofL, Bool.true_and]
          cases validB (Lib.cut r [32]).1 (Lib.cut (Lib.cut r [32]).2.1 [32]).1 (Lib.cut (Lib.cut r [32]).2.1 [32]).2.1 <;> rfl
      · rw [if_neg hq, if_neg hq]
        rfl
    · have hne : ((c.toNat : Int) != 32) = true := by
        rw [bne_iff_ne]
        exact fun h => hc ((c_eq c 32).1 h)
      rw [if_pos hne, if_neg hc]
      rfl
theorem c32 (c : UInt8) (h : c = 32 := by rfl) : ((c.toNat : Int) = 32) := (c_eq c 32).2 h
theorem n32 {c : UInt8} (h : c ≠ 32) : ¬ ((c.toNat : Int) = 32) := fun e => h ((c_eq c 32).1 e)
theorem c10 (c : UInt8) (h : c = 10 := by rfl) : ((c.toNat : Int) = 10) := (c_eq c 10).2 h
theorem n10 {c : UInt8} (h : c ≠ 10) : ¬ ((c.toNat : Int) = 10) := fun e => h ((c_eq c 10).1 e)
/-- How far a text goes without a blank. -/
def upTo (l : List UInt8) : Nat := (l.takeWhile fun c => c != 32).length
theorem upTo_hit (a b : List UInt8) (h : (32 : UInt8) ∉ a) : upTo (a ++ 32 :: b) = a.length := by
  unfold upTo
  induction a with
  | nil => rfl
  | cons c r ih =>
    have hc : c ≠ 32 := fun e => h (by rw [e]; exact List.mem_cons_self)
    rw [List.cons_append, List.takeWhile_cons, if_pos (by simpa using hc), List.length_cons, ih (fun e => h (List.mem_cons_of_mem _ e)), List.length_cons]
theorem upTo_none (l : List UInt8) (h : (32 : UInt8) ∉ l) : upTo l = l.length := by
  unfold upTo
  induction l with
  | nil => rfl
  | cons c r ih =>
    have hc : c ≠ 32 := fun e => h (by rw [e]; exact List.mem_cons_self)
    rw [List.takeWhile_cons, if_pos (by simpa using hc), List.length_cons, ih (fun e => h (List.mem_cons_of_mem _ e)), List.length_cons]
theorem upTo_cons (c : UInt8) (r : List UInt8) : upTo (c :: r) = if c = 32 then 0 else upTo r + 1 := by
  unfold upTo
  rw [List.takeWhile_cons]
  by_cases h : c = 32
  · subst h
    rfl
  · rw [if_pos (by simpa using h), if_neg h]
    rfl
theorem parse_l0 (s : ByteArray) (hs : s.size ≤ 1048576) : ∀ (l : List UInt8) (K i : Nat), (L s).drop i = l → i ≤ s.size → l.length < K → ∃ K', K ≤ K' + l.length + 1 ∧ spec_l29Parse.l0 K s (i : Int) = spec_l29Parse.j2 K' s ((i + upTo l : Nat) : Int) := by
  intro l
  induction l with
  | nil =>
    intro K i hd hi hk
    obtain ⟨K, rfl⟩ := succ_of hk
    have := drop_end hd
    refine ⟨K, by omega, ?_⟩
    simp only [spec_l29Parse.l0]
    rw [if_neg (by omega)]
    rfl
  | cons c r ih =>
    intro K i hd hi hk
    obtain ⟨K, rfl⟩ := succ_of hk
    have hlt := drop_lt hd
    obtain ⟨hn, _⟩ := drop_next hd
    rw [List.length_cons] at hk ⊢
    rw [upTo_cons]
    simp only [spec_l29Parse.l0]
    rw [if_pos (by omega), if_pos (by omega), bt_drop hd]
    by_cases hc : c = 32
    · subst hc
      refine ⟨K, by omega, ?_⟩
      rw [if_pos (c32 32), if_pos rfl]
      rfl
    · obtain ⟨K', hK, he⟩ := ih K (i + 1) hn (by omega) (by omega)
      refine ⟨K', by omega, ?_⟩
      rw [if_neg (n32 hc), if_neg hc, w1 (by omega), he, show i + 1 + upTo r = i + (upTo r + 1) by omega]
theorem parse_l1 (s : ByteArray) (hs : s.size ≤ 1048576) (x5 : Int) : ∀ (l : List UInt8) (K i : Nat), (L s).drop i = l → i ≤ s.size → l.length < K → ∃ K', K ≤ K' + l.length + 1 ∧ spec_l29Parse.l1 K s x5 (i : Int) = spec_l29Parse.j4 K' s x5 ((i + upTo l : Nat) : Int) := by
  intro l
  induction l with
  | nil =>
    intro K i hd hi hk
    obtain ⟨K, rfl⟩ := succ_of hk
    have := drop_end hd
    refine ⟨K, by omega, ?_⟩
    simp only [spec_l29Parse.l1]
    rw [if_neg (by omega)]
    rfl
  | cons c r ih =>
    intro K i hd hi hk
    obtain ⟨K, rfl⟩ := succ_of hk
    have hlt := drop_lt hd
    obtain ⟨hn, _⟩ := drop_next hd
    rw [List.length_cons] at hk ⊢
    rw [upTo_cons]
    simp only [spec_l29Parse.l1]
    rw [if_pos (by omega), if_pos (by omega), bt_drop hd]
    by_cases hc : c = 32
    · subst hc
      refine ⟨K, by omega, ?_⟩
      rw [if_pos (c32 32), if_pos rfl]
      rfl
    · obtain ⟨K', hK, he⟩ := ih K (i + 1) hn (by omega) (by omega)
      refine ⟨K', by omega, ?_⟩
      rw [if_neg (n32 hc), if_neg hc, w1 (by omega), he, show i + 1 + upTo r = i + (upTo r + 1) by omega]
theorem one_l0 (a b t : ByteArray) (ha : a.size ≤ 1048576) (hb : b.size ≤ 1048576) (ht : t.size ≤ 1048576) : ∀ (l : List UInt8) (K i : Nat), (L t).drop i = l → i ≤ t.size → l.length + 1048600 < K →
    spec_l29One.l0 K (i : Int) a b t = some (!decide ((10 : UInt8) ∈ l) && (nameB (L a) && (nameB (L b) && decide (t.size ≤ 400)))) := by
  intro l
  induction l with
  | nil =>
    intro K i hd hi hk
    obtain ⟨K, rfl⟩ := succ_of hk
    have := drop_end hd
    simp only [spec_l29One.l0]
    rw [if_neg (by omega), spec_name a ha K (by simp at hk; omega)]
    simp only [Option.bind_some]
    have hz : decide ((t.size : Int) ≤ 400) = decide (t.size ≤ 400) := decide_eq_decide.2 ⟨fun h => by omega, fun h => by omega⟩
    cases nameB (L a) with
    | false => simp
    | true =>
      rw [if_pos rfl, spec_name b hb K (by simp at hk; omega)]
      simp only [Option.bind_some]
      cases nameB (L b) <;> simp [hz]
  | cons c r ih =>
    intro K i hd hi hk
    obtain ⟨K, rfl⟩ := succ_of hk
    have hlt := drop_lt hd
    obtain ⟨hn, _⟩ := drop_next hd
    rw [List.length_cons] at hk
    simp only [spec_l29One.l0]
    rw [if_pos (by omega), if_pos (by omega), bt_drop hd]
    by_cases hc : c = 10
    · subst hc
      rw [if_pos (c10 10)]
      simp
    · rw [if_neg (n10 hc), w1 (by omega), ih K (i + 1) hn (by omega) (by omega)]
      have e : decide ((10 : UInt8) ∈ c :: r) = decide ((10 : UInt8) ∈ r) := decide_eq_decide.2 (by
        rw [List.mem_cons]
        exact ⟨fun h => h.elim (fun h => absurd h.symm hc) id, Or.inr⟩)
      rw [e]
theorem spec_one (a b t : ByteArray) (ha : a.size ≤ 1048576) (hb : b.size ≤ 1048576) (ht : t.size ≤ 1048576) (k : Nat) (hk : 2098000 < k) : spec_l29One.f k a b t = some (validB (L a) (L b) (L t)) := by
  unfold spec_l29One.f validB
  have h := one_l0 a b t ha hb ht (L t) k 0 rfl (Nat.zero_le _) (by rw [L_size]; omega)
  refine h.trans (congrArg some ?_)
  rw [L_size]
  cases nameB (L a) <;> cases nameB (L b) <;> cases decide ((10 : UInt8) ∈ L t) <;> cases decide (t.size ≤ 400) <;> rfl
theorem parse_rest (s : ByteArray) (hs : s.size ≤ 1048576) (K : Nat) (hk : 5000000 < K) : spec_l29Parse.l0 K s 0 = some (toB (blkRest (L s))) := by
  have hz := L_size s
  obtain ⟨K1, h1, e1⟩ := parse_l0 s hs (L s) K 0 rfl (Nat.zero_le _) (by omega)
  refine (show spec_l29Parse.l0 K s 0 = _ from e1).trans ?_
  obtain ⟨K1, rfl⟩ := succ_of (show 0 < K1 by omega)
  rw [Nat.zero_add]
  simp only [spec_l29Parse.j2]
  unfold blkRest
  by_cases hm : (32 : UInt8) ∈ L s
  · obtain ⟨a, b, hab, ha⟩ := first_of hm
    have hl : a.length + b.length + 1 = s.size := by rw [← hz, hab]; simp; omega
    have hd : (L s).drop (a.length + 1) = b := by rw [hab]; simp
    have hta : (L s).take a.length = a := by rw [hab]; simp
    rw [hab, upTo_hit a b ha, cut_hit 32 a b ha, w1 (by omega)]
    obtain ⟨K2, h2, e2⟩ := parse_l1 s hs (a.length : Int) b K1 (a.length + 1) hd (by omega) (by omega)
    rw [e2]
    obtain ⟨K2, rfl⟩ := succ_of (show 0 < K2 by omega)
    simp only [spec_l29Parse.j4]
    by_cases hm2 : (32 : UInt8) ∈ b
    · obtain ⟨a2, b2, hb2, ha2⟩ := first_of hm2
      have hl2 : a2.length + b2.length + 1 = b.length := by rw [hb2]; simp; omega
      rw [hb2, upTo_hit a2 b2 ha2, cut_hit 32 a2 b2 ha2]
      rw [w1 (i := a.length) (by omega), w1 (by omega)]
      rw [if_neg (by omega), if_pos (by omega), if_pos (by omega), if_pos (by omega), if_pos (by omega), if_pos (by omega), if_pos (by omega), if_pos (by omega)]
      simp only [Int.toNat_natCast]
      have x1 : s.extract 0 a.length = ofL a := by rw [ext_eq, hta, List.drop_zero]
      have x2 : s.extract (a.length + 1) (a.length + 1 + a2.length) = ofL a2 := by
        rw [ext_eq, ← List.take_drop, hd, hb2]
        simp
      have x3 : s.extract (a.length + 1 + a2.length + 1) s.size = ofL b2 := by
        rw [← ofL_L (s.extract _ _), rest_ext, show a.length + 1 + a2.length + 1 = (a.length + 1) + (a2.length + 1) by omega, ← List.drop_drop, hd, hb2]
        simp
      rw [x1, x2, x3, spec_one _ _ _ (by rw [ofL_size]; omega) (by rw [ofL_size]; omega) (by rw [ofL_size]; omega) K2 (by omega)]
      simp only [Option.bind_some, L_ofL, twoOf, Bool.true_and]
      cases validB a a2 b2 <;> rfl
    · rw [upTo_none b hm2, cut_none 32 b hm2, if_pos (by omega)]
      rfl
  · rw [upTo_none _ hm, cut_none 32 _ hm, hz, w1 (by omega)]
    obtain ⟨K1, rfl⟩ := succ_of (show 0 < K1 by omega)
    simp only [spec_l29Parse.l1]
    rw [if_neg (by omega)]
    obtain ⟨K1, rfl⟩ := succ_of (show 0 < K1 by omega)
    simp only [spec_l29Parse.j4]
    rw [if_pos (by omega)]
    rfl
theorem spec_block (s : ByteArray) (hs : s.size ≤ 1048576) (k : Nat) (hk : 10500000 < k) : spec_l29Parse.f k s = some (toB (blkOf (L s))) := by
  unfold spec_l29Parse.f blkOf
  by_cases h6 : (s.size : Int) < 6
  · obtain ⟨k, rfl⟩ := succ_of (show 0 < k by omega)
    rw [if_pos h6, List.drop_eq_nil_of_le (by rw [L_size]; omega)]
    simp only [spec_l29Parse.j0]
    rfl
  · obtain ⟨k, rfl⟩ := succ_of (show 0 < k by omega)
    obtain ⟨c, r, hd⟩ := at5 (s := s) (by omega)
    have hb : bt s 5 = (c.toNat : Int) := bt_drop (i := 5) hd
    have hr : (L s).drop 6 = r := (drop_next (i := 5) hd).1
    rw [if_neg h6, if_pos (by omega), hb, hd]
    simp only [spec_l29Parse.j0]
    by_cases hc : c = 32
    · subst hc
      rw [if_neg (by decide), if_pos (by omega)]
      simp only [Option.bind_some]
      rw [if_pos (by omega), if_pos (by omega), if_pos trivial]
      rw [spec_crc _ (by rw [rest_size]; omega) k (by rw [rest_size]; omega), rest_ext, hr]
      simp only [Option.bind_some]
      obtain ⟨c0, c1⟩ := crcL_in r (x := 65535) (by omega) (by omega)
      rw [spec_five c0 c1 k (by omega)]
      simp only [Option.bind_some]
      rw [five_ext, tl, L_ofL]
      show (if (L s).take 5 = check r then _ else _) = _
      by_cases hq : (L s).take 5 = check r
      · rw [if_pos hq, if_pos hq, parse_rest _ (by rw [rest_size]; omega) k (by omega), rest_ext, hr]
      · rw [if_neg hq, if_neg hq]
        rfl
    · have hne : ((c.toNat : Int) != 32) = true := by
        rw [bne_iff_ne]
        exact fun h => hc ((c_eq c 32).1 h)
      rw [if_pos hne, if_neg hc]
      rfl

/-! ### the order of blocks -/
def beforeB (a b : S47) : Bool := Op.bytesLess a.f0.toList b.f0.toList || (decide (a.f0.toList = b.f0.toList) && Op.bytesLess a.f1.toList b.f1.toList)
theorem spec_before (a b : S47) : spec_l29Before.f a.f0 a.f1 a.f2 b.f0 b.f1 b.f2 = some (beforeB a b) := by
  unfold spec_l29Before.f beforeB
  cases Op.bytesLess a.f0.toList b.f0.toList with
  | true => rfl
  | false =>
    rw [if_neg (by simp), Bool.false_or]
    by_cases h : a.f0.toList = b.f0.toList
    · rw [if_pos h, decide_eq_true h, Bool.true_and]
    · rw [if_neg h, decide_eq_false h, Bool.false_and]
theorem or_two (t1 t2 : Int) (k : Nat) (hk : 5 < k) : cmp_Or_int.f k [t1, t2] = some (if t1 = 0 then t2 else t1) := by
  obtain ⟨k, rfl⟩ : ∃ m, k = m + 3 := ⟨k - 3, by omega⟩
  have r0 : rd [t1, t2] 0 = t1 := rfl
  have r1 : rd [t1, t2] 1 = t2 := rfl
  have e1 : wrap64 (0 + 1) = 1 := by rw [wr (by omega) (by omega)]; rfl
  have e2 : wrap64 (1 + 1) = 2 := by rw [wr (by omega) (by omega)]; rfl
  have el : (([t1, t2] : List Int).length : Int) = 2 := rfl
  simp only [cmp_Or_int.f, cmp_Or_int.l0, el, r0, e1, r1, e2]
  by_cases h1 : t1 = 0
  · rw [if_pos (by omega), if_pos (by omega), if_pos (by omega), if_pos h1, if_pos (by omega), if_pos (by omega), if_pos (by omega), if_pos h1]
    by_cases h2 : t2 = 0
    · rw [if_pos h2, if_neg (by omega), h2]
    · rw [if_neg h2]
  · rw [if_pos (by omega), if_pos (by omega), if_pos (by omega), if_neg h1, if_neg h1]
theorem impl_compare (a b : S47) (k : Nat) (hk : 5 < k) : ∃ t, impl_compareBlocks.f k a.f0 a.f1 a.f2 b.f0 b.f1 b.f2 = some t ∧ decide (t ≥ 0) = !beforeB a b := by
  unfold impl_compareBlocks.f cmp_Compare_string.f beforeB
  simp only [Option.bind_some]
  rw [or_two _ _ k hk]
  refine ⟨_, rfl, ?_⟩
  have n1 : ¬ ((-1 : Int) = 0) := by omega
  have p1 : ¬ ((1 : Int) = 0) := by omega
  cases h1 : Op.bytesLess a.f0.toList b.f0.toList with
  | true =>
    rw [if_pos (show true = true from rfl), if_neg n1]
    rfl
  | false =>
    rw [if_neg (show ¬ (false = true) by simp), Bool.false_or]
    by_cases h : a.f0.toList = b.f0.toList
    · rw [if_pos h, if_pos (show (0 : Int) = 0 from rfl), decide_eq_true h, Bool.true_and]
      cases h2 : Op.bytesLess a.f1.toList b.f1.toList with
      | true => rfl
      | false =>
        rw [if_neg (show ¬ (false = true) by simp)]
        split <;> rfl
    · rw [if_neg h, if_neg p1, decide_eq_false h, Bool.false_and]
      rfl

/-! ### the law's own functions on rows of blocks -/
theorem mark_l0 : ∀ (n u : Nat) (s : ByteArray), u < 10 ^ n → u ≤ 4611686018427387904 → s.size + n ≤ 1000 → ∃ t, ∀ K, n < K → laws_markText.l0 K (u : Int) s = some t := by
  intro n
  induction n with
  | zero =>
    intro u s hu hb hs
    have : u = 0 := by rw [Nat.pow_zero] at hu; omega
    subst this
    refine ⟨(⟨#[109]⟩ : ByteArray) ++ s, fun K hk => ?_⟩
    obtain ⟨K, rfl⟩ := succ_of hk
    simp only [laws_markText.l0]
    rw [if_neg (by omega), if_pos (by omega)]
  | succ n ih =>
    intro u s hu hb hs
    by_cases hz : u = 0
    · subst hz
      refine ⟨(⟨#[109]⟩ : ByteArray) ++ s, fun K hk => ?_⟩
      obtain ⟨K, rfl⟩ := succ_of hk
      simp only [laws_markText.l0]
      rw [if_neg (by omega), if_pos (by omega)]
    · have e2 : Int.tdiv (u : Int) 10 = ((u / 10 : Nat) : Int) := by rw [Int.tdiv_eq_ediv_of_nonneg (by omega)]; omega
      have hsz : ∀ z : Int, (strOfNums [z] ++ s).size = 1 + s.size := fun z => by rw [ByteArray.size_append, strOfNums_size]; rfl
      obtain ⟨t, ht⟩ := ih (u / 10) (strOfNums [(wrap64 (48 + (Int.tmod (u : Int) 10))) % 256] ++ s) (by rw [Nat.pow_succ] at hu; omega) (by omega) (by rw [hsz]; omega)
      refine ⟨t, fun K hk => ?_⟩
      obtain ⟨K, rfl⟩ := succ_of hk
      simp only [laws_markText.l0]
      rw [if_pos (by omega)]
      simp only [Option.bind_some]
      rw [if_pos (by rw [strOfNums_size]; simp; omega), e2, wr (n := ((u / 10 : Nat) : Int)) (by omega) (by omega)]
      exact ht K (by omega)
def mkT (m : Int) : ByteArray := (laws_markText.f 30 m).getD ByteArray.empty
theorem mark_ok {m : Int} (h0 : 1 ≤ m) (h1 : m ≤ 100000000) {k : Nat} (hk : 30 ≤ k) : laws_markText.f k m = some (mkT m) := by
  obtain ⟨u, rfl⟩ := Int.eq_ofNat_of_zero_le (show 0 ≤ m by omega)
  have e : (10 : Nat) ^ 9 = 1000000000 := by decide
  have h0' : ¬ ((u : Int) ≤ 0) := by omega
  obtain ⟨t, ht⟩ := mark_l0 9 u (⟨#[]⟩ : ByteArray) (by rw [e]; omega) (by omega) (by decide)
  have h2 : ∀ K, 9 < K → laws_markText.f K (u : Int) = some t := fun K hK => by
    unfold laws_markText.f
    rw [if_neg h0']
    exact ht K hK
  unfold mkT
  rw [show laws_markText.f 30 ((u : Nat) : Int) = some t from h2 30 (by omega)]
  exact h2 k (by omega)
theorem rdT_at {p : List S47} {x : S47} {r : List S47} : rd_T47 (p ++ x :: r) (p.length : Int) = x := by
  unfold rd_T47
  rw [Int.toNat_natCast, List.getD_eq_getElem?_getD, List.getElem?_append_right (Nat.le_refl _)]
  simp
theorem setT_at {p : List S47} {x y : S47} {r : List S47} : (p ++ x :: r).set ((p.length : Int)).toNat y = p ++ y :: r := by
  rw [Int.toNat_natCast, List.set_append_right _ _ (Nat.le_refl _)]
  simp
theorem snocT {p : List S47} {x : S47} {r : List S47} : p ++ x :: r = (p ++ [x]) ++ r := by simp
theorem eqB_l0 : ∀ (r p : List S47) (K : Nat), p.length + r.length ≤ 4611686018427387904 → r.length < K → laws_eqBlockS.l0 K (p ++ r) (p ++ r) (p.length : Int) = some true := by
  intro r
  induction r with
  | nil =>
    intro p K h hk
    obtain ⟨K, rfl⟩ := succ_of hk
    simp only [laws_eqBlockS.l0]
    rw [if_neg (by simp)]
  | cons x r ih =>
    intro p K h hk
    obtain ⟨K, rfl⟩ := succ_of hk
    rw [List.length_cons] at h hk
    simp only [laws_eqBlockS.l0, laws_eqBlock.f, rdT_at]
    rw [if_pos (by simp; omega), if_pos (by omega), if_pos (by simp; omega), if_pos trivial, if_pos trivial, if_pos trivial]
    simp only [Option.bind_some]
    rw [if_pos trivial, w1 (by omega), snocT, show ((p.length + 1 : Nat) : Int) = ((p ++ [x]).length : Int) by simp]
    exact ih (p ++ [x]) K (by rw [List.length_append, List.length_singleton]; omega) (by omega)
theorem eqB (xs : List S47) (hx : xs.length ≤ 2097152) (k : Nat) (hk : 2097152 < k) : laws_eqBlockS.f k xs xs = some true := by
  unfold laws_eqBlockS.f
  rw [if_pos rfl]
  exact eqB_l0 xs [] k (by simp; omega) (by omega)
def mkB : Int → Nat → List S47
  | _, 0 => []
  | m, n + 1 => ⟨mkT m, mkT (m + 1), mkT (m + 2)⟩ :: mkB (m + 3) n
theorem markB_l0 : ∀ (r p : List S47) (K : Nat) (m : Int), p.length + r.length ≤ 4611686018427387904 → r.length + 40 < K → 1 ≤ m → m + 3 * r.length ≤ 100000000 →
    laws_markBlockS.l0 K (p ++ r) m (p.length : Int) = some (m + 3 * r.length, p ++ mkB m r.length) := by
  intro r
  induction r with
  | nil =>
    intro p K m h hk h0 h1
    obtain ⟨K, rfl⟩ := succ_of (show 0 < K by omega)
    simp only [laws_markBlockS.l0]
    rw [if_neg (by simp)]
    simp [mkB]
  | cons x r ih =>
    intro p K m h hk h0 h1
    obtain ⟨K, rfl⟩ := succ_of (show 0 < K by omega)
    rw [List.length_cons] at h hk h1
    simp only [laws_markBlockS.l0]
    rw [if_pos (by simp; omega), mark_ok h0 (by omega) (by omega)]
    simp only [Option.bind_some]
    rw [if_pos (by omega)]
    simp only [rdT_at, setT_at]
    rw [wr (n := m + 1) (by omega) (by omega), mark_ok (by omega) (by omega) (by omega)]
    simp only [Option.bind_some, rdT_at, setT_at]
    rw [wr (n := m + 1 + 1) (by omega) (by omega), mark_ok (by omega) (by omega) (by omega)]
    simp only [Option.bind_some, rdT_at, setT_at]
    rw [wr (n := m + 1 + 1 + 1) (by omega) (by omega), w1 (by omega), snocT, show m + 1 + 1 + 1 = m + 3 by omega, show m + 1 + 1 = m + 2 by omega]
    generalize hz : (⟨mkT m, mkT (m + 1), mkT (m + 2)⟩ : S47) = z
    rw [show ((p.length + 1 : Nat) : Int) = ((p ++ [z]).length : Int) by simp]
    rw [ih (p ++ [z]) K (m + 3) (by rw [List.length_append, List.length_singleton]; omega) (by omega) (by omega) (by omega)]
    have e1 : m + 3 + 3 * (r.length : Int) = m + 3 * ((x :: r).length : Int) := by rw [List.length_cons]; omega
    have e2 : (p ++ [z]) ++ mkB (m + 3) r.length = p ++ mkB m (x :: r).length := by
      rw [List.length_cons]
      show _ = p ++ (⟨mkT m, mkT (m + 1), mkT (m + 2)⟩ :: mkB (m + 3) r.length)
      rw [hz]
      simp
    rw [e1, e2]
theorem markB (xs : List S47) (hx : xs.length ≤ 2097152) (k : Nat) (hk : 2098000 < k) : laws_markBlockS.f k xs 1 = some (1 + 3 * (xs.length : Int), mkB 1 xs.length) := by
  unfold laws_markBlockS.f
  exact markB_l0 xs [] k 1 (by simp; omega) (by omega) (by omega) (by omega)
theorem heldB_l0 : ∀ (n : Nat) (p : List S47) (K : Nat) (m : Int), p.length + n ≤ 4611686018427387904 → n + 40 < K → 1 ≤ m → m + 3 * n ≤ 100000000 →
    laws_heldBlockS.l0 K (p ++ mkB m n) m (p.length : Int) = some (m + 3 * n) := by
  intro n
  induction n with
  | zero =>
    intro p K m h hk h0 h1
    obtain ⟨K, rfl⟩ := succ_of (show 0 < K by omega)
    simp only [laws_heldBlockS.l0]
    rw [if_neg (by simp [mkB])]
    simp
  | succ n ih =>
    intro p K m h hk h0 h1
    obtain ⟨K, rfl⟩ := succ_of (show 0 < K by omega)
    have em : mkB m (n + 1) = ⟨mkT m, mkT (m + 1), mkT (m + 2)⟩ :: mkB (m + 3) n := rfl
    simp only [laws_heldBlockS.l0]
    rw [em]
    simp only [rdT_at]
    rw [if_pos (by simp; omega), if_pos (by omega), mark_ok h0 (by omega) (by omega)]
    simp only [Option.bind_some]
    rw [if_pos trivial, wr (n := m + 1) (by omega) (by omega), mark_ok (by omega) (by omega) (by omega)]
    simp only [Option.bind_some]
    rw [if_pos trivial, wr (n := m + 1 + 1) (by omega) (by omega), show m + 1 + 1 = m + 2 by omega, mark_ok (by omega) (by omega) (by omega)]
    simp only [Option.bind_some]
    rw [if_pos trivial, wr (n := m + 2 + 1) (by omega) (by omega), w1 (by omega), snocT, show m + 2 + 1 = m + 3 by omega]
    generalize (⟨mkT m, mkT (m + 1), mkT (m + 2)⟩ : S47) = z
    rw [show ((p.length + 1 : Nat) : Int) = ((p ++ [z]).length : Int) by simp]
    rw [ih (p ++ [z]) K (m + 3) (by rw [List.length_append, List.length_singleton]; omega) (by omega) (by omega) (by omega)]
    congr 1
    omega
theorem heldB (n : Nat) (hn : n ≤ 2097152) (k : Nat) (hk : 2098000 < k) : laws_heldBlockS.f k (mkB 1 n) 1 = some (1 + 3 * (n : Int)) := by
  unfold laws_heldBlockS.f
  exact heldB_l0 n [] k 1 (by simp; omega) (by omega) (by omega) (by omega)
end Go.Proofs.YtimgebbbonfopaaDoor.QFnExactSalvageBlocks
