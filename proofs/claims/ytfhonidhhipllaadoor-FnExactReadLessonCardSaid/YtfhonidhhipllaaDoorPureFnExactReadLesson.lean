/- ReadLesson of the program and of the reference come to the same lesson, at every text of at most 2^20 bytes. -/
import Derived.Test.YtfhonidhhipllaaDoorListFnExactReadLesson
import Derived.Test.YtfhonidhhipllaaDoorQFnExactReadLesson2
import Derived.Test.YtfhonidhhipllaaDoorQFnExactReadLesson3
import Derived.Test.YtfhonidhhipllaaDoorQFnExactReadLesson5
import Derived.Test.YtfhonidhhipllaaDoorQFnExactReadLesson6
import Derived.Test.YtfhonidhhipllaaDoorQFnExactReadLesson7
namespace Go.Proofs.YtfhonidhhipllaaDoor.QFnExactReadLesson
open Go.RowKit Go.Proofs.YtfhonidhhipllaaDoorW.PrintWords Go.Proofs.YtfhonidhhipllaaDoorW.PrintLast Go.Proofs.YtfhonidhhipllaaDoorW.PrintMore Go.Proofs.YtfhonidhhipllaaDoor.Plain
set_option linter.unusedVariables false
set_option linter.unusedSimpArgs false

abbrev Lsn := Int × ByteArray × ByteArray × Int × Int × Bool
def zeroL : Lsn := (0, ⟨#[]⟩, ⟨#[]⟩, 0, 0, false)
def validL (n : Int) (b c : List UInt8) (m q : Int) : Bool :=
  (decide (0 ≤ n) && decide (n ≤ 100000)) && (nameB b && (nameB c && ((decide (1 ≤ m) && decide (m ≤ 480)) && (decide (0 ≤ q) && decide (q ≤ 100)))))
/-- The lesson of four words. -/
def lesson4 (a b c d : List UInt8) : Lsn :=
  match num a, listOf d with
  | some n, some [m, q] => if validL n b c m q then (n, ofL b, ofL c, m, q, true) else zeroL
  | _, _ => zeroL
def lessonOf (l : List UInt8) : Lsn :=
  match split 32 l with
  | [a, b, c, d] => lesson4 a b c d
  | _ => zeroL

theorem spec_one (k : Nat) (n : Int) (b c : List UInt8) (m q : Int) (hb : b.length ≤ 1048576) (hc : c.length ≤ 1048576) (hk : 1048800 < k) :
    spec_l28One.f k n (ofL b) (ofL c) m q = some (validL n b c m q, n, ofL b, ofL c, m, q) := by
  unfold spec_l28One.f
  rw [spec_in]
  simp only [Option.bind_some]
  rw [spec_name (ofL b) (by rw [ofL_size]; exact hb) k (by rw [ofL_size]; omega), spec_name (ofL c) (by rw [ofL_size]; exact hc) k (by rw [ofL_size]; omega)]
  rw [spec_in, spec_in, L_ofL, L_ofL]
  simp only [Option.bind_some]
  unfold validL
  cases h1 : (decide (0 ≤ n) && decide (n ≤ 100000)) <;> cases h2 : nameB b <;> cases h3 : nameB c <;> cases h4 : (decide (1 ≤ m) && decide (m ≤ 480)) <;> rfl

theorem j0_true (k : Nat) (ws : List ByteArray) (n : Int) (xs : List Int) : spec_l28Read.j0 (k + 1) ws n xs true = some zeroL := by
  simp only [spec_l28Read.j0]; rfl
theorem j0_false (k : Nat) (a b c d : ByteArray) (n m q : Int) : spec_l28Read.j0 (k + 1) [a, b, c, d] n [m, q] false = (spec_l28One.f k n b c m q).bind fun o => if o.1 = true then some (o.2.1, o.2.2.1, o.2.2.2.1, o.2.2.2.2.1, o.2.2.2.2.2, true) else some zeroL := by
  simp only [spec_l28Read.j0]; rfl

theorem spec_read (s : ByteArray) (hs : s.size ≤ 1048576) (k : Nat) (hk : 1048900 < k) : spec_l28Read.f k s = some (lessonOf (L s)) := by
  unfold spec_l28Read.f lessonOf
  rw [show (32 : Int) = ((32 : UInt8).toNat : Int) from rfl, spec_split s 32 hs k (by omega)]
  have hlen := split_len 32 (L s)
  rw [L_size] at hlen
  simp only [Option.bind_some, List.length_map]
  match hw : split 32 (L s) with
  | [] => rw [if_neg (by simp)]; rfl
  | [_] => rw [if_neg (by simp)]; rfl
  | [_, _] => rw [if_neg (by simp)]; rfl
  | [_, _, _] => rw [if_neg (by simp)]; rfl
  | _ :: _ :: _ :: _ :: _ :: _ => rw [if_neg (by simp; omega)]; rfl
  | [a, b, c, d] =>
    rw [hw] at hlen
    have la := hlen a (by simp)
    have lb := hlen b (by simp)
    have lc := hlen c (by simp)
    have ld := hlen d (by simp)
    rw [if_pos (by simp), if_pos (by simp)]
    have ea : rdOf ByteArray.empty ([a, b, c, d].map ofL) 0 = ofL a := rfl
    have ed : rdOf ByteArray.empty ([a, b, c, d].map ofL) 3 = ofL d := rfl
    rw [ea, ed, spec_num (ofL a) (by rw [ofL_size]; omega) k (by rw [ofL_size]; omega), L_ofL]
    simp only [Option.bind_some]
    rw [if_pos (by simp), spec_list (ofL d) (by rw [ofL_size]; omega) k (by omega), L_ofL]
    simp only [Option.bind_some]
    unfold lesson4 numR listR
    obtain ⟨k, rfl⟩ := succ_of hk
    cases num a with
    | none => simp only [Bool.false_eq_true, if_false]; exact j0_true _ _ _ _
    | some n =>
      cases listOf d with
      | none => simp only [Bool.false_eq_true, if_false, if_true]; exact j0_true _ _ _ _
      | some xs =>
        simp only [if_true]
        match xs with
        | [] => exact j0_true _ _ _ _
        | [_] => exact j0_true _ _ _ _
        | x :: y :: z :: r =>
          rw [show ((((x :: y :: z :: r).length : Int) != 2)) = true by simp; omega]
          exact j0_true _ _ _ _
        | [m, q] =>
          rw [show ((([m, q].length : Int) != 2)) = false from rfl]
          rw [show [a, b, c, d].map ofL = [ofL a, ofL b, ofL c, ofL d] from rfl, j0_false, spec_one k n b c m q (by omega) (by omega) (by omega)]
          simp only [Option.bind_some]
          cases validL n b c m q <;> rfl

theorem impl_valid (k : Nat) (n : Int) (b c : List UInt8) (m q : Int) (hb : b.length ≤ 1048576) (hc : c.length ≤ 1048576) (hk : 1048800 < k) :
    impl_Lesson_valid.f k n (ofL b) (ofL c) m q = some (validL n b c m q) := by
  unfold impl_Lesson_valid.f
  rw [impl_in]
  simp only [Option.bind_some]
  rw [impl_name (ofL b) (by rw [ofL_size]; exact hb) k (by rw [ofL_size]; omega), impl_name (ofL c) (by rw [ofL_size]; exact hc) k (by rw [ofL_size]; omega)]
  rw [impl_in, impl_in, L_ofL, L_ofL]
  simp only [Option.bind_some]
  unfold validL
  cases h1 : (decide (0 ≤ n) && decide (n ≤ 100000)) <;> cases h2 : nameB b <;> cases h3 : nameB c <;> cases h4 : (decide (1 ≤ m) && decide (m ≤ 480)) <;> rfl
/-- The text of a valid lesson. -/
def textL (n : Int) (b c : List UInt8) (m q : Int) : List UInt8 := Lib.itoa n ++ [32] ++ b ++ [32] ++ c ++ [32] ++ listText [m, q]
theorem valid_parts {n : Int} {b c : List UInt8} {m q : Int} (h : validL n b c m q = true) : (0 ≤ n ∧ n ≤ 100000) ∧ b.length ≤ 10 ∧ c.length ≤ 10 ∧ inB n = true ∧ inB m = true ∧ inB q = true := by
  unfold validL nameB at h
  simp only [Bool.and_eq_true, decide_eq_true_eq] at h
  refine ⟨h.1, h.2.1.1.1.2, h.2.2.1.1.1.2, ?_, ?_, ?_⟩ <;> (simp only [inB, Bool.and_eq_true, decide_eq_true_eq]; omega)
theorem text2_len {m q : Int} (h1 : inB m = true) (h2 : inB q = true) : (listText [m, q]).length ≤ 100 := by
  unfold listText
  rw [if_neg (by simp), if_neg (by simp), if_pos (by simp [h1, h2])]
  have := join_bound (ys := [m, q].map Lib.itoa) (M := 19) (by
    intro y hy
    simp only [List.map_cons, List.map_nil, List.mem_cons, List.not_mem_nil, or_false] at hy
    rcases hy with rfl | rfl
    · exact itoa_len h1
    · exact itoa_len h2)
  simp only [List.length_map, List.length_cons, List.length_nil] at this
  omega
theorem impl_ltext (k : Nat) (n : Int) (b c : List UInt8) (m q : Int) (hb : b.length ≤ 1048576) (hc : c.length ≤ 1048576) (hk : 1048800 < k) :
    impl_LessonText.f k n (ofL b) (ofL c) m q = some (ofL (if validL n b c m q then textL n b c m q else [])) := by
  unfold impl_LessonText.f
  rw [impl_valid k n b c m q hb hc hk]
  simp only [Option.bind_some]
  cases hv : validL n b c m q with
  | false => rfl
  | true =>
    obtain ⟨⟨hn0, hn1⟩, lb, lc, bn, bm, bq⟩ := valid_parts hv
    have ln := itoa_len bn
    have lt := text2_len bm bq
    rw [if_pos rfl, impl_dec n (by omega) (by omega)]
    simp only [Option.bind_some]
    have e1 : (⟨#[32]⟩ : ByteArray) = ofL [32] := rfl
    have app : ∀ x y : List UInt8, ofL x ++ ofL y = ofL (x ++ y) := fun x y => by rw [← ofL_L (ofL x ++ ofL y), L_app, L_ofL, L_ofL]
    rw [impl_text [m, q] (by simp) k (by omega)]
    simp only [Option.bind_some, e1, app, ofL_size, List.length_append, List.length_singleton]
    rw [if_pos (by omega), if_pos (by omega), if_pos (by omega), if_pos (by omega), if_pos (by omega), if_pos (by omega)]
    rfl
theorem join4 (a b c d : List UInt8) : Lib.join [a, b, c, d] [32] = a ++ [32] ++ b ++ [32] ++ c ++ [32] ++ d := by
  rw [Lib.join_cons]
  simp [Lib.joinTail]
theorem impl_read (s : ByteArray) (hs : s.size ≤ 1048576) (k : Nat) (hk : 1048900 < k) : impl_ReadLesson.f k s = some (lessonOf (L s)) := by
  unfold impl_ReadLesson.f lessonOf
  rw [impl_split s 32 hs]
  have hlen := split_len 32 (L s)
  have hj := split_join 32 (L s)
  rw [L_size] at hlen
  simp only [Option.bind_some, List.length_map]
  match hw : split 32 (L s) with
  | [] => rw [if_neg (by simp)]; rfl
  | [_] => rw [if_neg (by simp)]; rfl
  | [_, _] => rw [if_neg (by simp)]; rfl
  | [_, _, _] => rw [if_neg (by simp)]; rfl
  | _ :: _ :: _ :: _ :: _ :: _ => rw [if_neg (by simp; omega)]; rfl
  | [a, b, c, d] =>
    rw [hw] at hlen hj
    have la := hlen a (by simp)
    have lb := hlen b (by simp)
    have lc := hlen c (by simp)
    have ld := hlen d (by simp)
    rw [if_pos (by simp), if_pos (by simp)]
    have ea : rdOf ByteArray.empty ([a, b, c, d].map ofL) 0 = ofL a := rfl
    have eb : rdOf ByteArray.empty ([a, b, c, d].map ofL) 1 = ofL b := rfl
    have ec : rdOf ByteArray.empty ([a, b, c, d].map ofL) 2 = ofL c := rfl
    have ed : rdOf ByteArray.empty ([a, b, c, d].map ofL) 3 = ofL d := rfl
    rw [ea, eb, ec, ed, impl_num (ofL a) (by rw [ofL_size]; omega), L_ofL]
    simp only [Option.bind_some]
    rw [if_pos (by simp)]
    have hnums := impl_nums (ofL d) (by rw [ofL_size]; omega) 2 (by omega) k (by omega)
    rw [show ((2 : Nat) : Int) = 2 from rfl, L_ofL] at hnums
    rw [hnums]
    simp only [Option.bind_some]
    rw [if_pos (by simp), if_pos (by simp)]
    unfold lesson4 numR
    cases hd : listOf d with
    | none =>
      cases num a <;> rfl
    | some xs =>
      by_cases hx : xs.length = 2
      · match xs, hx with
        | [m, q], _ =>
          simp only
          rw [if_pos (show [m, q].length = 2 from rfl)]
          simp only
          rw [if_pos (by simp), if_pos (by simp)]
          cases ha : num a with
          | none => rfl
          | some n =>
            simp only [if_true]
            rw [show rd [m, q] 0 = m from rfl, show rd [m, q] 1 = q from rfl, impl_ltext k n b c m q (by omega) (by omega) (by omega)]
            simp only [Option.bind_some]
            rw [tl, tl, L_ofL]
            cases hv : validL n b c m q with
            | true =>
              rw [if_pos (by
                rw [if_pos rfl]
                unfold textL
                rw [listText_listOf hd, (num_itoa ha).1, ← join4, hj])]
              rfl
            | false =>
              rw [if_neg (by
                rw [if_neg (by simp), ← hj, join4]
                simp)]
              rfl
      · simp only
        rw [if_neg hx]
        simp only
        rw [if_pos (by simp), if_pos (by simp)]
        match xs, hx with
        | [], _ => cases num a <;> rfl
        | [_], _ => cases num a <;> rfl
        | x :: y :: z :: r, _ => cases num a <;> rfl
        | [m, q], hx => exact absurd rfl hx

theorem pure : laws_FnExactReadLesson.Pure := by
  intro s hs
  refine ⟨1049000, ?_⟩
  unfold laws_FnExactReadLesson.f
  by_cases h : (s.size : Int) > 1048576
  · rw [if_pos h]
  · rw [if_neg h]
    unfold spec_ReadLesson.f
    rw [spec_read s (by omega) _ (by omega), impl_read s (by omega) _ (by omega)]
    simp only [Option.bind_some]
    unfold laws_eqLesson.f
    simp
end Go.Proofs.YtfhonidhhipllaaDoor.QFnExactReadLesson
