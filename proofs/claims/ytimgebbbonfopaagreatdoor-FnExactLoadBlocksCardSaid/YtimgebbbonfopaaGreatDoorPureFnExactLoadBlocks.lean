/- LoadBlocks of the program and of the reference come to the same blocks, line and code, at every text of at most 2^20 bytes. -/
import Derived.Test.YtimgebbbonfopaaGreatDoorBlkFnExactLoadBlocks
import Derived.Test.YtimgebbbonfopaaGreatDoorQFnExactLoadBlocks1
import Derived.Test.YtimgebbbonfopaaGreatDoorQFnExactLoadBlocks12
import Derived.Test.YtimgebbbonfopaaGreatDoorQFnExactLoadBlocks2
import Derived.Test.YtimgebbbonfopaaGreatDoorQFnExactLoadBlocks5
import Derived.Test.YtimgebbbonfopaaGreatDoorQFnExactLoadBlocks7
import Derived.Test.YtimgebbbonfopaaGreatDoorQFnExactLoadBlocks8
import Derived.Test.YtimgebbbonfopaaGreatDoorQFnExactLoadBlocks9
namespace Go.Proofs.YtimgebbbonfopaaGreatDoor.QFnExactLoadBlocks
open Go.RowKit Go.Proofs.YtimgebbbonfopaaGreatDoorW.PrintWords Go.Proofs.YtimgebbbonfopaaGreatDoorW.PrintLast Go.Proofs.YtimgebbbonfopaaGreatDoorW.PrintMore Go.Proofs.YtimgebbbonfopaaGreatDoor.Plain
set_option linter.unusedVariables false
set_option linter.unusedSimpArgs false

/-! ### lines of a text -/
theorem splitFrom_end_hit (c : UInt8) : ∀ (l acc : List UInt8), splitFrom c acc (l ++ [c]) = splitFrom c acc l ++ [[]] := by
  intro l
  induction l with
  | nil => intro acc; rw [List.nil_append, splitFrom_eq]; rfl
  | cons x r ih =>
    intro acc
    rw [List.cons_append]
    by_cases h : x = c
    · subst h
      rw [splitFrom_eq, splitFrom_eq, ih]
      rfl
    · rw [splitFrom_ne h, splitFrom_ne h, ih]
theorem splitFrom_end_miss (c x : UInt8) (hx : x ≠ c) : ∀ (l acc : List UInt8), ∃ q p, splitFrom c acc (l ++ [x]) = q ++ [p ++ [x]] := by
  intro l
  induction l with
  | nil => intro acc; exact ⟨[], acc, by rw [List.nil_append, splitFrom_ne hx]; rfl⟩
  | cons y r ih =>
    intro acc
    rw [List.cons_append]
    by_cases h : y = c
    · subst h
      obtain ⟨q, p, e⟩ := ih []
      exact ⟨acc :: q, p, by rw [splitFrom_eq, e]; rfl⟩
    · obtain ⟨q, p, e⟩ := ih (acc ++ [y])
      exact ⟨q, p, by rw [splitFrom_ne h, e]⟩
theorem split_end_hit (c : UInt8) (l : List UInt8) : split c (l ++ [c]) = split c l ++ [[]] := splitFrom_end_hit c l []
theorem split_end_miss {c x : UInt8} (hx : x ≠ c) (l : List UInt8) : ∃ q p, split c (l ++ [x]) = q ++ [p ++ [x]] := splitFrom_end_miss c x hx l []
theorem split_count (c : UInt8) (l : List UInt8) : (split c l).length ≤ l.length + 1 := by
  unfold split
  rw [splitFrom_length]
  have := List.count_le_length (a := c) (l := l)
  omega
theorem split_ne (c : UInt8) (l : List UInt8) : split c l ≠ [] := by
  have := splitFrom_pos c l []
  intro h
  unfold split at h
  rw [h] at this
  simp at this
theorem spec_lines (s : ByteArray) (hs : s.size ≤ 1048576) (k : Nat) (hk : 1048600 < k) (q : List (List UInt8)) (p : List UInt8) (h : split 10 (L s) = q ++ [p]) :
    spec_l29Lines.f k s = some (q.map ofL, p.isEmpty) := by
  unfold spec_l29Lines.f
  have hc := split_count 10 (L s)
  rw [L_size, h, List.length_append, List.length_singleton] at hc
  rw [show (10 : Int) = ((10 : UInt8).toNat : Int) from rfl, spec_split s 10 hs k (by omega), h]
  simp only [Option.bind_some]
  have hl : ((q ++ [p]).map ofL).length = q.length + 1 := by simp
  rw [hl, wr (by omega) (by omega), if_pos ⟨by omega, by omega⟩, show (((q.length + 1 : Nat) : Int) - 1).toNat = q.length by omega, show ((q.length + 1 : Nat) : Int) - 1 = (q.length : Int) by omega]
  have e1 : ((q ++ [p]).map ofL).take q.length = q.map ofL := by
    rw [List.map_append, List.take_append_of_le_length (by simp), List.take_of_length_le (by simp)]
  have e2 : rdOf ByteArray.empty ((q ++ [p]).map ofL) (q.length : Int) = ofL p := by
    unfold rdOf
    rw [Int.toNat_natCast, List.getD_eq_getElem?_getD, List.map_append, List.getElem?_append_right (by simp)]
    simp
  rw [e1, e2, tl, L_ofL]

/-! ### the head -/
def arc : List UInt8 := [97, 114, 99, 104, 105, 118, 101]
def headOf (l : List UInt8) : Int × Bool :=
  if l.take 8 = arc ++ [32] then (match num (l.drop 8) with | some n => (n, decide (0 ≤ n) && decide (n ≤ 32)) | none => (0, false)) else (0, false)
theorem head_split {l a b : List UInt8} (h : split 32 l = [a, b]) : l = a ++ 32 :: b := by
  have := split_join 32 l
  rw [h] at this
  rw [← this]
  simp [Lib.join, List.intercalate]
theorem take_arc (b : List UInt8) : (arc ++ 32 :: b).take 8 = arc ++ [32] ∧ (arc ++ 32 :: b).drop 8 = b := ⟨rfl, rfl⟩
theorem numR_eq (b : List UInt8) : (match num b with | some n => (n, decide (0 ≤ n) && decide (n ≤ 32)) | none => ((0 : Int), false)) = ((numR b).1, (numR b).2 && (decide (0 ≤ (numR b).1) && decide ((numR b).1 ≤ 32))) := by
  unfold numR
  cases num b <;> simp
theorem spec_head (s : ByteArray) (hs : s.size ≤ 1048576) (k : Nat) (hk : 1048700 < k) : spec_l29Head.f k s = some (headOf (L s)) := by
  unfold spec_l29Head.f headOf
  have hsp : spec_l01Split.f k s 32 = some ((split 32 (L s)).map ofL) := spec_split s 32 hs k (by omega)
  rw [hsp]
  have hlen := split_len 32 (L s)
  rw [L_size] at hlen
  simp only [Option.bind_some, List.length_map]
  obtain ⟨k, rfl⟩ := succ_of (show 0 < k by omega)
  have hbad : ∀ x4, spec_l29Head.j0 (k + 1) x4 true = some (0, false) := fun x4 => by
    simp only [spec_l29Head.j0]
    rfl
  have hno : ∀ ps, split 32 (L s) = ps → (∀ b, ps ≠ [arc, b]) → (if (L s).take 8 = arc ++ [32] then (match num ((L s).drop 8) with | some n => (n, decide (0 ≤ n) && decide (n ≤ 32)) | none => ((0 : Int), false)) else ((0 : Int), false)) = (0, false) := by
    intro ps hps hne
    by_cases ht : (L s).take 8 = arc ++ [32]
    · rw [if_pos ht]
      have el : L s = arc ++ 32 :: (L s).drop 8 := by
        conv => lhs; rw [← List.take_append_drop 8 (L s), ht]
        simp
      by_cases hm : (32 : UInt8) ∈ (L s).drop 8
      · rw [num_bad hm (by decide) (by decide)]
      · exfalso
        refine hne ((L s).drop 8) ?_
        rw [← hps]
        conv => lhs; rw [el]
        unfold split
        rw [splitFrom_hit 32 arc _ (by decide), splitFrom_none 32 _ hm]
        rfl
    · rw [if_neg ht]
  match hw : split 32 (L s) with
  | [] => rw [if_neg (by simp), hbad, hno _ hw (fun b => by simp)]
  | [_] => rw [if_neg (by simp), hbad, hno _ hw (fun b => by simp)]
  | _ :: _ :: _ :: _ => rw [if_neg (by simp; omega), hbad, hno _ hw (fun b => by simp)]
  | [a, b] =>
    rw [hw] at hlen
    have lb := hlen b (by simp)
    rw [if_pos (by simp), if_pos (by simp)]
    have ea : rdOf ByteArray.empty ([a, b].map ofL) 0 = ofL a := rfl
    have eb : rdOf ByteArray.empty ([a, b].map ofL) 1 = ofL b := rfl
    rw [ea, tl, L_ofL]
    by_cases ha : a = arc
    · subst ha
      have hl := head_split hw
      rw [show (arc != ([97, 114, 99, 104, 105, 118, 101] : List UInt8)) = false from by decide]
      simp only [spec_l29Head.j0]
      rw [if_neg (by simp), if_pos (by simp), eb, spec_num (ofL b) (by rw [ofL_size]; omega) k (by rw [ofL_size]; omega), L_ofL]
      simp only [Option.bind_some]
      rw [hl, (take_arc b).1, (take_arc b).2, if_pos rfl, numR_eq]
      cases (numR b).2 with
      | false => simp
      | true => simp [spec_in]
    · rw [show (a != ([97, 114, 99, 104, 105, 118, 101] : List UInt8)) = true from bne_iff_ne.mpr ha, hbad, hno _ hw (fun b' h => ha (by injection h))]
theorem impl_cutPrefix (s p : ByteArray) (hs : s.size ≤ 1048576) (hp : p.size ≤ 1048576) : strings_CutPrefix.f s p = some (if (L s).take p.size = L p then (ofL ((L s).drop p.size), true) else (s, false)) := by
  unfold strings_CutPrefix.f stringslite_CutPrefix.f stringslite_HasPrefix.f
  by_cases h : (s.size : Int) ≥ (p.size : Int)
  · rw [if_pos h, if_pos (by omega), if_pos (by omega)]
    simp only [Option.bind_some]
    have e0 : (s.extract 0 ((p.size : Int)).toNat).toList = (L s).take p.size := by rw [tl, L_extract, List.drop_zero, Int.toNat_natCast]
    rw [e0, tl]
    by_cases hq : (L s).take p.size = L p
    · have hb : ((L s).take p.size == L p) = true := by rw [hq]; exact beq_self_eq_true _
      rw [hb, if_pos hq]
      simp only [Option.bind_some, if_true]
      rw [if_pos (by omega), if_pos (by omega), Int.toNat_natCast, ← ofL_L (s.extract p.size s.size), rest_ext]
      rfl
    · have hb : ((L s).take p.size == L p) = false := by simpa using hq
      rw [hb, if_neg (by simp), if_neg hq]
      rfl
  · rw [if_neg h]
    simp only [Option.bind_some]
    have hq : (L s).take p.size ≠ L p := fun e => by
      have := congrArg List.length e
      rw [List.length_take, L_size, L_size] at this
      omega
    rw [if_neg (by simp), if_neg hq]
    rfl

/-! ### the lines -/
abbrev Res := List S46 × Int × Int
def toS (b : Bl) : S46 := ⟨ofL b.1, ofL b.2.1, ofL b.2.2.1⟩
def lastBefore (out : List S46) (x : S46) : Bool := match out.getLast? with | some y => beforeB y x | none => true
def goL (n : Int) : List S46 → Int → List (List UInt8) → Res
  | out, ln, [] => if (out.length : Int) = n then (out, 0, 0) else ([], 0, 11)
  | out, ln, l :: r =>
    if (blkOf l).2.2.2 = 0 then
      (if lastBefore out (toS (blkOf l)) = true then goL n (out ++ [toS (blkOf l)]) (ln + 1) r else ([], ln, 7))
    else ([], ln, (blkOf l).2.2.2)
theorem at_row {l : List UInt8} {p r : List (List UInt8)} {o : ByteArray} : rdOf o ((p ++ l :: r).map ofL) (p.length : Int) = ofL l := by
  unfold rdOf
  rw [Int.toNat_natCast, List.getD_eq_getElem?_getD, List.map_append, List.getElem?_append_right (by simp)]
  simp
theorem last_read (q : List S46) (y : S46) : rd_T46 (q ++ [y]) (q.length : Int) = y := rdT_at
theorem spec_lines_l0 (n : Int) (all : List (List UInt8)) (ha : ∀ z ∈ all, z.length ≤ 1048576) (hal : all.length ≤ 1048577) : ∀ (r p : List (List UInt8)) (K : Nat) (out : List S46), all = p ++ r → 1 ≤ p.length → out.length + 1 = p.length → r.length + 10500002 < K →
    spec_LoadBlocks.l0 K (all.map ofL) n out (p.length : Int) = some (goL n out (p.length + 1) r) := by
  intro r
  induction r with
  | nil =>
    intro p K out he hp ho hk
    obtain ⟨K, rfl⟩ := succ_of (show 0 < K by omega)
    simp only [spec_LoadBlocks.l0]
    rw [if_neg (by rw [he]; simp)]
    unfold goL
    by_cases h : (out.length : Int) = n
    · rw [if_pos h, if_pos h]
    · rw [if_neg h, if_neg h]
  | cons l r ih =>
    intro p K out he hp ho hk
    obtain ⟨K, rfl⟩ := succ_of (show 0 < K by omega)
    have hlen : all.length = p.length + (r.length + 1) := by rw [he]; simp
    rw [List.length_cons] at hk
    simp only [spec_LoadBlocks.l0]
    have hrd : rdOf ByteArray.empty (all.map ofL) (p.length : Int) = ofL l := by rw [he]; exact at_row
    have hl := ha l (by rw [he]; simp)
    rw [if_pos (by rw [List.length_map]; omega), if_pos (by omega), hrd, spec_block (ofL l) (by rw [ofL_size]; exact hl) K (by omega), L_ofL]
    simp only [Option.bind_some, toB]
    unfold goL
    by_cases hc : (blkOf l).2.2.2 = 0
    · rw [if_pos hc, if_pos hc]
      have next : ∀ o, o = out ++ [toS (blkOf l)] → spec_LoadBlocks.l0 K (all.map ofL) n o (wrap64 ((p.length : Int) + 1)) = some (goL n (out ++ [toS (blkOf l)]) (((p.length : Int) + 1) + 1) r) := by
        intro o ho'
        subst ho'
        rw [w1 (by omega)]
        have := ih (p ++ [l]) K (out ++ [toS (blkOf l)]) (by rw [he]; simp) (by simp) (by simp; omega) (by omega)
        rw [List.length_append, List.length_singleton] at this
        rw [this]
        congr 2
      rcases List.eq_nil_or_concat out with hz | ⟨q, y, hy⟩
      · subst hz
        rw [if_neg (by simp), if_pos (show lastBefore [] (toS (blkOf l)) = true from rfl), if_pos (by simp)]
        exact next _ rfl
      · have hq : out.length = q.length + 1 := by rw [hy]; simp
        have hw : wrap64 ((out.length : Int) - 1) = (q.length : Int) := by rw [wr (by omega) (by omega)]; omega
        have hy' : rd_T46 out (q.length : Int) = y := by rw [hy, List.concat_eq_append]; exact last_read q y
        have hlb : lastBefore out (toS (blkOf l)) = beforeB y (toS (blkOf l)) := by unfold lastBefore; rw [hy]; simp
        have hsb := spec_before y (toS (blkOf l))
        rw [if_pos (by omega), hw, if_pos (by omega), if_pos (by omega), hy', hlb]
        rw [show spec_l29Before.f y.f0 y.f1 y.f2 (ofL (blkOf l).1) (ofL (blkOf l).2.1) (ofL (blkOf l).2.2.1) = some (beforeB y (toS (blkOf l))) from hsb]
        simp only [Option.bind_some]
        cases beforeB y (toS (blkOf l)) with
        | true =>
          rw [if_pos rfl, if_pos (by omega), if_pos rfl]
          exact next _ rfl
        | false =>
          rw [if_neg (by simp), if_neg (by simp), w1 (by omega)]
          rfl
    · rw [if_neg hc, if_neg hc, w1 (by omega)]
      rfl
theorem impl_lines_l0 (n : Int) (all : List (List UInt8)) (ha : ∀ z ∈ all, z.length ≤ 1048576) (hal : all.length ≤ 1048577) : ∀ (r p : List (List UInt8)) (K : Nat) (out : List S46), all = p ++ r → out.length = p.length → 2 * r.length + 10500002 < K →
    impl_LoadBlocks.l0 K n out (all.map ofL) (all.length : Int) (p.length : Int) = some (goL n out (p.length + 2) r) := by
  intro r
  induction r with
  | nil =>
    intro p K out he ho hk
    obtain ⟨K, rfl⟩ := succ_of (show 0 < K by omega)
    simp only [impl_LoadBlocks.l0]
    rw [if_neg (by rw [he]; simp)]
    unfold goL
    by_cases h : (out.length : Int) = n
    · rw [if_pos h, if_pos h]
    · rw [if_neg h, if_neg h]
  | cons l r ih =>
    intro p K out he ho hk
    obtain ⟨K, rfl⟩ := succ_of (show 0 < K by omega)
    have hlen : all.length = p.length + (r.length + 1) := by rw [he]; simp
    rw [List.length_cons] at hk
    simp only [impl_LoadBlocks.l0]
    have hrd : rdOf ByteArray.empty (all.map ofL) (p.length : Int) = ofL l := by rw [he]; exact at_row
    have hl := ha l (by rw [he]; simp)
    rw [if_pos (by omega), if_pos (by omega), if_pos (by rw [List.length_map]; omega), hrd, impl_block (ofL l) (by rw [ofL_size]; exact hl) K (by omega), L_ofL]
    simp only [Option.bind_some, toB]
    unfold goL
    have hln : wrap64 ((p.length : Int) + 2) = (p.length : Int) + 2 := wr (by omega) (by omega)
    by_cases hc : (blkOf l).2.2.2 = 0
    · rw [if_pos hc, if_pos hc, hc]
      obtain ⟨K, rfl⟩ := succ_of (show 0 < K by omega)
      have next : impl_LoadBlocks.j2 (K + 1) n out (p.length : Int) 0 (all.map ofL) (all.length : Int) (p.length : Int) false (ofL (blkOf l).1) (ofL (blkOf l).2.1) (ofL (blkOf l).2.2.1) = some (goL n (out ++ [toS (blkOf l)]) (((p.length : Int) + 2) + 1) r) := by
        simp only [impl_LoadBlocks.j2]
        rw [if_neg (by simp), if_pos trivial, if_pos (by omega), w1 (by omega)]
        have := ih (p ++ [l]) K (out ++ [toS (blkOf l)]) (by rw [he]; simp) (by simp; omega) (by omega)
        rw [List.length_append, List.length_singleton] at this
        refine this.trans ?_
        congr 2
      rcases List.eq_nil_or_concat out with hz | ⟨q, y, hy⟩
      · have hp0 : p.length = 0 := by rw [← ho, hz]; rfl
        rw [if_neg (by omega), next, hz, if_pos (show lastBefore [] (toS (blkOf l)) = true from rfl)]
      · have hq : out.length = q.length + 1 := by rw [hy]; simp
        have hw : wrap64 ((p.length : Int) - 1) = (q.length : Int) := by rw [wr (by omega) (by omega)]; omega
        have hy' : rd_T46 out (q.length : Int) = y := by rw [hy, List.concat_eq_append]; exact last_read q y
        have hlb : lastBefore out (toS (blkOf l)) = beforeB y (toS (blkOf l)) := by unfold lastBefore; rw [hy]; simp
        obtain ⟨t, ht, hd⟩ := impl_compare y (toS (blkOf l)) (K + 1) (by omega)
        rw [if_pos (by omega), hw, if_pos (by omega), if_pos (by omega), hy', hlb]
        rw [show impl_compareBlocks.f (K + 1) y.f0 y.f1 y.f2 (ofL (blkOf l).1) (ofL (blkOf l).2.1) (ofL (blkOf l).2.2.1) = some t from ht]
        simp only [Option.bind_some]
        rw [hd]
        cases beforeB y (toS (blkOf l)) with
        | true => exact next
        | false =>
          rw [if_neg (by simp)]
          simp only [impl_LoadBlocks.j2]
          rw [show (!false) = true from rfl, if_pos (show true = true from rfl), hln]
    · rw [if_neg hc, if_neg hc]
      obtain ⟨K, rfl⟩ := succ_of (show 0 < K by omega)
      simp only [impl_LoadBlocks.j2]
      rw [if_neg (by simp), if_neg hc, hln]

/-! ### the whole -/
def bodyOf (ls : List (List UInt8)) : Res :=
  match ls with
  | [] => ([], 0, 11)
  | h :: r => if (headOf h).2 = true then goL (headOf h).1 [] 2 r else ([], 1, 9)
def loadOf (l : List UInt8) : Res :=
  match l.getLast? with
  | some c => if c = 10 then bodyOf (split 10 l.dropLast) else ([], 0, 11)
  | none => ([], 0, 11)
theorem bodyOf_cons (h : List UInt8) (r : List (List UInt8)) : bodyOf (h :: r) = if (headOf h).2 = true then goL (headOf h).1 [] 2 r else ([], 1, 9) := rfl
theorem headOf_hit {h : List UInt8} (hp : h.take 8 = arc ++ [32]) : headOf h = ((numR (h.drop 8)).1, (numR (h.drop 8)).2 && (decide (0 ≤ (numR (h.drop 8)).1) && decide ((numR (h.drop 8)).1 ≤ 32))) := by
  unfold headOf
  rw [if_pos hp, numR_eq]
theorem headOf_miss {h : List UInt8} (hp : ¬ h.take 8 = arc ++ [32]) : headOf h = (0, false) := by
  unfold headOf
  rw [if_neg hp]
theorem spec_body (ls : List (List UInt8)) (ha : ∀ z ∈ ls, z.length ≤ 1048576) (hal : ls.length ≤ 1048577) (k : Nat) (hk : 12000000 < k) : spec_LoadBlocks.j0 k (ls.map ofL) (((ls.map ofL).length : Int) == 0) = some (bodyOf ls) := by
  obtain ⟨k, rfl⟩ := succ_of (show 0 < k by omega)
  simp only [spec_LoadBlocks.j0]
  cases ls with
  | nil => rfl
  | cons h r =>
    have hne : ((((h :: r).map ofL).length : Int) == 0) = false := by
      rw [beq_eq_false_iff_ne]
      simp
      try omega
    have h0 : rdOf ByteArray.empty ((h :: r).map ofL) 0 = ofL h := rfl
    have hh := ha h List.mem_cons_self
    rw [hne, if_neg (by simp), if_pos (by rw [List.length_map, List.length_cons]; omega), h0, spec_head (ofL h) (by rw [ofL_size]; exact hh) k (by omega), L_ofL]
    simp only [Option.bind_some]
    rw [bodyOf_cons]
    rw [List.length_cons] at hal
    cases (headOf h).2 with
    | false => rfl
    | true =>
      rw [if_pos rfl, if_pos rfl]
      exact spec_lines_l0 (headOf h).1 (h :: r) ha (by rw [List.length_cons]; exact hal) r [h] k [] rfl (by simp) rfl (by omega)
theorem spec_read (s : ByteArray) (hs : s.size ≤ 1048576) (k : Nat) (hk : 12000000 < k) : spec_LoadBlocks.f k s = some (loadOf (L s)) := by
  unfold spec_LoadBlocks.f loadOf
  have hz := L_size s
  have hbad : ∀ x, spec_LoadBlocks.j0 k x true = some (([] : List S46), 0, 11) := fun x => by
    obtain ⟨k, rfl⟩ := succ_of (show 0 < k by omega)
    simp only [spec_LoadBlocks.j0]
    rfl
  rcases List.eq_nil_or_concat (L s) with he | ⟨b, x, he⟩
  · rw [spec_lines s hs k (by omega) [] [] (by rw [he]; rfl), he]
    simp only [Option.bind_some]
    rw [if_pos (show ([] : List UInt8).isEmpty = true from rfl)]
    exact hbad _
  · rw [List.concat_eq_append] at he
    have hl : b.length + 1 = s.size := by rw [← hz, he]; simp
    have hg : (L s).getLast? = some x := by rw [he]; simp
    have hd : (L s).dropLast = b := by rw [he]; simp
    rw [hg, hd]
    simp only
    by_cases hx : x = 10
    · subst hx
      rw [spec_lines s hs k (by omega) (split 10 b) [] (by rw [he]; exact split_end_hit 10 b), if_pos rfl]
      simp only [Option.bind_some]
      rw [if_pos (show ([] : List UInt8).isEmpty = true from rfl)]
      have hc := split_count 10 b
      exact spec_body _ (fun z hz => Nat.le_trans (split_len 10 b z hz) (by omega)) (by omega) k hk
    · obtain ⟨q, p, e⟩ := split_end_miss hx b
      rw [spec_lines s hs k (by omega) q (p ++ [x]) (by rw [he]; exact e), if_neg hx]
      simp only [Option.bind_some]
      rw [show (p ++ [x]).isEmpty = false from by simp, if_neg (by simp)]
      exact hbad _
theorem impl_suffix (s : ByteArray) (hs : s.size ≤ 1048576) : strings_HasSuffix.f s ⟨#[10]⟩ = some (decide ((L s).getLast? = some 10)) ∧ ((L s).getLast? = some 10 → strings_TrimSuffix.f s ⟨#[10]⟩ = some (ofL (L s).dropLast)) := by
  have hz := L_size s
  have e1 : ((⟨#[10]⟩ : ByteArray).size : Int) = 1 := rfl
  have e2 : (⟨#[10]⟩ : ByteArray).toList = [10] := by rw [tl]; rfl
  unfold strings_TrimSuffix.f stringslite_TrimSuffix.f strings_HasSuffix.f stringslite_HasSuffix.f
  rcases List.eq_nil_or_concat (L s) with he | ⟨b, x, he⟩
  · have h0 : s.size = 0 := by rw [← hz, he]; rfl
    rw [e1, if_neg (by omega), he]
    exact ⟨rfl, fun h => by cases h⟩
  · rw [List.concat_eq_append] at he
    have hl : b.length + 1 = s.size := by rw [← hz, he]; simp
    have hg : (L s).getLast? = some x := by rw [he]; simp
    have hd : (L s).dropLast = b := by rw [he]; simp
    have hw : wrap64 ((s.size : Int) - 1) = (b.length : Int) := by rw [wr (by omega) (by omega)]; omega
    have hx : (s.extract b.length s.size).toList = [x] := by rw [tl, rest_ext, he]; simp
    have ht : s.extract 0 b.length = ofL b := by rw [ext_eq, he]; simp
    rw [e1, if_pos (by omega), hw, if_pos (by omega), if_pos (by omega), hg, hd, Int.toNat_natCast, hx, e2, ht]
    simp only [Option.bind_some]
    by_cases h : x = 10
    · subst h
      refine ⟨by simp, fun _ => ?_⟩
      rw [if_pos (by simp), if_pos (by omega), if_pos (by omega)]
      rfl
    · refine ⟨?_, fun hh => absurd (Option.some.inj hh) h⟩
      have : ([x] == ([10] : List UInt8)) = false := by simpa using h
      rw [this, decide_eq_false (fun hh => h (Option.some.inj hh))]
theorem impl_body (ls : List (List UInt8)) (ha : ∀ z ∈ ls, z.length ≤ 1048576) (hal : ls.length ≤ 1048577) (hne : ls ≠ []) (k : Nat) (hk : 13000000 < k) :
    (if 0 < ((ls.map ofL).length : Int) then ((strings_CutPrefix.f (rdOf ByteArray.empty (ls.map ofL) 0) (⟨#[97, 114, 99, 104, 105, 118, 101, 32]⟩ : ByteArray)).bind fun bt197 => ((impl_ReadDecimal.f bt197.1).bind fun bt199 => (if bt197.2 = true then (if bt199.2 = true then ((impl_within.f bt199.1 0 32).bind fun t201 => (impl_LoadBlocks.j0 k (ls.map ofL) bt199.1 (!t201))) else (impl_LoadBlocks.j0 k (ls.map ofL) bt199.1 true)) else (impl_LoadBlocks.j0 k (ls.map ofL) bt199.1 true)))) else (none)) = some (bodyOf ls) := by
  have hbad : ∀ x y, impl_LoadBlocks.j0 k x y true = some (([] : List S46), 1, 9) := fun x y => by
    obtain ⟨k, rfl⟩ := succ_of (show 0 < k by omega)
    simp only [impl_LoadBlocks.j0]
    rfl
  cases ls with
  | nil => exact absurd rfl hne
  | cons h r =>
    have h0 : rdOf ByteArray.empty ((h :: r).map ofL) 0 = ofL h := rfl
    have hh := ha h List.mem_cons_self
    have ep : (⟨#[97, 114, 99, 104, 105, 118, 101, 32]⟩ : ByteArray).size = 8 := rfl
    have ea : L (⟨#[97, 114, 99, 104, 105, 118, 101, 32]⟩ : ByteArray) = arc ++ [32] := rfl
    rw [if_pos (by rw [List.length_map, List.length_cons]; omega), h0, impl_cutPrefix (ofL h) _ (by rw [ofL_size]; exact hh) (by rw [ep]; omega), L_ofL, ep, ea]
    simp only [Option.bind_some]
    rw [bodyOf_cons]
    by_cases hp : h.take 8 = arc ++ [32]
    · rw [if_pos hp, headOf_hit hp]
      simp only
      rw [impl_num (ofL (h.drop 8)) (by rw [ofL_size, List.length_drop]; omega), L_ofL]
      simp only [Option.bind_some]
      cases hn : (numR (h.drop 8)).2 with
      | false =>
        simp only [Bool.false_and]
        rw [if_pos trivial, if_neg (by simp), if_neg (by simp)]
        exact hbad _ _
      | true =>
        simp only [Bool.true_and]
        rw [if_pos trivial, if_pos trivial, impl_in]
        simp only [Option.bind_some]
        cases decide (0 ≤ (numR (h.drop 8)).1) && decide ((numR (h.drop 8)).1 ≤ 32) with
        | false => exact hbad _ _
        | true =>
          obtain ⟨k, rfl⟩ := succ_of (show 0 < k by omega)
          simp only [impl_LoadBlocks.j0]
          rw [List.length_cons] at hal
          rw [if_neg (by simp), if_pos (by simp; omega), if_pos trivial]
          simp only [Option.bind_some]
          have hd : ((h :: r).map ofL).drop (1 : Int).toNat = r.map ofL := rfl
          rw [hd, List.length_map]
          exact impl_lines_l0 _ r (fun z hz => ha z (List.mem_cons_of_mem _ hz)) (by omega) r [] k [] rfl rfl (by omega)
    · rw [if_neg hp, headOf_miss hp]
      simp only
      rw [impl_num (ofL h) (by rw [ofL_size]; exact hh)]
      simp only [Option.bind_some]
      rw [if_neg (by simp), if_neg (by simp)]
      exact hbad _ _
theorem impl_read (s : ByteArray) (hs : s.size ≤ 1048576) (k : Nat) (hk : 13000000 < k) : impl_LoadBlocks.f k s = some (loadOf (L s)) := by
  unfold impl_LoadBlocks.f loadOf
  have hz := L_size s
  obtain ⟨h1, h2⟩ := impl_suffix s hs
  rw [h1]
  simp only [Option.bind_some]
  by_cases h : (L s).getLast? = some 10
  · rw [decide_eq_true h, if_pos rfl, h2 h, h]
    simp only [Option.bind_some]
    have hl : (L s).dropLast.length ≤ 1048576 := by rw [List.length_dropLast, hz]; omega
    rw [impl_split (ofL (L s).dropLast) 10 (by rw [ofL_size]; exact hl), L_ofL, if_pos trivial]
    simp only [Option.bind_some]
    have hc := split_count 10 (L s).dropLast
    exact impl_body _ (fun z hz => Nat.le_trans (split_len 10 _ z hz) hl) (by omega) (split_ne 10 _) k hk
  · rw [decide_eq_false h, if_neg (by simp)]
    cases hg : (L s).getLast? with
    | none => rfl
    | some c =>
      rw [hg] at h
      simp only
      rw [if_neg (fun e => h (by rw [e]))]
theorem goL_len (n : Int) : ∀ (r : List (List UInt8)) (out : List S46) (ln : Int), (goL n out ln r).1.length ≤ out.length + r.length := by
  intro r
  induction r with
  | nil =>
    intro out ln
    unfold goL
    split <;> simp
  | cons l r ih =>
    intro out ln
    unfold goL
    split
    · split
      · have := ih (out ++ [toS (blkOf l)]) (ln + 1)
        rw [List.length_append, List.length_singleton] at this
        rw [List.length_cons]
        omega
      · simp
    · simp
theorem loadOf_len (l : List UInt8) : (loadOf l).1.length ≤ l.length := by
  unfold loadOf
  split
  · split
    · rename_i c hc _
      unfold bodyOf
      split
      · simp
      · rename_i h r hr
        split
        · have h1 := goL_len (headOf h).1 r [] 2
          have h2 := split_count 10 l.dropLast
          rw [hr, List.length_cons, List.length_dropLast] at h2
          simp at h1
          omega
        · simp
    · simp
  · simp
theorem pure : laws_FnExactLoadBlocks.Pure := by
  intro s hs
  refine ⟨14000000, ?_⟩
  unfold laws_FnExactLoadBlocks.f
  by_cases h : (s.size : Int) > 1048576
  · rw [if_pos h]
  · rw [if_neg h, spec_read s (by omega) _ (by omega), impl_read s (by omega) _ (by omega)]
    have hp := loadOf_len (L s)
    rw [L_size] at hp
    have hread : ∀ k, 13000000 < k → impl_LoadBlocks.f k s = some (loadOf (L s)) := fun k hk => impl_read s (by omega) k hk
    generalize loadOf (L s) = p at hp hread
    obtain ⟨xs, n, c⟩ := p
    simp only at hp
    simp only [Option.bind_some]
    have hj1 : ∀ k, 13000000 < k → laws_FnExactLoadBlocks.j1 k (mkB 1 xs.length) (1 + 3 * (xs.length : Int)) false = some true := by
      intro k hk
      obtain ⟨k, rfl⟩ := succ_of (show 0 < k by omega)
      simp only [laws_FnExactLoadBlocks.j1]
      rw [if_neg (by simp), heldB xs.length (by omega) k (by omega)]
      simp only [Option.bind_some]
      rw [if_neg (by omega), if_pos trivial]
    rw [eqB xs (by omega) _ (by omega)]
    simp only [Option.bind_some, if_true]
    rw [bne_self_eq_false]
    simp only [laws_FnExactLoadBlocks.j0]
    rw [if_neg (by simp), markB xs (by omega) _ (by omega)]
    simp only [Option.bind_some]
    rw [heldB xs.length (by omega) _ (by omega)]
    simp only [Option.bind_some]
    rw [if_neg (by omega), if_pos trivial, hread _ (by omega)]
    simp only [Option.bind_some]
    rw [eqB xs (by omega) _ (by omega)]
    simp only [Option.bind_some, if_true]
    rw [bne_self_eq_false]
    exact hj1 _ (by omega)
end Go.Proofs.YtimgebbbonfopaaGreatDoor.QFnExactLoadBlocks
