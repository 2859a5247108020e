/- SalvageBlocks of the program and of the reference come to the same blocks, at every text of at most 2^20 bytes. -/
import Derived.Test.YtimgebbbonfopaaDoorBlkFnExactSalvageBlocks
import Derived.Test.YtimgebbbonfopaaDoorQFnExactSalvageBlocks1
import Derived.Test.YtimgebbbonfopaaDoorQFnExactSalvageBlocks10
import Derived.Test.YtimgebbbonfopaaDoorQFnExactSalvageBlocks13
import Derived.Test.YtimgebbbonfopaaDoorQFnExactSalvageBlocks4
import Derived.Test.YtimgebbbonfopaaDoorQFnExactSalvageBlocks5
import Derived.Test.YtimgebbbonfopaaDoorQFnExactSalvageBlocks8
import Derived.Test.YtimgebbbonfopaaDoorQFnExactSalvageBlocks9
namespace Go.Proofs.YtimgebbbonfopaaDoor.QFnExactSalvageBlocks
open Go.RowKit Go.Proofs.YtimgebbbonfopaaDoorW.PrintWords Go.Proofs.YtimgebbbonfopaaDoorW.PrintLast Go.Proofs.YtimgebbbonfopaaDoorW.PrintMore Go.Proofs.YtimgebbbonfopaaDoor.Plain
set_option linter.unusedVariables false
set_option linter.unusedSimpArgs false

/-! ### the order of texts -/
theorem u8_lt (a b : UInt8) : decide (a < b) = decide (a.toNat < b.toNat) := decide_eq_decide.2 UInt8.lt_iff_toNat_lt
theorem u8_eq (a b : UInt8) : (a == b) = decide (a.toNat = b.toNat) := by
  rw [Bool.eq_iff_iff, beq_iff_eq, decide_eq_true_eq]
  exact ⟨fun h => by rw [h], fun h => UInt8.toNat_inj.1 h⟩
theorem less_nil (a : List UInt8) : Op.bytesLess a [] = false := by cases a <;> rfl
theorem less_cons (a b : UInt8) (x y : List UInt8) : Op.bytesLess (a :: x) (b :: y) = true ↔ a.toNat < b.toNat ∨ a.toNat = b.toNat ∧ Op.bytesLess x y = true := by
  show (decide (a < b) || (a == b && Op.bytesLess x y)) = true ↔ _
  rw [u8_lt, u8_eq, Bool.or_eq_true, Bool.and_eq_true, decide_eq_true_eq, decide_eq_true_eq]
theorem less_irrefl : ∀ a, ¬ Op.bytesLess a a = true
  | [], h => by cases h
  | a :: x, h => by
    rcases (less_cons a a x x).1 h with h | ⟨_, h⟩
    · omega
    · exact less_irrefl x h
theorem less_trans : ∀ a b c, Op.bytesLess a b = true → Op.bytesLess b c = true → Op.bytesLess a c = true
  | a, [], _, h, _ => by rw [less_nil] at h; cases h
  | _, b :: y, [], _, h => by rw [less_nil] at h; cases h
  | [], _ :: _, _ :: _, _, _ => rfl
  | a :: x, b :: y, c :: z, h1, h2 => by
    rw [less_cons] at h1 h2 ⊢
    rcases h1 with h1 | ⟨h1, g1⟩
    · rcases h2 with h2 | ⟨h2, g2⟩
      · exact .inl (by omega)
      · exact .inl (by omega)
    · rcases h2 with h2 | ⟨h2, g2⟩
      · exact .inl (by omega)
      · exact .inr ⟨by omega, less_trans x y z g1 g2⟩
theorem less_total : ∀ a b, ¬ Op.bytesLess a b = true → ¬ Op.bytesLess b a = true → a = b
  | [], [], _, _ => rfl
  | [], _ :: _, h, _ => absurd rfl h
  | _ :: _, [], _, h => absurd rfl h
  | a :: x, b :: y, h1, h2 => by
    rw [less_cons] at h1 h2
    have e : a.toNat = b.toNat := by omega
    rw [UInt8.toNat_inj.1 e, less_total x y (fun h => h1 (.inr ⟨e, h⟩)) (fun h => h2 (.inr ⟨e.symm, h⟩))]

/-! ### the order of blocks -/
def sameB (y x : S47) : Bool := decide (y.f0.toList = x.f0.toList) && decide (y.f1.toList = x.f1.toList)
theorem before_iff (a b : S47) : beforeB a b = true ↔ Op.bytesLess a.f0.toList b.f0.toList = true ∨ a.f0.toList = b.f0.toList ∧ Op.bytesLess a.f1.toList b.f1.toList = true := by
  unfold beforeB
  rw [Bool.or_eq_true, Bool.and_eq_true, decide_eq_true_eq]
theorem same_iff (a b : S47) : sameB a b = true ↔ a.f0.toList = b.f0.toList ∧ a.f1.toList = b.f1.toList := by
  unfold sameB
  rw [Bool.and_eq_true, decide_eq_true_eq, decide_eq_true_eq]
theorem before_trans {a b c : S47} (h1 : beforeB a b = true) (h2 : beforeB b c = true) : beforeB a c = true := by
  rw [before_iff] at h1 h2 ⊢
  rcases h1 with h1 | ⟨e1, h1⟩
  · rcases h2 with h2 | ⟨e2, h2⟩
    · exact .inl (less_trans _ _ _ h1 h2)
    · exact .inl (by rw [← e2]; exact h1)
  · rcases h2 with h2 | ⟨e2, h2⟩
    · exact .inl (by rw [e1]; exact h2)
    · exact .inr ⟨e1.trans e2, less_trans _ _ _ h1 h2⟩
theorem before_not_same {y x : S47} (h : beforeB y x = true) : sameB y x = false := by
  rw [Bool.eq_false_iff]
  intro hs
  rw [before_iff] at h
  rw [same_iff] at hs
  rw [hs.1, hs.2] at h
  rcases h with h | ⟨_, h⟩
  · exact less_irrefl _ h
  · exact less_irrefl _ h
theorem before_same {y z x : S47} (h : beforeB y z = true) (hs : sameB z x = true) : beforeB y x = true := by
  rw [before_iff] at h ⊢
  rw [same_iff] at hs
  rw [← hs.1, ← hs.2]
  exact h
theorem before_total {y x : S47} (h : ¬ beforeB y x = true) (hs : ¬ sameB y x = true) : beforeB x y = true := by
  rw [before_iff] at h ⊢
  rw [same_iff] at hs
  by_cases e : y.f0.toList = x.f0.toList
  · refine .inr ⟨e.symm, ?_⟩
    by_cases g : Op.bytesLess x.f1.toList y.f1.toList = true
    · exact g
    · exact absurd ⟨e, less_total _ _ (fun h' => h (.inr ⟨e, h'⟩)) g⟩ hs
  · refine .inl ?_
    by_cases g : Op.bytesLess x.f0.toList y.f0.toList = true
    · exact g
    · exact absurd (less_total _ _ (fun h' => h (.inl h')) g) e
theorem cmpS_lt (a b : ByteArray) : cmpS a b < 0 ↔ Op.bytesLess a.toList b.toList = true := by
  unfold cmpS
  by_cases h : Op.bytesLess a.toList b.toList = true
  · rw [if_pos h]
    exact ⟨fun _ => h, fun _ => by omega⟩
  · rw [if_neg h]
    refine ⟨fun h' => ?_, fun h' => absurd h' h⟩
    split at h' <;> omega
theorem cmpS_eq (a b : ByteArray) : cmpS a b = 0 ↔ a.toList = b.toList := by
  unfold cmpS
  by_cases h : Op.bytesLess a.toList b.toList = true
  · rw [if_pos h]
    refine ⟨fun h' => by omega, fun h' => ?_⟩
    rw [h'] at h
    exact absurd h (less_irrefl _)
  · rw [if_neg h]
    by_cases e : a.toList = b.toList
    · rw [if_pos e]
      exact ⟨fun _ => e, fun _ => rfl⟩
    · rw [if_neg e]
      exact ⟨fun h' => by omega, fun h' => absurd h' e⟩
theorem ltV_eq (x y : S47) : ltV x y = beforeB y x := by
  rw [Bool.eq_iff_iff, before_iff]
  unfold ltV cmpV
  rw [decide_eq_true_eq]
  by_cases e : cmpS y.f0 x.f0 = 0
  · rw [if_pos e, cmpS_lt]
    have e' := (cmpS_eq _ _).1 e
    refine ⟨fun h => .inr ⟨e', h⟩, fun h => ?_⟩
    rcases h with h | ⟨_, h⟩
    · rw [e'] at h
      exact absurd h (less_irrefl _)
    · exact h
  · rw [if_neg e, cmpS_lt]
    refine ⟨.inl, fun h => ?_⟩
    rcases h with h | ⟨h, _⟩
    · exact h
    · exact absurd ((cmpS_eq _ _).2 h) e
theorem cmpV_eq (y x : S47) : cmpV y x = 0 ↔ sameB y x = true := by
  rw [same_iff]
  unfold cmpV
  by_cases e : cmpS y.f0 x.f0 = 0
  · rw [if_pos e, cmpS_eq]
    exact ⟨fun h => ⟨(cmpS_eq _ _).1 e, h⟩, fun h => h.2⟩
  · rw [if_neg e]
    exact ⟨fun h => absurd h e, fun h => absurd ((cmpS_eq _ _).2 h.1) e⟩

/-! ### a block put into a row -/
def putF (l : List S47) (x : S47) : List S47 := l.takeWhile (ltV x) ++ [x] ++ (l.dropWhile (ltV x)).filter fun y => !sameB y x
def okB (x : S47) : Bool := validB (L x.f0) (L x.f1) (L x.f2)
def Inv (l : List S47) : Prop := l.length ≤ 32 ∧ (∀ y ∈ l, okB y = true) ∧ l.Pairwise fun a b => beforeB a b = true
theorem inv_nil : Inv [] := ⟨by simp, (fun y hy => by cases hy), List.Pairwise.nil⟩
theorem drop_after {l : List S47} {x : S47} (hp : l.Pairwise fun a b => beforeB a b = true) :
    (l.dropWhile (ltV x)) = [] ∨ ∃ y r, l.dropWhile (ltV x) = y :: r ∧ ltV x y = false ∧ ∀ z ∈ r, ltV x z = false ∧ sameB z x = false := by
  cases hd : l.dropWhile (ltV x) with
  | nil => exact .inl rfl
  | cons y r =>
    refine .inr ⟨y, r, rfl, ?_, ?_⟩
    · have h := List.head_dropWhile_not (ltV x) (l := l) (by rw [hd]; simp)
      simpa [hd] using h
    · have hy : ltV x y = false := by
        have h := List.head_dropWhile_not (ltV x) (l := l) (by rw [hd]; simp)
        simpa [hd] using h
      have hs : (y :: r).Pairwise fun a b => beforeB a b = true := hd ▸ hp.sublist (List.dropWhile_sublist _)
      intro z hz
      have hyz := (List.pairwise_cons.1 hs).1 z hz
      rw [ltV_eq] at hy ⊢
      constructor
      · rw [Bool.eq_false_iff]
        intro h
        rw [before_trans hyz h] at hy
        cases hy
      · rw [Bool.eq_false_iff]
        intro h
        rw [before_same hyz h] at hy
        cases hy
theorem parted_ok {l : List S47} {x : S47} (hp : l.Pairwise fun a b => beforeB a b = true) : partedV l x = true := by
  unfold partedV
  rcases drop_after (x := x) hp with h | ⟨y, r, h, hy, hr⟩
  · rw [h]
    rfl
  · rw [h, List.all_eq_true]
    intro z hz
    rcases List.mem_cons.1 hz with rfl | hz
    · rw [hy]
      rfl
    · rw [(hr z hz).1]
      rfl
theorem filter_all {r : List S47} {x : S47} (h : ∀ z ∈ r, sameB z x = false) : (r.filter fun y => !sameB y x) = r := by
  rw [List.filter_eq_self]
  intro z hz
  rw [h z hz]
  rfl
theorem outV_eq {l : List S47} {x : S47} (hp : l.Pairwise fun a b => beforeB a b = true) : outV l x = putF l x := by
  have e := List.takeWhile_append_dropWhile (p := ltV x) (l := l)
  have hc : cntV l x = (l.takeWhile (ltV x)).length := rfl
  have ht : l.take (cntV l x) = l.takeWhile (ltV x) := by
    have h := List.take_left (l₁ := l.takeWhile (ltV x)) (l₂ := l.dropWhile (ltV x))
    rw [e] at h
    exact h
  have hd : l.drop (cntV l x) = l.dropWhile (ltV x) := by
    have h := List.drop_left (l₁ := l.takeWhile (ltV x)) (l₂ := l.dropWhile (ltV x))
    rw [e] at h
    exact h
  unfold outV putF
  rcases drop_after (x := x) hp with h | ⟨y, r, h, hy, hr⟩
  · have hl : ¬ cntV l x < l.length := by
      have := congrArg List.length hd
      rw [h, List.length_drop] at this
      simp at this
      omega
    rw [if_neg (fun hh => hl hh.1), ht, hd, h]
    rfl
  · have hg : l[cntV l x]? = some y := by rw [← List.head?_drop, hd, h]; rfl
    have hl : cntV l x < l.length := by
      rcases Nat.lt_or_ge (cntV l x) l.length with h' | h'
      · exact h'
      · rw [List.getElem?_eq_none h'] at hg; cases hg
    rw [rdT_get hg, h]
    have hf := filter_all (x := x) (r := r) (fun z hz => (hr z hz).2)
    by_cases hs : sameB y x = true
    · rw [if_pos ⟨hl, (cmpV_eq y x).2 hs⟩, List.filter_cons_of_neg (by rw [hs]; simp), hf]
      have e2 : l.takeWhile (ltV x) ++ y :: r = l := by rw [← h, e]
      have h3 : (l.takeWhile (ltV x) ++ y :: r).set (l.takeWhile (ltV x)).length x = l.takeWhile (ltV x) ++ x :: r := by
        rw [List.set_append_right _ _ (Nat.le_refl _), Nat.sub_self]
        rfl
      rw [e2] at h3
      rw [hc, h3]
      simp
    · rw [if_neg (fun hh => hs ((cmpV_eq y x).1 hh.2)), ht, hd, h, List.filter_cons_of_pos (by rw [Bool.eq_false_iff.2 hs]; rfl), hf]
theorem putF_mem {l : List S47} {x z : S47} (h : z ∈ putF l x) : z = x ∨ z ∈ l := by
  unfold putF at h
  rw [List.mem_append, List.mem_append] at h
  rcases h with (h | h) | h
  · exact .inr (List.takeWhile_sublist _ |>.subset h)
  · exact .inl (by simpa using h)
  · exact .inr ((List.dropWhile_sublist _).subset (List.mem_filter.1 h).1)
theorem take_before {l : List S47} {x a : S47} (h : a ∈ l.takeWhile (ltV x)) : beforeB a x = true := by
  have hm := List.all_takeWhile (p := ltV x) (l := l)
  rw [List.all_eq_true] at hm
  rw [← ltV_eq]
  exact hm a h
theorem putF_inv {l : List S47} {x : S47} (hI : Inv l) (hx : okB x = true) (hl : (putF l x).length ≤ 32) : Inv (putF l x) := by
  obtain ⟨_, hv, hp⟩ := hI
  refine ⟨hl, fun y hy => ?_, ?_⟩
  · rcases putF_mem hy with rfl | hy
    · exact hx
    · exact hv y hy
  · unfold putF
    have e := List.takeWhile_append_dropWhile (p := ltV x) (l := l)
    have hpe := hp
    rw [← e, List.pairwise_append] at hpe
    obtain ⟨h1, h2, h3⟩ := hpe
    have hafter : ∀ b ∈ (l.dropWhile (ltV x)).filter (fun y => !sameB y x), beforeB x b = true := by
      intro b hb
      obtain ⟨hb1, hb2⟩ := List.mem_filter.1 hb
      have hns : ¬ sameB b x = true := by
        intro hs
        rw [hs] at hb2
        simp at hb2
      refine before_total ?_ hns
      rw [← ltV_eq]
      rcases drop_after (x := x) hp with h | ⟨y, r, h, hy, hr⟩
      · rw [h] at hb1; cases hb1
      · rw [h] at hb1
        rcases List.mem_cons.1 hb1 with rfl | hz
        · rw [hy]; simp
        · rw [(hr b hz).1]; simp
    rw [List.append_assoc, List.pairwise_append]
    refine ⟨h1, ?_, ?_⟩
    · rw [List.singleton_append, List.pairwise_cons]
      exact ⟨hafter, h2.filter _⟩
    · intro a ha b hb
      rw [List.singleton_append] at hb
      rcases List.mem_cons.1 hb with rfl | hb
      · exact take_before ha
      · exact h3 a ha b (List.mem_filter.1 hb).1

/-! ### the reference's own putting -/
theorem same_test (y x : S47) {α : Type} (p q : α) : (if y.f0.toList = x.f0.toList then (if y.f1.toList = x.f1.toList then p else q) else q) = if sameB y x = true then p else q := by
  by_cases h0 : y.f0.toList = x.f0.toList
  · by_cases h1 : y.f1.toList = x.f1.toList
    · rw [if_pos h0, if_pos h1, if_pos ((same_iff _ _).2 ⟨h0, h1⟩)]
    · rw [if_pos h0, if_neg h1, if_neg (fun h => h1 ((same_iff _ _).1 h).2)]
  · rw [if_neg h0, if_neg (fun h => h0 ((same_iff _ _).1 h).1)]
theorem put_done (x : S47) : ∀ (r p out : List S47) (K : Nat), p.length + r.length ≤ 1000000 → out.length + r.length ≤ 1000000 → 2 * r.length < K →
    spec_l29Put.l0 K (p ++ r) out true (p.length : Int) x.f0 x.f1 x.f2 = some (out ++ r.filter fun y => !sameB y x) := by
  intro r
  induction r with
  | nil =>
    intro p out K h1 h2 hk
    obtain ⟨K, rfl⟩ := succ_of (show 0 < K by omega)
    simp only [spec_l29Put.l0]
    rw [if_neg (by simp), if_pos trivial]
    simp
  | cons y r ih =>
    intro p out K h1 h2 hk
    rw [List.length_cons] at h1 h2 hk
    obtain ⟨K, rfl⟩ := succ_of (show 0 < K by omega)
    obtain ⟨K, rfl⟩ := succ_of (show 0 < K by omega)
    simp only [spec_l29Put.l0, spec_l29Put.j1, rdT_at]
    rw [if_pos (by simp; omega), if_pos trivial, if_neg (by simp), if_pos (by omega), if_pos (by simp; omega), same_test y x, w1 (by omega)]
    have hn : ((p.length + 1 : Nat) : Int) = ((p ++ [y]).length : Int) := by simp
    rw [snocT, hn]
    cases hs : sameB y x with
    | true =>
      rw [if_pos rfl, ih (p ++ [y]) out K (by rw [List.length_append, List.length_singleton]; omega) (by omega) (by omega), List.filter_cons_of_neg (by rw [hs]; simp)]
    | false =>
      rw [if_neg (by simp), if_pos (by omega), ih (p ++ [y]) (out ++ [(⟨y.f0, y.f1, y.f2⟩ : S47)]) K (by rw [List.length_append, List.length_singleton]; omega) (by rw [List.length_append, List.length_singleton]; omega) (by omega), List.filter_cons_of_pos (by rw [hs]; rfl)]
      simp
theorem put_open (x : S47) : ∀ (r p out : List S47) (K : Nat), p.length + r.length ≤ 1000000 → out.length + r.length + 1 ≤ 1000000 → 2 * r.length < K →
    spec_l29Put.l0 K (p ++ r) out false (p.length : Int) x.f0 x.f1 x.f2 = some (out ++ putF r x) := by
  intro r
  induction r with
  | nil =>
    intro p out K h1 h2 hk
    obtain ⟨K, rfl⟩ := succ_of (show 0 < K by omega)
    simp only [spec_l29Put.l0]
    rw [if_neg (by simp), if_neg (by simp), if_pos (by simp at h2; omega)]
    rfl
  | cons y r ih =>
    intro p out K h1 h2 hk
    rw [List.length_cons] at h1 h2 hk
    obtain ⟨K, rfl⟩ := succ_of (show 0 < K by omega)
    obtain ⟨K, rfl⟩ := succ_of (show 0 < K by omega)
    have hb := spec_before y x
    simp only [spec_l29Put.l0, spec_l29Put.j1, rdT_at]
    rw [if_pos (by simp; omega), if_neg (by simp), if_pos (by omega), hb]
    simp only [Option.bind_some]
    have hn : ((p.length + 1 : Nat) : Int) = ((p ++ [y]).length : Int) := by simp
    unfold putF
    rw [List.takeWhile_cons, List.dropWhile_cons, ltV_eq]
    cases hy : beforeB y x with
    | true =>
      rw [if_neg (by simp), if_pos (by omega), if_pos (by simp; omega), same_test y x, before_not_same hy, if_neg (by simp), if_pos (by omega), w1 (by omega), snocT, hn]
      rw [ih (p ++ [y]) (out ++ [(⟨y.f0, y.f1, y.f2⟩ : S47)]) K (by rw [List.length_append, List.length_singleton]; omega) (by rw [List.length_append, List.length_singleton]; omega) (by omega)]
      unfold putF
      simp
    | false =>
      rw [if_pos (by simp), if_pos (by omega)]
      try simp only [Option.bind_some]
      rw [if_pos (by omega), if_pos (by simp; omega), same_test y x, w1 (by omega), snocT, hn]
      cases hs : sameB y x with
      | true =>
        rw [if_pos rfl, put_done x r (p ++ [y]) _ K (by rw [List.length_append, List.length_singleton]; omega) (by rw [List.length_append, List.length_singleton]; omega) (by omega)]
        simp [hs]
      | false =>
        rw [if_neg (by simp), if_pos (by rw [List.length_append, List.length_singleton]; omega), put_done x r (p ++ [y]) _ K (by rw [List.length_append, List.length_singleton]; omega) (by simp only [List.length_append, List.length_singleton]; omega) (by omega)]
        simp [hs]
theorem spec_put (l : List S47) (x : S47) (hl : l.length ≤ 32) (k : Nat) (hk : 100 < k) : spec_l29Put.f k l x.f0 x.f1 x.f2 = some (putF l x) := by
  unfold spec_l29Put.f
  have := put_open x l [] [] k (by simp; omega) (by simp; omega) (by omega)
  simpa using this

/-! ### the program's own putting -/
theorem name_len {l : List UInt8} (h : nameB l = true) : l.length ≤ 10 := by
  unfold nameB at h
  simp only [Bool.and_eq_true, decide_eq_true_eq] at h
  omega
theorem okB_sizes {x : S47} (h : okB x = true) : x.f0.size ≤ 1048576 ∧ x.f1.size ≤ 1048576 ∧ x.f2.size ≤ 1048576 := by
  unfold okB validB at h
  simp only [Bool.and_eq_true, decide_eq_true_eq] at h
  have h0 := name_len h.1
  have h1 := name_len h.2.1
  have h2 := h.2.2.1
  rw [L_size] at h0 h1 h2
  omega
theorem impl_okB (x : S47) (h : okB x = true) (k : Nat) (hk : 1048600 < k) : impl_ValidBlock.f k x.f0 x.f1 x.f2 = some true := by
  obtain ⟨h0, h1, h2⟩ := okB_sizes h
  rw [impl_validB _ _ _ h0 h1 h2 k hk]
  exact congrArg some h
theorem valid_l0 (all : List S47) (hI : Inv all) : ∀ (r p : List S47) (K : Nat), all = p ++ r → r.length + 1048700 < K → impl_ValidBlocks.l0 K all all (all.length : Int) (p.length : Int) = some true := by
  obtain ⟨hl, hv, hp⟩ := hI
  intro r
  induction r with
  | nil =>
    intro p K he hk
    obtain ⟨K, rfl⟩ := succ_of (show 0 < K by omega)
    simp only [impl_ValidBlocks.l0]
    rw [if_neg (by rw [he]; simp)]
  | cons y r ih =>
    intro p K he hk
    rw [List.length_cons] at hk
    obtain ⟨K, rfl⟩ := succ_of (show 0 < K by omega)
    have hlen : all.length = p.length + (r.length + 1) := by rw [he]; simp
    have hrd : rd_T47 all (p.length : Int) = y := by rw [he]; exact rdT_at
    simp only [impl_ValidBlocks.l0]
    rw [if_pos (by omega), if_pos (by omega), if_pos (by omega), hrd, impl_okB y (hv y (by rw [he]; simp)) K (by omega)]
    simp only [Option.bind_some]
    rw [if_pos trivial, w1 (by omega)]
    have next : impl_ValidBlocks.l0 K all all (all.length : Int) ((p.length + 1 : Nat) : Int) = some true := by
      have := ih (p ++ [y]) K (by rw [he]; simp) (by omega)
      rwa [List.length_append, List.length_singleton] at this
    rcases List.eq_nil_or_concat p with hz | ⟨q, z, hq⟩
    · rw [if_neg (by rw [hz]; simp), next]
    · rw [List.concat_eq_append] at hq
      have hql : p.length = q.length + 1 := by rw [hq]; simp
      have hw : wrap64 ((p.length : Int) - 1) = (q.length : Int) := by rw [wr (by omega) (by omega)]; omega
      have hrz : rd_T47 all (q.length : Int) = z := by rw [he, hq, List.append_assoc]; exact rdT_at
      have hzy : beforeB z y = true := by
        rw [he, hq, List.append_assoc, List.singleton_append, List.pairwise_append] at hp
        exact (List.pairwise_cons.1 hp.2.1).1 y (by simp)
      obtain ⟨t, ht, hd⟩ := impl_compare z y K (by omega)
      rw [if_pos (by omega), hw, if_pos (by omega), if_pos (by omega), hrz, ht]
      simp only [Option.bind_some]
      rw [hzy] at hd
      rw [if_neg (by simpa using hd), next]
theorem impl_valids (l : List S47) (hI : Inv l) (k : Nat) (hk : 1048800 < k) : impl_ValidBlocks.f k l = some true := by
  have hl := hI.1
  unfold impl_ValidBlocks.f
  rw [if_neg (by omega)]
  exact valid_l0 l hI l [] k rfl (by omega)
theorem impl_put (l : List S47) (x : S47) (hI : Inv l) (hx : okB x = true) (k : Nat) (hk : 1048900 < k) : impl_PutBlock.f k l x.f0 x.f1 x.f2 = some (if ((putF l x).length : Int) > 32 then ([], 5) else (putF l x, 0)) := by
  have hl := hI.1
  unfold impl_PutBlock.f
  rw [impl_valids l hI k (by omega)]
  simp only [Option.bind_some]
  rw [if_pos trivial, impl_okB x hx k (by omega)]
  simp only [Option.bind_some]
  obtain ⟨k, rfl⟩ := succ_of (show 0 < k by omega)
  simp only [impl_PutBlock.j0]
  have hwb : impl_withBlock.f l x.f0 x.f1 x.f2 = some (putF l x) := by
    unfold impl_withBlock.f
    rw [if_pos ⟨by omega, parted_ok hI.2.2⟩]
    exact congrArg some (outV_eq hI.2.2)
  rw [if_neg (by simp), hwb]
  simp only [Option.bind_some]
  split <;> rfl

/-! ### the lines -/
def toS (b : Bl) : S47 := ⟨ofL b.1, ofL b.2.1, ofL b.2.2.1⟩
theorem blk_ok {l : List UInt8} (h : (blkOf l).2.2.2 = 0) : okB (toS (blkOf l)) = true := by
  unfold okB toS
  simp only [L_ofL]
  unfold blkOf at h ⊢
  split at h
  · cases h
  · rename_i c r hd
    by_cases hc : c = 32
    · rw [if_pos hc] at h ⊢
      by_cases hq : l.take 5 = check r
      · rw [if_pos hq] at h ⊢
        unfold blkRest twoOf at h ⊢
        split at h
        · rename_i hv
          rw [if_pos hv]
          rw [Bool.and_eq_true] at hv
          exact hv.2
        · cases h
      · rw [if_neg hq] at h
        cases h
    · rw [if_neg hc] at h
      cases h
def salG : List S47 → List (List UInt8) → List S47
  | out, [] => out
  | out, l :: r => if (blkOf l).2.2.2 = 0 then (if ((putF out (toS (blkOf l))).length : Int) ≤ 32 then salG (putF out (toS (blkOf l))) r else salG out r) else salG out r
theorem salG_inv : ∀ (r : List (List UInt8)) (out : List S47), Inv out → Inv (salG out r)
  | [], out, h => h
  | l :: r, out, h => by
    unfold salG
    split
    · rename_i hc
      split
      · rename_i hl
        exact salG_inv r _ (putF_inv h (blk_ok hc) (by omega))
      · exact salG_inv r out h
    · exact salG_inv r out h
theorem at_row {l : List UInt8} {p r : List (List UInt8)} {o : ByteArray} : rdOf o ((p ++ l :: r).map ofL) (p.length : Int) = ofL l := by
  unfold rdOf
  rw [Int.toNat_natCast, List.getD_eq_getElem?_getD, List.map_append, List.getElem?_append_right (by simp)]
  simp
theorem spec_sal_l0 (all : List (List UInt8)) (ha : ∀ z ∈ all, z.length ≤ 1048576) (hal : all.length ≤ 1048577) : ∀ (r p : List (List UInt8)) (K : Nat) (out : List S47), all = p ++ r → Inv out → r.length + 10500002 < K →
    spec_SalvageBlocks.l0 K (all.map ofL) out (p.length : Int) = some (salG out r) := by
  intro r
  induction r with
  | nil =>
    intro p K out he hI hk
    obtain ⟨K, rfl⟩ := succ_of (show 0 < K by omega)
    simp only [spec_SalvageBlocks.l0]
    rw [if_neg (by rw [he]; simp)]
    rfl
  | cons l r ih =>
    intro p K out he hI hk
    obtain ⟨K, rfl⟩ := succ_of (show 0 < K by omega)
    have hlen : all.length = p.length + (r.length + 1) := by rw [he]; simp
    rw [List.length_cons] at hk
    have hrd : rdOf ByteArray.empty (all.map ofL) (p.length : Int) = ofL l := by rw [he]; exact at_row
    have hl := ha l (by rw [he]; simp)
    have next : ∀ o, Inv o → spec_SalvageBlocks.l0 K (all.map ofL) o (wrap64 ((p.length : Int) + 1)) = some (salG o r) := by
      intro o ho
      rw [w1 (by omega)]
      have := ih (p ++ [l]) K o (by rw [he]; simp) ho (by omega)
      rwa [List.length_append, List.length_singleton] at this
    simp only [spec_SalvageBlocks.l0]
    rw [if_pos (by rw [List.length_map]; omega), if_pos (by omega), hrd, spec_block (ofL l) (by rw [ofL_size]; exact hl) K (by omega), L_ofL]
    simp only [Option.bind_some, toB]
    unfold salG
    by_cases hc : (blkOf l).2.2.2 = 0
    · rw [if_pos hc, if_pos hc]
      have hp : spec_l29Put.f K out (ofL (blkOf l).1) (ofL (blkOf l).2.1) (ofL (blkOf l).2.2.1) = some (putF out (toS (blkOf l))) := spec_put out (toS (blkOf l)) hI.1 K (by omega)
      rw [hp]
      simp only [Option.bind_some]
      by_cases h32 : ((putF out (toS (blkOf l))).length : Int) ≤ 32
      · rw [if_pos h32, if_pos h32]
        exact next _ (putF_inv hI (blk_ok hc) (by omega))
      · rw [if_neg h32, if_neg h32]
        exact next _ hI
    · rw [if_neg hc, if_neg hc]
      exact next _ hI
theorem impl_sal_l0 (all : List (List UInt8)) (ha : ∀ z ∈ all, z.length ≤ 1048576) (hal : all.length ≤ 1048577) : ∀ (r p : List (List UInt8)) (K : Nat) (out : List S47), all = p ++ r → 1 ≤ p.length → Inv out → 2 * r.length + 10500002 < K →
    impl_SalvageBlocks.l0 K out (all.map ofL) (all.length : Int) (p.length : Int) = some (salG out r) := by
  intro r
  induction r with
  | nil =>
    intro p K out he hp hI hk
    obtain ⟨K, rfl⟩ := succ_of (show 0 < K by omega)
    simp only [impl_SalvageBlocks.l0]
    rw [if_neg (by rw [he]; simp)]
    rfl
  | cons l r ih =>
    intro p K out he hp hI hk
    obtain ⟨K, rfl⟩ := succ_of (show 0 < K by omega)
    have hlen : all.length = p.length + (r.length + 1) := by rw [he]; simp
    rw [List.length_cons] at hk
    have hrd : rdOf ByteArray.empty (all.map ofL) (p.length : Int) = ofL l := by rw [he]; exact at_row
    have hl := ha l (by rw [he]; simp)
    simp only [impl_SalvageBlocks.l0]
    rw [if_pos (by omega), if_pos (by omega), if_pos (by rw [List.length_map]; omega), hrd, impl_block (ofL l) (by rw [ofL_size]; exact hl) K (by omega), L_ofL]
    simp only [Option.bind_some, toB]
    rw [if_neg (by omega)]
    obtain ⟨K, rfl⟩ := succ_of (show 0 < K by omega)
    have next : ∀ o, Inv o → impl_SalvageBlocks.l0 K o (all.map ofL) (all.length : Int) (wrap64 ((p.length : Int) + 1)) = some (salG o r) := by
      intro o ho
      rw [w1 (by omega)]
      have := ih (p ++ [l]) K o (by rw [he]; simp) (by simp) ho (by omega)
      rwa [List.length_append, List.length_singleton] at this
    simp only [impl_SalvageBlocks.j1]
    unfold salG
    by_cases hc : (blkOf l).2.2.2 = 0
    · have hb : ((blkOf l).2.2.2 != 0) = false := by rw [hc]; rfl
      have hpt : impl_PutBlock.f K out (ofL (blkOf l).1) (ofL (blkOf l).2.1) (ofL (blkOf l).2.2.1) = some (if ((putF out (toS (blkOf l))).length : Int) > 32 then ([], 5) else (putF out (toS (blkOf l)), 0)) := impl_put out (toS (blkOf l)) hI (blk_ok hc) K (by omega)
      rw [hb, if_neg (by simp), if_pos hc, hpt]
      simp only [Option.bind_some]
      by_cases h32 : ((putF out (toS (blkOf l))).length : Int) ≤ 32
      · rw [if_neg (show ¬ ((putF out (toS (blkOf l))).length : Int) > 32 by omega), if_pos h32, if_pos (by rfl)]
        exact next _ (putF_inv hI (blk_ok hc) (by omega))
      · rw [if_pos (show ((putF out (toS (blkOf l))).length : Int) > 32 by omega), if_neg h32, if_neg (show ¬ ((([] : List S47), (5 : Int)).2 = 0) by simp)]
        exact next _ hI
    · have hb : ((blkOf l).2.2.2 != 0) = true := bne_iff_ne.2 hc
      rw [hb, if_pos rfl, if_neg hc]
      exact next _ hI
theorem impl_first (all : List (List UInt8)) (ha : ∀ z ∈ all, z.length ≤ 1048576) (hal : all.length ≤ 1048577) (k : Nat) (hk : 13000000 < k) :
    impl_SalvageBlocks.l0 k ([] : List S47) (all.map ofL) (all.length : Int) 0 = some (salG [] (all.drop 1)) := by
  cases all with
  | nil =>
    obtain ⟨k, rfl⟩ := succ_of (show 0 < k by omega)
    simp only [impl_SalvageBlocks.l0]
    rfl
  | cons h r =>
    have hh := ha h List.mem_cons_self
    obtain ⟨k, rfl⟩ := succ_of (show 0 < k by omega)
    rw [List.length_cons] at hal
    have h0 : rdOf ByteArray.empty ((h :: r).map ofL) 0 = ofL h := rfl
    simp only [impl_SalvageBlocks.l0]
    rw [if_pos (by rw [List.length_cons]; omega), if_pos (by omega), if_pos (by rw [List.length_map, List.length_cons]; omega), h0, impl_block (ofL h) (by rw [ofL_size]; exact hh) k (by omega)]
    simp only [Option.bind_some]
    rw [if_pos trivial]
    obtain ⟨k, rfl⟩ := succ_of (show 0 < k by omega)
    simp only [impl_SalvageBlocks.j1]
    rw [if_pos trivial]
    have hw : wrap64 (0 + 1) = 1 := by rw [wr (by omega) (by omega)]; rfl
    rw [hw]
    exact impl_sal_l0 (h :: r) ha (by rw [List.length_cons]; exact hal) r [h] k [] rfl (by simp) inv_nil (by omega)
theorem split_count (c : UInt8) (l : List UInt8) : (split c l).length ≤ l.length + 1 := by
  unfold split
  rw [splitFrom_length]
  have := List.count_le_length (a := c) (l := l)
  omega
theorem split_ne (c : UInt8) (l : List UInt8) : split c l ≠ [] := by
  have := splitFrom_pos c l []
  intro h
  unfold split at h
  rw [h] at this
  simp at this
def salOf (l : List UInt8) : List S47 := salG [] ((split 10 l).dropLast.drop 1)
theorem last_split (l : List UInt8) : ∃ q p, split 10 l = q ++ [p] ∧ (split 10 l).dropLast = q := by
  rcases List.eq_nil_or_concat (split 10 l) with h | ⟨q, p, h⟩
  · exact absurd h (split_ne 10 l)
  · rw [List.concat_eq_append] at h
    exact ⟨q, p, h, by rw [h]; simp⟩
theorem spec_read (s : ByteArray) (hs : s.size ≤ 1048576) (k : Nat) (hk : 13000000 < k) : spec_SalvageBlocks.f k s = some (salOf (L s)) := by
  unfold spec_SalvageBlocks.f spec_l29Lines.f salOf
  have hc := split_count 10 (L s)
  rw [L_size] at hc
  have hsp : spec_l01Split.f k s 10 = some ((split 10 (L s)).map ofL) := spec_split s 10 hs k (by omega)
  have hlen := split_len 10 (L s)
  rw [L_size] at hlen
  obtain ⟨q, p, h, hq⟩ := last_split (L s)
  rw [hsp, hq]
  rw [h] at hc hlen ⊢
  rw [List.length_append, List.length_singleton] at hc
  simp only [Option.bind_some]
  have hl : ((q ++ [p]).map ofL).length = q.length + 1 := by simp
  rw [hl, wr (by omega) (by omega), if_pos ⟨by omega, by omega⟩, show (((q.length + 1 : Nat) : Int) - 1).toNat = q.length by omega]
  have e1 : ((q ++ [p]).map ofL).take q.length = q.map ofL := by
    rw [List.map_append, List.take_append_of_le_length (by simp), List.take_of_length_le (by simp)]
  simp only [Option.bind_some]
  rw [e1]
  have hqa : ∀ z ∈ q, z.length ≤ 1048576 := fun z hz => Nat.le_trans (hlen z (by simp [hz])) (by omega)
  cases q with
  | nil =>
    obtain ⟨k, rfl⟩ := succ_of (show 0 < k by omega)
    simp only [spec_SalvageBlocks.l0]
    rfl
  | cons f r =>
    rw [List.length_cons] at hc
    exact spec_sal_l0 (f :: r) hqa (by rw [List.length_cons]; omega) r [f] k [] rfl inv_nil (by omega)
theorem impl_read (s : ByteArray) (hs : s.size ≤ 1048576) (k : Nat) (hk : 13000000 < k) : impl_SalvageBlocks.f k s = some (salOf (L s)) := by
  unfold impl_SalvageBlocks.f salOf
  have hc := split_count 10 (L s)
  rw [L_size] at hc
  have hlen := split_len 10 (L s)
  rw [L_size] at hlen
  obtain ⟨q, p, h, hq⟩ := last_split (L s)
  rw [impl_split s 10 hs, hq]
  rw [h] at hc hlen ⊢
  rw [List.length_append, List.length_singleton] at hc
  try simp only [Option.bind_some]
  have hl : ((q ++ [p]).map ofL).length = q.length + 1 := by simp
  rw [hl, wr (by omega) (by omega), if_pos (by omega), if_pos (by omega), show (((q.length + 1 : Nat) : Int) - 1).toNat = q.length by omega]
  have e1 : ((q ++ [p]).map ofL).take q.length = q.map ofL := by
    rw [List.map_append, List.take_append_of_le_length (by simp), List.take_of_length_le (by simp)]
  try simp only [Option.bind_some]
  rw [e1, List.length_map]
  exact impl_first q (fun z hz => Nat.le_trans (hlen z (by simp [hz])) (by omega)) (by omega) k hk
theorem pure : laws_FnExactSalvageBlocks.Pure := by
  intro s hs
  refine ⟨14000000, ?_⟩
  unfold laws_FnExactSalvageBlocks.f
  by_cases h : (s.size : Int) > 1048576
  · rw [if_pos h]
  · rw [if_neg h, spec_read s (by omega) _ (by omega), impl_read s (by omega) _ (by omega)]
    have hp : (salOf (L s)).length ≤ 32 := (salG_inv _ [] inv_nil).1
    generalize salOf (L s) = xs at hp
    try simp only [Option.bind_some]
    rw [eqB xs (by omega) _ (by omega)]
    simp only [Option.bind_some, if_true]
    rw [markB xs (by omega) _ (by omega)]
    try simp only [Option.bind_some]
    rw [heldB xs.length (by omega) _ (by omega)]
    try simp only [Option.bind_some]
    rw [if_neg (by omega), if_pos trivial, if_neg (by omega), if_pos trivial]
end Go.Proofs.YtimgebbbonfopaaDoor.QFnExactSalvageBlocks
