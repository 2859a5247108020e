/- Each function that the law reaches, as a Lean function with the same answers, and the proof that the call comes to them. -/
import Derived.Test.YtimgebbbonfopaaDoorQFnExactSalvageBlocks0
import Derived.Test.YtimgebbbonfopaaDoorQFnExactSalvageBlocks5
import Derived.Test.YtimgebbbonfopaaDoorQFnExactSalvageBlocks6
import Derived.Test.YtimgebbbonfopaaDoorQFnExactSalvageBlocks7
import Derived.Test.YtimgebbbonfopaaDoorQFnExactSalvageBlocks8
namespace Go.Proofs.YtimgebbbonfopaaDoor.QFnExactSalvageBlocks
open Go.RowKit Go.Proofs.YtimgebbbonfopaaDoorW.PrintWords Go.Proofs.YtimgebbbonfopaaDoorW.PrintLast Go.Proofs.YtimgebbbonfopaaDoorW.PrintMore
attribute [local go_sem] max2_int min2_int max_two min_two max_three min_three max_four min_four   -- for this text's walks alone
set_option linter.unusedVariables false
set_option linter.unusedSimpArgs false

/-! ### impl_withBlock: function 49 -/
/-- The cells of a row of blocks. -/
def cellsB : List S47 → List Value
  | [] => []
  | x :: r => .string x.f0 :: .string x.f1 :: .string x.f2 :: cellsB r
theorem cellsB_len : ∀ l, (cellsB l).length = l.length * 3
  | [] => rfl
  | x :: r => by simp only [cellsB, List.length_cons, cellsB_len r]; omega
theorem cellsB_app : ∀ a b, cellsB (a ++ b) = cellsB a ++ cellsB b
  | [], b => rfl
  | x :: r, b => by simp only [List.cons_append, cellsB, cellsB_app r b]
theorem cellsB_take : ∀ (i : Nat) (l), (cellsB l).take (i * 3) = cellsB (l.take i)
  | 0, l => by simp [cellsB]
  | i + 1, [] => by simp [cellsB]
  | i + 1, x :: r => by
    rw [show (i + 1) * 3 = i * 3 + 1 + 1 + 1 by omega]
    simp only [cellsB, List.take_succ_cons, cellsB_take i r]
theorem cellsB_drop : ∀ (i : Nat) (l), (cellsB l).drop (i * 3) = cellsB (l.drop i)
  | 0, l => by simp
  | i + 1, [] => by simp [cellsB]
  | i + 1, x :: r => by
    rw [show (i + 1) * 3 = i * 3 + 1 + 1 + 1 by omega]
    simp only [cellsB, List.drop_succ_cons, cellsB_drop i r]
theorem cellsB_one : ∀ l, ∀ v ∈ cellsB l, v.oneCell' = true
  | [], v, h => by cases h
  | x :: r, v, h => by
    simp only [cellsB, List.mem_cons] at h
    rcases h with rfl | rfl | rfl | h
    · rfl
    · rfl
    · rfl
    · exact cellsB_one r v h
theorem cellsB_at : ∀ (l : List S47) (j : Nat) (x : S47), l[j]? = some x → ((cellsB l).drop (j * 3)).take 3 = [.string x.f0, .string x.f1, .string x.f2]
  | [], j, x, h => by simp at h
  | y :: r, 0, x, h => by
    simp only [List.getElem?_cons_zero, Option.some.injEq] at h
    subst h
    rfl
  | y :: r, j + 1, x, h => by
    rw [List.getElem?_cons_succ] at h
    rw [show (j + 1) * 3 = j * 3 + 1 + 1 + 1 by omega]
    simp only [cellsB, List.drop_succ_cons]
    exact cellsB_at r j x h
theorem cellsB_reps (w : World) (b : Nat) (ok : Nat → Prop) (l : List S47) : Reps (k47.M w b ok) 3 l (cellsB l) :=
  ⟨cellsB_len l, fun j x hj => by rw [cellsB_at l j x hj]; exact k47_mkM w b ok x⟩
theorem R_of_own {w : World} {base : Nat} {v : Value} {l : List S47} (h : w.ownsRow base 47 3 v l.length (cellsB l)) : Kd.R k47 47 w base (fun _ => True) v l :=
  ⟨fun _ _ => trivial, cellsB l, h, cellsB_reps _ _ _ l⟩
theorem cellsB_get {l : List S47} {j : Nat} {u : Value} (h : (cellsB l)[j]? = some u) : ∃ x, l[j / 3]? = some x ∧ [Value.string x.f0, .string x.f1, .string x.f2][j % 3]? = some u := by
  have hj : j < (cellsB l).length := by
    rcases Nat.lt_or_ge j (cellsB l).length with h' | h'
    · exact h'
    · rw [List.getElem?_eq_none h'] at h; cases h
  rw [cellsB_len] at hj
  have hq : j / 3 < l.length := by omega
  have hx : l[j / 3]? = some l[j / 3] := List.getElem?_eq_getElem hq
  refine ⟨l[j / 3], hx, ?_⟩
  have hc := cellsB_at l (j / 3) _ hx
  rw [← hc, List.getElem?_take, if_pos (by omega), List.getElem?_drop, show j / 3 * 3 + j % 3 = j by omega]
  exact h
theorem C_src {w : World} {A : Option Addr} {l : List S47} (h : Kd.C k47 w A l.length l) (h0 : 0 < l.length) : ∃ b o, A = some ⟨b, o, none⟩ ∧ ∀ j u, (cellsB l)[j]? = some u → w.cell? ⟨b, o + j, none⟩ = some u := by
  obtain ⟨_, _, h2⟩ := h
  obtain ⟨ad, rfl, hc⟩ := h2 h0
  have h3 : ∀ j u, (cellsB l)[j]? = some u → w.cell? (ad.add j) = some u := by
    intro j u hj
    obtain ⟨x, hx, hu⟩ := cellsB_get hj
    obtain ⟨c, _, hK, hcell⟩ := hc (j / 3) x hx
    obtain rfl := k47_open hK
    have this : w.cell? (ad.add (j / 3 * 3 + j % 3)) = some u := hcell (j % 3) u hu
    rwa [show j / 3 * 3 + j % 3 = j by omega] at this
  have h4 := h3 0 _ (List.getElem?_eq_getElem (by rw [cellsB_len]; omega))
  obtain ⟨b, o, spot⟩ := ad
  cases spot with
  | some z =>
    exfalso
    simp only [Addr.add, if_true, World.cell?] at h4
    split at h4
    · simp at h4
    · cases h4
  | none =>
    refine ⟨b, o, rfl, fun j u hj => ?_⟩
    have := h3 j u hj
    by_cases hj0 : j = 0
    · subst hj0
      simpa [Addr.add] using this
    · simpa [Addr.add, hj0] using this
/-- How two blocks compare: kinds, then names. -/
def cmpS (a b : ByteArray) : Int := if Op.bytesLess a.toList b.toList = true then -1 else if a.toList = b.toList then 0 else 1
def cmpV (y x : S47) : Int := if cmpS y.f0 x.f0 = 0 then cmpS y.f1 x.f1 else cmpS y.f0 x.f0
theorem or_pair (t1 t2 : Int) (k : Nat) (hk : 5 < k) : cmp_Or_int.f k [t1, t2] = some (if t1 = 0 then t2 else t1) := by
  obtain ⟨k, rfl⟩ : ∃ m, k = m + 3 := ⟨k - 3, by omega⟩
  have r0 : rd [t1, t2] 0 = t1 := rfl
  have r1 : rd [t1, t2] 1 = t2 := rfl
  have e1 : wrap64 (0 + 1) = 1 := by kernel_rfl
  have e2 : wrap64 (1 + 1) = 2 := by kernel_rfl
  have el : (([t1, t2] : List Int).length : Int) = 2 := rfl
  simp only [cmp_Or_int.f, cmp_Or_int.l0, el, r0, e1, r1, e2]
  by_cases h1 : t1 = 0
  · rw [if_pos (by omega), if_pos (by omega), if_pos (by omega), if_pos h1, if_pos (by omega), if_pos (by omega), if_pos (by omega), if_pos h1]
    by_cases h2 : t2 = 0
    · rw [if_pos h2, if_neg (by omega), h2]
    · rw [if_neg h2]
  · rw [if_pos (by omega), if_pos (by omega), if_pos (by omega), if_neg h1, if_neg h1]
theorem cmp_ok (y x : S47) (k : Nat) (hk : 5 < k) : impl_compareBlocks.f k y.f0 y.f1 y.f2 x.f0 x.f1 x.f2 = some (cmpV y x) := by
  unfold impl_compareBlocks.f cmp_Compare_string.f cmpV
  simp only [Option.bind_some]
  rw [or_pair _ _ k hk]
  rfl
set_option maxHeartbeats 2000000 in
theorem bs_calls (k : Nat) (hk : 5 < k) (A : Option Addr) (c : Nat) (l : List S47) (x : S47) (cnt : Nat) (w : World) (hr : Kd.C k47 w A l.length l) (hc : l.length ≤ c) (hl : l.length ≤ 1000000) (hcnt : cnt ≤ l.length)
    (h1 : ∀ t : Nat, t < cnt → cmpV (rd_T47 l (t : Int)) x < 0) (h2 : ∀ t : Nat, cnt ≤ t → t < l.length → ¬ cmpV (rd_T47 l (t : Int)) x < 0) :
    Calls Tryd.prog 73 #[.slice A l.length c, .agg #[.string x.f0, .string x.f1, .string x.f2], .func (.func 72) #[] #[]] w fun e w' => e = .returned (.tuple #[.int .i64 (cnt : Int), .bool (decide (cnt < l.length) && decide (cmpV (rd_T47 l (cnt : Int)) x = 0))]) ∧ Below w.heap.size w w' := by
  have HR := Lib.hid hr
  have H1 := Lib.hid h1
  have H2 := Lib.hid h2
  have HC : ∀ y W, Aside0 (Calls Tryd.prog 72 #[.agg #[.string y.f0, .string y.f1, .string y.f2], .agg #[.string x.f0, .string x.f1, .string x.f2]] W fun e w' => e = .returned (.int .i64 (cmpV y x)) ∧ Below W.heap.size W w') := fun y W => ⟨impl_compareBlocks.calls k _ _ _ _ _ _ _ W (cmp_ok y x k hk)⟩
  have HB := Aside0.mk (Below.refl w.heap.size w)
  clear hr h1 h2
  generalize hfin : (decide (cnt < l.length) && decide (cmpV (rd_T47 l (cnt : Int)) x = 0)) = fin
  have FIN := Lib.hid hfin
  clear hfin
  go_enter Tryd.func73, Tryd.ntmps73
  go_wp2
  go_loopg [9, 10] l.length (fun kx s9 s10 wr => ∃ lo hi : Nat, s9 = .int .i64 lo ∧ s10 = .int .i64 hi ∧ lo ≤ cnt ∧ cnt ≤ hi ∧ hi ≤ l.length ∧ hi - lo ≤ kx ∧ Aside0 (Below (w.alloc (.cells #[.string x.f0, .string x.f1, .string x.f2] 47)).heap.size (w.alloc (.cells #[.string x.f0, .string x.f1, .string x.f2] 47)) wr))
  case atStart => exact ⟨0, l.length, rfl, rfl, Nat.zero_le _, hcnt, Nat.le_refl _, by omega, Aside0.mk (Below.refl _ _)⟩
  case round =>
    obtain ⟨lo, hi, rfl, rfl, hlc, hch, hin, hg, B⟩ := hrel
    have ha := below_alloc (Below.refl w.heap.size w) (.cells #[.string x.f0, .string x.f1, .string x.f2] 47)
    have hbw : Below w.heap.size w wr := ha.trans (B.out.mono ha.size)
    have hK : wr.heap[w.heap.size]? = some (.cells #[.string x.f0, .string x.f1, .string x.f2] 47 (0, 0)) := (B.out.block _ (by show w.heap.size < (w.heap.push _).size; rw [Array.size_push]; omega)).trans (heap_alloc_new w _)
    have hC := Lib.hid (Kd.C_below HR.out hbw)
    have ht0 : wr.cell? ⟨w.heap.size, 0, none⟩ = some (.string x.f0) := blk_cell hK 0
    have ht1 : wr.cell? ⟨w.heap.size, 1, none⟩ = some (.string x.f1) := blk_cell hK 1
    have ht2 : wr.cell? ⟨w.heap.size, 2, none⟩ = some (.string x.f2) := blk_cell hK 2
    have BW := Aside0.mk hbw
    clear ha hbw hK HB
    by_cases hlt : lo < hi
    · have p0 : (0 : Int) ≤ ((lo : Int) + (hi : Int)) / 2 := by omega
      have q0 : ((lo : Int) + (hi : Int)) / 2 < (l.length : Int) := by omega
      obtain ⟨ad, e, hx0, hx1, hx2⟩ := at_T47 hC.out _ p0 q0
      cases e
      have hi1 := H1.out ((lo + hi) / 2)
      have hi2 := H2.out ((lo + hi) / 2)
      have hm : (((lo + hi) / 2 : Nat) : Int) = ((lo : Int) + (hi : Int)) / 2 := by omega
      rw [hm] at hi1 hi2
      have qi : ((((lo : Int) + (hi : Int)) / 2).toNat < l.length) = True := eq_true (by omega)
      have HA := Lib.hid hi1
      have HBB := Lib.hid hi2
      clear hi1 hi2
      generalize hy : rd_T47 l (((lo : Int) + (hi : Int)) / 2) = y at *
      have hkeep : ∀ W W' : World, (W.cell? (ad.add ((((lo : Int) + (hi : Int)) / 2).toNat * 3)) = some (.string y.f0) ∧ W.cell? ⟨(ad.add ((((lo : Int) + (hi : Int)) / 2).toNat * 3)).block, (ad.add ((((lo : Int) + (hi : Int)) / 2).toNat * 3)).off + 1, none⟩ = some (.string y.f1) ∧ W.cell? ⟨(ad.add ((((lo : Int) + (hi : Int)) / 2).toNat * 3)).block, (ad.add ((((lo : Int) + (hi : Int)) / 2).toNat * 3)).off + 2, none⟩ = some (.string y.f2) ∧ W.cell? ⟨w.heap.size, 0, none⟩ = some (.string x.f0) ∧ W.cell? ⟨w.heap.size, 1, none⟩ = some (.string x.f1) ∧ W.cell? ⟨w.heap.size, 2, none⟩ = some (.string x.f2) ∧ Below (w.alloc (.cells #[.string x.f0, .string x.f1, .string x.f2] 47)).heap.size (w.alloc (.cells #[.string x.f0, .string x.f1, .string x.f2] 47)) W) → Below W.heap.size W W' → (W'.cell? (ad.add ((((lo : Int) + (hi : Int)) / 2).toNat * 3)) = some (.string y.f0) ∧ W'.cell? ⟨(ad.add ((((lo : Int) + (hi : Int)) / 2).toNat * 3)).block, (ad.add ((((lo : Int) + (hi : Int)) / 2).toNat * 3)).off + 1, none⟩ = some (.string y.f1) ∧ W'.cell? ⟨(ad.add ((((lo : Int) + (hi : Int)) / 2).toNat * 3)).block, (ad.add ((((lo : Int) + (hi : Int)) / 2).toNat * 3)).off + 2, none⟩ = some (.string y.f2) ∧ W'.cell? ⟨w.heap.size, 0, none⟩ = some (.string x.f0) ∧ W'.cell? ⟨w.heap.size, 1, none⟩ = some (.string x.f1) ∧ W'.cell? ⟨w.heap.size, 2, none⟩ = some (.string x.f2) ∧ Below (w.alloc (.cells #[.string x.f0, .string x.f1, .string x.f2] 47)).heap.size (w.alloc (.cells #[.string x.f0, .string x.f1, .string x.f2] 47)) W') := fun W W' h hb => ⟨(hb.cell (World.block_lt_of_cell? _ _ h.1)).trans h.1, (hb.cell (World.block_lt_of_cell? _ _ h.2.1)).trans h.2.1, (hb.cell (World.block_lt_of_cell? _ _ h.2.2.1)).trans h.2.2.1, (hb.cell (World.block_lt_of_cell? _ _ h.2.2.2.1)).trans h.2.2.2.1, (hb.cell (World.block_lt_of_cell? _ _ h.2.2.2.2.1)).trans h.2.2.2.2.1, (hb.cell (World.block_lt_of_cell? _ _ h.2.2.2.2.2.1)).trans h.2.2.2.2.2.1, h.2.2.2.2.2.2.trans (hb.mono h.2.2.2.2.2.2.size)⟩
      have hS0 : wr.drew.cell? (ad.add ((((lo : Int) + (hi : Int)) / 2).toNat * 3)) = some (.string y.f0) ∧ wr.drew.cell? ⟨(ad.add ((((lo : Int) + (hi : Int)) / 2).toNat * 3)).block, (ad.add ((((lo : Int) + (hi : Int)) / 2).toNat * 3)).off + 1, none⟩ = some (.string y.f1) ∧ wr.drew.cell? ⟨(ad.add ((((lo : Int) + (hi : Int)) / 2).toNat * 3)).block, (ad.add ((((lo : Int) + (hi : Int)) / 2).toNat * 3)).off + 2, none⟩ = some (.string y.f2) ∧ wr.drew.cell? ⟨w.heap.size, 0, none⟩ = some (.string x.f0) ∧ wr.drew.cell? ⟨w.heap.size, 1, none⟩ = some (.string x.f1) ∧ wr.drew.cell? ⟨w.heap.size, 2, none⟩ = some (.string x.f2) ∧ Below (w.alloc (.cells #[.string x.f0, .string x.f1, .string x.f2] 47)).heap.size (w.alloc (.cells #[.string x.f0, .string x.f1, .string x.f2] 47)) wr.drew := ⟨hx0, hx1, hx2, ht0, ht1, ht2, by have hb := B.out; exact below_drew hb⟩
      by_cases hyx : cmpV y x < 0
      · go_wp2
        go_region_held3 (fun w' => w'.cell? (ad.add ((((lo : Int) + (hi : Int)) / 2).toNat * 3)) = some (.string y.f0) ∧ w'.cell? ⟨(ad.add ((((lo : Int) + (hi : Int)) / 2).toNat * 3)).block, (ad.add ((((lo : Int) + (hi : Int)) / 2).toNat * 3)).off + 1, none⟩ = some (.string y.f1) ∧ w'.cell? ⟨(ad.add ((((lo : Int) + (hi : Int)) / 2).toNat * 3)).block, (ad.add ((((lo : Int) + (hi : Int)) / 2).toNat * 3)).off + 2, none⟩ = some (.string y.f2) ∧ w'.cell? ⟨w.heap.size, 0, none⟩ = some (.string x.f0) ∧ w'.cell? ⟨w.heap.size, 1, none⟩ = some (.string x.f1) ∧ w'.cell? ⟨w.heap.size, 2, none⟩ = some (.string x.f2) ∧ Below (w.alloc (.cells #[.string x.f0, .string x.f1, .string x.f2] 47)).heap.size (w.alloc (.cells #[.string x.f0, .string x.f1, .string x.f2] 47)) w') (first | exact hS0 | exact hS2) (first | (go_at_call 72; (with_reducible refine (HC y _).out.mono ?_); rintro e w' ⟨rfl, hb⟩; have hS2 := hkeep _ _ (by assumption) hb))
        have hB2 := hS2.2.2.2.2.2.2
        go_wp2
        go_roundg (hi - ((lo + hi) / 2 + 1))
        case measure => omega
        case rel =>
          have hlt2 : (lo + hi) / 2 < cnt := by
            rcases Nat.lt_or_ge ((lo + hi) / 2) cnt with h' | h'
            · exact h'
            · have := HBB.out h' (by omega)
              omega
          exact ⟨(lo + hi) / 2 + 1, hi, by first | (rw [show ((lo : Int) + (hi : Int)) / 2 + 1 = (((lo + hi) / 2 + 1 : Nat) : Int) by omega]) | rfl, rfl, hlt2, hch, hin, Nat.le_refl _, Aside0.mk hB2⟩
      · go_wp2
        go_region_held3 (fun w' => w'.cell? (ad.add ((((lo : Int) + (hi : Int)) / 2).toNat * 3)) = some (.string y.f0) ∧ w'.cell? ⟨(ad.add ((((lo : Int) + (hi : Int)) / 2).toNat * 3)).block, (ad.add ((((lo : Int) + (hi : Int)) / 2).toNat * 3)).off + 1, none⟩ = some (.string y.f1) ∧ w'.cell? ⟨(ad.add ((((lo : Int) + (hi : Int)) / 2).toNat * 3)).block, (ad.add ((((lo : Int) + (hi : Int)) / 2).toNat * 3)).off + 2, none⟩ = some (.string y.f2) ∧ w'.cell? ⟨w.heap.size, 0, none⟩ = some (.string x.f0) ∧ w'.cell? ⟨w.heap.size, 1, none⟩ = some (.string x.f1) ∧ w'.cell? ⟨w.heap.size, 2, none⟩ = some (.string x.f2) ∧ Below (w.alloc (.cells #[.string x.f0, .string x.f1, .string x.f2] 47)).heap.size (w.alloc (.cells #[.string x.f0, .string x.f1, .string x.f2] 47)) w') (first | exact hS0 | exact hS2) (first | (go_at_call 72; (with_reducible refine (HC y _).out.mono ?_); rintro e w' ⟨rfl, hb⟩; have hS2 := hkeep _ _ (by assumption) hb))
        have hB2 := hS2.2.2.2.2.2.2
        go_wp2
        go_roundg ((lo + hi) / 2 - lo)
        case measure => omega
        case rel =>
          have hge2 : cnt ≤ (lo + hi) / 2 := by
            rcases Nat.lt_or_ge ((lo + hi) / 2) cnt with h' | h'
            · exact absurd (HA.out h') (by omega)
            · exact h'
          exact ⟨lo, (lo + hi) / 2, rfl, by first | (rw [show ((lo : Int) + (hi : Int)) / 2 = (((lo + hi) / 2 : Nat) : Int) by omega]) | rfl, hlc, hge2, by omega, Nat.le_refl _, Aside0.mk hB2⟩
    · obtain rfl : hi = lo := by omega
      obtain rfl : hi = cnt := by omega
      by_cases hn : hi < l.length
      · have p0 : (0 : Int) ≤ (hi : Int) := by omega
        have q0 : (hi : Int) < (l.length : Int) := by omega
        obtain ⟨ad, e, hx0, hx1, hx2⟩ := at_T47 hC.out _ p0 q0
        cases e
        have qi : (hi < l.length) = True := eq_true hn
        rw [Int.toNat_natCast] at hx0 hx1 hx2
        generalize hy : rd_T47 l (hi : Int) = y at *
        have hkeep : ∀ W W' : World, (W.cell? (ad.add (hi * 3)) = some (.string y.f0) ∧ W.cell? ⟨(ad.add (hi * 3)).block, (ad.add (hi * 3)).off + 1, none⟩ = some (.string y.f1) ∧ W.cell? ⟨(ad.add (hi * 3)).block, (ad.add (hi * 3)).off + 2, none⟩ = some (.string y.f2) ∧ W.cell? ⟨w.heap.size, 0, none⟩ = some (.string x.f0) ∧ W.cell? ⟨w.heap.size, 1, none⟩ = some (.string x.f1) ∧ W.cell? ⟨w.heap.size, 2, none⟩ = some (.string x.f2) ∧ Below (w.alloc (.cells #[.string x.f0, .string x.f1, .string x.f2] 47)).heap.size (w.alloc (.cells #[.string x.f0, .string x.f1, .string x.f2] 47)) W) → Below W.heap.size W W' → (W'.cell? (ad.add (hi * 3)) = some (.string y.f0) ∧ W'.cell? ⟨(ad.add (hi * 3)).block, (ad.add (hi * 3)).off + 1, none⟩ = some (.string y.f1) ∧ W'.cell? ⟨(ad.add (hi * 3)).block, (ad.add (hi * 3)).off + 2, none⟩ = some (.string y.f2) ∧ W'.cell? ⟨w.heap.size, 0, none⟩ = some (.string x.f0) ∧ W'.cell? ⟨w.heap.size, 1, none⟩ = some (.string x.f1) ∧ W'.cell? ⟨w.heap.size, 2, none⟩ = some (.string x.f2) ∧ Below (w.alloc (.cells #[.string x.f0, .string x.f1, .string x.f2] 47)).heap.size (w.alloc (.cells #[.string x.f0, .string x.f1, .string x.f2] 47)) W') := fun W W' h hb => ⟨(hb.cell (World.block_lt_of_cell? _ _ h.1)).trans h.1, (hb.cell (World.block_lt_of_cell? _ _ h.2.1)).trans h.2.1, (hb.cell (World.block_lt_of_cell? _ _ h.2.2.1)).trans h.2.2.1, (hb.cell (World.block_lt_of_cell? _ _ h.2.2.2.1)).trans h.2.2.2.1, (hb.cell (World.block_lt_of_cell? _ _ h.2.2.2.2.1)).trans h.2.2.2.2.1, (hb.cell (World.block_lt_of_cell? _ _ h.2.2.2.2.2.1)).trans h.2.2.2.2.2.1, h.2.2.2.2.2.2.trans (hb.mono h.2.2.2.2.2.2.size)⟩
        have hS0 : wr.drew.cell? (ad.add (hi * 3)) = some (.string y.f0) ∧ wr.drew.cell? ⟨(ad.add (hi * 3)).block, (ad.add (hi * 3)).off + 1, none⟩ = some (.string y.f1) ∧ wr.drew.cell? ⟨(ad.add (hi * 3)).block, (ad.add (hi * 3)).off + 2, none⟩ = some (.string y.f2) ∧ wr.drew.cell? ⟨w.heap.size, 0, none⟩ = some (.string x.f0) ∧ wr.drew.cell? ⟨w.heap.size, 1, none⟩ = some (.string x.f1) ∧ wr.drew.cell? ⟨w.heap.size, 2, none⟩ = some (.string x.f2) ∧ Below (w.alloc (.cells #[.string x.f0, .string x.f1, .string x.f2] 47)).heap.size (w.alloc (.cells #[.string x.f0, .string x.f1, .string x.f2] 47)) wr.drew := ⟨hx0, hx1, hx2, ht0, ht1, ht2, by have hb := B.out; exact below_drew hb⟩
        by_cases hyx : cmpV y x = 0
        · go_wp2
          go_region_held3 (fun w' => w'.cell? (ad.add (hi * 3)) = some (.string y.f0) ∧ w'.cell? ⟨(ad.add (hi * 3)).block, (ad.add (hi * 3)).off + 1, none⟩ = some (.string y.f1) ∧ w'.cell? ⟨(ad.add (hi * 3)).block, (ad.add (hi * 3)).off + 2, none⟩ = some (.string y.f2) ∧ w'.cell? ⟨w.heap.size, 0, none⟩ = some (.string x.f0) ∧ w'.cell? ⟨w.heap.size, 1, none⟩ = some (.string x.f1) ∧ w'.cell? ⟨w.heap.size, 2, none⟩ = some (.string x.f2) ∧ Below (w.alloc (.cells #[.string x.f0, .string x.f1, .string x.f2] 47)).heap.size (w.alloc (.cells #[.string x.f0, .string x.f1, .string x.f2] 47)) w') (first | exact hS0 | exact hS2) (first | (go_at_call 72; (with_reducible refine (HC y _).out.mono ?_); rintro e w' ⟨rfl, hb⟩; have hS2 := hkeep _ _ (by assumption) hb))
          all_goals (have hB2 := hS2.2.2.2.2.2.2; go_wp2)
          all_goals go_ret2
          all_goals exact ⟨by rw [← FIN.out, decide_eq_true hn, decide_eq_true hyx]; first | rfl | simp [hyx], (below_alloc (Below.refl w.heap.size w) _).trans (hB2.mono (below_alloc (Below.refl w.heap.size w) _).size)⟩
        · go_wp2
          go_region_held3 (fun w' => w'.cell? (ad.add (hi * 3)) = some (.string y.f0) ∧ w'.cell? ⟨(ad.add (hi * 3)).block, (ad.add (hi * 3)).off + 1, none⟩ = some (.string y.f1) ∧ w'.cell? ⟨(ad.add (hi * 3)).block, (ad.add (hi * 3)).off + 2, none⟩ = some (.string y.f2) ∧ w'.cell? ⟨w.heap.size, 0, none⟩ = some (.string x.f0) ∧ w'.cell? ⟨w.heap.size, 1, none⟩ = some (.string x.f1) ∧ w'.cell? ⟨w.heap.size, 2, none⟩ = some (.string x.f2) ∧ Below (w.alloc (.cells #[.string x.f0, .string x.f1, .string x.f2] 47)).heap.size (w.alloc (.cells #[.string x.f0, .string x.f1, .string x.f2] 47)) w') (first | exact hS0 | exact hS2) (first | (go_at_call 72; (with_reducible refine (HC y _).out.mono ?_); rintro e w' ⟨rfl, hb⟩; have hS2 := hkeep _ _ (by assumption) hb))
          all_goals (have hB2 := hS2.2.2.2.2.2.2; go_wp2)
          all_goals go_ret2
          all_goals exact ⟨by rw [← FIN.out, decide_eq_true hn, decide_eq_false hyx]; first | rfl | simp [hyx], (below_alloc (Below.refl w.heap.size w) _).trans (hB2.mono (below_alloc (Below.refl w.heap.size w) _).size)⟩
      · have hnl : ¬ ((hi : Int) < (l.length : Int)) := by omega
        go_wp2
        go_quiet (fail)
        go_wp2
        go_ret2
        exact ⟨by rw [← FIN.out, decide_eq_false hn]; rfl, by repeat (first | exact BW.out | apply below_alloc | apply pw_below_drewN)⟩
theorem clone_calls (A : Option Addr) (c : Nat) (l : List S47) (w : World) (hr : Kd.C k47 w A l.length l) (hc : l.length ≤ c) (hl : l.length ≤ 1000000) :
    Calls Tryd.prog 74 #[.slice A l.length c] w fun e w' => ∃ v, e = .returned v ∧ w'.ownsRow w.heap.size 47 3 v l.length (cellsB l) ∧ Below w.heap.size w w' := by
  have q22 : ∀ (w : World) (a : Option Addr) (n c n' c' : Nat), (binOp .eql 28 (.slice a n c) (.slice none n' c')).run Tryd.prog w = .ok (.bool a.isNone) w := fun w a n c n' c' => Lib.run_eql_slice_nil w _ _ a n c n' c' Tryd.underlying28
  obtain ⟨i0, hi0, hz0, hsz, hby⟩ := info_parts info47
  have hC := Lib.hid hr
  cases A with
  | none =>
    have h0 : l = [] := by
      cases l with
      | nil => rfl
      | cons x r =>
        obtain ⟨_, _, h2⟩ := hr
        obtain ⟨ad, h, _⟩ := h2 (by simp)
        cases h
    subst h0
    clear hr
    go_enter Tryd.func74, Tryd.ntmps74
    go_wp2
    go_ret
    exact ⟨_, rfl, ⟨rfl, .inl ⟨rfl, rfl⟩⟩, Below.refl _ _⟩
  | some ad =>
    have hsrc : ∀ j u, (cellsB l)[j]? = some u → w.cell? (ad.add j) = some u := by
      intro j u hj
      rcases Nat.eq_zero_or_pos l.length with h0 | h0
      · rw [List.length_eq_zero_iff.1 h0] at hj
        simp [cellsB] at hj
      · obtain ⟨b, o, e, h⟩ := C_src hr h0
        cases e
        rw [Addr.add_lit]
        exact h j u hj
    have HS := Lib.hid hsrc
    clear hr hsrc
    go_enter Tryd.func74, Tryd.ntmps74
    go_wp2_with (at_builtin; refine wpList_append_own _ rfl _ _ 28 rfl w.heap.size 47 i0 _ 3 48 Tryd.underlying28 hi0 hz0 hsz hby rfl (by omega) _ _ _ rfl (World.ownsRow_made w #[] 0 (Nat.le_refl _) (Nat.zero_le _) (by simp)) ad l.length c (cellsB l) rfl ?qc1 ?qc2 ?qc3 ?qc4 ?qc5 ?qc6 ?_)
    case qc1 => exact cellsB_len l
    case qc2 => exact fun j u hj => Lib.cell?_alloc_some _ (HS.out j u hj)
    case qc3 => exact cellsB_one l
    case qc4 => rw [Nat.zero_add]; unfold maxLen; omega
    case qc5 => rw [Nat.zero_add]; omega
    case qc6 => simp
    intro v' w1 hown hgrow hnil
    go_wp2
    go_ret
    refine ⟨v', rfl, by simpa using hown, ?_⟩
    exact ((Below.refl _ w).alloc (Nat.le_refl _) _).grown hgrow (by simp) (by intro k hk; simp [Value.ownBlock] at hk; omega)
theorem copy3 (w : World) (ty : TypeId) (g o dLen dCap : Nat) (a : Addr) (sLen sCap : Nat) (cur : Array Value) (cs : List Value)
    (hg : w.heap[g]? = some (.cells cur 47 (0, 0))) (hn : cs.length = Nat.min sLen dLen * 3)
    (hsrc : ∀ j v, cs[j]? = some v → w.cell? (a.add j) = some v) (hfit : o + cs.length ≤ cur.size) (h1 : ∀ v ∈ cs, v.oneCell' = true) :
    (Builtin.copy_ #[28, 28] ty #[.slice (some ⟨g, o, none⟩) dLen dCap, .slice (some a) sLen sCap]).run Tryd.prog w =
      .ok (goInt (Nat.min sLen dLen)) (w.setRow g (cur.toList.take o ++ cs ++ cur.toList.drop (o + cs.length)).toArray) := by
  have hl := run_loadCells_list (P := Tryd.prog) w a cs hsrc
  have hst := run_storeCells_at Tryd.prog g o 47 cs 0 cur w hg (by simpa using hfit) h1
  obtain ⟨i0, hi0, hz0, hsz, hby⟩ := info_parts info47
  have hu := Tryd.underlying28
  rw [hn] at hl
  simp [Builtin.copy_, run_underlying hu, Builtin.lenOf, Builtin.firstCells, sizeOf, typeInfo, hi0, hsz, hl, hst]
set_option maxHeartbeats 4000000 in
set_option maxRecDepth 100000 in
/-- slices.Insert of one block: there is room, ahead of the end. -/
theorem insert_shift (g n cap i vb : Nat) (cur : Array Value) (vs cs : List Value) (w : World) (hg : w.heap[g]? = some (.cells cur 47 (0, 0))) (hv : w.heap[vb]? = some (.cells vs.toArray 47 (0, 0))) (hvl : vs.length = 3) (hvb : vb ≠ g) (hi : i < n) (hroom : n + 1 ≤ cap) (hcap : cap ≤ 9223372036854775807)
    (hsz : cur.size = cap * 3) (hcs : cur.toList.take (n * 3) = cs) (h1c : ∀ v ∈ cs, v.oneCell' = true) (h1v : ∀ v ∈ vs, v.oneCell' = true) :
    Calls Tryd.prog 75 #[.slice (some ⟨g, 0, none⟩) n cap, .int .i64 (i : Int), .slice (some ⟨vb, 0, none⟩) 1 1] w fun e w' =>
      e = .returned (.slice (some ⟨g, 0, none⟩) (n + 1) cap) ∧ w'.heap[g]? = some (.cells ((cur.toList.take ((i + 1) * 3) ++ cs.drop (i * 3) ++ cur.toList.drop ((i + 1) * 3 + (cs.drop (i * 3)).length)).take (i * 3) ++ vs ++ (cur.toList.take ((i + 1) * 3) ++ cs.drop (i * 3) ++ cur.toList.drop ((i + 1) * 3 + (cs.drop (i * 3)).length)).drop (i * 3 + vs.length)).toArray 47 (0, 0)) ∧ ∀ B, B ≤ g → Below B w w' := by
  have hcl : cs.length = n * 3 := by rw [← hcs, List.length_take, Array.length_toList]; omega
  have hdl : (cs.drop (i * 3)).length = (n - i) * 3 := by rw [List.length_drop, hcl]; omega
  have hz2 : ¬ ((i : Int) = (n : Int)) := by omega
  have hov : ∀ (lb cb o : Nat), (callFunc 98 #[.slice (some ⟨vb, 0, none⟩) 1 1, .slice (some ⟨g, o, none⟩) lb cb]).run Tryd.prog w = .ok (.value (.bool false)) w := fun lb cb o => by
    rw [run_callFunc_extern Tryd.func98 (by kernel_rfl) (by kernel_rfl) (by kernel_rfl) (e := Extern.SlicesOverlaps.overlaps #[28, 28] #[4]) (by kernel_rfl),
      Lib.run_overlaps_apart w 28 4 47 Tryd.underlying28 3 (fun w => by obtain ⟨i0, hi0, _, hs0, _⟩ := info_parts info47; simp [sizeOf, typeInfo, hi0, hs0]) ⟨vb, 0, none⟩ ⟨g, o, none⟩ 1 1 lb cb hvb 47 47 3 (cap * 3) (by simp [World.shape?, hv, hvl]) (by simp [World.shape?, hg, hsz]) (by omega) (by simp [World.frozen?, hv]) (by simp [World.frozen?, hv])]
    rfl
  obtain ⟨R1, hR1⟩ : ∃ R1 : List Value, R1 = cur.toList.take ((i + 1) * 3) ++ cs.drop (i * 3) ++ cur.toList.drop ((i + 1) * 3 + (cs.drop (i * 3)).length) := ⟨_, rfl⟩
  rw [← hR1]
  have hR1l : R1.length = cap * 3 := by rw [hR1, List.length_append, List.length_append, List.length_take, hdl, List.length_drop, Array.length_toList]; omega
  have hw1 : IntKind.i64.wrap ((i : Int) + 1) = (i : Int) + 1 := by rw [IntKind.wrap_i64]; omega
  have htn : ((i : Int) + 1).toNat = i + 1 := by omega
  have hb2 : ¬ (cap = i + 1) := by omega
  have hb4 : ¬ (cap = i) := by omega
  have hb5 : (0 : Int) ≤ (i : Int) + 1 := by omega
  have hin : i ≤ n := by omega
  have hb6 : (i : Int) ≤ (n : Int) + 1 := by omega
  have hcp1 : ∀ (W : World), (∀ k, W.heap[k]? = w.heap[k]?) → ∀ ty dc sc, (Builtin.copy_ #[28, 28] ty #[.slice (some ⟨g, (i + 1) * 3, none⟩) (n - i) dc, .slice (some ⟨g, i * 3, none⟩) (n + 1 - i) sc]).run Tryd.prog W = .ok (goInt (Nat.min (n + 1 - i) (n - i))) (W.setRow g R1.toArray) := fun W hW ty dc sc => by
    rw [hR1]
    refine copy3 W ty g ((i + 1) * 3) _ dc ⟨g, i * 3, none⟩ _ sc cur (cs.drop (i * 3)) (by rw [hW]; exact hg) (by rw [hdl]; simp only [Nat.min_def]; split <;> omega) (fun j v hj => ?_) (by rw [hdl]; omega) (fun v hv => h1c v (List.mem_of_mem_drop hv))
    rw [Addr.add_lit]
    rw [List.getElem?_drop, ← hcs, List.getElem?_take] at hj
    split at hj
    · rw [cell_of_row W g _ cur 47 (0, 0) (by rw [hW]; exact hg), ← Array.getElem?_toList]
      exact hj
    · cases hj
  have hcp2 : ∀ (W : World), (W.heap[g]? = some (.cells R1.toArray 47 (0, 0))) → (W.heap[vb]? = some (.cells vs.toArray 47 (0, 0))) → ∀ ty dc, (Builtin.copy_ #[28, 28] ty #[.slice (some ⟨g, i * 3, none⟩) (n + 1 - i) dc, .slice (some ⟨vb, 0, none⟩) 1 1]).run Tryd.prog W = .ok (goInt (Nat.min 1 (n + 1 - i))) (W.setRow g (R1.take (i * 3) ++ vs ++ R1.drop (i * 3 + vs.length)).toArray) := fun W hWg hWv ty dc => by
    have := copy3 W ty g (i * 3) (n + 1 - i) dc ⟨vb, 0, none⟩ 1 1 R1.toArray vs hWg (by rw [hvl]; simp only [Nat.min_def]; split <;> omega) (fun j v hj => by rw [Addr.add_lit, cell_of_row W vb _ vs.toArray 47 (0, 0) hWv]; simpa using hj) (by rw [hvl, List.size_toArray, hR1l]; omega) h1v
    simpa using this
  have HR1 := Lib.hid hR1
  clear hR1
  go_enter Tryd.func75, Tryd.ntmps75
  go_wp2_with (simp only [hov])
  have hcq := fun dc sc => hcp1 w.drew (fun _ => rfl) 3 dc sc
  go_region_law (fail)
  have hWg : (w.drew.setRow g R1.toArray).heap[g]? = some (.cells R1.toArray 47 (0, 0)) := setRow_heap _ g cur R1.toArray 47 (0, 0) hg
  have hWv : (w.drew.setRow g R1.toArray).heap[vb]? = some (.cells vs.toArray 47 (0, 0)) := (setRow_other _ g vb _ hvb).trans hv
  have hcq2 := fun dc => hcp2 _ hWg hWv 3 dc
  go_wp2
  go_ret
  exact ⟨rfl, by rw [hvl, List.append_assoc]; exact setRow_heap _ g R1.toArray _ 47 (0, 0) hWg, fun B hB => below_setRow (below_setRow (below_drew (Below.refl B w)) hB _) hB _⟩
set_option maxHeartbeats 4000000 in
set_option maxRecDepth 100000 in
/-- slices.Insert of one block: at the end. -/
theorem insert_end (base : Nat) (v : Value) (n vb : Nat) (vs cs : List Value) (w : World) (hown : w.ownsRow base 47 3 v n cs) (hbase : base ≤ w.heap.size) (hv : w.heap[vb]? = some (.cells vs.toArray 47 (0, 0))) (hvl : vs.length = 3) (hn : n ≤ 1000000) (h1v : ∀ v ∈ vs, v.oneCell' = true) :
    Calls Tryd.prog 75 #[v, .int .i64 (n : Int), .slice (some ⟨vb, 0, none⟩) 1 1] w fun e w' => ∃ v', e = .returned v' ∧ w'.ownsRow base 47 3 v' (n + 1) (cs ++ vs) ∧ Below base w w' := by
  obtain ⟨i0, hi0, hz0, hsz, hby⟩ := info_parts info47
  have HO := Lib.hid hown
  have HV := Lib.hid hv
  have key : ∀ A c, v = .slice A n c → n ≤ c → (∀ k, v.ownBlock = some k → base ≤ k) → Calls Tryd.prog 75 #[v, .int .i64 (n : Int), .slice (some ⟨vb, 0, none⟩) 1 1] w fun e w' => ∃ v', e = .returned v' ∧ w'.ownsRow base 47 3 v' (n + 1) (cs ++ vs) ∧ Below base w w' := by
    rintro A c rfl hnc hob
    clear hown hv
    by_cases hcn : c = n
    · obtain rfl : n = c := hcn.symm
      go_enter Tryd.func75, Tryd.ntmps75
      go_wp2_with (at_builtin; refine wpList_append_own _ rfl _ _ 28 rfl base 47 i0 _ 3 48 Tryd.underlying28 hi0 hz0 hsz hby rfl (by omega) _ n cs rfl HO.out ⟨vb, 0, none⟩ 1 1 vs rfl ?qc1 ?qc2 ?qc3 ?qc4 ?qc5 ?qc6 ?_)
      try (case qc1 => rw [hvl])
      case qc2 =>
        intro j u hj
        first | rw [Addr.add_lit, cell_of_row w vb _ vs.toArray 47 (0, 0) HV.out] | rw [cell_of_row w vb _ vs.toArray 47 (0, 0) HV.out]
        simpa using hj
      case qc3 => exact h1v
      case qc4 => unfold maxLen; omega
      case qc5 => omega
      try (case qc6 => exact hbase)
      intro v' w1 hown2 hgrow hnil
      go_wp2
      go_ret
      exact ⟨v', rfl, hown2, (Below.refl base w).grown hgrow hbase hob⟩
    · cases A with
      | none =>
        go_enter Tryd.func75, Tryd.ntmps75
        go_wp2_with (at_builtin; refine wpList_append_own _ rfl _ _ 28 rfl base 47 i0 _ 3 48 Tryd.underlying28 hi0 hz0 hsz hby rfl (by omega) _ n cs rfl HO.out ⟨vb, 0, none⟩ 1 1 vs rfl ?qc1 ?qc2 ?qc3 ?qc4 ?qc5 ?qc6 ?_)
        try (case qc1 => rw [hvl])
        case qc2 =>
          intro j u hj
          first | rw [Addr.add_lit, cell_of_row w vb _ vs.toArray 47 (0, 0) HV.out] | rw [cell_of_row w vb _ vs.toArray 47 (0, 0) HV.out]
          simpa using hj
        case qc3 => exact h1v
        case qc4 => unfold maxLen; omega
        case qc5 => omega
        try (case qc6 => exact hbase)
        intro v' w1 hown2 hgrow hnil
        go_wp2
        go_ret
        exact ⟨v', rfl, hown2, (Below.refl base w).grown hgrow hbase hob⟩
      | some ad =>
        obtain ⟨ab, ao, asp⟩ := ad
        go_enter Tryd.func75, Tryd.ntmps75
        go_wp2_with (at_builtin; refine wpList_append_own _ rfl _ _ 28 rfl base 47 i0 _ 3 48 Tryd.underlying28 hi0 hz0 hsz hby rfl (by omega) _ n cs rfl HO.out ⟨vb, 0, none⟩ 1 1 vs rfl ?qc1 ?qc2 ?qc3 ?qc4 ?qc5 ?qc6 ?_)
        try (case qc1 => rw [hvl])
        case qc2 =>
          intro j u hj
          first | rw [Addr.add_lit, cell_of_row w vb _ vs.toArray 47 (0, 0) HV.out] | rw [cell_of_row w vb _ vs.toArray 47 (0, 0) HV.out]
          simpa using hj
        case qc3 => exact h1v
        case qc4 => unfold maxLen; omega
        case qc5 => omega
        try (case qc6 => exact hbase)
        intro v' w1 hown2 hgrow hnil
        go_wp2
        go_ret
        exact ⟨v', rfl, hown2, (Below.refl base w).grown hgrow hbase hob⟩
  rcases hown.2 with ⟨e, h0⟩ | ⟨g, cap, cur, e, hb, hg, hnc, _⟩
  · subst h0
    exact key none 0 e (Nat.le_refl _) (fun k hk => by rw [e] at hk; simp [Value.ownBlock] at hk)
  · exact key _ cap e hnc (fun k hk => by rw [e] at hk; simp [Value.ownBlock] at hk; omega)
set_option maxHeartbeats 4000000 in
set_option maxRecDepth 100000 in
/-- slices.Insert of one block: no room, ahead of the end. -/
theorem insert_grow (g n i vb : Nat) (cur : Array Value) (vs cs : List Value) (w : World) (hg : w.heap[g]? = some (.cells cur 47 (0, 0))) (hv : w.heap[vb]? = some (.cells vs.toArray 47 (0, 0))) (hvl : vs.length = 3) (hi : i < n) (hn : n ≤ 1000000)
    (hsz : cur.size = n * 3) (hcs : cur.toList = cs) (h1c : ∀ v ∈ cs, v.oneCell' = true) (h1v : ∀ v ∈ vs, v.oneCell' = true) :
    Calls Tryd.prog 75 #[.slice (some ⟨g, 0, none⟩) n n, .int .i64 (i : Int), .slice (some ⟨vb, 0, none⟩) 1 1] w fun e w' =>
      ∃ v', e = .returned v' ∧ w'.ownsRow w.heap.size 47 3 v' (n + 1) (cs.take (i * 3) ++ vs ++ cs.drop (i * 3)) ∧ Below w.heap.size w w' := by
  obtain ⟨i0, hi0, hz0, hs0, hby⟩ := info_parts info47
  have hcl : cs.length = n * 3 := by rw [← hcs, Array.length_toList]; omega
  have hdl : (cs.drop (i * 3)).length = (n - i) * 3 := by rw [List.length_drop, hcl]; omega
  have hgw : g < w.heap.size := blk_lt hg
  have hvw : vb < w.heap.size := blk_lt hv
  have hz2 : ¬ ((i : Int) = (n : Int)) := by omega
  have hz3 : (n : Int) < (n : Int) + 1 := by omega
  have hcells : ∀ (W : World), W.heap[g]? = w.heap[g]? → ∀ j v, cs[j]? = some v → W.cell? ⟨g, j, none⟩ = some v := fun W hW j v hj => by
    rw [cell_of_row W g _ cur 47 (0, 0) (by rw [hW]; exact hg), ← Array.getElem?_toList, hcs]
    exact hj
  have hold : (Builtin.firstCells i0.size i (.slice (some ⟨g, 0, none⟩) i n)).run Tryd.prog w.drew = .ok (cs.take (i * 3)).toArray w.drew := by
    rw [hs0]
    exact run_firstCells_some w.drew 3 i ⟨g, 0, none⟩ i n (cs.take (i * 3)) (by rw [List.length_take]; omega) (fun j v hj => by
      rw [Addr.add_lit]
      rw [List.getElem?_take] at hj
      split at hj
      · simpa using hcells w.drew rfl j v hj
      · cases hj)
  obtain ⟨G, hG⟩ : ∃ G, G = grownCap w (n + 1) n 47 := ⟨_, rfl⟩
  have hGn : n + 1 ≤ G := by rw [hG]; exact grownCap_ge w _ _ _
  have hG63 : G ≤ maxLen := by rw [hG]; exact grownCap_le_maxLen w (n + 1) n 47 (by unfold maxLen; omega)
  obtain ⟨ROW, hROW⟩ : ∃ ROW : Array Value, ROW = (cs.take (i * 3)).toArray ++ Builtin.zeroCells (Value.agg #[.string ⟨#[]⟩, .string ⟨#[]⟩, .string ⟨#[]⟩]).cells (n + 1 - i) ++ Builtin.zeroCells (Value.agg #[.string ⟨#[]⟩, .string ⟨#[]⟩, .string ⟨#[]⟩]).cells (G - (n + 1)) := ⟨_, rfl⟩
  have hRl : ROW.size = G * 3 := by
    rw [hROW]
    simp [Builtin.zeroCells, Value.cells]
    omega
  have hRt : ROW.toList.take (i * 3) = cs.take (i * 3) := by
    have e : ROW.toList = cs.take (i * 3) ++ ((Builtin.zeroCells (Value.agg #[.string ⟨#[]⟩, .string ⟨#[]⟩, .string ⟨#[]⟩]).cells (n + 1 - i)).toList ++ (Builtin.zeroCells (Value.agg #[.string ⟨#[]⟩, .string ⟨#[]⟩, .string ⟨#[]⟩]).cells (G - (n + 1))).toList) := by
      rw [hROW, Array.toList_append, Array.toList_append, List.append_assoc]
    have hl : (cs.take (i * 3)).length = i * 3 := by rw [List.length_take]; omega
    rw [e, List.take_append_of_le_length (by omega), List.take_of_length_le (by omega)]
  have hrz : ∀ ty, (Builtin.append_ #[28, 3] ty #[.slice (some ⟨g, 0, none⟩) i n, .int .i64 ((n : Int) + 1 - (i : Int))]).run Tryd.prog w =
      .ok (.slice (some ⟨w.heap.size, 0, none⟩) (n + 1) G) (w.drew.alloc (.cells ROW 47)) := fun ty => by
    have h := Lib.run_append_grow_zeros w 28 3 ty 47 i0 _ .i64 .i64 Tryd.underlying28 Tryd.underlying3 hi0 hz0 (some ⟨g, 0, none⟩) i n (cs.take (i * 3)) hold (n + 1 - i) (by omega) (by omega) (by omega) (by omega) (by rw [hby]; omega) (by rw [hby, show i + (n + 1 - i) = n + 1 by omega]; exact growslice_fits (by omega) (by omega))
    rw [show i + (n + 1 - i) = n + 1 by omega, ← hG, ← hROW] at h
    rw [show (n : Int) + 1 - (i : Int) = ((n + 1 - i : Nat) : Int) by omega]
    exact h
  clear hold
  obtain ⟨W1, hW1⟩ : ∃ W1, W1 = w.drew.alloc (.cells ROW 47) := ⟨_, rfl⟩
  rw [← hW1] at hrz
  have h1N : W1.heap[w.heap.size]? = some (.cells ROW 47 (0, 0)) := by rw [hW1]; exact heap_alloc_new w.drew _
  have h1g : W1.heap[g]? = w.heap[g]? := by rw [hW1]; exact (below_alloc (below_drew (Below.refl w.heap.size w)) _).block g hgw
  have h1v' : W1.heap[vb]? = w.heap[vb]? := by rw [hW1]; exact (below_alloc (below_drew (Below.refl w.heap.size w)) _).block vb hvw
  have h1B : Below w.heap.size w W1 := by rw [hW1]; exact below_alloc (below_drew (Below.refl w.heap.size w)) _
  have HH := Lib.hid (And.intro hROW (And.intro hW1 hG))
  have HF := Lib.hid (And.intro h1N (And.intro h1g (And.intro h1v' h1B)))
  have HC := Lib.hid hcells
  clear hROW hW1 hG h1N h1g h1v' h1B hcells
  have hw1 : IntKind.i64.wrap ((i : Int) + 1) = (i : Int) + 1 := by rw [IntKind.wrap_i64]; omega
  have hb1 : (0 : Int) ≤ (i : Int) + 1 := by omega
  have hin : i ≤ n := by omega
  have htn : ((i : Int) + 1).toNat = i + 1 := by omega
  have hb3 : (i : Int) ≤ (n : Int) := by omega
  have hGi : ¬ (G = i) := by omega
  have hGim : ¬ (G = i + 1) := by omega
  have hni : ¬ (n = i) := by omega
  obtain ⟨R2, hR2⟩ : ∃ R2 : List Value, R2 = ROW.toList.take (i * 3) ++ vs ++ ROW.toList.drop (i * 3 + vs.length) := ⟨_, rfl⟩
  have hR2l : R2.length = G * 3 := by rw [hR2, List.length_append, List.length_append, List.length_take, List.length_drop, hvl, Array.length_toList]; omega
  obtain ⟨W2, hW2⟩ : ∃ W2, W2 = W1.setRow w.heap.size R2.toArray := ⟨_, rfl⟩
  have hcq1 : ∀ dc, (Builtin.copy_ #[28, 28] 3 #[.slice (some ⟨w.heap.size, i * 3, none⟩) (n + 1 - i) dc, .slice (some ⟨vb, 0, none⟩) 1 1]).run Tryd.prog W1 = .ok (goInt (Nat.min 1 (n + 1 - i))) W2 := fun dc => by
    rw [hW2, hR2]
    exact copy3 W1 3 w.heap.size (i * 3) (n + 1 - i) dc ⟨vb, 0, none⟩ 1 1 ROW vs HF.out.1 (by rw [hvl]; simp only [Nat.min_def]; split <;> omega) (fun j v hj => by rw [Addr.add_lit, cell_of_row W1 vb _ vs.toArray 47 (0, 0) (by rw [HF.out.2.2.1]; exact hv)]; simpa using hj) (by rw [hvl]; omega) h1v
  have h2N : W2.heap[w.heap.size]? = some (.cells R2.toArray 47 (0, 0)) := by rw [hW2]; exact setRow_heap _ _ ROW _ 47 (0, 0) HF.out.1
  have h2g : W2.heap[g]? = w.heap[g]? := by rw [hW2, setRow_other _ _ _ _ (by omega)]; exact HF.out.2.1
  have h2B : Below w.heap.size w W2 := by rw [hW2]; exact below_setRow HF.out.2.2.2 (Nat.le_refl _) _
  obtain ⟨R3, hR3⟩ : ∃ R3 : List Value, R3 = R2.take ((i + 1) * 3) ++ cs.drop (i * 3) ++ R2.drop ((i + 1) * 3 + (cs.drop (i * 3)).length) := ⟨_, rfl⟩
  have hR3l : R3.length = G * 3 := by rw [hR3, List.length_append, List.length_append, List.length_take, hdl, List.length_drop, hR2l]; omega
  obtain ⟨W3, hW3⟩ : ∃ W3, W3 = W2.drew.setRow w.heap.size R3.toArray := ⟨_, rfl⟩
  have hcq2 : ∀ dc sc, (Builtin.copy_ #[28, 28] 3 #[.slice (some ⟨w.heap.size, (i + 1) * 3, none⟩) (n - i) dc, .slice (some ⟨g, i * 3, none⟩) (n - i) sc]).run Tryd.prog W2.drew = .ok (goInt (Nat.min (n - i) (n - i))) W3 := fun dc sc => by
    have := copy3 W2.drew 3 w.heap.size ((i + 1) * 3) (n - i) dc ⟨g, i * 3, none⟩ (n - i) sc R2.toArray (cs.drop (i * 3)) h2N (by rw [hdl]; simp only [Nat.min_def]; split <;> omega) (fun j v hj => by
      rw [Addr.add_lit]
      exact HC.out W2.drew h2g _ v (by rwa [List.getElem?_drop] at hj)) (by rw [hdl, List.size_toArray, hR2l]; omega) (fun v hv => h1c v (List.mem_of_mem_drop hv))
    rw [hW3, hR3]
    exact this
  have h3N : W3.heap[w.heap.size]? = some (.cells R3.toArray 47 (0, 0)) := by rw [hW3]; exact setRow_heap _ _ R2.toArray _ 47 (0, 0) h2N
  have h3B : Below w.heap.size w W3 := by rw [hW3]; exact below_setRow (below_drew h2B) (Nat.le_refl _) _
  have hlist : R3.take ((n + 1) * 3) = cs.take (i * 3) ++ vs ++ cs.drop (i * 3) := by
    have l1 : (cs.take (i * 3)).length = i * 3 := by rw [List.length_take]; omega
    have e2 : R2.take ((i + 1) * 3) = cs.take (i * 3) ++ vs := by
      rw [hR2, hRt, List.take_append_of_le_length (by rw [List.length_append, l1, hvl]; omega), List.take_of_length_le (by rw [List.length_append, l1, hvl]; omega)]
    rw [hR3, e2, List.take_append_of_le_length (by rw [List.length_append, List.length_append, l1, hvl, hdl]; omega), List.take_of_length_le (by rw [List.length_append, List.length_append, l1, hvl, hdl]; omega)]
  have HX := Lib.hid (And.intro h3N (And.intro h3B (And.intro hlist hR3l)))
  clear hR2 hR2l hW2 h2N h2g h2B hR3 hR3l hW3 h3N h3B hlist
  go_enter Tryd.func75, Tryd.ntmps75
  go_wp2_with (first | (at_builtin; refine Lib.wpList_append_run _ rfl _ _ _ _ rfl _ _ rfl rfl _ _ (hrz _) ?_))
  go_region_law (fail)
  go_wp2
  go_ret
  refine ⟨_, rfl, ⟨?_, .inr ⟨w.heap.size, G, R3.toArray, rfl, Nat.le_refl _, HX.out.1, hGn, hG63, ?_, ?_⟩⟩, HX.out.2.1⟩
  · rw [List.length_append, List.length_append, List.length_take, hvl, hdl]
    omega
  · rw [List.size_toArray]
    exact HX.out.2.2.2
  · exact HX.out.2.2.1
/-- slices.Insert of one block into a row of the call's own. -/
theorem insert_all (base : Nat) (v : Value) (n i vb : Nat) (vs cs : List Value) (w : World) (hown : w.ownsRow base 47 3 v n cs) (hbase : base ≤ w.heap.size) (hv : w.heap[vb]? = some (.cells vs.toArray 47 (0, 0))) (hvl : vs.length = 3) (hne : v.ownBlock ≠ some vb) (hi : i ≤ n) (hn : n ≤ 1000000)
    (h1c : ∀ v ∈ cs, v.oneCell' = true) (h1v : ∀ v ∈ vs, v.oneCell' = true) :
    Calls Tryd.prog 75 #[v, .int .i64 (i : Int), .slice (some ⟨vb, 0, none⟩) 1 1] w fun e w' => ∃ v', e = .returned v' ∧ w'.ownsRow base 47 3 v' (n + 1) (cs.take (i * 3) ++ vs ++ cs.drop (i * 3)) ∧ Below base w w' := by
  have hcl : cs.length = n * 3 := hown.1
  rcases Nat.lt_or_eq_of_le hi with hlt | heq
  · obtain ⟨g, cap, cur, e, hgb, hg, hnc, hcm, hsz, htk⟩ := hown.2.resolve_left (fun h => absurd hlt (by have := h.2; omega))
    subst e
    have hgv : vb ≠ g := fun h => hne (by rw [h]; rfl)
    by_cases hr : n + 1 ≤ cap
    · refine (insert_shift g n cap i vb cur vs cs w hg hv hvl hgv hlt hr (by unfold maxLen at hcm; omega) hsz htk h1c h1v).mono ?_
      rintro e w' ⟨rfl, hh, hB⟩
      refine ⟨_, rfl, ⟨?_, .inr ⟨g, cap, _, rfl, hgb, hh, hr, hcm, ?_, ?_⟩⟩, hB base hgb⟩
      · rw [List.length_append, List.length_append, List.length_take, List.length_drop, hvl]
        omega
      · rw [List.size_toArray]
        simp only [List.length_append, List.length_take, List.length_drop, Array.length_toList, hvl, hcl, hsz]
        omega
      · have e1 : (cur.toList.take ((i + 1) * 3)).length = (i + 1) * 3 := by rw [List.length_take, Array.length_toList]; omega
        have e2 : (cur.toList.take ((i + 1) * 3) ++ cs.drop (i * 3) ++ cur.toList.drop ((i + 1) * 3 + (cs.drop (i * 3)).length)).take (i * 3) = cs.take (i * 3) := by
          rw [List.append_assoc, List.take_append_of_le_length (by omega), List.take_take, ← htk, List.take_take]
          congr 1
          omega
        have e3 : (cur.toList.take ((i + 1) * 3) ++ cs.drop (i * 3) ++ cur.toList.drop ((i + 1) * 3 + (cs.drop (i * 3)).length)).drop (i * 3 + vs.length) = cs.drop (i * 3) ++ cur.toList.drop ((i + 1) * 3 + (cs.drop (i * 3)).length) := by
          rw [List.append_assoc, hvl, show i * 3 + 3 = (i + 1) * 3 by omega, List.drop_append_of_le_length (by omega), List.drop_eq_nil_of_le (by omega), List.nil_append]
        rw [e2, e3, List.toList_toArray, ← List.append_assoc]
        have l1 : (cs.take (i * 3) ++ vs ++ cs.drop (i * 3)).length = (n + 1) * 3 := by
          rw [List.length_append, List.length_append, List.length_take, List.length_drop, hvl]
          omega
        rw [List.take_append_of_le_length (by omega), List.take_of_length_le (by omega)]
    · have hcn : cap = n := by omega
      subst hcn
      refine (insert_grow g cap i vb cur vs cs w hg hv hvl hlt hn hsz (by rw [← htk, List.take_of_length_le (by rw [Array.length_toList]; omega)]) h1c h1v).mono ?_
      rintro e w' ⟨v', rfl, ho, hB⟩
      exact ⟨v', rfl, own_weaken ho hbase, hB.mono hbase⟩
  · subst heq
    rw [List.take_of_length_le (by omega), List.drop_eq_nil_of_le (by omega), List.append_nil]
    exact insert_end base v i vb vs cs w hown hbase hv hvl hn h1v
def ltV (x : S47) (y : S47) : Bool := decide (cmpV y x < 0)
def cntV (l : List S47) (x : S47) : Nat := (l.takeWhile (ltV x)).length
/-- The blocks of a list that is parted at a block: those ahead of it stand first. -/
def partedV (l : List S47) (x : S47) : Bool := (l.dropWhile (ltV x)).all fun y => !ltV x y
def outV (l : List S47) (x : S47) : List S47 :=
  if cntV l x < l.length ∧ cmpV (rd_T47 l (cntV l x : Int)) x = 0 then l.set (cntV l x) x else l.take (cntV l x) ++ [x] ++ l.drop (cntV l x)
theorem cntV_le (l : List S47) (x : S47) : cntV l x ≤ l.length := by
  have h := congrArg List.length (List.takeWhile_append_dropWhile (p := ltV x) (l := l))
  rw [List.length_append] at h
  unfold cntV
  omega
theorem rdT_get {l : List S47} {t : Nat} {y : S47} (h : l[t]? = some y) : rd_T47 l (t : Int) = y := by
  unfold rd_T47
  rw [Int.toNat_natCast, List.getD_eq_getElem?_getD, h]
  rfl
theorem cntV_lt {l : List S47} {x : S47} {t : Nat} (h : t < cntV l x) : cmpV (rd_T47 l (t : Int)) x < 0 := by
  have e := List.takeWhile_append_dropWhile (p := ltV x) (l := l)
  have hg : (l.takeWhile (ltV x))[t]? = some (l.takeWhile (ltV x))[t] := List.getElem?_eq_getElem h
  have hl : l[t]? = some (l.takeWhile (ltV x))[t] := by
    conv => lhs; rw [← e]
    rw [List.getElem?_append_left h, hg]
  rw [rdT_get hl]
  have hm := List.all_takeWhile (p := ltV x) (l := l)
  rw [List.all_eq_true] at hm
  simpa [ltV] using hm _ (List.getElem_mem h)
theorem cntV_ge {l : List S47} {x : S47} (hp : partedV l x = true) {t : Nat} (h : cntV l x ≤ t) (ht : t < l.length) : ¬ cmpV (rd_T47 l (t : Int)) x < 0 := by
  have e := List.takeWhile_append_dropWhile (p := ltV x) (l := l)
  have hl2 := congrArg List.length e
  rw [List.length_append] at hl2
  have hlt : t - cntV l x < (l.dropWhile (ltV x)).length := by unfold cntV at h ⊢; omega
  have hg : (l.dropWhile (ltV x))[t - cntV l x]? = some (l.dropWhile (ltV x))[t - cntV l x] := List.getElem?_eq_getElem hlt
  have hl : l[t]? = some (l.dropWhile (ltV x))[t - cntV l x] := by
    conv => lhs; rw [← e]
    rw [List.getElem?_append_right h]
    exact hg
  rw [rdT_get hl]
  unfold partedV at hp
  rw [List.all_eq_true] at hp
  simpa [ltV] using hp _ (List.getElem_mem hlt)
theorem cellsB_set : ∀ (l : List S47) (i : Nat) (x : S47), cellsB (l.set i x) = (((cellsB l).set (i * 3) (.string x.f0)).set (i * 3 + 1) (.string x.f1)).set (i * 3 + 2) (.string x.f2)
  | [], i, x => rfl
  | y :: r, 0, x => rfl
  | y :: r, i + 1, x => by
    rw [List.set_cons_succ, show (i + 1) * 3 = i * 3 + 1 + 1 + 1 by omega]
    simp only [cellsB, cellsB_set r i x, List.set_cons_succ, show i * 3 + 1 + 1 + 1 + 1 = (i * 3 + 1) + 1 + 1 + 1 by omega, show i * 3 + 1 + 1 + 1 + 2 = (i * 3 + 2) + 1 + 1 + 1 by omega]
theorem own_set {w : World} {base g cap i : Nat} {cur : Array Value} {l : List S47} (x : S47) (hg : w.heap[g]? = some (.cells cur 47 (0, 0))) (hb : base ≤ g) (hcap : l.length ≤ cap) (hcm : cap ≤ maxLen) (hsz : cur.size = cap * 3) (ht : cur.toList.take (l.length * 3) = cellsB l) :
    (((w.setCell ⟨g, i * 3, none⟩ (.string x.f0)).setCell ⟨g, i * 3 + 1, none⟩ (.string x.f1)).setCell ⟨g, i * 3 + 2, none⟩ (.string x.f2)).ownsRow base 47 3 (.slice (some ⟨g, 0, none⟩) (l.set i x).length cap) (l.set i x).length (cellsB (l.set i x)) ∧ Below g w (((w.setCell ⟨g, i * 3, none⟩ (.string x.f0)).setCell ⟨g, i * 3 + 1, none⟩ (.string x.f1)).setCell ⟨g, i * 3 + 2, none⟩ (.string x.f2)) := by
  rw [setCell_eq_setRow w g _ cur 47 (0, 0) _ hg]
  have h1 := setRow_heap w g cur (cur.setIfInBounds (i * 3) (.string x.f0)) 47 (0, 0) hg
  rw [setCell_eq_setRow _ g _ _ 47 (0, 0) _ h1]
  have h2 := setRow_heap _ g _ ((cur.setIfInBounds (i * 3) (.string x.f0)).setIfInBounds (i * 3 + 1) (.string x.f1)) 47 (0, 0) h1
  rw [setCell_eq_setRow _ g _ _ 47 (0, 0) _ h2]
  have h3 := setRow_heap _ g _ (((cur.setIfInBounds (i * 3) (.string x.f0)).setIfInBounds (i * 3 + 1) (.string x.f1)).setIfInBounds (i * 3 + 2) (.string x.f2)) 47 (0, 0) h2
  refine ⟨⟨cellsB_len _, .inr ⟨g, cap, _, rfl, hb, h3, by rw [List.length_set]; exact hcap, hcm, by simp [hsz], ?_⟩⟩, below_setRow (below_setRow (below_setRow (Below.refl g w) (Nat.le_refl _) _) (Nat.le_refl _) _) (Nat.le_refl _) _⟩
  rw [List.length_set, cellsB_set, ← ht]
  simp only [Array.toList_setIfInBounds, List.take_set]
theorem own_below {w w1 : World} {base : Nat} {e : TypeId} {size n : Nat} {v : Value} {xs : List Value} (h : w.ownsRow base e size v n xs) (hb : Below w.heap.size w w1) : w1.ownsRow base e size v n xs :=
  ⟨h.1, h.2.imp id fun ⟨g, cap, cur, e1, hgb, hg, r⟩ => ⟨g, cap, cur, e1, hgb, (hb.block g (blk_lt hg)).trans hg, r⟩⟩
def impl_withBlock.f (l0 : List S47) (a1_0 : ByteArray) (a1_1 : ByteArray) (a1_2 : ByteArray) : Option (List S47) :=
  if l0.length ≤ 1000000 ∧ partedV l0 ⟨a1_0, a1_1, a1_2⟩ = true then some (outV l0 ⟨a1_0, a1_1, a1_2⟩) else none
set_option maxHeartbeats 4000000 in
theorem impl_withBlock.calls (A0 : Option Addr) (c0 : Nat) (l0 : List S47) (a1_0 : ByteArray) (a1_1 : ByteArray) (a1_2 : ByteArray) (r : List S47) (w : World) (hr0 : Kd.C k47 w A0 l0.length l0) (hc0 : l0.length ≤ c0) (h : impl_withBlock.f l0 a1_0 a1_1 a1_2 = some r) :
    Calls Tryd.prog 49 #[.slice A0 l0.length c0, .agg #[.string a1_0, .string a1_1, .string a1_2]] w fun e w' => ∃ v0_ : Value, e = .returned (v0_) ∧ Kd.R k47 47 w' w.heap.size (fun _ => True) v0_ r ∧ Below w.heap.size w w' := by
  unfold impl_withBlock.f at h
  split at h
  · rename_i hh
    obtain rfl := Option.some.inj h
    clear h
    obtain ⟨hl, hp⟩ := hh
    have HR := Lib.hid hr0
    have hcl := cntV_le l0 ⟨a1_0, a1_1, a1_2⟩
    have HBS := fun W (h : Kd.C k47 W A0 l0.length l0) => bs_calls 6 (by omega) A0 c0 l0 ⟨a1_0, a1_1, a1_2⟩ (cntV l0 ⟨a1_0, a1_1, a1_2⟩) W h hc0 hl hcl (fun t ht => cntV_lt ht) (fun t h1 h2 => cntV_ge hp h1 h2)
    have HCL := fun W (h : Kd.C k47 W A0 l0.length l0) => clone_calls A0 c0 l0 W h hc0 hl
    have HS := Lib.hid HBS
    have HL := Lib.hid HCL
    clear hr0 HBS HCL hp
    unfold outV
    generalize hcnt : cntV l0 ⟨a1_0, a1_1, a1_2⟩ = cnt at *
    by_cases hin : cnt < l0.length ∧ cmpV (rd_T47 l0 (cnt : Int)) ⟨a1_0, a1_1, a1_2⟩ = 0
    · rw [if_pos hin]
      have hd : (decide (cnt < l0.length) && decide (cmpV (rd_T47 l0 (cnt : Int)) ⟨a1_0, a1_1, a1_2⟩ = 0)) = true := by rw [decide_eq_true hin.1, decide_eq_true hin.2]; rfl
      rw [hd] at HS
      go_enter Tryd.func49, Tryd.ntmps49
      have hA := below_alloc (Below.refl w.heap.size w) (.cells #[.string a1_0, .string a1_1, .string a1_2] 47)
      have HA := Lib.hid hA
      clear hA
      have hcl2 : ∀ w1, Below (w.alloc (.cells #[.string a1_0, .string a1_1, .string a1_2] 47)).heap.size (w.alloc (.cells #[.string a1_0, .string a1_1, .string a1_2] 47)) w1 → Calls Tryd.prog 74 #[.slice A0 l0.length c0] w1 fun e w2 => ∃ g cap cur u0 u1 u2, e = .returned (.slice (some ⟨g, 0, none⟩) l0.length cap) ∧
          (w2.cell? ⟨w.heap.size, 0, none⟩ = some (.string a1_0) ∧ w2.cell? ⟨w.heap.size, 1, none⟩ = some (.string a1_1) ∧ w2.cell? ⟨w.heap.size, 2, none⟩ = some (.string a1_2)) ∧
          (w2.cell? ⟨g, cnt * 3, none⟩ = some u0 ∧ w2.cell? ⟨g, cnt * 3 + 1, none⟩ = some u1 ∧ w2.cell? ⟨g, cnt * 3 + 2, none⟩ = some u2) ∧
          (w2.frozen? ⟨g, cnt * 3, none⟩ = false ∧ w2.frozen? ⟨g, cnt * 3 + 1, none⟩ = false ∧ w2.frozen? ⟨g, cnt * 3 + 2, none⟩ = false) ∧
          Hid (w.heap.size ≤ g ∧ w2.heap[g]? = some (.cells cur 47 (0, 0)) ∧ l0.length ≤ cap ∧ cap ≤ maxLen ∧ cur.size = cap * 3 ∧ cur.toList.take (l0.length * 3) = cellsB l0 ∧ Below w.heap.size w w2) := by
        intro w1 B1
        refine (HL.out _ (Kd.C_below HR.out (HA.out.trans (B1.mono HA.out.size)))).mono ?_
        rintro e w2 ⟨v, rfl, hown, hb⟩
        have hls : w.heap.size < (w.alloc (.cells #[.string a1_0, .string a1_1, .string a1_2] 47)).heap.size := by
          show w.heap.size < (w.heap.push _).size
          rw [Array.size_push]
          exact Nat.lt_succ_self _
        have hlt1 : w.heap.size < w1.heap.size := Nat.lt_of_lt_of_le hls B1.size
        have hK : w2.heap[w.heap.size]? = some (.cells #[.string a1_0, .string a1_1, .string a1_2] 47 (0, 0)) := (hb.block _ hlt1).trans ((B1.block _ hls).trans (heap_alloc_new w _))
        have hin1 := hin.1
        obtain ⟨g, cap, cur, e, hgb, hg, hnc, hcm, hsz, htk⟩ := hown.2.resolve_left (fun h => absurd hin1 (by have := h.2; omega))
        subst e
        have hq0 : cnt * 3 + 2 < cur.size := by omega
        exact ⟨g, cap, cur, _, _, _, rfl, ⟨blk_cell hK 0, blk_cell hK 1, blk_cell hK 2⟩, ⟨(cell_of_row w2 g _ cur 47 (0, 0) hg).trans (Array.getElem?_eq_getElem (by omega)), (cell_of_row w2 g _ cur 47 (0, 0) hg).trans (Array.getElem?_eq_getElem (by omega)), (cell_of_row w2 g _ cur 47 (0, 0) hg).trans (Array.getElem?_eq_getElem (by omega))⟩,
          ⟨blk_frozen hg _, blk_frozen hg _, blk_frozen hg _⟩, ⟨Nat.le_trans (Nat.le_of_lt hlt1) hgb, hg, hnc, hcm, hsz, htk, (HA.out.trans (B1.mono HA.out.size)).trans (hb.mono (Nat.le_of_lt hlt1))⟩⟩
      have hin1 := hin.1
      have HC2 := Lib.hid hcl2
      clear hcl2 HL
      go_wp2_with (first
        | (go_at_call 73; refine (HS.out _ (Kd.C_alloc HR.out _)).mono ?_; rintro e w1 ⟨rfl, hb⟩; have B1 := Lib.hid hb; clear hb)
        | (go_at_call 74; refine (HC2.out _ B1.out).mono ?_; rintro e w2 ⟨g, cap, cur, u0, u1, u2, rfl, ⟨ht0, ht1, ht2⟩, ⟨hs0, hs1, hs2⟩, ⟨hf0, hf1, hf2⟩, HO⟩))
      go_ret
      obtain ⟨hgb, hg, hnc, hcm, hsz, htk, hB⟩ := HO
      obtain ⟨ho, hb3⟩ := own_set (base := w.heap.size) (i := cnt) ⟨a1_0, a1_1, a1_2⟩ hg hgb hnc hcm hsz htk
      have hR := R_of_own ho
      rw [List.length_set] at hR
      exact ⟨_, rfl, hR, hB.trans (hb3.mono hgb)⟩
    · rw [if_neg hin]
      have hd : (decide (cnt < l0.length) && decide (cmpV (rd_T47 l0 (cnt : Int)) ⟨a1_0, a1_1, a1_2⟩ = 0)) = false := by
        rw [Bool.and_eq_false_iff]
        rcases Nat.lt_or_ge cnt l0.length with h1 | h1
        · exact .inr (decide_eq_false (fun h2 => hin ⟨h1, h2⟩))
        · exact .inl (decide_eq_false (by omega))
      rw [hd] at HS
      have hA := below_alloc (Below.refl w.heap.size w) (.cells #[.string a1_0, .string a1_1, .string a1_2] 47)
      have HA := Lib.hid hA
      clear hA hd
      have hcl2 : ∀ w1, Below (w.alloc (.cells #[.string a1_0, .string a1_1, .string a1_2] 47)).heap.size (w.alloc (.cells #[.string a1_0, .string a1_1, .string a1_2] 47)) w1 → Calls Tryd.prog 74 #[.slice A0 l0.length c0] w1 fun e w2 => ∃ v, e = .returned v ∧
          (w2.cell? ⟨w.heap.size, 0, none⟩ = some (.string a1_0) ∧ w2.cell? ⟨w.heap.size, 1, none⟩ = some (.string a1_1) ∧ w2.cell? ⟨w.heap.size, 2, none⟩ = some (.string a1_2)) ∧
          Hid (w2.ownsRow w.heap.size 47 3 v l0.length (cellsB l0) ∧ Below w.heap.size w w2) := by
        intro w1 B1
        refine (HL.out _ (Kd.C_below HR.out (HA.out.trans (B1.mono HA.out.size)))).mono ?_
        rintro e w2 ⟨v, rfl, hown, hb⟩
        have hls : w.heap.size < (w.alloc (.cells #[.string a1_0, .string a1_1, .string a1_2] 47)).heap.size := by
          show w.heap.size < (w.heap.push _).size
          rw [Array.size_push]
          exact Nat.lt_succ_self _
        have hlt1 : w.heap.size < w1.heap.size := Nat.lt_of_lt_of_le hls B1.size
        have hK : w2.heap[w.heap.size]? = some (.cells #[.string a1_0, .string a1_1, .string a1_2] 47 (0, 0)) := (hb.block _ hlt1).trans ((B1.block _ hls).trans (heap_alloc_new w _))
        exact ⟨v, rfl, ⟨blk_cell hK 0, blk_cell hK 1, blk_cell hK 2⟩, own_weaken hown (Nat.le_of_lt hlt1), (HA.out.trans (B1.mono HA.out.size)).trans (hb.mono (Nat.le_of_lt hlt1))⟩
      have hins : ∀ v w2, Hid (w2.ownsRow w.heap.size 47 3 v l0.length (cellsB l0) ∧ Below w.heap.size w w2) → Calls Tryd.prog 75 #[v, .int .i64 (cnt : Int), .slice (some ⟨w2.heap.size, 0, none⟩) 1 1] (w2.alloc (.cells #[.string a1_0, .string a1_1, .string a1_2] 47)) fun e w3 => ∃ v', e = .returned v' ∧ Hid (Kd.R k47 47 w3 w.heap.size (fun _ => True) v' (l0.take cnt ++ [⟨a1_0, a1_1, a1_2⟩] ++ l0.drop cnt) ∧ Below w.heap.size w w3) := by
        rintro v w2 ⟨ho, hB⟩
        have hA2 := below_alloc (Below.refl w2.heap.size w2) (.cells #[.string a1_0, .string a1_1, .string a1_2] 47)
        have ho2 : (w2.alloc (.cells #[.string a1_0, .string a1_1, .string a1_2] 47)).ownsRow w.heap.size 47 3 v l0.length (cellsB l0) := own_below ho hA2
        refine (insert_all w.heap.size v l0.length cnt w2.heap.size [.string a1_0, .string a1_1, .string a1_2] (cellsB l0) _ ho2 (Nat.le_trans hB.size hA2.size) (heap_alloc_new w2 _) rfl (fun h => by have := own_lt ho _ h; omega) hcl hl (cellsB_one l0) (by
          intro u hu
          simp only [List.mem_cons, List.not_mem_nil, or_false] at hu
          rcases hu with rfl | rfl | rfl <;> rfl)).mono ?_
        rintro e w3 ⟨v', rfl, ho3, hB3⟩
        refine ⟨v', rfl, R_of_own ?_, (hB.trans (hA2.mono hB.size)).trans hB3⟩
        have e1 : cellsB (l0.take cnt ++ [⟨a1_0, a1_1, a1_2⟩] ++ l0.drop cnt) = (cellsB l0).take (cnt * 3) ++ [.string a1_0, .string a1_1, .string a1_2] ++ (cellsB l0).drop (cnt * 3) := by
          rw [cellsB_app, cellsB_app, cellsB_take, cellsB_drop]
          rfl
        have e2 : (l0.take cnt ++ [(⟨a1_0, a1_1, a1_2⟩ : S47)] ++ l0.drop cnt).length = l0.length + 1 := by
          rw [List.length_append, List.length_append, List.length_take, List.length_drop]
          simp
          omega
        rw [e1, e2]
        exact ho3
      have HC2 := Lib.hid hcl2
      have HI := Lib.hid hins
      clear hcl2 HL hins
      go_enter Tryd.func49, Tryd.ntmps49
      go_wp2_with (first
        | (go_at_call 73; refine (HS.out _ (Kd.C_alloc HR.out _)).mono ?_; rintro e w1 ⟨rfl, hb⟩; have B1 := Lib.hid hb; clear hb)
        | (go_at_call 74; refine (HC2.out _ B1.out).mono ?_; rintro e w2 ⟨v, rfl, ⟨ht0, ht1, ht2⟩, HO⟩)
        | (go_at_call 75; refine (HI.out _ _ HO).mono ?_; rintro e w3 ⟨v', rfl, HX⟩))
      go_ret
      exact ⟨_, rfl, HX.1, HX.2⟩
  · cases h

/-! ### impl_PutBlock: function 29 -/
def impl_PutBlock.j0 : Nat → List (S47) → Bool → ByteArray → ByteArray → ByteArray → Option ((List (S47)) × Int)
  | 0, _, _, _, _, _ => none
  | k + 1, x0, x14, x223000, x223001, x223002 => if x14 = true then (some (([] : List (S47)), 1)) else ((impl_withBlock.f x0 x223000 x223001 x223002).bind fun t225 => (if (t225.length : Int) > 32 then (some (([] : List (S47)), 5)) else (some (t225, 0))))
def impl_PutBlock.f (k : Nat) (l0 : List (S47)) (a1_0 : ByteArray) (a1_1 : ByteArray) (a1_2 : ByteArray) : Option ((List (S47)) × Int) := (impl_ValidBlocks.f k l0).bind fun t223 => (if t223 = true then ((impl_ValidBlock.f k a1_0 a1_1 a1_2).bind fun t224 => (impl_PutBlock.j0 k l0 (!t224) a1_0 a1_1 a1_2)) else (impl_PutBlock.j0 k l0 true a1_0 a1_1 a1_2))
theorem impl_PutBlock.mono_l : ∀ k, (∀ y0 y1 y2 y3 y4, LeO (impl_PutBlock.j0 k y0 y1 y2 y3 y4) (impl_PutBlock.j0 (k + 1) y0 y1 y2 y3 y4))
  | 0 => fun _ _ _ _ _ r h => by simp [impl_PutBlock.j0] at h
  | k + 1 => by
    have ih0 := impl_PutBlock.mono_l k
    · intro y0 y1 y2 y3 y4
      unfold impl_PutBlock.j0
      repeat' first
      | (with_reducible exact ih0 _ _ _ _ _)
      | (with_reducible exact impl_ValidBlock.mono _ _ _ _)
      | (with_reducible exact impl_ValidBlocks.mono _ _)
      | (with_reducible exact LeO.refl _)
      | (with_reducible exact LeO.none _)
      | (with_reducible refine LeO.ite ?_ ?_)
      | (with_reducible refine LeO.bind ?_ (fun _ => ?_))
      | exact ih0 _ _ _ _ _
      | exact impl_ValidBlock.mono _ _ _ _
      | exact impl_ValidBlocks.mono _ _
      | exact LeO.none _
      | refine LeO.ite ?_ ?_
      | refine LeO.bind ?_ (fun _ => ?_)
theorem impl_PutBlock.mono : ∀ a0 a1 a2 a3 k, LeO (impl_PutBlock.f k a0 a1 a2 a3) (impl_PutBlock.f (k + 1) a0 a1 a2 a3) := by
  intro a0 a1 a2 a3 k
  have ih0 := impl_PutBlock.mono_l k
  unfold impl_PutBlock.f
  repeat' first
      | (with_reducible exact ih0 _ _ _ _ _)
      | (with_reducible exact impl_ValidBlock.mono _ _ _ _)
      | (with_reducible exact impl_ValidBlocks.mono _ _)
      | (with_reducible exact LeO.refl _)
      | (with_reducible exact LeO.none _)
      | (with_reducible refine LeO.ite ?_ ?_)
      | (with_reducible refine LeO.bind ?_ (fun _ => ?_))
      | exact ih0 _ _ _ _ _
      | exact impl_ValidBlock.mono _ _ _ _
      | exact impl_ValidBlocks.mono _ _
      | exact LeO.none _
      | refine LeO.ite ?_ ?_
      | refine LeO.bind ?_ (fun _ => ?_)
set_option maxHeartbeats 8000000 in
set_option maxRecDepth 100000 in
theorem impl_PutBlock.calls (k : Nat) (A0 : Option Addr) (c0 : Nat) (l0 : List (S47)) (a1_0 : ByteArray) (a1_1 : ByteArray) (a1_2 : ByteArray) (r1 : List (S47)) (r2 : Int) (w : World) (hr0 : Kd.C k47 w A0 l0.length l0) (hc0 : l0.length ≤ c0) (h : impl_PutBlock.f k l0 a1_0 a1_1 a1_2 = some (r1, r2)) (hL : LaidW w) :
    Calls Tryd.prog 29 #[.slice A0 l0.length c0, .agg #[.string a1_0, .string a1_1, .string a1_2]] w fun e w' => ∃ v0_ : Value, e = .returned (.tuple #[v0_, .int .i64 r2]) ∧ Kd.R k47 47 w' w.heap.size (fun _ => True) v0_ r1 ∧ Below w.heap.size w w' := by
  have hu47 := Tryd.underlying47
  have HLa := Aside0.mk hL
  clear hL
  have HR0 := Aside0.mk hr0
  have HC0 := Aside0.mk hc0
  clear hr0 hc0
  have HB := Aside0.mk (Below.refl w.heap.size w)
  have H : ((impl_ValidBlocks.f k l0).bind fun t223 => (if t223 = true then ((impl_ValidBlock.f k a1_0 a1_1 a1_2).bind fun t224 => (impl_PutBlock.j0 k l0 (!t224) a1_0 a1_1 a1_2)) else (impl_PutBlock.j0 k l0 true a1_0 a1_1 a1_2))) = some (r1, r2) := h
  clear h
  have HC3 := Aside0.mk H
  clear H
  go_enter Tryd.func29, Tryd.ntmps29
  go_upto_region 1 with (first | ((with_reducible refine gate_dst (N := 3) rfl ?_); refine box_event ?hg (N := 3) ?hd (cs := #[.string a1_0, .string a1_1, .string a1_2]) (t := 47) ?hr ?_; (case hd => rfl); (case hg => rfl); (case hr => first | (go_simp; done) | (go_simp; rfl)); intro gb222 hg w4 hbox hb; have n0_ := Aside0.mk (below_step (by repeat (first | (with_reducible first | exact HB.out | apply below_alloc | apply pw_below_drewN | apply below_drew1) | exact HB.out)) hb); have n1_ := Aside0.mk (hbox); have n2_ := Aside0.mk ((by rw [hg]; exact (below_size (by repeat (first | (with_reducible first | exact HB.out | apply below_alloc | apply pw_below_drewN | apply below_drew1) | exact HB.out))) : w.heap.size ≤ gb222)); have n3_ := Aside0.mk ((by rw [hg]; exact (below_size (by repeat (first | (with_reducible first | exact HB.out | apply below_alloc | apply pw_below_drewN | apply below_drew1) | exact HB.out))) : w.heap.size ≤ gb222)); clear HB; have HB := n0_; have BK222 := n1_; have GW222 := n2_; have GE222 := n3_; clear n0_ n1_ n2_ n3_; clear hb hbox hg))
  (try simp only [Act.put, List.setIfInBounds_toArray, List.set_cons_zero, List.set_cons_succ])
  go_cut [14] (fun v14 wc => ∃ (kq : Nat) (x14_2 : Bool), v14 = .bool x14_2 ∧ Aside0 (impl_PutBlock.j0 kq l0 x14_2 a1_0 a1_1 a1_2 = some (r1, r2)) ∧ Aside0 (kq ≤ k) ∧ Aside0 (wc.heap[gb222]? = some (.cells #[.string a1_0, .string a1_1, .string a1_2] 47 (0, 0))) ∧ Aside0 (Below w.heap.size w wc))
  case first =>
    have H := HC3.out
    clear HC3
    replace H := Option.bind_eq_some_iff.mp H
    obtain ⟨t223, A50, H⟩ := H
    replace H : (if t223 = true then ((impl_ValidBlock.f k a1_0 a1_1 a1_2).bind fun t224 => (impl_PutBlock.j0 k l0 (!t224) a1_0 a1_1 a1_2)) else (impl_PutBlock.j0 k l0 true a1_0 a1_1 a1_2)) = some (r1, r2) := H
    have A5 := Aside0.mk A50
    clear A50
    by_cases c6 : t223 = true
    · subst c6
      have H1 : ((impl_ValidBlock.f k a1_0 a1_1 a1_2).bind fun t224 => (impl_PutBlock.j0 k l0 (!t224) a1_0 a1_1 a1_2)) = some (r1, r2) := by rw [if_pos rfl] at H; exact H
      clear H
      have H := H1
      clear H1
      replace H := Option.bind_eq_some_iff.mp H
      obtain ⟨t224, A70, H⟩ := H
      replace H : (impl_PutBlock.j0 k l0 (!t224) a1_0 a1_1 a1_2) = some (r1, r2) := H
      have A7 := Aside0.mk A70
      clear A70
      have H' := Aside0.mk H
      clear H
      go_wp2_with (first | ((with_reducible refine gate_callee (f := 48) rfl ?_); refine goesL_ (some 8) rfl rfl Tryd.func48 (by kernel_rfl) rfl #[.slice A0 l0.length c0] rfl (by (try simp only [List.map_toArray, List.map_cons, List.map_nil]); first | done | rfl | (simp only [List.length_drop, List.length_take]; rfl)) ?_; (with_reducible refine (impl_ValidBlocks.calls k _ _ l0 true _ ?side1 ?side2 A5.out ?side3).mono ?_); (case side1 => repeat (first | exact (Kd.C_below HR0.out HB.out) | (with_reducible refine Kd.C_alloc ?_ _) | (with_reducible refine Kd.C_drewN ?_ _) | (with_reducible refine Kd.C_drew ?_))); (case side2 => exact HC0.out); (case side3 => first | exact HLa.out | exact LaidW.below HLa.out (by repeat (first | (with_reducible first | exact HB.out | apply below_alloc | apply pw_below_drewN | apply below_drew1 | refine below_set ?_ GE222.out) | exact HB.out))); rintro e w8 ⟨rfl, hb⟩; refine ⟨_, rfl, ?_⟩; have n0_ := Aside0.mk (blk_below (g := gb222) (o := .cells #[.string a1_0, .string a1_1, .string a1_2] 47 (0, 0)) (by (with_reducible repeat (first | refine blk_drewN ?_ _ | refine blk_drew ?_ | refine blk_alloc ?_ _)); exact BK222.out) hb); have n1_ := Aside0.mk (below_step (by repeat (first | (with_reducible first | exact HB.out | apply below_alloc | apply pw_below_drewN | apply below_drew1 | refine below_set ?_ GE222.out) | exact HB.out)) hb); clear BK222; clear HB; have BK222 := n0_; have HB := n1_; clear n0_ n1_; (try clear hb); (try clear hb2); (try clear hk); (try clear hi); have hcz9_0 : w8.cell? ⟨gb222, 0, none⟩ = some (.string a1_0) := (blk_cell BK222.out 0).trans rfl; have hcz9_1 : w8.cell? ⟨gb222, 1, none⟩ = some (.string a1_1) := (blk_cell BK222.out 1).trans rfl; have hcz9_2 : w8.cell? ⟨gb222, 2, none⟩ = some (.string a1_2) := (blk_cell BK222.out 2).trans rfl; have hfz9_0 := blk_frozen BK222.out 0; have hfz9_1 := blk_frozen BK222.out 1; have hfz9_2 := blk_frozen BK222.out 2) | (go_at_call 47; (with_reducible refine (impl_ValidBlock.calls k a1_0 a1_1 a1_2 t224 _ A7.out ?side1).mono ?_); (case side1 => first | exact HLa.out | exact LaidW.below HLa.out (by repeat (first | (with_reducible first | exact HB.out | apply below_alloc | apply pw_below_drewN | apply below_drew1 | refine below_set ?_ GE222.out) | exact HB.out))); rintro e w10 ⟨rfl, hb⟩; have n0_ := Aside0.mk (blk_below (g := gb222) (o := .cells #[.string a1_0, .string a1_1, .string a1_2] 47 (0, 0)) (by (with_reducible repeat (first | refine blk_drewN ?_ _ | refine blk_drew ?_ | refine blk_alloc ?_ _)); exact BK222.out) hb); have n1_ := Aside0.mk (below_step (by repeat (first | (with_reducible first | exact HB.out | apply below_alloc | apply pw_below_drewN | apply below_drew1 | refine below_set ?_ GE222.out) | exact HB.out)) hb); clear BK222; clear HB; have BK222 := n0_; have HB := n1_; clear n0_ n1_; (try clear hb); (try clear hb2); (try clear hk); (try clear hi)))
      go_meet
      case rel => exact ⟨_, (!t224), (by first | rfl | (simp; done) | (simp [*]; done)), H', ⟨by first | omega | exact Nat.le_refl _⟩, ⟨by (with_reducible repeat (first | refine blk_drewN ?_ _ | refine blk_drew ?_ | refine blk_alloc ?_ _)); exact BK222.out⟩, ⟨by repeat (first | (with_reducible first | exact HB.out | apply below_alloc | apply pw_below_drewN | apply below_drew1 | refine below_set ?_ GE222.out) | exact HB.out)⟩⟩
    · replace c6 := Bool.eq_false_iff.mpr c6
      subst c6
      have H1 : (impl_PutBlock.j0 k l0 true a1_0 a1_1 a1_2) = some (r1, r2) := by rw [if_neg (show ¬ (false = true) by decide)] at H; exact H
      clear H
      have H := H1
      clear H1
      have H' := Aside0.mk H
      clear H
      go_wp2_with (first | ((with_reducible refine gate_callee (f := 48) rfl ?_); refine goesL_ (some 8) rfl rfl Tryd.func48 (by kernel_rfl) rfl #[.slice A0 l0.length c0] rfl (by (try simp only [List.map_toArray, List.map_cons, List.map_nil]); first | done | rfl | (simp only [List.length_drop, List.length_take]; rfl)) ?_; (with_reducible refine (impl_ValidBlocks.calls k _ _ l0 false _ ?side1 ?side2 A5.out ?side3).mono ?_); (case side1 => repeat (first | exact (Kd.C_below HR0.out HB.out) | (with_reducible refine Kd.C_alloc ?_ _) | (with_reducible refine Kd.C_drewN ?_ _) | (with_reducible refine Kd.C_drew ?_))); (case side2 => exact HC0.out); (case side3 => first | exact HLa.out | exact LaidW.below HLa.out (by repeat (first | (with_reducible first | exact HB.out | apply below_alloc | apply pw_below_drewN | apply below_drew1 | refine below_set ?_ GE222.out) | exact HB.out))); rintro e w11 ⟨rfl, hb⟩; refine ⟨_, rfl, ?_⟩; have n0_ := Aside0.mk (blk_below (g := gb222) (o := .cells #[.string a1_0, .string a1_1, .string a1_2] 47 (0, 0)) (by (with_reducible repeat (first | refine blk_drewN ?_ _ | refine blk_drew ?_ | refine blk_alloc ?_ _)); exact BK222.out) hb); have n1_ := Aside0.mk (below_step (by repeat (first | (with_reducible first | exact HB.out | apply below_alloc | apply pw_below_drewN | apply below_drew1 | refine below_set ?_ GE222.out) | exact HB.out)) hb); clear BK222; clear HB; have BK222 := n0_; have HB := n1_; clear n0_ n1_; (try clear hb); (try clear hb2); (try clear hk); (try clear hi)))
      go_meet
      case rel => exact ⟨_, (true), (by first | rfl | (simp; done) | (simp [*]; done)), H', ⟨by first | omega | exact Nat.le_refl _⟩, ⟨by (with_reducible repeat (first | refine blk_drewN ?_ _ | refine blk_drew ?_ | refine blk_alloc ?_ _)); exact BK222.out⟩, ⟨by repeat (first | (with_reducible first | exact HB.out | apply below_alloc | apply pw_below_drewN | apply below_drew1 | refine below_set ?_ GE222.out) | exact HB.out)⟩⟩
  case rest =>
    clear HC3
    try clear c2
    try clear p2
    try clear c4
    try clear c6
    try clear hcz9_0
    try clear hcz9_1
    try clear hcz9_2
    try clear hfz9_0
    try clear hfz9_1
    try clear hfz9_2
    obtain ⟨kq, x14_2, rfl, HA, HJ2, BK222, HB⟩ := hcut
    cases kq with
    | zero => exact absurd HA.out (by simp [impl_PutBlock.j0])
    | succ kj2 =>
      have H := HA.out
      clear HA
      simp only [impl_PutBlock.j0] at H
      by_cases c12 : x14_2 = true
      · subst c12
        have H1 : (some (([] : List (S47)), 1)) = some (r1, r2) := by rw [if_pos rfl] at H; exact H
        clear H
        have H := H1
        clear H1
        simp only [Option.some.injEq, Prod.mk.injEq] at H
        obtain ⟨rfl, rfl⟩ := H
        go_wp2
        go_ret2
        exact ⟨_, by first | rfl | (simp [errW_none, errW_some] <;> rfl) | (simp [*, errW_none, errW_some] <;> rfl), by first | exact Kd.R_nil _ _ _ _ _ | exact Kd.N_nil _ _ _ _ _ | exact Kd.V_nil _ _ _ _ _ | exact Kd.Q_nil _ _ _ _ _ | exact Kd.S_nil _ _ _ _ _, by repeat (first | (with_reducible first | exact HB.out | apply below_alloc | apply pw_below_drewN | apply below_drew1 | refine below_set ?_ GE222.out) | exact HB.out)⟩
      · replace c12 := Bool.eq_false_iff.mpr c12
        subst c12
        have H1 : ((impl_withBlock.f l0 a1_0 a1_1 a1_2).bind fun t225 => (if (t225.length : Int) > 32 then (some (([] : List (S47)), 5)) else (some (t225, 0)))) = some (r1, r2) := by rw [if_neg (show ¬ (false = true) by decide)] at H; exact H
        clear H
        have H := H1
        clear H1
        replace H := Option.bind_eq_some_iff.mp H
        obtain ⟨t225, A130, H⟩ := H
        replace H : (if (t225.length : Int) > 32 then (some (([] : List (S47)), 5)) else (some (t225, 0))) = some (r1, r2) := H
        have A13 := Aside0.mk A130
        clear A130
        by_cases c14 : (t225.length : Int) > 32
        · rw [if_pos c14] at H
          have c14b0 : decide (32 < (t225.length : Int)) = true := decide_eq_true c14
          have c14b1 : decide (32 < t225.length) = true := decide_eq_true (by omega)
          clear c14
          simp only [Option.some.injEq, Prod.mk.injEq] at H
          obtain ⟨rfl, rfl⟩ := H
          have hcz15_0 : wc.cell? ⟨gb222, 0, none⟩ = some (.string a1_0) := (blk_cell BK222.out 0).trans rfl
          have hcz15_1 : wc.cell? ⟨gb222, 1, none⟩ = some (.string a1_1) := (blk_cell BK222.out 1).trans rfl
          have hcz15_2 : wc.cell? ⟨gb222, 2, none⟩ = some (.string a1_2) := (blk_cell BK222.out 2).trans rfl
          have hfz15_0 := blk_frozen BK222.out 0
          have hfz15_1 := blk_frozen BK222.out 1
          have hfz15_2 := blk_frozen BK222.out 2
          go_wp2_with (first | ((with_reducible refine gate_callee (f := 49) rfl ?_); refine goesL_ (some 17) rfl rfl Tryd.func49 (by kernel_rfl) rfl #[.slice A0 l0.length c0, .agg #[.string a1_0, .string a1_1, .string a1_2]] rfl (by (try simp only [List.map_toArray, List.map_cons, List.map_nil]); first | done | rfl | (simp only [List.length_drop, List.length_take]; rfl)) ?_; (with_reducible refine (impl_withBlock.calls _ _ l0 a1_0 a1_1 a1_2 t225 _ ?side1 ?side2 A13.out).mono ?_); (case side1 => repeat (first | exact (Kd.C_below HR0.out HB.out) | (with_reducible refine Kd.C_alloc ?_ _) | (with_reducible refine Kd.C_drewN ?_ _) | (with_reducible refine Kd.C_drew ?_))); (case side2 => exact HC0.out); rintro e w16 ⟨v226, rfl, ho0, hb⟩; refine ⟨_, rfl, ?_⟩; have n0_ := Aside0.mk (Kd.R_lower (Kd.R_newB ho0 (g := gb222) (o := .cells #[.string a1_0, .string a1_1, .string a1_2] 47 (0, 0)) (by (with_reducible repeat (first | refine blk_drewN ?_ _ | refine blk_drew ?_ | refine blk_alloc ?_ _)); exact BK222.out)) (below_size (by repeat (first | (with_reducible first | exact HB.out | apply below_alloc | apply pw_below_drewN | apply below_drew1 | refine below_set ?_ GE222.out) | exact HB.out)))); have n1_ := Aside0.mk (blk_below (g := gb222) (o := .cells #[.string a1_0, .string a1_1, .string a1_2] 47 (0, 0)) (by (with_reducible repeat (first | refine blk_drewN ?_ _ | refine blk_drew ?_ | refine blk_alloc ?_ _)); exact BK222.out) hb); have n2_ := Aside0.mk (below_step (by repeat (first | (with_reducible first | exact HB.out | apply below_alloc | apply pw_below_drewN | apply below_drew1 | refine below_set ?_ GE222.out) | exact HB.out)) hb); clear BK222; clear HB; have HO227 := n0_; have BK222 := n1_; have HB := n2_; clear n0_ n1_ n2_; (try clear hb); (try clear hb2); (try clear hk); (try clear hi); (try clear ho0); obtain ⟨Ao17, co17, eo17⟩ := Kd.R_slice HO227.out; subst eo17))
          go_ret2
          exact ⟨_, by first | rfl | (simp [errW_none, errW_some] <;> rfl) | (simp [*, errW_none, errW_some] <;> rfl), by first | exact Kd.R_nil _ _ _ _ _ | exact Kd.N_nil _ _ _ _ _ | exact Kd.V_nil _ _ _ _ _ | exact Kd.Q_nil _ _ _ _ _ | exact Kd.S_nil _ _ _ _ _, by repeat (first | (with_reducible first | exact HB.out | apply below_alloc | apply pw_below_drewN | apply below_drew1 | refine below_set ?_ GE222.out) | exact HB.out)⟩
        · rw [if_neg c14] at H
          have c14b0 : decide (32 < (t225.length : Int)) = false := decide_eq_false c14
          have c14b1 : decide (32 < t225.length) = false := decide_eq_false (by omega)
          clear c14
          simp only [Option.some.injEq, Prod.mk.injEq] at H
          obtain ⟨rfl, rfl⟩ := H
          have hcz18_0 : wc.cell? ⟨gb222, 0, none⟩ = some (.string a1_0) := (blk_cell BK222.out 0).trans rfl
          have hcz18_1 : wc.cell? ⟨gb222, 1, none⟩ = some (.string a1_1) := (blk_cell BK222.out 1).trans rfl
          have hcz18_2 : wc.cell? ⟨gb222, 2, none⟩ = some (.string a1_2) := (blk_cell BK222.out 2).trans rfl
          have hfz18_0 := blk_frozen BK222.out 0
          have hfz18_1 := blk_frozen BK222.out 1
          have hfz18_2 := blk_frozen BK222.out 2
          go_wp2_with (first | ((with_reducible refine gate_callee (f := 49) rfl ?_); refine goesL_ (some 17) rfl rfl Tryd.func49 (by kernel_rfl) rfl #[.slice A0 l0.length c0, .agg #[.string a1_0, .string a1_1, .string a1_2]] rfl (by (try simp only [List.map_toArray, List.map_cons, List.map_nil]); first | done | rfl | (simp only [List.length_drop, List.length_take]; rfl)) ?_; (with_reducible refine (impl_withBlock.calls _ _ l0 a1_0 a1_1 a1_2 t225 _ ?side1 ?side2 A13.out).mono ?_); (case side1 => repeat (first | exact (Kd.C_below HR0.out HB.out) | (with_reducible refine Kd.C_alloc ?_ _) | (with_reducible refine Kd.C_drewN ?_ _) | (with_reducible refine Kd.C_drew ?_))); (case side2 => exact HC0.out); rintro e w19 ⟨v226, rfl, ho0, hb⟩; refine ⟨_, rfl, ?_⟩; have n0_ := Aside0.mk (Kd.R_lower (Kd.R_newB ho0 (g := gb222) (o := .cells #[.string a1_0, .string a1_1, .string a1_2] 47 (0, 0)) (by (with_reducible repeat (first | refine blk_drewN ?_ _ | refine blk_drew ?_ | refine blk_alloc ?_ _)); exact BK222.out)) (below_size (by repeat (first | (with_reducible first | exact HB.out | apply below_alloc | apply pw_below_drewN | apply below_drew1 | refine below_set ?_ GE222.out) | exact HB.out)))); have n1_ := Aside0.mk (blk_below (g := gb222) (o := .cells #[.string a1_0, .string a1_1, .string a1_2] 47 (0, 0)) (by (with_reducible repeat (first | refine blk_drewN ?_ _ | refine blk_drew ?_ | refine blk_alloc ?_ _)); exact BK222.out) hb); have n2_ := Aside0.mk (below_step (by repeat (first | (with_reducible first | exact HB.out | apply below_alloc | apply pw_below_drewN | apply below_drew1 | refine below_set ?_ GE222.out) | exact HB.out)) hb); clear BK222; clear HB; have HO227 := n0_; have BK222 := n1_; have HB := n2_; clear n0_ n1_ n2_; (try clear hb); (try clear hb2); (try clear hk); (try clear hi); (try clear ho0); obtain ⟨Ao20, co20, eo20⟩ := Kd.R_slice HO227.out; subst eo20))
          go_ret2
          exact ⟨_, by first | rfl | (simp [errW_none, errW_some] <;> rfl) | (simp [*, errW_none, errW_some] <;> rfl), by (with_reducible repeat (first | apply Kd.R_alloc | apply Kd.R_drewN | apply Kd.R_drew)); exact Kd.R_mono HO227.out (fun _ hk => trivial), by repeat (first | (with_reducible first | exact HB.out | apply below_alloc | apply pw_below_drewN | apply below_drew1 | refine below_set ?_ GE222.out) | exact HB.out)⟩

end Go.Proofs.YtimgebbbonfopaaDoor.QFnExactSalvageBlocks
