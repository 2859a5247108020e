/- What a call leans on of the library's package variables, and small lemmas on rows of strings. -/
import Derived.Test.YtfhonidhhipllaaDoorShelf
import Derived.Lib.AppendIntMem
import Derived.Lib.AtoiErrMem
import Derived.Test.YtfhonidhhipllaaDoorWWords
namespace Go.Proofs.YtfhonidhhipllaaDoor
open Go.RowKit Go.Proofs.YtfhonidhhipllaaDoorW.PrintWords

/-- The variables, as the row lays them: the powers of ten, the two errors, and some length. -/
structure LaidW (w : World) : Prop where
  tab : Lib.TabIs Tryd.prog w "internal/strconv.uint64pow10" .u64 Lib.pow10Tab
  es : ∃ tp p, w.var? Tryd.prog "strconv.ErrSyntax" = some #[.iface tp p]
  er : ∃ tp p, w.var? Tryd.prog "strconv.ErrRange" = some #[.iface tp p]
  ml : ∃ m, w.cell? ⟨0, 0, none⟩ = some (.int .i64 m)
theorem var_kept {P : Program} {w w' : World} {n : String} {cs : Array Value} (hb : ∀ k, k < w.heap.size → w'.heap[k]? = w.heap[k]?) (h : w.var? P n = some cs) : w'.var? P n = some cs := by
  unfold World.var? at h ⊢
  cases hg : P.globalNamed n with
  | none => rw [hg] at h; cases h
  | some g =>
    rw [hg] at h
    simp only [Option.bind_some] at h ⊢
    have hlt : g < w.heap.size := by
      rcases Nat.lt_or_ge g w.heap.size with hl | hl
      · exact hl
      · rw [Array.getElem?_eq_none hl] at h
        cases h
    rw [hb g hlt]
    exact h
theorem LaidW.heap {w w' : World} (h : LaidW w) (hb : ∀ k, k < w.heap.size → w'.heap[k]? = w.heap[k]?) : LaidW w' := by
  obtain ⟨t, ⟨a, b, hs⟩, ⟨c, d, hr⟩, m, hm⟩ := h
  refine ⟨var_kept hb t, ⟨a, b, var_kept hb hs⟩, ⟨c, d, var_kept hb hr⟩, m, ?_⟩
  have hlt := World.block_lt_of_cell? w _ hm
  simpa [World.cell?, hb 0 hlt] using hm
theorem LaidW.below {w w' : World} (h : LaidW w) (hb : Below w.heap.size w w') : LaidW w' := h.heap hb.block
theorem LaidW.drewN {w : World} (h : LaidW w) (n : Nat) : LaidW (w.drewN n) := h.heap (fun _ _ => rfl)

theorem reps_strs {xs : List ByteArray} {w : World} {b : Nat} {ok : Nat → Prop} : Reps (Kd.string.M w b ok) 1 xs (xs.map Value.string) := by
  refine ⟨by simp, fun j p hj => ?_⟩
  show _ = [Value.string p]
  rw [Nat.mul_one, List.take_one, List.head?_drop, List.getElem?_map, hj]
  rfl
/-- A row of strings in a block of its own, with room behind it. -/
theorem strs_own (w : World) (e : Nat) (xs : List ByteArray) (N : Nat) (h : xs.length ≤ N) (hN : N ≤ 9223372036854775807) :
    Kd.R Kd.string e (w.alloc (.cells (Lib.cellsOf xs N) e)) w.heap.size (fun _ => True) (.slice (some ⟨w.heap.size, 0, none⟩) xs.length N) xs := by
  refine ⟨fun _ _ => trivial, xs.map Value.string, ⟨by simp [Kd.string, Kd.scalar], .inr ⟨w.heap.size, N, Lib.cellsOf xs N, rfl, Nat.le_refl _, heap_alloc_new w _, h, hN, ?_, ?_⟩⟩, reps_strs⟩
  · show _ = N * 1
    rw [Lib.cellsOf_size h, Nat.mul_one]
  · show List.take (xs.length * 1) _ = _
    unfold Lib.cellsOf
    simp
theorem strs_lit (w : World) (e : Nat) (xs : List ByteArray) (hN : xs.length ≤ 9223372036854775807) :
    Kd.R Kd.string e (w.alloc (.cells (xs.map Value.string).toArray e)) w.heap.size (fun _ => True) (.slice (some ⟨w.heap.size, 0, none⟩) xs.length xs.length) xs := by
  have := strs_own w e xs xs.length (Nat.le_refl _) hN
  rwa [Lib.cellsOf_full] at this
/-- What is read as a row of strings, cell by cell. -/
theorem strs_cells {w : World} {A : Option Addr} {xs : List ByteArray} (h : Kd.C Kd.string w A xs.length xs) (h0 : 0 < xs.length) : ∃ b o, A = some ⟨b, o, none⟩ ∧ ∀ (j : Nat) x, xs[j]? = some x → w.cell? ⟨b, o + j, none⟩ = some (.string x) := by
  obtain ⟨_, _, h2⟩ := h
  obtain ⟨ad, rfl, hc⟩ := h2 h0
  have h3 : ∀ (j : Nat) x, xs[j]? = some x → w.cell? (ad.add j) = some (.string x) := by
    intro j x hj
    obtain ⟨c, hl, hr, hu⟩ := hc j x hj
    have hr' : c = [Value.string x] := hr
    subst hr'
    have := hu 0 _ rfl
    simpa [Kd.string, Kd.scalar] using this
  have h4 := h3 0 xs[0] (List.getElem?_eq_getElem h0)
  obtain ⟨b, o, spot⟩ := ad
  cases spot with
  | some z =>
    exfalso
    simp only [Addr.add, if_true, World.cell?] at h4
    split at h4
    · simp at h4
    · cases h4
  | none =>
    refine ⟨b, o, rfl, fun j x hj => ?_⟩
    have := h3 j x hj
    by_cases hj0 : j = 0
    · subst hj0
      simpa [Addr.add] using this
    · simpa [Addr.add, hj0] using this
/-- What lies where a pointer leads. -/
def PtrAt (w : World) (B o : Nat) (vs : Array Value) : Prop := ∀ (j : Nat) v, vs[j]? = some v → w.cell? ⟨B, o + j, none⟩ = some v
theorem PtrAt.block {w : World} {B : Nat} {vs : Array Value} {t : TypeId} {z : Nat × Nat} (h : w.heap[B]? = some (.cells vs t z)) : PtrAt w B 0 vs := by
  intro j v hj
  rw [Nat.zero_add]
  simp only [World.cell?, h]
  exact hj
theorem decimal_step {w w1 : World} {e : Nat} (h : w1 = w ∨ ∃ t, w1 = Lib.bytesWorld w e t) (hL : LaidW w) : Below w.heap.size w w1 ∧ LaidW w1 := by
  have hb : Below w.heap.size w w1 := by
    rcases h with rfl | ⟨t, rfl⟩
    · exact Below.refl _ _
    · exact Lib.bytesWorld_below _ _ _
  exact ⟨hb, hL.below hb⟩
/-- What is read lies within 64 bits. -/
theorem parse_bounds {l : List UInt8} {v : Int} (h : Lib.parseIntB 64 l = .ok v) : -9223372036854775808 ≤ v ∧ v ≤ 9223372036854775807 := by
  unfold Lib.parseIntB at h
  split at h
  · cases h
  · simp only at h
    split at h
    · cases h
    · cases h
    · split at h
      · cases h
      · split at h
        · cases h
        · rename_i u _ h1 h2
          injection h with h
          subst h
          have e : (2 : Nat) ^ (64 - 1) = 9223372036854775808 := by decide
          rw [e] at h1 h2
          split <;> omega
end Go.Proofs.YtfhonidhhipllaaDoor
namespace Go.Proofs.YtfhonidhhipllaaDoorW.PrintWords
open Go Go.RowKit
theorem cell_farN2 {W : World} {g : Nat} {a : Addr} {i1 i2 : Nat} {u1 u2 : Value} (h : a.block ≠ g) : ((W.setCell ⟨g, i1, none⟩ u1).setCell ⟨g, i2, none⟩ u2).cell? a = W.cell? a := (cell_far (p := ⟨g, _, none⟩) h _).trans (cell_far (p := ⟨g, _, none⟩) h _)
theorem cell_farN3 {W : World} {g : Nat} {a : Addr} {i1 i2 i3 : Nat} {u1 u2 u3 : Value} (h : a.block ≠ g) : (((W.setCell ⟨g, i1, none⟩ u1).setCell ⟨g, i2, none⟩ u2).setCell ⟨g, i3, none⟩ u3).cell? a = W.cell? a := (cell_far (p := ⟨g, _, none⟩) h _).trans (cell_farN2 h)
theorem cell_farN4 {W : World} {g : Nat} {a : Addr} {i1 i2 i3 i4 : Nat} {u1 u2 u3 u4 : Value} (h : a.block ≠ g) : ((((W.setCell ⟨g, i1, none⟩ u1).setCell ⟨g, i2, none⟩ u2).setCell ⟨g, i3, none⟩ u3).setCell ⟨g, i4, none⟩ u4).cell? a = W.cell? a := (cell_far (p := ⟨g, _, none⟩) h _).trans (cell_farN3 h)
theorem cell_farN5 {W : World} {g : Nat} {a : Addr} {i1 i2 i3 i4 i5 : Nat} {u1 u2 u3 u4 u5 : Value} (h : a.block ≠ g) : (((((W.setCell ⟨g, i1, none⟩ u1).setCell ⟨g, i2, none⟩ u2).setCell ⟨g, i3, none⟩ u3).setCell ⟨g, i4, none⟩ u4).setCell ⟨g, i5, none⟩ u5).cell? a = W.cell? a := (cell_far (p := ⟨g, _, none⟩) h _).trans (cell_farN4 h)
theorem cell_farN6 {W : World} {g : Nat} {a : Addr} {i1 i2 i3 i4 i5 i6 : Nat} {u1 u2 u3 u4 u5 u6 : Value} (h : a.block ≠ g) : ((((((W.setCell ⟨g, i1, none⟩ u1).setCell ⟨g, i2, none⟩ u2).setCell ⟨g, i3, none⟩ u3).setCell ⟨g, i4, none⟩ u4).setCell ⟨g, i5, none⟩ u5).setCell ⟨g, i6, none⟩ u6).cell? a = W.cell? a := (cell_far (p := ⟨g, _, none⟩) h _).trans (cell_farN5 h)
theorem cell_farN7 {W : World} {g : Nat} {a : Addr} {i1 i2 i3 i4 i5 i6 i7 : Nat} {u1 u2 u3 u4 u5 u6 u7 : Value} (h : a.block ≠ g) : (((((((W.setCell ⟨g, i1, none⟩ u1).setCell ⟨g, i2, none⟩ u2).setCell ⟨g, i3, none⟩ u3).setCell ⟨g, i4, none⟩ u4).setCell ⟨g, i5, none⟩ u5).setCell ⟨g, i6, none⟩ u6).setCell ⟨g, i7, none⟩ u7).cell? a = W.cell? a := (cell_far (p := ⟨g, _, none⟩) h _).trans (cell_farN6 h)
theorem cell_farN8 {W : World} {g : Nat} {a : Addr} {i1 i2 i3 i4 i5 i6 i7 i8 : Nat} {u1 u2 u3 u4 u5 u6 u7 u8 : Value} (h : a.block ≠ g) : ((((((((W.setCell ⟨g, i1, none⟩ u1).setCell ⟨g, i2, none⟩ u2).setCell ⟨g, i3, none⟩ u3).setCell ⟨g, i4, none⟩ u4).setCell ⟨g, i5, none⟩ u5).setCell ⟨g, i6, none⟩ u6).setCell ⟨g, i7, none⟩ u7).setCell ⟨g, i8, none⟩ u8).cell? a = W.cell? a := (cell_far (p := ⟨g, _, none⟩) h _).trans (cell_farN7 h)
theorem cell_farN9 {W : World} {g : Nat} {a : Addr} {i1 i2 i3 i4 i5 i6 i7 i8 i9 : Nat} {u1 u2 u3 u4 u5 u6 u7 u8 u9 : Value} (h : a.block ≠ g) : (((((((((W.setCell ⟨g, i1, none⟩ u1).setCell ⟨g, i2, none⟩ u2).setCell ⟨g, i3, none⟩ u3).setCell ⟨g, i4, none⟩ u4).setCell ⟨g, i5, none⟩ u5).setCell ⟨g, i6, none⟩ u6).setCell ⟨g, i7, none⟩ u7).setCell ⟨g, i8, none⟩ u8).setCell ⟨g, i9, none⟩ u9).cell? a = W.cell? a := (cell_far (p := ⟨g, _, none⟩) h _).trans (cell_farN8 h)
theorem cell_farN10 {W : World} {g : Nat} {a : Addr} {i1 i2 i3 i4 i5 i6 i7 i8 i9 i10 : Nat} {u1 u2 u3 u4 u5 u6 u7 u8 u9 u10 : Value} (h : a.block ≠ g) : ((((((((((W.setCell ⟨g, i1, none⟩ u1).setCell ⟨g, i2, none⟩ u2).setCell ⟨g, i3, none⟩ u3).setCell ⟨g, i4, none⟩ u4).setCell ⟨g, i5, none⟩ u5).setCell ⟨g, i6, none⟩ u6).setCell ⟨g, i7, none⟩ u7).setCell ⟨g, i8, none⟩ u8).setCell ⟨g, i9, none⟩ u9).setCell ⟨g, i10, none⟩ u10).cell? a = W.cell? a := (cell_far (p := ⟨g, _, none⟩) h _).trans (cell_farN9 h)
theorem cell_farN11 {W : World} {g : Nat} {a : Addr} {i1 i2 i3 i4 i5 i6 i7 i8 i9 i10 i11 : Nat} {u1 u2 u3 u4 u5 u6 u7 u8 u9 u10 u11 : Value} (h : a.block ≠ g) : (((((((((((W.setCell ⟨g, i1, none⟩ u1).setCell ⟨g, i2, none⟩ u2).setCell ⟨g, i3, none⟩ u3).setCell ⟨g, i4, none⟩ u4).setCell ⟨g, i5, none⟩ u5).setCell ⟨g, i6, none⟩ u6).setCell ⟨g, i7, none⟩ u7).setCell ⟨g, i8, none⟩ u8).setCell ⟨g, i9, none⟩ u9).setCell ⟨g, i10, none⟩ u10).setCell ⟨g, i11, none⟩ u11).cell? a = W.cell? a := (cell_far (p := ⟨g, _, none⟩) h _).trans (cell_farN10 h)
theorem cell_farN12 {W : World} {g : Nat} {a : Addr} {i1 i2 i3 i4 i5 i6 i7 i8 i9 i10 i11 i12 : Nat} {u1 u2 u3 u4 u5 u6 u7 u8 u9 u10 u11 u12 : Value} (h : a.block ≠ g) : ((((((((((((W.setCell ⟨g, i1, none⟩ u1).setCell ⟨g, i2, none⟩ u2).setCell ⟨g, i3, none⟩ u3).setCell ⟨g, i4, none⟩ u4).setCell ⟨g, i5, none⟩ u5).setCell ⟨g, i6, none⟩ u6).setCell ⟨g, i7, none⟩ u7).setCell ⟨g, i8, none⟩ u8).setCell ⟨g, i9, none⟩ u9).setCell ⟨g, i10, none⟩ u10).setCell ⟨g, i11, none⟩ u11).setCell ⟨g, i12, none⟩ u12).cell? a = W.cell? a := (cell_far (p := ⟨g, _, none⟩) h _).trans (cell_farN11 h)
end Go.Proofs.YtfhonidhhipllaaDoorW.PrintWords
namespace Go.Proofs.YtfhonidhhipllaaDoorW.PrintWords.Kd
open Go Go.RowKit Go.Proofs.YtfhonidhhipllaaDoorW.PrintWords
section
variable {P : Program} {ops : Array Oper} {rest : List Oper} {Q : Exit → Act → World → Prop} {a : Act} {o : Oper} {α : Type}
/-- make([]T, 0, n): nothing yet, with room. -/
theorem R_make0 (d : Kd α) {w0 W : World} (base e : Nat) (hgd : o.guard = none) {N : Tmp} (_hd : o.dst = some N) (t : TypeId) (x y : Operand) (ho : o.op = .makeSlice t x y) (n : Int) (hx : a.eval x = .int .i64 0) (hy : a.eval y = .int .i64 n)
    (ht : P.underlying t = some (.slice e)) (z : Value) (bytes : Nat) (hinfo : (P.info? e).map (fun i => (i.zero, i.size, i.bytes)) = some (some z, d.sz, bytes)) (_hz : z.cells.size = d.sz) (_hs0 : 0 < d.sz) (hb0 : 0 < bytes)
    {ok : Nat → Prop} (hfresh : ok W.heap.size) (h0 : 0 ≤ n) (hl : n.toNat * bytes ≤ 281474976710656) (HB : Below base w0 W) (hbase : base ≤ W.heap.size)
    (h : ∀ v1 w1, d.R e w1 base ok v1 [] → Below base w0 w1 → W.grownBy w1 none → (∃ b, v1.ownBlock = some b ∧ W.heap.size ≤ b) → wpList P ops Q rest (a.put o.dst v1) w1) : wpList P ops Q (o :: rest) a W := by
  obtain ⟨m, rfl⟩ := Int.eq_ofNat_of_zero_le h0
  simp only [Int.toNat_natCast] at hl
  obtain ⟨i0, hi, hzz⟩ := Option.map_eq_some_iff.1 hinfo
  simp only [Prod.mk.injEq] at hzz
  obtain ⟨hz0, hz1, hz2⟩ := hzz
  have hm : m ≤ 281474976710656 := Nat.le_trans (Nat.le_mul_of_pos_right _ hb0) hl
  obtain ⟨w1, hr, hown, hg⟩ := run_make_own (P := P) (w := W) W.heap.size t e i0 z d.sz ht hi hz0 hz1 .i64 .i64 m (by rw [hz2, Nat.mul_comm]; exact hl) (by unfold maxLen; omega) (Nat.le_refl _)
  have hrun : (execOp a.eval o).run P W = .ok (.value (.slice (some ⟨W.heap.size, 0, none⟩) 0 m)) w1 := by simp [execOp, ho, hx, hy, hr]
  have hw : Below base w0 w1 := HB.grown hg hbase (fun k hk => by cases hk)
  refine event_run hgd hrun (h _ _ ⟨fun k hk => ?_, [], own_weaken hown hbase, Reps.none _ _⟩ hw hg ⟨W.heap.size, by simp [Value.ownBlock], Nat.le_refl _⟩)
  have : W.heap.size = k := by simpa [Value.ownBlock] using hk
  subst this
  exact hfresh
end
end Go.Proofs.YtfhonidhhipllaaDoorW.PrintWords.Kd
