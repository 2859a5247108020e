/- What a call leans on of the library's package variables, and small lemmas on rows of strings. -/
import Derived.Test.YtimgebbbonfopaaDoorShelf
import Derived.Lib.AppendIntMem
import Derived.Lib.AtoiErrMem
import Derived.Laws.Cover1
import Derived.Test.YtimgebbbonfopaaDoorWWords
namespace Go.Proofs.YtimgebbbonfopaaDoor
open Go.RowKit Go.Proofs.YtimgebbbonfopaaDoorW.PrintWords

/-- The variables, as the row lays them: the powers of ten, and some length. -/
structure LaidW (w : World) : Prop where
  tab : Lib.TabIs Tryd.prog w "internal/strconv.uint64pow10" .u64 Lib.pow10Tab
  ml : ∃ m, w.cell? ⟨0, 0, none⟩ = some (.int .i64 m)
theorem var_kept {P : Program} {w w' : World} {n : String} {cs : Array Value} (hb : ∀ k, k < w.heap.size → w'.heap[k]? = w.heap[k]?) (h : w.var? P n = some cs) : w'.var? P n = some cs := by
  unfold World.var? at h ⊢
  cases hg : P.globalNamed n with
  | none => rw [hg] at h; cases h
  | some g =>
    rw [hg] at h
    simp only [Option.bind_some] at h ⊢
    have hlt : g < w.heap.size := by
      rcases Nat.lt_or_ge g w.heap.size with hl | hl
      · exact hl
      · rw [Array.getElem?_eq_none hl] at h
        cases h
    rw [hb g hlt]
    exact h
theorem LaidW.heap {w w' : World} (h : LaidW w) (hb : ∀ k, k < w.heap.size → w'.heap[k]? = w.heap[k]?) : LaidW w' := by
  obtain ⟨t, m, hm⟩ := h
  refine ⟨var_kept hb t, m, ?_⟩
  have hlt := World.block_lt_of_cell? w _ hm
  simpa [World.cell?, hb 0 hlt] using hm
theorem LaidW.below {w w' : World} (h : LaidW w) (hb : Below w.heap.size w w') : LaidW w' := h.heap hb.block
theorem LaidW.drewN {w : World} (h : LaidW w) (n : Nat) : LaidW (w.drewN n) := h.heap (fun _ _ => rfl)

theorem reps_strs {xs : List ByteArray} {w : World} {b : Nat} {ok : Nat → Prop} : Reps (Kd.string.M w b ok) 1 xs (xs.map Value.string) := by
  refine ⟨by simp, fun j p hj => ?_⟩
  show _ = [Value.string p]
  rw [Nat.mul_one, List.take_one, List.head?_drop, List.getElem?_map, hj]
  rfl
/-- A row of strings in a block of its own, with room behind it. -/
theorem strs_own (w : World) (e : Nat) (xs : List ByteArray) (N : Nat) (h : xs.length ≤ N) (hN : N ≤ 9223372036854775807) :
    Kd.R Kd.string e (w.alloc (.cells (Lib.cellsOf xs N) e)) w.heap.size (fun _ => True) (.slice (some ⟨w.heap.size, 0, none⟩) xs.length N) xs := by
  refine ⟨fun _ _ => trivial, xs.map Value.string, ⟨by simp [Kd.string, Kd.scalar], .inr ⟨w.heap.size, N, Lib.cellsOf xs N, rfl, Nat.le_refl _, heap_alloc_new w _, h, hN, ?_, ?_⟩⟩, reps_strs⟩
  · show _ = N * 1
    rw [Lib.cellsOf_size h, Nat.mul_one]
  · show List.take (xs.length * 1) _ = _
    unfold Lib.cellsOf
    simp
theorem strs_lit (w : World) (e : Nat) (xs : List ByteArray) (hN : xs.length ≤ 9223372036854775807) :
    Kd.R Kd.string e (w.alloc (.cells (xs.map Value.string).toArray e)) w.heap.size (fun _ => True) (.slice (some ⟨w.heap.size, 0, none⟩) xs.length xs.length) xs := by
  have := strs_own w e xs xs.length (Nat.le_refl _) hN
  rwa [Lib.cellsOf_full] at this
/-- What lies where a pointer leads. -/
def PtrAt (w : World) (P : Addr) (vs : Array Value) : Prop := ∀ (j : Nat) v, vs[j]? = some v → w.cell? (if j = 0 then P else ⟨P.block, P.off + j, none⟩) = some v
theorem PtrAt.block {w : World} {B : Nat} {vs : Array Value} {t : TypeId} {z : Nat × Nat} (h : w.heap[B]? = some (.cells vs t z)) : PtrAt w ⟨B, 0, none⟩ vs := by
  intro j v hj
  have e : (if j = 0 then (⟨B, 0, none⟩ : Addr) else ⟨B, 0 + j, none⟩) = ⟨B, j, none⟩ := by
    split
    · rename_i h0; subst h0; rfl
    · rw [Nat.zero_add]
  rw [e]
  simp only [World.cell?, h]
  exact hj
theorem PtrAt.mk3 {w : World} {P : Addr} {v0 v1 v2 : Value} (h0 : w.cell? P = some v0) (h1 : w.cell? ⟨P.block, P.off + 1, none⟩ = some v1) (h2 : w.cell? ⟨P.block, P.off + 2, none⟩ = some v2) : PtrAt w P #[v0, v1, v2] := by
  intro j v hj
  match j, hj with
  | 0, hj => cases hj; exact h0
  | 1, hj => cases hj; exact h1
  | 2, hj => cases hj; exact h2
  | j + 3, hj => simp at hj
end Go.Proofs.YtimgebbbonfopaaDoor
namespace Go.Proofs.YtimgebbbonfopaaDoorW.PrintWords
open Go Go.RowKit
end Go.Proofs.YtimgebbbonfopaaDoorW.PrintWords
namespace Go.Proofs.YtimgebbbonfopaaDoorW.PrintWords.Kd
open Go Go.RowKit Go.Proofs.YtimgebbbonfopaaDoorW.PrintWords
section
variable {P : Program} {ops : Array Oper} {rest : List Oper} {Q : Exit → Act → World → Prop} {a : Act} {o : Oper} {α : Type}
end
end Go.Proofs.YtimgebbbonfopaaDoorW.PrintWords.Kd
