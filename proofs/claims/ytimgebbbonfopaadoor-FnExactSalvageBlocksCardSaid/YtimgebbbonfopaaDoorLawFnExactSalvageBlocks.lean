/- Each function that the law reaches, as a Lean function with the same answers, and the proof that the call comes to them. -/
import Derived.Test.YtimgebbbonfopaaDoorRows
import Derived.Test.YtimgebbbonfopaaDoorQFnExactSalvageBlocks13
import Derived.Test.YtimgebbbonfopaaDoorPureFnExactSalvageBlocks
import Derived.WalkKit
import Derived.ProofKit
import Derived.OpenShut
import Derived.ShutString
import Derived.ChangeOld
import Derived.Below
import Derived.SizedLaws
import Derived.Test.YtimgebbbonfopaaDoorCards
import Derived.Test.YtimgebbbonfopaaDoorTie
import Derived.Deep.DeepHandedRow
import Derived.Lay
import Derived.SevenTiedAt
import Derived.Stop.LaidErr
import Derived.Lib.LaidTab
import Derived.Shelf.Vars
import Derived.LaidMore
namespace Go.Proofs.YtimgebbbonfopaaDoor.fnExactSalvageBlocks
open Go.ChangeShapes Go.WideShapes Go.ChangeAt Go.RowKit
open Go.ChangeMaps (open_string shut_string)
set_option linter.unusedVariables false
theorem e_pow10 : (Rows.laid_internal_strconv_uint64pow10 : DataW Unit) = Lib.tabData .u64 Lib.pow10Tab := by kernel_rfl
set_option maxRecDepth 100000 in
/-- What the list of the row, and the form of the world, give the walk. -/
theorem laidW {W : World} (h0 : laidMetH Tryd.prog Rows.fnExactSalvageBlocksRow.laid W) (hsh : W.ShapedOpen Tryd.prog) : LaidW W := by
  have h : laidMet Tryd.prog Rows.fnExactSalvageBlocksRow.laid W := by
    rw [MakeChecks.laidMetH_plain _ _ _ (by kernel_rfl)] at h0
    exact h0
  have h10 : laidMet Tryd.prog (("internal/strconv.uint64pow10", Rows.laid_internal_strconv_uint64pow10) :: Rows.fnExactSalvageBlocksRow.laid.drop 3) W := h.tail.tail
  rw [e_pow10] at h10
  exact ⟨Lib.tabIs_of_head (show Tryd.prog.globalNamed "internal/strconv.uint64pow10" = some 5 by kernel_rfl) (show (Tryd.prog.globals[5]?).map (·.type) = some 146 by kernel_rfl) (show Tryd.prog.underlying 146 = some (.array 20 104) by kernel_rfl) (show Tryd.prog.underlying 104 = some (.int .u64) by kernel_rfl) (show Tryd.prog.cellsOf 104 = 1 by kernel_rfl) (show Tryd.prog.cellsOf 146 = 20 by kernel_rfl) h10,
    cell_of_shapedOpen_int (t := 3) hsh (show 0 < Tryd.prog.globals.size from of_decide_eq_true (by kernel_rfl)) (show ((begin Tryd.prog (fun _ _ => 0) default).world.heap[0]?).bind Obj.row? = some (#[.int .i64 0], 3) by kernel_rfl) rfl (show Tryd.prog.buildable 3 = true by kernel_rfl) (show Tryd.prog.cellTypes Tryd.prog.depth 3 = some [3] by kernel_rfl) (show Tryd.prog.underlying 3 = some (.int .i64) by kernel_rfl)⟩
theorem own : ownKnob Tryd.prog.godebug = none := by kernel_rfl
set_option maxRecDepth 100000 in
/-- A start that fits: the listed variables laid. -/
theorem witness (os : Os) {H : Type} (enc : TypeId × Value → H) : ∃ (w : World) (tape : Tape) (i : Input), w.os = os ∧ (w.forCall tape i).Shaped Tryd.checked.prog ∧ i.vars = [] ∧ Input.okWide Tryd.checked.prog (w.forCall tape i) .any w.heap.size 4 i ∧
      (OpenSpec.ofChange Rows.fnExactSalvageBlocksSpec).preRow enc Tryd.checked.prog Tryd.f4 Rows.fnExactSalvageBlocksRow.domain false Rows.fnExactSalvageBlocksRow.laid (w.forCall tape i).memory i.args ∧ ({} : Assume).holds Tryd.checked.prog (lone (Frame.enter Tryd.checked.prog 4 i.args .normal) [] (w.forCall tape i)) := by
  obtain ⟨w, tape, i, h1, h2, h3, h4, ⟨⟨h5, h6⟩, h7⟩, h8⟩ := ChangeSpec.witness_shaped (enc := enc) (C := Tryd.checked) (os := os) (f := 4) (fn := Tryd.f4) (s := Rows.fnExactSalvageBlocksSpec) (conds := Rows.fnExactSalvageBlocksRow.domain) (apart := false) (X := fun w _ => laidMetH Tryd.prog Rows.fnExactSalvageBlocksRow.laid w) false (World.laidAll Tryd.prog os Rows.fnExactSalvageBlocksRow.laid) #[.string ByteArray.empty] 8 (World.laidAll_os _ _ _)
      (World.shaped_of_ZipB (by kernel_rfl) (by kernel_rfl)) (by kernel_rfl) (by kernel_rfl) (by kernel_rfl)
      (by rw [MakeChecks.laidMetH_plain _ _ _ (by kernel_rfl)]; exact laidMet_laidAll _ (by kernel_rfl) (by kernel_rfl))
  refine ⟨w, tape, i, h1, h2, h3, h4, ⟨⟨?_, h6⟩, h7⟩, h8⟩
  obtain ⟨ds, gs, bs, hw, hc⟩ := h5
  exact OpenSpec.pre_of_parts hw hc (fun k hk => by cases hk)
set_option maxRecDepth 100000 in
theorem lifted (os : Os) (started : os.Started) (H : Type) (enc : TypeId × Value → H) (F : Stop.Interp) :
    ReturnsInHanded {} Tryd.checked os 4 .any ((OpenSpec.ofChange Rows.fnExactSalvageBlocksSpec).preRow enc Tryd.prog Tryd.f4 Rows.fnExactSalvageBlocksRow.domain false Rows.fnExactSalvageBlocksRow.laid) (((OpenSpec.ofChange Rows.fnExactSalvageBlocksSpec).at F).post enc Tryd.prog Tryd.f4 false true false false) := by
  refine returnsInHanded_of_row (C := Tryd.checked) (s := OpenSpec.ofChange Rows.fnExactSalvageBlocksSpec) own started (by kernel_rfl) Tryd.func4 (witness os enc) ?_
  intro W base args ds gs before hval0 hW hcnd _ hsz0 hL0 hsh _
  have hL := laidW hL0 hsh
  have hsz : (DataW.weightsEach Tryd.prog (Tryd.f4.params.toList ++ Rows.fnExactSalvageBlocksSpec.plain.varTypes Tryd.prog) (ds ++ gs)).all (· ≤ reachBytes) = true := hsz0
  have hval : ∀ (j : Nat) t v, Tryd.f4.params[j]? = some t → args[j]? = some v → Value.okWide Tryd.prog W .any base t v := hval0
  have hW' := hW
  obtain ⟨p, q, hA0, hV, rfl, hfz, hnd⟩ := hW
  have hA : DataW.TrodAll enc Tryd.prog W 0 (fun _ => true) true Tryd.f4.params.toList args.toList ds p := hA0
  rw [Tryd.params4] at hA hval hsz
  obtain ⟨v0, vs0, d0, ds0, p0, q0, hargs, rfl, rfl, h0, r0⟩ := trodAll_cons hA
  obtain ⟨rfl, rfl, rfl⟩ := trodAll_nil r0
  obtain rfl : args = #[v0] := by cases args; simp_all
  obtain ⟨rfl, rfl⟩ := trodVars_none hV
  obtain ⟨a0, rfl, rfl, rfl, y0⟩ := open_string Tryd.underlying9 (hval 0 9 v0 rfl rfl) h0
  have w0 : a0.size ≤ 140737488351232 := by
    have z := sized_string hsz (j := 0) (t := 9) rfl rfl
    rw [Array.length_toList] at z
    exact z
  clear hA0 hval0 hsz0 hsz
  refine (QFnExactSalvageBlocks.laws_FnExactSalvageBlocks.walk QFnExactSalvageBlocks.pure a0 W w0 hL).mono fun e W' ⟨he, bel⟩ => ?_
  subst he
  exact ⟨_, rfl, _, _, _, [], _, [], hW', trodAll_mk1 (shut_bool Tryd.underlying4 _), (trodAll_cons_mk (shut_string Tryd.underlying9 y0) trodAll_mk0), rfl, bel.frame _, fun h => by cases h⟩
theorem over : Rows.fnExactSalvageBlocksRow.holds Tryd.pinned (OpenSpec.ofChange Rows.fnExactSalvageBlocksSpec) :=
  OpenClaim.holds_of_cond 4 Tryd.f4 rfl rfl rfl rfl rfl rfl rfl ⟨rfl, rfl, rfl, rfl, rfl⟩ rfl rfl rfl rfl rfl (by kernel_rfl) Tryd.func4 (by kernel_rfl)
    (of_decide_eq_true (by kernel_rfl)) (by unfold Func.isWrapper; first | (rw [if_pos (by decide +kernel)]; kernel_rfl) | (rw [if_neg (by decide +kernel)]; exact ⟨rfl, rfl⟩))
    (fun os started H enc _ F => by rw [OpenClaim.pre_eq_preRow]; exact lifted os started H enc F)
theorem proved : Rows.FnExactSalvageBlocksSaid := over

/-- No parameter wants a stand-in. -/
theorem plain (f : FuncId) (fn : Func) (hf : Tryd.pinned.checked.prog.funcNamed "loop.example/g01033/laws.FnExactSalvageBlocks" = some f) (hfn : Tryd.pinned.checked.prog.funcs[f]? = some fn) :
    Rows.fnExactSalvageBlocksCard.stood.looks = Tryd.pinned.checked.prog.looks [] ∧ ∀ (j : Nat) t, fn.params[j]? = some t → Tryd.pinned.checked.prog.wantsStandIn t = false := by
  obtain rfl : f = 4 := Option.some.inj ((show Tryd.prog.funcNamed "loop.example/g01033/laws.FnExactSalvageBlocks" = some 4 by kernel_rfl).symm.trans hf) |>.symm
  obtain rfl : fn = Tryd.f4 := (Option.some.inj (Tryd.func4.symm.trans hfn)).symm
  exact ⟨by kernel_rfl, fun j t ht => by
    rw [Tryd.params4] at ht
    have hm : t ∈ [9] := by simpa using Array.mem_of_getElem? ht
    have hall : ([9].all fun u => !Tryd.prog.wantsStandIn u) = true := by kernel_rfl
    exact (show Tryd.prog.wantsStandIn t = false by simpa using List.all_eq_true.1 hall t hm)⟩
theorem card : Rows.FnExactSalvageBlocksCardSaid :=
  Claim7.holds_tied_plain_at .later [] _ _ _ _ proved (fun _ h => by cases h) (by kernel_rfl) (fun _ h => by cases h) fnExactSalvageBlocks_row_tie rfl ⟨rfl, rfl⟩ (by kernel_rfl) rfl plain (by kernel_rfl)
#print axioms card
end Go.Proofs.YtimgebbbonfopaaDoor.fnExactSalvageBlocks
namespace Go.Proofs.YtimgebbbonfopaaDoor
/-- The card, under a short name, for the claim. -/
theorem fnExactSalvageBlocks_card : Rows.FnExactSalvageBlocksCardSaid := fnExactSalvageBlocks.card
end Go.Proofs.YtimgebbbonfopaaDoor
