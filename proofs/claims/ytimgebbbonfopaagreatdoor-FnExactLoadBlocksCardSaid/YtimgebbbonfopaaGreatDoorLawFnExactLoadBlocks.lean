/- Each function that the law reaches, as a Lean function with the same answers, and the proof that the call comes to them. -/
import Derived.Test.YtimgebbbonfopaaGreatDoorRows
import Derived.Test.YtimgebbbonfopaaGreatDoorQFnExactLoadBlocks12
import Derived.Test.YtimgebbbonfopaaGreatDoorPureFnExactLoadBlocks
import Derived.WalkKit
import Derived.ProofKit
import Derived.OpenShut
import Derived.ShutString
import Derived.ChangeOld
import Derived.Below
import Derived.SizedLaws
import Derived.Test.YtimgebbbonfopaaGreatDoorCards
import Derived.Test.YtimgebbbonfopaaGreatDoorTie
import Derived.Deep.DeepHandedRow
import Derived.Lay
import Derived.SevenTiedAt
import Derived.Stop.LaidErr
import Derived.Lib.LaidTab
import Derived.Shelf.Vars
import Derived.LaidMore
namespace Go.Proofs.YtimgebbbonfopaaGreatDoor.fnExactLoadBlocks
open Go.ChangeShapes Go.WideShapes Go.ChangeAt Go.RowKit
open Go.ChangeMaps (open_string shut_string)
set_option linter.unusedVariables false
theorem e_pow10 : (Rows.laid_internal_strconv_uint64pow10 : DataW Unit) = Lib.tabData .u64 Lib.pow10Tab := by kernel_rfl
theorem star_err : "*" ++ "errors.errorString" = "*errors.errorString" := by decide
theorem row_err (u : TypeId) (h : Tryz.prog.typeName? 3 u = some "*errors.errorString") : u = 154 :=
  typeName_ptr_named (nm := "errors.errorString") (by rw [star_err]; kernel_rfl) (by kernel_rfl) (by decide) u (by rw [star_err]; exact h)
set_option maxRecDepth 100000 in
/-- What the list of the row, and the form of the world, give the walk. -/
theorem laidW {W : World} (h0 : laidMetH Tryz.prog Rows.fnExactLoadBlocksRow.laid W) (hsh : W.ShapedOpen Tryz.prog) : LaidW W := by
  have h : laidMet Tryz.prog Rows.fnExactLoadBlocksRow.laid W := by
    rw [MakeChecks.laidMetH_plain _ _ _ (by kernel_rfl)] at h0
    exact h0
  have h10 : laidMet Tryz.prog (("internal/strconv.uint64pow10", Rows.laid_internal_strconv_uint64pow10) :: Rows.fnExactLoadBlocksRow.laid.drop 3) W := h.tail.tail
  rw [e_pow10] at h10
  exact ⟨Lib.tabIs_of_head (show Tryz.prog.globalNamed "internal/strconv.uint64pow10" = some 5 by kernel_rfl) (show (Tryz.prog.globals[5]?).map (·.type) = some 158 by kernel_rfl) (show Tryz.prog.underlying 158 = some (.array 20 65) by kernel_rfl) (show Tryz.prog.underlying 65 = some (.int .u64) by kernel_rfl) (show Tryz.prog.cellsOf 65 = 1 by kernel_rfl) (show Tryz.prog.cellsOf 158 = 20 by kernel_rfl) h10,
    by
    obtain ⟨a, s, hv, _⟩ := laid_sentinel (h.tail.tail.tail.tail.tail) (show Tryz.prog.globalNamed "strconv.ErrSyntax" = some 1 by kernel_rfl) (show (Tryz.prog.globals[1]?).map (·.type) = some 82 by kernel_rfl) (ti := 82) Tryz.underlying82 row_err (show Tryz.prog.underlying 154 = some (.pointer 156) by kernel_rfl) Tryz.underlying156 rfl rfl (show Tryz.prog.underlying 9 = some .string by kernel_rfl) (show Tryz.prog.cellsOf 156 = 1 by kernel_rfl) (show Tryz.prog.cellsOf 9 = 1 by kernel_rfl)
    exact ⟨_, _, hv⟩,
    by
    obtain ⟨a, s, hv, _⟩ := laid_sentinel (h.tail.tail.tail.tail) (show Tryz.prog.globalNamed "strconv.ErrRange" = some 2 by kernel_rfl) (show (Tryz.prog.globals[2]?).map (·.type) = some 82 by kernel_rfl) (ti := 82) Tryz.underlying82 row_err (show Tryz.prog.underlying 154 = some (.pointer 156) by kernel_rfl) Tryz.underlying156 rfl rfl (show Tryz.prog.underlying 9 = some .string by kernel_rfl) (show Tryz.prog.cellsOf 156 = 1 by kernel_rfl) (show Tryz.prog.cellsOf 9 = 1 by kernel_rfl)
    exact ⟨_, _, hv⟩,
    cell_of_shapedOpen_int (t := 3) hsh (show 0 < Tryz.prog.globals.size from of_decide_eq_true (by kernel_rfl)) (show ((begin Tryz.prog (fun _ _ => 0) default).world.heap[0]?).bind Obj.row? = some (#[.int .i64 0], 3) by kernel_rfl) rfl (show Tryz.prog.buildable 3 = true by kernel_rfl) (show Tryz.prog.cellTypes Tryz.prog.depth 3 = some [3] by kernel_rfl) (show Tryz.prog.underlying 3 = some (.int .i64) by kernel_rfl)⟩
theorem own : ownKnob Tryz.prog.godebug = none := by kernel_rfl
set_option maxRecDepth 100000 in
/-- A start that fits: the listed variables laid. -/
theorem witness (os : Os) {H : Type} (enc : TypeId × Value → H) : ∃ (w : World) (tape : Tape) (i : Input), w.os = os ∧ (w.forCall tape i).Shaped Tryz.checked.prog ∧ i.vars = [] ∧ Input.okWide Tryz.checked.prog (w.forCall tape i) .any w.heap.size 4 i ∧
      (OpenSpec.ofChange Rows.fnExactLoadBlocksSpec).preRow enc Tryz.checked.prog Tryz.f4 Rows.fnExactLoadBlocksRow.domain false Rows.fnExactLoadBlocksRow.laid (w.forCall tape i).memory i.args ∧ ({} : Assume).holds Tryz.checked.prog (lone (Frame.enter Tryz.checked.prog 4 i.args .normal) [] (w.forCall tape i)) := by
  obtain ⟨w, tape, i, h1, h2, h3, h4, ⟨⟨h5, h6⟩, h7⟩, h8⟩ := ChangeSpec.witness_shaped (enc := enc) (C := Tryz.checked) (os := os) (f := 4) (fn := Tryz.f4) (s := Rows.fnExactLoadBlocksSpec) (conds := Rows.fnExactLoadBlocksRow.domain) (apart := false) (X := fun w _ => laidMetH Tryz.prog Rows.fnExactLoadBlocksRow.laid w) false (World.laidAll Tryz.prog os Rows.fnExactLoadBlocksRow.laid) #[.string ByteArray.empty] 8 (World.laidAll_os _ _ _)
      (World.shaped_of_ZipB (by kernel_rfl) (by kernel_rfl)) (by kernel_rfl) (by kernel_rfl) (by kernel_rfl)
      (by rw [MakeChecks.laidMetH_plain _ _ _ (by kernel_rfl)]; exact laidMet_laidAll _ (by kernel_rfl) (by kernel_rfl))
  refine ⟨w, tape, i, h1, h2, h3, h4, ⟨⟨?_, h6⟩, h7⟩, h8⟩
  obtain ⟨ds, gs, bs, hw, hc⟩ := h5
  exact OpenSpec.pre_of_parts hw hc (fun k hk => by cases hk)
set_option maxRecDepth 100000 in
theorem lifted (os : Os) (started : os.Started) (H : Type) (enc : TypeId × Value → H) (F : Stop.Interp) :
    ReturnsInHanded {} Tryz.checked os 4 .any ((OpenSpec.ofChange Rows.fnExactLoadBlocksSpec).preRow enc Tryz.prog Tryz.f4 Rows.fnExactLoadBlocksRow.domain false Rows.fnExactLoadBlocksRow.laid) (((OpenSpec.ofChange Rows.fnExactLoadBlocksSpec).at F).post enc Tryz.prog Tryz.f4 false true false false) := by
  refine returnsInHanded_of_row (C := Tryz.checked) (s := OpenSpec.ofChange Rows.fnExactLoadBlocksSpec) own started (by kernel_rfl) Tryz.func4 (witness os enc) ?_
  intro W base args ds gs before hval0 hW hcnd _ hsz0 hL0 hsh _
  have hL := laidW hL0 hsh
  have hsz : (DataW.weightsEach Tryz.prog (Tryz.f4.params.toList ++ Rows.fnExactLoadBlocksSpec.plain.varTypes Tryz.prog) (ds ++ gs)).all (· ≤ reachBytes) = true := hsz0
  have hval : ∀ (j : Nat) t v, Tryz.f4.params[j]? = some t → args[j]? = some v → Value.okWide Tryz.prog W .any base t v := hval0
  have hW' := hW
  obtain ⟨p, q, hA0, hV, rfl, hfz, hnd⟩ := hW
  have hA : DataW.TrodAll enc Tryz.prog W 0 (fun _ => true) true Tryz.f4.params.toList args.toList ds p := hA0
  rw [Tryz.params4] at hA hval hsz
  obtain ⟨v0, vs0, d0, ds0, p0, q0, hargs, rfl, rfl, h0, r0⟩ := trodAll_cons hA
  obtain ⟨rfl, rfl, rfl⟩ := trodAll_nil r0
  obtain rfl : args = #[v0] := by cases args; simp_all
  obtain ⟨rfl, rfl⟩ := trodVars_none hV
  obtain ⟨a0, rfl, rfl, rfl, y0⟩ := open_string Tryz.underlying9 (hval 0 9 v0 rfl rfl) h0
  have w0 : a0.size ≤ 140737488351232 := by
    have z := sized_string hsz (j := 0) (t := 9) rfl rfl
    rw [Array.length_toList] at z
    exact z
  clear hA0 hval0 hsz0 hsz
  refine (QFnExactLoadBlocks.laws_FnExactLoadBlocks.walk QFnExactLoadBlocks.pure a0 W w0 hL).mono fun e W' ⟨he, bel⟩ => ?_
  subst he
  exact ⟨_, rfl, _, _, _, [], _, [], hW', trodAll_mk1 (shut_bool Tryz.underlying4 _), (trodAll_cons_mk (shut_string Tryz.underlying9 y0) trodAll_mk0), rfl, bel.frame _, fun h => by cases h⟩
theorem over : Rows.fnExactLoadBlocksRow.holds Tryz.pinned (OpenSpec.ofChange Rows.fnExactLoadBlocksSpec) :=
  OpenClaim.holds_of_cond 4 Tryz.f4 rfl rfl rfl rfl rfl rfl rfl ⟨rfl, rfl, rfl, rfl, rfl⟩ rfl rfl rfl rfl rfl (by kernel_rfl) Tryz.func4 (by kernel_rfl)
    (of_decide_eq_true (by kernel_rfl)) (by unfold Func.isWrapper; first | (rw [if_pos (by decide +kernel)]; kernel_rfl) | (rw [if_neg (by decide +kernel)]; exact ⟨rfl, rfl⟩))
    (fun os started H enc _ F => by rw [OpenClaim.pre_eq_preRow]; exact lifted os started H enc F)
theorem proved : Rows.FnExactLoadBlocksSaid := over

/-- No parameter wants a stand-in. -/
theorem plain (f : FuncId) (fn : Func) (hf : Tryz.pinned.checked.prog.funcNamed "loop.example/g01033/laws.FnExactLoadBlocks" = some f) (hfn : Tryz.pinned.checked.prog.funcs[f]? = some fn) :
    Rows.fnExactLoadBlocksCard.stood.looks = Tryz.pinned.checked.prog.looks [] ∧ ∀ (j : Nat) t, fn.params[j]? = some t → Tryz.pinned.checked.prog.wantsStandIn t = false := by
  obtain rfl : f = 4 := Option.some.inj ((show Tryz.prog.funcNamed "loop.example/g01033/laws.FnExactLoadBlocks" = some 4 by kernel_rfl).symm.trans hf) |>.symm
  obtain rfl : fn = Tryz.f4 := (Option.some.inj (Tryz.func4.symm.trans hfn)).symm
  exact ⟨by kernel_rfl, fun j t ht => by
    rw [Tryz.params4] at ht
    have hm : t ∈ [9] := by simpa using Array.mem_of_getElem? ht
    have hall : ([9].all fun u => !Tryz.prog.wantsStandIn u) = true := by kernel_rfl
    exact (show Tryz.prog.wantsStandIn t = false by simpa using List.all_eq_true.1 hall t hm)⟩
theorem card : Rows.FnExactLoadBlocksCardSaid :=
  Claim7.holds_tied_plain_at .later [] _ _ _ _ proved (fun _ h => by cases h) (by kernel_rfl) (fun _ h => by cases h) fnExactLoadBlocks_row_tie rfl ⟨rfl, rfl⟩ (by kernel_rfl) rfl plain (by kernel_rfl)
#print axioms card
end Go.Proofs.YtimgebbbonfopaaGreatDoor.fnExactLoadBlocks
namespace Go.Proofs.YtimgebbbonfopaaGreatDoor
/-- The card, under a short name, for the claim. -/
theorem fnExactLoadBlocks_card : Rows.FnExactLoadBlocksCardSaid := fnExactLoadBlocks.card
end Go.Proofs.YtimgebbbonfopaaGreatDoor
