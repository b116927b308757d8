/- LimbsSteps: the row, proved: the frame is law_lifted (Fr), the walk is f5.ok, the plain law is f5.holds. -/
import Derived.Test.YtjkelipglcnpmaaRows
import Derived.Test.YtjkelipglcnpmaaFr
import Derived.Test.YtjkelipglcnpmaaHd
import Derived.Test.YtjkelipglcnpmaaPlR4
namespace Go.Proofs.Ytjkelipglcnpmaa
open Go.VM

set_option maxRecDepth 100000 in
theorem limbsSteps_lifted (os : Os) (started : os.Started) (H : Type) (enc : TypeId × Value → H) :
    ReturnsInHanded {} Try.checked os 5 .any (Rows.limbsStepsSpec.pre6 enc Try.prog Try.f5 Rows.limbsStepsRow.domain false) (Rows.limbsStepsSpec.post enc Try.prog Try.f5 false true false false) := by
  refine law_lifted (C := Try.checked) (n := 8) (by kernel_rfl) started (by kernel_rfl) Try.func5
    (ChangeSpec.witness6 (enc := enc) (C := Try.checked) false ⟨#[], #[.agg #[.int .u64 0, .int .u64 0, .int .u64 0, .int .u64 0], .agg #[.int .u64 0, .int .u64 0, .int .u64 0, .int .u64 0]], []⟩ 8 (by kernel_rfl) (by kernel_rfl) (by kernel_rfl) (by kernel_rfl)) ?_ rfl (tb := 4) rfl Try.underlying4 ?_ ?_
  · have h : (Try.f5.params.toList.all fun t => flat Try.prog 8 t) = true := by kernel_rfl
    exact List.all_eq_true.1 h
  · intro ds hds
    obtain ⟨d0, d1, rfl⟩ := list2 (l := ds) hds
    rfl
  · intro W args hsz hr
    obtain ⟨v0, v1, rfl⟩ := args2 (args := args) hsz
    obtain ⟨a0, h0, rfl⟩ := reads_num Try.underlying24 Try.underlying22 (by kernel_rfl) (by kernel_rfl) (hr 0 24 v0 rfl rfl)
    obtain ⟨a1, h1, rfl⟩ := reads_num Try.underlying24 Try.underlying22 (by kernel_rfl) (by kernel_rfl) (hr 1 24 v1 rfl rfl)
    exact law_calls (f5.ok 1000) (fun _ => rfl) (vs := [.agg [.ints .u64 4 (num a0)], .agg [.ints .u64 4 (num a1)]]) (x := (num a0, num a1)) rfl (f5.holds a0 a1 h0 h1) rfl W

theorem limbsSteps_c0 : (Rows.limbsStepsRow.wf (OpenSpec.ofChange Rows.limbsStepsSpec)) = true := by kernel_rfl
theorem limbsSteps_c3 : (Try.f5.params.all (Try.prog.readableRec ·)) = true := by kernel_rfl
theorem limbsSteps_c4 : (namedTie Try.prog Rows.limbsStepsRow.named Rows.limbsStepsSpec.vars) = true := by kernel_rfl
theorem limbsSteps_c5 : (Rows.limbsStepsRow.stops == []) = true := by kernel_rfl
theorem limbsSteps_c6 : (Try.prog.stops == []) = true := by kernel_rfl
theorem limbsSteps_c7 : (Rows.limbsStepsRow.knobs == []) = true := by kernel_rfl
theorem limbsSteps_c8 : (Try.prog.stopKnobs == []) = true := by kernel_rfl
theorem limbsSteps_c9 : (Rows.limbsStepsRow.inPlace == Try.prog.inPlace 5) = true := by kernel_rfl
theorem limbsSteps_c10 : (Rows.limbsStepsRow.unfollowed == Try.prog.unfollowed 5) = true := by kernel_rfl
theorem limbsSteps_c11 : (Rows.limbsStepsRow.recurses == Try.prog.recurses 5) = true := by kernel_rfl
theorem limbsSteps_c12 : (Rows.limbsStepsRow.named == Try.prog.varsNamed 5) = true := by kernel_rfl
theorem limbsSteps_c13 : (Rows.limbsStepsRow.maps == (Try.f5.params.toList ++ Rows.limbsStepsSpec.plain.varTypes Try.prog).any (Try.prog.mapsRec ·)) = true := by kernel_rfl
theorem limbsSteps_c14 : (Rows.limbsStepsRow.ifaces == (Try.f5.params.toList ++ Rows.limbsStepsSpec.plain.varTypes Try.prog).any (Try.prog.ifacesRec ·)) = true := by kernel_rfl
theorem limbsSteps_c15 : (Rows.limbsStepsRow.mapsOut == Try.prog.mapsAmong Try.f5.resultTypes.toList) = true := by kernel_rfl
theorem limbsSteps_c16 : (Rows.limbsStepsRow.loops == (Try.f5.params.toList ++ Rows.limbsStepsSpec.plain.varTypes Try.prog).any (Try.prog.loopsFrom ·)) = true := by kernel_rfl
theorem limbsSteps_c17 : (Rows.limbsStepsRow.wideKeys == (Try.f5.params.toList ++ Rows.limbsStepsSpec.plain.varTypes Try.prog ++ Try.f5.resultTypes.toList).any (Try.prog.wideKeysFrom ·)) = true := by kernel_rfl
theorem limbsSteps_c18 : (Rows.limbsStepsSpec.vars.all (Try.prog.varReadable ·)) = true := by kernel_rfl
theorem limbsSteps_c19 : (Try.f5.resultTypes.all (fun t => Try.prog.readableRec t && decide (t < Try.prog.types.size))) = true := by kernel_rfl
theorem limbsSteps_c20 : (Rows.limbsStepsRow.ifacesOut == Try.f5.resultTypes.toList.any (Try.prog.ifacesRec ·)) = true := by kernel_rfl
theorem limbsSteps_c21 : (Rows.limbsStepsRow.loopsOut == Try.f5.resultTypes.toList.any (Try.prog.loopsFrom ·)) = true := by kernel_rfl
theorem limbsSteps_c22 : (Rows.limbsStepsRow.plainKeys == Try.prog.plainKeys) = true := beq_of plainKeys_ok
theorem limbsSteps_c23 : (Rows.limbsStepsRow.shortTexts.isNone) = true := by kernel_rfl
theorem limbsSteps_c26 : (Rows.limbsStepsRow.lifted == Try.prog.liftsFinal) = true := beq_of liftsFinal_ok
theorem limbsSteps_c27 : (Try.prog.make == some Rows.limbsStepsRow.make) = true := by rw [make_ok]; show _ = _; kernel_rfl
theorem limbsSteps_c28 : (Rows.limbsStepsRow.kinds == (if Rows.limbsStepsRow.domain.isEmpty then [] else Try.f5.params.toList.map fun t => match Try.prog.underlying t with | some (.int k) => some k | _ => none)) = true := by kernel_rfl
theorem limbsSteps_c29 : (Rows.limbsStepsRow.pinned == Rows.limbsStepsRow.pinnedBy) = true := by kernel_rfl
theorem limbsSteps_c30 : (Rows.limbsStepsRow.veiled == (Try.f5.params.toList ++ Rows.limbsStepsSpec.plain.varTypes Try.prog ++ Try.f5.resultTypes.toList).any (Try.prog.veiledRec ·)) = true := by kernel_rfl
theorem limbsSteps_c31 : (Rows.limbsStepsRow.veiledFits Try.prog Try.f5.params.toList (Try.f5.params.toList ++ Rows.limbsStepsSpec.plain.varTypes Try.prog ++ Try.f5.resultTypes.toList)) = true := by kernel_rfl
set_option maxRecDepth 1000000 in
theorem limbsSteps_closed : joinedFacts Try.prog 5 Try.f5 Rows.limbsStepsSpec Rows.limbsStepsRow = true := (and2 (and2 (and2 (and2 (and2 (and2 (and2 (and2 (and2 (and2 (and2 (and2 (and2 (and2 (and2 (and2 (and2 (and2 (and2 (and2 (and2 (and2 (and2 (and2 (and2 (and2 (and2 (and2 (and2 (and2 (and2 limbsSteps_c0 laidOut_ok) mapsRowed_ok) limbsSteps_c3) limbsSteps_c4) limbsSteps_c5) limbsSteps_c6) limbsSteps_c7) limbsSteps_c8) limbsSteps_c9) limbsSteps_c10) limbsSteps_c11) limbsSteps_c12) limbsSteps_c13) limbsSteps_c14) limbsSteps_c15) limbsSteps_c16) limbsSteps_c17) limbsSteps_c18) limbsSteps_c19) limbsSteps_c20) limbsSteps_c21) limbsSteps_c22) limbsSteps_c23) stopsHeard_ok) mayEnter_ok) limbsSteps_c26) limbsSteps_c27) limbsSteps_c28) limbsSteps_c29) limbsSteps_c30) limbsSteps_c31)

theorem limbsSteps_holds : Rows.LimbsStepsSaid :=
  OpenClaim.holds_of_wide 5 Try.f5 rfl rfl rfl rfl rfl rfl rfl ⟨rfl, rfl, rfl, rfl, rfl⟩ rfl rfl rfl rfl rfl (by kernel_rfl) Try.func5 limbsSteps_closed
    (of_decide_eq_true (by kernel_rfl)) (by unfold Func.isWrapper; first | (rw [if_pos (by decide +kernel)]; kernel_rfl) | (rw [if_neg (by decide +kernel)]; exact ⟨rfl, rfl⟩))
    (fun os started H enc _ => limbsSteps_lifted os started H enc)

end Go.Proofs.Ytjkelipglcnpmaa

