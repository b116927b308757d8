/- ModsSteps: the row, proved: the frame is law_lifted (Fr), the walk is f20.ok, the plain law is f20.holds. -/
import Derived.Test.YtjkelipglcnpmaaFr
import Derived.Test.YtjkelipglcnpmaaPm
import Derived.Test.YtjkelipglcnpmaaRows
namespace Go.Proofs.Ytjkelipglcnpmaa
open Go.VM

set_option maxRecDepth 100000 in
theorem modsSteps_lifted (os : Os) (started : os.Started) (H : Type) (enc : TypeId × Value → H) :
    ReturnsInHanded {} Try.checked os 20 .any (Rows.modsStepsSpec.pre6 enc Try.prog Try.f20 Rows.modsStepsRow.domain false) (Rows.modsStepsSpec.post enc Try.prog Try.f20 false true false false) := by
  refine law_lifted (C := Try.checked) (n := 8) (by kernel_rfl) started (by kernel_rfl) Try.func20
    (ChangeSpec.witness6 (enc := enc) (C := Try.checked) false ⟨#[], #[.agg #[.int .u64 0, .int .u64 0, .int .u64 0, .int .u64 0], .agg #[.int .u64 0, .int .u64 0, .int .u64 0, .int .u64 0], .agg #[.int .u64 0, .int .u64 0, .int .u64 0, .int .u64 0]], []⟩ 8 (by kernel_rfl) (by kernel_rfl) (by kernel_rfl) (by kernel_rfl)) ?_ rfl (tb := 4) rfl Try.underlying4 ?_ ?_
  · have h : (Try.f20.params.toList.all fun t => flat Try.prog 8 t) = true := by kernel_rfl
    exact List.all_eq_true.1 h
  · intro ds hds
    obtain ⟨d0, d1, d2, rfl⟩ := list3 (l := ds) hds
    rfl
  · intro W args hsz hr
    obtain ⟨v0, v1, v2, rfl⟩ := args3 (args := args) hsz
    obtain ⟨a0, h0, rfl⟩ := reads_num Try.underlying24 Try.underlying22 (by kernel_rfl) (by kernel_rfl) (hr 0 24 v0 rfl rfl)
    obtain ⟨a1, h1, rfl⟩ := reads_num Try.underlying24 Try.underlying22 (by kernel_rfl) (by kernel_rfl) (hr 1 24 v1 rfl rfl)
    obtain ⟨a2, h2, rfl⟩ := reads_num Try.underlying24 Try.underlying22 (by kernel_rfl) (by kernel_rfl) (hr 2 24 v2 rfl rfl)
    exact law_calls (f20.ok 1000) (vs := [.agg [.ints .u64 4 (num a0)], .agg [.ints .u64 4 (num a1)], .agg [.ints .u64 4 (num a2)]]) (x := (num a0, num a1, num a2)) (f20.holds a0 a1 a2 h0 h1 h2) (fun _ => by kernel_rfl) rfl W

theorem modsSteps_c0 : (Rows.modsStepsRow.wf (OpenSpec.ofChange Rows.modsStepsSpec)) = true := by kernel_rfl
theorem modsSteps_c3 : (Try.f20.params.all (Try.prog.readableRec ·)) = true := by kernel_rfl
theorem modsSteps_c4 : (namedTie Try.prog Rows.modsStepsRow.named Rows.modsStepsSpec.vars) = true := by kernel_rfl
theorem modsSteps_c5 : (Rows.modsStepsRow.stops == []) = true := by kernel_rfl
theorem modsSteps_c6 : (Try.prog.stops == []) = true := by kernel_rfl
theorem modsSteps_c7 : (Rows.modsStepsRow.knobs == []) = true := by kernel_rfl
theorem modsSteps_c8 : (Try.prog.stopKnobs == []) = true := by kernel_rfl
theorem modsSteps_c9 : (Rows.modsStepsRow.inPlace == Try.prog.inPlace 20) = true := by kernel_rfl
theorem modsSteps_c10 : (Rows.modsStepsRow.unfollowed == Try.prog.unfollowed 20) = true := by kernel_rfl
theorem modsSteps_c11 : (Rows.modsStepsRow.recurses == Try.prog.recurses 20) = true := by kernel_rfl
theorem modsSteps_c12 : (Rows.modsStepsRow.named == Try.prog.varsNamed 20) = true := by kernel_rfl
theorem modsSteps_c13 : (Rows.modsStepsRow.maps == (Try.f20.params.toList ++ Rows.modsStepsSpec.plain.varTypes Try.prog).any (Try.prog.mapsRec ·)) = true := by kernel_rfl
theorem modsSteps_c14 : (Rows.modsStepsRow.ifaces == (Try.f20.params.toList ++ Rows.modsStepsSpec.plain.varTypes Try.prog).any (Try.prog.ifacesRec ·)) = true := by kernel_rfl
theorem modsSteps_c15 : (Rows.modsStepsRow.mapsOut == Try.prog.mapsAmong Try.f20.resultTypes.toList) = true := by kernel_rfl
theorem modsSteps_c16 : (Rows.modsStepsRow.loops == (Try.f20.params.toList ++ Rows.modsStepsSpec.plain.varTypes Try.prog).any (Try.prog.loopsFrom ·)) = true := by kernel_rfl
theorem modsSteps_c17 : (Rows.modsStepsRow.wideKeys == (Try.f20.params.toList ++ Rows.modsStepsSpec.plain.varTypes Try.prog ++ Try.f20.resultTypes.toList).any (Try.prog.wideKeysFrom ·)) = true := by kernel_rfl
theorem modsSteps_c18 : (Rows.modsStepsSpec.vars.all (Try.prog.varReadable ·)) = true := by kernel_rfl
theorem modsSteps_c19 : (Try.f20.resultTypes.all (fun t => Try.prog.readableRec t && decide (t < Try.prog.types.size))) = true := by kernel_rfl
theorem modsSteps_c20 : (Rows.modsStepsRow.ifacesOut == Try.f20.resultTypes.toList.any (Try.prog.ifacesRec ·)) = true := by kernel_rfl
theorem modsSteps_c21 : (Rows.modsStepsRow.loopsOut == Try.f20.resultTypes.toList.any (Try.prog.loopsFrom ·)) = true := by kernel_rfl
theorem modsSteps_c22 : (Rows.modsStepsRow.plainKeys == Try.prog.plainKeys) = true := beq_of plainKeys_ok
theorem modsSteps_c23 : (Rows.modsStepsRow.shortTexts.isNone) = true := by kernel_rfl
theorem modsSteps_c26 : (Rows.modsStepsRow.lifted == Try.prog.liftsFinal) = true := beq_of liftsFinal_ok
theorem modsSteps_c27 : (Try.prog.make == some Rows.modsStepsRow.make) = true := by rw [make_ok]; show _ = _; kernel_rfl
theorem modsSteps_c28 : (Rows.modsStepsRow.kinds == (if Rows.modsStepsRow.domain.isEmpty then [] else Try.f20.params.toList.map fun t => match Try.prog.underlying t with | some (.int k) => some k | _ => none)) = true := by kernel_rfl
theorem modsSteps_c29 : (Rows.modsStepsRow.pinned == Rows.modsStepsRow.pinnedBy) = true := by kernel_rfl
theorem modsSteps_c30 : (Rows.modsStepsRow.veiled == (Try.f20.params.toList ++ Rows.modsStepsSpec.plain.varTypes Try.prog ++ Try.f20.resultTypes.toList).any (Try.prog.veiledRec ·)) = true := by kernel_rfl
theorem modsSteps_c31 : (Rows.modsStepsRow.veiledFits Try.prog Try.f20.params.toList (Try.f20.params.toList ++ Rows.modsStepsSpec.plain.varTypes Try.prog ++ Try.f20.resultTypes.toList)) = true := by kernel_rfl
set_option maxRecDepth 1000000 in
theorem modsSteps_closed : joinedFacts Try.prog 20 Try.f20 Rows.modsStepsSpec Rows.modsStepsRow = true := (and2 (and2 (and2 (and2 (and2 (and2 (and2 (and2 (and2 (and2 (and2 (and2 (and2 (and2 (and2 (and2 (and2 (and2 (and2 (and2 (and2 (and2 (and2 (and2 (and2 (and2 (and2 (and2 (and2 (and2 (and2 modsSteps_c0 laidOut_ok) mapsRowed_ok) modsSteps_c3) modsSteps_c4) modsSteps_c5) modsSteps_c6) modsSteps_c7) modsSteps_c8) modsSteps_c9) modsSteps_c10) modsSteps_c11) modsSteps_c12) modsSteps_c13) modsSteps_c14) modsSteps_c15) modsSteps_c16) modsSteps_c17) modsSteps_c18) modsSteps_c19) modsSteps_c20) modsSteps_c21) modsSteps_c22) modsSteps_c23) stopsHeard_ok) mayEnter_ok) modsSteps_c26) modsSteps_c27) modsSteps_c28) modsSteps_c29) modsSteps_c30) modsSteps_c31)

theorem modsSteps_holds : Rows.ModsStepsSaid :=
  OpenClaim.holds_of_wide 20 Try.f20 rfl rfl rfl rfl rfl rfl rfl ⟨rfl, rfl, rfl, rfl, rfl⟩ rfl rfl rfl rfl rfl (by kernel_rfl) Try.func20 modsSteps_closed
    (of_decide_eq_true (by kernel_rfl)) (by unfold Func.isWrapper; first | (rw [if_pos (by decide +kernel)]; kernel_rfl) | (rw [if_neg (by decide +kernel)]; exact ⟨rfl, rfl⟩))
    (fun os started H enc _ => modsSteps_lifted os started H enc)

end Go.Proofs.Ytjkelipglcnpmaa
