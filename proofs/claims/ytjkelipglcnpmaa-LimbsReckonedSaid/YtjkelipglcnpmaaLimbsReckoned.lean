/- LimbsReckoned: the row, proved: the frame is law_lifted (Fr), the walk is f3.ok, the plain law is f3.holds. -/
import Derived.Test.YtjkelipglcnpmaaPla
import Derived.Test.YtjkelipglcnpmaaRows
namespace Go.Proofs.Ytjkelipglcnpmaa
open Go.VM

set_option maxRecDepth 100000 in
theorem limbsReckoned_lifted (os : Os) (started : os.Started) (H : Type) (enc : TypeId × Value → H) :
    ReturnsInHanded {} Try.checked os 3 .any (Rows.limbsReckonedSpec.pre6 enc Try.prog Try.f3 Rows.limbsReckonedRow.domain false) (Rows.limbsReckonedSpec.post enc Try.prog Try.f3 false true false false) := by
  refine law_lifted (C := Try.checked) (n := 8) (by kernel_rfl) started (by kernel_rfl) Try.func3
    (ChangeSpec.witness6 (enc := enc) (C := Try.checked) false ⟨#[], #[.agg #[.int .u64 0, .int .u64 0, .int .u64 0, .int .u64 0], .agg #[.int .u64 0, .int .u64 0, .int .u64 0, .int .u64 0], .int .i64 0], []⟩ 8 (by kernel_rfl) (by kernel_rfl) (by kernel_rfl) (by kernel_rfl)) ?_ rfl (tb := 4) rfl Try.underlying4 ?_ ?_
  · have h : (Try.f3.params.toList.all fun t => flat Try.prog 8 t) = true := by kernel_rfl
    exact List.all_eq_true.1 h
  · intro ds hds
    obtain ⟨d0, d1, d2, rfl⟩ := list3 (l := ds) hds
    rfl
  · intro W args hsz hr
    obtain ⟨v0, v1, v2, rfl⟩ := args3 (args := args) hsz
    obtain ⟨a0, h0, rfl⟩ := reads_num Try.underlying24 Try.underlying22 (by kernel_rfl) (by kernel_rfl) (hr 0 24 v0 rfl rfl)
    obtain ⟨a1, h1, rfl⟩ := reads_num Try.underlying24 Try.underlying22 (by kernel_rfl) (by kernel_rfl) (hr 1 24 v1 rfl rfl)
    obtain ⟨a2, h2, rfl⟩ := reads_int Try.underlying3 (hr 2 3 v2 rfl rfl)
    exact law_calls (f3.ok 1000) (fun _ => rfl) (vs := [.agg [.ints .u64 4 (num a0)], .agg [.ints .u64 4 (num a1)], .int .i64 a2]) (x := (num a0, num a1, a2)) rfl (f3.holds a0 a1 a2 h0 h1 h2) rfl W

theorem limbsReckoned_c0 : (Rows.limbsReckonedRow.wf (OpenSpec.ofChange Rows.limbsReckonedSpec)) = true := by kernel_rfl
theorem limbsReckoned_c3 : (Try.f3.params.all (Try.prog.readableRec ·)) = true := by kernel_rfl
theorem limbsReckoned_c4 : (namedTie Try.prog Rows.limbsReckonedRow.named Rows.limbsReckonedSpec.vars) = true := by kernel_rfl
theorem limbsReckoned_c5 : (Rows.limbsReckonedRow.stops == []) = true := by kernel_rfl
theorem limbsReckoned_c6 : (Try.prog.stops == []) = true := by kernel_rfl
theorem limbsReckoned_c7 : (Rows.limbsReckonedRow.knobs == []) = true := by kernel_rfl
theorem limbsReckoned_c8 : (Try.prog.stopKnobs == []) = true := by kernel_rfl
theorem limbsReckoned_c9 : (Rows.limbsReckonedRow.inPlace == Try.prog.inPlace 3) = true := by kernel_rfl
theorem limbsReckoned_c10 : (Rows.limbsReckonedRow.unfollowed == Try.prog.unfollowed 3) = true := by kernel_rfl
theorem limbsReckoned_c11 : (Rows.limbsReckonedRow.recurses == Try.prog.recurses 3) = true := by kernel_rfl
theorem limbsReckoned_c12 : (Rows.limbsReckonedRow.named == Try.prog.varsNamed 3) = true := by kernel_rfl
theorem limbsReckoned_c13 : (Rows.limbsReckonedRow.maps == (Try.f3.params.toList ++ Rows.limbsReckonedSpec.plain.varTypes Try.prog).any (Try.prog.mapsRec ·)) = true := by kernel_rfl
theorem limbsReckoned_c14 : (Rows.limbsReckonedRow.ifaces == (Try.f3.params.toList ++ Rows.limbsReckonedSpec.plain.varTypes Try.prog).any (Try.prog.ifacesRec ·)) = true := by kernel_rfl
theorem limbsReckoned_c15 : (Rows.limbsReckonedRow.mapsOut == Try.prog.mapsAmong Try.f3.resultTypes.toList) = true := by kernel_rfl
theorem limbsReckoned_c16 : (Rows.limbsReckonedRow.loops == (Try.f3.params.toList ++ Rows.limbsReckonedSpec.plain.varTypes Try.prog).any (Try.prog.loopsFrom ·)) = true := by kernel_rfl
theorem limbsReckoned_c17 : (Rows.limbsReckonedRow.wideKeys == (Try.f3.params.toList ++ Rows.limbsReckonedSpec.plain.varTypes Try.prog ++ Try.f3.resultTypes.toList).any (Try.prog.wideKeysFrom ·)) = true := by kernel_rfl
theorem limbsReckoned_c18 : (Rows.limbsReckonedSpec.vars.all (Try.prog.varReadable ·)) = true := by kernel_rfl
theorem limbsReckoned_c19 : (Try.f3.resultTypes.all (fun t => Try.prog.readableRec t && decide (t < Try.prog.types.size))) = true := by kernel_rfl
theorem limbsReckoned_c20 : (Rows.limbsReckonedRow.ifacesOut == Try.f3.resultTypes.toList.any (Try.prog.ifacesRec ·)) = true := by kernel_rfl
theorem limbsReckoned_c21 : (Rows.limbsReckonedRow.loopsOut == Try.f3.resultTypes.toList.any (Try.prog.loopsFrom ·)) = true := by kernel_rfl
theorem limbsReckoned_c22 : (Rows.limbsReckonedRow.plainKeys == Try.prog.plainKeys) = true := beq_of plainKeys_ok
theorem limbsReckoned_c23 : (Rows.limbsReckonedRow.shortTexts.isNone) = true := by kernel_rfl
theorem limbsReckoned_c26 : (Rows.limbsReckonedRow.lifted == Try.prog.liftsFinal) = true := beq_of liftsFinal_ok
theorem limbsReckoned_c27 : (Try.prog.make == some Rows.limbsReckonedRow.make) = true := by rw [make_ok]; show _ = _; kernel_rfl
theorem limbsReckoned_c28 : (Rows.limbsReckonedRow.kinds == (if Rows.limbsReckonedRow.domain.isEmpty then [] else Try.f3.params.toList.map fun t => match Try.prog.underlying t with | some (.int k) => some k | _ => none)) = true := by kernel_rfl
theorem limbsReckoned_c29 : (Rows.limbsReckonedRow.pinned == Rows.limbsReckonedRow.pinnedBy) = true := by kernel_rfl
theorem limbsReckoned_c30 : (Rows.limbsReckonedRow.veiled == (Try.f3.params.toList ++ Rows.limbsReckonedSpec.plain.varTypes Try.prog ++ Try.f3.resultTypes.toList).any (Try.prog.veiledRec ·)) = true := by kernel_rfl
theorem limbsReckoned_c31 : (Rows.limbsReckonedRow.veiledFits Try.prog Try.f3.params.toList (Try.f3.params.toList ++ Rows.limbsReckonedSpec.plain.varTypes Try.prog ++ Try.f3.resultTypes.toList)) = true := by kernel_rfl
set_option maxRecDepth 1000000 in
theorem limbsReckoned_closed : joinedFacts Try.prog 3 Try.f3 Rows.limbsReckonedSpec Rows.limbsReckonedRow = true := (and2 (and2 (and2 (and2 (and2 (and2 (and2 (and2 (and2 (and2 (and2 (and2 (and2 (and2 (and2 (and2 (and2 (and2 (and2 (and2 (and2 (and2 (and2 (and2 (and2 (and2 (and2 (and2 (and2 (and2 (and2 limbsReckoned_c0 laidOut_ok) mapsRowed_ok) limbsReckoned_c3) limbsReckoned_c4) limbsReckoned_c5) limbsReckoned_c6) limbsReckoned_c7) limbsReckoned_c8) limbsReckoned_c9) limbsReckoned_c10) limbsReckoned_c11) limbsReckoned_c12) limbsReckoned_c13) limbsReckoned_c14) limbsReckoned_c15) limbsReckoned_c16) limbsReckoned_c17) limbsReckoned_c18) limbsReckoned_c19) limbsReckoned_c20) limbsReckoned_c21) limbsReckoned_c22) limbsReckoned_c23) stopsHeard_ok) mayEnter_ok) limbsReckoned_c26) limbsReckoned_c27) limbsReckoned_c28) limbsReckoned_c29) limbsReckoned_c30) limbsReckoned_c31)

theorem limbsReckoned_holds : Rows.LimbsReckonedSaid :=
  OpenClaim.holds_of_wide 3 Try.f3 rfl rfl rfl rfl rfl rfl rfl ⟨rfl, rfl, rfl, rfl, rfl⟩ rfl rfl rfl rfl rfl (by kernel_rfl) Try.func3 limbsReckoned_closed
    (of_decide_eq_true (by kernel_rfl)) (by unfold Func.isWrapper; first | (rw [if_pos (by decide +kernel)]; kernel_rfl) | (rw [if_neg (by decide +kernel)]; exact ⟨rfl, rfl⟩))
    (fun os started H enc _ => limbsReckoned_lifted os started H enc)

end Go.Proofs.Ytjkelipglcnpmaa

