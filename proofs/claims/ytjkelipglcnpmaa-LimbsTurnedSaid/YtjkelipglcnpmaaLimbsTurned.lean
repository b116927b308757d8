/- LimbsTurned: the row, proved: the frame is law_lifted (Fr), the walk is f4.ok, the plain law is f4.holds. -/
import Derived.Test.YtjkelipglcnpmaaRows
import Derived.Test.YtjkelipglcnpmaaFr
import Derived.Test.YtjkelipglcnpmaaHd
import Derived.Test.YtjkelipglcnpmaaPlR2
namespace Go.Proofs.Ytjkelipglcnpmaa
open Go.VM

set_option maxRecDepth 100000 in
theorem limbsTurned_lifted (os : Os) (started : os.Started) (H : Type) (enc : TypeId × Value → H) :
    ReturnsInHanded {} Try.checked os 4 .any (Rows.limbsTurnedSpec.pre6 enc Try.prog Try.f4 Rows.limbsTurnedRow.domain false) (Rows.limbsTurnedSpec.post enc Try.prog Try.f4 false true false false) := by
  refine law_lifted (C := Try.checked) (n := 8) (by kernel_rfl) started (by kernel_rfl) Try.func4
    (ChangeSpec.witness6 (enc := enc) (C := Try.checked) false ⟨#[], #[.agg #[.int .u64 0, .int .u64 0, .int .u64 0, .int .u64 0]], []⟩ 8 (by kernel_rfl) (by kernel_rfl) (by kernel_rfl) (by kernel_rfl)) ?_ rfl (tb := 4) rfl Try.underlying4 ?_ ?_
  · have h : (Try.f4.params.toList.all fun t => flat Try.prog 8 t) = true := by kernel_rfl
    exact List.all_eq_true.1 h
  · intro ds hds
    obtain ⟨d0, rfl⟩ := list1 (l := ds) hds
    rfl
  · intro W args hsz hr
    obtain ⟨v0, rfl⟩ := args1 (args := args) hsz
    obtain ⟨a0, h0, rfl⟩ := reads_num Try.underlying24 Try.underlying22 (by kernel_rfl) (by kernel_rfl) (hr 0 24 v0 rfl rfl)
    exact law_calls (f4.ok 1000) (fun _ => rfl) (vs := [.agg [.ints .u64 4 (num a0)]]) (x := num a0) rfl (f4.holds a0 h0) rfl W

theorem limbsTurned_c0 : (Rows.limbsTurnedRow.wf (OpenSpec.ofChange Rows.limbsTurnedSpec)) = true := by kernel_rfl
theorem limbsTurned_c3 : (Try.f4.params.all (Try.prog.readableRec ·)) = true := by kernel_rfl
theorem limbsTurned_c4 : (namedTie Try.prog Rows.limbsTurnedRow.named Rows.limbsTurnedSpec.vars) = true := by kernel_rfl
theorem limbsTurned_c5 : (Rows.limbsTurnedRow.stops == []) = true := by kernel_rfl
theorem limbsTurned_c6 : (Try.prog.stops == []) = true := by kernel_rfl
theorem limbsTurned_c7 : (Rows.limbsTurnedRow.knobs == []) = true := by kernel_rfl
theorem limbsTurned_c8 : (Try.prog.stopKnobs == []) = true := by kernel_rfl
theorem limbsTurned_c9 : (Rows.limbsTurnedRow.inPlace == Try.prog.inPlace 4) = true := by kernel_rfl
theorem limbsTurned_c10 : (Rows.limbsTurnedRow.unfollowed == Try.prog.unfollowed 4) = true := by kernel_rfl
theorem limbsTurned_c11 : (Rows.limbsTurnedRow.recurses == Try.prog.recurses 4) = true := by kernel_rfl
theorem limbsTurned_c12 : (Rows.limbsTurnedRow.named == Try.prog.varsNamed 4) = true := by kernel_rfl
theorem limbsTurned_c13 : (Rows.limbsTurnedRow.maps == (Try.f4.params.toList ++ Rows.limbsTurnedSpec.plain.varTypes Try.prog).any (Try.prog.mapsRec ·)) = true := by kernel_rfl
theorem limbsTurned_c14 : (Rows.limbsTurnedRow.ifaces == (Try.f4.params.toList ++ Rows.limbsTurnedSpec.plain.varTypes Try.prog).any (Try.prog.ifacesRec ·)) = true := by kernel_rfl
theorem limbsTurned_c15 : (Rows.limbsTurnedRow.mapsOut == Try.prog.mapsAmong Try.f4.resultTypes.toList) = true := by kernel_rfl
theorem limbsTurned_c16 : (Rows.limbsTurnedRow.loops == (Try.f4.params.toList ++ Rows.limbsTurnedSpec.plain.varTypes Try.prog).any (Try.prog.loopsFrom ·)) = true := by kernel_rfl
theorem limbsTurned_c17 : (Rows.limbsTurnedRow.wideKeys == (Try.f4.params.toList ++ Rows.limbsTurnedSpec.plain.varTypes Try.prog ++ Try.f4.resultTypes.toList).any (Try.prog.wideKeysFrom ·)) = true := by kernel_rfl
theorem limbsTurned_c18 : (Rows.limbsTurnedSpec.vars.all (Try.prog.varReadable ·)) = true := by kernel_rfl
theorem limbsTurned_c19 : (Try.f4.resultTypes.all (fun t => Try.prog.readableRec t && decide (t < Try.prog.types.size))) = true := by kernel_rfl
theorem limbsTurned_c20 : (Rows.limbsTurnedRow.ifacesOut == Try.f4.resultTypes.toList.any (Try.prog.ifacesRec ·)) = true := by kernel_rfl
theorem limbsTurned_c21 : (Rows.limbsTurnedRow.loopsOut == Try.f4.resultTypes.toList.any (Try.prog.loopsFrom ·)) = true := by kernel_rfl
theorem limbsTurned_c22 : (Rows.limbsTurnedRow.plainKeys == Try.prog.plainKeys) = true := beq_of plainKeys_ok
theorem limbsTurned_c23 : (Rows.limbsTurnedRow.shortTexts.isNone) = true := by kernel_rfl
theorem limbsTurned_c26 : (Rows.limbsTurnedRow.lifted == Try.prog.liftsFinal) = true := beq_of liftsFinal_ok
theorem limbsTurned_c27 : (Try.prog.make == some Rows.limbsTurnedRow.make) = true := by rw [make_ok]; show _ = _; kernel_rfl
theorem limbsTurned_c28 : (Rows.limbsTurnedRow.kinds == (if Rows.limbsTurnedRow.domain.isEmpty then [] else Try.f4.params.toList.map fun t => match Try.prog.underlying t with | some (.int k) => some k | _ => none)) = true := by kernel_rfl
theorem limbsTurned_c29 : (Rows.limbsTurnedRow.pinned == Rows.limbsTurnedRow.pinnedBy) = true := by kernel_rfl
theorem limbsTurned_c30 : (Rows.limbsTurnedRow.veiled == (Try.f4.params.toList ++ Rows.limbsTurnedSpec.plain.varTypes Try.prog ++ Try.f4.resultTypes.toList).any (Try.prog.veiledRec ·)) = true := by kernel_rfl
theorem limbsTurned_c31 : (Rows.limbsTurnedRow.veiledFits Try.prog Try.f4.params.toList (Try.f4.params.toList ++ Rows.limbsTurnedSpec.plain.varTypes Try.prog ++ Try.f4.resultTypes.toList)) = true := by kernel_rfl
set_option maxRecDepth 1000000 in
theorem limbsTurned_closed : joinedFacts Try.prog 4 Try.f4 Rows.limbsTurnedSpec Rows.limbsTurnedRow = true := (and2 (and2 (and2 (and2 (and2 (and2 (and2 (and2 (and2 (and2 (and2 (and2 (and2 (and2 (and2 (and2 (and2 (and2 (and2 (and2 (and2 (and2 (and2 (and2 (and2 (and2 (and2 (and2 (and2 (and2 (and2 limbsTurned_c0 laidOut_ok) mapsRowed_ok) limbsTurned_c3) limbsTurned_c4) limbsTurned_c5) limbsTurned_c6) limbsTurned_c7) limbsTurned_c8) limbsTurned_c9) limbsTurned_c10) limbsTurned_c11) limbsTurned_c12) limbsTurned_c13) limbsTurned_c14) limbsTurned_c15) limbsTurned_c16) limbsTurned_c17) limbsTurned_c18) limbsTurned_c19) limbsTurned_c20) limbsTurned_c21) limbsTurned_c22) limbsTurned_c23) stopsHeard_ok) mayEnter_ok) limbsTurned_c26) limbsTurned_c27) limbsTurned_c28) limbsTurned_c29) limbsTurned_c30) limbsTurned_c31)

theorem limbsTurned_holds : Rows.LimbsTurnedSaid :=
  OpenClaim.holds_of_wide 4 Try.f4 rfl rfl rfl rfl rfl rfl rfl ⟨rfl, rfl, rfl, rfl, rfl⟩ rfl rfl rfl rfl rfl (by kernel_rfl) Try.func4 limbsTurned_closed
    (of_decide_eq_true (by kernel_rfl)) (by unfold Func.isWrapper; first | (rw [if_pos (by decide +kernel)]; kernel_rfl) | (rw [if_neg (by decide +kernel)]; exact ⟨rfl, rfl⟩))
    (fun os started H enc _ => limbsTurned_lifted os started H enc)

end Go.Proofs.Ytjkelipglcnpmaa

