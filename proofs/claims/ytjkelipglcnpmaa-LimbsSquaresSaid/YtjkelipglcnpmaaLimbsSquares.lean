/- LimbsSquares: the row, proved: the frame is law_lifted (Fr), the walk is f7.ok, the plain law is f7.holds. -/
import Derived.Test.YtjkelipglcnpmaaRows
import Derived.Test.YtjkelipglcnpmaaFr
import Derived.Test.YtjkelipglcnpmaaHd
import Derived.Test.YtjkelipglcnpmaaPlR2
namespace Go.Proofs.Ytjkelipglcnpmaa
open Go.VM

set_option maxRecDepth 100000 in
theorem limbsSquares_lifted (os : Os) (started : os.Started) (H : Type) (enc : TypeId × Value → H) :
    ReturnsInHanded {} Try.checked os 7 .any (Rows.limbsSquaresSpec.pre6 enc Try.prog Try.f7 Rows.limbsSquaresRow.domain false) (Rows.limbsSquaresSpec.post enc Try.prog Try.f7 false true false false) := by
  refine law_lifted (C := Try.checked) (n := 8) (by kernel_rfl) started (by kernel_rfl) Try.func7
    (ChangeSpec.witness6 (enc := enc) (C := Try.checked) false ⟨#[], #[.agg #[.int .u64 0, .int .u64 0, .int .u64 0, .int .u64 0], .agg #[.int .u64 0, .int .u64 0, .int .u64 0, .int .u64 0]], []⟩ 8 (by kernel_rfl) (by kernel_rfl) (by kernel_rfl) (by kernel_rfl)) ?_ rfl (tb := 4) rfl Try.underlying4 ?_ ?_
  · have h : (Try.f7.params.toList.all fun t => flat Try.prog 8 t) = true := by kernel_rfl
    exact List.all_eq_true.1 h
  · intro ds hds
    obtain ⟨d0, d1, rfl⟩ := list2 (l := ds) hds
    rfl
  · intro W args hsz hr
    obtain ⟨v0, v1, rfl⟩ := args2 (args := args) hsz
    obtain ⟨a0, h0, rfl⟩ := reads_num Try.underlying24 Try.underlying22 (by kernel_rfl) (by kernel_rfl) (hr 0 24 v0 rfl rfl)
    obtain ⟨a1, h1, rfl⟩ := reads_num Try.underlying24 Try.underlying22 (by kernel_rfl) (by kernel_rfl) (hr 1 24 v1 rfl rfl)
    exact law_calls (f7.ok 1000) (fun _ => rfl) (vs := [.agg [.ints .u64 4 (num a0)], .agg [.ints .u64 4 (num a1)]]) (x := (num a0, num a1)) rfl (f7.holds a0 a1 h0 h1) rfl W

theorem limbsSquares_c0 : (Rows.limbsSquaresRow.wf (OpenSpec.ofChange Rows.limbsSquaresSpec)) = true := by kernel_rfl
theorem limbsSquares_c3 : (Try.f7.params.all (Try.prog.readableRec ·)) = true := by kernel_rfl
theorem limbsSquares_c4 : (namedTie Try.prog Rows.limbsSquaresRow.named Rows.limbsSquaresSpec.vars) = true := by kernel_rfl
theorem limbsSquares_c5 : (Rows.limbsSquaresRow.stops == []) = true := by kernel_rfl
theorem limbsSquares_c6 : (Try.prog.stops == []) = true := by kernel_rfl
theorem limbsSquares_c7 : (Rows.limbsSquaresRow.knobs == []) = true := by kernel_rfl
theorem limbsSquares_c8 : (Try.prog.stopKnobs == []) = true := by kernel_rfl
theorem limbsSquares_c9 : (Rows.limbsSquaresRow.inPlace == Try.prog.inPlace 7) = true := by kernel_rfl
theorem limbsSquares_c10 : (Rows.limbsSquaresRow.unfollowed == Try.prog.unfollowed 7) = true := by kernel_rfl
theorem limbsSquares_c11 : (Rows.limbsSquaresRow.recurses == Try.prog.recurses 7) = true := by kernel_rfl
theorem limbsSquares_c12 : (Rows.limbsSquaresRow.named == Try.prog.varsNamed 7) = true := by kernel_rfl
theorem limbsSquares_c13 : (Rows.limbsSquaresRow.maps == (Try.f7.params.toList ++ Rows.limbsSquaresSpec.plain.varTypes Try.prog).any (Try.prog.mapsRec ·)) = true := by kernel_rfl
theorem limbsSquares_c14 : (Rows.limbsSquaresRow.ifaces == (Try.f7.params.toList ++ Rows.limbsSquaresSpec.plain.varTypes Try.prog).any (Try.prog.ifacesRec ·)) = true := by kernel_rfl
theorem limbsSquares_c15 : (Rows.limbsSquaresRow.mapsOut == Try.prog.mapsAmong Try.f7.resultTypes.toList) = true := by kernel_rfl
theorem limbsSquares_c16 : (Rows.limbsSquaresRow.loops == (Try.f7.params.toList ++ Rows.limbsSquaresSpec.plain.varTypes Try.prog).any (Try.prog.loopsFrom ·)) = true := by kernel_rfl
theorem limbsSquares_c17 : (Rows.limbsSquaresRow.wideKeys == (Try.f7.params.toList ++ Rows.limbsSquaresSpec.plain.varTypes Try.prog ++ Try.f7.resultTypes.toList).any (Try.prog.wideKeysFrom ·)) = true := by kernel_rfl
theorem limbsSquares_c18 : (Rows.limbsSquaresSpec.vars.all (Try.prog.varReadable ·)) = true := by kernel_rfl
theorem limbsSquares_c19 : (Try.f7.resultTypes.all (fun t => Try.prog.readableRec t && decide (t < Try.prog.types.size))) = true := by kernel_rfl
theorem limbsSquares_c20 : (Rows.limbsSquaresRow.ifacesOut == Try.f7.resultTypes.toList.any (Try.prog.ifacesRec ·)) = true := by kernel_rfl
theorem limbsSquares_c21 : (Rows.limbsSquaresRow.loopsOut == Try.f7.resultTypes.toList.any (Try.prog.loopsFrom ·)) = true := by kernel_rfl
theorem limbsSquares_c22 : (Rows.limbsSquaresRow.plainKeys == Try.prog.plainKeys) = true := beq_of plainKeys_ok
theorem limbsSquares_c23 : (Rows.limbsSquaresRow.shortTexts.isNone) = true := by kernel_rfl
theorem limbsSquares_c26 : (Rows.limbsSquaresRow.lifted == Try.prog.liftsFinal) = true := beq_of liftsFinal_ok
theorem limbsSquares_c27 : (Try.prog.make == some Rows.limbsSquaresRow.make) = true := by rw [make_ok]; show _ = _; kernel_rfl
theorem limbsSquares_c28 : (Rows.limbsSquaresRow.kinds == (if Rows.limbsSquaresRow.domain.isEmpty then [] else Try.f7.params.toList.map fun t => match Try.prog.underlying t with | some (.int k) => some k | _ => none)) = true := by kernel_rfl
theorem limbsSquares_c29 : (Rows.limbsSquaresRow.pinned == Rows.limbsSquaresRow.pinnedBy) = true := by kernel_rfl
theorem limbsSquares_c30 : (Rows.limbsSquaresRow.veiled == (Try.f7.params.toList ++ Rows.limbsSquaresSpec.plain.varTypes Try.prog ++ Try.f7.resultTypes.toList).any (Try.prog.veiledRec ·)) = true := by kernel_rfl
theorem limbsSquares_c31 : (Rows.limbsSquaresRow.veiledFits Try.prog Try.f7.params.toList (Try.f7.params.toList ++ Rows.limbsSquaresSpec.plain.varTypes Try.prog ++ Try.f7.resultTypes.toList)) = true := by kernel_rfl
set_option maxRecDepth 1000000 in
theorem limbsSquares_closed : joinedFacts Try.prog 7 Try.f7 Rows.limbsSquaresSpec Rows.limbsSquaresRow = true := (and2 (and2 (and2 (and2 (and2 (and2 (and2 (and2 (and2 (and2 (and2 (and2 (and2 (and2 (and2 (and2 (and2 (and2 (and2 (and2 (and2 (and2 (and2 (and2 (and2 (and2 (and2 (and2 (and2 (and2 (and2 limbsSquares_c0 laidOut_ok) mapsRowed_ok) limbsSquares_c3) limbsSquares_c4) limbsSquares_c5) limbsSquares_c6) limbsSquares_c7) limbsSquares_c8) limbsSquares_c9) limbsSquares_c10) limbsSquares_c11) limbsSquares_c12) limbsSquares_c13) limbsSquares_c14) limbsSquares_c15) limbsSquares_c16) limbsSquares_c17) limbsSquares_c18) limbsSquares_c19) limbsSquares_c20) limbsSquares_c21) limbsSquares_c22) limbsSquares_c23) stopsHeard_ok) mayEnter_ok) limbsSquares_c26) limbsSquares_c27) limbsSquares_c28) limbsSquares_c29) limbsSquares_c30) limbsSquares_c31)

theorem limbsSquares_holds : Rows.LimbsSquaresSaid :=
  OpenClaim.holds_of_wide 7 Try.f7 rfl rfl rfl rfl rfl rfl rfl ⟨rfl, rfl, rfl, rfl, rfl⟩ rfl rfl rfl rfl rfl (by kernel_rfl) Try.func7 limbsSquares_closed
    (of_decide_eq_true (by kernel_rfl)) (by unfold Func.isWrapper; first | (rw [if_pos (by decide +kernel)]; kernel_rfl) | (rw [if_neg (by decide +kernel)]; exact ⟨rfl, rfl⟩))
    (fun os started H enc _ => limbsSquares_lifted os started H enc)

end Go.Proofs.Ytjkelipglcnpmaa

