/- LimbsMoves: the row, proved: the frame is law_lifted (Fr), the walk is f9.ok, the plain law is f9.holds. -/
import Derived.Test.YtjkelipglcnpmaaRows
import Derived.Test.YtjkelipglcnpmaaFr
import Derived.Test.YtjkelipglcnpmaaHd
import Derived.Test.YtjkelipglcnpmaaPlR3
namespace Go.Proofs.Ytjkelipglcnpmaa
open Go.VM

set_option maxRecDepth 100000 in
theorem limbsMoves_lifted (os : Os) (started : os.Started) (H : Type) (enc : TypeId × Value → H) :
    ReturnsInHanded {} Try.checked os 9 .any (Rows.limbsMovesSpec.pre6 enc Try.prog Try.f9 Rows.limbsMovesRow.domain false) (Rows.limbsMovesSpec.post enc Try.prog Try.f9 false true false false) := by
  refine law_lifted (C := Try.checked) (n := 8) (by kernel_rfl) started (by kernel_rfl) Try.func9
    (ChangeSpec.witness6 (enc := enc) (C := Try.checked) false ⟨#[], #[.agg #[.int .u64 0, .int .u64 0, .int .u64 0, .int .u64 0], .int .u8 0, .int .u8 0], []⟩ 8 (by kernel_rfl) (by kernel_rfl) (by kernel_rfl) (by kernel_rfl)) ?_ rfl (tb := 4) rfl Try.underlying4 ?_ ?_
  · have h : (Try.f9.params.toList.all fun t => flat Try.prog 8 t) = true := by kernel_rfl
    exact List.all_eq_true.1 h
  · intro ds hds
    obtain ⟨d0, d1, d2, rfl⟩ := list3 (l := ds) hds
    rfl
  · intro W args hsz hr
    obtain ⟨v0, v1, v2, rfl⟩ := args3 (args := args) hsz
    obtain ⟨a0, h0, rfl⟩ := reads_num Try.underlying24 Try.underlying22 (by kernel_rfl) (by kernel_rfl) (hr 0 24 v0 rfl rfl)
    obtain ⟨a1, h1, rfl⟩ := reads_int Try.underlying5 (hr 1 5 v1 rfl rfl)
    obtain ⟨a2, h2, rfl⟩ := reads_int Try.underlying5 (hr 2 5 v2 rfl rfl)
    exact law_calls (f9.ok 1000) (fun _ => rfl) (vs := [.agg [.ints .u64 4 (num a0)], .int .u8 a1, .int .u8 a2]) (x := (num a0, a1, a2)) rfl (f9.holds a0 a1 a2 h0 h1 h2) rfl W

theorem limbsMoves_c0 : (Rows.limbsMovesRow.wf (OpenSpec.ofChange Rows.limbsMovesSpec)) = true := by kernel_rfl
theorem limbsMoves_c3 : (Try.f9.params.all (Try.prog.readableRec ·)) = true := by kernel_rfl
theorem limbsMoves_c4 : (namedTie Try.prog Rows.limbsMovesRow.named Rows.limbsMovesSpec.vars) = true := by kernel_rfl
theorem limbsMoves_c5 : (Rows.limbsMovesRow.stops == []) = true := by kernel_rfl
theorem limbsMoves_c6 : (Try.prog.stops == []) = true := by kernel_rfl
theorem limbsMoves_c7 : (Rows.limbsMovesRow.knobs == []) = true := by kernel_rfl
theorem limbsMoves_c8 : (Try.prog.stopKnobs == []) = true := by kernel_rfl
theorem limbsMoves_c9 : (Rows.limbsMovesRow.inPlace == Try.prog.inPlace 9) = true := by kernel_rfl
theorem limbsMoves_c10 : (Rows.limbsMovesRow.unfollowed == Try.prog.unfollowed 9) = true := by kernel_rfl
theorem limbsMoves_c11 : (Rows.limbsMovesRow.recurses == Try.prog.recurses 9) = true := by kernel_rfl
theorem limbsMoves_c12 : (Rows.limbsMovesRow.named == Try.prog.varsNamed 9) = true := by kernel_rfl
theorem limbsMoves_c13 : (Rows.limbsMovesRow.maps == (Try.f9.params.toList ++ Rows.limbsMovesSpec.plain.varTypes Try.prog).any (Try.prog.mapsRec ·)) = true := by kernel_rfl
theorem limbsMoves_c14 : (Rows.limbsMovesRow.ifaces == (Try.f9.params.toList ++ Rows.limbsMovesSpec.plain.varTypes Try.prog).any (Try.prog.ifacesRec ·)) = true := by kernel_rfl
theorem limbsMoves_c15 : (Rows.limbsMovesRow.mapsOut == Try.prog.mapsAmong Try.f9.resultTypes.toList) = true := by kernel_rfl
theorem limbsMoves_c16 : (Rows.limbsMovesRow.loops == (Try.f9.params.toList ++ Rows.limbsMovesSpec.plain.varTypes Try.prog).any (Try.prog.loopsFrom ·)) = true := by kernel_rfl
theorem limbsMoves_c17 : (Rows.limbsMovesRow.wideKeys == (Try.f9.params.toList ++ Rows.limbsMovesSpec.plain.varTypes Try.prog ++ Try.f9.resultTypes.toList).any (Try.prog.wideKeysFrom ·)) = true := by kernel_rfl
theorem limbsMoves_c18 : (Rows.limbsMovesSpec.vars.all (Try.prog.varReadable ·)) = true := by kernel_rfl
theorem limbsMoves_c19 : (Try.f9.resultTypes.all (fun t => Try.prog.readableRec t && decide (t < Try.prog.types.size))) = true := by kernel_rfl
theorem limbsMoves_c20 : (Rows.limbsMovesRow.ifacesOut == Try.f9.resultTypes.toList.any (Try.prog.ifacesRec ·)) = true := by kernel_rfl
theorem limbsMoves_c21 : (Rows.limbsMovesRow.loopsOut == Try.f9.resultTypes.toList.any (Try.prog.loopsFrom ·)) = true := by kernel_rfl
theorem limbsMoves_c22 : (Rows.limbsMovesRow.plainKeys == Try.prog.plainKeys) = true := beq_of plainKeys_ok
theorem limbsMoves_c23 : (Rows.limbsMovesRow.shortTexts.isNone) = true := by kernel_rfl
theorem limbsMoves_c26 : (Rows.limbsMovesRow.lifted == Try.prog.liftsFinal) = true := beq_of liftsFinal_ok
theorem limbsMoves_c27 : (Try.prog.make == some Rows.limbsMovesRow.make) = true := by rw [make_ok]; show _ = _; kernel_rfl
theorem limbsMoves_c28 : (Rows.limbsMovesRow.kinds == (if Rows.limbsMovesRow.domain.isEmpty then [] else Try.f9.params.toList.map fun t => match Try.prog.underlying t with | some (.int k) => some k | _ => none)) = true := by kernel_rfl
theorem limbsMoves_c29 : (Rows.limbsMovesRow.pinned == Rows.limbsMovesRow.pinnedBy) = true := by kernel_rfl
theorem limbsMoves_c30 : (Rows.limbsMovesRow.veiled == (Try.f9.params.toList ++ Rows.limbsMovesSpec.plain.varTypes Try.prog ++ Try.f9.resultTypes.toList).any (Try.prog.veiledRec ·)) = true := by kernel_rfl
theorem limbsMoves_c31 : (Rows.limbsMovesRow.veiledFits Try.prog Try.f9.params.toList (Try.f9.params.toList ++ Rows.limbsMovesSpec.plain.varTypes Try.prog ++ Try.f9.resultTypes.toList)) = true := by kernel_rfl
set_option maxRecDepth 1000000 in
theorem limbsMoves_closed : joinedFacts Try.prog 9 Try.f9 Rows.limbsMovesSpec Rows.limbsMovesRow = true := (and2 (and2 (and2 (and2 (and2 (and2 (and2 (and2 (and2 (and2 (and2 (and2 (and2 (and2 (and2 (and2 (and2 (and2 (and2 (and2 (and2 (and2 (and2 (and2 (and2 (and2 (and2 (and2 (and2 (and2 (and2 limbsMoves_c0 laidOut_ok) mapsRowed_ok) limbsMoves_c3) limbsMoves_c4) limbsMoves_c5) limbsMoves_c6) limbsMoves_c7) limbsMoves_c8) limbsMoves_c9) limbsMoves_c10) limbsMoves_c11) limbsMoves_c12) limbsMoves_c13) limbsMoves_c14) limbsMoves_c15) limbsMoves_c16) limbsMoves_c17) limbsMoves_c18) limbsMoves_c19) limbsMoves_c20) limbsMoves_c21) limbsMoves_c22) limbsMoves_c23) stopsHeard_ok) mayEnter_ok) limbsMoves_c26) limbsMoves_c27) limbsMoves_c28) limbsMoves_c29) limbsMoves_c30) limbsMoves_c31)

theorem limbsMoves_holds : Rows.LimbsMovesSaid :=
  OpenClaim.holds_of_wide 9 Try.f9 rfl rfl rfl rfl rfl rfl rfl ⟨rfl, rfl, rfl, rfl, rfl⟩ rfl rfl rfl rfl rfl (by kernel_rfl) Try.func9 limbsMoves_closed
    (of_decide_eq_true (by kernel_rfl)) (by unfold Func.isWrapper; first | (rw [if_pos (by decide +kernel)]; kernel_rfl) | (rw [if_neg (by decide +kernel)]; exact ⟨rfl, rfl⟩))
    (fun os started H enc _ => limbsMoves_lifted os started H enc)

end Go.Proofs.Ytjkelipglcnpmaa

