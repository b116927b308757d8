/- LimbsTop: the row, proved: the frame is law_lifted (Fr), the walk is f8.ok, the plain law is f8.holds. -/
import Derived.Test.YtjkelipglcnpmaaFr
import Derived.Test.YtjkelipglcnpmaaPl
import Derived.Test.YtjkelipglcnpmaaRows
namespace Go.Proofs.Ytjkelipglcnpmaa
open Go.VM

set_option maxRecDepth 100000 in
theorem limbsTop_lifted (os : Os) (started : os.Started) (H : Type) (enc : TypeId × Value → H) :
    ReturnsInHanded {} Try.checked os 8 .any (Rows.limbsTopSpec.pre6 enc Try.prog Try.f8 Rows.limbsTopRow.domain false) (Rows.limbsTopSpec.post enc Try.prog Try.f8 false true false false) := by
  refine law_lifted (C := Try.checked) (n := 8) (by kernel_rfl) started (by kernel_rfl) Try.func8
    (ChangeSpec.witness6 (enc := enc) (C := Try.checked) false ⟨#[], #[.agg #[.int .u64 0, .int .u64 0, .int .u64 0, .int .u64 0], .agg #[.int .u64 0, .int .u64 0, .int .u64 0, .int .u64 0]], []⟩ 8 (by kernel_rfl) (by kernel_rfl) (by kernel_rfl) (by kernel_rfl)) ?_ rfl (tb := 4) rfl Try.underlying4 ?_ ?_
  · have h : (Try.f8.params.toList.all fun t => flat Try.prog 8 t) = true := by kernel_rfl
    exact List.all_eq_true.1 h
  · intro ds hds
    obtain ⟨d0, d1, rfl⟩ := list2 (l := ds) hds
    rfl
  · intro W args hsz hr
    obtain ⟨v0, v1, rfl⟩ := args2 (args := args) hsz
    obtain ⟨a0, h0, rfl⟩ := reads_num Try.underlying24 Try.underlying22 (by kernel_rfl) (by kernel_rfl) (hr 0 24 v0 rfl rfl)
    obtain ⟨a1, h1, rfl⟩ := reads_num Try.underlying24 Try.underlying22 (by kernel_rfl) (by kernel_rfl) (hr 1 24 v1 rfl rfl)
    exact law_calls (f8.ok 1000) (vs := [.agg [.ints .u64 4 (num a0)], .agg [.ints .u64 4 (num a1)]]) (x := (num a0, num a1)) (f8.holds a0 a1 h0 h1) (fun _ => by kernel_rfl) rfl W

theorem limbsTop_c0 : (Rows.limbsTopRow.wf (OpenSpec.ofChange Rows.limbsTopSpec)) = true := by kernel_rfl
theorem limbsTop_c3 : (Try.f8.params.all (Try.prog.readableRec ·)) = true := by kernel_rfl
theorem limbsTop_c4 : (namedTie Try.prog Rows.limbsTopRow.named Rows.limbsTopSpec.vars) = true := by kernel_rfl
theorem limbsTop_c5 : (Rows.limbsTopRow.stops == []) = true := by kernel_rfl
theorem limbsTop_c6 : (Try.prog.stops == []) = true := by kernel_rfl
theorem limbsTop_c7 : (Rows.limbsTopRow.knobs == []) = true := by kernel_rfl
theorem limbsTop_c8 : (Try.prog.stopKnobs == []) = true := by kernel_rfl
theorem limbsTop_c9 : (Rows.limbsTopRow.inPlace == Try.prog.inPlace 8) = true := by kernel_rfl
theorem limbsTop_c10 : (Rows.limbsTopRow.unfollowed == Try.prog.unfollowed 8) = true := by kernel_rfl
theorem limbsTop_c11 : (Rows.limbsTopRow.recurses == Try.prog.recurses 8) = true := by kernel_rfl
theorem limbsTop_c12 : (Rows.limbsTopRow.named == Try.prog.varsNamed 8) = true := by kernel_rfl
theorem limbsTop_c13 : (Rows.limbsTopRow.maps == (Try.f8.params.toList ++ Rows.limbsTopSpec.plain.varTypes Try.prog).any (Try.prog.mapsRec ·)) = true := by kernel_rfl
theorem limbsTop_c14 : (Rows.limbsTopRow.ifaces == (Try.f8.params.toList ++ Rows.limbsTopSpec.plain.varTypes Try.prog).any (Try.prog.ifacesRec ·)) = true := by kernel_rfl
theorem limbsTop_c15 : (Rows.limbsTopRow.mapsOut == Try.prog.mapsAmong Try.f8.resultTypes.toList) = true := by kernel_rfl
theorem limbsTop_c16 : (Rows.limbsTopRow.loops == (Try.f8.params.toList ++ Rows.limbsTopSpec.plain.varTypes Try.prog).any (Try.prog.loopsFrom ·)) = true := by kernel_rfl
theorem limbsTop_c17 : (Rows.limbsTopRow.wideKeys == (Try.f8.params.toList ++ Rows.limbsTopSpec.plain.varTypes Try.prog ++ Try.f8.resultTypes.toList).any (Try.prog.wideKeysFrom ·)) = true := by kernel_rfl
theorem limbsTop_c18 : (Rows.limbsTopSpec.vars.all (Try.prog.varReadable ·)) = true := by kernel_rfl
theorem limbsTop_c19 : (Try.f8.resultTypes.all (fun t => Try.prog.readableRec t && decide (t < Try.prog.types.size))) = true := by kernel_rfl
theorem limbsTop_c20 : (Rows.limbsTopRow.ifacesOut == Try.f8.resultTypes.toList.any (Try.prog.ifacesRec ·)) = true := by kernel_rfl
theorem limbsTop_c21 : (Rows.limbsTopRow.loopsOut == Try.f8.resultTypes.toList.any (Try.prog.loopsFrom ·)) = true := by kernel_rfl
theorem limbsTop_c22 : (Rows.limbsTopRow.plainKeys == Try.prog.plainKeys) = true := beq_of plainKeys_ok
theorem limbsTop_c23 : (Rows.limbsTopRow.shortTexts.isNone) = true := by kernel_rfl
theorem limbsTop_c26 : (Rows.limbsTopRow.lifted == Try.prog.liftsFinal) = true := beq_of liftsFinal_ok
theorem limbsTop_c27 : (Try.prog.make == some Rows.limbsTopRow.make) = true := by rw [make_ok]; show _ = _; kernel_rfl
theorem limbsTop_c28 : (Rows.limbsTopRow.kinds == (if Rows.limbsTopRow.domain.isEmpty then [] else Try.f8.params.toList.map fun t => match Try.prog.underlying t with | some (.int k) => some k | _ => none)) = true := by kernel_rfl
theorem limbsTop_c29 : (Rows.limbsTopRow.pinned == Rows.limbsTopRow.pinnedBy) = true := by kernel_rfl
theorem limbsTop_c30 : (Rows.limbsTopRow.veiled == (Try.f8.params.toList ++ Rows.limbsTopSpec.plain.varTypes Try.prog ++ Try.f8.resultTypes.toList).any (Try.prog.veiledRec ·)) = true := by kernel_rfl
theorem limbsTop_c31 : (Rows.limbsTopRow.veiledFits Try.prog Try.f8.params.toList (Try.f8.params.toList ++ Rows.limbsTopSpec.plain.varTypes Try.prog ++ Try.f8.resultTypes.toList)) = true := by kernel_rfl
set_option maxRecDepth 1000000 in
theorem limbsTop_closed : joinedFacts Try.prog 8 Try.f8 Rows.limbsTopSpec Rows.limbsTopRow = true := (and2 (and2 (and2 (and2 (and2 (and2 (and2 (and2 (and2 (and2 (and2 (and2 (and2 (and2 (and2 (and2 (and2 (and2 (and2 (and2 (and2 (and2 (and2 (and2 (and2 (and2 (and2 (and2 (and2 (and2 (and2 limbsTop_c0 laidOut_ok) mapsRowed_ok) limbsTop_c3) limbsTop_c4) limbsTop_c5) limbsTop_c6) limbsTop_c7) limbsTop_c8) limbsTop_c9) limbsTop_c10) limbsTop_c11) limbsTop_c12) limbsTop_c13) limbsTop_c14) limbsTop_c15) limbsTop_c16) limbsTop_c17) limbsTop_c18) limbsTop_c19) limbsTop_c20) limbsTop_c21) limbsTop_c22) limbsTop_c23) stopsHeard_ok) mayEnter_ok) limbsTop_c26) limbsTop_c27) limbsTop_c28) limbsTop_c29) limbsTop_c30) limbsTop_c31)

theorem limbsTop_holds : Rows.LimbsTopSaid :=
  OpenClaim.holds_of_wide 8 Try.f8 rfl rfl rfl rfl rfl rfl rfl ⟨rfl, rfl, rfl, rfl, rfl⟩ rfl rfl rfl rfl rfl (by kernel_rfl) Try.func8 limbsTop_closed
    (of_decide_eq_true (by kernel_rfl)) (by unfold Func.isWrapper; first | (rw [if_pos (by decide +kernel)]; kernel_rfl) | (rw [if_neg (by decide +kernel)]; exact ⟨rfl, rfl⟩))
    (fun os started H enc _ => limbsTop_lifted os started H enc)

end Go.Proofs.Ytjkelipglcnpmaa
