/- ModsReckoned: the row, proved: the frame is law_lifted (Fr), the walk is f17.ok, the plain law is f17.holds. -/
import Derived.Test.YtjkelipglcnpmaaFr
import Derived.Test.YtjkelipglcnpmaaPy
import Derived.Test.YtjkelipglcnpmaaRows
namespace Go.Proofs.Ytjkelipglcnpmaa
open Go.VM

set_option maxRecDepth 100000 in
theorem modsReckoned_lifted (os : Os) (started : os.Started) (H : Type) (enc : TypeId × Value → H) :
    ReturnsInHanded {} Try.checked os 17 .any (Rows.modsReckonedSpec.pre6 enc Try.prog Try.f17 Rows.modsReckonedRow.domain false) (Rows.modsReckonedSpec.post enc Try.prog Try.f17 false true false false) := by
  refine law_lifted (C := Try.checked) (n := 8) (by kernel_rfl) started (by kernel_rfl) Try.func17
    (ChangeSpec.witness6 (enc := enc) (C := Try.checked) false ⟨#[], #[.agg #[.int .u64 0, .int .u64 0, .int .u64 0, .int .u64 0], .agg #[.int .u64 0, .int .u64 0, .int .u64 0, .int .u64 0], .agg #[.int .u64 0, .int .u64 0, .int .u64 0, .int .u64 0]], []⟩ 8 (by kernel_rfl) (by kernel_rfl) (by kernel_rfl) (by kernel_rfl)) ?_ rfl (tb := 4) rfl Try.underlying4 ?_ ?_
  · have h : (Try.f17.params.toList.all fun t => flat Try.prog 8 t) = true := by kernel_rfl
    exact List.all_eq_true.1 h
  · intro ds hds
    obtain ⟨d0, d1, d2, rfl⟩ := list3 (l := ds) hds
    rfl
  · intro W args hsz hr
    obtain ⟨v0, v1, v2, rfl⟩ := args3 (args := args) hsz
    obtain ⟨a0, h0, rfl⟩ := reads_num Try.underlying24 Try.underlying22 (by kernel_rfl) (by kernel_rfl) (hr 0 24 v0 rfl rfl)
    obtain ⟨a1, h1, rfl⟩ := reads_num Try.underlying24 Try.underlying22 (by kernel_rfl) (by kernel_rfl) (hr 1 24 v1 rfl rfl)
    obtain ⟨a2, h2, rfl⟩ := reads_num Try.underlying24 Try.underlying22 (by kernel_rfl) (by kernel_rfl) (hr 2 24 v2 rfl rfl)
    exact law_calls (f17.ok 100000) (vs := [.agg [.ints .u64 4 (num a0)], .agg [.ints .u64 4 (num a1)], .agg [.ints .u64 4 (num a2)]]) (x := (num a0, num a1, num a2)) (f17.holds a0 a1 a2 h0 h1 h2) (fun _ => by kernel_rfl) rfl W

theorem modsReckoned_c0 : (Rows.modsReckonedRow.wf (OpenSpec.ofChange Rows.modsReckonedSpec)) = true := by kernel_rfl
theorem modsReckoned_c3 : (Try.f17.params.all (Try.prog.readableRec ·)) = true := by kernel_rfl
theorem modsReckoned_c4 : (namedTie Try.prog Rows.modsReckonedRow.named Rows.modsReckonedSpec.vars) = true := by kernel_rfl
theorem modsReckoned_c5 : (Rows.modsReckonedRow.stops == []) = true := by kernel_rfl
theorem modsReckoned_c6 : (Try.prog.stops == []) = true := by kernel_rfl
theorem modsReckoned_c7 : (Rows.modsReckonedRow.knobs == []) = true := by kernel_rfl
theorem modsReckoned_c8 : (Try.prog.stopKnobs == []) = true := by kernel_rfl
theorem modsReckoned_c9 : (Rows.modsReckonedRow.inPlace == Try.prog.inPlace 17) = true := by kernel_rfl
theorem modsReckoned_c10 : (Rows.modsReckonedRow.unfollowed == Try.prog.unfollowed 17) = true := by kernel_rfl
theorem modsReckoned_c11 : (Rows.modsReckonedRow.recurses == Try.prog.recurses 17) = true := by kernel_rfl
theorem modsReckoned_c12 : (Rows.modsReckonedRow.named == Try.prog.varsNamed 17) = true := by kernel_rfl
theorem modsReckoned_c13 : (Rows.modsReckonedRow.maps == (Try.f17.params.toList ++ Rows.modsReckonedSpec.plain.varTypes Try.prog).any (Try.prog.mapsRec ·)) = true := by kernel_rfl
theorem modsReckoned_c14 : (Rows.modsReckonedRow.ifaces == (Try.f17.params.toList ++ Rows.modsReckonedSpec.plain.varTypes Try.prog).any (Try.prog.ifacesRec ·)) = true := by kernel_rfl
theorem modsReckoned_c15 : (Rows.modsReckonedRow.mapsOut == Try.prog.mapsAmong Try.f17.resultTypes.toList) = true := by kernel_rfl
theorem modsReckoned_c16 : (Rows.modsReckonedRow.loops == (Try.f17.params.toList ++ Rows.modsReckonedSpec.plain.varTypes Try.prog).any (Try.prog.loopsFrom ·)) = true := by kernel_rfl
theorem modsReckoned_c17 : (Rows.modsReckonedRow.wideKeys == (Try.f17.params.toList ++ Rows.modsReckonedSpec.plain.varTypes Try.prog ++ Try.f17.resultTypes.toList).any (Try.prog.wideKeysFrom ·)) = true := by kernel_rfl
theorem modsReckoned_c18 : (Rows.modsReckonedSpec.vars.all (Try.prog.varReadable ·)) = true := by kernel_rfl
theorem modsReckoned_c19 : (Try.f17.resultTypes.all (fun t => Try.prog.readableRec t && decide (t < Try.prog.types.size))) = true := by kernel_rfl
theorem modsReckoned_c20 : (Rows.modsReckonedRow.ifacesOut == Try.f17.resultTypes.toList.any (Try.prog.ifacesRec ·)) = true := by kernel_rfl
theorem modsReckoned_c21 : (Rows.modsReckonedRow.loopsOut == Try.f17.resultTypes.toList.any (Try.prog.loopsFrom ·)) = true := by kernel_rfl
theorem modsReckoned_c22 : (Rows.modsReckonedRow.plainKeys == Try.prog.plainKeys) = true := beq_of plainKeys_ok
theorem modsReckoned_c23 : (Rows.modsReckonedRow.shortTexts.isNone) = true := by kernel_rfl
theorem modsReckoned_c26 : (Rows.modsReckonedRow.lifted == Try.prog.liftsFinal) = true := beq_of liftsFinal_ok
theorem modsReckoned_c27 : (Try.prog.make == some Rows.modsReckonedRow.make) = true := by rw [make_ok]; show _ = _; kernel_rfl
theorem modsReckoned_c28 : (Rows.modsReckonedRow.kinds == (if Rows.modsReckonedRow.domain.isEmpty then [] else Try.f17.params.toList.map fun t => match Try.prog.underlying t with | some (.int k) => some k | _ => none)) = true := by kernel_rfl
theorem modsReckoned_c29 : (Rows.modsReckonedRow.pinned == Rows.modsReckonedRow.pinnedBy) = true := by kernel_rfl
theorem modsReckoned_c30 : (Rows.modsReckonedRow.veiled == (Try.f17.params.toList ++ Rows.modsReckonedSpec.plain.varTypes Try.prog ++ Try.f17.resultTypes.toList).any (Try.prog.veiledRec ·)) = true := by kernel_rfl
theorem modsReckoned_c31 : (Rows.modsReckonedRow.veiledFits Try.prog Try.f17.params.toList (Try.f17.params.toList ++ Rows.modsReckonedSpec.plain.varTypes Try.prog ++ Try.f17.resultTypes.toList)) = true := by kernel_rfl
set_option maxRecDepth 1000000 in
theorem modsReckoned_closed : joinedFacts Try.prog 17 Try.f17 Rows.modsReckonedSpec Rows.modsReckonedRow = true := (and2 (and2 (and2 (and2 (and2 (and2 (and2 (and2 (and2 (and2 (and2 (and2 (and2 (and2 (and2 (and2 (and2 (and2 (and2 (and2 (and2 (and2 (and2 (and2 (and2 (and2 (and2 (and2 (and2 (and2 (and2 modsReckoned_c0 laidOut_ok) mapsRowed_ok) modsReckoned_c3) modsReckoned_c4) modsReckoned_c5) modsReckoned_c6) modsReckoned_c7) modsReckoned_c8) modsReckoned_c9) modsReckoned_c10) modsReckoned_c11) modsReckoned_c12) modsReckoned_c13) modsReckoned_c14) modsReckoned_c15) modsReckoned_c16) modsReckoned_c17) modsReckoned_c18) modsReckoned_c19) modsReckoned_c20) modsReckoned_c21) modsReckoned_c22) modsReckoned_c23) stopsHeard_ok) mayEnter_ok) modsReckoned_c26) modsReckoned_c27) modsReckoned_c28) modsReckoned_c29) modsReckoned_c30) modsReckoned_c31)

theorem modsReckoned_holds : Rows.ModsReckonedSaid :=
  OpenClaim.holds_of_wide 17 Try.f17 rfl rfl rfl rfl rfl rfl rfl ⟨rfl, rfl, rfl, rfl, rfl⟩ rfl rfl rfl rfl rfl (by kernel_rfl) Try.func17 modsReckoned_closed
    (of_decide_eq_true (by kernel_rfl)) (by unfold Func.isWrapper; first | (rw [if_pos (by decide +kernel)]; kernel_rfl) | (rw [if_neg (by decide +kernel)]; exact ⟨rfl, rfl⟩))
    (fun os started H enc _ => modsReckoned_lifted os started H enc)

end Go.Proofs.Ytjkelipglcnpmaa
