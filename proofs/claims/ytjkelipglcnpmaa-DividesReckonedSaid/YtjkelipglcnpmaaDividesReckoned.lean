/- DividesReckoned: the row, proved: the frame is law_lifted (Fr), the walk is f10.ok, the plain law is f10.holds. -/
import Derived.Test.YtjkelipglcnpmaaFr
import Derived.Test.YtjkelipglcnpmaaPx
import Derived.Test.YtjkelipglcnpmaaRows
namespace Go.Proofs.Ytjkelipglcnpmaa
open Go.VM

set_option maxRecDepth 100000 in
theorem dividesReckoned_lifted (os : Os) (started : os.Started) (H : Type) (enc : TypeId × Value → H) :
    ReturnsInHanded {} Try.checked os 10 .any (Rows.dividesReckonedSpec.pre6 enc Try.prog Try.f10 Rows.dividesReckonedRow.domain false) (Rows.dividesReckonedSpec.post enc Try.prog Try.f10 false true false false) := by
  refine law_lifted (C := Try.checked) (n := 8) (by kernel_rfl) started (by kernel_rfl) Try.func10
    (ChangeSpec.witness6 (enc := enc) (C := Try.checked) false ⟨#[], #[.agg #[.int .u64 0, .int .u64 0, .int .u64 0, .int .u64 0], .agg #[.int .u64 0, .int .u64 0, .int .u64 0, .int .u64 0], .agg #[.int .u64 0, .int .u64 0, .int .u64 0, .int .u64 0]], []⟩ 8 (by kernel_rfl) (by kernel_rfl) (by kernel_rfl) (by kernel_rfl)) ?_ rfl (tb := 4) rfl Try.underlying4 ?_ ?_
  · have h : (Try.f10.params.toList.all fun t => flat Try.prog 8 t) = true := by kernel_rfl
    exact List.all_eq_true.1 h
  · intro ds hds
    obtain ⟨d0, d1, d2, rfl⟩ := list3 (l := ds) hds
    rfl
  · intro W args hsz hr
    obtain ⟨v0, v1, v2, rfl⟩ := args3 (args := args) hsz
    obtain ⟨a0, h0, rfl⟩ := reads_num Try.underlying24 Try.underlying22 (by kernel_rfl) (by kernel_rfl) (hr 0 24 v0 rfl rfl)
    obtain ⟨a1, h1, rfl⟩ := reads_num Try.underlying24 Try.underlying22 (by kernel_rfl) (by kernel_rfl) (hr 1 24 v1 rfl rfl)
    obtain ⟨a2, h2, rfl⟩ := reads_num Try.underlying24 Try.underlying22 (by kernel_rfl) (by kernel_rfl) (hr 2 24 v2 rfl rfl)
    exact law_calls (f10.ok 100000) (vs := [.agg [.ints .u64 4 (num a0)], .agg [.ints .u64 4 (num a1)], .agg [.ints .u64 4 (num a2)]]) (x := (num a0, num a1, num a2)) (f10.holds a0 a1 a2 h0 h1 h2) (fun _ => by kernel_rfl) rfl W

theorem dividesReckoned_c0 : (Rows.dividesReckonedRow.wf (OpenSpec.ofChange Rows.dividesReckonedSpec)) = true := by kernel_rfl
theorem dividesReckoned_c3 : (Try.f10.params.all (Try.prog.readableRec ·)) = true := by kernel_rfl
theorem dividesReckoned_c4 : (namedTie Try.prog Rows.dividesReckonedRow.named Rows.dividesReckonedSpec.vars) = true := by kernel_rfl
theorem dividesReckoned_c5 : (Rows.dividesReckonedRow.stops == []) = true := by kernel_rfl
theorem dividesReckoned_c6 : (Try.prog.stops == []) = true := by kernel_rfl
theorem dividesReckoned_c7 : (Rows.dividesReckonedRow.knobs == []) = true := by kernel_rfl
theorem dividesReckoned_c8 : (Try.prog.stopKnobs == []) = true := by kernel_rfl
theorem dividesReckoned_c9 : (Rows.dividesReckonedRow.inPlace == Try.prog.inPlace 10) = true := by kernel_rfl
theorem dividesReckoned_c10 : (Rows.dividesReckonedRow.unfollowed == Try.prog.unfollowed 10) = true := by kernel_rfl
theorem dividesReckoned_c11 : (Rows.dividesReckonedRow.recurses == Try.prog.recurses 10) = true := by kernel_rfl
theorem dividesReckoned_c12 : (Rows.dividesReckonedRow.named == Try.prog.varsNamed 10) = true := by kernel_rfl
theorem dividesReckoned_c13 : (Rows.dividesReckonedRow.maps == (Try.f10.params.toList ++ Rows.dividesReckonedSpec.plain.varTypes Try.prog).any (Try.prog.mapsRec ·)) = true := by kernel_rfl
theorem dividesReckoned_c14 : (Rows.dividesReckonedRow.ifaces == (Try.f10.params.toList ++ Rows.dividesReckonedSpec.plain.varTypes Try.prog).any (Try.prog.ifacesRec ·)) = true := by kernel_rfl
theorem dividesReckoned_c15 : (Rows.dividesReckonedRow.mapsOut == Try.prog.mapsAmong Try.f10.resultTypes.toList) = true := by kernel_rfl
theorem dividesReckoned_c16 : (Rows.dividesReckonedRow.loops == (Try.f10.params.toList ++ Rows.dividesReckonedSpec.plain.varTypes Try.prog).any (Try.prog.loopsFrom ·)) = true := by kernel_rfl
theorem dividesReckoned_c17 : (Rows.dividesReckonedRow.wideKeys == (Try.f10.params.toList ++ Rows.dividesReckonedSpec.plain.varTypes Try.prog ++ Try.f10.resultTypes.toList).any (Try.prog.wideKeysFrom ·)) = true := by kernel_rfl
theorem dividesReckoned_c18 : (Rows.dividesReckonedSpec.vars.all (Try.prog.varReadable ·)) = true := by kernel_rfl
theorem dividesReckoned_c19 : (Try.f10.resultTypes.all (fun t => Try.prog.readableRec t && decide (t < Try.prog.types.size))) = true := by kernel_rfl
theorem dividesReckoned_c20 : (Rows.dividesReckonedRow.ifacesOut == Try.f10.resultTypes.toList.any (Try.prog.ifacesRec ·)) = true := by kernel_rfl
theorem dividesReckoned_c21 : (Rows.dividesReckonedRow.loopsOut == Try.f10.resultTypes.toList.any (Try.prog.loopsFrom ·)) = true := by kernel_rfl
theorem dividesReckoned_c22 : (Rows.dividesReckonedRow.plainKeys == Try.prog.plainKeys) = true := beq_of plainKeys_ok
theorem dividesReckoned_c23 : (Rows.dividesReckonedRow.shortTexts.isNone) = true := by kernel_rfl
theorem dividesReckoned_c26 : (Rows.dividesReckonedRow.lifted == Try.prog.liftsFinal) = true := beq_of liftsFinal_ok
theorem dividesReckoned_c27 : (Try.prog.make == some Rows.dividesReckonedRow.make) = true := by rw [make_ok]; show _ = _; kernel_rfl
theorem dividesReckoned_c28 : (Rows.dividesReckonedRow.kinds == (if Rows.dividesReckonedRow.domain.isEmpty then [] else Try.f10.params.toList.map fun t => match Try.prog.underlying t with | some (.int k) => some k | _ => none)) = true := by kernel_rfl
theorem dividesReckoned_c29 : (Rows.dividesReckonedRow.pinned == Rows.dividesReckonedRow.pinnedBy) = true := by kernel_rfl
theorem dividesReckoned_c30 : (Rows.dividesReckonedRow.veiled == (Try.f10.params.toList ++ Rows.dividesReckonedSpec.plain.varTypes Try.prog ++ Try.f10.resultTypes.toList).any (Try.prog.veiledRec ·)) = true := by kernel_rfl
theorem dividesReckoned_c31 : (Rows.dividesReckonedRow.veiledFits Try.prog Try.f10.params.toList (Try.f10.params.toList ++ Rows.dividesReckonedSpec.plain.varTypes Try.prog ++ Try.f10.resultTypes.toList)) = true := by kernel_rfl
set_option maxRecDepth 1000000 in
theorem dividesReckoned_closed : joinedFacts Try.prog 10 Try.f10 Rows.dividesReckonedSpec Rows.dividesReckonedRow = true := (and2 (and2 (and2 (and2 (and2 (and2 (and2 (and2 (and2 (and2 (and2 (and2 (and2 (and2 (and2 (and2 (and2 (and2 (and2 (and2 (and2 (and2 (and2 (and2 (and2 (and2 (and2 (and2 (and2 (and2 (and2 dividesReckoned_c0 laidOut_ok) mapsRowed_ok) dividesReckoned_c3) dividesReckoned_c4) dividesReckoned_c5) dividesReckoned_c6) dividesReckoned_c7) dividesReckoned_c8) dividesReckoned_c9) dividesReckoned_c10) dividesReckoned_c11) dividesReckoned_c12) dividesReckoned_c13) dividesReckoned_c14) dividesReckoned_c15) dividesReckoned_c16) dividesReckoned_c17) dividesReckoned_c18) dividesReckoned_c19) dividesReckoned_c20) dividesReckoned_c21) dividesReckoned_c22) dividesReckoned_c23) stopsHeard_ok) mayEnter_ok) dividesReckoned_c26) dividesReckoned_c27) dividesReckoned_c28) dividesReckoned_c29) dividesReckoned_c30) dividesReckoned_c31)

theorem dividesReckoned_holds : Rows.DividesReckonedSaid :=
  OpenClaim.holds_of_wide 10 Try.f10 rfl rfl rfl rfl rfl rfl rfl ⟨rfl, rfl, rfl, rfl, rfl⟩ rfl rfl rfl rfl rfl (by kernel_rfl) Try.func10 dividesReckoned_closed
    (of_decide_eq_true (by kernel_rfl)) (by unfold Func.isWrapper; first | (rw [if_pos (by decide +kernel)]; kernel_rfl) | (rw [if_neg (by decide +kernel)]; exact ⟨rfl, rfl⟩))
    (fun os started H enc _ => dividesReckoned_lifted os started H enc)

end Go.Proofs.Ytjkelipglcnpmaa
