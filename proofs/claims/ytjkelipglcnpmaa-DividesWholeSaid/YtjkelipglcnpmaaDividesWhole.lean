/- DividesWhole: the row, proved: the frame is law_lifted (Fr), the walk is f13.ok, the plain law is f13.holds. -/
import Derived.Test.YtjkelipglcnpmaaFr
import Derived.Test.YtjkelipglcnpmaaPe
import Derived.Test.YtjkelipglcnpmaaRows
namespace Go.Proofs.Ytjkelipglcnpmaa
open Go.VM

set_option maxRecDepth 100000 in
theorem dividesWhole_lifted (os : Os) (started : os.Started) (H : Type) (enc : TypeId × Value → H) :
    ReturnsInHanded {} Try.checked os 13 .any (Rows.dividesWholeSpec.pre6 enc Try.prog Try.f13 Rows.dividesWholeRow.domain false) (Rows.dividesWholeSpec.post enc Try.prog Try.f13 false true false false) := by
  refine law_lifted (C := Try.checked) (n := 8) (by kernel_rfl) started (by kernel_rfl) Try.func13
    (ChangeSpec.witness6 (enc := enc) (C := Try.checked) false ⟨#[], #[.agg #[.int .u64 0, .int .u64 0, .int .u64 0, .int .u64 0], .agg #[.int .u64 0, .int .u64 0, .int .u64 0, .int .u64 0], .agg #[.int .u64 0, .int .u64 0, .int .u64 0, .int .u64 0]], []⟩ 8 (by kernel_rfl) (by kernel_rfl) (by kernel_rfl) (by kernel_rfl)) ?_ rfl (tb := 4) rfl Try.underlying4 ?_ ?_
  · have h : (Try.f13.params.toList.all fun t => flat Try.prog 8 t) = true := by kernel_rfl
    exact List.all_eq_true.1 h
  · intro ds hds
    obtain ⟨d0, d1, d2, rfl⟩ := list3 (l := ds) hds
    rfl
  · intro W args hsz hr
    obtain ⟨v0, v1, v2, rfl⟩ := args3 (args := args) hsz
    obtain ⟨a0, h0, rfl⟩ := reads_num Try.underlying24 Try.underlying22 (by kernel_rfl) (by kernel_rfl) (hr 0 24 v0 rfl rfl)
    obtain ⟨a1, h1, rfl⟩ := reads_num Try.underlying24 Try.underlying22 (by kernel_rfl) (by kernel_rfl) (hr 1 24 v1 rfl rfl)
    obtain ⟨a2, h2, rfl⟩ := reads_num Try.underlying24 Try.underlying22 (by kernel_rfl) (by kernel_rfl) (hr 2 24 v2 rfl rfl)
    exact law_calls (f13.ok 1000) (vs := [.agg [.ints .u64 4 (num a0)], .agg [.ints .u64 4 (num a1)], .agg [.ints .u64 4 (num a2)]]) (x := (num a0, num a1, num a2)) (f13.holds a0 a1 a2 h0 h1 h2) (fun _ => by kernel_rfl) rfl W

theorem dividesWhole_c0 : (Rows.dividesWholeRow.wf (OpenSpec.ofChange Rows.dividesWholeSpec)) = true := by kernel_rfl
theorem dividesWhole_c3 : (Try.f13.params.all (Try.prog.readableRec ·)) = true := by kernel_rfl
theorem dividesWhole_c4 : (namedTie Try.prog Rows.dividesWholeRow.named Rows.dividesWholeSpec.vars) = true := by kernel_rfl
theorem dividesWhole_c5 : (Rows.dividesWholeRow.stops == []) = true := by kernel_rfl
theorem dividesWhole_c6 : (Try.prog.stops == []) = true := by kernel_rfl
theorem dividesWhole_c7 : (Rows.dividesWholeRow.knobs == []) = true := by kernel_rfl
theorem dividesWhole_c8 : (Try.prog.stopKnobs == []) = true := by kernel_rfl
theorem dividesWhole_c9 : (Rows.dividesWholeRow.inPlace == Try.prog.inPlace 13) = true := by kernel_rfl
theorem dividesWhole_c10 : (Rows.dividesWholeRow.unfollowed == Try.prog.unfollowed 13) = true := by kernel_rfl
theorem dividesWhole_c11 : (Rows.dividesWholeRow.recurses == Try.prog.recurses 13) = true := by kernel_rfl
theorem dividesWhole_c12 : (Rows.dividesWholeRow.named == Try.prog.varsNamed 13) = true := by kernel_rfl
theorem dividesWhole_c13 : (Rows.dividesWholeRow.maps == (Try.f13.params.toList ++ Rows.dividesWholeSpec.plain.varTypes Try.prog).any (Try.prog.mapsRec ·)) = true := by kernel_rfl
theorem dividesWhole_c14 : (Rows.dividesWholeRow.ifaces == (Try.f13.params.toList ++ Rows.dividesWholeSpec.plain.varTypes Try.prog).any (Try.prog.ifacesRec ·)) = true := by kernel_rfl
theorem dividesWhole_c15 : (Rows.dividesWholeRow.mapsOut == Try.prog.mapsAmong Try.f13.resultTypes.toList) = true := by kernel_rfl
theorem dividesWhole_c16 : (Rows.dividesWholeRow.loops == (Try.f13.params.toList ++ Rows.dividesWholeSpec.plain.varTypes Try.prog).any (Try.prog.loopsFrom ·)) = true := by kernel_rfl
theorem dividesWhole_c17 : (Rows.dividesWholeRow.wideKeys == (Try.f13.params.toList ++ Rows.dividesWholeSpec.plain.varTypes Try.prog ++ Try.f13.resultTypes.toList).any (Try.prog.wideKeysFrom ·)) = true := by kernel_rfl
theorem dividesWhole_c18 : (Rows.dividesWholeSpec.vars.all (Try.prog.varReadable ·)) = true := by kernel_rfl
theorem dividesWhole_c19 : (Try.f13.resultTypes.all (fun t => Try.prog.readableRec t && decide (t < Try.prog.types.size))) = true := by kernel_rfl
theorem dividesWhole_c20 : (Rows.dividesWholeRow.ifacesOut == Try.f13.resultTypes.toList.any (Try.prog.ifacesRec ·)) = true := by kernel_rfl
theorem dividesWhole_c21 : (Rows.dividesWholeRow.loopsOut == Try.f13.resultTypes.toList.any (Try.prog.loopsFrom ·)) = true := by kernel_rfl
theorem dividesWhole_c22 : (Rows.dividesWholeRow.plainKeys == Try.prog.plainKeys) = true := beq_of plainKeys_ok
theorem dividesWhole_c23 : (Rows.dividesWholeRow.shortTexts.isNone) = true := by kernel_rfl
theorem dividesWhole_c26 : (Rows.dividesWholeRow.lifted == Try.prog.liftsFinal) = true := beq_of liftsFinal_ok
theorem dividesWhole_c27 : (Try.prog.make == some Rows.dividesWholeRow.make) = true := by rw [make_ok]; show _ = _; kernel_rfl
theorem dividesWhole_c28 : (Rows.dividesWholeRow.kinds == (if Rows.dividesWholeRow.domain.isEmpty then [] else Try.f13.params.toList.map fun t => match Try.prog.underlying t with | some (.int k) => some k | _ => none)) = true := by kernel_rfl
theorem dividesWhole_c29 : (Rows.dividesWholeRow.pinned == Rows.dividesWholeRow.pinnedBy) = true := by kernel_rfl
theorem dividesWhole_c30 : (Rows.dividesWholeRow.veiled == (Try.f13.params.toList ++ Rows.dividesWholeSpec.plain.varTypes Try.prog ++ Try.f13.resultTypes.toList).any (Try.prog.veiledRec ·)) = true := by kernel_rfl
theorem dividesWhole_c31 : (Rows.dividesWholeRow.veiledFits Try.prog Try.f13.params.toList (Try.f13.params.toList ++ Rows.dividesWholeSpec.plain.varTypes Try.prog ++ Try.f13.resultTypes.toList)) = true := by kernel_rfl
set_option maxRecDepth 1000000 in
theorem dividesWhole_closed : joinedFacts Try.prog 13 Try.f13 Rows.dividesWholeSpec Rows.dividesWholeRow = true := (and2 (and2 (and2 (and2 (and2 (and2 (and2 (and2 (and2 (and2 (and2 (and2 (and2 (and2 (and2 (and2 (and2 (and2 (and2 (and2 (and2 (and2 (and2 (and2 (and2 (and2 (and2 (and2 (and2 (and2 (and2 dividesWhole_c0 laidOut_ok) mapsRowed_ok) dividesWhole_c3) dividesWhole_c4) dividesWhole_c5) dividesWhole_c6) dividesWhole_c7) dividesWhole_c8) dividesWhole_c9) dividesWhole_c10) dividesWhole_c11) dividesWhole_c12) dividesWhole_c13) dividesWhole_c14) dividesWhole_c15) dividesWhole_c16) dividesWhole_c17) dividesWhole_c18) dividesWhole_c19) dividesWhole_c20) dividesWhole_c21) dividesWhole_c22) dividesWhole_c23) stopsHeard_ok) mayEnter_ok) dividesWhole_c26) dividesWhole_c27) dividesWhole_c28) dividesWhole_c29) dividesWhole_c30) dividesWhole_c31)

theorem dividesWhole_holds : Rows.DividesWholeSaid :=
  OpenClaim.holds_of_wide 13 Try.f13 rfl rfl rfl rfl rfl rfl rfl ⟨rfl, rfl, rfl, rfl, rfl⟩ rfl rfl rfl rfl rfl (by kernel_rfl) Try.func13 dividesWhole_closed
    (of_decide_eq_true (by kernel_rfl)) (by unfold Func.isWrapper; first | (rw [if_pos (by decide +kernel)]; kernel_rfl) | (rw [if_neg (by decide +kernel)]; exact ⟨rfl, rfl⟩))
    (fun os started H enc _ => dividesWhole_lifted os started H enc)

end Go.Proofs.Ytjkelipglcnpmaa
