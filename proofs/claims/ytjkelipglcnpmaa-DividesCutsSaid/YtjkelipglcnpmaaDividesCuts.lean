/- DividesCuts: the row, proved: the frame is law_lifted (Fr), the walk is f14.ok, the plain law is f14.holds. -/
import Derived.Test.YtjkelipglcnpmaaFr
import Derived.Test.YtjkelipglcnpmaaPe
import Derived.Test.YtjkelipglcnpmaaRows
namespace Go.Proofs.Ytjkelipglcnpmaa
open Go.VM

set_option maxRecDepth 100000 in
theorem dividesCuts_lifted (os : Os) (started : os.Started) (H : Type) (enc : TypeId × Value → H) :
    ReturnsInHanded {} Try.checked os 14 .any (Rows.dividesCutsSpec.pre6 enc Try.prog Try.f14 Rows.dividesCutsRow.domain false) (Rows.dividesCutsSpec.post enc Try.prog Try.f14 false true false false) := by
  refine law_lifted (C := Try.checked) (n := 8) (by kernel_rfl) started (by kernel_rfl) Try.func14
    (ChangeSpec.witness6 (enc := enc) (C := Try.checked) false ⟨#[], #[.agg #[.int .u64 0, .int .u64 0, .int .u64 0, .int .u64 0], .agg #[.int .u64 0, .int .u64 0, .int .u64 0, .int .u64 0], .int .u8 0], []⟩ 8 (by kernel_rfl) (by kernel_rfl) (by kernel_rfl) (by kernel_rfl)) ?_ rfl (tb := 4) rfl Try.underlying4 ?_ ?_
  · have h : (Try.f14.params.toList.all fun t => flat Try.prog 8 t) = true := by kernel_rfl
    exact List.all_eq_true.1 h
  · intro ds hds
    obtain ⟨d0, d1, d2, rfl⟩ := list3 (l := ds) hds
    rfl
  · intro W args hsz hr
    obtain ⟨v0, v1, v2, rfl⟩ := args3 (args := args) hsz
    obtain ⟨a0, h0, rfl⟩ := reads_num Try.underlying24 Try.underlying22 (by kernel_rfl) (by kernel_rfl) (hr 0 24 v0 rfl rfl)
    obtain ⟨a1, h1, rfl⟩ := reads_num Try.underlying24 Try.underlying22 (by kernel_rfl) (by kernel_rfl) (hr 1 24 v1 rfl rfl)
    obtain ⟨a2, h2, rfl⟩ := reads_int Try.underlying5 (hr 2 5 v2 rfl rfl)
    exact law_calls (f14.ok 1000) (vs := [.agg [.ints .u64 4 (num a0)], .agg [.ints .u64 4 (num a1)], .int .u8 a2]) (x := (num a0, num a1, a2)) (f14.holds a0 a1 a2 h0 h1 h2) (fun _ => by kernel_rfl) rfl W

theorem dividesCuts_c0 : (Rows.dividesCutsRow.wf (OpenSpec.ofChange Rows.dividesCutsSpec)) = true := by kernel_rfl
theorem dividesCuts_c3 : (Try.f14.params.all (Try.prog.readableRec ·)) = true := by kernel_rfl
theorem dividesCuts_c4 : (namedTie Try.prog Rows.dividesCutsRow.named Rows.dividesCutsSpec.vars) = true := by kernel_rfl
theorem dividesCuts_c5 : (Rows.dividesCutsRow.stops == []) = true := by kernel_rfl
theorem dividesCuts_c6 : (Try.prog.stops == []) = true := by kernel_rfl
theorem dividesCuts_c7 : (Rows.dividesCutsRow.knobs == []) = true := by kernel_rfl
theorem dividesCuts_c8 : (Try.prog.stopKnobs == []) = true := by kernel_rfl
theorem dividesCuts_c9 : (Rows.dividesCutsRow.inPlace == Try.prog.inPlace 14) = true := by kernel_rfl
theorem dividesCuts_c10 : (Rows.dividesCutsRow.unfollowed == Try.prog.unfollowed 14) = true := by kernel_rfl
theorem dividesCuts_c11 : (Rows.dividesCutsRow.recurses == Try.prog.recurses 14) = true := by kernel_rfl
theorem dividesCuts_c12 : (Rows.dividesCutsRow.named == Try.prog.varsNamed 14) = true := by kernel_rfl
theorem dividesCuts_c13 : (Rows.dividesCutsRow.maps == (Try.f14.params.toList ++ Rows.dividesCutsSpec.plain.varTypes Try.prog).any (Try.prog.mapsRec ·)) = true := by kernel_rfl
theorem dividesCuts_c14 : (Rows.dividesCutsRow.ifaces == (Try.f14.params.toList ++ Rows.dividesCutsSpec.plain.varTypes Try.prog).any (Try.prog.ifacesRec ·)) = true := by kernel_rfl
theorem dividesCuts_c15 : (Rows.dividesCutsRow.mapsOut == Try.prog.mapsAmong Try.f14.resultTypes.toList) = true := by kernel_rfl
theorem dividesCuts_c16 : (Rows.dividesCutsRow.loops == (Try.f14.params.toList ++ Rows.dividesCutsSpec.plain.varTypes Try.prog).any (Try.prog.loopsFrom ·)) = true := by kernel_rfl
theorem dividesCuts_c17 : (Rows.dividesCutsRow.wideKeys == (Try.f14.params.toList ++ Rows.dividesCutsSpec.plain.varTypes Try.prog ++ Try.f14.resultTypes.toList).any (Try.prog.wideKeysFrom ·)) = true := by kernel_rfl
theorem dividesCuts_c18 : (Rows.dividesCutsSpec.vars.all (Try.prog.varReadable ·)) = true := by kernel_rfl
theorem dividesCuts_c19 : (Try.f14.resultTypes.all (fun t => Try.prog.readableRec t && decide (t < Try.prog.types.size))) = true := by kernel_rfl
theorem dividesCuts_c20 : (Rows.dividesCutsRow.ifacesOut == Try.f14.resultTypes.toList.any (Try.prog.ifacesRec ·)) = true := by kernel_rfl
theorem dividesCuts_c21 : (Rows.dividesCutsRow.loopsOut == Try.f14.resultTypes.toList.any (Try.prog.loopsFrom ·)) = true := by kernel_rfl
theorem dividesCuts_c22 : (Rows.dividesCutsRow.plainKeys == Try.prog.plainKeys) = true := beq_of plainKeys_ok
theorem dividesCuts_c23 : (Rows.dividesCutsRow.shortTexts.isNone) = true := by kernel_rfl
theorem dividesCuts_c26 : (Rows.dividesCutsRow.lifted == Try.prog.liftsFinal) = true := beq_of liftsFinal_ok
theorem dividesCuts_c27 : (Try.prog.make == some Rows.dividesCutsRow.make) = true := by rw [make_ok]; show _ = _; kernel_rfl
theorem dividesCuts_c28 : (Rows.dividesCutsRow.kinds == (if Rows.dividesCutsRow.domain.isEmpty then [] else Try.f14.params.toList.map fun t => match Try.prog.underlying t with | some (.int k) => some k | _ => none)) = true := by kernel_rfl
theorem dividesCuts_c29 : (Rows.dividesCutsRow.pinned == Rows.dividesCutsRow.pinnedBy) = true := by kernel_rfl
theorem dividesCuts_c30 : (Rows.dividesCutsRow.veiled == (Try.f14.params.toList ++ Rows.dividesCutsSpec.plain.varTypes Try.prog ++ Try.f14.resultTypes.toList).any (Try.prog.veiledRec ·)) = true := by kernel_rfl
theorem dividesCuts_c31 : (Rows.dividesCutsRow.veiledFits Try.prog Try.f14.params.toList (Try.f14.params.toList ++ Rows.dividesCutsSpec.plain.varTypes Try.prog ++ Try.f14.resultTypes.toList)) = true := by kernel_rfl
set_option maxRecDepth 1000000 in
theorem dividesCuts_closed : joinedFacts Try.prog 14 Try.f14 Rows.dividesCutsSpec Rows.dividesCutsRow = true := (and2 (and2 (and2 (and2 (and2 (and2 (and2 (and2 (and2 (and2 (and2 (and2 (and2 (and2 (and2 (and2 (and2 (and2 (and2 (and2 (and2 (and2 (and2 (and2 (and2 (and2 (and2 (and2 (and2 (and2 (and2 dividesCuts_c0 laidOut_ok) mapsRowed_ok) dividesCuts_c3) dividesCuts_c4) dividesCuts_c5) dividesCuts_c6) dividesCuts_c7) dividesCuts_c8) dividesCuts_c9) dividesCuts_c10) dividesCuts_c11) dividesCuts_c12) dividesCuts_c13) dividesCuts_c14) dividesCuts_c15) dividesCuts_c16) dividesCuts_c17) dividesCuts_c18) dividesCuts_c19) dividesCuts_c20) dividesCuts_c21) dividesCuts_c22) dividesCuts_c23) stopsHeard_ok) mayEnter_ok) dividesCuts_c26) dividesCuts_c27) dividesCuts_c28) dividesCuts_c29) dividesCuts_c30) dividesCuts_c31)

theorem dividesCuts_holds : Rows.DividesCutsSaid :=
  OpenClaim.holds_of_wide 14 Try.f14 rfl rfl rfl rfl rfl rfl rfl ⟨rfl, rfl, rfl, rfl, rfl⟩ rfl rfl rfl rfl rfl (by kernel_rfl) Try.func14 dividesCuts_closed
    (of_decide_eq_true (by kernel_rfl)) (by unfold Func.isWrapper; first | (rw [if_pos (by decide +kernel)]; kernel_rfl) | (rw [if_neg (by decide +kernel)]; exact ⟨rfl, rfl⟩))
    (fun os started H enc _ => dividesCuts_lifted os started H enc)

end Go.Proofs.Ytjkelipglcnpmaa
