/- DividesBetween: the row, proved: the frame is law_lifted (Fr), the walk is f16.ok, the plain law is f16.holds. -/
import Derived.Test.YtjkelipglcnpmaaFr
import Derived.Test.YtjkelipglcnpmaaPd
import Derived.Test.YtjkelipglcnpmaaRows
namespace Go.Proofs.Ytjkelipglcnpmaa
open Go.VM

set_option maxRecDepth 100000 in
theorem dividesBetween_lifted (os : Os) (started : os.Started) (H : Type) (enc : TypeId × Value → H) :
    ReturnsInHanded {} Try.checked os 16 .any (Rows.dividesBetweenSpec.pre6 enc Try.prog Try.f16 Rows.dividesBetweenRow.domain false) (Rows.dividesBetweenSpec.post enc Try.prog Try.f16 false true false false) := by
  refine law_lifted (C := Try.checked) (n := 8) (by kernel_rfl) started (by kernel_rfl) Try.func16
    (ChangeSpec.witness6 (enc := enc) (C := Try.checked) false ⟨#[], #[.agg #[.int .u64 0, .int .u64 0, .int .u64 0, .int .u64 0], .agg #[.int .u64 0, .int .u64 0, .int .u64 0, .int .u64 0]], []⟩ 8 (by kernel_rfl) (by kernel_rfl) (by kernel_rfl) (by kernel_rfl)) ?_ rfl (tb := 4) rfl Try.underlying4 ?_ ?_
  · have h : (Try.f16.params.toList.all fun t => flat Try.prog 8 t) = true := by kernel_rfl
    exact List.all_eq_true.1 h
  · intro ds hds
    obtain ⟨d0, d1, rfl⟩ := list2 (l := ds) hds
    rfl
  · intro W args hsz hr
    obtain ⟨v0, v1, rfl⟩ := args2 (args := args) hsz
    obtain ⟨a0, h0, rfl⟩ := reads_num Try.underlying24 Try.underlying22 (by kernel_rfl) (by kernel_rfl) (hr 0 24 v0 rfl rfl)
    obtain ⟨a1, h1, rfl⟩ := reads_num Try.underlying24 Try.underlying22 (by kernel_rfl) (by kernel_rfl) (hr 1 24 v1 rfl rfl)
    exact law_calls (f16.ok 1000) (vs := [.agg [.ints .u64 4 (num a0)], .agg [.ints .u64 4 (num a1)]]) (x := (num a0, num a1)) (f16.holds a0 a1 h0 h1) (fun _ => by kernel_rfl) rfl W

theorem dividesBetween_c0 : (Rows.dividesBetweenRow.wf (OpenSpec.ofChange Rows.dividesBetweenSpec)) = true := by kernel_rfl
theorem dividesBetween_c3 : (Try.f16.params.all (Try.prog.readableRec ·)) = true := by kernel_rfl
theorem dividesBetween_c4 : (namedTie Try.prog Rows.dividesBetweenRow.named Rows.dividesBetweenSpec.vars) = true := by kernel_rfl
theorem dividesBetween_c5 : (Rows.dividesBetweenRow.stops == []) = true := by kernel_rfl
theorem dividesBetween_c6 : (Try.prog.stops == []) = true := by kernel_rfl
theorem dividesBetween_c7 : (Rows.dividesBetweenRow.knobs == []) = true := by kernel_rfl
theorem dividesBetween_c8 : (Try.prog.stopKnobs == []) = true := by kernel_rfl
theorem dividesBetween_c9 : (Rows.dividesBetweenRow.inPlace == Try.prog.inPlace 16) = true := by kernel_rfl
theorem dividesBetween_c10 : (Rows.dividesBetweenRow.unfollowed == Try.prog.unfollowed 16) = true := by kernel_rfl
theorem dividesBetween_c11 : (Rows.dividesBetweenRow.recurses == Try.prog.recurses 16) = true := by kernel_rfl
theorem dividesBetween_c12 : (Rows.dividesBetweenRow.named == Try.prog.varsNamed 16) = true := by kernel_rfl
theorem dividesBetween_c13 : (Rows.dividesBetweenRow.maps == (Try.f16.params.toList ++ Rows.dividesBetweenSpec.plain.varTypes Try.prog).any (Try.prog.mapsRec ·)) = true := by kernel_rfl
theorem dividesBetween_c14 : (Rows.dividesBetweenRow.ifaces == (Try.f16.params.toList ++ Rows.dividesBetweenSpec.plain.varTypes Try.prog).any (Try.prog.ifacesRec ·)) = true := by kernel_rfl
theorem dividesBetween_c15 : (Rows.dividesBetweenRow.mapsOut == Try.prog.mapsAmong Try.f16.resultTypes.toList) = true := by kernel_rfl
theorem dividesBetween_c16 : (Rows.dividesBetweenRow.loops == (Try.f16.params.toList ++ Rows.dividesBetweenSpec.plain.varTypes Try.prog).any (Try.prog.loopsFrom ·)) = true := by kernel_rfl
theorem dividesBetween_c17 : (Rows.dividesBetweenRow.wideKeys == (Try.f16.params.toList ++ Rows.dividesBetweenSpec.plain.varTypes Try.prog ++ Try.f16.resultTypes.toList).any (Try.prog.wideKeysFrom ·)) = true := by kernel_rfl
theorem dividesBetween_c18 : (Rows.dividesBetweenSpec.vars.all (Try.prog.varReadable ·)) = true := by kernel_rfl
theorem dividesBetween_c19 : (Try.f16.resultTypes.all (fun t => Try.prog.readableRec t && decide (t < Try.prog.types.size))) = true := by kernel_rfl
theorem dividesBetween_c20 : (Rows.dividesBetweenRow.ifacesOut == Try.f16.resultTypes.toList.any (Try.prog.ifacesRec ·)) = true := by kernel_rfl
theorem dividesBetween_c21 : (Rows.dividesBetweenRow.loopsOut == Try.f16.resultTypes.toList.any (Try.prog.loopsFrom ·)) = true := by kernel_rfl
theorem dividesBetween_c22 : (Rows.dividesBetweenRow.plainKeys == Try.prog.plainKeys) = true := beq_of plainKeys_ok
theorem dividesBetween_c23 : (Rows.dividesBetweenRow.shortTexts.isNone) = true := by kernel_rfl
theorem dividesBetween_c26 : (Rows.dividesBetweenRow.lifted == Try.prog.liftsFinal) = true := beq_of liftsFinal_ok
theorem dividesBetween_c27 : (Try.prog.make == some Rows.dividesBetweenRow.make) = true := by rw [make_ok]; show _ = _; kernel_rfl
theorem dividesBetween_c28 : (Rows.dividesBetweenRow.kinds == (if Rows.dividesBetweenRow.domain.isEmpty then [] else Try.f16.params.toList.map fun t => match Try.prog.underlying t with | some (.int k) => some k | _ => none)) = true := by kernel_rfl
theorem dividesBetween_c29 : (Rows.dividesBetweenRow.pinned == Rows.dividesBetweenRow.pinnedBy) = true := by kernel_rfl
theorem dividesBetween_c30 : (Rows.dividesBetweenRow.veiled == (Try.f16.params.toList ++ Rows.dividesBetweenSpec.plain.varTypes Try.prog ++ Try.f16.resultTypes.toList).any (Try.prog.veiledRec ·)) = true := by kernel_rfl
theorem dividesBetween_c31 : (Rows.dividesBetweenRow.veiledFits Try.prog Try.f16.params.toList (Try.f16.params.toList ++ Rows.dividesBetweenSpec.plain.varTypes Try.prog ++ Try.f16.resultTypes.toList)) = true := by kernel_rfl
set_option maxRecDepth 1000000 in
theorem dividesBetween_closed : joinedFacts Try.prog 16 Try.f16 Rows.dividesBetweenSpec Rows.dividesBetweenRow = true := (and2 (and2 (and2 (and2 (and2 (and2 (and2 (and2 (and2 (and2 (and2 (and2 (and2 (and2 (and2 (and2 (and2 (and2 (and2 (and2 (and2 (and2 (and2 (and2 (and2 (and2 (and2 (and2 (and2 (and2 (and2 dividesBetween_c0 laidOut_ok) mapsRowed_ok) dividesBetween_c3) dividesBetween_c4) dividesBetween_c5) dividesBetween_c6) dividesBetween_c7) dividesBetween_c8) dividesBetween_c9) dividesBetween_c10) dividesBetween_c11) dividesBetween_c12) dividesBetween_c13) dividesBetween_c14) dividesBetween_c15) dividesBetween_c16) dividesBetween_c17) dividesBetween_c18) dividesBetween_c19) dividesBetween_c20) dividesBetween_c21) dividesBetween_c22) dividesBetween_c23) stopsHeard_ok) mayEnter_ok) dividesBetween_c26) dividesBetween_c27) dividesBetween_c28) dividesBetween_c29) dividesBetween_c30) dividesBetween_c31)

theorem dividesBetween_holds : Rows.DividesBetweenSaid :=
  OpenClaim.holds_of_wide 16 Try.f16 rfl rfl rfl rfl rfl rfl rfl ⟨rfl, rfl, rfl, rfl, rfl⟩ rfl rfl rfl rfl rfl (by kernel_rfl) Try.func16 dividesBetween_closed
    (of_decide_eq_true (by kernel_rfl)) (by unfold Func.isWrapper; first | (rw [if_pos (by decide +kernel)]; kernel_rfl) | (rw [if_neg (by decide +kernel)]; exact ⟨rfl, rfl⟩))
    (fun os started H enc _ => dividesBetween_lifted os started H enc)

end Go.Proofs.Ytjkelipglcnpmaa
