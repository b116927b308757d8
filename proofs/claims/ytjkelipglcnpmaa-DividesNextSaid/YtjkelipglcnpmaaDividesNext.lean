/- DividesNext: the row, proved: the frame is law_lifted (Fr), the walk is f11.ok, the plain law is f11.holds. -/
import Derived.Test.YtjkelipglcnpmaaFr
import Derived.Test.YtjkelipglcnpmaaPd
import Derived.Test.YtjkelipglcnpmaaRows
namespace Go.Proofs.Ytjkelipglcnpmaa
open Go.VM

set_option maxRecDepth 100000 in
theorem dividesNext_lifted (os : Os) (started : os.Started) (H : Type) (enc : TypeId × Value → H) :
    ReturnsInHanded {} Try.checked os 11 .any (Rows.dividesNextSpec.pre6 enc Try.prog Try.f11 Rows.dividesNextRow.domain false) (Rows.dividesNextSpec.post enc Try.prog Try.f11 false true false false) := by
  refine law_lifted (C := Try.checked) (n := 8) (by kernel_rfl) started (by kernel_rfl) Try.func11
    (ChangeSpec.witness6 (enc := enc) (C := Try.checked) false ⟨#[], #[.agg #[.int .u64 0, .int .u64 0, .int .u64 0, .int .u64 0], .agg #[.int .u64 0, .int .u64 0, .int .u64 0, .int .u64 0]], []⟩ 8 (by kernel_rfl) (by kernel_rfl) (by kernel_rfl) (by kernel_rfl)) ?_ rfl (tb := 4) rfl Try.underlying4 ?_ ?_
  · have h : (Try.f11.params.toList.all fun t => flat Try.prog 8 t) = true := by kernel_rfl
    exact List.all_eq_true.1 h
  · intro ds hds
    obtain ⟨d0, d1, rfl⟩ := list2 (l := ds) hds
    rfl
  · intro W args hsz hr
    obtain ⟨v0, v1, rfl⟩ := args2 (args := args) hsz
    obtain ⟨a0, h0, rfl⟩ := reads_num Try.underlying24 Try.underlying22 (by kernel_rfl) (by kernel_rfl) (hr 0 24 v0 rfl rfl)
    obtain ⟨a1, h1, rfl⟩ := reads_num Try.underlying24 Try.underlying22 (by kernel_rfl) (by kernel_rfl) (hr 1 24 v1 rfl rfl)
    exact law_calls (f11.ok 1000) (vs := [.agg [.ints .u64 4 (num a0)], .agg [.ints .u64 4 (num a1)]]) (x := (num a0, num a1)) (f11.holds a0 a1 h0 h1) (fun _ => by kernel_rfl) rfl W

theorem dividesNext_c0 : (Rows.dividesNextRow.wf (OpenSpec.ofChange Rows.dividesNextSpec)) = true := by kernel_rfl
theorem dividesNext_c3 : (Try.f11.params.all (Try.prog.readableRec ·)) = true := by kernel_rfl
theorem dividesNext_c4 : (namedTie Try.prog Rows.dividesNextRow.named Rows.dividesNextSpec.vars) = true := by kernel_rfl
theorem dividesNext_c5 : (Rows.dividesNextRow.stops == []) = true := by kernel_rfl
theorem dividesNext_c6 : (Try.prog.stops == []) = true := by kernel_rfl
theorem dividesNext_c7 : (Rows.dividesNextRow.knobs == []) = true := by kernel_rfl
theorem dividesNext_c8 : (Try.prog.stopKnobs == []) = true := by kernel_rfl
theorem dividesNext_c9 : (Rows.dividesNextRow.inPlace == Try.prog.inPlace 11) = true := by kernel_rfl
theorem dividesNext_c10 : (Rows.dividesNextRow.unfollowed == Try.prog.unfollowed 11) = true := by kernel_rfl
theorem dividesNext_c11 : (Rows.dividesNextRow.recurses == Try.prog.recurses 11) = true := by kernel_rfl
theorem dividesNext_c12 : (Rows.dividesNextRow.named == Try.prog.varsNamed 11) = true := by kernel_rfl
theorem dividesNext_c13 : (Rows.dividesNextRow.maps == (Try.f11.params.toList ++ Rows.dividesNextSpec.plain.varTypes Try.prog).any (Try.prog.mapsRec ·)) = true := by kernel_rfl
theorem dividesNext_c14 : (Rows.dividesNextRow.ifaces == (Try.f11.params.toList ++ Rows.dividesNextSpec.plain.varTypes Try.prog).any (Try.prog.ifacesRec ·)) = true := by kernel_rfl
theorem dividesNext_c15 : (Rows.dividesNextRow.mapsOut == Try.prog.mapsAmong Try.f11.resultTypes.toList) = true := by kernel_rfl
theorem dividesNext_c16 : (Rows.dividesNextRow.loops == (Try.f11.params.toList ++ Rows.dividesNextSpec.plain.varTypes Try.prog).any (Try.prog.loopsFrom ·)) = true := by kernel_rfl
theorem dividesNext_c17 : (Rows.dividesNextRow.wideKeys == (Try.f11.params.toList ++ Rows.dividesNextSpec.plain.varTypes Try.prog ++ Try.f11.resultTypes.toList).any (Try.prog.wideKeysFrom ·)) = true := by kernel_rfl
theorem dividesNext_c18 : (Rows.dividesNextSpec.vars.all (Try.prog.varReadable ·)) = true := by kernel_rfl
theorem dividesNext_c19 : (Try.f11.resultTypes.all (fun t => Try.prog.readableRec t && decide (t < Try.prog.types.size))) = true := by kernel_rfl
theorem dividesNext_c20 : (Rows.dividesNextRow.ifacesOut == Try.f11.resultTypes.toList.any (Try.prog.ifacesRec ·)) = true := by kernel_rfl
theorem dividesNext_c21 : (Rows.dividesNextRow.loopsOut == Try.f11.resultTypes.toList.any (Try.prog.loopsFrom ·)) = true := by kernel_rfl
theorem dividesNext_c22 : (Rows.dividesNextRow.plainKeys == Try.prog.plainKeys) = true := beq_of plainKeys_ok
theorem dividesNext_c23 : (Rows.dividesNextRow.shortTexts.isNone) = true := by kernel_rfl
theorem dividesNext_c26 : (Rows.dividesNextRow.lifted == Try.prog.liftsFinal) = true := beq_of liftsFinal_ok
theorem dividesNext_c27 : (Try.prog.make == some Rows.dividesNextRow.make) = true := by rw [make_ok]; show _ = _; kernel_rfl
theorem dividesNext_c28 : (Rows.dividesNextRow.kinds == (if Rows.dividesNextRow.domain.isEmpty then [] else Try.f11.params.toList.map fun t => match Try.prog.underlying t with | some (.int k) => some k | _ => none)) = true := by kernel_rfl
theorem dividesNext_c29 : (Rows.dividesNextRow.pinned == Rows.dividesNextRow.pinnedBy) = true := by kernel_rfl
theorem dividesNext_c30 : (Rows.dividesNextRow.veiled == (Try.f11.params.toList ++ Rows.dividesNextSpec.plain.varTypes Try.prog ++ Try.f11.resultTypes.toList).any (Try.prog.veiledRec ·)) = true := by kernel_rfl
theorem dividesNext_c31 : (Rows.dividesNextRow.veiledFits Try.prog Try.f11.params.toList (Try.f11.params.toList ++ Rows.dividesNextSpec.plain.varTypes Try.prog ++ Try.f11.resultTypes.toList)) = true := by kernel_rfl
set_option maxRecDepth 1000000 in
theorem dividesNext_closed : joinedFacts Try.prog 11 Try.f11 Rows.dividesNextSpec Rows.dividesNextRow = true := (and2 (and2 (and2 (and2 (and2 (and2 (and2 (and2 (and2 (and2 (and2 (and2 (and2 (and2 (and2 (and2 (and2 (and2 (and2 (and2 (and2 (and2 (and2 (and2 (and2 (and2 (and2 (and2 (and2 (and2 (and2 dividesNext_c0 laidOut_ok) mapsRowed_ok) dividesNext_c3) dividesNext_c4) dividesNext_c5) dividesNext_c6) dividesNext_c7) dividesNext_c8) dividesNext_c9) dividesNext_c10) dividesNext_c11) dividesNext_c12) dividesNext_c13) dividesNext_c14) dividesNext_c15) dividesNext_c16) dividesNext_c17) dividesNext_c18) dividesNext_c19) dividesNext_c20) dividesNext_c21) dividesNext_c22) dividesNext_c23) stopsHeard_ok) mayEnter_ok) dividesNext_c26) dividesNext_c27) dividesNext_c28) dividesNext_c29) dividesNext_c30) dividesNext_c31)

theorem dividesNext_holds : Rows.DividesNextSaid :=
  OpenClaim.holds_of_wide 11 Try.f11 rfl rfl rfl rfl rfl rfl rfl ⟨rfl, rfl, rfl, rfl, rfl⟩ rfl rfl rfl rfl rfl (by kernel_rfl) Try.func11 dividesNext_closed
    (of_decide_eq_true (by kernel_rfl)) (by unfold Func.isWrapper; first | (rw [if_pos (by decide +kernel)]; kernel_rfl) | (rw [if_neg (by decide +kernel)]; exact ⟨rfl, rfl⟩))
    (fun os started H enc _ => dividesNext_lifted os started H enc)

end Go.Proofs.Ytjkelipglcnpmaa
